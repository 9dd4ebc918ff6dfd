/- Texts of the proof, packed: part 4. -/
import Derived.Test.YtokiohnjegbnpaaGreatP2
import Derived.IntWalk
set_option linter.unusedVariables false
set_option linter.unusedSimpArgs false
namespace Go.Proofs.YtokiohnjegbnpaaGreat.Core
open Go IntKind
set_option maxRecDepth 100000
noncomputable section
def xT:List (Nat×BM):=[(4,Bo),(9,UT),(10,JJ),(11,Az),(12,BH),(13,FO),(14,Cr),(15,CA),(16,CB),(17,Ot),(32,Do),(33,Dh),(34,DK),(35,GF),(36,Gl),(37,Mz),(38,BF),(39,DL),(40,GG),(41,Ou),(42,Dp),(43,M0),(44,Kq),(45,CI),(46,Dq),(47,Fa),(48,M1),(49,Ov),(51,Fb),(56,Ow),(57,DP),(59,Fc),(61,Kr),(62,JK),(63,Bp),(64,BJ),(65,Br),(66,Cs),(67,Em),(68,IK),(69,Gm),(70,CJ),(71,F8),(72,Q6),(73,Fd),(75,HN),(76,Kt),(77,Dr),(78,CC),(79,En),(80,JL),(81,DM),(82,CR),(83,Q8),(84,M2),(85,CK),(86,Ku),(87,Ox),(89,GH),(90,CE),(95,Ba),(96,HO),(97,Kv),(98,Kw),(100,Di),(101,Fe),(102,AX),(103,FA),(105,Ds),(106,Bi),(107,Ci),(108,Bb),(109,EO),(110,B4),(113,CS),(114,EY),(115,Bx),(116,FB),(117,DX),(118,Bg),(119,HQ),(120,EP),(121,FP),(122,EZ),(123,Av),(124,Cv),(125,IL),(126,Ea),(127,EQ),(128,CM),(129,K5),(130,JM),(131,DY),(132,BR),(133,K6),(134,DI),(135,Cw),(137,AY),(138,JN),(139,Dt),(140,Eb),(141,Du),(142,IM),(143,Ca),(148,AT),(154,K8),(158,Cb),(159,AI),(160,IN),(169,JO)]
def fns (f:Nat):Option BM:=vQ f xT
theorem xm:tc Tryz.prog fns:=sY (.cons iI <| .cons qq <| .cons iJ <| .cons iK <| .cons iL <| .cons iM <| .cons eU <| .cons mt <| .cons mw <| .cons oW <| .cons km <| .cons mx <| .cons iN <| .cons ko <| .cons Zq <| .cons my <| .cons eV <| .cons iO <| .cons kq <| .cons oX <| .cons ku <| .cons mz <| .cons ky <| .cons Zr <| .cons kz <| .cons XI <| .cons m3 <| .cons oY <| .cons XJ <| .cons oZ <| .cons QQ <| .cons ob <| .cons k_ <| .cons iP <| .cons iQ <| .cons lA <| .cons lB <| .cons eW <| .cons eX <| .cons oc <| .cons Zs <| .cons Zt <| .cons Yn <| .cons pz <| .cons XN <| .cons bd <| .cons lC <| .cons lD <| .cons Yo <| .cons eY <| .cons iR <| .cons iS <| .cons eZ <| .cons p8 <| .cons m4 <| .cons Zu <| .cons lE <| .cons oe <| .cons lF <| .cons be <| .cons UU <| .cons bf <| .cons lH <| .cons lI <| .cons og <| .cons oh <| .cons Gn <| .cons WY <| .cons lJ <| .cons ol <| .cons om <| .cons lK <| .cons oo <| .cons Zv <| .cons UV <| .cons m5 <| .cons XW <| .cons WZ <| .cons Zw <| .cons Wa <| .cons bg <| .cons UW <| .cons iT <| .cons m6 <| .cons lL <| .cons ed <| .cons ee <| .cons m7 <| .cons oq <| .cons m8 <| .cons lM <| .cons iU <| .cons Zx <| .cons Wb <| .cons lN <| .cons Yp <| .cons Xa <| .cons Oy <| .cons iV <| .cons lO <| .cons m9 <| .cons lP <| .cons en <| .cons bh <| .cons KR <| .cons lQ <| .cons bl <| .cons ER <| .cons eo <| .cons iW .nil)
def prims:F3:=fun f args bs=>if f=74 then lR 47 AN args bs else if f=88 then t_ 97 AD args bs else if f=99 then lR 3 (.int .i64) args bs else if f=104 then lR 38 AC args bs else if f=144 then qC 3 145 args bs else if f=161 then wa args bs else if f=162 then tx 38 AC args bs else none
theorem vg:Io Tryz.prog prims:=fun f args bs rs h=>by
 unfold prims at h
 split at h
 ·rename_i e; subst e; exact lU vW xQ h
 split at h
 ·rename_i e; subst e; exact vV vX xR h
 split at h
 ·rename_i e; subst e; exact lU vY xS h
 split at h
 ·rename_i e; subst e; exact lU uA wr h
 split at h
 ·rename_i e; subst e; exact t8 uB Tryz.zeroValue3 uC h
 split at h
 ·rename_i e; subst e; exact vT uD h
 split at h
 ·rename_i e; subst e; exact vS uE wu h
 cases h
abbrev cP:F3:=oO fns prims
def cG {ρ:Type} (c:AG) (kn kr:St->Option ρ) (ke:Nat->St->Option ρ):St->Option ρ:=GD cP KA c kn kr ke
def lG {ρ:Type} (c:AG) (hs:List (Nat×Nat)) (l:List Nat) (n:Nat) (kr:St->Option ρ) (ke:Nat->St->Option ρ):St->Option ρ:=KA fun go s'=>GD cP KA c (fun s''=>go (s''.cutH hs l n)) kr ke s'
def kJ {ρ:Type} (c:AG) (hs:List (Nat×Nat)) (l:List Nat) (n:Nat) (kn kr:St->Option ρ) (ke:Nat->St->Option ρ):St->Option ρ:=fun s=>cG c kn kr ke (s.cutH hs l n)
def kB {ρ:Type} (hs:List (Nat×Nat)) (l:List Nat) (n:Nat) (kn:St->Option ρ):St->Option ρ:=fun s=>kn (s.cutH hs l n)
def kE {ρ:Type} (b:Nat) (hs:List (Nat×Nat)) (l:List Nat) (n:Nat) (kn:St->Option ρ) (ke:Nat->St->Option ρ):Nat->St->Option ρ:=fun i s=>if i=b then kn (s.cutH hs l n) else ke i s
def kx {ρ:Type}:Nat->St->Option ρ:=fun _ _=>none
def cF (f:Nat) (a:BM) (x b:List AV):Option (RT a.outs):=(cP f x b).bind (CW a.outs)
theorem cT (a:BM) {f:Nat} {x b:List AV} {t:Option (RT a.outs)} {r:RT a.outs} (hf:fns f=some a) (hl:x.length=a.params.length/\b.length=(Dl a.params 0).length) (e:tr cP a x b=t) (h:t=some r):cF f a x b=some r:=qm hf hl (e.trans h)
theorem jS {ρ:Type} {t w:Option ρ} {r:ρ} (e:w=t) (h:t=some r):w=some r:=e.trans h
theorem lS {ρ:Type} {c:AG} {hs:List (Nat×Nat)} {l:List Nat} {n:Nat} {kr:St->Option ρ} {ke:Nat->St->Option ρ} {s:St} {t:Option ρ} {r:ρ} (e:GD cP KA c (fun s=>lG c hs l n kr ke (s.cutH hs l n)) kr ke s=t) (h:t=some r):lG c hs l n kr ke s=some r:=sW (e.trans h)
def Vk (x0:List Int):Option Bool:=cF 4 Bo [.lst (.int .u8) x0] []
def Zy (x0:List Int):Option Bool:=cF 9 UT [.lst (.int .u8) x0] []
def Nm (x0:List Int):Option (List (List Int)×List AP):=cF 10 JJ [.lst (.int .u8) x0] []
def Nn (x0:List (List Int)) (x1:List AP):Option (AB×List Int×Bool):=cF 11 Az [.lst (.slice (.int .i64)) x0,.lst AW x1] []
def No (x0:List (List Int)) (x1:List AP):Option (AB×List Int×Bool):=cF 12 BH [.lst (.slice (.int .i64)) x0,.lst AW x1] []
def FQ (x0:O):Option Bool:=cF 13 FO [.agg (U.enc x0)] []
def MU (x0 x1:List AH):Option Bool:=cF 14 Cr [.lst AN x0,.lst AN x1] []
def M3 (x0:List AH):Option Bool:=cF 15 CA [.lst AN x0] []
def R5 (x0:List AH):Option Bool:=cF 16 CB [.lst AN x0] []
def Gp (x0:AH):Option Int:=cF 17 Ot [.agg (AN.enc x0)] []
def Ph (x1:List Int) (b0:AO):Option (UR×AO):=cF 32 Do [.ptr 0 0,.lst (.int .u8) x1] [.agg (BA.enc b0)]
def R6 (x0:List Int):Option AO:=cF 33 Dh [.lst (.int .u8) x0] []
def Np (x0:List (List Int)):Option (AB×Bool):=cF 34 DK [.lst (.slice (.int .i64)) x0] []
def Pi (x0:AP):Option Bool:=cF 35 GF [.agg (AW.enc x0)] []
def Gq (x1:AP) (x2:Int) (b0:AB):Option (Bool×AB):=cF 36 Gl [.ptr 0 0,.agg (AW.enc x1),.int .i64 x2] [.agg (AZ.enc b0)]
def R7 (x0:Bool):Option Int:=cF 37 Mz [.bool x0] []
def IQ (x0:AB):Option AB:=cF 38 BF [.agg (Ac.enc x0)] []
def JP (x0:List (List Int)):Option (AB×Bool):=cF 39 DL [.lst (.slice (.int .i64)) x0] []
def Pj (x0:AP):Option Bool:=cF 40 GG [.agg (AW.enc x0)] []
def O0 (x1:Int) (x2:AP) (b0:AB):Option (Int×AB):=cF 41 Ou [.ptr 0 0,.int .i64 x1,.agg (AW.enc x2)] [.agg (Ac.enc b0)]
def Pk (x0:AB):Option AB:=cF 42 Dp [.agg (Ac.enc x0)] []
def Eg (x0:Int):Option Bool:=cF 43 M0 [.int .i64 x0] []
def Af (x0 x1 x2:Int):Option Bool:=cF 44 Kq [.int .i64 x0,.int .i64 x1,.int .i64 x2] []
def Gr (x0:List Int) (x1 x2:Int):Option Bool:=cF 45 CI [.lst (.int .i64) x0,.int .i64 x1,.int .i64 x2] []
def Ex (x0:List Y):Option Bool:=cF 46 Dq [.lst AC x0] []
def Cx (b0:O):Option (Bool×O):=cF 47 Fa [.ptr 0 0] [.agg (U.enc b0)]
def M4 (x0:AH):Option Bool:=cF 48 M1 [.agg (AN.enc x0)] []
def IR (x0:AH):Option Int:=cF 49 Ov [.agg (AN.enc x0)] []
def Hq (x1 x2:Int) (b0:AB):Option AB:=cF 51 Fb [.ptr 0 0,.int .i64 x1,.int .i64 x2] [.agg (AZ.enc b0)]
def AS (x0 x1 x2:Int):Option Bool:=cF 56 Ow [.int .i64 x0,.int .i64 x1,.int .i64 x2] []
def CU (x0:List Int) (x1:Int):Option Bool:=cF 57 DP [.lst (.int .i64) x0,.int .i64 x1] []
def Dj (x0:List Int) (x1:Int):Option Bool:=cF 59 Fc [.lst (.int .i64) x0,.int .i64 x1] []
def Ey (b0:AO):Option (Int×AO):=cF 61 Kr [.ptr 0 0] [.agg (BA.enc b0)]
def CN (x1:Int) (b0:AO):Option (Int×AO):=cF 62 JK [.ptr 0 0,.int .i64 x1] [.agg (BA.enc b0)]
def Nq (b0:AO):Option (List (List Int)×AO):=cF 63 Bp [.ptr 0 0] [.agg (BA.enc b0)]
def Pl (b0:AO) (b1:AB):Option (AP×AO×AB):=cF 64 BJ [.ptr 0 0,.ptr 1 0] [.agg (BA.enc b0),.agg (Ac.enc b1)]
def Dv (x0:List (List Int)):Option Bool:=cF 65 Br [.lst (.slice (.int .i64)) x0] []
def IS (x0:List (List Int)):Option (List (List Int)):=cF 66 Cs [.lst (.slice (.int .i64)) x0] []
def MV (x0:Int) (x1:List (List Int)):Option (O×Bool):=cF 67 Em [.int .i64 x0,.lst (.slice (.int .i64)) x1] []
def K9 (x0 x1:Int) (x2 x3:ByteArray):Option Bool:=cF 68 IK [.int .i64 x0,.int .i64 x1,.str x2,.str x3] []
def Jf (x1:AP) (x2:Int) (b0:AB):Option (Bool×AB):=cF 69 Gm [.ptr 0 0,.agg (AW.enc x1),.int .i64 x2] [.agg (AZ.enc b0)]
def Jg (x1:AP) (x2:Int) (b0:AB):Option (Bool×AB):=cF 70 CJ [.ptr 0 0,.agg (AW.enc x1),.int .i64 x2] [.agg (AZ.enc b0)]
def Bj (x1:Int) (b0:AB):Option (Int×AB):=cF 71 F8 [.ptr 0 0,.int .i64 x1] [.agg (AZ.enc b0)]
def RM (x0:O):Option O:=cF 72 Q6 [.agg (U.enc x0)] []
def Hr (x1:AP) (x2:Int) (b0:AB):Option (Bool×AB):=cF 73 Fd [.ptr 0 0,.agg (AW.enc x1),.int .i64 x2] [.agg (AZ.enc b0)]
def Cc (x0:O):Option O:=cF 75 HN [.agg (U.enc x0)] []
def GN (x0:Z):Option Z:=cF 76 Kt [.agg (AD.enc x0)] []
def Dw (x0:List (List Int)):Option Bool:=cF 77 Dr [.lst (.slice (.int .i64)) x0] []
def F9 (x0:List (List Int)):Option (List (List Int)):=cF 78 CC [.lst (.slice (.int .i64)) x0] []
def MW (x0:Int) (x1:List (List Int)):Option (O×Bool):=cF 79 En [.int .i64 x0,.lst (.slice (.int .i64)) x1] []
def Nr (x1:Int) (x2:AP) (b0:AB):Option (Int×AB):=cF 80 JL [.ptr 0 0,.int .i64 x1,.agg (AW.enc x2)] [.agg (Ac.enc b0)]
def Ns (x1 x2:Int) (b0:AB):Option (Int×AB):=cF 81 DM [.ptr 0 0,.int .i64 x1,.int .i64 x2] [.agg (Ac.enc b0)]
def Eo (x1:O) (x2:List Z) (x3:List AE) (x4:Int) (b0:AB):Option AB:=cF 82 CR [.ptr 0 0,.agg (U.enc x1),.lst AD x2,.lst Ar x3,.int .i64 x4] [.agg (Ac.enc b0)]
def Xb (x0:O):Option O:=cF 83 Q8 [.agg (U.enc x0)] []
def R8 (x1:Int) (x2:AP) (b0:AB):Option (Int×AB):=cF 84 M2 [.ptr 0 0,.int .i64 x1,.agg (AW.enc x2)] [.agg (Ac.enc b0)]
def Jh (x0:List Z):Option (List Z):=cF 85 CK [.lst AD x0] []
def C7 (x0:O):Option O:=cF 86 Ku [.agg (U.enc x0)] []
def O1 (x0:ByteArray):Option Bool:=cF 87 Ox [.str x0] []
def K_ (x0:O) (x1:List (List Int)) (x2:Z):Option (O×List Z×List AE):=cF 89 GH [.agg (U.enc x0),.lst (.slice (.int .i64)) x1,.agg (AD.enc x2)] []
def Ff (x1:List Z) (x2:List AE) (x3:Int) (b0:AB):Option AB:=cF 90 CE [.ptr 0 0,.lst AD x1,.lst Ar x2,.int .i64 x3] [.agg (AZ.enc b0)]
def C8 (x0:List Int) (x1:Int):Option Int:=cF 95 Ba [.lst (.int .i64) x0,.int .i64 x1] []
def HR (x1:List Int) (b0:AO):Option (Int×AO):=cF 96 HO [.ptr 0 0,.lst (.int .i64) x1] [.agg (BA.enc b0)]
def C9 (x1:Int) (b0:AO):Option (Bool×AO):=cF 97 Kv [.ptr 0 0,.int .i64 x1] [.agg (BA.enc b0)]
def LA (x1:List ByteArray) (b0:AO):Option (ByteArray×AO):=cF 98 Kw [.ptr 0 0,.lst .str x1] [.agg (BA.enc b0)]
def O2 (x0:O) (x1:List (List Int)) (x2 x3:Int) (x4 x5:ByteArray):Option (O×List Z×List AE×Bool):=cF 100 Di [.agg (U.enc x0),.lst (.slice (.int .i64)) x1,.int .i64 x2,.int .i64 x3,.str x4,.str x5] []
def O3 (x0:O) (x1:List (List Int)) (x2:Int):Option (O×List Z×Bool):=cF 101 Fe [.agg (U.enc x0),.lst (.slice (.int .i64)) x1,.int .i64 x2] []
def B5 (x0:List O) (x1:Int):Option Int:=cF 102 AX [.lst U x0,.clo 103 (.int .i64) x1] []
def HE (x0:O) (x1:Int):Option Bool:=cF 103 FA [.agg (U.enc x0),.fptr [.int .i64 x1] 0] []
def Pm (x0:List Int):Option Bool:=cF 105 Ds [.lst (.int .i64) x0] []
def UY (x0:O) (x1:List (List Int)) (x2 x3:Int) (x4 x5:ByteArray):Option (O×List Z×List AE×Bool):=cF 106 Bi [.agg (U.enc x0),.lst (.slice (.int .i64)) x1,.int .i64 x2,.int .i64 x3,.str x4,.str x5] []
def UZ (x0:O) (x1:List (List Int)) (x2:Int):Option (O×List Z×Bool):=cF 107 Ci [.agg (U.enc x0),.lst (.slice (.int .i64)) x1,.int .i64 x2] []
def Pn (x0:O) (x1:List (List Int)) (x2:Z):Option (O×List Z×List AE):=cF 108 Bb [.agg (U.enc x0),.lst (.slice (.int .i64)) x1,.agg (AD.enc x2)] []
def Ua (x0:Z):Option Bool:=cF 109 EO [.agg (AD.enc x0)] []
def Ji (x1:List (List Int)) (x2:Z) (b0:O):Option (List Z×List AE×O):=cF 110 B4 [.ptr 0 0,.lst (.slice (.int .i64)) x1,.agg (AD.enc x2)] [.agg (U.enc b0)]
def Gs (x1:List (List Int)) (b0:O):Option (Bool×O):=cF 113 CS [.ptr 0 0,.lst (.slice (.int .i64)) x1] [.agg (U.enc b0)]
def M5 (x0:List Y) (x1:ByteArray):Option Y:=cF 114 EY [.lst AC x0,.str x1] []
def By (x1:List Int) (b0:O):Option (List Int×O):=cF 115 Bx [.ptr 0 0,.lst (.int .i64) x1] [.agg (U.enc b0)]
def Ce (b0:List Int):Option (List Int):=cF 116 FB [.row 0] [.new 3 (.int .i64) b0]
def Gt (b0:O):Option (List AE×O):=cF 117 DX [.ptr 0 0] [.agg (U.enc b0)]
def Ah (x1:List Int) (x2:Z) (b0:O):Option (List Z×O):=cF 118 Bg [.ptr 0 0,.lst (.int .i64) x1,.agg (AD.enc x2)] [.agg (U.enc b0)]
def Fg (b0:O):Option O:=cF 119 HQ [.ptr 0 0] [.agg (U.enc b0)]
def C_ (x1:List Int) (x2:List Y) (b0:O):Option (List Z×O):=cF 120 EP [.ptr 0 0,.lst (.int .i64) x1,.lst AC x2] [.agg (U.enc b0)]
def FR (x0:O):Option Bool:=cF 121 FP [.agg (U.enc x0)] []
def M6 (x0:List Y) (x1:ByteArray):Option Y:=cF 122 EZ [.lst AC x0,.str x1] []
def Hs (x0:List Y) (x1:Y):Option (List Y):=cF 123 Av [.lst AC x0,.agg (AC.enc x1)] []
def GO (x0:List Int) (x1:Int):Option (List Int):=cF 124 Cv [.lst (.int .i64) x0,.int .i64 x1] []
def GP (b0:O):Option (List AE×O):=cF 125 IL [.ptr 0 0] [.agg (U.enc b0)]
def M7 (x1:List Int) (x2:List Y) (b0:O):Option (List Z×O):=cF 126 Ea [.ptr 0 0,.lst (.int .i64) x1,.lst AC x2] [.agg (U.enc b0)]
def Ub (x0:Z):Option Bool:=cF 127 EQ [.agg (AD.enc x0)] []
def R9 (x0:O) (x1:List Int) (x2:Z):Option (O×List Z×List AE):=cF 128 CM [.agg (U.enc x0),.lst (.int .i64) x1,.agg (AD.enc x2)] []
def LB (x0:O) (x1:Int):Option O:=cF 129 K5 [.agg (U.enc x0),.int .i64 x1] []
def D6 (x0:O) (x1:Z) (x2:Int):Option (List Z):=cF 130 JM [.agg (U.enc x0),.agg (AD.enc x1),.int .i64 x2] []
def Jj (x1:List (List Int)) (x2:Z) (b0:O):Option (List Z×O):=cF 131 DY [.ptr 0 0,.lst (.slice (.int .i64)) x1,.agg (AD.enc x2)] [.agg (U.enc b0)]
def HF (x1:List Int) (x2:Z) (b0:O):Option (List Z×O):=cF 132 BR [.ptr 0 0,.lst (.int .i64) x1,.agg (AD.enc x2)] [.agg (U.enc b0)]
def LC (x0:List Int) (x1:Int):Option (List Int):=cF 133 K6 [.lst (.int .i64) x0,.int .i64 x1] []
def Iq (x1:Z) (b0:O):Option (List Z×O):=cF 134 DI [.ptr 0 0,.agg (AD.enc x1)] [.agg (U.enc b0)]
def Fh (x1:Int) (x2:Z) (b0:O):Option (List AE×O):=cF 135 Cw [.ptr 0 0,.int .i64 x1,.agg (AD.enc x2)] [.agg (U.enc b0)]
def CF (x1 x2 x3:Int) (b0:List Int):Option (List Int):=cF 137 AY [.row 0,.int .i64 x1,.int .i64 x2,.int .i64 x3] [.new 3 (.int .i64) b0]
def Nt (x0:Int):Option Int:=cF 138 JN [.int .u64 x0] []
def LD (x0:List Y) (x1:Y):Option (List Y):=cF 139 Dt [.lst AC x0,.agg (AC.enc x1)] []
def C4 (x0:List Int):Option Bool:=cF 140 Eb [.lst (.int .i64) x0] []
def DA (x0:List Y):Option Bool:=cF 141 Du [.lst AC x0] []
def MX (x0:oP):Option Bool:=cF 142 IM [.agg (Kg.enc x0)] []
def HS (x0:List Int) (x1:Int):Option (List Int):=cF 143 Ca [.lst (.int .i64) x0,.int .i64 x1] []
def C2 (x1 x2:Int) (b0:List Int):Option (List Int):=cF 148 AT [.row 0,.int .i64 x1,.int .i64 x2] [.new 3 (.int .i64) b0]
def LE (x0 x1:Int):Option Bool:=cF 154 K8 [.int .i64 x0,.int .i64 x1] []
def LF (x0:Int):Option Int:=cF 158 Cb [.int .u64 x0] []
def BL (x0:List Y) (x1:ByteArray) (x2:Unit):Option (Int×Bool):=cF 159 AI [.lst AC x0,.str x1,.fn 160 []] []
def IU (x0:Y) (x1:ByteArray):Option Int:=cF 160 IN [.agg (AC.enc x0),.str x1] []
def JQ (x0:Int):Option Bool:=cF 169 JO [.int .i64 x0] []
def Co (q0:List AH):Option (List AH):=(cP 74 [.lst AN q0] []).bind (CW [(.own 47 AN)])
def BV (q0:List Z) (q1 q2:Int):Option (List Z):=(cP 88 [.new 97 AD q0,.int .i64 q1,.int .i64 q2] []).bind (CW [(.own 97 AD)])
def Bc (q0:List Int):Option (List Int):=(cP 99 [.lst (.int .i64) q0] []).bind (CW [(.own 3 (.int .i64))])
def Ag (q0:List Y):Option (List Y):=(cP 104 [.lst AC q0] []).bind (CW [(.own 38 AC)])
def ES (q0:List Int) (q1:Int):Option (List Int):=(cP 144 [.new 3 (.int .i64) q0,.clo 145 (.int .i64) q1] []).bind (CW [(.own 3 (.int .i64))])
def Nu (q0 q1:Int) (q2:List Int):Option (List Int):=(cP 149 [.row 0,.int .i64 q0,.int .i64 q1] [.new 3 (.int .i64) q2]).bind (CW [(.own 3 (.int .i64))])
def KS (q0 q1:Int) (q2:List Int):Option (List Int):=(cP 150 [.row 0,.int .i64 q0,.int .i64 q1] [.new 3 (.int .i64) q2]).bind (CW [(.own 3 (.int .i64))])
def Lw (q0 q1:Int) (q2:List Int):Option (Int×Int×List Int):=(cP 151 [.row 0,.int .i64 q0,.int .i64 q1] [.new 3 (.int .i64) q2]).bind (CW [(.int .i64),(.int .i64),(.own 3 (.int .i64))])
def LG (q0 q1:Int) (q2:List Int):Option (List Int):=(cP 152 [.row 0,.int .i64 q0,.int .i64 q1] [.new 3 (.int .i64) q2]).bind (CW [(.own 3 (.int .i64))])
def HG (q0 q1:Int) (q2:List Int):Option (Bool×List Int):=(cP 153 [.row 0,.int .i64 q0,.int .i64 q1] [.new 3 (.int .i64) q2]).bind (CW [.bool,(.own 3 (.int .i64))])
def Jk (q0 q1 q2:Int) (q3:List Int):Option (Int×List Int):=(cP 155 [.row 0,.int .i64 q0,.int .i64 q1,.int .i64 q2] [.new 3 (.int .i64) q3]).bind (CW [(.int .i64),(.own 3 (.int .i64))])
def NO (q0 q1 q2:Int) (q3:List Int):Option (Int×Bool×List Int):=(cP 156 [.row 0,.int .i64 q0,.int .i64 q1,.int .i64 q2] [.new 3 (.int .i64) q3]).bind (CW [(.int .i64),.bool,(.own 3 (.int .i64))])
def Cf (q0:List Y) (q1:Int) (q2:List Y):Option (List Y):=(cP 162 [.new 38 AC q0,.int .i64 q1,.new 38 AC q2] []).bind (CW [(.own 38 AC)])
def LH (q0 q1:ByteArray):Option Int:=(cP 161 [.str q0,.str q1] []).bind (CW [(.int .i64)])
theorem Jl {x0:List AH} (h:x0.length<=68719476736):Co x0=some x0:=by
 unfold Co cP
 rw [MQ (r:=[.new 47 AN x0]) rfl (lT (t:=47) (K:=AN) (xs:=x0) h)]
 rfl
theorem FJ {x0:List Z} {i j:Nat} (hi:i<=j) (hj:j<=x0.length):BV x0 (i:Int) (j:Int)=some (x0.take i++x0.drop j):=by
 unfold BV cP
 rw [MQ (r:=[.new 97 AD (x0.take i++x0.drop j)]) rfl (vU (t:=97) (K:=AD) (xs:=x0) hi hj)]
 rfl
theorem CT {x0:List Int} (h:x0.length<=68719476736):Bc x0=some x0:=by
 unfold Bc cP
 rw [MQ (r:=[.new 3 (.int .i64) x0]) rfl (lT (t:=3) (K:=(.int .i64)) (xs:=x0) h)]
 rfl
theorem Ay {x0:List Y} (h:x0.length<=68719476736):Ag x0=some x0:=by
 unfold Ag cP
 rw [MQ (r:=[.new 38 AC x0]) rfl (lT (t:=38) (K:=AC) (xs:=x0) h)]
 rfl
theorem O4 {x0:List Int} {x1:Int}:ES x0 x1=some (x0.filter fun x=>!(x==x1)):=by
 unfold ES cP
 rw [MQ (fns:=fns) (prims:=prims) (f:=144) (args:=[.new 3 (.int .i64) x0,.clo 145 (.int .i64) x1]) (bs:=[]) (r:=[.new 3 (.int .i64) (x0.filter fun x=>!(x==x1))]) rfl (tz (t:=3) (g:=145) (xs:=x0) (n:=x1))]
 rfl
theorem bp {x0 x1:ByteArray}:LH x0 x1=some (Go.Lib.compareBytes x0.data.toList x1.data.toList):=by
 unfold LH cP
 rw [MQ (r:=[.int .i64 (Go.Lib.compareBytes x0.data.toList x1.data.toList)]) rfl rfl]
 rfl
theorem I7 {x0:List Y} {i:Nat} {x2:List Y} (h:x0.length+x2.length<=68719476736) (hi:i<=x0.length) (hv:x2.length≠0):Cf x0 (i:Int) x2=some (x0.take i++x2++x0.drop i):=by
 unfold Cf cP
 rw [MQ (r:=[.new 38 AC (x0.take i++x2++x0.drop i)]) rfl (vR (t:=38) (K:=AC) (xs:=x0) (vs:=x2) (i:=i) h hi hv)]
 rfl

def br:=cG Jc (AF Bo) (AF Bo) kx
def bt:=kE 0 [] [] 2 br kx
def Zz:St->Option (RT (BM.outs Bo)):=lG Qg [] [5,11] 2 (AF Bo) bt
def Po (x0 x1:AB):Option Bool:=cG Jc (AF Bo) (AF Bo) kx ⟨[],[.var (Ac.enc x0),.var (Ac.enc x1)]⟩
def Ez (x0:Int) (x1 x2:AB):Option Bool:=Zz ⟨[(5,.ptr 0 0),(11,.int .i64 x0)],[.var (Ac.enc x1),.var (Ac.enc x2)]⟩
def Pp (x0:Bool) (x1 x2:AB):Option Bool:=cG PO (AF Bo) (AF Bo) kx ⟨[(5,.ptr 0 0),(57,.bool x0)],[.var (Ac.enc x1),.var (Ac.enc x2)]⟩
def Pq (x0 x1:AB):Option Bool:=((M3 ([(0,ByteArray.empty,ByteArray.empty,0,2,0,1,2,ByteArray.empty),(0,ByteArray.empty,ByteArray.empty,3,4,0,1,1,ByteArray.empty)]:List AH)).bind fun y9=>(some (!y9)))
def Jm (x0:Int) (x1 x2:AB):Option Bool:=(if (decide (x0<(x1.2.2.2.length:Int)))=true then (if 0<=x0 then (if x0<(x1.2.2.2.length:Int) then (if (decide (((((((x1.2.2.2.getD x0.toNat (0,ByteArray.empty,ByteArray.empty,0,0,0,0,0,ByteArray.empty)).2).2).2).2).1)>=0))=true then (if (decide (((((((x1.2.2.2.getD x0.toNat (0,ByteArray.empty,ByteArray.empty,0,0,0,0,0,ByteArray.empty)).2).2).2).2).1)<(((((x1.2.2.2.getD x0.toNat (0,ByteArray.empty,ByteArray.empty,0,0,0,0,0,ByteArray.empty)).2).2).2).1)))=true then (some false) else ((Gp (x1.2.2.2.getD x0.toNat (0,ByteArray.empty,ByteArray.empty,0,0,0,0,0,ByteArray.empty))).bind fun y8=>(if (y8 != (i64.wrap ((i64.wrap (1000*((((((((x1.2.2.2.getD x0.toNat (0,ByteArray.empty,ByteArray.empty,0,0,0,0,0,ByteArray.empty)).2).2).2).2).2).2).1)))+(((((((((x1.2.2.2.getD x0.toNat (0,ByteArray.empty,ByteArray.empty,0,0,0,0,0,ByteArray.empty)).2).2).2).2).2).2).2).1))))=true then (some false) else (Ez (i64.wrap (x0+1)) x1 x2)))) else (Ez (i64.wrap (x0+1)) x1 x2)) else none) else none) else (Po x1 x2))
def Pr (x0:Bool) (x1 x2:AB):Option Bool:=(Ez 0 x1 x2)
def Vl (x0:List Int):Option Bool:=((Zy x0).bind fun y1=>(if y1=true then (some true) else ((Nm x0).bind fun y2=>((Nn y2.1 y2.2).bind fun y3=>((No y2.1 y2.2).bind fun y4=>(if (!y3.2.2)=false then ((MU y3.1.2.2.2 y4.1.2.2.2).bind fun y5=>(if (!y5)=false then ((M3 y3.1.2.2.2).bind fun y6=>(if (!y6)=false then ((R5 y3.1.2.2.2).bind fun y7=>(if (!y7)=true then (some false) else (Pp (!y7) y3.1 y4.1))) else (some false))) else (some false))) else (some false)))))))
theorem Z0:QP Pq Po:=jS (by kernel_rfl)
theorem Ps:PN Jm Ez:=lS (by kernel_rfl)
theorem Z1:PN Pr Pp:=jS (by kernel_rfl)
theorem iX:PL Vl Vk:=cT Bo rfl ⟨rfl,rfl⟩ (by kernel_rfl)
def qu (x0:List Int):Option Bool:=(some (decide ((x0.length:Int)>1048576)))
theorem qv:PL qu Zy:=cT UT rfl ⟨rfl,rfl⟩ (by kernel_rfl)
def Vm (x0:List Int):Option (List (List Int)×List AP):=((R6 x0).bind fun y1=>((Ph x0 y1).bind fun y2=>(some (y2.1.1,y2.1.2))))
theorem iY:PL Vm Nm:=cT JJ rfl ⟨rfl,rfl⟩ (by kernel_rfl)
def bw:=cG PQ (AF Az) (AF Az) kx
def bz:=kE 2 [(11,11)] [4,7,11] 12 bw kx
def Z2:St->Option (RT (BM.outs Az)):=lG PP [(11,11)] [4,7,11,39,40,41] 12 (AF Az) bz
def b8:=cG Jd (AF Az) (AF Az) kx
def b9:=kE 0 [] [1,4,7] 11 b8 kx
def Z3:St->Option (RT (BM.outs Az)):=lG Qh [] [1,4,7,28,29,30] 11 (AF Az) b9
def E0 (x0:List AP) (x1 x2:Int) (x3:List O) (x4:List Z) (x5:List AH) (x6:List (List Int)) (x7:List O) (x8:List Z) (x9:List AH) (x10:List (List Int)) (x11:List Int):Option (AB×List Int×Bool):=Z2 ⟨[(4,.ptr 3 0),(7,.ptr 10 0),(11,.row 11),(39,.lst AW x0),(40,.int .i64 x1),(41,.int .i64 x2)],[.rows 42 U x3,.rows 97 AD x4,.rows 47 AN x5,.var [.lst (.slice (.int .i64)) x6,.row 0,.row 1,.row 2],.dead,.dead,.dead,.rows 42 U x7,.rows 97 AD x8,.rows 47 AN x9,.var [.lst (.slice (.int .i64)) x10,.row 7,.row 8,.row 9],.rows 3 (.int .i64) x11]⟩
def Pt (x0:List AP) (x1:List O) (x2:List Z) (x3:List AH) (x4:List (List Int)) (x5:List O) (x6:List Z) (x7:List AH) (x8:List (List Int)):Option (AB×List Int×Bool):=cG Jd (AF Az) (AF Az) kx ⟨[(1,.lst AW x0),(4,.ptr 3 0),(7,.ptr 10 0)],[.rows 42 U x1,.rows 97 AD x2,.rows 47 AN x3,.var [.lst (.slice (.int .i64)) x4,.row 0,.row 1,.row 2],.dead,.dead,.dead,.rows 42 U x5,.rows 97 AD x6,.rows 47 AN x7,.var [.lst (.slice (.int .i64)) x8,.row 7,.row 8,.row 9]]⟩
def E1 (x0 x1:List AP) (x2 x3:Int) (x4:List O) (x5:List Z) (x6:List AH) (x7:List (List Int)) (x8:List O) (x9:List Z) (x10:List AH) (x11:List (List Int)):Option (AB×List Int×Bool):=Z3 ⟨[(1,.lst AW x0),(4,.ptr 3 0),(7,.ptr 10 0),(28,.lst AW x1),(29,.int .i64 x2),(30,.int .i64 x3)],[.rows 42 U x4,.rows 97 AD x5,.rows 47 AN x6,.var [.lst (.slice (.int .i64)) x7,.row 0,.row 1,.row 2],.dead,.dead,.dead,.rows 42 U x8,.rows 97 AD x9,.rows 47 AN x10,.var [.lst (.slice (.int .i64)) x11,.row 7,.row 8,.row 9]]⟩
def Pu (x0:List AP) (x1:Bool) (x2:List O) (x3:List Z) (x4:List AH) (x5:List (List Int)) (x6:List O) (x7:List Z) (x8:List AH) (x9:List (List Int)):Option (AB×List Int×Bool):=cG PR (AF Az) (AF Az) kx ⟨[(1,.lst AW x0),(4,.ptr 3 0),(7,.ptr 10 0),(26,.bool x1)],[.rows 42 U x2,.rows 97 AD x3,.rows 47 AN x4,.var [.lst (.slice (.int .i64)) x5,.row 0,.row 1,.row 2],.dead,.dead,.dead,.rows 42 U x6,.rows 97 AD x7,.rows 47 AN x8,.var [.lst (.slice (.int .i64)) x9,.row 7,.row 8,.row 9]]⟩
def Jn (x0:List AP) (x1 x2:Int) (x3:List O) (x4:List Z) (x5:List AH) (x6:List (List Int)) (x7:List O) (x8:List Z) (x9:List AH) (x10:List (List Int)) (x11:List Int):Option (AB×List Int×Bool):=(if (decide (x2<x1))=true then (if 0<=x2 then (if x2<(x0.length:Int) then ((Gq (x0.getD x2.toNat (0,0,0,0,ByteArray.empty,ByteArray.empty)) x2 (x10,x7,x8,x9)).bind fun y3=>((R7 y3.1).bind fun y4=>(if x11.length+([y4]:List Int).length<=68719476736 then (E0 x0 x1 (i64.wrap (x2+1)) x3 x4 x5 x6 y3.2.2.1 y3.2.2.2.1 y3.2.2.2.2 y3.2.1 (x11++([y4]:List Int))) else none))) else none) else none) else ((IQ (x10,x7,x8,x9)).bind fun y5=>(some (y5,x11,true))))
def Pv (x0:List AP) (x1:List O) (x2:List Z) (x3:List AH) (x4:List (List Int)) (x5:List O) (x6:List Z) (x7:List AH) (x8:List (List Int)):Option (AB×List Int×Bool):=(E0 x0 (x0.length:Int) 0 x1 x2 x3 x4 x5 x6 x7 x8 ([]:List Int))
def Jo (x0 x1:List AP) (x2 x3:Int) (x4:List O) (x5:List Z) (x6:List AH) (x7:List (List Int)) (x8:List O) (x9:List Z) (x10:List AH) (x11:List (List Int)):Option (AB×List Int×Bool):=(if (decide (x3<x2))=true then (if 0<=x3 then (if x3<(x1.length:Int) then ((Pi (x1.getD x3.toNat (0,0,0,0,ByteArray.empty,ByteArray.empty))).bind fun y2=>(if (!y2)=true then (some (([],([]:List O),([]:List Z),([]:List AH)),[],false)) else (E1 x0 x1 x2 (i64.wrap (x3+1)) x4 x5 x6 x7 x8 x9 x10 x11))) else none) else none) else (Pt x0 x4 x5 x6 x7 x8 x9 x10 x11))
def Pw (x0:List AP) (x1:Bool) (x2:List O) (x3:List Z) (x4:List AH) (x5:List (List Int)) (x6:List O) (x7:List Z) (x8:List AH) (x9:List (List Int)):Option (AB×List Int×Bool):=(E1 x0 x0 (x0.length:Int) 0 x2 x3 x4 x5 x6 x7 x8 x9)
def Vn (x0:List (List Int)) (x1:List AP):Option (AB×List Int×Bool):=((Np x0).bind fun y1=>(if (!y1.2)=false then (if (decide ((x1.length:Int)>70))=true then (some (([],([]:List O),([]:List Z),([]:List AH)),[],false)) else (Pu x1 (decide ((x1.length:Int)>70)) ([]:List O) ([]:List Z) ([]:List AH) ([]:List (List Int)) y1.1.2.1 y1.1.2.2.1 y1.1.2.2.2 y1.1.1)) else (some (([],([]:List O),([]:List Z),([]:List AH)),[],false))))
theorem Px:wZ Jn E0:=lS (by kernel_rfl)
theorem Z4:wY Pv Pt:=jS (by kernel_rfl)
theorem Py:wZ Jo E1:=lS (by kernel_rfl)
theorem Z5:sa Pw Pu:=jS (by kernel_rfl)
theorem iZ:QP Vn Nn:=cT Az rfl ⟨rfl,rfl⟩ (by kernel_rfl)
def b_:=cG PS (AF BH) (AF BH) kx
def cA:=kE 2 [(10,2)] [4,7,10] 3 b_ kx
def Z6:St->Option (RT (BM.outs BH)):=lG Qk [(10,2)] [1,4,7,10,11] 3 (AF BH) cA
def cB:=cG Je (AF BH) (AF BH) kx
def RN:=kE 0 [] [1,4,7,8] 2 cB kx
def Pz:St->Option (RT (BM.outs BH)):=lG Qj [] [1,4,7,8,9] 2 (AF BH) RN
def cC:=kB [] [1,4,7,8,9] 2 Pz
def P0 (x0:List AP) (x1:Bool) (x2:Int) (x3:Bool) (x4 x5:AB):Option (AB×List Int×Bool):=cG Qi cC (AF BH) RN ⟨[(1,.lst AW x0),(4,.ptr 0 0),(7,.ptr 1 0),(8,.bool x1),(9,.int .i64 x2),(23,.bool x3)],[.var (Ac.enc x4),.var (Ac.enc x5)]⟩
def E2 (x0:List AP) (x1:Int) (x2 x3:AB) (x4:List Int):Option (AB×List Int×Bool):=Z6 ⟨[(1,.lst AW x0),(4,.ptr 0 0),(7,.ptr 1 0),(10,.row 2),(11,.int .i64 x1)],[.var (Ac.enc x2),.var (Ac.enc x3),.rows 3 (.int .i64) x4]⟩
def Gu (x0:List AP) (x1:Bool) (x2 x3:AB):Option (AB×List Int×Bool):=cG Je (AF BH) (AF BH) kx ⟨[(1,.lst AW x0),(4,.ptr 0 0),(7,.ptr 1 0),(8,.bool x1)],[.var (Ac.enc x2),.var (Ac.enc x3)]⟩
def Da (x0:List AP) (x1:Bool) (x2:Int) (x3 x4:AB):Option (AB×List Int×Bool):=Pz ⟨[(1,.lst AW x0),(4,.ptr 0 0),(7,.ptr 1 0),(8,.bool x1),(9,.int .i64 x2)],[.var (Ac.enc x3),.var (Ac.enc x4)]⟩
def P1 (x0:List AP) (x1:Bool) (x2:Int) (x3:Bool) (x4 x5:AB):Option (AB×List Int×Bool):=(if (decide ((x0.length:Int)<=70))=true then (if 0<=x2 then (if x2<(x0.length:Int) then ((Pj (x0.getD x2.toNat (0,0,0,0,ByteArray.empty,ByteArray.empty))).bind fun y2=>(Da x0 y2 (i64.wrap (x2+1)) x4 x5)) else none) else none) else (Da x0 false (i64.wrap (x2+1)) x4 x5))
def Jp (x0:List AP) (x1:Int) (x2 x3:AB) (x4:List Int):Option (AB×List Int×Bool):=(if (decide (x1<(x0.length:Int)))=true then (if 0<=x1 then (if x1<(x0.length:Int) then ((O0 x1 (x0.getD x1.toNat (0,0,0,0,ByteArray.empty,ByteArray.empty)) x3).bind fun y3=>(if x4.length+([y3.1]:List Int).length<=68719476736 then (E2 x0 (i64.wrap (x1+1)) x2 y3.2 (x4++([y3.1]:List Int))) else none)) else none) else none) else ((Pk x3).bind fun y4=>(some (y4,x4,true))))
def P2 (x0:List AP) (x1:Bool) (x2 x3:AB):Option (AB×List Int×Bool):=(if (!x1)=true then (some ((([]:List (List Int)),([]:List O),([]:List Z),([]:List AH)),([]:List Int),false)) else (E2 x0 0 x2 x3 ([]:List Int)))
def Jq (x0:List AP) (x1:Bool) (x2:Int) (x3 x4:AB):Option (AB×List Int×Bool):=(if (decide (x2<(x0.length:Int)))=true then (if x1=true then (P0 x0 x1 x2 x1 x3 x4) else (Gu x0 x1 x3 x4)) else (Gu x0 x1 x3 x4))
def Vo (x0:List (List Int)) (x1:List AP):Option (AB×List Int×Bool):=((JP x0).bind fun y1=>(Da x1 y1.2 0 (([]:List (List Int)),([]:List O),([]:List Z),([]:List AH)) y1.1))
theorem Z7:rV P1 P0:=jS (by kernel_rfl)
theorem P3:qp Jp E2:=lS (by kernel_rfl)
theorem Z8:iH P2 Gu:=jS (by kernel_rfl)
theorem P4:qp Jq Da:=lS (by kernel_rfl)
theorem ia:QP Vo No:=cT BH rfl ⟨rfl,rfl⟩ (by kernel_rfl)
def Jr (x0:Bool) (x1:O):Option Bool:=cG Ql (AF FO) (AF FO) kx ⟨[(1,.ptr 0 0),(30,.bool x0)],[.var (U.enc x1)]⟩
def P5 (x0:Bool) (x1:O):Option Bool:=(if x1.2.2.2.2.2.1=true then (if (!x1.2.2.2.1)=false then (if (!x1.2.2.2.2.1)=false then (if (decide ((x1.2.2.2.2.2.2.1.length:Int)>0))=false then (if x1.2.2.1=true then (if x1.2.2.2.1=false then (if x1.2.2.2.2.1=true then (some false) else ((Cx x1).bind fun y6=>(some y6.1))) else (some false)) else ((Cx x1).bind fun y7=>(some y7.1))) else (some false)) else (some false)) else (some false)) else (if x1.2.2.1=true then (if x1.2.2.2.1=false then (if x1.2.2.2.2.1=true then (some false) else ((Cx x1).bind fun y8=>(some y8.1))) else (some false)) else ((Cx x1).bind fun y9=>(some y9.1))))
def Vp (x0:O):Option Bool:=((Eg x0.1).bind fun y1=>(if (!y1)=false then ((Af x0.2.1 1 9).bind fun y2=>(if (!y2)=false then ((Gr x0.2.2.2.2.2.2.1 1 6).bind fun y3=>(if (!y3)=false then ((Ex x0.2.2.2.2.2.2.2.1).bind fun y4=>(if (!y4)=false then ((Af x0.2.2.2.2.2.2.2.2.1 0 900).bind fun y5=>(if (!y5)=true then (some false) else (Jr (!y5) x0))) else (some false))) else (some false))) else (some false))) else (some false)))
theorem Z9:QP P5 Jr:=jS (by kernel_rfl)
theorem ib:PL Vp FQ:=cT FO rfl ⟨rfl,rfl⟩ (by kernel_rfl)
def Z_:=cG PU (AF Cr) (AF Cr) kx
def aA:=kE 0 [] [] 0 Z_ kx
def Yq:St->Option (RT (BM.outs Cr)):=lG PT [] [0,1,5] 0 (AF Cr) aA
def F_ (x0 x1:List AH) (x2:Int):Option Bool:=Yq ⟨[(0,.lst AN x0),(1,.lst AN x1),(5,.int .i64 x2)],[]⟩
def Ir (x0 x1:List AH) (x2:Int):Option Bool:=(if (decide (x2<(x0.length:Int)))=true then (if 0<=x2 then (if x2<(x0.length:Int) then (if 0<=x2 then (if x2<(x1.length:Int) then (if (true != UA AN (x0.getD x2.toNat (0,ByteArray.empty,ByteArray.empty,0,0,0,0,0,ByteArray.empty)) (x1.getD x2.toNat (0,ByteArray.empty,ByteArray.empty,0,0,0,0,0,ByteArray.empty)))=true then (some false) else (F_ x0 x1 (i64.wrap (x2+1)))) else none) else none) else none) else none) else (some true))
def S_ (x0 x1:List AH):Option Bool:=(if ((x0.length:Int) != (x1.length:Int))=true then (some false) else (F_ x0 x1 0))
theorem OQ:PN Ir F_:=lS (by kernel_rfl)
theorem fA:QP S_ MU:=cT Cr rfl ⟨rfl,rfl⟩ (by kernel_rfl)
def ic:=cG Sb (AF CA) (AF CA) kx
def Nv:=kE 0 [] [] 0 ic kx
def TA:St->Option (RT (BM.outs CA)):=lG Sa [] [0,7,8,9] 0 (AF CA) Nv
def ie:=kB [] [0,7,8,9] 0 TA
def Vq:=cG SZ ie (AF CA) Nv
def ig:=kB [] [0,7,8,9] 0 Vq
def ii:=kE 1 [] [0,7,8,9] 0 Vq Nv
def Nw:=kE 2 [] [0,7,8,9] 1 ig ii
def TB:St->Option (RT (BM.outs CA)):=lG Ux [] [0,3,4,7,8,9,14,15,16] 1 (AF CA) Nw
def ij:=kB [] [0,3,4,7,8,9,14,15,16] 1 TB
def Vr:=cG Uw ij (AF CA) Nw
def ik:=kB [] [0,3,4,7,8,9,14,15,16] 1 Vr
def fB:=kE 3 [] [0,3,4,7,8,9,14,15,16] 1 Vr Nw
def MY (x0:List AH) (x1:Int) (x2:List AH) (x3 x4:Int) (x5:List AH) (x6 x7:Int) (x8:Bool) (x9 x10:AH):Option Bool:=cG Uv ik (AF CA) fB ⟨[(0,.lst AN x0),(3,.int .i64 x1),(4,.ptr 0 0),(6,.ptr 1 0),(7,.lst AN x2),(8,.int .i64 x3),(9,.int .i64 x4),(14,.lst AN x5),(15,.int .i64 x6),(16,.int .i64 x7),(33,.bool x8)],[.var (AN.enc x9),.var (AN.enc x10)]⟩
def Cy (x0:List AH) (x1:Int) (x2:List AH) (x3 x4:Int) (x5:List AH) (x6 x7:Int) (x8:AH):Option Bool:=TB ⟨[(0,.lst AN x0),(3,.int .i64 x1),(4,.ptr 0 0),(7,.lst AN x2),(8,.int .i64 x3),(9,.int .i64 x4),(14,.lst AN x5),(15,.int .i64 x6),(16,.int .i64 x7)],[.var (AN.enc x8)]⟩
def IV (x0 x1:List AH) (x2 x3:Int):Option Bool:=TA ⟨[(0,.lst AN x0),(7,.lst AN x1),(8,.int .i64 x2),(9,.int .i64 x3)],[]⟩
def TC (x0:List AH) (x1:Int) (x2:List AH) (x3 x4:Int) (x5:List AH) (x6 x7:Int) (x8:Bool) (x9 x10:AH):Option Bool:=((Gp x9).bind fun y3=>((Gp x10).bind fun y4=>(if (y3==y4)=true then (some false) else (if (decide (x9.2.2.2.2.1<x10.2.2.2.1))=true then ((Gp x9).bind fun y5=>((Gp x10).bind fun y6=>(if (decide (y5>y6))=true then (some false) else (Cy x0 x1 x2 x3 x4 x5 x6 (i64.wrap (x7+1)) x9)))) else (Cy x0 x1 x2 x3 x4 x5 x6 (i64.wrap (x7+1)) x9)))))
def MZ (x0:List AH) (x1:Int) (x2:List AH) (x3 x4:Int) (x5:List AH) (x6 x7:Int) (x8:AH):Option Bool:=(if (decide (x7<x6))=true then (if 0<=x7 then (if x7<(x5.length:Int) then (if (x1==x7)=false then ((M4 x8).bind fun y1=>(if (!y1)=false then ((M4 (x5.getD x7.toNat (0,ByteArray.empty,ByteArray.empty,0,0,0,0,0,ByteArray.empty))).bind fun y2=>(if (!y2)=true then (Cy x0 x1 x2 x3 x4 x5 x6 (i64.wrap (x7+1)) x8) else (MY x0 x1 x2 x3 x4 x5 x6 x7 (!y2) x8 (x5.getD x7.toNat (0,ByteArray.empty,ByteArray.empty,0,0,0,0,0,ByteArray.empty))))) else (Cy x0 x1 x2 x3 x4 x5 x6 (i64.wrap (x7+1)) x8))) else (Cy x0 x1 x2 x3 x4 x5 x6 (i64.wrap (x7+1)) x8)) else none) else none) else (IV x0 x2 x3 (i64.wrap (x4+1))))
def Ma (x0 x1:List AH) (x2 x3:Int):Option Bool:=(if (decide (x3<x2))=true then (if 0<=x3 then (if x3<(x1.length:Int) then (Cy x0 x3 x1 x2 x3 x0 (x0.length:Int) 0 (x1.getD x3.toNat (0,ByteArray.empty,ByteArray.empty,0,0,0,0,0,ByteArray.empty))) else none) else none) else (some true))
def ZO (x0:List AH):Option Bool:=(IV x0 x0 (x0.length:Int) 0)
theorem fC:xO TC MY:=jS (by kernel_rfl)
theorem TD:wY MZ Cy:=lS (by kernel_rfl)
theorem TE:iH Ma IV:=lS (by kernel_rfl)
theorem m_:PL ZO M3:=cT CA rfl ⟨rfl,rfl⟩ (by kernel_rfl)
def il:=cG Sf (AF CB) (AF CB) kx
def Nx:=kE 0 [] [] 0 il kx
def TF:St->Option (RT (BM.outs CB)):=lG Se [] [0,3] 0 (AF CB) Nx
def im:=kB [] [0,3] 0 TF
def Vs:=cG Sd im (AF CB) Nx
def ip:=kB [] [0,3] 0 Vs
def iq:=kE 1 [] [0,3] 0 Vs Nx
def Ny:=kE 2 [] [0,3] 0 ip iq
def TG:St->Option (RT (BM.outs CB)):=lG Sc [] [0,3,4] 0 (AF CB) Ny
def ir:=kB [] [0,3,4] 0 TG
def Vt:=cG U0 ir (AF CB) Ny
def iu:=kB [] [0,3,4] 0 Vt
def fD:=kE 3 [] [0,3,4] 0 Vt Ny
def Mb (x0:List AH) (x1 x2:Int) (x3:Bool) (x4 x5:AH):Option Bool:=cG Uz iu (AF CB) fD ⟨[(0,.lst AN x0),(3,.int .i64 x1),(4,.int .i64 x2),(5,.ptr 0 0),(6,.ptr 1 0),(39,.bool x3)],[.var (AN.enc x4),.var (AN.enc x5)]⟩
def Cz (x0:List AH) (x1 x2:Int):Option Bool:=TG ⟨[(0,.lst AN x0),(3,.int .i64 x1),(4,.int .i64 x2)],[]⟩
def IW (x0:List AH) (x1:Int):Option Bool:=TF ⟨[(0,.lst AN x0),(3,.int .i64 x1)],[]⟩
def TH (x0:List AH) (x1 x2:Int) (x3:Bool) (x4 x5:AH):Option Bool:=((IR x4).bind fun y1=>((IR x5).bind fun y2=>(if (y1==y2)=true then (some false) else (if (decide (x4.2.2.2.2.1<x5.2.2.2.1))=true then ((IR x4).bind fun y3=>((IR x5).bind fun y4=>(if (decide (y3>=y4))=true then (some false) else (Cz x0 x1 (i64.wrap (x2+1)))))) else (Cz x0 x1 (i64.wrap (x2+1)))))))
def Mc (x0:List AH) (x1 x2:Int):Option Bool:=(if (decide (x2<(x0.length:Int)))=true then (if 0<=x1 then (if x1<(x0.length:Int) then (if 0<=x2 then (if x2<(x0.length:Int) then (if (decide (((((((x0.getD x1.toNat (0,ByteArray.empty,ByteArray.empty,0,0,0,0,0,ByteArray.empty)).2).2).2).2).1)<0))=false then (if (decide (((((((x0.getD x2.toNat (0,ByteArray.empty,ByteArray.empty,0,0,0,0,0,ByteArray.empty)).2).2).2).2).1)<0))=false then (if (x1==x2)=true then (Cz x0 x1 (i64.wrap (x2+1))) else (Mb x0 x1 x2 (x1==x2) (x0.getD x1.toNat (0,ByteArray.empty,ByteArray.empty,0,0,0,0,0,ByteArray.empty)) (x0.getD x2.toNat (0,ByteArray.empty,ByteArray.empty,0,0,0,0,0,ByteArray.empty)))) else (Cz x0 x1 (i64.wrap (x2+1)))) else (Cz x0 x1 (i64.wrap (x2+1)))) else none) else none) else none) else none) else (IW x0 (i64.wrap (x1+1))))
def Md (x0:List AH) (x1:Int):Option Bool:=(if (decide (x1<(x0.length:Int)))=true then (Cz x0 x1 0) else (some true))
def ZP (x0:List AH):Option Bool:=(IW x0 0)
theorem fE:rV TH Mb:=jS (by kernel_rfl)
theorem TI:PN Mc Cz:=lS (by kernel_rfl)
theorem TJ:QP Md IW:=lS (by kernel_rfl)
theorem nA:PL ZP R5:=cT CB rfl ⟨rfl,rfl⟩ (by kernel_rfl)
def cD (x0:AH):Option Int:=((Af x0.2.2.2.2.2.2.1 0 9).bind fun y1=>(if (!y1)=false then ((Af x0.2.2.2.2.2.2.2.1 0 999).bind fun y2=>(if (!y2)=true then (some 0) else (some (i64.wrap ((i64.wrap (1000*x0.2.2.2.2.2.2.1))+x0.2.2.2.2.2.2.2.1))))) else (some 0)))
theorem oz:PL cD Gp:=cT Ot rfl ⟨rfl,rfl⟩ (by kernel_rfl)
def fF:=cG Sh (AF Do) (AF Do) kx
def fG:=kE 0 [] [4,5] 6 fF kx
def cE:St->Option (RT (BM.outs Do)):=lG Sg [] [0,4,5,6,8,9] 6 (AF Do) fG
def D1 (x0 x1:Int) (x2:AO) (x3:List AP) (x4:List (List Int)) (x5:List AP) (x6:List (List Int)) (x7:AB):Option (UR×AO):=cE ⟨[(0,.ptr 0 0),(4,.ptr 2 0),(5,.ptr 4 0),(6,.ptr 5 0),(8,.int .i64 x0),(9,.int .i64 x1)],[.var (BA.enc x2),.rows 55 AW x3,.var [.lst (.slice (.int .i64)) x4,.row 1],.rows 55 AW x5,.var [.lst (.slice (.int .i64)) x6,.row 3],.var (Ac.enc x7)]⟩
def LI (x0 x1:Int) (x2:AO) (x3:List AP) (x4:List (List Int)) (x5:List AP) (x6:List (List Int)) (x7:AB):Option (UR×AO):=(if (decide (x1<x0))=true then ((Pl x2 x7).bind fun y3=>((O0 x1 y3.1 y3.2.2).bind fun y4=>(if x5.length+([y3.1]:List AP).length<=68719476736 then (D1 x0 (i64.wrap (x1+1)) y3.2.1 x3 x4 (x5++([y3.1]:List AP)) x6 y4.2) else none))) else (some ((x6,x5),x2)))
def P6 (x1:List Int) (b0:AO):Option (UR×AO):=((Nq b0).bind fun y1=>((JP y1.1).bind fun y2=>(if 4=0 then none else (if (decide ((i64.wrap (20+(i64.wrap (Int.tdiv (x1.length:Int) 4))))>69))=true then (D1 69 0 y1.2 ([]:List AP) ([]:List (List Int)) ([]:List AP) y1.1 y2.1) else (D1 (i64.wrap (20+(i64.wrap (Int.tdiv (x1.length:Int) 4)))) 0 y1.2 ([]:List AP) ([]:List (List Int)) ([]:List AP) y1.1 y2.1)))))
theorem RO:sZ LI D1:=lS (by kernel_rfl)
theorem Xc:QP P6 Ph:=cT Do rfl ⟨rfl,rfl⟩ (by kernel_rfl)
def iv:=cG U3 (AF Dh) (AF Dh) kx
def Vu:=kE 0 [] [0,3] 0 iv kx
def TK:St->Option (RT (BM.outs Dh)):=lG U2 [] [0,3,4] 0 (AF Dh) Vu
def iw:=kB [] [0,3,4] 0 TK
def TL (x0:List Int) (x1 x2:Int) (x3:Bool):Option AO:=cG U1 iw (AF Dh) Vu ⟨[(0,.lst (.int .u8) x0),(3,.int .i64 x1),(4,.int .i64 x2),(15,.bool x3)],[]⟩
def IX (x0:List Int) (x1 x2:Int):Option AO:=TK ⟨[(0,.lst (.int .u8) x0),(3,.int .i64 x1),(4,.int .i64 x2)],[]⟩
def TM (x0:List Int) (x1 x2:Int) (x3:Bool):Option AO:=(if 0<=x2 then (if x2<(x0.length:Int) then (IX x0 (KU .i64 (i64.wrap ((i64.wrap ((i64.wrap (x1*131))+(i64.wrap (x0.getD x2.toNat 0))))+7)) 1073741823) (i64.wrap (x2+1))) else none) else none)
def IY (x0:List Int) (x1 x2:Int):Option AO:=(if (decide (x2<(x0.length:Int)))=true then (if (decide (x2<4000))=true then (TL x0 x1 x2 (decide (x2<4000))) else (some (x0,0,x1))) else (some (x0,0,x1)))
def nB (x0:List Int):Option AO:=(IX x0 (i64.wrap (14301+(x0.length:Int))) 0)
theorem fH:iH TM TL:=jS (by kernel_rfl)
theorem Me:PN IY IX:=lS (by kernel_rfl)
theorem nC:PL nB R6:=cT Dh rfl ⟨rfl,rfl⟩ (by kernel_rfl)
def cH:=cG Qn (AF DK) (AF DK) kx
def cI:=kE 0 [] [2,4] 8 cH kx
def aB:St->Option (RT (BM.outs DK)):=lG Qm [] [0,2,4,5] 8 (AF DK) cI
def E3 (x0:List (List Int)) (x1:Int) (x2:List O) (x3:List Z) (x4:List AH) (x5:List (List Int)) (x6:List O) (x7:List Z) (x8:List AH) (x9:List (List Int)):Option (AB×Bool):=aB ⟨[(0,.lst (.slice (.int .i64)) x0),(2,.ptr 3 0),(4,.ptr 7 0),(5,.int .i64 x1)],[.rows 42 U x2,.rows 97 AD x3,.rows 47 AN x4,.var [.lst (.slice (.int .i64)) x5,.row 0,.row 1,.row 2],.rows 42 U x6,.rows 97 AD x7,.rows 47 AN x8,.var [.lst (.slice (.int .i64)) x9,.row 4,.row 5,.row 6]]⟩
def Js (x0:List (List Int)) (x1:Int) (x2:List O) (x3:List Z) (x4:List AH) (x5:List (List Int)) (x6:List O) (x7:List Z) (x8:List AH) (x9:List (List Int)):Option (AB×Bool):=(if (decide (x1<=6))=true then ((MV x1 x0).bind fun y3=>(if x6.length+([y3.1]:List O).length<=68719476736 then (E3 x0 (i64.wrap (x1+1)) x2 x3 x4 x5 (x6++([y3.1]:List O)) x7 x8 x9) else none)) else (some ((x9,x6,x7,x8),true)))
def Vv (x0:List (List Int)):Option (AB×Bool):=((Dv x0).bind fun y1=>(if (!y1)=true then (some (([],([]:List O),([]:List Z),([]:List AH)),false)) else ((IS x0).bind fun y2=>(E3 x0 1 ([]:List O) ([]:List Z) ([]:List AH) ([]:List (List Int)) ([]:List O) ([]:List Z) ([]:List AH) y2))))
theorem P7:sa Js E3:=lS (by kernel_rfl)
theorem ix:PL Vv Np:=cT DK rfl ⟨rfl,rfl⟩ (by kernel_rfl)
def LJ (x0:Bool) (x1:AP):Option Bool:=cG Si (AF GF) (AF GF) kx ⟨[(1,.ptr 0 0),(17,.bool x0)],[.var (AW.enc x1)]⟩
def RP (x0:Bool) (x1:AP):Option Bool:=(if (x1.1==1)=true then ((K9 x1.2.2.2.1 0 x1.2.2.2.2.1 x1.2.2.2.2.2).bind fun y3=>(some y3)) else (if (x1.2.2.2.1==0)=true then (if (x1.2.2.2.2.1.toList==(⟨#[]⟩:ByteArray).toList)=true then (some (x1.2.2.2.2.2.toList==(⟨#[]⟩:ByteArray).toList)) else (some false)) else (some false)))
def Xd (x0:AP):Option Bool:=((Af x0.1 1 6).bind fun y1=>(if (!y1)=false then ((Eg x0.2.1).bind fun y2=>(if (!y2)=false then (if (decide (x0.2.2.1<0))=true then (some false) else (LJ (decide (x0.2.2.1<0)) x0)) else (some false))) else (some false)))
theorem cJ:QP RP LJ:=jS (by kernel_rfl)
theorem lV:PL Xd Pi:=cT GF rfl ⟨rfl,rfl⟩ (by kernel_rfl)
def P8 (x1:AP) (x2:Int) (b0:AB):Option (Bool×AB):=(if (x1.1==1)=true then ((Jf x1 x2 b0).bind fun y1=>(some (y1.1,y1.2))) else (if (x1.1==5)=true then ((Jg x1 x2 b0).bind fun y2=>(some (y2.1,y2.2))) else (if (x1.1==6)=true then ((Bj x1.2.1 b0).bind fun y3=>(if 0<=y3.1 then (if y3.1<(y3.2.2.1.length:Int) then ((RM (y3.2.2.1.getD y3.1.toNat (0,0,false,false,false,false,([]:List Int),([]:List Y),0,0,0,0,(ByteArray.empty,ByteArray.empty,0),([]:List Int)))).bind fun y4=>(if 0<=y3.1 then (if y3.1<(y3.2.2.1.length:Int) then (let z5:List O:=y3.2.2.1.set y3.1.toNat y4; (some (true,(y3.2.1,z5,y3.2.2.2)))) else none) else none)) else none) else none)) else ((Hr x1 x2 b0).bind fun y6=>(some (y6.1,y6.2))))))
theorem aC:PN P8 Gq:=cT Gl rfl ⟨rfl,rfl⟩ (by kernel_rfl)
def ZQ (x0:Bool):Option Int:=(if x0=true then (some 0) else (some 1))
theorem nD:PL ZQ R7:=cT Mz rfl ⟨rfl,rfl⟩ (by kernel_rfl)
def aD:=cG OF (AF BF) (AF BF) kx
def aE:=kE 2 [] [2,3] 10 aD kx
def Yr:St->Option (RT (BM.outs BF)):=lG OE [] [2,3,31,32,33] 10 (AF BF) aE
def aF:=cG Ip (AF BF) (AF BF) kx
def aG:=kE 0 [] [1,2,3] 10 aF kx
def Ys:St->Option (RT (BM.outs BF)):=lG PV [] [1,2,3,16,17,18] 10 (AF BF) aG
def ED (x0:List Z) (x1 x2:Int) (x3:List (List Int)) (x4:List O) (x5:List Z) (x6:List AH) (x7:List O) (x8:List Z) (x9:List AH) (x10:List (List Int)) (x11:List O) (x12:List Z) (x13:List AH) (x14:List (List Int)):Option AB:=Yr ⟨[(2,.ptr 4 0),(3,.ptr 9 0),(31,.lst AD x0),(32,.int .i64 x1),(33,.int .i64 x2)],[.var [.lst (.slice (.int .i64)) x3,.lst U x4,.lst AD x5,.lst AN x6],.rows 42 U x7,.rows 97 AD x8,.rows 47 AN x9,.var [.lst (.slice (.int .i64)) x10,.row 1,.row 2,.row 3],.dead,.rows 42 U x11,.rows 97 AD x12,.rows 47 AN x13,.var [.lst (.slice (.int .i64)) x14,.row 6,.row 7,.row 8]]⟩
def OR (x0:List (List Int)) (x1:List O) (x2:List Z) (x3:List AH) (x4:List O) (x5:List Z) (x6:List AH) (x7:List (List Int)) (x8:List O) (x9:List Z) (x10:List AH) (x11:List (List Int)):Option AB:=cG Ip (AF BF) (AF BF) kx ⟨[(1,.ptr 0 0),(2,.ptr 4 0),(3,.ptr 9 0)],[.var [.lst (.slice (.int .i64)) x0,.lst U x1,.lst AD x2,.lst AN x3],.rows 42 U x4,.rows 97 AD x5,.rows 47 AN x6,.var [.lst (.slice (.int .i64)) x7,.row 1,.row 2,.row 3],.dead,.rows 42 U x8,.rows 97 AD x9,.rows 47 AN x10,.var [.lst (.slice (.int .i64)) x11,.row 6,.row 7,.row 8]]⟩
def EE (x0:List O) (x1 x2:Int) (x3:List (List Int)) (x4:List O) (x5:List Z) (x6:List AH) (x7:List O) (x8:List Z) (x9:List AH) (x10:List (List Int)) (x11:List O) (x12:List Z) (x13:List AH) (x14:List (List Int)):Option AB:=Ys ⟨[(1,.ptr 0 0),(2,.ptr 4 0),(3,.ptr 9 0),(16,.lst U x0),(17,.int .i64 x1),(18,.int .i64 x2)],[.var [.lst (.slice (.int .i64)) x3,.lst U x4,.lst AD x5,.lst AN x6],.rows 42 U x7,.rows 97 AD x8,.rows 47 AN x9,.var [.lst (.slice (.int .i64)) x10,.row 1,.row 2,.row 3],.dead,.rows 42 U x11,.rows 97 AD x12,.rows 47 AN x13,.var [.lst (.slice (.int .i64)) x14,.row 6,.row 7,.row 8]]⟩
def Is (x0:List Z) (x1 x2:Int) (x3:List (List Int)) (x4:List O) (x5:List Z) (x6:List AH) (x7:List O) (x8:List Z) (x9:List AH) (x10:List (List Int)) (x11:List O) (x12:List Z) (x13:List AH) (x14:List (List Int)):Option AB:=(if (decide (x2<x1))=true then (if 0<=x2 then (if x2<(x0.length:Int) then ((GN (x0.getD x2.toNat (0,0,0,0,0,([]:List Y)))).bind fun y4=>(if x12.length+([y4]:List Z).length<=68719476736 then (ED x0 x1 (i64.wrap (x2+1)) x3 x4 x5 x6 x7 x8 x9 x10 x11 (x12++([y4]:List Z)) x13 x14) else none)) else none) else none) else (some (x14,x11,x12,x13)))
def OS (x0:List (List Int)) (x1:List O) (x2:List Z) (x3:List AH) (x4:List O) (x5:List Z) (x6:List AH) (x7:List (List Int)) (x8:List O) (x9:List Z) (x10:List AH) (x11:List (List Int)):Option AB:=(ED x2 (x2.length:Int) 0 x0 x1 x2 x3 x4 x5 x6 x7 x8 x9 x10 x11)
def It (x0:List O) (x1 x2:Int) (x3:List (List Int)) (x4:List O) (x5:List Z) (x6:List AH) (x7:List O) (x8:List Z) (x9:List AH) (x10:List (List Int)) (x11:List O) (x12:List Z) (x13:List AH) (x14:List (List Int)):Option AB:=(if (decide (x2<x1))=true then (if 0<=x2 then (if x2<(x0.length:Int) then ((Cc (x0.getD x2.toNat (0,0,false,false,false,false,([]:List Int),([]:List Y),0,0,0,0,(ByteArray.empty,ByteArray.empty,0),([]:List Int)))).bind fun y3=>(if x11.length+([y3]:List O).length<=68719476736 then (EE x0 x1 (i64.wrap (x2+1)) x3 x4 x5 x6 x7 x8 x9 x10 (x11++([y3]:List O)) x12 x13 x14) else none)) else none) else none) else (OR x3 x4 x5 x6 x7 x8 x9 x10 x11 x12 x13 x14))
def TN (x0:AB):Option AB:=((IS x0.1).bind fun y1=>((Co x0.2.2.2).bind fun y2=>(EE x0.2.1 (x0.2.1.length:Int) 0 x0.1 x0.2.1 x0.2.2.1 x0.2.2.2 ([]:List O) ([]:List Z) ([]:List AH) ([]:List (List Int)) ([]:List O) ([]:List Z) y2 y1)))
theorem OT:xP Is ED:=lS (by kernel_rfl)
theorem Yt:wZ OS OR:=jS (by kernel_rfl)
theorem OU:xP It EE:=lS (by kernel_rfl)
theorem fI:PL TN IQ:=cT BF rfl ⟨rfl,rfl⟩ (by kernel_rfl)
def cK:=cG Qp (AF DL) (AF DL) kx
def cL:=kE 0 [] [2,4] 4 cK kx
def aH:St->Option (RT (BM.outs DL)):=lG Qo [] [0,2,4,5] 4 (AF DL) cL
def E4 (x0:List (List Int)) (x1:Int) (x2:List O) (x3:List (List Int)) (x4:List Z) (x5:List AH) (x6:List O) (x7:List (List Int)):Option (AB×Bool):=aH ⟨[(0,.lst (.slice (.int .i64)) x0),(2,.ptr 1 0),(4,.ptr 3 0),(5,.int .i64 x1)],[.rows 42 U x2,.var [.lst (.slice (.int .i64)) x3,.row 0,.lst AD x4,.lst AN x5],.rows 42 U x6,.var [.lst (.slice (.int .i64)) x7,.row 2,.nil,.nil]]⟩
def Jt (x0:List (List Int)) (x1:Int) (x2:List O) (x3:List (List Int)) (x4:List Z) (x5:List AH) (x6:List O) (x7:List (List Int)):Option (AB×Bool):=(if (decide (x1<=6))=true then ((MW x1 x0).bind fun y3=>(if x6.length+([y3.1]:List O).length<=68719476736 then (E4 x0 (i64.wrap (x1+1)) x2 x3 x4 x5 (x6++([y3.1]:List O)) x7) else none)) else (some ((x7,x6,[],[]),true)))
def Vw (x0:List (List Int)):Option (AB×Bool):=((Dw x0).bind fun y1=>(if (!y1)=true then (some (([],([]:List O),[],[]),false)) else ((F9 x0).bind fun y2=>(E4 x0 1 ([]:List O) ([]:List (List Int)) ([]:List Z) ([]:List AH) ([]:List O) y2))))
theorem P9:sZ Jt E4:=lS (by kernel_rfl)
theorem iy:PL Vw JP:=cT DL rfl ⟨rfl,rfl⟩ (by kernel_rfl)
def LK (x0:Bool) (x1:AP):Option Bool:=cG Sj (AF GG) (AF GG) kx ⟨[(1,.ptr 0 0),(17,.bool x0)],[.var (AW.enc x1)]⟩
def RQ (x0:Bool) (x1:AP):Option Bool:=(if (x1.1 != 1)=true then (if (x1.2.2.2.1==0)=true then (if (x1.2.2.2.2.1.toList==(⟨#[]⟩:ByteArray).toList)=true then (some (x1.2.2.2.2.2.toList==(⟨#[]⟩:ByteArray).toList)) else (some false)) else (some false)) else (if (x1.2.2.2.1==1)=false then (if (x1.2.2.2.1==2)=true then ((AS (x1.2.2.2.2.1.size:Int) 1 12).bind fun y3=>(if y3=true then (if (decide ((x1.2.2.2.2.2.size:Int)<=20))=true then (if (x1.2.2.2.1==1)=false then (some (x1.2.2.2.2.2.toList==(⟨#[]⟩:ByteArray).toList)) else (some true)) else (some false)) else (some false))) else (some false)) else ((AS (x1.2.2.2.2.1.size:Int) 1 12).bind fun y4=>(if y4=true then (if (decide ((x1.2.2.2.2.2.size:Int)<=20))=true then (if (x1.2.2.2.1==1)=false then (some (x1.2.2.2.2.2.toList==(⟨#[]⟩:ByteArray).toList)) else (some true)) else (some false)) else (some false)))))
def Xe (x0:AP):Option Bool:=((AS x0.1 1 6).bind fun y1=>(if (!y1)=false then ((AS x0.2.1 1 6).bind fun y2=>(if (!y2)=false then (if (decide (x0.2.2.1<0))=true then (some false) else (LK (decide (x0.2.2.1<0)) x0)) else (some false))) else (some false)))
theorem cM:QP RQ LK:=jS (by kernel_rfl)
theorem lW:PL Xe Pj:=cT GG rfl ⟨rfl,rfl⟩ (by kernel_rfl)
def LL (x1:Int) (x2:AP) (b0:AB):Option (Int×AB):=(if (x2.1==1)=true then ((Nr x1 x2 b0).bind fun y1=>(some (y1.1,y1.2))) else (if (x2.1==5)=true then ((Ns x1 x2.2.1 b0).bind fun y2=>(some (y2.1,y2.2))) else (if (x2.1==6)=true then (if 0<=(i64.wrap (x2.2.1-1)) then (if (i64.wrap (x2.2.1-1))<(b0.2.1.length:Int) then ((Xb (b0.2.1.getD (i64.wrap (x2.2.1-1)).toNat (0,0,false,false,false,false,([]:List Int),([]:List Y),0,0,0,0,(ByteArray.empty,ByteArray.empty,0),([]:List Int)))).bind fun y3=>((Eo y3 ([]:List Z) ([]:List AE) x1 b0).bind fun y4=>(some (0,y4)))) else none) else none) else ((R8 x1 x2 b0).bind fun y5=>(some (y5.1,y5.2))))))
theorem o4:PN LL O0:=cT Ou rfl ⟨rfl,rfl⟩ (by kernel_rfl)
def fJ:=cG Sl (AF Dp) (AF Dp) kx
def fK:=kE 0 [] [2,3] 6 fJ kx
def cN:St->Option (RT (BM.outs Dp)):=lG Sk [] [1,2,3,4] 6 (AF Dp) fK
def Fi (x0:Int) (x1:List (List Int)) (x2:List O) (x3:List Z) (x4:List AH) (x5:List O) (x6:List (List Int)) (x7:List Z) (x8 x9:List AH) (x10:List O) (x11:List (List Int)) (x12:List Z) (x13:List AH):Option AB:=cN ⟨[(1,.ptr 0 0),(2,.ptr 2 0),(3,.ptr 5 0),(4,.int .i64 x0)],[.var [.lst (.slice (.int .i64)) x1,.lst U x2,.lst AD x3,.lst AN x4],.rows 42 U x5,.var [.lst (.slice (.int .i64)) x6,.row 1,.lst AD x7,.lst AN x8],.frz AN x9,.rows 42 U x10,.var [.lst (.slice (.int .i64)) x11,.row 4,.lst AD x12,.lst AN x13]]⟩
def LN (x0:Int) (x1:List (List Int)) (x2:List O) (x3:List Z) (x4:List AH) (x5:List O) (x6:List (List Int)) (x7:List Z) (x8 x9:List AH) (x10:List O) (x11:List (List Int)) (x12:List Z) (x13:List AH):Option AB:=(if (decide (x0<(x2.length:Int)))=true then (if 0<=x0 then (if x0<(x2.length:Int) then ((C7 (x2.getD x0.toNat (0,0,false,false,false,false,([]:List Int),([]:List Y),0,0,0,0,(ByteArray.empty,ByteArray.empty,0),([]:List Int)))).bind fun y3=>(if x10.length+([y3]:List O).length<=68719476736 then (Fi (i64.wrap (x0+1)) x1 x2 x3 x4 x5 x6 x7 x8 x9 (x10++([y3]:List O)) x11 x12 x13) else none)) else none) else none) else (some (x11,x10,x12,x13)))
def Xf (x0:AB):Option AB:=((F9 x0.1).bind fun y1=>((Jh x0.2.2.1).bind fun y2=>(if ([]:List AH).length+x0.2.2.2.length<=68719476736 then (Fi 0 x0.1 x0.2.1 x0.2.2.1 x0.2.2.2 ([]:List O) ([]:List (List Int)) ([]:List Z) ([]:List AH) (([]:List AH)++x0.2.2.2) ([]:List O) y1 y2 (([]:List AH)++x0.2.2.2)) else none)))
theorem RR:xk LN Fi:=lS (by kernel_rfl)
theorem lX:PL Xf Pk:=cT Dp rfl ⟨rfl,rfl⟩ (by kernel_rfl)
def ZR (x0:Int):Option Bool:=((Af x0 1 6).bind fun y1=>(some y1))
theorem nE:PL ZR Eg:=cT M0 rfl ⟨rfl,rfl⟩ (by kernel_rfl)
def Xg (x0 x1 x2:Int):Option Bool:=(if (decide (x0>=x1))=true then (some (decide (x0<=x2))) else (some false))
theorem lY:PN Xg Af:=cT Kq rfl ⟨rfl,rfl⟩ (by kernel_rfl)
def Xh:=cG NG (AF CI) (AF CI) kx
def Xi:=kE 0 [] [] 0 Xh kx
def Wc:St->Option (RT (BM.outs CI)):=lG NF [] [0,1,2,9,10,11] 0 (AF CI) Xi
def DQ (x0:List Int) (x1 x2:Int) (x3:List Int) (x4 x5:Int):Option Bool:=Wc ⟨[(0,.lst (.int .i64) x0),(1,.int .i64 x1),(2,.int .i64 x2),(9,.lst (.int .i64) x3),(10,.int .i64 x4),(11,.int .i64 x5)],[]⟩
def HH (x0:List Int) (x1 x2:Int) (x3:List Int) (x4 x5:Int):Option Bool:=(if (decide (x5<x4))=true then (if 0<=x5 then (if x5<(x3.length:Int) then ((Af (x3.getD x5.toNat 0) x1 x2).bind fun y1=>(if (!y1)=false then (if (decide (x5>0))=true then (if 0<=(i64.wrap (x5-1)) then (if (i64.wrap (x5-1))<(x0.length:Int) then (if (decide ((x3.getD x5.toNat 0)<=(x0.getD (i64.wrap (x5-1)).toNat 0)))=true then (some false) else (DQ x0 x1 x2 x3 x4 (i64.wrap (x5+1)))) else none) else none) else (DQ x0 x1 x2 x3 x4 (i64.wrap (x5+1)))) else (some false))) else none) else none) else (some true))
def P_ (x0:List Int) (x1 x2:Int):Option Bool:=(DQ x0 x1 x2 x0 (x0.length:Int) 0)
theorem MA:rV HH DQ:=lS (by kernel_rfl)
theorem aI:PN P_ Gr:=cT CI rfl ⟨rfl,rfl⟩ (by kernel_rfl)
def fL:=cG Qu (AF Dq) (AF Dq) kx
def fM:=kE 0 [] [0] 0 fL kx
def cO:St->Option (RT (BM.outs Dq)):=lG Qt [] [0,5,6,7] 0 (AF Dq) fM
def Fj (x0 x1:List Y) (x2 x3:Int):Option Bool:=cO ⟨[(0,.lst AC x0),(5,.lst AC x1),(6,.int .i64 x2),(7,.int .i64 x3)],[]⟩
def LO (x0 x1:List Y) (x2 x3:Int):Option Bool:=(if (decide (x3<x2))=true then (if 0<=x3 then (if x3<(x1.length:Int) then ((O1 ((x1.getD x3.toNat (ByteArray.empty,ByteArray.empty,0)).1)).bind fun y1=>(if (!y1)=true then (some false) else (if (decide (((((x1.getD x3.toNat (ByteArray.empty,ByteArray.empty,0)).2).1).size:Int)>20))=true then (some false) else ((Af (((x1.getD x3.toNat (ByteArray.empty,ByteArray.empty,0)).2).2) 1 1000000000).bind fun y2=>(if (!y2)=true then (some false) else (if (decide (x3>0))=true then (if 0<=(i64.wrap (x3-1)) then (if (i64.wrap (x3-1))<(x0.length:Int) then (if ((Op.bytesLess ((x1.getD x3.toNat (ByteArray.empty,ByteArray.empty,0)).1).toList ((x0.getD (i64.wrap (x3-1)).toNat (ByteArray.empty,ByteArray.empty,0)).1).toList)||(((x1.getD x3.toNat (ByteArray.empty,ByteArray.empty,0)).1).toList==((x0.getD (i64.wrap (x3-1)).toNat (ByteArray.empty,ByteArray.empty,0)).1).toList))=true then (some false) else (Fj x0 x1 x2 (i64.wrap (x3+1)))) else none) else none) else (Fj x0 x1 x2 (i64.wrap (x3+1))))))))) else none) else none) else (some (decide ((x0.length:Int)<=12))))
def Xj (x0:List Y):Option Bool:=(Fj x0 x0 (x0.length:Int) 0)
theorem RS:iH LO Fj:=lS (by kernel_rfl)
theorem lZ:PL Xj Ex:=cT Dq rfl ⟨rfl,rfl⟩ (by kernel_rfl)
def NP (b0:O):Option (Bool×O):=(if (b0.2.2.2.2.2.2.2.2.2.1==0)=true then (if (b0.2.2.2.2.2.2.2.2.2.2.1==0)=true then (if (b0.2.2.2.2.2.2.2.2.2.2.2.1==0)=true then (if (false != UA AC b0.2.2.2.2.2.2.2.2.2.2.2.2.1 (ByteArray.empty,ByteArray.empty,0))=true then (some (((b0.2.2.2.2.2.2.2.2.2.2.2.2.2.length:Int)==0),b0)) else (some (false,b0))) else (some (false,b0))) else (some (false,b0))) else ((Af b0.2.2.2.2.2.2.2.2.2.1 1 2).bind fun y1=>(if y1=true then (if b0.2.2.2.2.2.1=true then ((Af b0.2.2.2.2.2.2.2.2.2.2.1 0 1000).bind fun y2=>(if y2=true then ((Af b0.2.2.2.2.2.2.2.2.2.2.2.1 1 900).bind fun y3=>(if y3=true then ((Gr b0.2.2.2.2.2.2.2.2.2.2.2.2.2 1 6).bind fun y4=>(some (y4,b0))) else (some (false,b0)))) else (some (false,b0)))) else (some (false,b0))) else (some (false,b0)))))
theorem Xk:PL NP Cx:=cT Fa rfl ⟨rfl,rfl⟩ (by kernel_rfl)
def nF (x0:AH):Option Bool:=(some (decide (x0.2.2.2.2.1>=0)))
theorem nG:PL nF M4:=cT M1 rfl ⟨rfl,rfl⟩ (by kernel_rfl)
def cQ (x0:AH):Option Int:=((AS x0.2.2.2.2.2.2.1 0 9).bind fun y1=>(if (!y1)=false then ((AS x0.2.2.2.2.2.2.2.1 0 999).bind fun y2=>(if (!y2)=true then (some 0) else (some (i64.wrap ((i64.wrap (1000*x0.2.2.2.2.2.2.1))+x0.2.2.2.2.2.2.2.1))))) else (some 0)))
theorem o5:PL cQ IR:=cT Ov rfl ⟨rfl,rfl⟩ (by kernel_rfl)
def NQ (x1 x2:Int) (b0:AB):Option AB:=(if 0<=x1 then (if x1<(b0.2.2.1.length:Int) then ((BV b0.2.2.1 x1 (i64.wrap (x1+1))).bind fun y1=>((Bj ((((b0.2.2.1.getD x1.toNat (0,0,0,0,0,([]:List Y))).2).2).1) (b0.1,b0.2.1,y1,b0.2.2.2)).bind fun y2=>(if (decide (y2.1>=0))=true then (if 0<=y2.1 then (if y2.1<(y2.2.2.1.length:Int) then ((K_ (y2.2.2.1.getD y2.1.toNat (0,0,false,false,false,false,([]:List Int),([]:List Y),0,0,0,0,(ByteArray.empty,ByteArray.empty,0),([]:List Int))) y2.2.1 (b0.2.2.1.getD x1.toNat (0,0,0,0,0,([]:List Y)))).bind fun y3=>(if 0<=y2.1 then (if y2.1<(y2.2.2.1.length:Int) then (let z4:List O:=y2.2.2.1.set y2.1.toNat y3.1; ((Ff y3.2.1 y3.2.2 x2 (y2.2.1,z4,y2.2.2.2)).bind fun y5=>(some y5))) else none) else none)) else none) else none) else (some y2.2)))) else none) else none)
theorem Xl:PN NQ Hq:=cT Fb rfl ⟨rfl,rfl⟩ (by kernel_rfl)
def cR (x0 x1 x2:Int):Option Bool:=(if (decide (x0>=x1))=true then (some (decide (x0<=x2))) else (some false))
theorem o6:PN cR AS:=cT Ow rfl ⟨rfl,rfl⟩ (by kernel_rfl)
def Ii (x0:List Int) (x1:Int):Option Bool:=((C8 x0 x1).bind fun y1=>(some (decide (y1>=0))))
theorem QR:QP Ii CU:=cT DP rfl ⟨rfl,rfl⟩ (by kernel_rfl)
def la:=cG XL (AF Fc) (AF Fc) kx
def lc:=kE 0 [] [] 0 la kx
def iz:St->Option (RT (BM.outs Fc)):=lG XK [] [0,1,5] 0 (AF Fc) lc
def JR (x0:List Int) (x1 x2:Int):Option Bool:=iz ⟨[(0,.lst (.int .i64) x0),(1,.int .i64 x1),(5,.int .i64 x2)],[]⟩
def Nz (x0:List Int) (x1 x2:Int):Option Bool:=(if (decide (x2<(x0.length:Int)))=true then (if 0<=x2 then (if x2<(x0.length:Int) then (if ((x0.getD x2.toNat 0)==x1)=true then (some true) else (JR x0 x1 (i64.wrap (x2+1)))) else none) else none) else (some false))
def cS (x0:List Int) (x1:Int):Option Bool:=(JR x0 x1 0)
theorem Vx:PN Nz JR:=lS (by kernel_rfl)
theorem o7:QP cS Dj:=cT Fc rfl ⟨rfl,rfl⟩ (by kernel_rfl)

def QA (b0:AO):Option (Int×AO):=(if 33<0 then none else (if 45<0 then none else (if (decide (b0.2.1<(b0.1.length:Int)))=true then (if 0<=b0.2.1 then (if b0.2.1<(b0.1.length:Int) then (some ((KU .i64 (i64.wrap ((KU .i64 (ax .i64 (Int.fdiv (i64.wrap ((i64.wrap (b0.2.2*6364136223846793005))+1442695040888963407)) (2^(min (33:Int).toNat (IntKind.bits .i64)))) (Int.fdiv (i64.wrap ((i64.wrap (b0.2.2*6364136223846793005))+1442695040888963407)) (2^(min (45:Int).toNat (IntKind.bits .i64))))) 255)+(i64.wrap (b0.1.getD b0.2.1.toNat 0)))) 255),(b0.1,(i64.wrap (b0.2.1+1)),(i64.wrap ((i64.wrap (b0.2.2*6364136223846793005))+1442695040888963407))))) else none) else none) else (some ((KU .i64 (ax .i64 (Int.fdiv (i64.wrap ((i64.wrap (b0.2.2*6364136223846793005))+1442695040888963407)) (2^(min (33:Int).toNat (IntKind.bits .i64)))) (Int.fdiv (i64.wrap ((i64.wrap (b0.2.2*6364136223846793005))+1442695040888963407)) (2^(min (45:Int).toNat (IntKind.bits .i64))))) 255),(b0.1,b0.2.1,(i64.wrap ((i64.wrap (b0.2.2*6364136223846793005))+1442695040888963407))))))))
theorem ld:PL QA Ey:=cT Kr rfl ⟨rfl,rfl⟩ (by kernel_rfl)
def N0 (x1:Int) (b0:AO):Option (Int×AO):=(if (decide (x1<=0))=true then (some (0,b0)) else (if (decide (x1<=256))=true then ((Ey b0).bind fun y1=>(if x1=0 then none else (some ((Int.tmod y1.1 x1),y1.2)))) else ((Ey b0).bind fun y2=>((Ey y2.2).bind fun y3=>((Ey y3.2).bind fun y4=>((Ey y4.2).bind fun y5=>(if x1=0 then none else (some ((Int.tmod (i64.wrap ((i64.wrap ((i64.wrap ((i64.wrap (y2.1*16777216))+(i64.wrap (y3.1*65536))))+(i64.wrap (y4.1*256))))+y5.1)) x1),y5.2)))))))))
theorem i4:QP N0 CN:=cT JK rfl ⟨rfl,rfl⟩ (by kernel_rfl)
def cU:=cG PZ (AF Bp) (AF Bp) kx
def LP:=kE 0 [(3,1)] [3] 2 cU kx
def QB:St->Option (RT (BM.outs Bp)):=lG PY [(3,1)] [0,3,4] 2 (AF Bp) LP
def cV:=kB [(3,1)] [0,3,4] 2 QB
def RU:=cG PW cV (AF Bp) LP
def cW:=kB [(3,1)] [0,3,4] 2 RU
def RV:=kE 1 [(3,1)] [0,3,4] 2 RU LP
def cX:=cG Qw cW (AF Bp) RV
def cY:=kE 2 [(3,1),(5,2)] [0,3,4,5] 3 cX RV
def aJ:St->Option (RT (BM.outs Bp)):=lG Qv [(3,1),(5,2)] [0,3,4,5,6] 3 (AF Bp) cY
def E5 (x0 x1:Int) (x2:AO) (x3:List (List Int)) (x4:List Int):Option (List (List Int)×AO):=aJ ⟨[(0,.ptr 0 0),(3,.row 1),(4,.int .i64 x0),(5,.row 2),(6,.int .i64 x1)],[.var (BA.enc x2),.rows 33 (.slice (.int .i64)) x3,.rows 3 (.int .i64) x4]⟩
def E6 (x0:Int) (x1:AO) (x2:List (List Int)):Option (List (List Int)×AO):=QB ⟨[(0,.ptr 0 0),(3,.row 1),(4,.int .i64 x0)],[.var (BA.enc x1),.rows 33 (.slice (.int .i64)) x2]⟩
def E7 (x0 x1:Int) (x2:AO) (x3:List (List Int)) (x4:List Int):Option (List (List Int)×AO):=((CN 3 x2).bind fun y2=>(if (decide (x1<(i64.wrap (1+y2.1))))=true then ((CN 4 y2.2).bind fun y3=>((Dj x4 (i64.wrap (1+y3.1))).bind fun y4=>(if (!y4)=true then (if x4.length+([(i64.wrap (1+y3.1))]:List Int).length<=68719476736 then (E5 x0 (i64.wrap (x1+1)) y3.2 x3 (x4++([(i64.wrap (1+y3.1))]:List Int))) else none) else (E5 x0 (i64.wrap (x1+1)) y3.2 x3 x4)))) else (if x3.length+([x4]:List (List Int)).length<=68719476736 then (E6 (i64.wrap (x0+1)) y2.2 (x3++([x4]:List (List Int)))) else none)))
def Gv (x0:Int) (x1:AO) (x2:List (List Int)):Option (List (List Int)×AO):=((CN 5 x1).bind fun y1=>(if (decide (x0<(i64.wrap (1+y1.1))))=true then (E5 x0 0 y1.2 x2 ([]:List Int)) else (some (x2,y1.2))))
def Vy (b0:AO):Option (List (List Int)×AO):=(E6 0 b0 ([]:List (List Int)))
theorem Gw:qp E7 E5:=lS (by kernel_rfl)
theorem Ju:PN Gv E6:=lS (by kernel_rfl)
theorem i5:PL Vy Nq:=cT Bp rfl ⟨rfl,rfl⟩ (by kernel_rfl)
def TO:=cG Qz (AF BJ) (AF BJ) kx
def TP:=kB [] [4,5] 4 TO
def TQ:=kE 0 [] [4,5] 4 TO kx
def fN:=kE 1 [] [4,5] 6 TP TQ
def cZ:St->Option (RT (BM.outs BJ)):=lG Sm [] [0,1,4,5,6] 6 (AF BJ) fN
def fO:=kE 3 [] [4,5] 4 TP TQ
def ca:St->Option (RT (BM.outs BJ)):=lG Qy [] [0,1,4,5,7] 4 (AF BJ) fO
def DB (x0:Int) (x1:AO) (x2:AB) (x3 x4:AP) (x5:List Int) (x6:List ByteArray):Option (AP×AO×AB):=cZ ⟨[(0,.ptr 0 0),(1,.ptr 1 0),(4,.ptr 2 0),(5,.ptr 3 0),(6,.int .i64 x0)],[.var (BA.enc x1),.var (Ac.enc x2),.var (AW.enc x3),.var (AW.enc x4),.frz (.int .i64) x5,.frz .str x6]⟩
def DC (x0:Int) (x1:AO) (x2:AB) (x3 x4:AP):Option (AP×AO×AB):=ca ⟨[(0,.ptr 0 0),(1,.ptr 1 0),(4,.ptr 2 0),(5,.ptr 3 0),(7,.int .i64 x0)],[.var (BA.enc x1),.var (Ac.enc x2),.var (AW.enc x3),.var (AW.enc x4)]⟩
def Fk (x0:AO) (x1:AB) (x2 x3:AP):Option (AP×AO×AB):=cG Q0 (AF BJ) (AF BJ) kx ⟨[(0,.ptr 0 0),(1,.ptr 1 0),(4,.ptr 2 0),(5,.ptr 3 0)],[.var (BA.enc x0),.var (Ac.enc x1),.var (AW.enc x2),.var (AW.enc x3)]⟩
def Aw (x0:AO) (x1:AB) (x2 x3:AP):Option (AP×AO×AB):=cG Q1 (AF BJ) (AF BJ) kx ⟨[(0,.ptr 0 0),(1,.ptr 1 0),(4,.ptr 2 0),(5,.ptr 3 0)],[.var (BA.enc x0),.var (Ac.enc x1),.var (AW.enc x2),.var (AW.enc x3)]⟩
def LQ (x0:AO) (x1:AB) (x2 x3:AP):Option (AP×AO×AB):=cG Q2 (AF BJ) (AF BJ) kx ⟨[(0,.ptr 0 0),(1,.ptr 1 0),(4,.ptr 2 0),(5,.ptr 3 0)],[.var (BA.enc x0),.var (Ac.enc x1),.var (AW.enc x2),.var (AW.enc x3)]⟩
def Fl (x0:Int) (x1:AO) (x2:AB) (x3 x4:AP) (x5:List Int) (x6:List ByteArray):Option (AP×AO×AB):=(if (decide (x0<(x2.2.1.length:Int)))=true then (if 0<=x0 then (if x0<(x2.2.1.length:Int) then (if (((((((x2.2.1.getD x0.toNat (0,0,false,false,false,false,([]:List Int),([]:List Y),0,0,0,0,(ByteArray.empty,ByteArray.empty,0),([]:List Int))).2).2).2).2).2).1)=true then ((C9 4 x1).bind fun y10=>(if (!y10.1)=true then (DB (i64.wrap (x0+1)) y10.2 x2 x3 (x4.1,(i64.wrap (x0+1)),x4.2.2) x5 x6) else (DB (i64.wrap (x0+1)) y10.2 x2 x3 x4 x5 x6))) else (DB (i64.wrap (x0+1)) x1 x2 x3 x4 x5 x6)) else none) else none) else (some (x4,x1,x2)))
def D2 (x0:Int) (x1:AO) (x2:AB) (x3 x4:AP):Option (AP×AO×AB):=(if (decide (x0<(x2.2.1.length:Int)))=true then (if 0<=x0 then (if x0<(x2.2.1.length:Int) then (if (decide ((((x2.2.1.getD x0.toNat (0,0,false,false,false,false,([]:List Int),([]:List Y),0,0,0,0,(ByteArray.empty,ByteArray.empty,0),([]:List Int))).2).1)<(x2.1.length:Int)))=true then (if 0<=(((x2.2.1.getD x0.toNat (0,0,false,false,false,false,([]:List Int),([]:List Y),0,0,0,0,(ByteArray.empty,ByteArray.empty,0),([]:List Int))).2).1) then (if (((x2.2.1.getD x0.toNat (0,0,false,false,false,false,([]:List Int),([]:List Y),0,0,0,0,(ByteArray.empty,ByteArray.empty,0),([]:List Int))).2).1)<(x2.1.length:Int) then (if 0<=(0:Int) then (if 0<((x2.1.getD (((x2.2.1.getD x0.toNat (0,0,false,false,false,false,([]:List Int),([]:List Y),0,0,0,0,(ByteArray.empty,ByteArray.empty,0),([]:List Int))).2).1).toNat ([]:List Int)).length:Int) then (if (((x2.1.getD (((x2.2.1.getD x0.toNat (0,0,false,false,false,false,([]:List Int),([]:List Y),0,0,0,0,(ByteArray.empty,ByteArray.empty,0),([]:List Int))).2).1).toNat ([]:List Int)).getD (0:Int).toNat 0)==((x2.2.1.getD x0.toNat (0,0,false,false,false,false,([]:List Int),([]:List Y),0,0,0,0,(ByteArray.empty,ByteArray.empty,0),([]:List Int))).1))=true then ((C9 3 x1).bind fun y11=>(if (!y11.1)=true then (DC (i64.wrap (x0+1)) y11.2 x2 x3 (x4.1,(x2.2.1.getD x0.toNat (0,0,false,false,false,false,([]:List Int),([]:List Y),0,0,0,0,(ByteArray.empty,ByteArray.empty,0),([]:List Int))).1,x4.2.2)) else (DC (i64.wrap (x0+1)) y11.2 x2 x3 x4))) else (DC (i64.wrap (x0+1)) x1 x2 x3 x4)) else none) else none) else none) else none) else (DC (i64.wrap (x0+1)) x1 x2 x3 x4)) else none) else none) else (some (x4,x1,x2)))
def Fm (x0:AO) (x1:AB) (x2 x3:AP):Option (AP×AO×AB):=(if (x3.1==1)=true then ((HR ([1,1,2]:List Int) x0).bind fun y7=>((LA ([(⟨#[97]⟩:ByteArray),(⟨#[98]⟩:ByteArray),(⟨#[99]⟩:ByteArray)]:List ByteArray) y7.2).bind fun y8=>(if (y7.1==1)=true then ((LA ([(⟨#[118]⟩:ByteArray),(⟨#[119]⟩:ByteArray),(⟨#[120]⟩:ByteArray),(⟨#[121]⟩:ByteArray)]:List ByteArray) y8.2).bind fun y9=>(DB 0 y9.2 x1 x2 (x3.1,x3.2.1,x3.2.2.1,y7.1,y8.1,y9.1) ([1,1,2]:List Int) ([(⟨#[97]⟩:ByteArray),(⟨#[98]⟩:ByteArray),(⟨#[99]⟩:ByteArray)]:List ByteArray))) else (DB 0 y8.2 x1 x2 (x3.1,x3.2.1,x3.2.2.1,y7.1,y8.1,x3.2.2.2.2.2) ([1,1,2]:List Int) ([(⟨#[97]⟩:ByteArray),(⟨#[98]⟩:ByteArray),(⟨#[99]⟩:ByteArray)]:List ByteArray))))) else (if (x3.1==5)=true then (DC 0 x0 x1 x2 x3) else (some (x3,x0,x1))))
def HT (x0:AO) (x1:AB) (x2 x3:AP):Option (AP×AO×AB):=(if (x3.1==2)=true then ((C9 2 x0).bind fun y6=>(if y6.1=true then (Fk y6.2 x1 x2 (x3.1,x3.2.1,0,x3.2.2.2)) else (Fk y6.2 x1 x2 x3))) else (Fk x0 x1 x2 x3))
def HU (x0:AO) (x1:AB) (x2 x3:AP):Option (AP×AO×AB):=(if ((x1.2.2.1.length:Int)==0)=true then ((AS x3.1 2 4).bind fun y4=>(if y4=true then (if ((1:Int)==6)=true then ((C9 4 x0).bind fun y5=>(if (!y5.1)=true then (Aw y5.2 x1 x2 (1,x3.2)) else (Aw y5.2 x1 x2 (1,x3.2)))) else (Aw x0 x1 x2 (1,x3.2))) else (if (x3.1==6)=true then ((C9 4 x0).bind fun y12=>(if (!y12.1)=true then (Aw y12.2 x1 x2 (1,x3.2)) else (Aw y12.2 x1 x2 x3))) else (Aw x0 x1 x2 x3)))) else (if (x3.1==6)=true then ((C9 4 x0).bind fun y13=>(if (!y13.1)=true then (Aw y13.2 x1 x2 (1,x3.2)) else (Aw y13.2 x1 x2 x3))) else (Aw x0 x1 x2 x3)))
def Xm (b0:AO) (b1:AB):Option (AP×AO×AB):=((HR ([1,1,1,2,2,2,2,2,2,2,2,3,4,5,6]:List Int) b0).bind fun y1=>((CN 4 y1.2).bind fun y2=>((CN 20 y2.2).bind fun y3=>(LQ y3.2 b1 (0,0,0,0,ByteArray.empty,ByteArray.empty) (y1.1,(i64.wrap (1+y2.1)),y3.1,0,ByteArray.empty,ByteArray.empty)))))
theorem HV:uZ Fl DB:=lS (by kernel_rfl)
theorem Fn:qp D2 DC:=lS (by kernel_rfl)
theorem HW:iH Fm Fk:=jS (by kernel_rfl)
theorem LR:iH HT Aw:=jS (by kernel_rfl)
theorem LT:iH HU LQ:=jS (by kernel_rfl)
theorem lg:QP Xm Pl:=cT BJ rfl ⟨rfl,rfl⟩ (by kernel_rfl)
def fP:=cG Q5 (AF Br) (AF Br) kx
def Mf:=kE 0 [] [0] 0 fP kx
def RW:St->Option (RT (BM.outs Br)):=lG Q4 [] [0,7,8,9] 0 (AF Br) Mf
def fQ:=kB [] [0,7,8,9] 0 RW
def TR:=cG Q3 fQ (AF Br) Mf
def TS:=kB [] [0,7,8,9] 0 TR
def Mg:=kE 1 [] [0,7,8,9] 0 TR Mf
def fR:=cG MR TS (AF Br) Mg
def fS:=kE 2 [] [0,4,7,8,9] 0 fR Mg
def cc:St->Option (RT (BM.outs Br)):=lG Sn [] [0,4,7,8,9,13,14,15] 0 (AF Br) fS
def LU (x0:List (List Int)) (x1:List Int) (x2:List (List Int)) (x3 x4:Int):Option Bool:=cG MR TS (AF Br) Mg ⟨[(0,.lst (.slice (.int .i64)) x0),(4,.lst (.int .i64) x1),(7,.lst (.slice (.int .i64)) x2),(8,.int .i64 x3),(9,.int .i64 x4)],[]⟩
def HX (x0:List (List Int)) (x1:List Int) (x2:List (List Int)) (x3 x4:Int) (x5:List Int) (x6 x7:Int):Option Bool:=cc ⟨[(0,.lst (.slice (.int .i64)) x0),(4,.lst (.int .i64) x1),(7,.lst (.slice (.int .i64)) x2),(8,.int .i64 x3),(9,.int .i64 x4),(13,.lst (.int .i64) x5),(14,.int .i64 x6),(15,.int .i64 x7)],[]⟩
def HY (x0 x1:List (List Int)) (x2 x3:Int):Option Bool:=RW ⟨[(0,.lst (.slice (.int .i64)) x0),(7,.lst (.slice (.int .i64)) x1),(8,.int .i64 x2),(9,.int .i64 x3)],[]⟩
def RX (x0:List (List Int)) (x1:List Int) (x2:List (List Int)) (x3 x4:Int):Option Bool:=((Af (x1.length:Int) 1 4).bind fun y3=>(if (!y3)=true then (some false) else (HY x0 x2 x3 (i64.wrap (x4+1)))))
def LV (x0:List (List Int)) (x1:List Int) (x2:List (List Int)) (x3 x4:Int) (x5:List Int) (x6 x7:Int):Option Bool:=(if (decide (x7<x6))=true then (if 0<=x7 then (if x7<(x5.length:Int) then ((Eg (x5.getD x7.toNat 0)).bind fun y1=>(if (!y1)=false then ((C8 x1 (x5.getD x7.toNat 0)).bind fun y2=>(if (y2 != x7)=true then (some false) else (HX x0 x1 x2 x3 x4 x5 x6 (i64.wrap (x7+1))))) else (some false))) else none) else none) else (LU x0 x1 x2 x3 x4))
def LW (x0 x1:List (List Int)) (x2 x3:Int):Option Bool:=(if (decide (x3<x2))=true then (if 0<=x3 then (if x3<(x1.length:Int) then (HX x0 (x1.getD x3.toNat ([]:List Int)) x1 x2 x3 (x1.getD x3.toNat ([]:List Int)) ((x1.getD x3.toNat ([]:List Int)).length:Int) 0) else none) else none) else ((Af (x0.length:Int) 1 9).bind fun y4=>(some y4)))
def Xn (x0:List (List Int)):Option Bool:=(HY x0 x0 (x0.length:Int) 0)
theorem cd:qp RX LU:=jS (by kernel_rfl)
theorem RY:sZ LV HX:=lS (by kernel_rfl)
theorem RZ:iH LW HY:=lS (by kernel_rfl)
theorem lh:PL Xn Dv:=cT Br rfl ⟨rfl,rfl⟩ (by kernel_rfl)
def aK:=cG Pb (AF Cs) (AF Cs) kx
def aL:=kE 0 [(3,0)] [3] 1 aK kx
def Yu:St->Option (RT (BM.outs Cs)):=lG Pa [(3,0)] [3,6,7,8] 1 (AF Cs) aL
def GA (x0:List (List Int)) (x1 x2:Int) (x3:List (List Int)):Option (List (List Int)):=Yu ⟨[(3,.row 0),(6,.lst (.slice (.int .i64)) x0),(7,.int .i64 x1),(8,.int .i64 x2)],[.rows 33 (.slice (.int .i64)) x3]⟩
def Iu (x0:List (List Int)) (x1 x2:Int) (x3:List (List Int)):Option (List (List Int)):=(if (decide (x2<x1))=true then (if 0<=x2 then (if x2<(x0.length:Int) then ((Bc (x0.getD x2.toNat ([]:List Int))).bind fun y1=>(if x3.length+([y1]:List (List Int)).length<=68719476736 then (GA x0 x1 (i64.wrap (x2+1)) (x3++([y1]:List (List Int)))) else none)) else none) else none) else (some x3))
def TU (x0:List (List Int)):Option (List (List Int)):=(GA x0 (x0.length:Int) 0 ([]:List (List Int)))
theorem OV:iH Iu GA:=lS (by kernel_rfl)
theorem fT:PL TU IS:=cT Cs rfl ⟨rfl,rfl⟩ (by kernel_rfl)
def OW (x0:Int) (x1:List (List Int)) (x2:Bool) (x3:O):Option (O×Bool):=cG Pc (AF Em) (AF Em) kx ⟨[(0,.int .i64 x0),(1,.lst (.slice (.int .i64)) x1),(4,.ptr 0 0),(14,.bool x2)],[.var (U.enc x3)]⟩
def OX (x0:Int) (x1:List (List Int)) (x2:Bool) (x3:O):Option (O×Bool):=(if 0<=(0:Int) then (if 0<(x1.length:Int) then (if 0<=(0:Int) then (if 0<((x1.getD (0:Int).toNat ([]:List Int)).length:Int) then (if 0<=(0:Int) then (if 0<(x1.length:Int) then ((CU (x1.getD (0:Int).toNat ([]:List Int)) x0).bind fun y3=>(some ((x0,1,false,y3,(((x1.getD (0:Int).toNat ([]:List Int)).getD (0:Int).toNat 0)==x0),(((x1.getD (0:Int).toNat ([]:List Int)).getD (0:Int).toNat 0)==x0),([]:List Int),([]:List Y),0,0,0,0,(ByteArray.empty,ByteArray.empty,0),([]:List Int)),true))) else none) else none) else none) else none) else none) else none)
def TV (x0:Int) (x1:List (List Int)):Option (O×Bool):=((Eg x0).bind fun y1=>(if (!y1)=false then ((Dv x1).bind fun y2=>(if (!y2)=true then (some ((0,0,false,false,false,false,([]:List Int),([]:List Y),0,0,0,0,(ByteArray.empty,ByteArray.empty,0),([]:List Int)),false)) else (OW x0 x1 (!y2) (0,0,false,false,false,false,([]:List Int),([]:List Y),0,0,0,0,(ByteArray.empty,ByteArray.empty,0),([]:List Int))))) else (some ((0,0,false,false,false,false,([]:List Int),([]:List Y),0,0,0,0,(ByteArray.empty,ByteArray.empty,0),([]:List Int)),false))))
theorem Yv:iH OX OW:=jS (by kernel_rfl)
theorem fU:QP TV MV:=cT Em rfl ⟨rfl,rfl⟩ (by kernel_rfl)
def JS (x0:Int) (x1:ByteArray) (x2:Bool):Option Bool:=cG XM (AF IK) (AF IK) kx ⟨[(0,.int .i64 x0),(3,.str x1),(26,.bool x2)],[]⟩
def N1 (x0:Int) (x1:ByteArray) (x2:Bool):Option Bool:=(if (x0==1)=false then (some (x1.toList==(⟨#[]⟩:ByteArray).toList)) else (some true))
def Uc (x0 x1:Int) (x2 x3:ByteArray):Option Bool:=((Af x0 1 2).bind fun y1=>(if (!y1)=false then ((Af x1 0 1000).bind fun y2=>(if (!y2)=false then ((O1 x2).bind fun y3=>(if (!y3)=false then (if (decide ((x3.size:Int)>20))=true then (some false) else (JS x0 x3 (decide ((x3.size:Int)>20)))) else (some false))) else (some false))) else (some false)))
theorem Vz:PN N1 JS:=jS (by kernel_rfl)
theorem cf:iH Uc K9:=cT IK rfl ⟨rfl,rfl⟩ (by kernel_rfl)
def QC (x1:AP) (x2:Int) (b0:AB):Option (Bool×AB):=(if b0.2.2.2.length+([(x1.2.2.2.1,x1.2.2.2.2.1,x1.2.2.2.2.2,x2,(-1:Int),0,0,0,ByteArray.empty)]:List AH).length<=68719476736 then ((Bj x1.2.1 (b0.1,b0.2.1,b0.2.2.1,(b0.2.2.2++([(x1.2.2.2.1,x1.2.2.2.2.1,x1.2.2.2.2.2,x2,(-1:Int),0,0,0,ByteArray.empty)]:List AH)))).bind fun y1=>(if 0<=y1.1 then (if y1.1<(y1.2.2.1.length:Int) then ((O2 (y1.2.2.1.getD y1.1.toNat (0,0,false,false,false,false,([]:List Int),([]:List Y),0,0,0,0,(ByteArray.empty,ByteArray.empty,0),([]:List Int))) y1.2.1 x1.2.2.2.1 (b0.2.2.2.length:Int) x1.2.2.2.2.1 x1.2.2.2.2.2).bind fun y2=>(if (!y2.2.2.2)=true then (some (false,y1.2)) else (if 0<=y1.1 then (if y1.1<(y1.2.2.1.length:Int) then (let z3:List O:=y1.2.2.1.set y1.1.toNat y2.1; ((Ff y2.2.1 y2.2.2.1 x2 (y1.2.1,z3,y1.2.2.2)).bind fun y4=>(some (true,y4)))) else none) else none))) else none) else none)) else none)
theorem aM:PN QC Jf:=cT Gm rfl ⟨rfl,rfl⟩ (by kernel_rfl)
def Xo:=cG Ly (AF CJ) (AF CJ) kx
def Xp:=kE 0 [] [] 5 Xo kx
def Wd:St->Option (RT (BM.outs CJ)):=lG NH [] [0,2,4,7,8] 5 (AF CJ) Xp
def DR (x0 x1 x2:Int) (x3:List (List Int)) (x4:List O) (x5:List Z) (x6:List AH) (x7:AP):Option (Bool×AB):=Wd ⟨[(0,.ptr 0 0),(2,.int .i64 x0),(4,.ptr 4 0),(7,.int .i64 x1),(8,.int .i64 x2)],[.var [.lst (.slice (.int .i64)) x3,.row 1,.row 2,.row 3],.rows 42 U x4,.rows 97 AD x5,.rows 47 AN x6,.var (AW.enc x7)]⟩
def FC (x0 x1 x2:Int) (x3:List (List Int)) (x4:List O) (x5:List Z) (x6:List AH) (x7:AP):Option (Bool×AB):=(if (decide (x2<=(x3.length:Int)))=true then (if 0<=(i64.wrap (x2-1)) then (if (i64.wrap (x2-1))<(x3.length:Int) then (if 0<=(0:Int) then (if 0<((x3.getD (i64.wrap (x2-1)).toNat ([]:List Int)).length:Int) then (if (((x3.getD (i64.wrap (x2-1)).toNat ([]:List Int)).getD (0:Int).toNat 0) != x7.2.1)=true then (DR x0 x1 (i64.wrap (x2+1)) x3 x4 x5 x6 x7) else (if 0<=x1 then (if x1<(x4.length:Int) then ((O3 (x4.getD x1.toNat (0,0,false,false,false,false,([]:List Int),([]:List Y),0,0,0,0,(ByteArray.empty,ByteArray.empty,0),([]:List Int))) x3 x2).bind fun y2=>(if y2.2.2=true then (if 0<=x1 then (if x1<(x4.length:Int) then (let z3:List O:=x4.set x1.toNat y2.1; ((Ff y2.2.1 ([]) x0 (x3,z3,x5,x6)).bind fun y4=>(some (y2.2.2,y4)))) else none) else none) else (some (y2.2.2,(x3,x4,x5,x6))))) else none) else none)) else none) else none) else none) else none) else (some (false,(x3,x4,x5,x6))))
def QD (x1:AP) (x2:Int) (b0:AB):Option (Bool×AB):=((Bj x1.2.1 b0).bind fun y1=>(if 0<=y1.1 then (if y1.1<(y1.2.2.1.length:Int) then (DR x2 y1.1 (i64.wrap ((((y1.2.2.1.getD y1.1.toNat (0,0,false,false,false,false,([]:List Int),([]:List Y),0,0,0,0,(ByteArray.empty,ByteArray.empty,0),([]:List Int))).2).1)+1)) y1.2.1 y1.2.2.1 y1.2.2.2.1 y1.2.2.2.2 x1) else none) else none))
theorem HI:sZ FC DR:=lS (by kernel_rfl)
theorem aN:PN QD Jg:=cT CJ rfl ⟨rfl,rfl⟩ (by kernel_rfl)
def OY (x1:Int) (b0:AB):Option (Int×AB):=((B5 b0.2.1 x1).bind fun y1=>(some (y1,b0)))
theorem Yw:QP OY Bj:=cT F8 rfl ⟨rfl,rfl⟩ (by kernel_rfl)
def qF (x0:O):Option O:=(some (x0.1,x0.2.1,true,false,false,false,([]:List Int),([]:List Y),0,0,0,0,(ByteArray.empty,ByteArray.empty,0),([]:List Int)))
theorem qG:PL qF RM:=cT Q6 rfl ⟨rfl,rfl⟩ (by kernel_rfl)
def NR (x1:AP) (x2:Int) (b0:AB):Option (Bool×AB):=(if ((b0.2.2.1.length:Int)==0)=true then (some (false,b0)) else (if (b0.2.2.1.length:Int)=0 then none else (if (x1.1==2)=true then ((Hq (Int.tmod x1.2.2.1 (b0.2.2.1.length:Int)) x2 b0).bind fun y1=>(some (true,y1))) else (if (x1.1==3)=true then ((BV b0.2.2.1 (Int.tmod x1.2.2.1 (b0.2.2.1.length:Int)) (i64.wrap ((Int.tmod x1.2.2.1 (b0.2.2.1.length:Int))+1))).bind fun y2=>(some (true,(b0.1,b0.2.1,y2,b0.2.2.2)))) else (if (x1.1==4)=true then (if 0<=(Int.tmod x1.2.2.1 (b0.2.2.1.length:Int)) then (if (Int.tmod x1.2.2.1 (b0.2.2.1.length:Int))<(b0.2.2.1.length:Int) then ((GN (b0.2.2.1.getD ((Int.tmod x1.2.2.1 (b0.2.2.1.length:Int)).toNat) (0,0,0,0,0,([]:List Y)))).bind fun y3=>(if b0.2.2.1.length+([y3]:List Z).length<=68719476736 then (some (true,(b0.1,b0.2.1,(b0.2.2.1++([y3]:List Z)),b0.2.2.2))) else none)) else none) else none) else (some (true,b0)))))))
theorem Xq:PN NR Hr:=cT Fd rfl ⟨rfl,rfl⟩ (by kernel_rfl)
def Ra (x0:O):Option O:=((Bc x0.2.2.2.2.2.2.1).bind fun y1=>((Ag x0.2.2.2.2.2.2.2.1).bind fun y2=>((Bc x0.2.2.2.2.2.2.2.2.2.2.2.2.2).bind fun y3=>(some (x0.1,x0.2.1,x0.2.2.1,x0.2.2.2.1,x0.2.2.2.2.1,x0.2.2.2.2.2.1,y1,y2,x0.2.2.2.2.2.2.2.2.1,x0.2.2.2.2.2.2.2.2.2.1,x0.2.2.2.2.2.2.2.2.2.2.1,x0.2.2.2.2.2.2.2.2.2.2.2.1,x0.2.2.2.2.2.2.2.2.2.2.2.2.1,y3)))))
theorem cg:PL Ra Cc:=cT HN rfl ⟨rfl,rfl⟩ (by kernel_rfl)
def Xr (x0:Z):Option Z:=((Ag x0.2.2.2.2.2).bind fun y1=>(some (x0.1,x0.2.1,x0.2.2.1,x0.2.2.2.1,x0.2.2.2.2.1,y1)))
theorem ln:PL Xr GN:=cT Kt rfl ⟨rfl,rfl⟩ (by kernel_rfl)
def fV:=cG Sp (AF Dr) (AF Dr) kx
def fW:=kE 0 [] [0] 0 fV kx
def ci:St->Option (RT (BM.outs Dr)):=lG So [] [0,3] 0 (AF Dr) fW
def HZ (x0:List (List Int)) (x1:Int):Option Bool:=ci ⟨[(0,.lst (.slice (.int .i64)) x0),(3,.int .i64 x1)],[]⟩
def LX (x0:List (List Int)) (x1:Int):Option Bool:=(if (decide (x1<(x0.length:Int)))=true then (if 0<=x1 then (if x1<(x0.length:Int) then ((Pm (x0.getD x1.toNat ([]:List Int))).bind fun y1=>(if (!y1)=true then (some false) else (HZ x0 (i64.wrap (x1+1))))) else none) else none) else ((AS (x0.length:Int) 1 9).bind fun y2=>(some y2)))
def Xs (x0:List (List Int)):Option Bool:=(HZ x0 0)
theorem Rb:QP LX HZ:=lS (by kernel_rfl)
theorem lq:PL Xs Dw:=cT Dr rfl ⟨rfl,rfl⟩ (by kernel_rfl)
def We:=cG L5 (AF CC) (AF CC) kx
def Wf:=kE 0 [(3,0)] [3] 1 We kx
def Ud:St->Option (RT (BM.outs CC)):=lG Lz [(3,0)] [0,3,4] 1 (AF CC) Wf
def ET (x0:List (List Int)) (x1:Int) (x2:List (List Int)):Option (List (List Int)):=Ud ⟨[(0,.lst (.slice (.int .i64)) x0),(3,.row 0),(4,.int .i64 x1)],[.rows 33 (.slice (.int .i64)) x2]⟩
def Gx (x0:List (List Int)) (x1:Int) (x2:List (List Int)):Option (List (List Int)):=(if (decide (x1<(x0.length:Int)))=true then (if 0<=x1 then (if x1<(x0.length:Int) then (if ([]:List Int).length+(x0.getD x1.toNat ([]:List Int)).length<=68719476736 then (if x2.length+([(([]:List Int)++(x0.getD x1.toNat ([]:List Int)))]:List (List Int)).length<=68719476736 then (ET x0 (i64.wrap (x1+1)) (x2++([(([]:List Int)++(x0.getD x1.toNat ([]:List Int)))]:List (List Int)))) else none) else none) else none) else none) else (some x2))
def OZ (x0:List (List Int)):Option (List (List Int)):=(ET x0 0 ([]:List (List Int)))
theorem LY:PN Gx ET:=lS (by kernel_rfl)
theorem Yx:PL OZ F9:=cT CC rfl ⟨rfl,rfl⟩ (by kernel_rfl)
def Oa (x0:Int) (x1:List (List Int)) (x2:Bool) (x3:O):Option (O×Bool):=cG Pd (AF En) (AF En) kx ⟨[(0,.int .i64 x0),(1,.lst (.slice (.int .i64)) x1),(4,.ptr 0 0),(14,.bool x2)],[.var (U.enc x3)]⟩
def Ob (x0:Int) (x1:List (List Int)) (x2:Bool) (x3:O):Option (O×Bool):=(if 0<=(0:Int) then (if 0<(x1.length:Int) then ((Dj (x1.getD (0:Int).toNat ([]:List Int)) x0).bind fun y3=>(if 0<=(0:Int) then (if 0<(x1.length:Int) then (if 0<=(0:Int) then (if 0<((x1.getD (0:Int).toNat ([]:List Int)).length:Int) then (some ((x0,1,false,y3,(((x1.getD (0:Int).toNat ([]:List Int)).getD (0:Int).toNat 0)==x0),(((x1.getD (0:Int).toNat ([]:List Int)).getD (0:Int).toNat 0)==x0),([]:List Int),([]:List Y),0,0,0,0,(ByteArray.empty,ByteArray.empty,0),([]:List Int)),true)) else none) else none) else none) else none)) else none) else none)
def TW (x0:Int) (x1:List (List Int)):Option (O×Bool):=((Dw x1).bind fun y1=>(if (!y1)=false then ((AS x0 1 6).bind fun y2=>(if (!y2)=true then (some ((0,0,false,false,false,false,([]:List Int),([]:List Y),0,0,0,0,(ByteArray.empty,ByteArray.empty,0),([]:List Int)),false)) else (Oa x0 x1 (!y2) (0,0,false,false,false,false,([]:List Int),([]:List Y),0,0,0,0,(ByteArray.empty,ByteArray.empty,0),([]:List Int))))) else (some ((0,0,false,false,false,false,([]:List Int),([]:List Y),0,0,0,0,(ByteArray.empty,ByteArray.empty,0),([]:List Int)),false))))
theorem Yy:iH Ob Oa:=jS (by kernel_rfl)
theorem fX:QP TW MW:=cT En rfl ⟨rfl,rfl⟩ (by kernel_rfl)
def V0 (x1:Int) (x2:AP) (b0:AB):Option (Int×AB):=(if ([]:List AH).length+b0.2.2.2.length<=68719476736 then (if (([]:List AH)++b0.2.2.2).length+([(x2.2.2.2.1,x2.2.2.2.2.1,x2.2.2.2.2.2,x1,(-1:Int),0,0,0,ByteArray.empty)]:List AH).length<=68719476736 then (if 0<=(i64.wrap (x2.2.1-1)) then (if (i64.wrap (x2.2.1-1))<(b0.2.1.length:Int) then ((UY (b0.2.1.getD (i64.wrap (x2.2.1-1)).toNat (0,0,false,false,false,false,([]:List Int),([]:List Y),0,0,0,0,(ByteArray.empty,ByteArray.empty,0),([]:List Int))) b0.1 x2.2.2.2.1 (i64.wrap ((((([]:List AH)++b0.2.2.2)++([(x2.2.2.2.1,x2.2.2.2.2.1,x2.2.2.2.2.2,x1,(-1:Int),0,0,0,ByteArray.empty)]:List AH)).length:Int)-1)) x2.2.2.2.2.1 x2.2.2.2.2.2).bind fun y1=>(if (!y1.2.2.2)=true then (some (1,(b0.1,b0.2.1,b0.2.2.1,((([]:List AH)++b0.2.2.2)++([(x2.2.2.2.1,x2.2.2.2.2.1,x2.2.2.2.2.2,x1,(-1:Int),0,0,0,ByteArray.empty)]:List AH))))) else ((Eo y1.1 y1.2.1 y1.2.2.1 x1 (b0.1,b0.2.1,b0.2.2.1,((([]:List AH)++b0.2.2.2)++([(x2.2.2.2.1,x2.2.2.2.2.1,x2.2.2.2.2.2,x1,(-1:Int),0,0,0,ByteArray.empty)]:List AH)))).bind fun y2=>(some (0,y2))))) else none) else none) else none) else none)
theorem i6:PN V0 Nr:=cT JL rfl ⟨rfl,rfl⟩ (by kernel_rfl)
def cj:=cG Pe (AF DM) (AF DM) kx
def cm:=kE 0 [] [] 2 cj kx
def aO:St->Option (RT (BM.outs DM)):=lG Q7 [] [0,1,2,7,8] 2 (AF DM) cm
def Gy (x0 x1 x2:Int) (x3:AB) (x4:O):Option (Int×AB):=aO ⟨[(0,.ptr 0 0),(1,.int .i64 x0),(2,.int .i64 x1),(7,.ptr 1 0),(8,.int .i64 x2)],[.var (Ac.enc x3),.var (U.enc x4)]⟩
def Gz (x0 x1 x2:Int) (x3:AB) (x4:O):Option (Int×AB):=(if (decide (x2<=(x3.1.length:Int)))=true then (if 0<=(i64.wrap (x2-1)) then (if (i64.wrap (x2-1))<(x3.1.length:Int) then (if 0<=(0:Int) then (if 0<((x3.1.getD (i64.wrap (x2-1)).toNat ([]:List Int)).length:Int) then (if (((x3.1.getD (i64.wrap (x2-1)).toNat ([]:List Int)).getD (0:Int).toNat 0) != x1)=true then (Gy x0 x1 (i64.wrap (x2+1)) x3 x4) else ((UZ x4 x3.1 x2).bind fun y1=>(if (!y1.2.2)=true then (some (1,x3)) else ((Eo y1.1 y1.2.1 ([]:List AE) x0 x3).bind fun y2=>(some (0,y2)))))) else none) else none) else none) else none) else (some (1,x3)))
def N2 (x1 x2:Int) (b0:AB):Option (Int×AB):=(if 0<=(i64.wrap (x2-1)) then (if (i64.wrap (x2-1))<(b0.2.1.length:Int) then (Gy x1 x2 (i64.wrap ((((b0.2.1.getD (i64.wrap (x2-1)).toNat (0,0,false,false,false,false,([]:List Int),([]:List Y),0,0,0,0,(ByteArray.empty,ByteArray.empty,0),([]:List Int))).2).1)+1)) b0 (b0.2.1.getD (i64.wrap (x2-1)).toNat (0,0,false,false,false,false,([]:List Int),([]:List Y),0,0,0,0,(ByteArray.empty,ByteArray.empty,0),([]:List Int)))) else none) else none)
theorem Jv:qp Gz Gy:=lS (by kernel_rfl)
theorem V5:PN N2 Ns:=cT DM rfl ⟨rfl,rfl⟩ (by kernel_rfl)
def Jw:=kE 0 [] [] 4 (AF CR) kx
def Oc:St->Option (RT (BM.outs CR)):=lG OI [] [0,3,4,11] 4 (AF CR) Jw
def aP:=kB [] [0,3,4,11] 4 Oc
def QE:=cG OH aP (AF CR) Jw
def aQ:=kB [] [0,3,4,11] 4 QE
def aR:=kE 1 [] [0,3,4,11] 4 QE Jw
def Od (x0:List AE) (x1 x2:Int) (x3:Bool) (x4:AB) (x5:O) (x6:List O) (x7:List Z) (x8:AE):Option AB:=cG OG aQ (AF CR) aR ⟨[(0,.ptr 0 0),(3,.lst Ar x0),(4,.int .i64 x1),(11,.int .i64 x2),(12,.ptr 4 0),(71,.bool x3)],[.var (Ac.enc x4),.var (U.enc x5),.frz U x6,.frz AD x7,.var (Ar.enc x8)]⟩
def CX (x0:List AE) (x1 x2:Int) (x3:AB) (x4:O) (x5:List O) (x6:List Z):Option AB:=Oc ⟨[(0,.ptr 0 0),(3,.lst Ar x0),(4,.int .i64 x1),(11,.int .i64 x2)],[.var (Ac.enc x3),.var (U.enc x4),.frz U x5,.frz AD x6]⟩
def Oe (x0:List AE) (x1 x2:Int) (x3:Bool) (x4:AB) (x5:O) (x6:List O) (x7:List Z) (x8:AE):Option AB:=(if ([]:List AH).length+x4.2.2.2.length<=68719476736 then (if 0<=x8.1 then (if x8.1<((([]:List AH)++x4.2.2.2).length:Int) then (let z2:List AH:=(([]:List AH)++x4.2.2.2).set x8.1.toNat (((([]:List AH)++x4.2.2.2).getD x8.1.toNat (0,ByteArray.empty,ByteArray.empty,0,0,0,0,0,ByteArray.empty)).1,(((([]:List AH)++x4.2.2.2).getD x8.1.toNat (0,ByteArray.empty,ByteArray.empty,0,0,0,0,0,ByteArray.empty)).2).1,((((([]:List AH)++x4.2.2.2).getD x8.1.toNat (0,ByteArray.empty,ByteArray.empty,0,0,0,0,0,ByteArray.empty)).2).2).1,(((((([]:List AH)++x4.2.2.2).getD x8.1.toNat (0,ByteArray.empty,ByteArray.empty,0,0,0,0,0,ByteArray.empty)).2).2).2).1,x1,((((((([]:List AH)++x4.2.2.2).getD x8.1.toNat (0,ByteArray.empty,ByteArray.empty,0,0,0,0,0,ByteArray.empty)).2).2).2).2).2); (let z3:List AH:=z2.set x8.1.toNat ((z2.getD x8.1.toNat (0,ByteArray.empty,ByteArray.empty,0,0,0,0,0,ByteArray.empty)).1,((z2.getD x8.1.toNat (0,ByteArray.empty,ByteArray.empty,0,0,0,0,0,ByteArray.empty)).2).1,(((z2.getD x8.1.toNat (0,ByteArray.empty,ByteArray.empty,0,0,0,0,0,ByteArray.empty)).2).2).1,((((z2.getD x8.1.toNat (0,ByteArray.empty,ByteArray.empty,0,0,0,0,0,ByteArray.empty)).2).2).2).1,(((((z2.getD x8.1.toNat (0,ByteArray.empty,ByteArray.empty,0,0,0,0,0,ByteArray.empty)).2).2).2).2).1,x8.2.2.2.2.2,((((((z2.getD x8.1.toNat (0,ByteArray.empty,ByteArray.empty,0,0,0,0,0,ByteArray.empty)).2).2).2).2).2).2); (let z4:List AH:=z3.set x8.1.toNat ((z3.getD x8.1.toNat (0,ByteArray.empty,ByteArray.empty,0,0,0,0,0,ByteArray.empty)).1,((z3.getD x8.1.toNat (0,ByteArray.empty,ByteArray.empty,0,0,0,0,0,ByteArray.empty)).2).1,(((z3.getD x8.1.toNat (0,ByteArray.empty,ByteArray.empty,0,0,0,0,0,ByteArray.empty)).2).2).1,((((z3.getD x8.1.toNat (0,ByteArray.empty,ByteArray.empty,0,0,0,0,0,ByteArray.empty)).2).2).2).1,(((((z3.getD x8.1.toNat (0,ByteArray.empty,ByteArray.empty,0,0,0,0,0,ByteArray.empty)).2).2).2).2).1,((((((z3.getD x8.1.toNat (0,ByteArray.empty,ByteArray.empty,0,0,0,0,0,ByteArray.empty)).2).2).2).2).2).1,x8.2.1,(((((((z3.getD x8.1.toNat (0,ByteArray.empty,ByteArray.empty,0,0,0,0,0,ByteArray.empty)).2).2).2).2).2).2).2); (let z5:List AH:=z4.set x8.1.toNat ((z4.getD x8.1.toNat (0,ByteArray.empty,ByteArray.empty,0,0,0,0,0,ByteArray.empty)).1,((z4.getD x8.1.toNat (0,ByteArray.empty,ByteArray.empty,0,0,0,0,0,ByteArray.empty)).2).1,(((z4.getD x8.1.toNat (0,ByteArray.empty,ByteArray.empty,0,0,0,0,0,ByteArray.empty)).2).2).1,((((z4.getD x8.1.toNat (0,ByteArray.empty,ByteArray.empty,0,0,0,0,0,ByteArray.empty)).2).2).2).1,(((((z4.getD x8.1.toNat (0,ByteArray.empty,ByteArray.empty,0,0,0,0,0,ByteArray.empty)).2).2).2).2).1,((((((z4.getD x8.1.toNat (0,ByteArray.empty,ByteArray.empty,0,0,0,0,0,ByteArray.empty)).2).2).2).2).2).1,(((((((z4.getD x8.1.toNat (0,ByteArray.empty,ByteArray.empty,0,0,0,0,0,ByteArray.empty)).2).2).2).2).2).2).1,x8.2.2.1,((((((((z4.getD x8.1.toNat (0,ByteArray.empty,ByteArray.empty,0,0,0,0,0,ByteArray.empty)).2).2).2).2).2).2).2).2); (if (((z5.getD x8.1.toNat (0,ByteArray.empty,ByteArray.empty,0,0,0,0,0,ByteArray.empty)).1)==2)=true then (let z6:List AH:=z5.set x8.1.toNat ((z5.getD x8.1.toNat (0,ByteArray.empty,ByteArray.empty,0,0,0,0,0,ByteArray.empty)).1,((z5.getD x8.1.toNat (0,ByteArray.empty,ByteArray.empty,0,0,0,0,0,ByteArray.empty)).2).1,(((z5.getD x8.1.toNat (0,ByteArray.empty,ByteArray.empty,0,0,0,0,0,ByteArray.empty)).2).2).1,((((z5.getD x8.1.toNat (0,ByteArray.empty,ByteArray.empty,0,0,0,0,0,ByteArray.empty)).2).2).2).1,(((((z5.getD x8.1.toNat (0,ByteArray.empty,ByteArray.empty,0,0,0,0,0,ByteArray.empty)).2).2).2).2).1,((((((z5.getD x8.1.toNat (0,ByteArray.empty,ByteArray.empty,0,0,0,0,0,ByteArray.empty)).2).2).2).2).2).1,(((((((z5.getD x8.1.toNat (0,ByteArray.empty,ByteArray.empty,0,0,0,0,0,ByteArray.empty)).2).2).2).2).2).2).1,((((((((z5.getD x8.1.toNat (0,ByteArray.empty,ByteArray.empty,0,0,0,0,0,ByteArray.empty)).2).2).2).2).2).2).2).1,x8.2.2.2.2.1); (CX x0 x1 (i64.wrap (x2+1)) (x4.1,x4.2.1,x4.2.2.1,z6) x5 x6 x7)) else (CX x0 x1 (i64.wrap (x2+1)) (x4.1,x4.2.1,x4.2.2.1,z5) x5 x6 x7)))))) else none) else none) else none)
def Iv (x0:List AE) (x1 x2:Int) (x3:AB) (x4:O) (x5:List O) (x6:List Z):Option AB:=(if (decide (x2<(x0.length:Int)))=true then (if 0<=x2 then (if x2<(x0.length:Int) then (if (decide (((x0.getD x2.toNat (0,0,0,ByteArray.empty,ByteArray.empty,0)).1)>=(x3.2.2.2.length:Int)))=true then (CX x0 x1 (i64.wrap (x2+1)) x3 x4 x5 x6) else (if 0<=((x0.getD x2.toNat (0,0,0,ByteArray.empty,ByteArray.empty,0)).1) then (if ((x0.getD x2.toNat (0,0,0,ByteArray.empty,ByteArray.empty,0)).1)<(x3.2.2.2.length:Int) then (if (decide (((((((x3.2.2.2.getD ((x0.getD x2.toNat (0,0,0,ByteArray.empty,ByteArray.empty,0)).1).toNat (0,ByteArray.empty,ByteArray.empty,0,0,0,0,0,ByteArray.empty)).2).2).2).2).1)>=0))=true then (CX x0 x1 (i64.wrap (x2+1)) x3 x4 x5 x6) else (Od x0 x1 x2 (decide (((((((x3.2.2.2.getD ((x0.getD x2.toNat (0,0,0,ByteArray.empty,ByteArray.empty,0)).1).toNat (0,ByteArray.empty,ByteArray.empty,0,0,0,0,0,ByteArray.empty)).2).2).2).2).1)>=0)) x3 x4 x5 x6 (x0.getD x2.toNat (0,0,0,ByteArray.empty,ByteArray.empty,0)))) else none) else none)) else none) else none) else (some x3))
def TX (x1:O) (x2:List Z) (x3:List AE) (x4:Int) (b0:AB):Option AB:=(if ([]:List O).length+b0.2.1.length<=68719476736 then (if 0<=(i64.wrap (x1.1-1)) then (if (i64.wrap (x1.1-1))<((([]:List O)++b0.2.1).length:Int) then (let z1:List O:=(([]:List O)++b0.2.1).set ((i64.wrap (x1.1-1)).toNat) x1; (if ([]:List Z).length+b0.2.2.1.length<=68719476736 then (if (([]:List Z)++b0.2.2.1).length+x2.length<=68719476736 then (CX x3 x4 0 (b0.1,z1,((([]:List Z)++b0.2.2.1)++x2),b0.2.2.2) x1 z1 ((([]:List Z)++b0.2.2.1)++x2)) else none) else none)) else none) else none) else none)
theorem Yz:wY Oe Od:=jS (by kernel_rfl)
theorem Of:uZ Iv CX:=lS (by kernel_rfl)
theorem fY:qp TX Eo:=cT CR rfl ⟨rfl,rfl⟩ (by kernel_rfl)
def qH (x0:O):Option O:=(some (x0.1,x0.2.1,true,false,false,false,([]:List Int),([]:List Y),0,0,0,0,(ByteArray.empty,ByteArray.empty,0),([]:List Int)))
theorem qI:PL qH Xb:=cT Q8 rfl ⟨rfl,rfl⟩ (by kernel_rfl)
def R_ (x1:Int) (x2:AP) (b0:AB):Option (Int×AB):=(if ((b0.2.2.1.length:Int)==0)=true then (some (1,b0)) else (if (b0.2.2.1.length:Int)=0 then none else (if 0<=(Int.tmod x2.2.2.1 (b0.2.2.1.length:Int)) then (if (Int.tmod x2.2.2.1 (b0.2.2.1.length:Int))<(b0.2.2.1.length:Int) then (if (x2.1==4)=true then (if ([]:List Z).length+b0.2.2.1.length<=68719476736 then (if (([]:List Z)++b0.2.2.1).length+([b0.2.2.1.getD (Int.tmod x2.2.2.1 (b0.2.2.1.length:Int)).toNat (0,0,0,0,0,([]:List Y))]:List Z).length<=68719476736 then (some (0,(b0.1,b0.2.1,((([]:List Z)++b0.2.2.1)++([b0.2.2.1.getD (Int.tmod x2.2.2.1 (b0.2.2.1.length:Int)).toNat (0,0,0,0,0,([]:List Y))]:List Z)),b0.2.2.2))) else none) else none) else (if 0<=(0:Int) then (if 0<=(Int.tmod x2.2.2.1 (b0.2.2.1.length:Int)) then (if (Int.tmod x2.2.2.1 (b0.2.2.1.length:Int))<=(b0.2.2.1.length:Int) then (if 0<=(i64.wrap ((Int.tmod x2.2.2.1 (b0.2.2.1.length:Int))+1)) then (if (i64.wrap ((Int.tmod x2.2.2.1 (b0.2.2.1.length:Int))+1))<=(b0.2.2.1.length:Int) then (if (b0.2.2.1.length:Int)<=(b0.2.2.1.length:Int) then (if ([]:List Z).length+((b0.2.2.1.take (Int.tmod x2.2.2.1 (b0.2.2.1.length:Int)).toNat).drop (0:Int).toNat).length<=68719476736 then (if (([]:List Z)++((b0.2.2.1.take (Int.tmod x2.2.2.1 (b0.2.2.1.length:Int)).toNat).drop (0:Int).toNat)).length+((b0.2.2.1.take (b0.2.2.1.length:Int).toNat).drop (i64.wrap ((Int.tmod x2.2.2.1 (b0.2.2.1.length:Int))+1)).toNat).length<=68719476736 then (if (x2.1==3)=true then (some (0,(b0.1,b0.2.1,((([]:List Z)++((b0.2.2.1.take (Int.tmod x2.2.2.1 (b0.2.2.1.length:Int)).toNat).drop (0:Int).toNat))++((b0.2.2.1.take (b0.2.2.1.length:Int).toNat).drop (i64.wrap ((Int.tmod x2.2.2.1 (b0.2.2.1.length:Int))+1)).toNat)),b0.2.2.2))) else (if 0<=(i64.wrap (((((b0.2.2.1.getD (Int.tmod x2.2.2.1 (b0.2.2.1.length:Int)).toNat (0,0,0,0,0,([]:List Y))).2).2).1)-1)) then (if (i64.wrap (((((b0.2.2.1.getD (Int.tmod x2.2.2.1 (b0.2.2.1.length:Int)).toNat (0,0,0,0,0,([]:List Y))).2).2).1)-1))<(b0.2.1.length:Int) then ((Pn (b0.2.1.getD (i64.wrap (((((b0.2.2.1.getD (Int.tmod x2.2.2.1 (b0.2.2.1.length:Int)).toNat (0,0,0,0,0,([]:List Y))).2).2).1)-1)).toNat (0,0,false,false,false,false,([]:List Int),([]:List Y),0,0,0,0,(ByteArray.empty,ByteArray.empty,0),([]:List Int))) b0.1 (b0.2.2.1.getD (Int.tmod x2.2.2.1 (b0.2.2.1.length:Int)).toNat (0,0,0,0,0,([]:List Y)))).bind fun y1=>((Eo y1.1 y1.2.1 y1.2.2 x1 (b0.1,b0.2.1,((([]:List Z)++((b0.2.2.1.take (Int.tmod x2.2.2.1 (b0.2.2.1.length:Int)).toNat).drop (0:Int).toNat))++((b0.2.2.1.take (b0.2.2.1.length:Int).toNat).drop (i64.wrap ((Int.tmod x2.2.2.1 (b0.2.2.1.length:Int))+1)).toNat)),b0.2.2.2)).bind fun y2=>(some (0,y2)))) else none) else none)) else none) else none) else none) else none) else none) else none) else none) else none)) else none) else none)))
theorem nH:PN R_ R8:=cT M2 rfl ⟨rfl,rfl⟩ (by kernel_rfl)
def Xt:=cG NJ (AF CK) (AF CK) kx
def Xu:=kE 0 [(3,0)] [3] 1 Xt kx
def Wg:St->Option (RT (BM.outs CK)):=lG NI [(3,0)] [0,3,4] 1 (AF CK) Xu
def DS (x0:List Z) (x1:Int) (x2:List Z):Option (List Z):=Wg ⟨[(0,.lst AD x0),(3,.row 0),(4,.int .i64 x1)],[.rows 97 AD x2]⟩
def HJ (x0:List Z) (x1:Int) (x2:List Z):Option (List Z):=(if (decide (x1<(x0.length:Int)))=true then (if 0<=x1 then (if x1<(x0.length:Int) then (if ([]:List Y).length+((((((x0.getD x1.toNat (0,0,0,0,0,([]:List Y))).2).2).2).2).2).length<=68719476736 then (if x2.length+([((x0.getD x1.toNat (0,0,0,0,0,([]:List Y))).1,((x0.getD x1.toNat (0,0,0,0,0,([]:List Y))).2).1,(((x0.getD x1.toNat (0,0,0,0,0,([]:List Y))).2).2).1,((((x0.getD x1.toNat (0,0,0,0,0,([]:List Y))).2).2).2).1,(((((x0.getD x1.toNat (0,0,0,0,0,([]:List Y))).2).2).2).2).1,(([]:List Y)++((((((x0.getD x1.toNat (0,0,0,0,0,([]:List Y))).2).2).2).2).2)))]:List Z).length<=68719476736 then (DS x0 (i64.wrap (x1+1)) (x2++([((x0.getD x1.toNat (0,0,0,0,0,([]:List Y))).1,((x0.getD x1.toNat (0,0,0,0,0,([]:List Y))).2).1,(((x0.getD x1.toNat (0,0,0,0,0,([]:List Y))).2).2).1,((((x0.getD x1.toNat (0,0,0,0,0,([]:List Y))).2).2).2).1,(((((x0.getD x1.toNat (0,0,0,0,0,([]:List Y))).2).2).2).2).1,(([]:List Y)++((((((x0.getD x1.toNat (0,0,0,0,0,([]:List Y))).2).2).2).2).2)))]:List Z))) else none) else none) else none) else none) else (some x2))
def QF (x0:List Z):Option (List Z):=(DS x0 0 ([]:List Z))
theorem MB:PN HJ DS:=lS (by kernel_rfl)
theorem aS:PL QF Jh:=cT CK rfl ⟨rfl,rfl⟩ (by kernel_rfl)
def Xv (x0:O):Option O:=(if ([]:List Int).length+x0.2.2.2.2.2.2.1.length<=68719476736 then (if ([]:List Y).length+x0.2.2.2.2.2.2.2.1.length<=68719476736 then (if ([]:List Int).length+x0.2.2.2.2.2.2.2.2.2.2.2.2.2.length<=68719476736 then (some (x0.1,x0.2.1,x0.2.2.1,x0.2.2.2.1,x0.2.2.2.2.1,x0.2.2.2.2.2.1,(([]:List Int)++x0.2.2.2.2.2.2.1),(([]:List Y)++x0.2.2.2.2.2.2.2.1),x0.2.2.2.2.2.2.2.2.1,x0.2.2.2.2.2.2.2.2.2.1,x0.2.2.2.2.2.2.2.2.2.2.1,x0.2.2.2.2.2.2.2.2.2.2.2.1,x0.2.2.2.2.2.2.2.2.2.2.2.2.1,(([]:List Int)++x0.2.2.2.2.2.2.2.2.2.2.2.2.2))) else none) else none) else none)
theorem lr:PL Xv C7:=cT Ku rfl ⟨rfl,rfl⟩ (by kernel_rfl)
def cn (x0:ByteArray):Option Bool:=((Af (x0.size:Int) 1 12).bind fun y1=>(some y1))
theorem o8:PL cn O1:=cT Ox rfl ⟨rfl,rfl⟩ (by kernel_rfl)
def Rc (x0:List (List Int)) (x1:Bool) (x2:O) (x3:Z) (x4 x5:O):Option (O×List Z×List AE):=cG Sq (AF GH) (AF GH) kx ⟨[(1,.lst (.slice (.int .i64)) x0),(5,.ptr 1 0),(6,.ptr 2 0),(9,.ptr 3 0),(47,.bool x1)],[.var (U.enc x2),.var (AD.enc x3),.var (U.enc x4),.var (U.enc x5)]⟩
def Rd (x0:List (List Int)) (x1:Bool) (x2:O) (x3:Z) (x4 x5:O):Option (O×List Z×List AE):=((Ji x0 x3 x5).bind fun y5=>((Cc y5.2.2).bind fun y6=>(some (y6,y5.1,y5.2.1))))
def Xw (x0:O) (x1:List (List Int)) (x2:Z):Option (O×List Z×List AE):=((Cc x0).bind fun y1=>(if (x2.2.2.1 != x0.1)=false then (if (decide (x2.2.2.2.1<x0.2.1))=false then (if (decide (x2.2.2.2.1>(x1.length:Int)))=false then ((FQ x0).bind fun y2=>(if (!y2)=false then ((Dv x1).bind fun y3=>(if (!y3)=false then ((Ua x2).bind fun y4=>(if (!y4)=true then (some (y1,[],[])) else (Rc x1 (!y4) x0 x2 (0,0,false,false,false,false,([]:List Int),([]:List Y),0,0,0,0,(ByteArray.empty,ByteArray.empty,0),([]:List Int)) y1))) else (some (y1,[],[])))) else (some (y1,[],[])))) else (some (y1,[],[]))) else (some (y1,[],[]))) else (some (y1,[],[]))))
theorem cp:rV Rd Rc:=jS (by kernel_rfl)
theorem lu:PN Xw K_:=cT GH rfl ⟨rfl,rfl⟩ (by kernel_rfl)

def Iw:=kE 0 [] [] 4 (AF CE) kx
def NS:St->Option (RT (BM.outs CE)):=lG OL [] [0,3,20,21,22] 4 (AF CE) Iw
def Y0:=kB [] [0,3,20,21,22] 4 NS
def Og:=cG OK Y0 (AF CE) Iw
def Y1:=kB [] [0,3,20,21,22] 4 Og
def Y2:=kE 1 [] [0,3,20,21,22] 4 Og Iw
def NT (x0:Int) (x1:List AE) (x2 x3:Int) (x4:Bool) (x5:List (List Int)) (x6:List O) (x7:List Z) (x8:List AH) (x9:AE):Option AB:=cG OJ Y1 (AF CE) Y2 ⟨[(0,.ptr 0 0),(3,.int .i64 x0),(9,.ptr 4 0),(20,.lst Ar x1),(21,.int .i64 x2),(22,.int .i64 x3),(47,.bool x4)],[.var [.lst (.slice (.int .i64)) x5,.row 1,.row 2,.row 3],.rows 42 U x6,.rows 97 AD x7,.rows 47 AN x8,.var (Ar.enc x9)]⟩
def CL (x0:Int) (x1:List AE) (x2 x3:Int) (x4:List (List Int)) (x5:List O) (x6:List Z) (x7:List AH):Option AB:=NS ⟨[(0,.ptr 0 0),(3,.int .i64 x0),(20,.lst Ar x1),(21,.int .i64 x2),(22,.int .i64 x3)],[.var [.lst (.slice (.int .i64)) x4,.row 1,.row 2,.row 3],.rows 42 U x5,.rows 97 AD x6,.rows 47 AN x7]⟩
def NU (x0:Int) (x1:List AE) (x2 x3:Int) (x4:Bool) (x5:List (List Int)) (x6:List O) (x7:List Z) (x8:List AH) (x9:AE):Option AB:=(if 0<=x9.1 then (if x9.1<(x8.length:Int) then (let z2:List AH:=x8.set x9.1.toNat ((x8.getD x9.1.toNat (0,ByteArray.empty,ByteArray.empty,0,0,0,0,0,ByteArray.empty)).1,((x8.getD x9.1.toNat (0,ByteArray.empty,ByteArray.empty,0,0,0,0,0,ByteArray.empty)).2).1,(((x8.getD x9.1.toNat (0,ByteArray.empty,ByteArray.empty,0,0,0,0,0,ByteArray.empty)).2).2).1,((((x8.getD x9.1.toNat (0,ByteArray.empty,ByteArray.empty,0,0,0,0,0,ByteArray.empty)).2).2).2).1,x0,(((((x8.getD x9.1.toNat (0,ByteArray.empty,ByteArray.empty,0,0,0,0,0,ByteArray.empty)).2).2).2).2).2); (let z3:List AH:=z2.set x9.1.toNat ((z2.getD x9.1.toNat (0,ByteArray.empty,ByteArray.empty,0,0,0,0,0,ByteArray.empty)).1,((z2.getD x9.1.toNat (0,ByteArray.empty,ByteArray.empty,0,0,0,0,0,ByteArray.empty)).2).1,(((z2.getD x9.1.toNat (0,ByteArray.empty,ByteArray.empty,0,0,0,0,0,ByteArray.empty)).2).2).1,((((z2.getD x9.1.toNat (0,ByteArray.empty,ByteArray.empty,0,0,0,0,0,ByteArray.empty)).2).2).2).1,(((((z2.getD x9.1.toNat (0,ByteArray.empty,ByteArray.empty,0,0,0,0,0,ByteArray.empty)).2).2).2).2).1,x9.2.2.2.2.2,((((((z2.getD x9.1.toNat (0,ByteArray.empty,ByteArray.empty,0,0,0,0,0,ByteArray.empty)).2).2).2).2).2).2); (let z4:List AH:=z3.set x9.1.toNat ((z3.getD x9.1.toNat (0,ByteArray.empty,ByteArray.empty,0,0,0,0,0,ByteArray.empty)).1,((z3.getD x9.1.toNat (0,ByteArray.empty,ByteArray.empty,0,0,0,0,0,ByteArray.empty)).2).1,(((z3.getD x9.1.toNat (0,ByteArray.empty,ByteArray.empty,0,0,0,0,0,ByteArray.empty)).2).2).1,((((z3.getD x9.1.toNat (0,ByteArray.empty,ByteArray.empty,0,0,0,0,0,ByteArray.empty)).2).2).2).1,(((((z3.getD x9.1.toNat (0,ByteArray.empty,ByteArray.empty,0,0,0,0,0,ByteArray.empty)).2).2).2).2).1,((((((z3.getD x9.1.toNat (0,ByteArray.empty,ByteArray.empty,0,0,0,0,0,ByteArray.empty)).2).2).2).2).2).1,x9.2.1,(((((((z3.getD x9.1.toNat (0,ByteArray.empty,ByteArray.empty,0,0,0,0,0,ByteArray.empty)).2).2).2).2).2).2).2); (let z5:List AH:=z4.set x9.1.toNat ((z4.getD x9.1.toNat (0,ByteArray.empty,ByteArray.empty,0,0,0,0,0,ByteArray.empty)).1,((z4.getD x9.1.toNat (0,ByteArray.empty,ByteArray.empty,0,0,0,0,0,ByteArray.empty)).2).1,(((z4.getD x9.1.toNat (0,ByteArray.empty,ByteArray.empty,0,0,0,0,0,ByteArray.empty)).2).2).1,((((z4.getD x9.1.toNat (0,ByteArray.empty,ByteArray.empty,0,0,0,0,0,ByteArray.empty)).2).2).2).1,(((((z4.getD x9.1.toNat (0,ByteArray.empty,ByteArray.empty,0,0,0,0,0,ByteArray.empty)).2).2).2).2).1,((((((z4.getD x9.1.toNat (0,ByteArray.empty,ByteArray.empty,0,0,0,0,0,ByteArray.empty)).2).2).2).2).2).1,(((((((z4.getD x9.1.toNat (0,ByteArray.empty,ByteArray.empty,0,0,0,0,0,ByteArray.empty)).2).2).2).2).2).2).1,x9.2.2.1,((((((((z4.getD x9.1.toNat (0,ByteArray.empty,ByteArray.empty,0,0,0,0,0,ByteArray.empty)).2).2).2).2).2).2).2).2); (if (((z5.getD x9.1.toNat (0,ByteArray.empty,ByteArray.empty,0,0,0,0,0,ByteArray.empty)).1)==2)=true then (let z6:List AH:=z5.set x9.1.toNat ((z5.getD x9.1.toNat (0,ByteArray.empty,ByteArray.empty,0,0,0,0,0,ByteArray.empty)).1,((z5.getD x9.1.toNat (0,ByteArray.empty,ByteArray.empty,0,0,0,0,0,ByteArray.empty)).2).1,(((z5.getD x9.1.toNat (0,ByteArray.empty,ByteArray.empty,0,0,0,0,0,ByteArray.empty)).2).2).1,((((z5.getD x9.1.toNat (0,ByteArray.empty,ByteArray.empty,0,0,0,0,0,ByteArray.empty)).2).2).2).1,(((((z5.getD x9.1.toNat (0,ByteArray.empty,ByteArray.empty,0,0,0,0,0,ByteArray.empty)).2).2).2).2).1,((((((z5.getD x9.1.toNat (0,ByteArray.empty,ByteArray.empty,0,0,0,0,0,ByteArray.empty)).2).2).2).2).2).1,(((((((z5.getD x9.1.toNat (0,ByteArray.empty,ByteArray.empty,0,0,0,0,0,ByteArray.empty)).2).2).2).2).2).2).1,((((((((z5.getD x9.1.toNat (0,ByteArray.empty,ByteArray.empty,0,0,0,0,0,ByteArray.empty)).2).2).2).2).2).2).2).1,x9.2.2.2.2.1); (CL x0 x1 x2 (i64.wrap (x3+1)) x5 x6 x7 z6)) else (CL x0 x1 x2 (i64.wrap (x3+1)) x5 x6 x7 z5)))))) else none) else none)
def Ht (x0:Int) (x1:List AE) (x2 x3:Int) (x4:List (List Int)) (x5:List O) (x6:List Z) (x7:List AH):Option AB:=(if (decide (x3<x2))=true then (if 0<=x3 then (if x3<(x1.length:Int) then ((Af ((x1.getD x3.toNat (0,0,0,ByteArray.empty,ByteArray.empty,0)).1) 0 (i64.wrap ((x7.length:Int)-1))).bind fun y1=>(if (!y1)=true then (CL x0 x1 x2 (i64.wrap (x3+1)) x4 x5 x6 x7) else (if 0<=((x1.getD x3.toNat (0,0,0,ByteArray.empty,ByteArray.empty,0)).1) then (if ((x1.getD x3.toNat (0,0,0,ByteArray.empty,ByteArray.empty,0)).1)<(x7.length:Int) then (if (((((((x7.getD (((x1.getD x3.toNat (0,0,0,ByteArray.empty,ByteArray.empty,0)).1).toNat) (0,ByteArray.empty,ByteArray.empty,0,0,0,0,0,ByteArray.empty)).2).2).2).2).1) != (-1:Int))=true then (CL x0 x1 x2 (i64.wrap (x3+1)) x4 x5 x6 x7) else (NT x0 x1 x2 x3 (((((((x7.getD (((x1.getD x3.toNat (0,0,0,ByteArray.empty,ByteArray.empty,0)).1).toNat) (0,ByteArray.empty,ByteArray.empty,0,0,0,0,0,ByteArray.empty)).2).2).2).2).1) != (-1:Int)) x4 x5 x6 x7 (x1.getD x3.toNat (0,0,0,ByteArray.empty,ByteArray.empty,0)))) else none) else none))) else none) else none) else (some (x4,x5,x6,x7)))
def Re (x1:List Z) (x2:List AE) (x3:Int) (b0:AB):Option AB:=(if b0.2.2.1.length+x1.length<=68719476736 then (CL x3 x2 (x2.length:Int) 0 b0.1 b0.2.1 (b0.2.2.1++x1) b0.2.2.2) else none)
theorem Xx:sa NU NT:=jS (by kernel_rfl)
theorem NV:sZ Ht CL:=lS (by kernel_rfl)
theorem cq:iH Re Ff:=cT CE rfl ⟨rfl,rfl⟩ (by kernel_rfl)
def SA:=cG I5 (AF Ba) (AF Ba) kx
def SB:=kE 0 [] [] 0 SA kx
def QS:St->Option (RT (BM.outs Ba)):=lG I4 [] [0,1,7,8] 0 (AF Ba) SB
def CV (x0:List Int) (x1 x2 x3:Int):Option Int:=QS ⟨[(0,.lst (.int .i64) x0),(1,.int .i64 x1),(7,.int .i64 x2),(8,.int .i64 x3)],[]⟩
def BX (x0:List Int) (x1 x2 x3:Int):Option Int:=(if (decide (x3<x2))=true then (if 0<=x3 then (if x3<(x0.length:Int) then (if (x1==(x0.getD x3.toNat 0))=true then (some x3) else (CV x0 x1 x2 (i64.wrap (x3+1)))) else none) else none) else (some (-1:Int)))
def Ue (x0:List Int) (x1:Int):Option Int:=(CV x0 x1 (x0.length:Int) 0)
theorem B1:iH BX CV:=lS (by kernel_rfl)
theorem LZ:QP Ue C8:=cT Ba rfl ⟨rfl,rfl⟩ (by kernel_rfl)
def Rf (x1:List Int) (b0:AO):Option (Int×AO):=((CN (x1.length:Int) b0).bind fun y1=>(if 0<=y1.1 then (if y1.1<(x1.length:Int) then (some ((x1.getD y1.1.toNat 0),y1.2)) else none) else none))
theorem cr:QP Rf HR:=cT HO rfl ⟨rfl,rfl⟩ (by kernel_rfl)
def Xy (x1:Int) (b0:AO):Option (Bool×AO):=((CN x1 b0).bind fun y1=>(some ((y1.1==0),y1.2)))
theorem lw:QP Xy C9:=cT Kv rfl ⟨rfl,rfl⟩ (by kernel_rfl)
def Xz (x1:List ByteArray) (b0:AO):Option (ByteArray×AO):=((CN (x1.length:Int) b0).bind fun y1=>(if 0<=y1.1 then (if y1.1<(x1.length:Int) then (some ((x1.getD y1.1.toNat ByteArray.empty),y1.2)) else none) else none))
theorem lx:QP Xz LA:=cT Kw rfl ⟨rfl,rfl⟩ (by kernel_rfl)
def JT (x0:List Int) (x1 x2 x3:O) (x4:Y) (x5:List Int) (x6:Z):Option (O×List Z×List AE×Bool):=cG XP (AF Di) (AF Di) kx ⟨[(12,.ptr 1 0),(16,.ptr 2 0),(18,.lst (.int .i64) x0),(20,.ptr 5 0)],[.var (U.enc x1),.var (U.enc x2),.var (U.enc x3),.var (AC.enc x4),.frz (.int .i64) x5,.var (AD.enc x6)]⟩
def G5 (x0:List (List Int)) (x1 x2:Int) (x3:Bool) (x4 x5 x6:O) (x7:Y):Option (O×List Z×List AE×Bool):=cG U4 (AF Di) (AF Di) kx ⟨[(1,.lst (.slice (.int .i64)) x0),(2,.int .i64 x1),(3,.int .i64 x2),(6,.ptr 0 0),(12,.ptr 1 0),(16,.ptr 2 0),(17,.ptr 3 0),(69,.bool x3)],[.var (U.enc x4),.var (U.enc x5),.var (U.enc x6),.var (AC.enc x7)]⟩
def V6 (x0:List (List Int)) (x1 x2:Int) (x3 x4:ByteArray) (x5:Bool) (x6 x7:O):Option (O×List Z×List AE×Bool):=cG U5 (AF Di) (AF Di) kx ⟨[(1,.lst (.slice (.int .i64)) x0),(2,.int .i64 x1),(3,.int .i64 x2),(4,.str x3),(5,.str x4),(6,.ptr 0 0),(12,.ptr 1 0),(37,.bool x5)],[.var (U.enc x6),.var (U.enc x7)]⟩
def V7 (x0:List Int) (x1 x2 x3:O) (x4:Y) (x5:List Int) (x6:Z):Option (O×List Z×List AE×Bool):=(if ((x0.length:Int)==0)=true then ((Gt x3).bind fun y9=>(some (y9.2,[],y9.1,true))) else (pS ((Ah x0 x6 x3).bind fun y10=>(some (x3,y10.1,[],true))) ((Ah x0 x6 x3).bind fun y11=>(some (y11.2,y11.1,[],true)))))
def V8 (x0:List (List Int)) (x1 x2:Int) (x3:Bool) (x4 x5 x6:O) (x7:Y):Option (O×List Z×List AE×Bool):=(if 0<=(i64.wrap (x4.2.1-1)) then (if (i64.wrap (x4.2.1-1))<(x0.length:Int) then ((By (x0.getD (i64.wrap (x4.2.1-1)).toNat ([]:List Int)) x6).bind fun y6=>((Bc y6.1).bind fun y7=>((Ce y7).bind fun y8=>(if (x1==1)=true then (JT y6.1 x4 x5 (y6.2.1,y6.2.2.1,y6.2.2.2.1,y6.2.2.2.2.1,y6.2.2.2.2.2.1,y6.2.2.2.2.2.2.1,y6.2.2.2.2.2.2.2.1,y6.2.2.2.2.2.2.2.2.1,y6.2.2.2.2.2.2.2.2.2.1,x1,x2,y6.2.2.2.2.2.2.2.2.2.1,x7,y8) x7 y8 (5,0,0,0,y6.2.2.2.2.2.2.2.2.2.1,([x7]:List Y))) else (JT y6.1 x4 x5 (y6.2.1,y6.2.2.1,y6.2.2.2.1,y6.2.2.2.2.1,y6.2.2.2.2.2.1,y6.2.2.2.2.2.2.1,y6.2.2.2.2.2.2.2.1,y6.2.2.2.2.2.2.2.2.1,y6.2.2.2.2.2.2.2.2.2.1,x1,x2,y6.2.2.2.2.2.2.2.2.2.1,x7,y8) x7 y8 (7,0,0,0,y6.2.2.2.2.2.2.2.2.2.1,([]:List Y))))))) else none) else none)
def V9 (x0:List (List Int)) (x1 x2:Int) (x3 x4:ByteArray) (x5:Bool) (x6 x7:O):Option (O×List Z×List AE×Bool):=((Cc x6).bind fun y4=>(if (x1==1)=true then (if ((x6.2.2.2.2.2.2.2.1.length:Int)==12)=true then ((M5 x6.2.2.2.2.2.2.2.1 x3).bind fun y5=>(if (false != UA AC y5 (ByteArray.empty,ByteArray.empty,0))=true then (some ((0,0,false,false,false,false,([]:List Int),([]:List Y),0,0,0,0,(ByteArray.empty,ByteArray.empty,0),([]:List Int)),[],[],false)) else (G5 x0 x1 x2 (false != UA AC y5 (ByteArray.empty,ByteArray.empty,0)) x6 x7 (y4.1,y4.2.1,y4.2.2.1,y4.2.2.2.1,y4.2.2.2.2.1,y4.2.2.2.2.2.1,y4.2.2.2.2.2.2.1,y4.2.2.2.2.2.2.2.1,(i64.wrap (y4.2.2.2.2.2.2.2.2.1+1)),y4.2.2.2.2.2.2.2.2.2) (x3,x4,(i64.wrap ((i64.wrap (1000*x6.2.1))+(i64.wrap (y4.2.2.2.2.2.2.2.2.1+1)))))))) else (G5 x0 x1 x2 false x6 x7 (y4.1,y4.2.1,y4.2.2.1,y4.2.2.2.1,y4.2.2.2.2.1,y4.2.2.2.2.2.1,y4.2.2.2.2.2.2.1,y4.2.2.2.2.2.2.2.1,(i64.wrap (y4.2.2.2.2.2.2.2.2.1+1)),y4.2.2.2.2.2.2.2.2.2) (x3,x4,(i64.wrap ((i64.wrap (1000*x6.2.1))+(i64.wrap (y4.2.2.2.2.2.2.2.2.1+1))))))) else (G5 x0 x1 x2 false x6 x7 (y4.1,y4.2.1,y4.2.2.1,y4.2.2.2.1,y4.2.2.2.2.1,y4.2.2.2.2.2.1,y4.2.2.2.2.2.2.1,y4.2.2.2.2.2.2.2.1,(i64.wrap (y4.2.2.2.2.2.2.2.2.1+1)),y4.2.2.2.2.2.2.2.2.2) (x3,x4,(i64.wrap ((i64.wrap (1000*x6.2.1))+(i64.wrap (y4.2.2.2.2.2.2.2.2.1+1))))))))
def ct (x0:O) (x1:List (List Int)) (x2 x3:Int) (x4 x5:ByteArray):Option (O×List Z×List AE×Bool):=((FQ x0).bind fun y1=>(if (!y1)=false then ((Gs x1 x0).bind fun y2=>(if (!y2.1)=false then ((K9 x2 x3 x4 x5).bind fun y3=>(if (!y3)=true then (some ((0,0,false,false,false,false,([]:List Int),([]:List Y),0,0,0,0,(ByteArray.empty,ByteArray.empty,0),([]:List Int)),[],[],false)) else (V6 x1 x2 x3 x4 x5 (!y3) y2.2 (0,0,false,false,false,false,([]:List Int),([]:List Y),0,0,0,0,(ByteArray.empty,ByteArray.empty,0),([]:List Int))))) else (some ((0,0,false,false,false,false,([]:List Int),([]:List Y),0,0,0,0,(ByteArray.empty,ByteArray.empty,0),([]:List Int)),[],[],false)))) else (some ((0,0,false,false,false,false,([]:List Int),([]:List Y),0,0,0,0,(ByteArray.empty,ByteArray.empty,0),([]:List Int)),[],[],false))))
theorem i7:uZ V7 JT:=jS (by kernel_rfl)
theorem i8:sZ V8 G5:=jS (by kernel_rfl)
theorem i9:sZ V9 V6:=jS (by kernel_rfl)
theorem o9:rV ct O2:=cT Di rfl ⟨rfl,rfl⟩ (by kernel_rfl)
def JU (x0:List (List Int)) (x1:Int) (x2:Bool) (x3 x4 x5:O):Option (O×List Z×Bool):=cG U_ (AF Fe) (AF Fe) kx ⟨[(1,.lst (.slice (.int .i64)) x0),(2,.int .i64 x1),(6,.ptr 1 0),(9,.ptr 2 0),(10,.bool x2)],[.var (U.enc x3),.var (U.enc x4),.var (U.enc x5)]⟩
def V_ (x0:List (List Int)) (x1:Int) (x2:Bool) (x3 x4:O):Option (O×List Z×Bool):=cG VD (AF Fe) (AF Fe) kx ⟨[(1,.lst (.slice (.int .i64)) x0),(2,.int .i64 x1),(3,.ptr 0 0),(6,.ptr 1 0),(44,.bool x2)],[.var (U.enc x3),.var (U.enc x4)]⟩
def WA (x0:List (List Int)) (x1:Int) (x2:Bool) (x3 x4 x5:O):Option (O×List Z×Bool):=((Fg x5).bind fun y5=>(if x2=true then (if 0<=(i64.wrap (x1-1)) then (if (i64.wrap (x1-1))<(x0.length:Int) then ((C_ (x0.getD (i64.wrap (x1-1)).toNat ([]:List Int)) y5.2.2.2.2.2.2.2.1 (y5.1,x1,false,false,true,y5.2.2.2.2.2)).bind fun y6=>(some (y6.2,y6.1,true))) else none) else none) else (if 0<=(i64.wrap (x1-2)) then (if (i64.wrap (x1-2))<(x0.length:Int) then (pS ((By (x0.getD (i64.wrap (x1-2)).toNat ([]:List Int)) (y5.1,x1,false,false,true,y5.2.2.2.2.2)).bind fun y7=>((Ah y7.1 (1,0,0,0,0,([]:List Y)) y7.2).bind fun y8=>(some ((y5.1,x1,false,false,true,y5.2.2.2.2.2),y8.1,true)))) ((By (x0.getD (i64.wrap (x1-2)).toNat ([]:List Int)) (y5.1,x1,false,false,true,y5.2.2.2.2.2)).bind fun y9=>(pS ((Ah y9.1 (1,0,0,0,0,([]:List Y)) y9.2).bind fun y10=>(some (y9.2,y10.1,true))) ((Ah y9.1 (1,0,0,0,0,([]:List Y)) y9.2).bind fun y11=>(some (y11.2,y11.1,true)))))) else none) else none)))
def WB (x0:List (List Int)) (x1:Int) (x2:Bool) (x3 x4:O):Option (O×List Z×Bool):=((Cc x3).bind fun y4=>(if x3.2.2.2.1=true then (JU x0 x1 (x3.2.1==(i64.wrap (x1-1))) x3 x4 y4) else (JU x0 x1 false x3 x4 y4)))
def cv (x0:O) (x1:List (List Int)) (x2:Int):Option (O×List Z×Bool):=((FQ x0).bind fun y1=>(if (!y1)=true then (some ((0,0,false,false,false,false,([]:List Int),([]:List Y),0,0,0,0,(ByteArray.empty,ByteArray.empty,0),([]:List Int)),[],false)) else ((Dv x1).bind fun y2=>(if (!y2)=true then (some ((0,0,false,false,false,false,([]:List Int),([]:List Y),0,0,0,0,(ByteArray.empty,ByteArray.empty,0),([]:List Int)),[],false)) else ((Af x2 2 (x1.length:Int)).bind fun y3=>(if (!y3)=true then (some ((0,0,false,false,false,false,([]:List Int),([]:List Y),0,0,0,0,(ByteArray.empty,ByteArray.empty,0),([]:List Int)),[],false)) else (if (decide (x2<=x0.2.1))=true then (some ((0,0,false,false,false,false,([]:List Int),([]:List Y),0,0,0,0,(ByteArray.empty,ByteArray.empty,0),([]:List Int)),[],false)) else (if 0<=(i64.wrap (x2-1)) then (if (i64.wrap (x2-1))<(x1.length:Int) then (if 0<=(0:Int) then (if 0<((x1.getD (i64.wrap (x2-1)).toNat ([]:List Int)).length:Int) then (if (((x1.getD (i64.wrap (x2-1)).toNat ([]:List Int)).getD (0:Int).toNat 0) != x0.1)=true then (some ((0,0,false,false,false,false,([]:List Int),([]:List Y),0,0,0,0,(ByteArray.empty,ByteArray.empty,0),([]:List Int)),[],false)) else (V_ x1 x2 (((x1.getD (i64.wrap (x2-1)).toNat ([]:List Int)).getD (0:Int).toNat 0) != x0.1) x0 (0,0,false,false,false,false,([]:List Int),([]:List Y),0,0,0,0,(ByteArray.empty,ByteArray.empty,0),([]:List Int)))) else none) else none) else none) else none))))))))
theorem i_:rV WA JU:=jS (by kernel_rfl)
theorem jA:qp WB V_:=jS (by kernel_rfl)
theorem o_:PN cv O3:=cT Fe rfl ⟨rfl,rfl⟩ (by kernel_rfl)
def GQ:=cG Cu (AF AX) (AF AX) kx
def GR:=kE 0 [] [] 0 GQ kx
def F6:St->Option (RT (BM.outs AX)):=lG Ct [] [0,1,7,8] 0 (AF AX) GR
def BC (x0:List O) (x1 x2 x3:Int):Option Int:=F6 ⟨[(0,.lst U x0),(1,.clo 103 (.int .i64) x1),(7,.int .i64 x2),(8,.int .i64 x3)],[]⟩
def Bf (x0:List O) (x1 x2 x3:Int):Option Int:=(if (decide (x3<x2))=true then (if 0<=x3 then (if x3<(x0.length:Int) then ((HE (x0.getD x3.toNat (0,0,false,false,false,false,([]:List Int),([]:List Y),0,0,0,0,(ByteArray.empty,ByteArray.empty,0),([]:List Int))) x1).bind fun y1=>(if y1=true then (some x3) else (BC x0 x1 x2 (i64.wrap (x3+1))))) else none) else none) else (some (-1:Int)))
def DD (x0:List O) (x1:Int):Option Int:=(BC x0 x1 (x0.length:Int) 0)
theorem Cm:iH Bf BC:=lS (by kernel_rfl)
theorem G0:QP DD B5:=cT AX rfl ⟨rfl,rfl⟩ (by kernel_rfl)
def MC (x0:O) (x1:Int):Option Bool:=(some (x0.1==x1))
theorem Wh:QP MC HE:=cT FA rfl ⟨rfl,rfl⟩ (by kernel_rfl)
def fZ:=cG Ss (AF Ds) (AF Ds) kx
def fa:=kE 0 [] [] 0 fZ kx
def cw:St->Option (RT (BM.outs Ds)):=lG Sr [] [0,3] 0 (AF Ds) fa
def Ha (x0:List Int) (x1:Int):Option Bool:=cw ⟨[(0,.lst (.int .i64) x0),(3,.int .i64 x1)],[]⟩
def La (x0:List Int) (x1:Int):Option Bool:=(if (decide (x1<(x0.length:Int)))=true then (if 0<=x1 then (if x1<(x0.length:Int) then ((AS (x0.getD x1.toNat 0) 1 6).bind fun y2=>(if (!y2)=true then (some false) else (if 0<=(0:Int) then (if 0<=x1 then (if x1<=(x0.length:Int) then (if 0<=x1 then (if x1<(x0.length:Int) then ((Dj ((x0.take x1.toNat).drop (0:Int).toNat) (x0.getD x1.toNat 0)).bind fun y3=>(if y3=true then (some false) else (Ha x0 (i64.wrap (x1+1))))) else none) else none) else none) else none) else none))) else none) else none) else (some true))
def X0 (x0:List Int):Option Bool:=((AS (x0.length:Int) 1 4).bind fun y1=>(if (!y1)=true then (some false) else (Ha x0 0)))
theorem Rg:QP La Ha:=lS (by kernel_rfl)
theorem ly:PL X0 Pm:=cT Ds rfl ⟨rfl,rfl⟩ (by kernel_rfl)
def X1:=cG Sv (AF Bi) (AF Bi) kx
def l7:=kE 0 [(16,2)] [12,16,17,18] 6 X1 kx
def jB:St->Option (RT (BM.outs Bi)):=lG MS [(16,2)] [2,6,12,16,17,18,19,20,21] 6 (AF Bi) l7
def l8:=kE 0 [(16,2)] [12,16,17,18] 5 X1 kx
def jC:St->Option (RT (BM.outs Bi)):=lG MS [(16,2)] [2,6,12,16,17,18,19,20,21] 5 (AF Bi) l8
def D7 (x0:Int) (x1:List AE) (x2:List Int) (x3:Int) (x4 x5:O) (x6:List Z) (x7:O) (x8:Y) (x9:List Y):Option (O×List Z×List AE×Bool):=jB ⟨[(2,.int .i64 x0),(6,.ptr 0 0),(12,.ptr 1 0),(16,.row 2),(17,.lst Ar x1),(18,.ptr 3 0),(19,.ptr 4 0),(20,.lst (.int .i64) x2),(21,.int .i64 x3)],[.var (U.enc x4),.var (U.enc x5),.rows 97 AD x6,.var (U.enc x7),.var (AC.enc x8),.rows 38 AC x9]⟩
def N3 (x0:List (List Int)) (x1 x2:Int) (x3:List AE) (x4:Bool) (x5 x6:O) (x7:List Z) (x8:O) (x9:Y) (x10:List Y):Option (O×List Z×List AE×Bool):=cG MT (AF Bi) (AF Bi) kx ⟨[(1,.lst (.slice (.int .i64)) x0),(2,.int .i64 x1),(3,.int .i64 x2),(6,.ptr 0 0),(12,.ptr 1 0),(16,.row 2),(17,.lst Ar x3),(18,.ptr 3 0),(19,.ptr 4 0),(130,.bool x4)],[.var (U.enc x5),.var (U.enc x6),.rows 97 AD x7,.var (U.enc x8),.var (AC.enc x9),.rows 38 AC x10]⟩
def D8 (x0:Int) (x1:List AE) (x2:List Int) (x3:Int) (x4 x5:O) (x6:List Z) (x7:O) (x8:Y):Option (O×List Z×List AE×Bool):=jC ⟨[(2,.int .i64 x0),(6,.ptr 0 0),(12,.ptr 1 0),(16,.row 2),(17,.lst Ar x1),(18,.ptr 3 0),(19,.ptr 4 0),(20,.lst (.int .i64) x2),(21,.int .i64 x3)],[.var (U.enc x4),.var (U.enc x5),.rows 97 AD x6,.var (U.enc x7),.var (AC.enc x8)]⟩
def N4 (x0:List (List Int)) (x1 x2:Int) (x3:List AE) (x4:Bool) (x5 x6:O) (x7:List Z) (x8:O) (x9:Y):Option (O×List Z×List AE×Bool):=cG MT (AF Bi) (AF Bi) kx ⟨[(1,.lst (.slice (.int .i64)) x0),(2,.int .i64 x1),(3,.int .i64 x2),(6,.ptr 0 0),(12,.ptr 1 0),(16,.row 2),(17,.lst Ar x3),(18,.ptr 3 0),(19,.ptr 4 0),(130,.bool x4)],[.var (U.enc x5),.var (U.enc x6),.rows 97 AD x7,.var (U.enc x8),.var (AC.enc x9)]⟩
def Cj (x0:List (List Int)) (x1 x2:Int) (x3 x4:ByteArray) (x5:List AE) (x6:Bool) (x7 x8:O) (x9:List Z):Option (O×List Z×List AE×Bool):=cG Sw (AF Bi) (AF Bi) kx ⟨[(1,.lst (.slice (.int .i64)) x0),(2,.int .i64 x1),(3,.int .i64 x2),(4,.str x3),(5,.str x4),(6,.ptr 0 0),(12,.ptr 1 0),(16,.row 2),(17,.lst Ar x5),(100,.bool x6)],[.var (U.enc x7),.var (U.enc x8),.rows 97 AD x9]⟩
def N5 (x0:Int) (x1:List AE) (x2:List Int) (x3:Int) (x4 x5:O) (x6:List Z) (x7:O) (x8:Y) (x9:List Y):Option (O×List Z×List AE×Bool):=(if (decide (x3<(x2.length:Int)))=true then (if 0<=x3 then (if x3<(x2.length:Int) then (if ((x2.getD x3.toNat 0)==x4.1)=true then (D7 x0 x1 x2 (i64.wrap (x3+1)) x4 x5 x6 x7 x8 x9) else (if 0<=x3 then (if x3<(x2.length:Int) then (if (x0==1)=true then (if x6.length+([(5,x4.1,(x2.getD x3.toNat 0),x4.2.1,x7.2.2.2.2.2.2.2.2.1,([x8]:List Y))]:List Z).length<=68719476736 then (D7 x0 x1 x2 (i64.wrap (x3+1)) x4 x5 (x6++([(5,x4.1,(x2.getD x3.toNat 0),x4.2.1,x7.2.2.2.2.2.2.2.2.1,([x8]:List Y))]:List Z)) x7 x8 x9) else none) else (if x6.length+([(7,x4.1,(x2.getD x3.toNat 0),x4.2.1,x7.2.2.2.2.2.2.2.2.1,([]:List Y))]:List Z).length<=68719476736 then (D7 x0 x1 x2 (i64.wrap (x3+1)) x4 x5 (x6++([(7,x4.1,(x2.getD x3.toNat 0),x4.2.1,x7.2.2.2.2.2.2.2.2.1,([]:List Y))]:List Z)) x7 x8 x9) else none)) else none) else none)) else none) else none) else (some (x7,x6,x1,true)))
def WC (x0:List (List Int)) (x1 x2:Int) (x3:List AE) (x4:Bool) (x5 x6:O) (x7:List Z) (x8:O) (x9:Y) (x10:List Y):Option (O×List Z×List AE×Bool):=(if 0<=(i64.wrap (x5.2.1-1)) then (if (i64.wrap (x5.2.1-1))<(x0.length:Int) then ((GO (x0.getD (i64.wrap (x5.2.1-1)).toNat ([]:List Int)) x5.1).bind fun y8=>(if ((y8.length:Int)==0)=true then ((GP (x8.1,x8.2.1,x8.2.2.1,x8.2.2.2.1,x8.2.2.2.2.1,x8.2.2.2.2.2.1,x8.2.2.2.2.2.2.1,x8.2.2.2.2.2.2.2.1,x8.2.2.2.2.2.2.2.2.1,x1,x2,x8.2.2.2.2.2.2.2.2.1,x9,y8)).bind fun y9=>(some (y9.2,x7,y9.1,true))) else (D7 x1 x3 (x0.getD (i64.wrap (x5.2.1-1)).toNat ([]:List Int)) 0 x5 x6 x7 (x8.1,x8.2.1,x8.2.2.1,x8.2.2.2.1,x8.2.2.2.2.1,x8.2.2.2.2.2.1,x8.2.2.2.2.2.2.1,x8.2.2.2.2.2.2.2.1,x8.2.2.2.2.2.2.2.2.1,x1,x2,x8.2.2.2.2.2.2.2.2.1,x9,y8) x9 x10))) else none) else none)
def N6 (x0:Int) (x1:List AE) (x2:List Int) (x3:Int) (x4 x5:O) (x6:List Z) (x7:O) (x8:Y):Option (O×List Z×List AE×Bool):=(if (decide (x3<(x2.length:Int)))=true then (if 0<=x3 then (if x3<(x2.length:Int) then (if ((x2.getD x3.toNat 0)==x4.1)=true then (D8 x0 x1 x2 (i64.wrap (x3+1)) x4 x5 x6 x7 x8) else (if 0<=x3 then (if x3<(x2.length:Int) then (if (x0==1)=true then (if x6.length+([(5,x4.1,(x2.getD x3.toNat 0),x4.2.1,x7.2.2.2.2.2.2.2.2.1,([x8]:List Y))]:List Z).length<=68719476736 then (D8 x0 x1 x2 (i64.wrap (x3+1)) x4 x5 (x6++([(5,x4.1,(x2.getD x3.toNat 0),x4.2.1,x7.2.2.2.2.2.2.2.2.1,([x8]:List Y))]:List Z)) x7 x8) else none) else (if x6.length+([(7,x4.1,(x2.getD x3.toNat 0),x4.2.1,x7.2.2.2.2.2.2.2.2.1,([]:List Y))]:List Z).length<=68719476736 then (D8 x0 x1 x2 (i64.wrap (x3+1)) x4 x5 (x6++([(7,x4.1,(x2.getD x3.toNat 0),x4.2.1,x7.2.2.2.2.2.2.2.2.1,([]:List Y))]:List Z)) x7 x8) else none)) else none) else none)) else none) else none) else (some (x7,x6,x1,true)))
def WD (x0:List (List Int)) (x1 x2:Int) (x3:List AE) (x4:Bool) (x5 x6:O) (x7:List Z) (x8:O) (x9:Y):Option (O×List Z×List AE×Bool):=(if 0<=(i64.wrap (x5.2.1-1)) then (if (i64.wrap (x5.2.1-1))<(x0.length:Int) then ((GO (x0.getD (i64.wrap (x5.2.1-1)).toNat ([]:List Int)) x5.1).bind fun y10=>(if ((y10.length:Int)==0)=true then ((GP (x8.1,x8.2.1,x8.2.2.1,x8.2.2.2.1,x8.2.2.2.2.1,x8.2.2.2.2.2.1,x8.2.2.2.2.2.2.1,x8.2.2.2.2.2.2.2.1,x8.2.2.2.2.2.2.2.2.1,x1,x2,x8.2.2.2.2.2.2.2.2.1,x9,y10)).bind fun y11=>(some (y11.2,x7,y11.1,true))) else (D8 x1 x3 (x0.getD (i64.wrap (x5.2.1-1)).toNat ([]:List Int)) 0 x5 x6 x7 (x8.1,x8.2.1,x8.2.2.1,x8.2.2.2.1,x8.2.2.2.2.1,x8.2.2.2.2.2.1,x8.2.2.2.2.2.2.1,x8.2.2.2.2.2.2.2.1,x8.2.2.2.2.2.2.2.2.1,x1,x2,x8.2.2.2.2.2.2.2.2.1,x9,y10) x9))) else none) else none)
def WE (x0:List (List Int)) (x1 x2:Int) (x3 x4:ByteArray) (x5:List AE) (x6:Bool) (x7 x8:O) (x9:List Z):Option (O×List Z×List AE×Bool):=((C7 x7).bind fun y5=>(if (x1==1)=true then ((Hs x7.2.2.2.2.2.2.2.1 (x3,x4,(i64.wrap ((i64.wrap (1000*x7.2.1))+(i64.wrap (x7.2.2.2.2.2.2.2.2.1+1)))))).bind fun y6=>((M6 y6 x3).bind fun y7=>(if (true != UA AC y7 (x3,x4,(i64.wrap ((i64.wrap (1000*x7.2.1))+(i64.wrap (x7.2.2.2.2.2.2.2.2.1+1))))))=true then (some ((0,0,false,false,false,false,([]:List Int),([]:List Y),0,0,0,0,(ByteArray.empty,ByteArray.empty,0),([]:List Int)),x9,x5,false)) else (N3 x0 x1 x2 x5 (true != UA AC y7 (x3,x4,(i64.wrap ((i64.wrap (1000*x7.2.1))+(i64.wrap (x7.2.2.2.2.2.2.2.2.1+1)))))) x7 x8 x9 (y5.1,y5.2.1,y5.2.2.1,y5.2.2.2.1,y5.2.2.2.2.1,y5.2.2.2.2.2.1,y5.2.2.2.2.2.2.1,y5.2.2.2.2.2.2.2.1,(i64.wrap (x7.2.2.2.2.2.2.2.2.1+1)),y5.2.2.2.2.2.2.2.2.2) (x3,x4,(i64.wrap ((i64.wrap (1000*x7.2.1))+(i64.wrap (x7.2.2.2.2.2.2.2.2.1+1))))) y6)))) else (N4 x0 x1 x2 x5 false x7 x8 x9 (y5.1,y5.2.1,y5.2.2.1,y5.2.2.2.1,y5.2.2.2.2.1,y5.2.2.2.2.2.1,y5.2.2.2.2.2.2.1,y5.2.2.2.2.2.2.2.1,(i64.wrap (x7.2.2.2.2.2.2.2.2.1+1)),y5.2.2.2.2.2.2.2.2.2) (x3,x4,(i64.wrap ((i64.wrap (1000*x7.2.1))+(i64.wrap (x7.2.2.2.2.2.2.2.2.1+1))))))))
def cz (x0:O) (x1:List (List Int)) (x2 x3:Int) (x4 x5:ByteArray):Option (O×List Z×List AE×Bool):=((FR x0).bind fun y1=>(if (!y1)=true then (some ((0,0,false,false,false,false,([]:List Int),([]:List Y),0,0,0,0,(ByteArray.empty,ByteArray.empty,0),([]:List Int)),([]:List Z),([]:List AE),false)) else ((Dw x1).bind fun y2=>(if (!y2)=true then (some ((0,0,false,false,false,false,([]:List Int),([]:List Y),0,0,0,0,(ByteArray.empty,ByteArray.empty,0),([]:List Int)),([]:List Z),([]:List AE),false)) else (if (!x0.2.2.2.2.2.1)=true then (some ((0,0,false,false,false,false,([]:List Int),([]:List Y),0,0,0,0,(ByteArray.empty,ByteArray.empty,0),([]:List Int)),([]:List Z),([]:List AE),false)) else (if (x0.2.2.2.2.2.2.2.2.2.1 != 0)=true then (some ((0,0,false,false,false,false,([]:List Int),([]:List Y),0,0,0,0,(ByteArray.empty,ByteArray.empty,0),([]:List Int)),([]:List Z),([]:List AE),false)) else (if (decide (x0.2.2.2.2.2.2.2.2.1>=900))=true then (some ((0,0,false,false,false,false,([]:List Int),([]:List Y),0,0,0,0,(ByteArray.empty,ByteArray.empty,0),([]:List Int)),([]:List Z),([]:List AE),false)) else (if (x2 != 1)=true then (if (x2 != 2)=true then (some ((0,0,false,false,false,false,([]:List Int),([]:List Y),0,0,0,0,(ByteArray.empty,ByteArray.empty,0),([]:List Int)),([]:List Z),([]:List AE),false)) else ((AS x3 0 1000).bind fun y3=>(if (!y3)=true then (some ((0,0,false,false,false,false,([]:List Int),([]:List Y),0,0,0,0,(ByteArray.empty,ByteArray.empty,0),([]:List Int)),([]:List Z),([]:List AE),false)) else ((AS (x4.size:Int) 1 12).bind fun y4=>(if (!y4)=true then (some ((0,0,false,false,false,false,([]:List Int),([]:List Y),0,0,0,0,(ByteArray.empty,ByteArray.empty,0),([]:List Int)),([]:List Z),([]:List AE),false)) else (if (decide ((x5.size:Int)>20))=true then (some ((0,0,false,false,false,false,([]:List Int),([]:List Y),0,0,0,0,(ByteArray.empty,ByteArray.empty,0),([]:List Int)),([]:List Z),([]:List AE),false)) else (if (x2==2)=true then (if (!(x5.toList==(⟨#[]⟩:ByteArray).toList))=true then (some ((0,0,false,false,false,false,([]:List Int),([]:List Y),0,0,0,0,(ByteArray.empty,ByteArray.empty,0),([]:List Int)),([]:List Z),([]:List AE),false)) else (if (decide (x0.2.1>(x1.length:Int)))=true then (some ((0,0,false,false,false,false,([]:List Int),([]:List Y),0,0,0,0,(ByteArray.empty,ByteArray.empty,0),([]:List Int)),([]:List Z),([]:List AE),false)) else (if 0<=(i64.wrap (x0.2.1-1)) then (if (i64.wrap (x0.2.1-1))<(x1.length:Int) then (if 0<=(0:Int) then (if 0<((x1.getD (i64.wrap (x0.2.1-1)).toNat ([]:List Int)).length:Int) then (if (((x1.getD (i64.wrap (x0.2.1-1)).toNat ([]:List Int)).getD (0:Int).toNat 0) != x0.1)=true then (some ((0,0,false,false,false,false,([]:List Int),([]:List Y),0,0,0,0,(ByteArray.empty,ByteArray.empty,0),([]:List Int)),([]:List Z),([]:List AE),false)) else (Cj x1 x2 x3 x4 x5 ([]:List AE) (((x1.getD (i64.wrap (x0.2.1-1)).toNat ([]:List Int)).getD (0:Int).toNat 0) != x0.1) x0 (0,0,false,false,false,false,([]:List Int),([]:List Y),0,0,0,0,(ByteArray.empty,ByteArray.empty,0),([]:List Int)) ([]:List Z))) else none) else none) else none) else none))) else (if (decide (x0.2.1>(x1.length:Int)))=true then (some ((0,0,false,false,false,false,([]:List Int),([]:List Y),0,0,0,0,(ByteArray.empty,ByteArray.empty,0),([]:List Int)),([]:List Z),([]:List AE),false)) else (if 0<=(i64.wrap (x0.2.1-1)) then (if (i64.wrap (x0.2.1-1))<(x1.length:Int) then (if 0<=(0:Int) then (if 0<((x1.getD (i64.wrap (x0.2.1-1)).toNat ([]:List Int)).length:Int) then (if (((x1.getD (i64.wrap (x0.2.1-1)).toNat ([]:List Int)).getD (0:Int).toNat 0) != x0.1)=true then (some ((0,0,false,false,false,false,([]:List Int),([]:List Y),0,0,0,0,(ByteArray.empty,ByteArray.empty,0),([]:List Int)),([]:List Z),([]:List AE),false)) else (Cj x1 x2 x3 x4 x5 ([]:List AE) (((x1.getD (i64.wrap (x0.2.1-1)).toNat ([]:List Int)).getD (0:Int).toNat 0) != x0.1) x0 (0,0,false,false,false,false,([]:List Int),([]:List Y),0,0,0,0,(ByteArray.empty,ByteArray.empty,0),([]:List Int)) ([]:List Z))) else none) else none) else none) else none))))))))) else ((AS x3 0 1000).bind fun y12=>(if (!y12)=true then (some ((0,0,false,false,false,false,([]:List Int),([]:List Y),0,0,0,0,(ByteArray.empty,ByteArray.empty,0),([]:List Int)),([]:List Z),([]:List AE),false)) else ((AS (x4.size:Int) 1 12).bind fun y13=>(if (!y13)=true then (some ((0,0,false,false,false,false,([]:List Int),([]:List Y),0,0,0,0,(ByteArray.empty,ByteArray.empty,0),([]:List Int)),([]:List Z),([]:List AE),false)) else (if (decide ((x5.size:Int)>20))=true then (some ((0,0,false,false,false,false,([]:List Int),([]:List Y),0,0,0,0,(ByteArray.empty,ByteArray.empty,0),([]:List Int)),([]:List Z),([]:List AE),false)) else (if (x2==2)=true then (if (!(x5.toList==(⟨#[]⟩:ByteArray).toList))=true then (some ((0,0,false,false,false,false,([]:List Int),([]:List Y),0,0,0,0,(ByteArray.empty,ByteArray.empty,0),([]:List Int)),([]:List Z),([]:List AE),false)) else (if (decide (x0.2.1>(x1.length:Int)))=true then (some ((0,0,false,false,false,false,([]:List Int),([]:List Y),0,0,0,0,(ByteArray.empty,ByteArray.empty,0),([]:List Int)),([]:List Z),([]:List AE),false)) else (if 0<=(i64.wrap (x0.2.1-1)) then (if (i64.wrap (x0.2.1-1))<(x1.length:Int) then (if 0<=(0:Int) then (if 0<((x1.getD (i64.wrap (x0.2.1-1)).toNat ([]:List Int)).length:Int) then (if (((x1.getD (i64.wrap (x0.2.1-1)).toNat ([]:List Int)).getD (0:Int).toNat 0) != x0.1)=true then (some ((0,0,false,false,false,false,([]:List Int),([]:List Y),0,0,0,0,(ByteArray.empty,ByteArray.empty,0),([]:List Int)),([]:List Z),([]:List AE),false)) else (Cj x1 x2 x3 x4 x5 ([]:List AE) (((x1.getD (i64.wrap (x0.2.1-1)).toNat ([]:List Int)).getD (0:Int).toNat 0) != x0.1) x0 (0,0,false,false,false,false,([]:List Int),([]:List Y),0,0,0,0,(ByteArray.empty,ByteArray.empty,0),([]:List Int)) ([]:List Z))) else none) else none) else none) else none))) else (if (decide (x0.2.1>(x1.length:Int)))=true then (some ((0,0,false,false,false,false,([]:List Int),([]:List Y),0,0,0,0,(ByteArray.empty,ByteArray.empty,0),([]:List Int)),([]:List Z),([]:List AE),false)) else (if 0<=(i64.wrap (x0.2.1-1)) then (if (i64.wrap (x0.2.1-1))<(x1.length:Int) then (if 0<=(0:Int) then (if 0<((x1.getD (i64.wrap (x0.2.1-1)).toNat ([]:List Int)).length:Int) then (if (((x1.getD (i64.wrap (x0.2.1-1)).toNat ([]:List Int)).getD (0:Int).toNat 0) != x0.1)=true then (some ((0,0,false,false,false,false,([]:List Int),([]:List Y),0,0,0,0,(ByteArray.empty,ByteArray.empty,0),([]:List Int)),([]:List Z),([]:List AE),false)) else (Cj x1 x2 x3 x4 x5 ([]:List AE) (((x1.getD (i64.wrap (x0.2.1-1)).toNat ([]:List Int)).getD (0:Int).toNat 0) != x0.1) x0 (0,0,false,false,false,false,([]:List Int),([]:List Y),0,0,0,0,(ByteArray.empty,ByteArray.empty,0),([]:List Int)) ([]:List Z))) else none) else none) else none) else none))))))))))))))))
theorem WF:sa N5 D7:=lS (by kernel_rfl)
theorem jD:xO WC N3:=jS (by kernel_rfl)
theorem WG:wY N6 D8:=lS (by kernel_rfl)
theorem jE:sa WD N4:=jS (by kernel_rfl)
theorem jF:sa WE Cj:=jS (by kernel_rfl)
theorem pA:rV cz UY:=cT Bi rfl ⟨rfl,rfl⟩ (by kernel_rfl)
def l9:=cG VU (AF Ci) (AF Ci) kx
def l_:=kE 0 [(9,2)] [6,9,11] 5 l9 kx
def jG:St->Option (RT (BM.outs Ci)):=lG VT [(9,2)] [1,2,3,6,9,11,13] 5 (AF Ci) l_
def FS (x0:List (List Int)) (x1 x2:Int) (x3 x4:O) (x5:List Z) (x6:List Y) (x7:O):Option (O×List Z×Bool):=jG ⟨[(1,.lst (.slice (.int .i64)) x0),(2,.int .i64 x1),(3,.ptr 0 0),(6,.ptr 1 0),(9,.row 2),(11,.ptr 4 0),(13,.int .i64 x2)],[.var (U.enc x3),.var (U.enc x4),.rows 97 AD x5,.frz AC x6,.var (U.enc x7)]⟩
def G6 (x0:List (List Int)) (x1:Int) (x2:Bool) (x3 x4:O) (x5:List Z):Option (O×List Z×Bool):=cG VV (AF Ci) (AF Ci) kx ⟨[(1,.lst (.slice (.int .i64)) x0),(2,.int .i64 x1),(3,.ptr 0 0),(6,.ptr 1 0),(9,.row 2),(10,.bool x2)],[.var (U.enc x3),.var (U.enc x4),.rows 97 AD x5]⟩
def WH (x0:List (List Int)) (x1:Int) (x2:Bool) (x3 x4:O) (x5:List Z):Option (O×List Z×Bool):=cG VX (AF Ci) (AF Ci) kx ⟨[(1,.lst (.slice (.int .i64)) x0),(2,.int .i64 x1),(3,.ptr 0 0),(6,.ptr 1 0),(9,.row 2),(48,.bool x2)],[.var (U.enc x3),.var (U.enc x4),.rows 97 AD x5]⟩
def N7 (x0:List (List Int)) (x1 x2:Int) (x3 x4:O) (x5:List Z) (x6:List Y) (x7:O):Option (O×List Z×Bool):=(if 0<=(i64.wrap (x1-2)) then (if (i64.wrap (x1-2))<(x0.length:Int) then (if (decide (x2<((x0.getD (i64.wrap (x1-2)).toNat ([]:List Int)).length:Int)))=true then (if 0<=(i64.wrap (x1-2)) then (if (i64.wrap (x1-2))<(x0.length:Int) then (if 0<=x2 then (if x2<((x0.getD (i64.wrap (x1-2)).toNat ([]:List Int)).length:Int) then (if (((x0.getD (i64.wrap (x1-2)).toNat ([]:List Int)).getD x2.toNat 0) != x3.1)=true then (if x5.length+([(1,x3.1,((x0.getD (i64.wrap (x1-2)).toNat ([]:List Int)).getD x2.toNat 0),x1,0,([]:List Y))]:List Z).length<=68719476736 then (FS x0 x1 (i64.wrap (x2+1)) x3 x4 (x5++([(1,x3.1,((x0.getD (i64.wrap (x1-2)).toNat ([]:List Int)).getD x2.toNat 0),x1,0,([]:List Y))]:List Z)) x6 x7) else none) else (FS x0 x1 (i64.wrap (x2+1)) x3 x4 x5 x6 x7)) else none) else none) else none) else none) else ((C7 x7).bind fun y7=>(some (y7,x5,true)))) else none) else none)
def WI (x0:List (List Int)) (x1:Int) (x2:Bool) (x3 x4:O) (x5:List Z):Option (O×List Z×Bool):=(if ([]:List Y).length+x3.2.2.2.2.2.2.2.1.length<=68719476736 then (if x2=true then (if 0<=(i64.wrap (x1-1)) then (if (i64.wrap (x1-1))<(x0.length:Int) then ((M7 (x0.getD (i64.wrap (x1-1)).toNat ([]:List Int)) x3.2.2.2.2.2.2.2.1 (x3.1,x1,false,false,true,false,([]:List Int),(([]:List Y)++x3.2.2.2.2.2.2.2.1),0,0,0,0,(ByteArray.empty,ByteArray.empty,0),([]:List Int))).bind fun y5=>((C7 y5.2).bind fun y6=>(some (y6,y5.1,true)))) else none) else none) else (FS x0 x1 0 x3 x4 x5 (([]:List Y)++x3.2.2.2.2.2.2.2.1) (x3.1,x1,false,false,true,false,([]:List Int),(([]:List Y)++x3.2.2.2.2.2.2.2.1),0,0,0,0,(ByteArray.empty,ByteArray.empty,0),([]:List Int)))) else none)
def WJ (x0:List (List Int)) (x1:Int) (x2:Bool) (x3 x4:O) (x5:List Z):Option (O×List Z×Bool):=(if x3.2.2.2.1=true then (if (x3.2.1==(i64.wrap (x1-1)))=true then (if 0<=(i64.wrap (x1-2)) then (if (i64.wrap (x1-2))<(x0.length:Int) then ((Dj (x0.getD (i64.wrap (x1-2)).toNat ([]:List Int)) x3.1).bind fun y4=>(G6 x0 x1 y4 x3 x4 x5)) else none) else none) else (G6 x0 x1 false x3 x4 x5)) else (G6 x0 x1 false x3 x4 x5))
def c_ (x0:O) (x1:List (List Int)) (x2:Int):Option (O×List Z×Bool):=((FR x0).bind fun y1=>(if (!y1)=true then (some ((0,0,false,false,false,false,([]:List Int),([]:List Y),0,0,0,0,(ByteArray.empty,ByteArray.empty,0),([]:List Int)),([]:List Z),false)) else ((Dw x1).bind fun y2=>(if (!y2)=true then (some ((0,0,false,false,false,false,([]:List Int),([]:List Y),0,0,0,0,(ByteArray.empty,ByteArray.empty,0),([]:List Int)),([]:List Z),false)) else ((AS x2 2 (x1.length:Int)).bind fun y3=>(if (!y3)=true then (some ((0,0,false,false,false,false,([]:List Int),([]:List Y),0,0,0,0,(ByteArray.empty,ByteArray.empty,0),([]:List Int)),([]:List Z),false)) else (if (decide (x2<=x0.2.1))=true then (some ((0,0,false,false,false,false,([]:List Int),([]:List Y),0,0,0,0,(ByteArray.empty,ByteArray.empty,0),([]:List Int)),([]:List Z),false)) else (if 0<=(i64.wrap (x2-1)) then (if (i64.wrap (x2-1))<(x1.length:Int) then (if 0<=(0:Int) then (if 0<((x1.getD (i64.wrap (x2-1)).toNat ([]:List Int)).length:Int) then (if (((x1.getD (i64.wrap (x2-1)).toNat ([]:List Int)).getD (0:Int).toNat 0) != x0.1)=true then (some ((0,0,false,false,false,false,([]:List Int),([]:List Y),0,0,0,0,(ByteArray.empty,ByteArray.empty,0),([]:List Int)),([]:List Z),false)) else (WH x1 x2 (((x1.getD (i64.wrap (x2-1)).toNat ([]:List Int)).getD (0:Int).toNat 0) != x0.1) x0 (0,0,false,false,false,false,([]:List Int),([]:List Y),0,0,0,0,(ByteArray.empty,ByteArray.empty,0),([]:List Int)) ([]:List Z))) else none) else none) else none) else none))))))))
theorem WK:sZ N7 FS:=lS (by kernel_rfl)
theorem jH:rV WI G6:=jS (by kernel_rfl)
theorem jI:rV WJ WH:=jS (by kernel_rfl)
theorem pB:PN c_ UZ:=cT Ci rfl ⟨rfl,rfl⟩ (by kernel_rfl)

def fb:=cG RC (AF Bb) (AF Bb) kx
def fc:=cG Kx (AF Bb) (AF Bb) kx
def Fo (x0:List Z) (x1:List AE) (x2:Bool) (x3:O) (x4:Z) (x5 x6:O):Option (O×List Z×List AE):=cG RB fb (AF Bb) kx ⟨[(3,.ptr 0 0),(5,.ptr 1 0),(6,.ptr 2 0),(9,.ptr 3 0),(10,.lst AD x0),(11,.lst Ar x1),(146,.bool x2)],[.var (U.enc x3),.var (AD.enc x4),.var (U.enc x5),.var (U.enc x6)]⟩
def Lb (x0:List (List Int)) (x1:List Z) (x2:List AE) (x3:Bool) (x4:O) (x5:Z) (x6 x7:O):Option (O×List Z×List AE):=cG Kx (AF Bb) (AF Bb) kx ⟨[(1,.lst (.slice (.int .i64)) x0),(3,.ptr 0 0),(5,.ptr 1 0),(6,.ptr 2 0),(9,.ptr 3 0),(10,.lst AD x1),(11,.lst Ar x2),(105,.bool x3)],[.var (U.enc x4),.var (AD.enc x5),.var (U.enc x6),.var (U.enc x7)]⟩
def D3 (x0:List (List Int)) (x1:List Z) (x2:List AE) (x3:Bool) (x4:O) (x5:Z) (x6 x7:O):Option (O×List Z×List AE):=cG Q_ fc (AF Bb) kx ⟨[(1,.lst (.slice (.int .i64)) x0),(3,.ptr 0 0),(5,.ptr 1 0),(6,.ptr 2 0),(9,.ptr 3 0),(10,.lst AD x1),(11,.lst Ar x2),(105,.bool x3)],[.var (U.enc x4),.var (AD.enc x5),.var (U.enc x6),.var (U.enc x7)]⟩
def Rh (x0:List (List Int)) (x1:List Z) (x2:List AE) (x3:Bool) (x4:O) (x5:Z) (x6 x7:O):Option (O×List Z×List AE):=cG RD (AF Bb) (AF Bb) kx ⟨[(1,.lst (.slice (.int .i64)) x0),(3,.ptr 0 0),(5,.ptr 1 0),(6,.ptr 2 0),(9,.ptr 3 0),(10,.lst AD x1),(11,.lst Ar x2),(59,.bool x3)],[.var (U.enc x4),.var (AD.enc x5),.var (U.enc x6),.var (U.enc x7)]⟩
def Ri (x0:List Z) (x1:List AE) (x2:Bool) (x3:O) (x4:Z) (x5 x6:O):Option (O×List Z×List AE):=(if x2=true then (if ([]:List Y).length+x4.2.2.2.2.2.length<=68719476736 then ((D6 x3 x4 4).bind fun y9=>(some ((x3.1,x4.2.2.2.1,false,true,false,false,([]:List Int),(([]:List Y)++x4.2.2.2.2.2),0,0,0,0,(ByteArray.empty,ByteArray.empty,0),([]:List Int)),y9,x1))) else none) else (some (x6,x0,x1)))
def Rj (x0:List (List Int)) (x1:List Z) (x2:List AE) (x3:Bool) (x4:O) (x5:Z) (x6 x7:O):Option (O×List Z×List AE):=(if 0<=(i64.wrap (x5.2.2.2.1-1)) then (if (i64.wrap (x5.2.2.2.1-1))<(x0.length:Int) then (if (x5.1==3)=true then ((Dj (x0.getD (i64.wrap (x5.2.2.2.1-1)).toNat ([]:List Int)) x4.1).bind fun y8=>(if y8=true then (if 0<=(0:Int) then (if 0<((x0.getD (i64.wrap (x5.2.2.2.1-1)).toNat ([]:List Int)).length:Int) then (Fo x1 x2 (((x0.getD (i64.wrap (x5.2.2.2.1-1)).toNat ([]:List Int)).getD (0:Int).toNat 0) != x4.1) x4 x5 x6 x7) else none) else none) else (Fo x1 x2 false x4 x5 x6 x7))) else (Fo x1 x2 false x4 x5 x6 x7)) else none) else none)
def Rk (x0:List (List Int)) (x1:List Z) (x2:List AE) (x3:Bool) (x4:O) (x5:Z) (x6 x7:O):Option (O×List Z×List AE):=(if x3=true then ((LB x4 x5.2.2.2.1).bind fun y7=>(if ([]:List Y).length+x4.2.2.2.2.2.2.2.1.length<=68719476736 then (some (y7,([(2,x4.1,x5.2.1,x5.2.2.2.1,0,(([]:List Y)++x4.2.2.2.2.2.2.2.1))]:List Z),x2)) else none)) else (Lb x0 x1 x2 x3 x4 x5 x6 x7))
def Rl (x0:List (List Int)) (x1:List Z) (x2:List AE) (x3:Bool) (x4:O) (x5:Z) (x6 x7:O):Option (O×List Z×List AE):=(if (x5.2.2.2.1==x4.2.1)=true then (if 0<=(i64.wrap (x4.2.1-1)) then (if (i64.wrap (x4.2.1-1))<(x0.length:Int) then ((R9 x4 (x0.getD (i64.wrap (x4.2.1-1)).toNat ([]:List Int)) x5).bind fun y5=>(some (y5.1,y5.2.1,y5.2.2))) else none) else none) else (if (x5.1==1)=true then (if (x5.2.2.2.1==(i64.wrap (x4.2.1+1)))=true then (if x4.2.2.2.1=true then (if 0<=(i64.wrap (x4.2.1-1)) then (if (i64.wrap (x4.2.1-1))<(x0.length:Int) then ((Dj (x0.getD (i64.wrap (x4.2.1-1)).toNat ([]:List Int)) x4.1).bind fun y6=>(D3 x0 x1 x2 y6 x4 x5 x6 x7)) else none) else none) else (D3 x0 x1 x2 false x4 x5 x6 x7)) else (D3 x0 x1 x2 false x4 x5 x6 x7)) else (D3 x0 x1 x2 false x4 x5 x6 x7)))
def X2 (x0:O) (x1:List (List Int)) (x2:Z):Option (O×List Z×List AE):=((C7 x0).bind fun y1=>((FR x0).bind fun y2=>(if (!y2)=false then ((Dw x1).bind fun y3=>(if (!y3)=false then ((Ub x2).bind fun y4=>(if (!y4)=false then (if (x2.2.2.1 != x0.1)=false then (if (decide (x2.2.2.2.1<x0.2.1))=false then (if (decide (x2.2.2.2.1>(x1.length:Int)))=false then (if (decide (x0.2.1>(x1.length:Int)))=true then (some (y1,([]:List Z),([]:List AE))) else (Rh x1 ([]:List Z) ([]:List AE) (decide (x0.2.1>(x1.length:Int))) x0 x2 (0,0,false,false,false,false,([]:List Int),([]:List Y),0,0,0,0,(ByteArray.empty,ByteArray.empty,0),([]:List Int)) y1)) else (some (y1,([]:List Z),([]:List AE)))) else (some (y1,([]:List Z),([]:List AE)))) else (some (y1,([]:List Z),([]:List AE)))) else (some (y1,([]:List Z),([]:List AE))))) else (some (y1,([]:List Z),([]:List AE))))) else (some (y1,([]:List Z),([]:List AE))))))
theorem dA:uZ Ri Fo:=jS (by kernel_rfl)
theorem dB:sZ Rj Lb:=jS (by kernel_rfl)
theorem dC:sZ Rk D3:=jS (by kernel_rfl)
theorem dD:sZ Rl Rh:=jS (by kernel_rfl)
theorem mA:PN X2 Pn:=cT Bb rfl ⟨rfl,rfl⟩ (by kernel_rfl)
def X3:=cG XU (AF EO) (AF EO) kx
def mB:=kB [] [1] 1 X3
def mC:=kE 0 [] [1] 1 X3 kx
def JV (x0:Int) (x1:Bool) (x2:Z):Option Bool:=cG XT mB (AF EO) mC ⟨[(1,.ptr 0 0),(38,.int .i64 x0),(39,.bool x1)],[.var (AD.enc x2)]⟩
def N8 (x0:Bool) (x1:Z):Option Bool:=cG XV (AF EO) (AF EO) kx ⟨[(1,.ptr 0 0),(36,.bool x0)],[.var (AD.enc x1)]⟩
def WL (x0:Int) (x1:Bool) (x2:Z):Option Bool:=(if x1=true then (some true) else (if (x0==5)=true then (some ((x2.2.2.2.2.2.length:Int)==1)) else (some ((x2.2.2.2.2.2.length:Int)==0))))
def WM (x0:Bool) (x1:Z):Option Bool:=(if (x1.1==2)=true then (JV x1.1 (x1.1==2) x1) else (JV x1.1 (x1.1==3) x1))
def dE (x0:Z):Option Bool:=((Af x0.1 1 8).bind fun y1=>(if (!y1)=false then ((Eg x0.2.1).bind fun y2=>(if (!y2)=false then ((Eg x0.2.2.1).bind fun y3=>(if (!y3)=false then ((Af x0.2.2.2.1 1 9).bind fun y4=>(if (!y4)=false then ((Af x0.2.2.2.2.1 0 1000000000).bind fun y5=>(if (!y5)=false then ((Ex x0.2.2.2.2.2).bind fun y6=>(if (!y6)=true then (some false) else (N8 (!y6) x0))) else (some false))) else (some false))) else (some false))) else (some false))) else (some false)))
theorem jJ:PN WL JV:=jS (by kernel_rfl)
theorem jK:QP WM N8:=jS (by kernel_rfl)
theorem pC:PL dE Ua:=cT EO rfl ⟨rfl,rfl⟩ (by kernel_rfl)
def NW:=cG L7 (AF B4) (AF B4) kx
def Hu:=kB [] [] 2 NW
def Hv:=kE 0 [] [] 2 NW kx
def DU (x0:List (List Int)) (x1:Bool) (x2:O) (x3:Z):Option (List Z×List AE×O):=cG NL Hu (AF B4) Hv ⟨[(0,.ptr 0 0),(1,.lst (.slice (.int .i64)) x0),(5,.ptr 1 0),(37,.bool x1)],[.var (U.enc x2),.var (AD.enc x3)]⟩
def FD (x0:Bool) (x1:O) (x2:Z):Option (List Z×List AE×O):=cG NM Hu (AF B4) Hv ⟨[(0,.ptr 0 0),(5,.ptr 1 0),(75,.bool x0)],[.var (U.enc x1),.var (AD.enc x2)]⟩
def FE (x0:Int) (x1:Bool) (x2:O) (x3:Z):Option (List Z×List AE×O):=cG L6 Hu (AF B4) Hv ⟨[(0,.ptr 0 0),(5,.ptr 1 0),(9,.int .i64 x0),(107,.bool x1)],[.var (U.enc x2),.var (AD.enc x3)]⟩
def MD (x0:List (List Int)) (x1:Bool) (x2:O) (x3:Z):Option (List Z×List AE×O):=(if x1=true then (if 0<=(i64.wrap (x2.2.1-1)) then (if (i64.wrap (x2.2.1-1))<(x0.length:Int) then ((C_ (x0.getD (i64.wrap (x2.2.1-1)).toNat ([]:List Int)) x3.2.2.2.2.2 x2).bind fun y2=>(some (y2.1,[],y2.2))) else none) else none) else (some ([],[],x2)))
def ME (x0:Bool) (x1:O) (x2:Z):Option (List Z×List AE×O):=(if x0=true then ((LC x1.2.2.2.2.2.2.1 x2.2.1).bind fun y4=>(if x1.2.2.2.2.2.1=false then (if ((y4.length:Int)==0)=true then (some ([],[],(x1.1,x1.2.1,x1.2.2.1,x1.2.2.2.1,x1.2.2.2.2.1,x1.2.2.2.1,y4,x1.2.2.2.2.2.2.2))) else (some ([],[],(x1.1,x1.2.1,x1.2.2.1,x1.2.2.2.1,x1.2.2.2.2.1,false,y4,x1.2.2.2.2.2.2.2)))) else (some ([],[],(x1.1,x1.2.1,x1.2.2.1,x1.2.2.2.1,x1.2.2.2.2.1,true,y4,x1.2.2.2.2.2.2.2))))) else (some ([],[],x1)))
def MF (x0:Int) (x1:Bool) (x2:O) (x3:Z):Option (List Z×List AE×O):=(if x1=true then ((Iq x3 x2).bind fun y5=>(some (y5.1,[],y5.2))) else (if (x0==6)=true then ((Fh 1 x3 x2).bind fun y6=>(some ([],y6.1,y6.2))) else (if (x0==8)=true then ((Fh 2 x3 x2).bind fun y7=>(some ([],y7.1,y7.2))) else (some ([],[],x2)))))
def QG (x1:List (List Int)) (x2:Z) (b0:O):Option (List Z×List AE×O):=(if (x2.1==1)=true then ((Jj x1 x2 b0).bind fun y1=>(some (y1.1,[],y1.2))) else (if (x2.1==2)=true then (if (x2.2.2.2.1==b0.2.1)=true then (if b0.2.2.2.2.1=true then (DU x1 (!b0.2.2.2.1) b0 x2) else (DU x1 false b0 x2)) else (DU x1 false b0 x2)) else (if (x2.1==3)=true then (if 0<=(i64.wrap (x2.2.2.2.1-1)) then (if (i64.wrap (x2.2.2.2.1-1))<(x1.length:Int) then ((HF (x1.getD (i64.wrap (x2.2.2.2.1-1)).toNat ([]:List Int)) x2 b0).bind fun y3=>(some (y3.1,[],y3.2))) else none) else none) else (if (x2.1==4)=true then (if (x2.2.2.2.1==b0.2.1)=true then (FD b0.2.2.2.2.1 b0 x2) else (FD false b0 x2)) else (if (x2.1==5)=true then (FE x2.1 (x2.1==5) b0 x2) else (FE x2.1 (x2.1==7) b0 x2))))))
theorem Wi:iH MD DU:=jS (by kernel_rfl)
theorem Wj:PN ME FD:=jS (by kernel_rfl)
theorem Wk:iH MF FE:=jS (by kernel_rfl)
theorem aT:PN QG Ji:=cT B4 rfl ⟨rfl,rfl⟩ (by kernel_rfl)
def Ij (x0:List (List Int)) (x1:Bool) (x2:O):Option (Bool×O):=cG I6 (AF CS) (AF CS) kx ⟨[(0,.ptr 0 0),(1,.lst (.slice (.int .i64)) x0),(33,.bool x1)],[.var (U.enc x2)]⟩
def Ik (x0:List (List Int)) (x1:Bool) (x2:O):Option (Bool×O):=((Dv x0).bind fun y1=>(if y1=true then (if 0<=(i64.wrap (x2.2.1-1)) then (if (i64.wrap (x2.2.1-1))<(x0.length:Int) then (if 0<=(0:Int) then (if 0<((x0.getD (i64.wrap (x2.2.1-1)).toNat ([]:List Int)).length:Int) then (some ((((x0.getD (i64.wrap (x2.2.1-1)).toNat ([]:List Int)).getD (0:Int).toNat 0)==x2.1),x2)) else none) else none) else none) else none) else (some (false,x2))))
def Lc (x1:List (List Int)) (b0:O):Option (Bool×O):=(if (!b0.2.2.2.2.2.1)=false then (if (b0.2.2.2.2.2.2.2.2.2.1 != 0)=false then (if (b0.2.2.2.2.2.2.2.2.1==900)=false then (if (decide (b0.2.1>(x1.length:Int)))=true then (some (false,b0)) else (Ij x1 (decide (b0.2.1>(x1.length:Int))) b0)) else (some (false,b0))) else (some (false,b0))) else (some (false,b0)))
theorem QT:PN Ik Ij:=jS (by kernel_rfl)
theorem Uf:QP Lc Gs:=cT CS rfl ⟨rfl,rfl⟩ (by kernel_rfl)
def jL:=cG VZ (AF EY) (AF EY) kx
def jM:=kE 0 [] [4] 1 jL kx
def ff:St->Option (RT (BM.outs EY)):=lG VY [] [1,4,7,8,9] 1 (AF EY) jM
def Ia (x0:ByteArray) (x1:List Y) (x2 x3:Int) (x4:Y):Option Y:=ff ⟨[(1,.str x0),(4,.ptr 0 0),(7,.lst AC x1),(8,.int .i64 x2),(9,.int .i64 x3)],[.var (AC.enc x4)]⟩
def Mh (x0:ByteArray) (x1:List Y) (x2 x3:Int) (x4:Y):Option Y:=(if (decide (x3<x2))=true then (if 0<=x3 then (if x3<(x1.length:Int) then (if (((x1.getD x3.toNat (ByteArray.empty,ByteArray.empty,0)).1).toList==x0.toList)=true then (some (x1.getD x3.toNat (ByteArray.empty,ByteArray.empty,0))) else (Ia x0 x1 x2 (i64.wrap (x3+1)) x4)) else none) else none) else (some (ByteArray.empty,ByteArray.empty,0)))
def ZS (x0:List Y) (x1:ByteArray):Option Y:=(Ia x1 x0 (x0.length:Int) 0 (ByteArray.empty,ByteArray.empty,0))
theorem TY:qp Mh Ia:=lS (by kernel_rfl)
theorem nI:QP ZS M5:=cT EY rfl ⟨rfl,rfl⟩ (by kernel_rfl)
def Ug:=cG Kz (AF Bx) (AF Bx) kx
def Uh:=kE 0 [(5,1)] [5] 2 Ug kx
def TZ:St->Option (RT (BM.outs Bx)):=lG Ky [(5,1)] [0,5,8,9,10] 2 (AF Bx) Uh
def C0 (x0:List Int) (x1 x2:Int) (x3:O) (x4:List Int):Option (List Int×O):=TZ ⟨[(0,.ptr 0 0),(5,.row 1),(8,.lst (.int .i64) x0),(9,.int .i64 x1),(10,.int .i64 x2)],[.var (U.enc x3),.rows 3 (.int .i64) x4]⟩
def GS (x0:List Int) (x1 x2:Int) (x3:O) (x4:List Int):Option (List Int×O):=(if (decide (x2<x1))=true then (if 0<=x2 then (if x2<(x0.length:Int) then (if ((x0.getD x2.toNat 0) != x3.1)=true then (if x4.length+([(x0.getD x2.toNat 0)]:List Int).length<=68719476736 then (C0 x0 x1 (i64.wrap (x2+1)) x3 (x4++([(x0.getD x2.toNat 0)]:List Int))) else none) else (C0 x0 x1 (i64.wrap (x2+1)) x3 x4)) else none) else none) else (some (x4,x3)))
def NX (x1:List Int) (b0:O):Option (List Int×O):=(C0 x1 (x1.length:Int) 0 b0 ([]:List Int))
theorem KI:qp GS C0:=lS (by kernel_rfl)
theorem X4:QP NX By:=cT Bx rfl ⟨rfl,rfl⟩ (by kernel_rfl)
def MG (b0:List Int):Option (List Int):=((Nt (IntKind.u64.wrap (b0.length:Int))).bind fun y1=>((CF 0 (b0.length:Int) y1 b0).bind fun y2=>(some y2)))
theorem Wl:PL MG Ce:=cT FB rfl ⟨rfl,rfl⟩ (by kernel_rfl)
def HK (x0:O) (x1:oP):Option (List AE×O):=cG NN (AF DX) (AF DX) kx ⟨[(0,.ptr 0 0),(3,.ptr 1 0)],[.var (U.enc x0),.var (Kg.enc x1)]⟩
def HL (x0:O) (x1:oP):Option (List AE×O):=(some (([(x1.2.1,x0.2.1,x1.2.2.1,x1.2.2.2.1)]:List AE),(x0.1,x0.2.1,x0.2.2.1,x0.2.2.2.1,x0.2.2.2.2.1,x0.2.2.2.2.2.1,x0.2.2.2.2.2.2.1,x0.2.2.2.2.2.2.2.1,x0.2.2.2.2.2.2.2.2.1,0,0,0,(ByteArray.empty,ByteArray.empty,0),([]:List Int))))
def QH (b0:O):Option (List AE×O):=(if (b0.2.2.2.2.2.2.2.2.2.1==1)=true then ((LD b0.2.2.2.2.2.2.2.1 b0.2.2.2.2.2.2.2.2.2.2.2.2.1).bind fun y1=>(HK (b0.1,b0.2.1,b0.2.2.1,b0.2.2.2.1,b0.2.2.2.2.1,b0.2.2.2.2.2.1,b0.2.2.2.2.2.2.1,y1,b0.2.2.2.2.2.2.2.2) b0.2.2.2.2.2.2.2.2.2)) else ((M5 b0.2.2.2.2.2.2.2.1 b0.2.2.2.2.2.2.2.2.2.2.2.2.1.1).bind fun y2=>(HK b0 (b0.2.2.2.2.2.2.2.2.2.1,b0.2.2.2.2.2.2.2.2.2.2.1,b0.2.2.2.2.2.2.2.2.2.2.2.1,y2,b0.2.2.2.2.2.2.2.2.2.2.2.2.2))))
theorem MH:QP HL HK:=jS (by kernel_rfl)
theorem aU:PL QH Gt:=cT DX rfl ⟨rfl,rfl⟩ (by kernel_rfl)
def Ta:=cG KC (AF Bg) (AF Bg) kx
def Tb:=kE 0 [(7,2)] [7] 3 Ta kx
def SC:St->Option (RT (BM.outs Bg)):=lG KB [(7,2)] [0,5,7,11,12,13] 3 (AF Bg) Tb
def Dk (x0:List Int) (x1 x2:Int) (x3:O) (x4:Z) (x5:List Z):Option (List Z×O):=SC ⟨[(0,.ptr 0 0),(5,.ptr 1 0),(7,.row 2),(11,.lst (.int .i64) x0),(12,.int .i64 x1),(13,.int .i64 x2)],[.var (U.enc x3),.var (AD.enc x4),.rows 97 AD x5]⟩
def F0 (x0:List Int) (x1 x2:Int) (x3:O) (x4:Z) (x5:List Z):Option (List Z×O):=(if (decide (x2<x1))=true then (if 0<=x2 then (if x2<(x0.length:Int) then ((GN x4).bind fun y1=>(if x5.length+([(y1.1,x3.1,(x0.getD x2.toNat 0),x3.2.1,y1.2.2.2.2)]:List Z).length<=68719476736 then (Dk x0 x1 (i64.wrap (x2+1)) x3 x4 (x5++([(y1.1,x3.1,(x0.getD x2.toNat 0),x3.2.1,y1.2.2.2.2)]:List Z))) else none)) else none) else none) else (some (x5,x3)))
def MI (x1:List Int) (x2:Z) (b0:O):Option (List Z×O):=(Dk x1 (x1.length:Int) 0 b0 x2 ([]:List Z))
theorem I8:rV F0 Dk:=lS (by kernel_rfl)
theorem Wm:PN MI Ah:=cT Bg rfl ⟨rfl,rfl⟩ (by kernel_rfl)
def dF (b0:O):Option O:=(some (b0.1,b0.2.1,b0.2.2.1,b0.2.2.2.1,false,false,[],b0.2.2.2.2.2.2.2.1,0,0,0,0,(ByteArray.empty,ByteArray.empty,0),([]:List Int)))
theorem dG:PL dF Fg:=cT HQ rfl ⟨rfl,rfl⟩ (by kernel_rfl)
def Ld (x1:List Int) (x2:List Y) (b0:O):Option (List Z×O):=((By x1 b0).bind fun y1=>((Ag x2).bind fun y2=>((Bc y1.1).bind fun y3=>((Ce y3).bind fun y4=>(if ((y1.1.length:Int)==0)=true then ((Ah y1.1 (3,0,0,0,0,x2) (y1.2.1,y1.2.2.1,y1.2.2.2.1,true,y1.2.2.2.2.2.1,true,y4,y2,y1.2.2.2.2.2.2.2.2.2)).bind fun y5=>(some (y5.1,y5.2))) else ((Ah y1.1 (3,0,0,0,0,x2) (y1.2.1,y1.2.2.1,y1.2.2.2.1,true,y1.2.2.2.2.2.1,y1.2.2.2.2.2.2.1,y4,y2,y1.2.2.2.2.2.2.2.2.2)).bind fun y6=>(some (y6.1,y6.2))))))))
theorem Ui:PN Ld C_:=cT EP rfl ⟨rfl,rfl⟩ (by kernel_rfl)
def Db (x0:Bool) (x1:O):Option Bool:=cG RE (AF FP) (AF FP) kx ⟨[(1,.ptr 0 0),(70,.bool x0)],[.var (U.enc x1)]⟩
def QI (x0:Bool) (x1:O):Option Bool:=((MX x1.2.2.2.2.2.2.2.2.2).bind fun y7=>(if y7=false then (if (x1.2.2.2.2.2.2.2.2.2.1==1)=false then (if (x1.2.2.2.2.2.2.2.2.2.1==2)=true then (if x1.2.2.2.2.2.1=true then ((AS x1.2.2.2.2.2.2.2.2.2.2.1 0 1000).bind fun y8=>(if y8=true then ((AS x1.2.2.2.2.2.2.2.2.2.2.2.1 1 900).bind fun y9=>(some y9)) else (some false))) else (some false)) else (some false)) else (if x1.2.2.2.2.2.1=true then ((AS x1.2.2.2.2.2.2.2.2.2.2.1 0 1000).bind fun y10=>(if y10=true then ((AS x1.2.2.2.2.2.2.2.2.2.2.2.1 1 900).bind fun y11=>(some y11)) else (some false))) else (some false))) else (some true)))
def WN (x0:O):Option Bool:=((AS x0.1 1 6).bind fun y1=>(if (!y1)=false then ((AS x0.2.1 1 9).bind fun y2=>(if (!y2)=false then (if x0.2.2.2.2.2.1=true then (if (!x0.2.2.2.1)=false then (if (!x0.2.2.2.2.1)=false then (if (decide ((x0.2.2.2.2.2.2.1.length:Int)>0))=false then (if x0.2.2.1=true then (if x0.2.2.2.1=false then (if x0.2.2.2.2.1=false then ((C4 x0.2.2.2.2.2.2.1).bind fun y3=>(if (!y3)=false then ((C4 x0.2.2.2.2.2.2.2.2.2.2.2.2.2).bind fun y4=>(if (!y4)=false then ((DA x0.2.2.2.2.2.2.2.1).bind fun y5=>(if (!y5)=false then ((AS x0.2.2.2.2.2.2.2.2.1 0 900).bind fun y6=>(if (!y6)=true then (some false) else (Db (!y6) x0))) else (some false))) else (some false))) else (some false))) else (some false)) else (some false)) else ((C4 x0.2.2.2.2.2.2.1).bind fun y12=>(if (!y12)=false then ((C4 x0.2.2.2.2.2.2.2.2.2.2.2.2.2).bind fun y13=>(if (!y13)=false then ((DA x0.2.2.2.2.2.2.2.1).bind fun y14=>(if (!y14)=false then ((AS x0.2.2.2.2.2.2.2.2.1 0 900).bind fun y15=>(if (!y15)=true then (some false) else (Db (!y15) x0))) else (some false))) else (some false))) else (some false)))) else (some false)) else (some false)) else (some false)) else (if x0.2.2.1=true then (if x0.2.2.2.1=false then (if x0.2.2.2.2.1=false then ((C4 x0.2.2.2.2.2.2.1).bind fun y16=>(if (!y16)=false then ((C4 x0.2.2.2.2.2.2.2.2.2.2.2.2.2).bind fun y17=>(if (!y17)=false then ((DA x0.2.2.2.2.2.2.2.1).bind fun y18=>(if (!y18)=false then ((AS x0.2.2.2.2.2.2.2.2.1 0 900).bind fun y19=>(if (!y19)=true then (some false) else (Db (!y19) x0))) else (some false))) else (some false))) else (some false))) else (some false)) else (some false)) else ((C4 x0.2.2.2.2.2.2.1).bind fun y20=>(if (!y20)=false then ((C4 x0.2.2.2.2.2.2.2.2.2.2.2.2.2).bind fun y21=>(if (!y21)=false then ((DA x0.2.2.2.2.2.2.2.1).bind fun y22=>(if (!y22)=false then ((AS x0.2.2.2.2.2.2.2.2.1 0 900).bind fun y23=>(if (!y23)=true then (some false) else (Db (!y23) x0))) else (some false))) else (some false))) else (some false))))) else (some false))) else (some false)))
theorem aV:QP QI Db:=jS (by kernel_rfl)
theorem jN:PL WN FR:=cT FP rfl ⟨rfl,rfl⟩ (by kernel_rfl)
def jO:=cG Vb (AF EZ) (AF EZ) kx
def jP:=kE 0 [] [4] 1 jO kx
def fg:St->Option (RT (BM.outs EZ)):=lG Va [] [0,1,4,5] 1 (AF EZ) jP
def Ib (x0:List Y) (x1:ByteArray) (x2:Int) (x3:Y):Option Y:=fg ⟨[(0,.lst AC x0),(1,.str x1),(4,.ptr 0 0),(5,.int .i64 x2)],[.var (AC.enc x3)]⟩
def Mi (x0:List Y) (x1:ByteArray) (x2:Int) (x3:Y):Option Y:=(if (decide (x2<(x0.length:Int)))=true then (if 0<=x2 then (if x2<(x0.length:Int) then (if (((x0.getD x2.toNat (ByteArray.empty,ByteArray.empty,0)).1).toList==x1.toList)=true then (if 0<=x2 then (if x2<(x0.length:Int) then (some (x0.getD x2.toNat (ByteArray.empty,ByteArray.empty,0))) else none) else none) else (Ib x0 x1 (i64.wrap (x2+1)) x3)) else none) else none) else (some (ByteArray.empty,ByteArray.empty,0)))
def ZT (x0:List Y) (x1:ByteArray):Option Y:=(Ib x0 x1 0 (ByteArray.empty,ByteArray.empty,0))
theorem Tc:iH Mi Ib:=lS (by kernel_rfl)
theorem nJ:QP ZT M6:=cT EZ rfl ⟨rfl,rfl⟩ (by kernel_rfl)
def fh:=cG K3 (AF Av) (AF Av) kx
def fi:=kE 2 [(5,1),(6,2)] [0,5,6] 3 fh kx
def dH:St->Option (RT (BM.outs Av)):=lG RF [(5,1),(6,2)] [0,3,5,6,8] 3 (AF Av) fi
def fj:=cG K4 (AF Av) (AF Av) kx
def Mj:=kE 0 [(5,1),(6,2)] [0,3,5,6] 3 fj kx
def Rm:St->Option (RT (BM.outs Av)):=lG S0 [(5,1),(6,2)] [0,3,5,6,7] 3 (AF Av) Mj
def fk:=kB [(5,1),(6,2)] [0,3,5,6,7] 3 Rm
def Td:=cG Sz fk (AF Av) Mj
def fm:=kB [(5,1),(6,2)] [0,3,5,6,7] 3 Td
def fo:=kE 1 [(5,1),(6,2)] [0,3,5,6,7] 3 Td Mj
def Hc (x0:List Y) (x1:Int) (x2:Y) (x3 x4:List Y):Option (List Y):=cG Sy fm (AF Av) fo ⟨[(0,.lst AC x0),(3,.ptr 0 0),(5,.row 1),(6,.row 2),(7,.int .i64 x1)],[.var (AC.enc x2),.rows 38 AC x3,.rows 38 AC x4]⟩
def Le (x0:List Y) (x1:Y) (x2 x3:List Y):Option (List Y):=cG K3 (AF Av) (AF Av) kx ⟨[(0,.lst AC x0),(5,.row 1),(6,.row 2)],[.var (AC.enc x1),.rows 38 AC x2,.rows 38 AC x3]⟩
def D4 (x0:List Y) (x1:Int) (x2:Y) (x3 x4:List Y):Option (List Y):=dH ⟨[(0,.lst AC x0),(3,.ptr 0 0),(5,.row 1),(6,.row 2),(8,.int .i64 x1)],[.var (AC.enc x2),.rows 38 AC x3,.rows 38 AC x4]⟩
def Lf (x0:List Y) (x1:Y) (x2 x3:List Y):Option (List Y):=cG K4 (AF Av) (AF Av) kx ⟨[(0,.lst AC x0),(3,.ptr 0 0),(5,.row 1),(6,.row 2)],[.var (AC.enc x1),.rows 38 AC x2,.rows 38 AC x3]⟩
def D5 (x0:List Y) (x1:Int) (x2:Y) (x3 x4:List Y):Option (List Y):=Rm ⟨[(0,.lst AC x0),(3,.ptr 0 0),(5,.row 1),(6,.row 2),(7,.int .i64 x1)],[.var (AC.enc x2),.rows 38 AC x3,.rows 38 AC x4]⟩
def Rn (x0:List Y) (x1:Int) (x2:Y) (x3 x4:List Y):Option (List Y):=(if 0<=x1 then (if x1<(x0.length:Int) then (if (((x0.getD x1.toNat (ByteArray.empty,ByteArray.empty,0)).1).toList==x2.1.toList)=true then (if 0<=x1 then (if x1<(x0.length:Int) then (if (decide ((((x0.getD x1.toNat (ByteArray.empty,ByteArray.empty,0)).2).2)>=x2.2.2))=true then (some x3) else (D5 x0 (i64.wrap (x1+1)) x2 x3 x4)) else none) else none) else (D5 x0 (i64.wrap (x1+1)) x2 x3 x4)) else none) else none)
def Ro (x0:List Y) (x1:Y) (x2 x3:List Y):Option (List Y):=((DA x0).bind fun y1=>(if (!y1)=false then ((DA x3).bind fun y2=>(if (!y2)=true then (some x2) else (some x3))) else (some x2)))
def Lg (x0:List Y) (x1:Int) (x2:Y) (x3 x4:List Y):Option (List Y):=(if (decide (x1<(x0.length:Int)))=true then (if 0<=x1 then (if x1<(x0.length:Int) then (if (!((Op.bytesLess ((x0.getD x1.toNat (ByteArray.empty,ByteArray.empty,0)).1).toList x2.1.toList)||(((x0.getD x1.toNat (ByteArray.empty,ByteArray.empty,0)).1).toList==x2.1.toList)))=true then (if 0<=x1 then (if x1<(x0.length:Int) then (if x4.length+([x0.getD x1.toNat (ByteArray.empty,ByteArray.empty,0)]:List Y).length<=68719476736 then (D4 x0 (i64.wrap (x1+1)) x2 x3 (x4++([x0.getD x1.toNat (ByteArray.empty,ByteArray.empty,0)]:List Y))) else none) else none) else none) else (D4 x0 (i64.wrap (x1+1)) x2 x3 x4)) else none) else none) else (Le x0 x2 x3 x4))
def Rp (x0:List Y) (x1:Y) (x2 x3:List Y):Option (List Y):=(if x3.length+([x1]:List Y).length<=68719476736 then (D4 x0 0 x1 x2 (x3++([x1]:List Y))) else none)
def Lh (x0:List Y) (x1:Int) (x2:Y) (x3 x4:List Y):Option (List Y):=(if (decide (x1<(x0.length:Int)))=true then (if 0<=x1 then (if x1<(x0.length:Int) then (if (Op.bytesLess ((x0.getD x1.toNat (ByteArray.empty,ByteArray.empty,0)).1).toList x2.1.toList)=true then (if 0<=x1 then (if x1<(x0.length:Int) then (if x4.length+([x0.getD x1.toNat (ByteArray.empty,ByteArray.empty,0)]:List Y).length<=68719476736 then (Hc x0 x1 x2 x3 (x4++([x0.getD x1.toNat (ByteArray.empty,ByteArray.empty,0)]:List Y))) else none) else none) else none) else (Hc x0 x1 x2 x3 x4)) else none) else none) else (Lf x0 x2 x3 x4))
def X5 (x0:List Y) (x1:Y):Option (List Y):=(if ([]:List Y).length+x0.length<=68719476736 then (D5 x0 0 x1 (([]:List Y)++x0) ([]:List Y)) else none)
theorem dI:qp Rn Hc:=jS (by kernel_rfl)
theorem dJ:iH Ro Le:=jS (by kernel_rfl)
theorem Rq:qp Lg D4:=lS (by kernel_rfl)
theorem dL:iH Rp Lf:=jS (by kernel_rfl)
theorem Rr:qp Lh D5:=lS (by kernel_rfl)
theorem mD:QP X5 Hs:=cT Av rfl ⟨rfl,rfl⟩ (by kernel_rfl)
def aW:=cG Pg (AF Cv) (AF Cv) kx
def aX:=kE 0 [(5,0)] [5] 1 aW kx
def Y3:St->Option (RT (BM.outs Cv)):=lG Pf [(5,0)] [0,1,5,6] 1 (AF Cv) aX
def CD (x0:List Int) (x1 x2:Int) (x3:List Int):Option (List Int):=Y3 ⟨[(0,.lst (.int .i64) x0),(1,.int .i64 x1),(5,.row 0),(6,.int .i64 x2)],[.rows 3 (.int .i64) x3]⟩
def Ix (x0:List Int) (x1 x2:Int) (x3:List Int):Option (List Int):=(if (decide (x2<=6))=true then (if (x2 != x1)=true then ((Dj x0 x2).bind fun y1=>(if y1=true then (if x3.length+([x2]:List Int).length<=68719476736 then (CD x0 x1 (i64.wrap (x2+1)) (x3++([x2]:List Int))) else none) else (CD x0 x1 (i64.wrap (x2+1)) x3))) else (CD x0 x1 (i64.wrap (x2+1)) x3)) else (some x3))
def Te (x0:List Int) (x1:Int):Option (List Int):=(CD x0 x1 1 ([]:List Int))
theorem Oh:iH Ix CD:=lS (by kernel_rfl)
theorem fp:QP Te GO:=cT Cv rfl ⟨rfl,rfl⟩ (by kernel_rfl)
def Tf (b0:O):Option (List AE×O):=(if (b0.2.2.2.2.2.2.2.2.2.1==1)=true then ((Hs b0.2.2.2.2.2.2.2.1 b0.2.2.2.2.2.2.2.2.2.2.2.2.1).bind fun y1=>(some (([(b0.2.2.2.2.2.2.2.2.2.2.1,b0.2.1,b0.2.2.2.2.2.2.2.2.2.2.2.1,b0.2.2.2.2.2.2.2.2.2.2.2.2.1)]:List AE),(b0.1,b0.2.1,b0.2.2.1,b0.2.2.2.1,b0.2.2.2.2.1,b0.2.2.2.2.2.1,b0.2.2.2.2.2.2.1,y1,b0.2.2.2.2.2.2.2.2.1,0,0,0,(ByteArray.empty,ByteArray.empty,0),([]:List Int))))) else ((M6 b0.2.2.2.2.2.2.2.1 b0.2.2.2.2.2.2.2.2.2.2.2.2.1.1).bind fun y2=>(some (([(b0.2.2.2.2.2.2.2.2.2.2.1,b0.2.1,b0.2.2.2.2.2.2.2.2.2.2.2.1,y2)]:List AE),(b0.1,b0.2.1,b0.2.2.1,b0.2.2.2.1,b0.2.2.2.2.1,b0.2.2.2.2.2.1,b0.2.2.2.2.2.2.1,b0.2.2.2.2.2.2.2.1,b0.2.2.2.2.2.2.2.2.1,0,0,0,(ByteArray.empty,ByteArray.empty,0),([]:List Int))))))
theorem fq:PL Tf GP:=cT IL rfl ⟨rfl,rfl⟩ (by kernel_rfl)
def jQ:=cG Vd (AF Ea) (AF Ea) kx
def jR:=kE 0 [(7,1)] [7] 3 jQ kx
def fu:St->Option (RT (BM.outs Ea)):=lG Vc [(7,1)] [0,1,2,7,8] 3 (AF Ea) jR
def GT (x0:List Int) (x1:List Y) (x2:Int) (x3:O) (x4:List Z) (x5:List Y):Option (List Z×O):=fu ⟨[(0,.ptr 0 0),(1,.lst (.int .i64) x0),(2,.lst AC x1),(7,.row 1),(8,.int .i64 x2)],[.var (U.enc x3),.rows 97 AD x4,.frz AC x5]⟩
def Mk (x0:List Int) (x1:List Y) (x2:Int) (x3:O) (x4:List Z) (x5:List Y):Option (List Z×O):=(if (decide (x2<(x0.length:Int)))=true then (if 0<=x2 then (if x2<(x0.length:Int) then (if ((x0.getD x2.toNat 0) != x3.1)=true then (if 0<=x2 then (if x2<(x0.length:Int) then (if ([]:List Y).length+x1.length<=68719476736 then (if x4.length+([(3,x3.1,(x0.getD x2.toNat 0),x3.2.1,0,(([]:List Y)++x1))]:List Z).length<=68719476736 then (GT x0 x1 (i64.wrap (x2+1)) x3 (x4++([(3,x3.1,(x0.getD x2.toNat 0),x3.2.1,0,(([]:List Y)++x1))]:List Z)) x5) else none) else none) else none) else none) else (GT x0 x1 (i64.wrap (x2+1)) x3 x4 x5)) else none) else none) else (some (x4,x3)))
def ZU (x1:List Int) (x2:List Y) (b0:O):Option (List Z×O):=(if ([]:List Y).length+x2.length<=68719476736 then ((GO x1 b0.1).bind fun y1=>(GT x1 x2 0 (b0.1,b0.2.1,b0.2.2.1,true,b0.2.2.2.2.1,((y1.length:Int)==0),y1,(([]:List Y)++x2),b0.2.2.2.2.2.2.2.2) ([]:List Z) (([]:List Y)++x2))) else none)
theorem Tg:rV Mk GT:=lS (by kernel_rfl)
theorem nK:PN ZU M7:=cT Ea rfl ⟨rfl,rfl⟩ (by kernel_rfl)
def X6:=cG XY (AF EQ) (AF EQ) kx
def mE:=kB [] [1] 1 X6
def mF:=kE 0 [] [1] 1 X6 kx
def JW (x0:Int) (x1:Bool) (x2:Z):Option Bool:=cG XX mE (AF EQ) mF ⟨[(1,.ptr 0 0),(38,.int .i64 x0),(39,.bool x1)],[.var (AD.enc x2)]⟩
def N9 (x0:Bool) (x1:Z):Option Bool:=cG XZ (AF EQ) (AF EQ) kx ⟨[(1,.ptr 0 0),(36,.bool x0)],[.var (AD.enc x1)]⟩
def WO (x0:Int) (x1:Bool) (x2:Z):Option Bool:=(if x1=true then (some true) else (if (x0==5)=true then (some ((x2.2.2.2.2.2.length:Int)==1)) else (some ((x2.2.2.2.2.2.length:Int)==0))))
def WP (x0:Bool) (x1:Z):Option Bool:=(if (x1.1==2)=true then (JW x1.1 (x1.1==2) x1) else (JW x1.1 (x1.1==3) x1))
def dM (x0:Z):Option Bool:=((AS x0.1 1 8).bind fun y1=>(if (!y1)=false then ((AS x0.2.1 1 6).bind fun y2=>(if (!y2)=false then ((AS x0.2.2.1 1 6).bind fun y3=>(if (!y3)=false then ((AS x0.2.2.2.1 1 9).bind fun y4=>(if (!y4)=false then ((AS x0.2.2.2.2.1 0 1000000000).bind fun y5=>(if (!y5)=false then ((DA x0.2.2.2.2.2).bind fun y6=>(if (!y6)=true then (some false) else (N9 (!y6) x0))) else (some false))) else (some false))) else (some false))) else (some false))) else (some false)))
theorem jT:PN WO JW:=jS (by kernel_rfl)
theorem jU:QP WP N9:=jS (by kernel_rfl)
theorem pD:PL dM Ub:=cT EQ rfl ⟨rfl,rfl⟩ (by kernel_rfl)
def WQ:=cG S6 (AF CM) (AF CM) kx
def FT:=kB [] [6,9,10,11] 4 WQ
def FU:=kE 0 [] [6,9,10,11] 4 WQ kx
def Ic (x0:List Int) (x1:List Z) (x2:List AE) (x3:Bool) (x4:O) (x5:Z) (x6 x7:O):Option (O×List Z×List AE):=cG Ve FT (AF CM) FU ⟨[(1,.lst (.int .i64) x0),(5,.ptr 1 0),(6,.ptr 2 0),(9,.ptr 3 0),(10,.lst AD x1),(11,.lst Ar x2),(28,.bool x3)],[.var (U.enc x4),.var (AD.enc x5),.var (U.enc x6),.var (U.enc x7)]⟩
def Id (x0:List Z) (x1:List AE) (x2:Bool) (x3:O) (x4:Z) (x5 x6:O):Option (O×List Z×List AE):=cG Vf FT (AF CM) FU ⟨[(3,.ptr 0 0),(5,.ptr 1 0),(6,.ptr 2 0),(9,.ptr 3 0),(10,.lst AD x0),(11,.lst Ar x1),(60,.bool x2)],[.var (U.enc x3),.var (AD.enc x4),.var (U.enc x5),.var (U.enc x6)]⟩
def Ml (x0:List Z) (x1:List AE) (x2:Bool) (x3:O) (x4:Z) (x5 x6:O):Option (O×List Z×List AE):=cG Vg FT (AF CM) FU ⟨[(3,.ptr 0 0),(5,.ptr 1 0),(6,.ptr 2 0),(9,.ptr 3 0),(10,.lst AD x0),(11,.lst Ar x1),(50,.bool x2)],[.var (U.enc x3),.var (AD.enc x4),.var (U.enc x5),.var (U.enc x6)]⟩
def Mm (x0:List Z) (x1:List AE) (x2:Bool) (x3:O) (x4:Z) (x5 x6:O):Option (O×List Z×List AE):=cG S3 FT (AF CM) FU ⟨[(5,.ptr 1 0),(6,.ptr 2 0),(9,.ptr 3 0),(10,.lst AD x0),(11,.lst Ar x1),(145,.bool x2)],[.var (U.enc x3),.var (AD.enc x4),.var (U.enc x5),.var (U.enc x6)]⟩
def Ie (x0:List Z) (x1:List AE) (x2:Int) (x3:O) (x4:Z) (x5 x6:O):Option (O×List Z×List AE):=cG S4 FT (AF CM) FU ⟨[(5,.ptr 1 0),(6,.ptr 2 0),(9,.ptr 3 0),(10,.lst AD x0),(11,.lst Ar x1),(13,.int .i64 x2)],[.var (U.enc x3),.var (AD.enc x4),.var (U.enc x5),.var (U.enc x6)]⟩
def If (x0:List Z) (x1:List AE) (x2:Bool) (x3:O) (x4:Z) (x5 x6:O):Option (O×List Z×List AE):=cG S5 FT (AF CM) FU ⟨[(5,.ptr 1 0),(6,.ptr 2 0),(9,.ptr 3 0),(10,.lst AD x0),(11,.lst Ar x1),(127,.bool x2)],[.var (U.enc x3),.var (AD.enc x4),.var (U.enc x5),.var (U.enc x6)]⟩
def Th (x0:List Int) (x1:List Z) (x2:List AE) (x3:Bool) (x4:O) (x5:Z) (x6 x7:O):Option (O×List Z×List AE):=(if x3=true then ((M7 x0 x5.2.2.2.2.2 x7).bind fun y2=>(some (y2.2,y2.1,x2))) else (some (x7,x1,x2)))
def Ti (x0:List Z) (x1:List AE) (x2:Bool) (x3:O) (x4:Z) (x5 x6:O):Option (O×List Z×List AE):=(if (!x6.2.2.2.1)=true then ((LB x3 x3.2.1).bind fun y4=>(if ([]:List Y).length+x4.2.2.2.2.2.length<=68719476736 then ((D6 x3 x4 4).bind fun y5=>(some ((y4.1,y4.2.1,y4.2.2.1,true,y4.2.2.2.2.1,y4.2.2.2.2.2.1,y4.2.2.2.2.2.2.1,(([]:List Y)++x4.2.2.2.2.2),y4.2.2.2.2.2.2.2.2),y5,x1))) else none)) else ((D6 x3 x4 4).bind fun y6=>(some (x6,y6,x1))))
def Tj (x0:List Z) (x1:List AE) (x2:Bool) (x3:O) (x4:Z) (x5 x6:O):Option (O×List Z×List AE):=(if (!x6.2.2.2.1)=true then (if x6.2.2.1=true then (some (x6,x0,x1)) else (Id x0 x1 x6.2.2.1 x3 x4 x5 x6)) else (Id x0 x1 false x3 x4 x5 x6))
def Tk (x0:List Z) (x1:List AE) (x2:Bool) (x3:O) (x4:Z) (x5 x6:O):Option (O×List Z×List AE):=((HS x6.2.2.2.2.2.2.2.2.2.2.2.2.2 x4.2.1).bind fun y11=>(if ((y11.length:Int)==0)=true then ((GP (x6.1,x6.2.1,x6.2.2.1,x6.2.2.2.1,x6.2.2.2.2.1,x6.2.2.2.2.2.1,x6.2.2.2.2.2.2.1,x6.2.2.2.2.2.2.2.1,x6.2.2.2.2.2.2.2.2.1,x6.2.2.2.2.2.2.2.2.2.1,x6.2.2.2.2.2.2.2.2.2.2.1,x6.2.2.2.2.2.2.2.2.2.2.2.1,x6.2.2.2.2.2.2.2.2.2.2.2.2.1,y11)).bind fun y12=>(some (y12.2,x0,y12.1))) else (some ((x6.1,x6.2.1,x6.2.2.1,x6.2.2.2.1,x6.2.2.2.2.1,x6.2.2.2.2.2.1,x6.2.2.2.2.2.2.1,x6.2.2.2.2.2.2.2.1,x6.2.2.2.2.2.2.2.2.1,x6.2.2.2.2.2.2.2.2.2.1,x6.2.2.2.2.2.2.2.2.2.2.1,x6.2.2.2.2.2.2.2.2.2.2.2.1,x6.2.2.2.2.2.2.2.2.2.2.2.2.1,y11),x0,x1))))
def Tl (x0:List Z) (x1:List AE) (x2:Int) (x3:O) (x4:Z) (x5 x6:O):Option (O×List Z×List AE):=(if (x6.2.2.2.2.2.2.2.2.2.1 != x2)=false then (if (x6.2.2.2.2.2.2.2.2.2.2.2.1 != x4.2.2.2.2.1)=true then (some (x6,x0,x1)) else (Mm x0 x1 (x6.2.2.2.2.2.2.2.2.2.2.2.1 != x4.2.2.2.2.1) x3 x4 x5 x6)) else (some (x6,x0,x1)))
def Tm (x0:List Z) (x1:List AE) (x2:Bool) (x3:O) (x4:Z) (x5 x6:O):Option (O×List Z×List AE):=(if x2=true then (if (x4.1==8)=true then (Ie x0 x1 2 x3 x4 x5 x6) else (Ie x0 x1 1 x3 x4 x5 x6)) else (some (x6,x0,x1)))
def ZV (x0:O) (x1:List Int) (x2:Z):Option (O×List Z×List AE):=((C7 x0).bind fun y1=>(if (x2.1==2)=true then (if y1.2.2.2.2.1=true then (Ic x1 ([]:List Z) ([]:List AE) (!y1.2.2.2.1) x0 x2 (0,0,false,false,false,false,([]:List Int),([]:List Y),0,0,0,0,(ByteArray.empty,ByteArray.empty,0),([]:List Int)) y1) else (Ic x1 ([]:List Z) ([]:List AE) false x0 x2 (0,0,false,false,false,false,([]:List Int),([]:List Y),0,0,0,0,(ByteArray.empty,ByteArray.empty,0),([]:List Int)) y1)) else (if (x2.1==3)=true then ((Dj x1 x0.1).bind fun y3=>(if (!y3)=true then (some (y1,([]:List Z),([]:List AE))) else (if 0<=(0:Int) then (if 0<(x1.length:Int) then (if ((x1.getD (0:Int).toNat 0)==x0.1)=true then (some (y1,([]:List Z),([]:List AE))) else (Ml ([]:List Z) ([]:List AE) ((x1.getD (0:Int).toNat 0)==x0.1) x0 x2 (0,0,false,false,false,false,([]:List Int),([]:List Y),0,0,0,0,(ByteArray.empty,ByteArray.empty,0),([]:List Int)) y1)) else none) else none))) else (if (x2.1==4)=true then (if y1.2.2.2.2.1=true then ((HS y1.2.2.2.2.2.2.1 x2.2.1).bind fun y7=>(if y1.2.2.2.1=true then (some ((y1.1,y1.2.1,y1.2.2.1,y1.2.2.2.1,y1.2.2.2.2.1,((y7.length:Int)==0),y7,y1.2.2.2.2.2.2.2),([]:List Z),([]:List AE))) else (some ((y1.1,y1.2.1,y1.2.2.1,y1.2.2.2.1,y1.2.2.2.2.1,false,y7,y1.2.2.2.2.2.2.2),([]:List Z),([]:List AE))))) else (some (y1,([]:List Z),([]:List AE)))) else (if (x2.1==5)=true then (if y1.2.2.2.1=true then (if 0<=(0:Int) then (if 0<(x2.2.2.2.2.2.length:Int) then ((Hs y1.2.2.2.2.2.2.2.1 (x2.2.2.2.2.2.getD (0:Int).toNat (ByteArray.empty,ByteArray.empty,0))).bind fun y8=>((D6 x0 x2 6).bind fun y9=>(some ((y1.1,y1.2.1,y1.2.2.1,y1.2.2.2.1,y1.2.2.2.2.1,y1.2.2.2.2.2.1,y1.2.2.2.2.2.2.1,y8,y1.2.2.2.2.2.2.2.2),y9,([]:List AE))))) else none) else none) else (some (y1,([]:List Z),([]:List AE)))) else (if (x2.1==7)=true then (if y1.2.2.2.1=true then ((D6 x0 x2 8).bind fun y10=>(some (y1,y10,([]:List AE)))) else (some (y1,([]:List Z),([]:List AE)))) else (if (x2.1==6)=true then (If ([]:List Z) ([]:List AE) (x2.1==6) x0 x2 (0,0,false,false,false,false,([]:List Int),([]:List Y),0,0,0,0,(ByteArray.empty,ByteArray.empty,0),([]:List Int)) y1) else (If ([]:List Z) ([]:List AE) (x2.1==8) x0 x2 (0,0,false,false,false,false,([]:List Int),([]:List Y),0,0,0,0,(ByteArray.empty,ByteArray.empty,0),([]:List Int)) y1))))))))
theorem fw:sZ Th Ic:=jS (by kernel_rfl)
theorem f5:uZ Ti Id:=jS (by kernel_rfl)
theorem f7:uZ Tj Ml:=jS (by kernel_rfl)
theorem f8:uZ Tk Mm:=jS (by kernel_rfl)
theorem f9:uZ Tl Ie:=jS (by kernel_rfl)
theorem f_:uZ Tm If:=jS (by kernel_rfl)
theorem nL:PN ZV R9:=cT CM rfl ⟨rfl,rfl⟩ (by kernel_rfl)
def X7 (x0:O) (x1:Int):Option O:=(if ([]:List Y).length+x0.2.2.2.2.2.2.2.1.length<=68719476736 then (some (x0.1,x1,false,false,false,false,([]:List Int),(([]:List Y)++x0.2.2.2.2.2.2.2.1),0,0,0,0,(ByteArray.empty,ByteArray.empty,0),([]:List Int))) else none)
theorem mG:QP X7 LB:=cT K5 rfl ⟨rfl,rfl⟩ (by kernel_rfl)
def jV (x0:O) (x1:Z) (x2:Int):Option (List Z):=(some ([(x2,x0.1,x1.2.1,x1.2.2.2.1,x1.2.2.2.2.1,([]:List Y))]:List Z))
theorem jW:PN jV D6:=cT JM rfl ⟨rfl,rfl⟩ (by kernel_rfl)
def MJ (x0:Bool) (x1:O) (x2:Z):Option (List Z×O):=cG L9 (AF DY) (AF DY) kx ⟨[(0,.ptr 0 0),(5,.ptr 1 0),(37,.bool x0)],[.var (U.enc x1),.var (AD.enc x2)]⟩
def MK (x0:Bool) (x1:O) (x2:Z):Option (List Z×O):=((Fg (x1.1,x2.2.2.2.1,x1.2.2.1,false,x1.2.2.2.2)).bind fun y2=>((Ah ([x2.2.1]:List Int) (2,0,0,0,0,y2.2.2.2.2.2.2.2.1) y2).bind fun y3=>(some (y3.1,y3.2))))
def QJ (x1:List (List Int)) (x2:Z) (b0:O):Option (List Z×O):=(if (x2.2.2.2.1 != (i64.wrap (b0.2.1+1)))=true then (some ([],b0)) else (if (!b0.2.2.2.1)=true then (some ([],b0)) else (if 0<=(i64.wrap (b0.2.1-1)) then (if (i64.wrap (b0.2.1-1))<(x1.length:Int) then ((CU (x1.getD (i64.wrap (b0.2.1-1)).toNat ([]:List Int)) b0.1).bind fun y1=>(if (!y1)=true then (some ([],b0)) else (MJ (!y1) b0 x2))) else none) else none)))
theorem Wn:PN MK MJ:=jS (by kernel_rfl)
theorem aY:PN QJ Jj:=cT DY rfl ⟨rfl,rfl⟩ (by kernel_rfl)
def KJ:=cG KF (AF BR) (AF BR) kx
def Tn:=kB [] [0,5] 2 KJ
def To:=kE 0 [] [0,5] 2 KJ kx
def Cg (x0:Bool) (x1:O) (x2:Z):Option (List Z×O):=cG KE Tn (AF BR) To ⟨[(0,.ptr 0 0),(5,.ptr 1 0),(24,.bool x0)],[.var (U.enc x1),.var (AD.enc x2)]⟩
def I9 (x0:Bool) (x1:O) (x2:Z):Option (List Z×O):=cG KG (AF BR) (AF BR) kx ⟨[(0,.ptr 0 0),(5,.ptr 1 0),(23,.bool x0)],[.var (U.enc x1),.var (AD.enc x2)]⟩
def I_ (x0:Bool) (x1:O) (x2:Z):Option (List Z×O):=(if x0=true then ((Ag x2.2.2.2.2.2).bind fun y2=>((Fg (x1.1,x2.2.2.2.1,false,true,x1.2.2.2.2.1,x1.2.2.2.2.2.1,x1.2.2.2.2.2.2.1,y2,x1.2.2.2.2.2.2.2.2)).bind fun y3=>((Ah ([x2.2.1]:List Int) (4,0,0,0,0,([]:List Y)) y3).bind fun y4=>(some (y4.1,y4.2))))) else (if (!x1.2.2.2.1)=true then (some ([],x1)) else ((Ah ([x2.2.1]:List Int) (4,0,0,0,0,([]:List Y)) x1).bind fun y5=>(some (y5.1,y5.2)))))
def JA (x0:Bool) (x1:O) (x2:Z):Option (List Z×O):=(if (decide (x2.2.2.2.1>x1.2.1))=true then (Cg true x1 x2) else (if (!x1.2.2.2.1)=true then (Cg (!x1.2.2.1) x1 x2) else (Cg false x1 x2)))
def ML (x1:List Int) (x2:Z) (b0:O):Option (List Z×O):=((CU x1 b0.1).bind fun y1=>(if (!y1)=true then (some ([],b0)) else (if 0<=(0:Int) then (if 0<(x1.length:Int) then (if ((x1.getD (0:Int).toNat 0)==b0.1)=true then (some ([],b0)) else (I9 ((x1.getD (0:Int).toNat 0)==b0.1) b0 x2)) else none) else none)))
theorem SD:PN I_ Cg:=jS (by kernel_rfl)
theorem SE:PN JA I9:=jS (by kernel_rfl)
theorem Wo:PN ML HF:=cT BR rfl ⟨rfl,rfl⟩ (by kernel_rfl)
def X8 (x0:List Int) (x1:Int):Option (List Int):=((Bc x0).bind fun y1=>((ES y1 x1).bind fun y2=>(some y2)))
theorem mH:QP X8 LC:=cT K6 rfl ⟨rfl,rfl⟩ (by kernel_rfl)
def Li (x0:Bool) (x1:O) (x2:Z):Option (List Z×O):=cG L_ (AF DI) (AF DI) kx ⟨[(0,.ptr 0 0),(3,.ptr 1 0),(18,.bool x0)],[.var (U.enc x1),.var (AD.enc x2)]⟩
def Lj (x0:Bool) (x1:O) (x2:Z):Option (List Z×O):=(if (x2.1==7)=true then ((Ah ([x2.2.1]:List Int) (8,0,0,0,x2.2.2.2.2.1,([]:List Y)) x1).bind fun y1=>(some (y1.1,y1.2))) else (if 0<=(0:Int) then (if 0<(x2.2.2.2.2.2.length:Int) then ((LD x1.2.2.2.2.2.2.2.1 (x2.2.2.2.2.2.getD (0:Int).toNat (ByteArray.empty,ByteArray.empty,0))).bind fun y2=>((Ah ([x2.2.1]:List Int) (6,0,0,0,x2.2.2.2.2.1,([]:List Y)) (x1.1,x1.2.1,x1.2.2.1,x1.2.2.2.1,x1.2.2.2.2.1,x1.2.2.2.2.2.1,x1.2.2.2.2.2.2.1,y2,x1.2.2.2.2.2.2.2.2)).bind fun y3=>(some (y3.1,y3.2)))) else none) else none))
def Oi (x1:Z) (b0:O):Option (List Z×O):=(if (x1.2.2.2.1 != b0.2.1)=true then (some ([],b0)) else (if (!b0.2.2.2.1)=true then (some ([],b0)) else (Li (!b0.2.2.2.1) b0 x1)))
theorem Uj:PN Lj Li:=jS (by kernel_rfl)
theorem Y4:QP Oi Iq:=cT DI rfl ⟨rfl,rfl⟩ (by kernel_rfl)
def KK (x0:Bool) (x1:O) (x2:Z):Option (List AE×O):=cG KH (AF Cw) (AF Cw) kx ⟨[(0,.ptr 0 0),(5,.ptr 1 0),(32,.bool x0)],[.var (U.enc x1),.var (AD.enc x2)]⟩
def KL (x0:Bool) (x1:O) (x2:Z):Option (List AE×O):=((LC x1.2.2.2.2.2.2.2.2.2.2.2.2.2 x2.2.1).bind fun y1=>(if (decide ((y1.length:Int)>0))=true then (some ([],(x1.1,x1.2.1,x1.2.2.1,x1.2.2.2.1,x1.2.2.2.2.1,x1.2.2.2.2.2.1,x1.2.2.2.2.2.2.1,x1.2.2.2.2.2.2.2.1,x1.2.2.2.2.2.2.2.2.1,x1.2.2.2.2.2.2.2.2.2.1,x1.2.2.2.2.2.2.2.2.2.2.1,x1.2.2.2.2.2.2.2.2.2.2.2.1,x1.2.2.2.2.2.2.2.2.2.2.2.2.1,y1))) else ((Gt (x1.1,x1.2.1,x1.2.2.1,x1.2.2.2.1,x1.2.2.2.2.1,x1.2.2.2.2.2.1,x1.2.2.2.2.2.2.1,x1.2.2.2.2.2.2.2.1,x1.2.2.2.2.2.2.2.2.1,x1.2.2.2.2.2.2.2.2.2.1,x1.2.2.2.2.2.2.2.2.2.2.1,x1.2.2.2.2.2.2.2.2.2.2.2.1,x1.2.2.2.2.2.2.2.2.2.2.2.2.1,y1)).bind fun y2=>(some (y2.1,y2.2)))))
def NY (x1:Int) (x2:Z) (b0:O):Option (List AE×O):=(if (x2.2.2.2.1 != b0.2.1)=true then (some ([],b0)) else (if (b0.2.2.2.2.2.2.2.2.2.1 != x1)=true then (some ([],b0)) else (if (b0.2.2.2.2.2.2.2.2.2.2.2.1 != x2.2.2.2.2.1)=true then (some ([],b0)) else (KK (b0.2.2.2.2.2.2.2.2.2.2.2.1 != x2.2.2.2.2.1) b0 x2))))
theorem Tp:PN KL KK:=jS (by kernel_rfl)
theorem X9:PN NY Fh:=cT Cw rfl ⟨rfl,rfl⟩ (by kernel_rfl)

def Gd:=kE 0 [] [] 1 (AF AY) kx
def GU:St->Option (RT (BM.outs AY)):=lG GM [(0,0)] [0,1,2,3,8,9] 1 (AF AY) Gd
def Ge:=kB [(0,0)] [0,1,2,3,8,9] 1 GU
def Bz:=kB [(0,0)] [0,1,2,3,8,9] 1 Ge
def BT:=kE 1 [(0,0)] [0,1,2,3,8,9] 1 Ge Gd
def NZ:=cG DZ Bz (AF AY) BT
def GV (x0 x1 x2:Int) (x3 x4:Bool) (x5 x6:Int) (x7:Bool) (x8:List Int):Option (List Int):=cG DZ Bz (AF AY) BT ⟨[(0,.row 0),(1,.int .i64 x0),(2,.int .i64 x1),(3,.int .i64 x2),(8,.bool x3),(9,.bool x4),(10,.int .i64 x5),(11,.int .i64 x6),(87,.bool x7)],[.mrow 3 (.int .i64) x8]⟩
def Dc (x0 x1 x2:Int) (x3 x4:Bool) (x5 x6:Int) (x7:Bool) (x8:List Int):Option (List Int):=cG GI NZ (AF AY) BT ⟨[(0,.row 0),(1,.int .i64 x0),(2,.int .i64 x1),(3,.int .i64 x2),(8,.bool x3),(9,.bool x4),(10,.int .i64 x5),(11,.int .i64 x6),(87,.bool x7)],[.mrow 3 (.int .i64) x8]⟩
def Bs (x0 x1 x2:Int) (x3 x4:Bool) (x5 x6:Int) (x7:List Int):Option (List Int):=cG GJ Bz (AF AY) BT ⟨[(0,.row 0),(1,.int .i64 x0),(2,.int .i64 x1),(3,.int .i64 x2),(8,.bool x3),(9,.bool x4),(10,.int .i64 x5),(11,.int .i64 x6)],[.mrow 3 (.int .i64) x7]⟩
def Dd (x0 x1 x2:Int) (x3 x4:Bool) (x5 x6 x7:Int) (x8:List Int):Option (List Int):=cG GK Bz (AF AY) BT ⟨[(0,.row 0),(1,.int .i64 x0),(2,.int .i64 x1),(3,.int .i64 x2),(8,.bool x3),(9,.bool x4),(10,.int .i64 x5),(11,.int .i64 x6),(12,.int .i64 x7)],[.mrow 3 (.int .i64) x8]⟩
def De (x0 x1 x2:Int) (x3 x4:Bool) (x5:Int) (x6:List Int):Option (List Int):=cG GL Bz (AF AY) BT ⟨[(0,.row 0),(1,.int .i64 x0),(2,.int .i64 x1),(3,.int .i64 x2),(8,.bool x3),(9,.bool x4),(10,.int .i64 x5)],[.mrow 3 (.int .i64) x6]⟩
def Bt (x0 x1 x2:Int) (x3 x4:Bool) (x5:List Int):Option (List Int):=GU ⟨[(0,.row 0),(1,.int .i64 x0),(2,.int .i64 x1),(3,.int .i64 x2),(8,.bool x3),(9,.bool x4)],[.mrow 3 (.int .i64) x5]⟩
def Mn (x0 x1 x2:Int) (x3 x4:Bool) (x5 x6:Int) (x7:Bool) (x8:List Int):Option (List Int):=((NO x0 x1 x6 x8).bind fun y9=>(if 8=0 then none else (if (decide ((i64.wrap (y9.1-x0))<(i64.wrap (x1-y9.1))))=true then ((CF x0 y9.1 x2 y9.2.2).bind fun y10=>(Bt (i64.wrap (y9.1+1)) x1 x2 (decide ((i64.wrap (y9.1-x0))>=(i64.wrap (Int.tdiv x5 8)))) y9.2.1 y10)) else ((CF (i64.wrap (y9.1+1)) x1 x2 y9.2.2).bind fun y11=>(Bt x0 y9.1 x2 (decide ((i64.wrap (x1-y9.1))>=(i64.wrap (Int.tdiv x5 8)))) y9.2.1 y11)))))
def Mo (x0 x1 x2:Int) (x3 x4:Bool) (x5 x6:Int) (x7:Bool) (x8:List Int):Option (List Int):=(if x7=true then ((Jk x0 x1 x6 x8).bind fun y8=>(Bt y8.1 x1 x2 x3 x4 y8.2)) else (GV x0 x1 x2 x3 x4 x5 x6 x7 x8))
def Mp (x0 x1 x2:Int) (x3 x4:Bool) (x5 x6:Int) (x7:List Int):Option (List Int):=(if (decide (x0>0))=true then (if 0<=(i64.wrap (x0-1)) then (if (i64.wrap (x0-1))<(x7.length:Int) then (if 0<=x6 then (if x6<(x7.length:Int) then ((LE (x7.getD ((i64.wrap (x0-1)).toNat) 0) (x7.getD x6.toNat 0)).bind fun y7=>(Dc x0 x1 x2 x3 x4 x5 x6 (!y7) x7)) else none) else none) else none) else none) else (Dc x0 x1 x2 x3 x4 x5 x6 false x7))
def Mq (x0 x1 x2:Int) (x3 x4:Bool) (x5 x6 x7:Int) (x8:List Int):Option (List Int):=(if x3=true then (if x4=true then (if (x7==1)=true then ((HG x0 x1 x8).bind fun y6=>(if y6.1=true then (some y6.2) else (Bs x0 x1 x2 x3 x4 x5 x6 y6.2))) else (Bs x0 x1 x2 x3 x4 x5 x6 x8)) else (Bs x0 x1 x2 x3 x4 x5 x6 x8)) else (Bs x0 x1 x2 x3 x4 x5 x6 x8))
def Mr (x0 x1 x2:Int) (x3 x4:Bool) (x5:Int) (x6:List Int):Option (List Int):=((Lw x0 x1 x6).bind fun y4=>(if (y4.2.1==2)=true then ((LG x0 x1 y4.2.2).bind fun y5=>(Dd x0 x1 x2 x3 x4 x5 (i64.wrap ((i64.wrap (x1-1))-(i64.wrap (y4.1-x0)))) 1 y5)) else (Dd x0 x1 x2 x3 x4 x5 y4.1 y4.2.1 y4.2.2)))
def GW (x0 x1 x2:Int) (x3 x4:Bool) (x5:List Int):Option (List Int):=(if (decide ((i64.wrap (x1-x0))<=12))=true then ((C2 x0 x1 x5).bind fun y1=>(some y1)) else (if (x2==0)=true then ((Nu x0 x1 x5).bind fun y2=>(some y2)) else (if (!x3)=true then ((KS x0 x1 x5).bind fun y3=>(De x0 x1 (i64.wrap (x2-1)) x3 x4 (i64.wrap (x1-x0)) y3)) else (De x0 x1 x2 x3 x4 (i64.wrap (x1-x0)) x5))))
def Hd (x1 x2 x3:Int) (b0:List Int):Option (List Int):=(Bt x1 x2 x3 true true b0)
theorem gA:wY Mn GV:=jS (by kernel_rfl)
theorem gC:wY Mo Dc:=jS (by kernel_rfl)
theorem gD:sZ Mp Bs:=jS (by kernel_rfl)
theorem gE:wY Mq Dd:=jS (by kernel_rfl)
theorem gF:uZ Mr De:=jS (by kernel_rfl)
theorem Ms:rV GW Bt:=lS (by kernel_rfl)
theorem O5:iH Hd CF:=cT AY rfl ⟨rfl,rfl⟩ (by kernel_rfl)
def WR (x0:Int):Option Int:=((LF x0).bind fun y1=>(some y1))
theorem jX:PL WR Nt:=cT JN rfl ⟨rfl,rfl⟩ (by kernel_rfl)
def He (x0:List Y) (x1:Y) (x2:List Y):Option (List Y):=cG S8 (AF Dt) (AF Dt) kx ⟨[(0,.lst AC x0),(5,.row 1)],[.var (AC.enc x1),.rows 38 AC x2]⟩
def Hf (x0:List Y) (x1:Int) (x2 x3:Bool) (x4:Y) (x5:List Y):Option (List Y):=cG S9 (AF Dt) (AF Dt) kx ⟨[(0,.lst AC x0),(3,.ptr 0 0),(5,.row 1),(6,.int .i64 x1),(7,.bool x2),(32,.bool x3)],[.var (AC.enc x4),.rows 38 AC x5]⟩
def Rs (x0:List Y) (x1:Y) (x2:List Y):Option (List Y):=((Ex x2).bind fun y5=>(if (!y5)=true then ((Ag x0).bind fun y6=>(some y6)) else (some x2)))
def Rt (x0:List Y) (x1:Int) (x2 x3:Bool) (x4:Y) (x5:List Y):Option (List Y):=(if x2=true then (if 0<=x1 then (if x1<(x5.length:Int) then (let z4:List Y:=x5.set x1.toNat x4; (He x0 x4 z4)) else none) else none) else ((Cf x5 x1 ([x4]:List Y)).bind fun y7=>(He x0 x4 y7)))
def X_ (x0:List Y) (x1:Y):Option (List Y):=((Ag x0).bind fun y1=>((BL x0 x1.1 ()).bind fun y2=>((Ex x0).bind fun y3=>(if (!y3)=true then (some y1) else (if y2.2=true then (if 0<=y2.1 then (if y2.1<(x0.length:Int) then (if (decide ((((x0.getD y2.1.toNat (ByteArray.empty,ByteArray.empty,0)).2).2)>=x1.2.2))=true then (some y1) else (Hf x0 y2.1 y2.2 (decide ((((x0.getD y2.1.toNat (ByteArray.empty,ByteArray.empty,0)).2).2)>=x1.2.2)) x1 y1)) else none) else none) else (Hf x0 y2.1 y2.2 false x1 y1))))))
theorem dN:PN Rs He:=jS (by kernel_rfl)
theorem dO:rV Rt Hf:=jS (by kernel_rfl)
theorem mI:QP X_ LD:=cT Dt rfl ⟨rfl,rfl⟩ (by kernel_rfl)
def jY:=cG Vj (AF Eb) (AF Eb) kx
def jZ:=kE 0 [] [] 0 jY kx
def gG:St->Option (RT (BM.outs Eb)):=lG Vi [] [0,3] 0 (AF Eb) jZ
def GX (x0:List Int) (x1:Int):Option Bool:=gG ⟨[(0,.lst (.int .i64) x0),(3,.int .i64 x1)],[]⟩
def Mt (x0:List Int) (x1:Int):Option Bool:=(if (decide (x1<(x0.length:Int)))=true then (if 0<=x1 then (if x1<(x0.length:Int) then ((AS (x0.getD x1.toNat 0) 1 6).bind fun y1=>(if (!y1)=true then (some false) else (if (decide (x1>0))=true then (if 0<=(i64.wrap (x1-1)) then (if (i64.wrap (x1-1))<(x0.length:Int) then (if 0<=x1 then (if x1<(x0.length:Int) then (if (decide ((x0.getD (i64.wrap (x1-1)).toNat 0)>=(x0.getD x1.toNat 0)))=true then (some false) else (GX x0 (i64.wrap (x1+1)))) else none) else none) else none) else none) else (GX x0 (i64.wrap (x1+1)))))) else none) else none) else (some true))
def ZW (x0:List Int):Option Bool:=(GX x0 0)
theorem Tq:QP Mt GX:=lS (by kernel_rfl)
theorem nM:PL ZW C4:=cT Eb rfl ⟨rfl,rfl⟩ (by kernel_rfl)
def gH:=cG RK (AF Du) (AF Du) kx
def gI:=kE 0 [] [0] 0 gH kx
def dP:St->Option (RT (BM.outs Du)):=lG RJ [] [0,3] 0 (AF Du) gI
def Fp (x0:List Y) (x1:Int):Option Bool:=dP ⟨[(0,.lst AC x0),(3,.int .i64 x1)],[]⟩
def Lk (x0:List Y) (x1:Int):Option Bool:=(if (decide (x1<(x0.length:Int)))=true then (if 0<=x1 then (if x1<(x0.length:Int) then ((AS (((x0.getD x1.toNat (ByteArray.empty,ByteArray.empty,0)).1).size:Int) 1 12).bind fun y1=>(if (!y1)=true then (some false) else (if (decide (((((x0.getD x1.toNat (ByteArray.empty,ByteArray.empty,0)).2).1).size:Int)>20))=true then (some false) else ((AS (((x0.getD x1.toNat (ByteArray.empty,ByteArray.empty,0)).2).2) 1 1000000000).bind fun y2=>(if (!y2)=true then (some false) else (if (decide (x1>0))=true then (if 0<=(i64.wrap (x1-1)) then (if (i64.wrap (x1-1))<(x0.length:Int) then (if (!(Op.bytesLess ((x0.getD (i64.wrap (x1-1)).toNat (ByteArray.empty,ByteArray.empty,0)).1).toList ((x0.getD x1.toNat (ByteArray.empty,ByteArray.empty,0)).1).toList))=true then (some false) else (Fp x0 (i64.wrap (x1+1)))) else none) else none) else (Fp x0 (i64.wrap (x1+1))))))))) else none) else none) else (some (decide ((x0.length:Int)<=12))))
def YA (x0:List Y):Option Bool:=(Fp x0 0)
theorem Ru:QP Lk Fp:=lS (by kernel_rfl)
theorem mJ:PL YA DA:=cT Du rfl ⟨rfl,rfl⟩ (by kernel_rfl)
def Tr (x0:oP):Option Bool:=(if (x0.1==0)=true then (if (x0.2.1==0)=true then (if (x0.2.2.1==0)=true then (if (false != UA AC x0.2.2.2.1 (ByteArray.empty,ByteArray.empty,0))=true then (some ((x0.2.2.2.2.length:Int)==0)) else (some false)) else (some false)) else (some false)) else (some false))
theorem gJ:PL Tr MX:=cT IM rfl ⟨rfl,rfl⟩ (by kernel_rfl)
def Y5:=cG ON (AF Ca) (AF Ca) kx
def Y6:=kE 0 [(5,0)] [5] 1 Y5 kx
def YB:St->Option (RT (BM.outs Ca)):=lG OM [(5,0)] [0,1,5,6] 1 (AF Ca) Y6
def Dx (x0:List Int) (x1 x2:Int) (x3:List Int):Option (List Int):=YB ⟨[(0,.lst (.int .i64) x0),(1,.int .i64 x1),(5,.row 0),(6,.int .i64 x2)],[.rows 3 (.int .i64) x3]⟩
def Hw (x0:List Int) (x1 x2:Int) (x3:List Int):Option (List Int):=(if (decide (x2<(x0.length:Int)))=true then (if 0<=x2 then (if x2<(x0.length:Int) then (if ((x0.getD x2.toNat 0) != x1)=true then (if 0<=x2 then (if x2<(x0.length:Int) then (if x3.length+([(x0.getD x2.toNat 0)]:List Int).length<=68719476736 then (Dx x0 x1 (i64.wrap (x2+1)) (x3++([(x0.getD x2.toNat 0)]:List Int))) else none) else none) else none) else (Dx x0 x1 (i64.wrap (x2+1)) x3)) else none) else none) else (some x3))
def Rv (x0:List Int) (x1:Int):Option (List Int):=(Dx x0 x1 0 ([]:List Int))
theorem Na:iH Hw Dx:=lS (by kernel_rfl)
theorem dQ:QP Rv HS:=cT Ca rfl ⟨rfl,rfl⟩ (by kernel_rfl)
def Ch:=kE 0 [] [] 1 (AF AT) kx
def EF:St->Option (RT (BM.outs AT)):=lG Ef [(0,0)] [0,1,2,6] 1 (AF AT) Ch
def JB:=kB [(0,0)] [0,1,2,6] 1 EF
def Eh:=cG Ee JB (AF AT) Ch
def JC:=kB [(0,0)] [0,1,2,6] 1 Eh
def JD:=kE 1 [(0,0)] [0,1,2,6] 1 Eh Ch
def Ei:=kE 2 [(0,0)] [0,1,2,6] 1 JC JD
def EG:St->Option (RT (BM.outs AT)):=lG Ed [(0,0)] [0,1,2,6,7] 1 (AF AT) Ei
def JE:=kB [(0,0)] [0,1,2,6,7] 1 EG
def EH (x0 x1 x2 x3:Int) (x4:Bool) (x5:List Int):Option (List Int):=cG Ec JE (AF AT) Ei ⟨[(0,.row 0),(1,.int .i64 x0),(2,.int .i64 x1),(6,.int .i64 x2),(7,.int .i64 x3),(30,.bool x4)],[.mrow 3 (.int .i64) x5]⟩
def Bk (x0 x1 x2 x3:Int) (x4:List Int):Option (List Int):=EG ⟨[(0,.row 0),(1,.int .i64 x0),(2,.int .i64 x1),(6,.int .i64 x2),(7,.int .i64 x3)],[.mrow 3 (.int .i64) x4]⟩
def As (x0 x1 x2:Int) (x3:List Int):Option (List Int):=EF ⟨[(0,.row 0),(1,.int .i64 x0),(2,.int .i64 x1),(6,.int .i64 x2)],[.mrow 3 (.int .i64) x3]⟩
def EI (x0 x1 x2 x3:Int) (x4:Bool) (x5:List Int):Option (List Int):=(if 0<=(i64.wrap (x3-1)) then (if (i64.wrap (x3-1))<(x5.length:Int) then (if 0<=x3 then (if x3<(x5.length:Int) then (if 0<=x3 then (if x3<(x5.length:Int) then (let z2:List Int:=x5.set x3.toNat (x5.getD ((i64.wrap (x3-1)).toNat) 0); (if 0<=(i64.wrap (x3-1)) then (if (i64.wrap (x3-1))<(z2.length:Int) then (let z3:List Int:=z2.set ((i64.wrap (x3-1)).toNat) (x5.getD x3.toNat 0); (Bk x0 x1 x2 (i64.wrap (x3-1)) z3)) else none) else none)) else none) else none) else none) else none) else none) else none)
def CY (x0 x1 x2 x3:Int) (x4:List Int):Option (List Int):=(if (decide (x3>x0))=true then (if 0<=x3 then (if x3<(x4.length:Int) then (if 0<=(i64.wrap (x3-1)) then (if (i64.wrap (x3-1))<(x4.length:Int) then ((LE (x4.getD x3.toNat 0) (x4.getD ((i64.wrap (x3-1)).toNat) 0)).bind fun y1=>(if y1=true then (EH x0 x1 x2 x3 y1 x4) else (As x0 x1 (i64.wrap (x2+1)) x4))) else none) else none) else none) else none) else (As x0 x1 (i64.wrap (x2+1)) x4))
def Bl (x0 x1 x2:Int) (x3:List Int):Option (List Int):=(if (decide (x2<x1))=true then (Bk x0 x1 x2 x2 x3) else (some x3))
def C3 (x1 x2:Int) (b0:List Int):Option (List Int):=(As x1 x2 (i64.wrap (x1+1)) b0)
theorem Iy:rV EI EH:=jS (by kernel_rfl)
theorem EJ:qp CY Bk:=lS (by kernel_rfl)
theorem CZ:iH Bl As:=lS (by kernel_rfl)
theorem FK:PN C3 C2:=cT AT rfl ⟨rfl,rfl⟩ (by kernel_rfl)
def YC (x0 x1:Int):Option Bool:=((JQ x0).bind fun y1=>(if y1=true then ((JQ x1).bind fun y2=>(if (!y2)=false then (some (decide (x0<x1))) else (some true))) else (some (decide (x0<x1)))))
theorem mK:QP YC LE:=cT K8 rfl ⟨rfl,rfl⟩ (by kernel_rfl)
def Fq (x0 x1:Int):Option Int:=cG OO (AF Cb) (AF Cb) kx ⟨[(0,.int .u64 x0),(2,.int .i64 x1)],[]⟩
def Hx (x0 x1:Int):Option Int:=cG OP (AF Cb) (AF Cb) kx ⟨[(0,.int .u64 x0),(2,.int .i64 x1)],[]⟩
def Hy (x0 x1:Int):Option Int:=(if (decide (x0>=256))=true then (if 8<0 then none else (if 0<=(IntKind.u8.wrap (Int.fdiv x0 (2^(min (8:Int).toNat (IntKind.bits .u64))))) then (if (IntKind.u8.wrap (Int.fdiv x0 (2^(min (8:Int).toNat (IntKind.bits .u64)))))<((⟨#[0,1,2,2,3,3,3,3,4,4,4,4,4,4,4,4,5,5,5,5,5,5,5,5,5,5,5,5,5,5,5,5,6,6,6,6,6,6,6,6,6,6,6,6,6,6,6,6,6,6,6,6,6,6,6,6,6,6,6,6,6,6,6,6,7,7,7,7,7,7,7,7,7,7,7,7,7,7,7,7,7,7,7,7,7,7,7,7,7,7,7,7,7,7,7,7,7,7,7,7,7,7,7,7,7,7,7,7,7,7,7,7,7,7,7,7,7,7,7,7,7,7,7,7,7,7,7,7,8,8,8,8,8,8,8,8,8,8,8,8,8,8,8,8,8,8,8,8,8,8,8,8,8,8,8,8,8,8,8,8,8,8,8,8,8,8,8,8,8,8,8,8,8,8,8,8,8,8,8,8,8,8,8,8,8,8,8,8,8,8,8,8,8,8,8,8,8,8,8,8,8,8,8,8,8,8,8,8,8,8,8,8,8,8,8,8,8,8,8,8,8,8,8,8,8,8,8,8,8,8,8,8,8,8,8,8,8,8,8,8,8,8,8,8,8,8,8,8,8,8,8,8,8,8,8,8]⟩:ByteArray).size:Int) then (some (i64.wrap ((i64.wrap (x1+8))+(i64.wrap (((⟨#[0,1,2,2,3,3,3,3,4,4,4,4,4,4,4,4,5,5,5,5,5,5,5,5,5,5,5,5,5,5,5,5,6,6,6,6,6,6,6,6,6,6,6,6,6,6,6,6,6,6,6,6,6,6,6,6,6,6,6,6,6,6,6,6,7,7,7,7,7,7,7,7,7,7,7,7,7,7,7,7,7,7,7,7,7,7,7,7,7,7,7,7,7,7,7,7,7,7,7,7,7,7,7,7,7,7,7,7,7,7,7,7,7,7,7,7,7,7,7,7,7,7,7,7,7,7,7,7,8,8,8,8,8,8,8,8,8,8,8,8,8,8,8,8,8,8,8,8,8,8,8,8,8,8,8,8,8,8,8,8,8,8,8,8,8,8,8,8,8,8,8,8,8,8,8,8,8,8,8,8,8,8,8,8,8,8,8,8,8,8,8,8,8,8,8,8,8,8,8,8,8,8,8,8,8,8,8,8,8,8,8,8,8,8,8,8,8,8,8,8,8,8,8,8,8,8,8,8,8,8,8,8,8,8,8,8,8,8,8,8,8,8,8,8,8,8,8,8,8,8,8,8,8,8,8,8]⟩:ByteArray).data.toList.getD (IntKind.u8.wrap (Int.fdiv x0 (2^(min (8:Int).toNat (IntKind.bits .u64))))).toNat 0).toNat:Int))))) else none) else none)) else (if 0<=(IntKind.u8.wrap x0) then (if (IntKind.u8.wrap x0)<((⟨#[0,1,2,2,3,3,3,3,4,4,4,4,4,4,4,4,5,5,5,5,5,5,5,5,5,5,5,5,5,5,5,5,6,6,6,6,6,6,6,6,6,6,6,6,6,6,6,6,6,6,6,6,6,6,6,6,6,6,6,6,6,6,6,6,7,7,7,7,7,7,7,7,7,7,7,7,7,7,7,7,7,7,7,7,7,7,7,7,7,7,7,7,7,7,7,7,7,7,7,7,7,7,7,7,7,7,7,7,7,7,7,7,7,7,7,7,7,7,7,7,7,7,7,7,7,7,7,7,8,8,8,8,8,8,8,8,8,8,8,8,8,8,8,8,8,8,8,8,8,8,8,8,8,8,8,8,8,8,8,8,8,8,8,8,8,8,8,8,8,8,8,8,8,8,8,8,8,8,8,8,8,8,8,8,8,8,8,8,8,8,8,8,8,8,8,8,8,8,8,8,8,8,8,8,8,8,8,8,8,8,8,8,8,8,8,8,8,8,8,8,8,8,8,8,8,8,8,8,8,8,8,8,8,8,8,8,8,8,8,8,8,8,8,8,8,8,8,8,8,8,8,8,8,8,8,8]⟩:ByteArray).size:Int) then (some (i64.wrap (x1+(i64.wrap (((⟨#[0,1,2,2,3,3,3,3,4,4,4,4,4,4,4,4,5,5,5,5,5,5,5,5,5,5,5,5,5,5,5,5,6,6,6,6,6,6,6,6,6,6,6,6,6,6,6,6,6,6,6,6,6,6,6,6,6,6,6,6,6,6,6,6,7,7,7,7,7,7,7,7,7,7,7,7,7,7,7,7,7,7,7,7,7,7,7,7,7,7,7,7,7,7,7,7,7,7,7,7,7,7,7,7,7,7,7,7,7,7,7,7,7,7,7,7,7,7,7,7,7,7,7,7,7,7,7,7,8,8,8,8,8,8,8,8,8,8,8,8,8,8,8,8,8,8,8,8,8,8,8,8,8,8,8,8,8,8,8,8,8,8,8,8,8,8,8,8,8,8,8,8,8,8,8,8,8,8,8,8,8,8,8,8,8,8,8,8,8,8,8,8,8,8,8,8,8,8,8,8,8,8,8,8,8,8,8,8,8,8,8,8,8,8,8,8,8,8,8,8,8,8,8,8,8,8,8,8,8,8,8,8,8,8,8,8,8,8,8,8,8,8,8,8,8,8,8,8,8,8,8,8,8,8,8,8]⟩:ByteArray).data.toList.getD (IntKind.u8.wrap x0).toNat 0).toNat:Int))))) else none) else none))
def Nb (x0 x1:Int):Option Int:=(if (decide (x0>=65536))=true then (if 16<0 then none else (Fq (Int.fdiv x0 (2^(min (16:Int).toNat (IntKind.bits .u64)))) (i64.wrap (x1+16)))) else (Fq x0 x1))
def Rw (x0:Int):Option Int:=(if (decide (x0>=4294967296))=true then (if 32<0 then none else (Hx (Int.fdiv x0 (2^(min (32:Int).toNat (IntKind.bits .u64)))) 32)) else (Hx x0 0))
theorem YD:QP Hy Fq:=jS (by kernel_rfl)
theorem YE:QP Nb Hx:=jS (by kernel_rfl)
theorem dR:PL Rw LF:=cT Cb rfl ⟨rfl,rfl⟩ (by kernel_rfl)
def D9:=cG BI (AF AI) (AF AI) kx
def D_:=kE 0 [] [0,1,2,8,9] 0 D9 kx
def Dz:St->Option (RT (BM.outs AI)):=lG B9 [] [0,1,2,8,9,10] 0 (AF AI) D_
def B6 (x0:List Y) (x1:ByteArray) (x2 x3:Int):Option (Int×Bool):=cG BI (AF AI) (AF AI) kx ⟨[(0,.lst AC x0),(1,.str x1),(2,.fn 160 []),(8,.int .i64 x2),(9,.int .i64 x3)],[]⟩
def AK (x0:List Y) (x1:ByteArray) (x2 x3 x4:Int):Option (Int×Bool):=Dz ⟨[(0,.lst AC x0),(1,.str x1),(2,.fn 160 []),(8,.int .i64 x2),(9,.int .i64 x3),(10,.int .i64 x4)],[]⟩
def B7 (x0:List Y) (x1:ByteArray) (x2 x3:Int):Option (Int×Bool):=(if (decide (x3<x2))=true then (if 0<=x3 then (if x3<(x0.length:Int) then ((IU (x0.getD x3.toNat (ByteArray.empty,ByteArray.empty,0)) x1).bind fun y2=>(some (x3,(y2==0)))) else none) else none) else (some (x3,false)))
def BD (x0:List Y) (x1:ByteArray) (x2 x3 x4:Int):Option (Int×Bool):=(if (decide (x3<x4))=true then (if 1<0 then none else (if 0<=(i64.wrap (Int.fdiv (IntKind.u64.wrap (i64.wrap (x3+x4))) (2^(min (1:Int).toNat (IntKind.bits .u64))))) then (if (i64.wrap (Int.fdiv (IntKind.u64.wrap (i64.wrap (x3+x4))) (2^(min (1:Int).toNat (IntKind.bits .u64)))))<(x0.length:Int) then ((IU (x0.getD (i64.wrap (Int.fdiv (IntKind.u64.wrap (i64.wrap (x3+x4))) (2^(min (1:Int).toNat (IntKind.bits .u64))))).toNat (ByteArray.empty,ByteArray.empty,0)) x1).bind fun y1=>(if (decide (y1<0))=true then (AK x0 x1 x2 (i64.wrap ((i64.wrap (Int.fdiv (IntKind.u64.wrap (i64.wrap (x3+x4))) (2^(min (1:Int).toNat (IntKind.bits .u64)))))+1)) x4) else (AK x0 x1 x2 x3 (i64.wrap (Int.fdiv (IntKind.u64.wrap (i64.wrap (x3+x4))) (2^(min (1:Int).toNat (IntKind.bits .u64)))))))) else none) else none)) else (B6 x0 x1 x2 x3))
def CG (x0:List Y) (x1:ByteArray) (x2:Unit):Option (Int×Bool):=(AK x0 x1 (x0.length:Int) 0 (x0.length:Int))
theorem D0:iH B7 B6:=jS (by kernel_rfl)
theorem B8:qp BD AK:=lS (by kernel_rfl)
theorem EU:PN CG BL:=cT AI rfl ⟨rfl,rfl⟩ (by kernel_rfl)
def Ts (x0:Y) (x1:ByteArray):Option Int:=((LH x0.1 x1).bind fun y1=>(some y1))
theorem gK:QP Ts IU:=cT IN rfl ⟨rfl,rfl⟩ (by kernel_rfl)
def WS (x0:Int):Option Bool:=(some (x0 != x0))
theorem ja:PL WS JQ:=cT JO rfl ⟨rfl,rfl⟩ (by kernel_rfl)
end
end Go.Proofs.YtokiohnjegbnpaaGreat.Core


namespace Go.Proofs.YtokiohnjegbnpaaGreat.Core
open Go
theorem Aa {n:Int} (h:-9223372036854775808<=n/\n<=9223372036854775807):IntKind.i64.wrap n=n:=IntWalk.i64_in n h
theorem AR {i:Nat} (h:i<9223372036854775807):IntKind.i64.wrap ((i:Int)+1)=((i+1:Nat):Int):=by
 rw [Aa (by omega)]
 omega
theorem GY {P:Nat->Prop} {n:Nat} (h0:P n) (h:∀ i,i<n->P (i+1)->P i):∀ i,i<=n->P i:=by
 intro i hi
 induction hk:n-i generalizing i with
 | zero =>
  have:i=n:=by omega
  subst this
  exact h0
 | succ k ih=>exact h i (by omega) (ih (i+1) (by omega) (by omega))
theorem AU {α:Type} {xs:List α} {i:Nat} {d:α} (h:i<xs.length):xs.getD i d=xs[i]:=by
 simp [List.getD,h]

theorem At (a b c:Int):AS a b c=some (decide (b<=a)&&decide (a<=c)):=o6 (by
 unfold cR
 by_cases h:b<=a<;>simp [h])
theorem Ao (a b c:Int):Af a b c=some (decide (b<=a)&&decide (a<=c)):=lY (by
 unfold Xg
 by_cases h:b<=a<;>simp [h])
def Hg (x:Int×ByteArray×ByteArray×Int×Int×Int×Int×Int×ByteArray):Int :=
 if (decide ((0:Int)<=x.2.2.2.2.2.2.1)&&decide (x.2.2.2.2.2.2.1<=9))&&(decide ((0:Int)<=x.2.2.2.2.2.2.2.1)&&decide (x.2.2.2.2.2.2.2.1<=999)) then IntKind.i64.wrap (IntKind.i64.wrap (1000*x.2.2.2.2.2.2.1)+x.2.2.2.2.2.2.2.1) else 0
theorem jb x:IR x=some (Hg x):=o5 (by
 unfold cQ Hg
 simp only [At,X]
 generalize (decide ((0:Int)<=x.2.2.2.2.2.2.1)&&decide (x.2.2.2.2.2.2.1<=9))=a
 generalize (decide ((0:Int)<=x.2.2.2.2.2.2.2.1)&&decide (x.2.2.2.2.2.2.2.1<=999))=b
 cases a<;>cases b<;>simp)
theorem WT x:Gp x=some (Hg x):=oz (by
 unfold cD Hg
 simp only [Ao,X]
 generalize (decide ((0:Int)<=x.2.2.2.2.2.2.1)&&decide (x.2.2.2.2.2.2.1<=9))=a
 generalize (decide ((0:Int)<=x.2.2.2.2.2.2.2.1)&&decide (x.2.2.2.2.2.2.2.1<=999))=b
 cases a<;>cases b<;>simp)

def BB (x:List (ByteArray×ByteArray×Int)) (k:ByteArray):ByteArray×ByteArray×Int :=
 (x.find? fun a=>a.1.toList==k.toList).getD (ByteArray.empty,ByteArray.empty,0)
theorem BU {α:Type} {x:List α} {i:Nat} (h:i<x.length):x.drop i=x[i]::x.drop (i+1):=List.drop_eq_getElem_cons h
theorem Tt (x k) (h:x.length<=maxLen):M6 x k=some (BB x k):=nJ (by
 have hm:x.length<=9223372036854775807:=h
 unfold ZT
 exact GY (n:=x.length) (P:=fun i=>∀ z,Ib x k (i:Int) z=some (BB (x.drop i) k)) (fun z=>Tc (by
  unfold Mi
  rw [if_neg (by simp),List.drop_length]
  rfl)) (fun i hi ih z=>Tc (by
  unfold Mi
  simp only [show ((i:Int)<(x.length:Int)) from by omega,decide_true,if_true,show (0:Int)<=(i:Int) from by omega,Int.toNat_natCast,AU hi,AR (show i<9223372036854775807 by omega)]
  rw [BU hi]
  by_cases hk:(x[i].1.toList==k.toList)=true
  ·rw [if_pos hk]
   unfold BB
   rw [List.find?_cons,hk]
   rfl
  ·rw [if_neg hk,ih]
   unfold BB
   rw [List.find?_cons,Bool.eq_false_iff.2 hk])) 0 (by omega) _)
theorem Tu (x k) (h:x.length<=maxLen):M5 x k=some (BB x k):=nI (by
 have hm:x.length<=9223372036854775807:=h
 unfold ZS
 exact GY (n:=x.length) (P:=fun i=>∀ z,Ia k x (x.length:Int) (i:Int) z=some (BB (x.drop i) k)) (fun z=>TY (by
  unfold Mh
  rw [if_neg (by simp),List.drop_length]
  rfl)) (fun i hi ih z=>TY (by
  unfold Mh
  simp only [show ((i:Int)<(x.length:Int)) from by omega,decide_true,if_true,show (0:Int)<=(i:Int) from by omega,Int.toNat_natCast,AU hi,AR (show i<9223372036854775807 by omega)]
  rw [BU hi]
  by_cases hk:(x[i].1.toList==k.toList)=true
  ·rw [if_pos hk]
   unfold BB
   rw [List.find?_cons,hk]
   rfl
  ·rw [if_neg hk,ih]
   unfold BB
   rw [List.find?_cons,Bool.eq_false_iff.2 hk])) 0 (by omega) _)

theorem N_ k:O1 k=some (decide (1<=(k.size:Int))&&decide ((k.size:Int)<=12)):=o8 (by simp [cn,Ao])
theorem GZ n:Eg n=some (decide (1<=n)&&decide (n<=6)):=nE (by simp [ZR,Ao])
def pE (v:ByteArray):Bool:=v.toList==(⟨#[]⟩:ByteArray).toList
theorem gL (v:ByteArray):(v.toList==(⟨#[]⟩:ByteArray).toList)=pE v:=rfl
def dS (op:Int) (k v:ByteArray):Bool :=
 (decide (op=1)||decide (op=2))&&(decide (1<=(k.size:Int))&&decide ((k.size:Int)<=12))&&decide ((v.size:Int)<=20)&&(decide (op=1)||pE v)
def Jx (x:Int×Int×Int×Int×ByteArray×ByteArray):Bool :=
 decide (1<=x.1)&&decide (x.1<=6)&&(decide (1<=x.2.1)&&decide (x.2.1<=6))&&decide (0<=x.2.2.1) &&
  (if x.1=1 then dS x.2.2.2.1 x.2.2.2.2.1 x.2.2.2.2.2 else decide (x.2.2.2.1=0)&&pE x.2.2.2.2.1&&pE x.2.2.2.2.2)
theorem jc a k v:K9 a 0 k v=some (dS a k v):=cf (by
 have w:∀ b,JS a v b=some (decide (a=1)||pE v):=fun b=>Vz (by
  unfold N1
  rw [gL]
  by_cases h:a=1<;>simp [h])
 unfold Uc dS
 have sh:decide ((v.size:Int)>20)=!decide ((v.size:Int)<=20):=by
  by_cases h:(v.size:Int)<=20<;>simp [h]
  omega
 simp only [sh,Ao,N_,X,w]
 by_cases h1:a=1
 ·by_cases h2:1<=(k.size:Int)<;>by_cases h3:(k.size:Int)<=12<;>by_cases h4:(v.size:Int)<=20<;>simp [h1,h2,h3,h4]
 ·by_cases h1b:a=2
  ·by_cases h2:1<=(k.size:Int)<;>by_cases h3:(k.size:Int)<=12<;>by_cases h4:(v.size:Int)<=20<;>simp [h1b,h2,h3,h4]
  ·have:¬ (1<=a/\a<=2):=by omega
   by_cases h5:1<=a
   ·have:¬ a<=2:=by omega
    simp [h1,h1b,this]
   ·simp [h1,h1b,h5])
theorem dU x:Pi x=some (Jx x):=lV (by
 have w:∀ b,LJ b x=some (if x.1=1 then dS x.2.2.2.1 x.2.2.2.2.1 x.2.2.2.2.2 else decide (x.2.2.2.1=0)&&pE x.2.2.2.2.1&&pE x.2.2.2.2.2):=fun b=>cJ (by
  unfold RP
  simp only [gL]
  by_cases h:x.1=1
  ·simp [h,jc]
  ·by_cases h2:x.2.2.2.1=0<;>rcases Bool.eq_false_or_eq_true (pE x.2.2.2.2.1) with h3 | h3<;>simp [h,h2,h3])
 unfold Xd Jx
 simp only [Ao,GZ,X,w]
 by_cases h1:1<=x.1<;>by_cases h2:x.1<=6<;>by_cases h3:1<=x.2.1<;>by_cases h4:x.2.1<=6<;>by_cases h5:0<=x.2.2.1<;>simp [h1,h2,h3,h4,h5]<;>omega)
theorem dV x:Pj x=some (Jx x):=lW (by
 have w:∀ b,LK b x=some (if x.1=1 then dS x.2.2.2.1 x.2.2.2.2.1 x.2.2.2.2.2 else decide (x.2.2.2.1=0)&&pE x.2.2.2.2.1&&pE x.2.2.2.2.2):=fun b=>cM (by
  unfold RQ dS
  simp only [gL]
  by_cases h:x.1=1
  ·simp only [At,X]
   by_cases g1:x.2.2.2.1=1
   ·by_cases h2:1<=(x.2.2.2.2.1.size:Int)<;>by_cases h3:(x.2.2.2.2.1.size:Int)<=12<;>by_cases h4:(x.2.2.2.2.2.size:Int)<=20<;>simp [h,g1,h2,h3,h4]
   ·by_cases g2:x.2.2.2.1=2
    ·by_cases h2:1<=(x.2.2.2.2.1.size:Int)<;>by_cases h3:(x.2.2.2.2.1.size:Int)<=12<;>by_cases h4:(x.2.2.2.2.2.size:Int)<=20<;>simp [h,g2,h2,h3,h4]
    ·simp [h,g1,g2]
  ·by_cases h2:x.2.2.2.1=0<;>rcases Bool.eq_false_or_eq_true (pE x.2.2.2.2.1) with h3 | h3<;>simp [h,h2,h3])
 unfold Xe Jx
 simp only [At,X,w]
 by_cases h1:1<=x.1<;>by_cases h2:x.1<=6<;>by_cases h3:1<=x.2.1<;>by_cases h4:x.2.1<=6<;>by_cases h5:0<=x.2.2.1<;>simp [h1,h2,h3,h4,h5]<;>omega)

def Ig (a:ByteArray×ByteArray×Int):Bool:=(decide (1<=(a.1.size:Int))&&decide ((a.1.size:Int)<=12))&&decide ((a.2.1.size:Int)<=20)&&(decide (1<=a.2.2)&&decide (a.2.2<=1000000000))
def B2 (x:List (ByteArray×ByteArray×Int)) (i:Nat):Nat->Bool
 | 0=>decide ((x.length:Int)<=12)
 | k+1=>Ig (x.getD i (ByteArray.empty,ByteArray.empty,0))&&(decide (i=0)||Op.bytesLess (x.getD (i-1) (ByteArray.empty,ByteArray.empty,0)).1.toList (x.getD i (ByteArray.empty,ByteArray.empty,0)).1.toList)&&B2 x (i+1) k
theorem sh (n:Int):decide (n>20)=!decide (n<=20):=by
 by_cases h:n<=20<;>simp [h]
 omega
theorem Yc {i:Nat} (h:i<9223372036854775807) (h0:0<i):IntKind.i64.wrap ((i:Int)-1)=((i-1:Nat):Int):=by
 rw [Aa (by omega)]
 omega
theorem Hh (x) (h:x.length<=maxLen):DA x=some (B2 x 0 x.length):=mJ (by
 have hm:x.length<=9223372036854775807:=h
 unfold YA
 have:=GY (n:=x.length) (P:=fun i=>Fp x (i:Int)=some (B2 x i (x.length-i))) (Ru (by
  unfold Lk
  rw [if_neg (by simp),Nat.sub_self]
  rfl)) (fun i hi ih=>Ru (by
  unfold Lk
  have e:x.length-i=(x.length-(i+1))+1:=by omega
  simp only [show ((i:Int)<(x.length:Int)) from by omega,decide_true,if_true,show (0:Int)<=(i:Int) from by omega,Int.toNat_natCast,AR (show i<9223372036854775807 by omega),ih,At,X,sh]
  rw [e,B2,Ig]
  generalize (decide (1<=((x.getD i (ByteArray.empty,ByteArray.empty,0)).1.size:Int))&&decide (((x.getD i (ByteArray.empty,ByteArray.empty,0)).1.size:Int)<=12))=a
  generalize decide (((x.getD i (ByteArray.empty,ByteArray.empty,0)).2.1.size:Int)<=20)=b
  generalize (decide (1<=(x.getD i (ByteArray.empty,ByteArray.empty,0)).2.2)&&decide ((x.getD i (ByteArray.empty,ByteArray.empty,0)).2.2<=1000000000))=c
  cases a
  ·simp
  cases b
  ·simp
  cases c
  ·simp
  by_cases h0:0<i
  ·rw [Yc (by omega) h0]
   simp only [Int.toNat_natCast,show ((0:Int)<=((i-1:Nat):Int)) from by omega,show (((i-1:Nat):Int)<(x.length:Int)) from by omega,if_true]
   rcases Bool.eq_false_or_eq_true (Op.bytesLess (x.getD (i-1) (ByteArray.empty,ByteArray.empty,0)).1.toList (x.getD i (ByteArray.empty,ByteArray.empty,0)).1.toList) with hb | hb<;>simp only [hb]<;>simp [h0,show i≠0 by omega]
  ·have:i=0:=by omega
   subst this
   simp)) 0 (by omega)
 simpa using this)
theorem Ll (x) (h:x.length<=maxLen) (hl:∀ a b:List UInt8,(Op.bytesLess a b||a==b)=!Op.bytesLess b a):Ex x=some (B2 x 0 x.length):=lZ (by
 have hm:x.length<=9223372036854775807:=h
 unfold Xj
 have:=GY (n:=x.length) (P:=fun i=>Fj x x (x.length:Int) (i:Int)=some (B2 x i (x.length-i))) (RS (by
  unfold LO
  rw [if_neg (by simp),Nat.sub_self]
  rfl)) (fun i hi ih=>RS (by
  unfold LO
  have e:x.length-i=(x.length-(i+1))+1:=by omega
  simp only [show ((i:Int)<(x.length:Int)) from by omega,decide_true,if_true,show (0:Int)<=(i:Int) from by omega,Int.toNat_natCast,AR (show i<9223372036854775807 by omega),ih,Ao,N_,X,sh,hl]
  rw [e,B2,Ig]
  generalize (decide (1<=((x.getD i (ByteArray.empty,ByteArray.empty,0)).1.size:Int))&&decide (((x.getD i (ByteArray.empty,ByteArray.empty,0)).1.size:Int)<=12))=a
  generalize decide (((x.getD i (ByteArray.empty,ByteArray.empty,0)).2.1.size:Int)<=20)=b
  generalize (decide (1<=(x.getD i (ByteArray.empty,ByteArray.empty,0)).2.2)&&decide ((x.getD i (ByteArray.empty,ByteArray.empty,0)).2.2<=1000000000))=c
  cases a
  ·simp
  cases b
  ·simp
  cases c
  ·simp
  by_cases h0:0<i
  ·rw [Yc (by omega) h0]
   simp only [Int.toNat_natCast,show ((0:Int)<=((i-1:Nat):Int)) from by omega,show (((i-1:Nat):Int)<(x.length:Int)) from by omega,if_true]
   rcases Bool.eq_false_or_eq_true (Op.bytesLess (x.getD (i-1) (ByteArray.empty,ByteArray.empty,0)).1.toList (x.getD i (ByteArray.empty,ByteArray.empty,0)).1.toList) with hb | hb<;>simp only [hb]<;>simp [h0,show i≠0 by omega]
  ·have:i=0:=by omega
   subst this
   simp)) 0 (by omega)
 simpa using this)
theorem Nc:∀ a b:List UInt8,(Op.bytesLess a b||a==b)=!Op.bytesLess b a
 | [],[]=>rfl
 | [],_::_=>rfl
 | _::_,[]=>rfl
 | a::l,b::m=>by
  have ih:=Nc l m
  simp only [Op.bytesLess]
  by_cases h1:a<b
  ·have h2:¬ b<a:=by exact UInt8.not_lt.2 (UInt8.le_of_lt h1)
   have h3:¬ b=a:=fun h=>by subst h; exact absurd h1 (UInt8.lt_irrefl _)
   simp [h1,h2,h3]
  ·by_cases h2:b<a
   ·have h3:¬ a=b:=fun h=>by subst h; exact absurd h2 (UInt8.lt_irrefl _)
    simp [h1,h2,h3]
   ·have h3:a=b:=UInt8.le_antisymm (UInt8.not_lt.1 h2) (UInt8.not_lt.1 h1)
    subst h3
    simpa [h1] using ih

abbrev AL:Type:=ByteArray×ByteArray×Int
abbrev mL:AL:=(ByteArray.empty,ByteArray.empty,(0:Int))
theorem Yd:∀ a:List UInt8,Op.bytesLess a a=false
 | []=>rfl
 | a::l=>by simp [Op.bytesLess,Yd l,UInt8.lt_irrefl]
theorem YF:∀ {a b c:List UInt8},Op.bytesLess a b=true->Op.bytesLess b c=true->Op.bytesLess a c=true
 | _,[],_,h,_=>by cases ‹List UInt8› <;> simp [Op.bytesLess] at h
 | _,_::_,[],_,h=>by simp [Op.bytesLess] at h
 | [],_::_,_::_,_,_=>rfl
 | a::x,b::y,c::z,h,g=>by
  simp only [Op.bytesLess,Bool.or_eq_true,decide_eq_true_eq,Bool.and_eq_true,beq_iff_eq] at h g ⊢
  rcases h with h | ⟨rfl,h⟩
  ·rcases g with g | ⟨rfl,g⟩
   ·exact .inl (UInt8.lt_trans h g)
   ·exact .inl h
  ·rcases g with g | ⟨rfl,g⟩
   ·exact .inl g
   ·exact .inr ⟨rfl,YF h g⟩
theorem mM:∀ a b:List UInt8,decide (Lib.compareBytes a b<0)=Op.bytesLess a b/\(Lib.compareBytes a b==0)=(a==b)
 | [],[]=>⟨rfl,rfl⟩
 | [],_::_=>⟨rfl,rfl⟩
 | _::_,[]=>⟨rfl,rfl⟩
 | a::l,b::m=>by
  have ih:=mM l m
  simp only [Lib.compareBytes,Op.bytesLess]
  by_cases h1:a<b
  ·have h3:¬ a=b:=fun h=>by subst h; exact absurd h1 (UInt8.lt_irrefl _)
   simp [h1,h3]
  ·by_cases h2:b<a
   ·have h3:¬ a=b:=fun h=>by subst h; exact absurd h2 (UInt8.lt_irrefl _)
    simp [h1,h2,h3]
   ·have h3:a=b:=UInt8.le_antisymm (UInt8.not_lt.1 h2) (UInt8.not_lt.1 h1)
    subst h3
    simpa [h1] using ih
theorem Oj (a:AL) (k:ByteArray):IU a k=some (Lib.compareBytes a.1.toList k.toList):=gK (by
 unfold Ts
 rw [bp,ByteArray.toList_eq,ByteArray.toList_eq]
 rfl)
def Tv (x:List AL) (i:Nat) (k:ByteArray):Bool:=match x[i]? with
 | some b=>b.1.toList==k.toList
 | none=>false
def SI (k:ByteArray) (b:AL):Bool:=Op.bytesLess b.1.toList k.toList
def JX (x:List AL):Prop:=∀ a b (ha:a<x.length) (hb:b<x.length),a<b->Op.bytesLess x[a].1.toList x[b].1.toList=true
def g8 (x:List AL) (k:ByteArray) (i j:Nat):Prop:=∀ a (ha:a<x.length),(a<i->SI k x[a]=true)/\(j<=a->SI k x[a]=false)
theorem w4 {i j:Nat} (h:i+j<=137438953472):IntKind.i64.wrap (Int.fdiv (IntKind.u64.wrap (IntKind.i64.wrap ((i:Int)+(j:Int)))) (2^(min (1:Int).toNat (IntKind.bits .u64))))=(((i+j) / 2:Nat):Int):=by
 have e1:IntKind.i64.wrap ((i:Int)+(j:Int))=((i+j:Nat):Int):=by rw [Aa (by omega)]; omega
 have e2:IntKind.u64.wrap ((i+j:Nat):Int)=((i+j:Nat):Int):=by
  simp only [IntKind.wrap,IntKind.bits,IntKind.signed]
  simp
  omega
 have e3:(2:Int)^(min (1:Int).toNat (IntKind.bits .u64))=2:=by decide
 rw [e1,e2,e3,Int.fdiv_eq_ediv_of_nonneg _ (by omega)]
 rw [Aa (by omega)]
 omega
theorem qJ (x:List AL) (k:ByteArray) (hx:x.length<=68719476736):∀ (m i j:Nat),j-i<=m->i<=j->j<=x.length ->
  ∃ r:Nat,i<=r/\r<=j/\AK x k (x.length:Int) (i:Int) (j:Int)=some ((r:Int),Tv x r k)/\(JX x->g8 x k i j->g8 x k r r):=by
 intro m
 induction m with
 | zero =>
  intro i j hm hij hj
  have:i=j:=by omega
  subst this
  refine ⟨i,Nat.le_refl _,Nat.le_refl _,B8 ?_,fun _ h=>h⟩
  unfold BD
  rw [if_neg (by simp)]
  refine D0 ?_
  unfold B7 Tv
  by_cases h:i<x.length
  ·simp only [show ((i:Int)<(x.length:Int)) from by omega,decide_true,if_true,show (0:Int)<=(i:Int) from by omega,Int.toNat_natCast,AU h,Oj,X,(mM _ _).2,List.getElem?_eq_getElem h]
  ·rw [if_neg (by simp; omega),List.getElem?_eq_none (by omega)]
 | succ m ih =>
  intro i j hm hij hj
  by_cases hlt:i<j
  ·have hmid:i<=(i+j) / 2/\(i+j) / 2<j:=by omega
   generalize hh:(i+j) / 2=h at hmid
   have hb:h<x.length:=by omega
   have step:∀ r,(if SI k x[h]=true then AK x k (x.length:Int) ((h+1:Nat):Int) (j:Int) else AK x k (x.length:Int) (i:Int) (h:Int))=some r->AK x k (x.length:Int) (i:Int) (j:Int)=some r:=fun r hr=>B8 (by
    unfold BD
    simp only [show ((i:Int)<(j:Int)) from by omega,decide_true,if_true,w4 (show i+j<=137438953472 by omega),hh,show ¬ ((1:Int)<0) from by decide,if_false,show ((0:Int)<=(h:Int)) from by omega,show ((h:Int)<(x.length:Int)) from by omega,Int.toNat_natCast,AU hb,Oj,X,(mM _ _).1,AR (show h<9223372036854775807 by omega)]
    exact hr)
   cases hl:SI k x[h] with
   | true =>
    obtain ⟨r,h1,h2,h3,h4⟩:=ih (h+1) j (by omega) (by omega) hj
    refine ⟨r,by omega,h2,step _ (by rw [hl]; exact h3),fun ho hc=>h4 ho fun a ha=>⟨fun hlt=>?_,(hc a ha).2⟩⟩
    by_cases e:a=h
    ·subst e; exact hl
    ·exact YF (ho a h ha hb (by omega)) hl
   | false =>
    obtain ⟨r,h1,h2,h3,h4⟩:=ih i h (by omega) hmid.1 (by omega)
    refine ⟨r,h1,by omega,step _ (by rw [hl]; exact h3),fun ho hc=>h4 ho fun a ha=>⟨(hc a ha).1,fun hle=>?_⟩⟩
    by_cases e:a=h
    ·subst e; exact hl
    ·cases q:SI k x[a] with
     | false=>rfl
     | true =>
      have:=YF (ho h a hb ha (by omega)) q
      rw [show Op.bytesLess x[h].1.toList k.toList=false from hl] at this
      cases this
  ·have:i=j:=by omega
   subst this
   exact ih i i (by omega) (Nat.le_refl _) hj
theorem sj (x:List AL) (k:ByteArray) (hx:x.length<=68719476736):∃ r:Nat,r<=x.length/\BL x k ()=some ((r:Int),Tv x r k)/\(JX x->g8 x k r r):=by
 obtain ⟨r,_,h2,h3,h4⟩:=qJ x k hx x.length 0 x.length (by omega) (by omega) (Nat.le_refl _)
 refine ⟨r,h2,EU (by unfold CG; exact h3),fun ho=>h4 ho fun a ha=>⟨fun h=>by omega,fun h=>by omega⟩⟩
theorem YG {x:List AL}:∀ (m i:Nat),B2 x i m=true->∀ a,i<=a->a<i+m->a≠0->Op.bytesLess (x.getD (a-1) mL).1.toList (x.getD a mL).1.toList=true
 | 0,i,_,a,h1,h2,_=>by omega
 | m+1,i,h,a,h1,h2,h0=>by
  simp only [B2,Bool.and_eq_true,Bool.or_eq_true,decide_eq_true_eq] at h
  obtain ⟨⟨_,h3⟩,h4⟩:=h
  by_cases e:a=i
  ·subst e
   exact h3.resolve_left h0
  ·exact YG m (i+1) h4 a (by omega) (by omega) h0
theorem YH {x:List AL} (h:B2 x 0 x.length=true):JX x:=by
 have st:=YG _ _ h
 have:∀ d a (ha:a+d+1<x.length),Op.bytesLess (x.getD a mL).1.toList (x.getD (a+d+1) mL).1.toList=true:=by
  intro d
  induction d with
  | zero=>intro a ha; exact st (a+1) (by omega) (by omega) (by omega)
  | succ d ih =>
   intro a ha
   exact YF (ih a (by omega)) (st (a+(d+1)+1) (by omega) (by omega) (by omega))
 intro a b ha hb hab
 have:=this (b-a-1) a (by omega)
 rw [show a+(b-a-1)+1=b by omega,AU ha,AU hb] at this
 exact this
theorem qK {x:List AL} {k:ByteArray} {r:Nat} (hr:r<=x.length) (h:g8 x k r r):x.take r=x.filter (SI k)/\x.drop r=x.filter (fun b=>!SI k b):=by
 have e1:(x.take r).filter (SI k)=x.take r:=List.filter_eq_self.2 fun b hb=>by
  obtain ⟨a,ha,rfl⟩:=List.getElem_of_mem hb
  rw [List.length_take] at ha
  rw [List.getElem_take]
  exact (h a (by omega)).1 (by omega)
 have e2:(x.drop r).filter (SI k)=[]:=List.filter_eq_nil_iff.2 fun b hb=>by
  obtain ⟨a,ha,rfl⟩:=List.getElem_of_mem hb
  rw [List.length_drop] at ha
  rw [List.getElem_drop]
  have:=(h (r+a) (by omega)).2 (by omega)
  simp [this]
 have e3:(x.take r).filter (fun b=>!SI k b)=[]:=List.filter_eq_nil_iff.2 fun b hb=>by
  obtain ⟨a,ha,rfl⟩:=List.getElem_of_mem hb
  rw [List.length_take] at ha
  rw [List.getElem_take]
  have:=(h a (by omega)).1 (by omega)
  simp [this]
 have e4:(x.drop r).filter (fun b=>!SI k b)=x.drop r:=List.filter_eq_self.2 fun b hb=>by
  obtain ⟨a,ha,rfl⟩:=List.getElem_of_mem hb
  rw [List.length_drop] at ha
  rw [List.getElem_drop]
  have:=(h (r+a) (by omega)).2 (by omega)
  simp [this]
 have f1:x.filter (SI k)=(x.take r).filter (SI k)++(x.drop r).filter (SI k):=by rw [<- List.filter_append,List.take_append_drop]
 have f2:x.filter (fun b=>!SI k b)=(x.take r).filter (fun b=>!SI k b)++(x.drop r).filter (fun b=>!SI k b):=by rw [<- List.filter_append,List.take_append_drop]
 rw [f1,f2,e1,e2,e3,e4]
 simp
theorem qw {x:List AL} {k:ByteArray} {r:Nat} (ho:JX x) (h:g8 x k r r) (j:Nat) (hj:j<x.length) (e:x[j].1.toList=k.toList):j=r:=by
 rcases Nat.lt_trichotomy j r with g | g | g
 ·have:=(h j hj).1 g
  simp only [SI,e,Yd] at this
  cases this
 ·exact g
 ·have h1:=ho r j (by omega) hj g
  have h2:=(h r (by omega)).2 (Nat.le_refl _)
  rw [e] at h1
  rw [show SI k x[r]=true from h1] at h2
  cases h2
def WU (x:List AL) (a:AL):Bool:=x.any fun b=>(b.1.toList==a.1.toList)&&decide (b.2.2>=a.2.2)
def OA (k:ByteArray) (b:AL):Bool:=!(Op.bytesLess b.1.toList k.toList||(b.1.toList==k.toList))
def QU (x:List AL) (a:AL):List AL:=x.filter (SI a.1)++[a]++x.filter (OA a.1)
def Ap (x:List AL):Bool:=B2 x 0 x.length
def Ai (x:List AL) (a:AL):List AL:=if WU x a=true then x else if Ap x=true then (if Ap (QU x a)=true then QU x a else x) else x
theorem qx {x:List AL} {k:ByteArray} {r:Nat} (hr:r<=x.length) (h:g8 x k r r):x.filter (OA k)=(x.drop r).filter fun b=>!(b.1.toList==k.toList):=by
 rw [(qK hr h).2,List.filter_filter]
 congr 1
 funext b
 simp only [OA,SI,Bool.not_or]
 exact Bool.and_comm _ _
theorem Ln (x:List AL) (a:AL) (hx:x.length<=34359738367):Hs x a=some (Ai x a):=mD (by
 have J4:∀ same out:List AL,out.length<=maxLen->Le x a same out=some (if Ap x=true then (if Ap out=true then out else same) else same):=fun same out ho=>dJ (by
  unfold Ro Ap
  rw [Hh x (by unfold maxLen; omega),Hh out ho]
  cases B2 x 0 x.length<;>cases B2 out 0 out.length<;>simp)
 have L3:∀ same out:List AL,out.length<=x.length+1->D4 x ((0:Nat):Int) a same out=some (if Ap x=true then (if Ap (out++(x.drop 0).filter (OA a.1))=true then out++(x.drop 0).filter (OA a.1) else same) else same):=by
  intro same out ho
  refine GY (n:=x.length) (P:=fun i=>∀ out:List AL,out.length<=x.length+1+i->D4 x (i:Int) a same out=some (if Ap x=true then (if Ap (out++(x.drop i).filter (OA a.1))=true then out++(x.drop i).filter (OA a.1) else same) else same)) (fun out ho=>Rq ?_) (fun i hi ih out ho=>Rq ?_) 0 (by omega) out ho
  ·unfold Lg
   rw [if_neg (by simp),J4 same out (by unfold maxLen; omega)]
   simp
  ·unfold Lg
   simp only [show ((i:Int)<(x.length:Int)) from by omega,decide_true,if_true,show (0:Int)<=(i:Int) from by omega,Int.toNat_natCast,AU hi,AR (show i<9223372036854775807 by omega)]
   rw [BU hi,List.filter_cons]
   change (if OA a.1 x[i]=true then _ else _)=_
   by_cases hh:OA a.1 x[i]=true
   ·rw [if_pos hh,if_pos (by simp; omega),ih _ (by simp; omega),if_pos hh,List.append_assoc]
    rfl
   ·rw [if_neg hh,ih _ (by omega),if_neg hh]
 have J2:∀ same out:List AL,out.length<=x.length->Lf x a same out=some (if Ap x=true then (if Ap (out++[a]++x.filter (OA a.1))=true then out++[a]++x.filter (OA a.1) else same) else same):=fun same out ho=>dL (by
  unfold Rp
  rw [if_pos (by simp; omega)]
  have:=L3 same (out++[a]) (by simp; omega)
  simpa using this)
 have L0:∀ same:List AL,D5 x ((0:Nat):Int) a same []=some (if WU (x.drop 0) a=true then same else if Ap x=true then (if Ap (([]++(x.drop 0).filter (SI a.1))++[a]++x.filter (OA a.1))=true then ([]++(x.drop 0).filter (SI a.1))++[a]++x.filter (OA a.1) else same) else same):=by
  intro same
  refine GY (n:=x.length) (P:=fun i=>∀ out:List AL,out.length<=i->D5 x (i:Int) a same out=some (if WU (x.drop i) a=true then same else if Ap x=true then (if Ap ((out++(x.drop i).filter (SI a.1))++[a]++x.filter (OA a.1))=true then (out++(x.drop i).filter (SI a.1))++[a]++x.filter (OA a.1) else same) else same)) (fun out ho=>Rr ?_) (fun i hi ih out ho=>Rr ?_) 0 (by omega) [] (by simp)
  ·unfold Lh
   rw [if_neg (by simp),J2 same out ho]
   simp [WU]
  ·unfold Lh
   simp only [show ((i:Int)<(x.length:Int)) from by omega,decide_true,if_true,show (0:Int)<=(i:Int) from by omega,Int.toNat_natCast,AU hi]
   have J1:∀ out:List AL,out.length<=i+1->Hc x (i:Int) a same out=some (if WU (x.drop i) a=true then same else if Ap x=true then (if Ap ((out++(x.drop (i+1)).filter (SI a.1))++[a]++x.filter (OA a.1))=true then (out++(x.drop (i+1)).filter (SI a.1))++[a]++x.filter (OA a.1) else same) else same):=fun out ho=>dI (by
    unfold Rn
    simp only [show ((i:Int)<(x.length:Int)) from by omega,decide_true,if_true,show (0:Int)<=(i:Int) from by omega,Int.toNat_natCast,AU hi,AR (show i<9223372036854775807 by omega),ih out ho]
    rw [BU hi]
    rw [show WU (x[i]::x.drop (i+1)) a=(((x[i].1.toList==a.1.toList)&&decide (x[i].2.2>=a.2.2))||WU (x.drop (i+1)) a) from List.any_cons]
    generalize (x[i].1.toList==a.1.toList)=p
    generalize decide (x[i].2.2>=a.2.2)=q
    cases p<;>cases q<;>simp)
   rw [BU hi,List.filter_cons]
   change (if SI a.1 x[i]=true then _ else _)=_
   rw [BU hi] at J1
   by_cases hh:SI a.1 x[i]=true
   ·rw [if_pos hh,if_pos (by simp; omega),J1 _ (by simp; omega),if_pos hh]
    simp only [List.append_assoc,List.cons_append,List.nil_append]
   ·rw [if_neg hh,J1 _ (by omega),if_neg hh]
 unfold X5
 rw [if_pos (by simp; omega)]
 have:=L0 ([]++x)
 simpa [Ai,QU] using this)
theorem uF {x:List AL} {a:AL} {r:Nat} (hr:r<=x.length) (ho:JX x) (h:g8 x a.1 r r):WU x a=(Tv x r a.1&&decide ((x.getD r mL).2.2>=a.2.2)):=by
 unfold WU Tv
 by_cases hl:r<x.length
 ·rw [List.getElem?_eq_getElem hl,AU hl]
  rw [Bool.eq_iff_iff,List.any_eq_true]
  simp only [Bool.and_eq_true,beq_iff_eq,decide_eq_true_eq]
  refine ⟨fun ⟨b,hb,e,hv⟩=>?_,fun ⟨e,hv⟩=>⟨_,List.getElem_mem hl,e,hv⟩⟩
  obtain ⟨j,hj,rfl⟩:=List.getElem_of_mem hb
  have:=qw ho h j hj e
  subst this
  exact ⟨e,hv⟩
 ·rw [List.getElem?_eq_none (by omega),Bool.false_and,List.any_eq_false]
  intro b hb
  obtain ⟨j,hj,rfl⟩:=List.getElem_of_mem hb
  intro hc
  simp only [Bool.and_eq_true,beq_iff_eq] at hc
  have:=qw ho h j hj hc.1
  omega
theorem vh {x:List AL} {a:AL} {r:Nat} (hr:r<=x.length) (ho:JX x) (h:g8 x a.1 r r):QU x a=if Tv x r a.1=true then x.set r a else x.take r++[a]++x.drop r:=by
 unfold QU
 rw [qx hr h,<- (qK hr h).1]
 have hk:∀ (j:Nat) (hj:j<x.length),j≠r->(x[j].1.toList==a.1.toList)=false:=fun j hj hne=>by
  cases q:(x[j].1.toList==a.1.toList) with
  | false=>rfl
  | true=>exact absurd (qw ho h j hj (by simpa using q)) hne
 have tail:(x.drop (r+1)).filter (fun b=>!(b.1.toList==a.1.toList))=x.drop (r+1):=List.filter_eq_self.2 fun b hb=>by
  obtain ⟨j,hj,rfl⟩:=List.getElem_of_mem hb
  rw [List.length_drop] at hj
  rw [List.getElem_drop,hk (r+1+j) (by omega) (by omega)]
  rfl
 by_cases hl:r<x.length
 ·rw [BU hl,List.filter_cons,tail]
  unfold Tv
  rw [List.getElem?_eq_getElem hl]
  cases q:(x[r].1.toList==a.1.toList) with
  | true=>simp [q,List.set_eq_take_append_cons_drop,hl]
  | false=>simp [q]
 ·have:x.drop r=[]:=List.drop_eq_nil_of_le (by omega)
  rw [this]
  unfold Tv
  rw [List.getElem?_eq_none (by omega)]
  simp
theorem Rx (x:List AL) (a:AL) (hx:x.length<=34359738367):LD x a=some (Ai x a):=mI (by
 obtain ⟨r,hr,hs,hc⟩:=sj x a.1 (by omega)
 have ok:∀ y:List AL,y.length<=68719476736->Ex y=some (Ap y):=fun y hy=>Ll y (by unfold maxLen; omega) Nc
 have J1:∀ y:List AL,y.length<=68719476736->He x a y=some (if Ap y=true then y else x):=fun y hy=>dN (by
  unfold Rs
  rw [ok y hy,Ay (by omega)]
  cases Ap y<;>simp)
 have hl:Tv x r a.1=true->r<x.length:=fun h=>by
  by_cases hl:r<x.length
  ·exact hl
  ·unfold Tv at h
   rw [List.getElem?_eq_none (by omega)] at h
   cases h
 have J0:∀ b,Ap x=true->Hf x (r:Int) (Tv x r a.1) b a x=some (if Ap (QU x a)=true then QU x a else x):=fun b hok=>dO (by
  unfold Rt
  rw [vh hr (YH hok) (hc (YH hok))]
  cases hh:Tv x r a.1 with
  | true =>
   have:=hl hh
   simp only [if_true,show (0:Int)<=(r:Int) from by omega,show ((r:Int)<(x.length:Int)) from by omega,Int.toNat_natCast]
   rw [J1 _ (by simp; omega)]
  | false =>
   rw [if_neg (by simp),I7 (by simp; omega) hr (by simp),X,J1 _ (by simp; omega)]
   simp)
 unfold X_
 rw [Ay (by omega),X,hs,X,ok x (by omega),X]
 cases hok:Ap x with
 | false=>simp [Ai,hok]
 | true =>
  have hst:=uF hr (YH hok) (hc (YH hok))
  have j0:=J0
  unfold Ai
  rw [hst,hok]
  cases hh:Tv x r a.1 with
  | false =>
   have:=J0 false hok
   rw [hh] at this
   simp [this]
  | true =>
   have hlr:=hl hh
   have:=J0 false hok
   rw [hh] at this
   simp only [if_true,show (0:Int)<=(r:Int) from by omega,show ((r:Int)<(x.length:Int)) from by omega,Int.toNat_natCast,Bool.true_and]
   cases q:decide ((x.getD r mL).2.2>=a.2.2) with
   | true=>simp
   | false=>simp [this])

abbrev Nd:Type:=List Int×Int×Int
def WV (d:Nd):Prop:=0<=d.2.1/\d.1.length<=maxLen
theorem g9 (a:Int):0<=KU .i64 a 255/\KU .i64 a 255<=255:=by
 unfold KU
 have h:(BitVec.ofInt (IntKind.bits .i64) a &&& BitVec.ofInt (IntKind.bits .i64) 255).toNat<=255:=by
  rw [BitVec.toNat_and]
  refine Nat.le_trans Nat.and_le_right ?_
  decide
 rw [Aa (by omega)]
 omega
theorem Fs (d:Nd) (h:WV d):∃ b d',Ey d=some (b,d')/\WV d'/\0<=b/\b<=255:=by
 have hm:d.1.length<=9223372036854775807:=h.2
 have hp:=h.1
 suffices g:∃ b d',QA d=some (b,d')/\WV d'/\0<=b/\b<=255 from g.imp fun b g=>g.imp fun d' g=>⟨ld g.1,g.2⟩
 unfold QA
 rw [if_neg (by omega),if_neg (by omega)]
 by_cases h1:d.2.1<(d.1.length:Int)
 ·rw [if_pos (by simpa using h1),if_pos hp,if_pos h1]
  refine ⟨_,_,rfl,⟨?_,h.2⟩,g9 _⟩
  show 0<=IntKind.i64.wrap (d.2.1+1)
  rw [Aa (by omega)]
  omega
 ·rw [if_neg (by simpa using h1)]
  exact ⟨_,_,rfl,h,g9 _⟩
theorem Bd (n:Int) (d:Nd) (h:WV d):∃ v d',CN n d=some (v,d')/\WV d'/\0<=v/\(0<n->v<n):=by
 suffices g:∃ b d',N0 n d=some (b,d')/\WV d'/\0<=b/\(0<n->b<n) from g.imp fun b g=>g.imp fun d' g=>⟨i4 g.1,g.2⟩
 unfold N0
 by_cases h1:n<=0
 ·exact ⟨0,d,by rw [if_pos (by simpa using h1)],h,by omega,by omega⟩
 ·rw [if_neg (by simpa using h1)]
  by_cases h2:n<=256
  ·obtain ⟨b,d1,e1,k1,b0,b1⟩:=Fs d h
   refine ⟨_,_,by rw [if_pos (by simpa using h2),e1,X,if_neg (by omega)],k1,Int.tmod_nonneg _ b0,fun _=>Int.tmod_lt_of_pos _ (by omega)⟩
  ·obtain ⟨b1,d1,e1,k1,b10,b11⟩:=Fs d h
   obtain ⟨b2,d2,e2,k2,b20,b21⟩:=Fs d1 k1
   obtain ⟨b3,d3,e3,k3,b30,b31⟩:=Fs d2 k2
   obtain ⟨b4,d4,e4,k4,b40,b41⟩:=Fs d3 k3
   refine ⟨_,_,by rw [if_neg (by simpa using h2),e1,X,e2,X,e3,X,e4,X,if_neg (by omega)],k4,Int.tmod_nonneg _ ?_,fun _=>Int.tmod_lt_of_pos _ (by omega)⟩
   rw [Aa (n:=b1*16777216) (by omega),Aa (n:=b2*65536) (by omega),Aa (n:=b3*256) (by omega),Aa (n:=b1*16777216+b2*65536) (by omega),Aa (n:=b1*16777216+b2*65536+b3*256) (by omega),Aa (by omega)]
   omega
theorem Hi (n:Int) (d:Nd) (h:WV d):∃ v d',C9 n d=some (v,d')/\WV d':=by
 obtain ⟨v,d',e,k,_⟩:=Bd n d h
 exact ⟨_,_,lw (by unfold Xy; rw [e,X]),k⟩
theorem Nf (x:List Int) (hx:0<x.length) (d:Nd) (h:WV d):∃ v d',HR x d=some (v,d')/\WV d'/\v∈x:=by
 obtain ⟨v,d',e,k,v0,v1⟩:=Bd (x.length:Int) d h
 have v1:=v1 (by omega)
 have hv:v.toNat<x.length:=by omega
 exact ⟨_,_,cr (by unfold Rf; rw [e,X,if_pos v0,if_pos v1]),k,by rw [AU hv]; exact List.getElem_mem hv⟩
theorem gM (x:List Int) (h:x.length<=maxLen):∃ d,R6 x=some d/\WV d:=by
 have hm:x.length<=9223372036854775807:=h
 have key:=GY (n:=x.length) (P:=fun i=>∀ a,∃ d,IX x a (i:Int)=some d/\WV d) (fun a=>⟨(x,0,a),Me (by
  unfold IY
  rw [if_neg (by simp)]),⟨Int.le_refl _,h⟩⟩) (fun i hi ih a=>by
  by_cases h4:(i:Int)<4000
  ·obtain ⟨d,e,k⟩:=ih (KU .i64 (IntKind.i64.wrap ((IntKind.i64.wrap ((IntKind.i64.wrap (a*(131:Int)))+(IntKind.i64.wrap (x.getD (i:Int).toNat (0:Int)))))+(7:Int))) (1073741823:Int))
   refine ⟨d,Me ?_,k⟩
   unfold IY
   rw [if_pos (by simpa using hi),if_pos (by simpa using h4)]
   refine fH ?_
   unfold TM
   rw [if_pos (by omega),if_pos (by omega),AR (show i<9223372036854775807 by omega)]
   exact e
  ·refine ⟨(x,0,a),Me ?_,⟨Int.le_refl _,h⟩⟩
   unfold IY
   rw [if_pos (by simpa using hi),if_neg (by simpa using h4)]) 0 (by omega)
 obtain ⟨d,e,k⟩:=key (IntKind.i64.wrap ((14301:Int)+(x.length:Int)))
 exact ⟨d,nC e,k⟩

theorem SF {x:List AL}:∀ (m i:Nat),i+m=x.length->(B2 x i m=true↔(∀ a (ha:a<x.length),i<=a->Ig x[a]=true/\(a≠0->Op.bytesLess (x.getD (a-1) mL).1.toList x[a].1.toList=true))/\x.length<=12)
 | 0,i,h=>by
  simp only [B2,decide_eq_true_eq]
  refine ⟨fun h2=>⟨fun a ha hi=>by omega,by omega⟩,fun h2=>by have:=h2.2; omega⟩
 | m+1,i,h=>by
  have hi:i<x.length:=by omega
  rw [B2,Bool.and_eq_true,Bool.and_eq_true,SF m (i+1) (by omega),AU hi]
  simp only [Bool.or_eq_true,decide_eq_true_eq]
  constructor
  ·rintro ⟨⟨h1,h2⟩,h3,h4⟩
   refine ⟨fun a ha hia=>?_,h4⟩
   by_cases e:a=i
   ·subst e
    exact ⟨h1,fun h0=>h2.resolve_left h0⟩
   ·exact h3 a ha (by omega)
  ·rintro ⟨h3,h4⟩
   refine ⟨⟨(h3 i hi (Nat.le_refl _)).1,?_⟩,fun a ha hia=>h3 a ha (by omega),h4⟩
   by_cases e:i=0
   ·exact .inl e
   ·exact .inr ((h3 i hi (Nat.le_refl _)).2 e)
theorem Cd {x:List AL}:Ap x=true↔(∀ b∈x,Ig b=true)/\JX x/\x.length<=12:=by
 constructor
 ·intro h
  have h1:=(SF x.length 0 (by omega)).1 h
  refine ⟨fun b hb=>?_,YH h,h1.2⟩
  obtain ⟨a,ha,rfl⟩:=List.getElem_of_mem hb
  exact (h1.1 a ha (Nat.zero_le _)).1
 ·rintro ⟨h1,h2,h3⟩
  refine (SF x.length 0 (by omega)).2 ⟨fun a ha _=>⟨h1 _ (List.getElem_mem ha),fun h0=>?_⟩,h3⟩
  rw [AU (show a-1<x.length by omega)]
  exact h2 (a-1) a (by omega) ha (by omega)
theorem ns {x:List AL}:JX x↔x.Pairwise fun b c=>Op.bytesLess b.1.toList c.1.toList=true:=by
 rw [List.pairwise_iff_getElem]
 rfl
theorem aZ {x:List AL} (a:AL) (h:JX x):JX (QU x a):=by
 rw [ns] at h ⊢
 have lo:∀ b∈x.filter (SI a.1),Op.bytesLess b.1.toList a.1.toList=true:=fun b hb=>(List.mem_filter.1 hb).2
 have hg:∀ b∈x.filter (OA a.1),Op.bytesLess a.1.toList b.1.toList=true:=fun b hb=>by
  have:=(List.mem_filter.1 hb).2
  rw [OA,Nc] at this
  simpa using this
 unfold QU
 rw [List.pairwise_append,List.pairwise_append]
 refine ⟨⟨h.filter _,List.pairwise_singleton _ _,fun b hb c hc=>?_⟩,h.filter _,fun b hb c hc=>?_⟩
 ·rw [List.mem_singleton] at hc
  subst hc
  exact lo b hb
 ·rcases List.mem_append.1 hb with hb | hb
  ·exact YF (lo b hb) (hg c hc)
  ·rw [List.mem_singleton] at hb
   subst hb
   exact hg c hc
theorem uG (x:List AL) (a:AL):(QU x a).length<=x.length+1:=by
 have h1:(x.filter (OA a.1)).length<=(x.filter fun b=>!SI a.1 b).length:=by
  rw [<- List.countP_eq_length_filter,<- List.countP_eq_length_filter]
  refine List.countP_mono_left fun b _ hb=>?_
  simp only [OA,SI,Bool.not_eq_true',Bool.or_eq_false_iff] at hb ⊢
  exact hb.1
 have h2:(x.filter (SI a.1)).length+(x.filter fun b=>!SI a.1 b).length=x.length:=by
  rw [<- List.countP_eq_length_filter,<- List.countP_eq_length_filter]
  have:=List.length_eq_countP_add_countP (SI a.1) (l:=x)
  rw [this]
  congr 2
  funext b
  cases SI a.1 b<;>rfl
 simp only [QU,List.length_append,List.length_cons,List.length_nil]
 omega
theorem mN {x:List AL} {a:AL}:a∈QU x a:=by simp [QU]
theorem qL {x:List AL} {a b:AL} (h:b∈QU x a):b=a\/b∈x:=by
 simp only [QU,List.mem_append,List.mem_filter,List.mem_singleton] at h
 rcases h with (h | h) | h
 ·exact .inr h.1
 ·exact .inl h
 ·exact .inr h.1
theorem qy {x:List AL} {a b:AL} (h:b∈x) (hk:(b.1.toList==a.1.toList)=false):b∈QU x a:=by
 simp only [QU,List.mem_append,List.mem_filter,List.mem_singleton]
 cases q:SI a.1 b with
 | true=>exact .inl (.inl ⟨h,rfl⟩)
 | false =>
  refine .inr ⟨h,?_⟩
  unfold OA
  rw [show Op.bytesLess b.1.toList a.1.toList=false from q,hk]
  rfl
theorem Mu {x:List AL} (ho:JX x) {b:AL} (hb:b∈x):BB x b.1=b:=by
 obtain ⟨j,hj,rfl⟩:=List.getElem_of_mem hb
 have:x.find? (fun a=>a.1.toList==x[j].1.toList)=some x[j]:=by
  rw [List.find?_eq_some_iff_getElem]
  refine ⟨by simp,j,hj,rfl,fun i hi=>?_⟩
  have:=ho i j (by omega) hj hi
  cases q:(x[i].1.toList==x[j].1.toList) with
  | false=>rfl
  | true =>
   rw [beq_iff_eq] at q
   rw [q,Yd] at this
   cases this
 unfold BB
 rw [this]
 rfl
theorem sm {x:List AL} (ho:JX x) {a:AL} (h1:1<=a.2.2):(BB x a.1).2.2>=a.2.2↔WU x a=true:=by
 constructor
 ·intro h
  unfold BB at h
  cases q:x.find? (fun b=>b.1.toList==a.1.toList) with
  | none=>rw [q] at h; simp at h; omega
  | some b =>
   rw [q] at h
   exact List.any_eq_true.2 ⟨b,List.mem_of_find?_eq_some q,by simpa [List.find?_some q] using h⟩
 ·intro h
  obtain ⟨b,hb,hc⟩:=List.any_eq_true.1 h
  simp only [Bool.and_eq_true,beq_iff_eq,decide_eq_true_eq] at hc
  have e:BB x a.1=BB x b.1:=by unfold BB; rw [hc.1]
  rw [e,Mu ho hb]
  exact hc.2
theorem qM (a:AL):UA (.pair .str (.pair .str (.int .i64))) a a=true:=by simp [UA]
theorem Ry (x:List ByteArray) (hx:0<x.length) (d:Nd) (h:WV d):∃ v d',LA x d=some (v,d')/\WV d'/\v∈x:=by
 obtain ⟨v,d',e,k,v0,v1⟩:=Bd (x.length:Int) d h
 have v1:=v1 (by omega)
 have hv:v.toNat<x.length:=by omega
 exact ⟨_,_,lx (by unfold Xz; rw [e,X,if_pos v0,if_pos v1]),k,by rw [AU hv]; exact List.getElem_mem hv⟩
theorem Hz {x:List AL} {a:AL} (h:Ap x=true):Ap (Ai x a)=true:=by
 unfold Ai
 rw [if_pos h]
 split
 ·exact h
 ·split
  ·assumption
  ·exact h
theorem qN (x:List AL) (a:AL):(Ai x a).length<=x.length+1:=by
 have:=uG x a
 unfold Ai
 (repeat' split)<;>omega



theorem Ck (x:List Int) (n:Int) (h:x.length<=maxLen):Dj x n=some (x.contains n):=o7 (by
 have hm:x.length<=9223372036854775807:=h
 unfold cS
 have:=GY (n:=x.length) (P:=fun i=>JR x n (i:Int)=some ((x.drop i).contains n)) (Vx (by
  unfold Nz
  rw [if_neg (by simp),List.drop_length]
  rfl)) (fun i hi ih=>Vx (by
  unfold Nz
  simp only [show ((i:Int)<(x.length:Int)) from by omega,decide_true,if_true,show (0:Int)<=(i:Int) from by omega,Int.toNat_natCast,AU hi,AR (show i<9223372036854775807 by omega)]
  rw [BU hi,List.contains_cons,ih]
  by_cases e:x[i]=n
  ·subst e
   simp
  ·simp [e,Ne.symm e])) 0 (by omega)
 simpa using this)
theorem w5 (x:List Int) (i:Nat) (hi:i<x.length) (h:x.length<=maxLen):∃ r,C8 x x[i]=some r/\((r=(i:Int))↔x[i]∉x.take i):=by
 have hm:x.length<=9223372036854775807:=h
 have key:=GY (n:=i) (P:=fun k=>∃ r,CV x x[i] (x.length:Int) (k:Int)=some r/\(k:Int)<=r/\((r=(i:Int))↔∀ m (hm:m<i),k<=m->x[m]≠x[i])) ⟨i,B1 (by
  unfold BX
  simp only [show ((i:Int)<(x.length:Int)) from by omega,decide_true,if_true,show (0:Int)<=(i:Int) from by omega,Int.toNat_natCast,AU hi]
  simp),by omega,⟨fun _ m hm hk=>by omega,fun _=>rfl⟩⟩ (fun k hk ⟨r,hr,hkr,hiff⟩=>by
  have hk2:k<x.length:=by omega
  by_cases e:x[i]=x[k]
  ·refine ⟨k,B1 ?_,by omega,⟨fun he=>by omega,fun hall=>absurd e.symm (hall k hk (by omega))⟩⟩
   unfold BX
   simp only [show ((k:Int)<(x.length:Int)) from by omega,decide_true,if_true,show (0:Int)<=(k:Int) from by omega,Int.toNat_natCast,AU hk2]
   rw [if_pos (by simpa using e)]
  ·refine ⟨r,B1 ?_,by omega,hiff.trans ⟨fun hall m hm hkm=>?_,fun hall m hm hkm=>hall m hm (by omega)⟩⟩
   ·unfold BX
    simp only [show ((k:Int)<(x.length:Int)) from by omega,decide_true,if_true,show (0:Int)<=(k:Int) from by omega,Int.toNat_natCast,AU hk2,AR (show k<9223372036854775807 by omega)]
    rw [if_neg (by simpa using e)]
    exact hr
   ·rcases Nat.lt_or_ge k m with h1 | h1
    ·exact hall m hm h1
    ·have:m=k:=by omega
     subst this
     exact fun h=>e h.symm) 0 (by omega)
 obtain ⟨r,hr,_,hiff⟩:=key
 refine ⟨r,LZ hr,hiff.trans ⟨fun hall hmem=>?_,fun hn m hm _ he=>hn ?_⟩⟩
 ·obtain ⟨m,hm,he⟩:=List.mem_take_iff_getElem.1 hmem
  exact hall m (by omega) (by omega) he
 ·exact List.mem_take_iff_getElem.2 ⟨m,by omega,he⟩
def HB (v:List Int) (i:Nat):Nat->Bool
 | 0=>true
 | k+1=>(decide (1<=v.getD i 0)&&decide (v.getD i 0<=6))&&!(v.take i).contains (v.getD i 0)&&HB v (i+1) k
def Uk (v:List Int):Bool:=(decide (1<=(v.length:Int))&&decide ((v.length:Int)<=4))&&HB v 0 v.length
def Ep (x:List (List Int)) (n:Nat):List (List Int)->Bool
 | []=>decide (1<=(n:Int))&&decide ((n:Int)<=9)
 | v::r=>Uk v&&Ep x n r
theorem dW (v:List Int) (h:v.length<=maxLen):Pm v=some (Uk v):=ly (by
 have hm:v.length<=9223372036854775807:=h
 unfold X0 Uk
 simp only [At,X]
 have:=GY (n:=v.length) (P:=fun i=>Ha v (i:Int)=some (HB v i (v.length-i))) (Rg (by
  unfold La
  rw [if_neg (by simp),Nat.sub_self]
  rfl)) (fun i hi ih=>Rg (by
  unfold La
  have e:v.length-i=(v.length-(i+1))+1:=by omega
  rw [e,HB]
  simp only [show ((i:Int)<(v.length:Int)) from by omega,show ((i:Int)<=(v.length:Int)) from by omega,decide_true,if_true,show (0:Int)<=(i:Int) from by omega,Int.toNat_natCast,At,X,AR (show i<9223372036854775807 by omega),ih,Int.toNat_zero,List.drop_zero,Int.le_refl,
   Ck (v.take i) _ (by rw [List.length_take]; omega)]
  generalize (decide (1<=v.getD i 0)&&decide (v.getD i 0<=6))=a
  generalize (v.take i).contains (v.getD i 0)=b
  cases a<;>cases b<;>simp)) 0 (by omega)
 simp only [Int.ofNat_zero,Nat.sub_zero] at this
 generalize (decide (1<=(v.length:Int))&&decide ((v.length:Int)<=4))=a
 cases a
 ·simp
 ·simpa using this)
theorem dX (x:List (List Int)) (h:x.length<=maxLen) (ho:∀ a∈x,a.length<=maxLen):Dw x=some (Ep x x.length x):=lq (by
 have hm:x.length<=9223372036854775807:=h
 unfold Xs
 exact GY (n:=x.length) (P:=fun i=>HZ x (i:Int)=some (Ep x x.length (x.drop i))) (Rb (by
  unfold LX
  rw [if_neg (by simp),List.drop_length,At]
  rfl)) (fun i hi ih=>Rb (by
  unfold LX
  simp only [show ((i:Int)<(x.length:Int)) from by omega,decide_true,if_true,show (0:Int)<=(i:Int) from by omega,Int.toNat_natCast,AU hi,dW x[i] (ho _ (List.getElem_mem _)),X,AR (show i<9223372036854775807 by omega),ih]
  rw [BU hi,Ep]
  generalize Uk x[i]=a
  cases a<;>simp)) 0 (by omega))
theorem dY (x:List (List Int)) (h:x.length<=maxLen) (ho:∀ a∈x,a.length<=maxLen):Dv x=some (Ep x x.length x):=lh (by
 have hm:x.length<=9223372036854775807:=h
 unfold Xn
 exact GY (n:=x.length) (P:=fun i=>HY x x (x.length:Int) (i:Int)=some (Ep x x.length (x.drop i))) (RZ (by
  unfold LW
  rw [if_neg (by simp),List.drop_length,Ao]
  rfl)) (fun i hi ih=>RZ (by
  unfold LW
  simp only [show ((i:Int)<(x.length:Int)) from by omega,decide_true,if_true,show (0:Int)<=(i:Int) from by omega,Int.toNat_natCast,AU hi]
  rw [BU hi,Ep]
  have hv:=ho x[i] (List.getElem_mem _)
  generalize x[i]=v at hv
  have hvm:v.length<=9223372036854775807:=hv
  have wj:LU x v x (x.length:Int) (i:Int)=some ((decide (1<=(v.length:Int))&&decide ((v.length:Int)<=4))&&Ep x x.length (x.drop (i+1))):=cd (by
   unfold RX
   rw [Ao,X,AR (show i<9223372036854775807 by omega),ih]
   generalize (decide (1<=(v.length:Int))&&decide ((v.length:Int)<=4))=a
   cases a<;>simp)
  have:=GY (n:=v.length) (P:=fun j=>HX x v x (x.length:Int) (i:Int) v (v.length:Int) (j:Int)=some (HB v j (v.length-j)&&((decide (1<=(v.length:Int))&&decide ((v.length:Int)<=4))&&Ep x x.length (x.drop (i+1))))) (RY (by
   unfold LV
   rw [if_neg (by simp),Nat.sub_self,wj]
   rfl)) (fun j hj ihj=>RY (by
   unfold LV
   have e:v.length-j=(v.length-(j+1))+1:=by omega
   obtain ⟨r,hr,hiff⟩:=w5 v j hj hv
   rw [e,HB]
   simp only [show ((j:Int)<(v.length:Int)) from by omega,decide_true,if_true,show (0:Int)<=(j:Int) from by omega,Int.toNat_natCast,GZ,X,AR (show j<9223372036854775807 by omega),ihj,AU hj,hr]
   have hb:(r != (j:Int))=(v.take j).contains v[j]:=by
    by_cases e2:r=(j:Int)
    ·have:=hiff.1 e2
     simp [e2,this]
    ·have:v[j]∈v.take j:=Classical.byContradiction fun hn=>e2 (hiff.2 hn)
     simp [e2,this]
   rw [hb]
   generalize (decide (1<=v[j])&&decide (v[j]<=6))=a
   generalize (v.take j).contains v[j]=b
   cases a<;>cases b<;>simp)) 0 (by omega)
  simp only [Int.ofNat_zero,Nat.sub_zero] at this
  unfold Uk
  refine Eq.trans this ?_
  congr 1
  generalize HB v 0 v.length=a
  generalize (decide (1<=(v.length:Int))&&decide ((v.length:Int)<=4))=b
  cases a<;>cases b<;>simp)) 0 (by omega))

abbrev rW:Type:=Int×Int×Int×(ByteArray×ByteArray×Int)×List Int
abbrev AA:Type:=Int×Int×Bool×Bool×Bool×Bool×List Int×List (ByteArray×ByteArray×Int)×Int×rW
def E8 (v:List Int) (i:Nat):Nat->Bool
 | 0=>true
 | k+1=>(decide (1<=v.getD i 0)&&decide (v.getD i 0<=6))&&(decide (i=0)||decide (v.getD (i-1) 0<v.getD i 0))&&E8 v (i+1) k
theorem Tw (x:List Int) (h:x.length<=maxLen):C4 x=some (E8 x 0 x.length):=nM (by
 have hm:x.length<=9223372036854775807:=h
 unfold ZW
 have:=GY (n:=x.length) (P:=fun i=>GX x (i:Int)=some (E8 x i (x.length-i))) (Tq (by
  unfold Mt
  rw [if_neg (by simp),Nat.sub_self]
  rfl)) (fun i hi ih=>Tq (by
  unfold Mt
  have e:x.length-i=(x.length-(i+1))+1:=by omega
  simp only [show ((i:Int)<(x.length:Int)) from by omega,decide_true,if_true,show (0:Int)<=(i:Int) from by omega,Int.toNat_natCast,AR (show i<9223372036854775807 by omega),ih,At,X]
  rw [e,E8]
  generalize (decide (1<=x.getD i 0)&&decide (x.getD i 0<=6))=a
  cases a
  ·simp
  by_cases h0:0<i
  ·rw [Yc (by omega) h0]
   simp only [Int.toNat_natCast,show ((0:Int)<=((i-1:Nat):Int)) from by omega,show (((i-1:Nat):Int)<(x.length:Int)) from by omega,if_true]
   rcases Int.lt_or_le (x.getD (i-1) 0) (x.getD i 0) with hb | hb
   ·have d1:decide (x.getD (i-1) 0>=x.getD i 0)=false:=decide_eq_false (by omega)
    have d2:decide (x.getD (i-1) 0<x.getD i 0)=true:=decide_eq_true hb
    simp only [d1,d2]
    simp [h0,show i≠0 by omega]
   ·have d1:decide (x.getD (i-1) 0>=x.getD i 0)=true:=decide_eq_true (by omega)
    have d2:decide (x.getD (i-1) 0<x.getD i 0)=false:=decide_eq_false (by omega)
    simp only [d1,d2]
    simp [h0,show i≠0 by omega]
  ·have:i=0:=by omega
   subst this
   simp)) 0 (by omega)
 simpa using this)
theorem MM (x:List Int) (h:x.length<=maxLen):Gr x 1 6=some (E8 x 0 x.length):=aI (by
 have hm:x.length<=9223372036854775807:=h
 unfold P_
 have:=GY (n:=x.length) (P:=fun i=>DQ x 1 6 x (x.length:Int) (i:Int)=some (E8 x i (x.length-i))) (MA (by
  unfold HH
  rw [if_neg (by simp),Nat.sub_self]
  rfl)) (fun i hi ih=>MA (by
  unfold HH
  have e:x.length-i=(x.length-(i+1))+1:=by omega
  simp only [show ((i:Int)<(x.length:Int)) from by omega,decide_true,if_true,show (0:Int)<=(i:Int) from by omega,Int.toNat_natCast,AR (show i<9223372036854775807 by omega),ih,Ao,X]
  rw [e,E8]
  generalize (decide (1<=x.getD i 0)&&decide (x.getD i 0<=6))=a
  cases a
  ·simp
  by_cases h0:0<i
  ·rw [Yc (by omega) h0]
   simp only [Int.toNat_natCast,show ((0:Int)<=((i-1:Nat):Int)) from by omega,show (((i-1:Nat):Int)<(x.length:Int)) from by omega,if_true]
   rcases Int.lt_or_le (x.getD (i-1) 0) (x.getD i 0) with hb | hb
   ·have d1:decide (x.getD i 0<=x.getD (i-1) 0)=false:=decide_eq_false (by omega)
    have d2:decide (x.getD (i-1) 0<x.getD i 0)=true:=decide_eq_true hb
    simp only [d1,d2]
    simp [h0,show i≠0 by omega]
   ·have d1:decide (x.getD i 0<=x.getD (i-1) 0)=true:=decide_eq_true (by omega)
    have d2:decide (x.getD (i-1) 0<x.getD i 0)=false:=decide_eq_false (by omega)
    simp only [d1,d2]
    simp [h0,show i≠0 by omega]
  ·have:i=0:=by omega
   subst this
   simp)) 0 (by omega)
 simpa using this)
def Iz (t:rW):Bool:=(t.1==0)&&(t.2.1==0)&&(t.2.2.1==0)&&UA (.pair .str (.pair .str (.int .i64))) t.2.2.2.1 (ByteArray.empty,ByteArray.empty,(0:Int))&&((t.2.2.2.2.length:Int)==0)
def E9 (t:rW) (serves:Bool):Bool:=(t.1==1||t.1==2)&&serves&&(decide (0<=t.2.1)&&decide (t.2.1<=1000))&&(decide (1<=t.2.2.1)&&decide (t.2.2.1<=900))
def Tx (x:AA):Bool :=
 (decide (1<=x.1)&&decide (x.1<=6))&&(decide (1<=x.2.1)&&decide (x.2.1<=9))&&(!x.2.2.2.2.2.1||(x.2.2.2.1&&x.2.2.2.2.1&&!decide ((x.2.2.2.2.2.2.1.length:Int)>0)))&&(!x.2.2.1||(!x.2.2.2.1&&!x.2.2.2.2.1)) &&
  E8 x.2.2.2.2.2.2.1 0 x.2.2.2.2.2.2.1.length&&E8 x.2.2.2.2.2.2.2.2.2.2.2.2.2 0 x.2.2.2.2.2.2.2.2.2.2.2.2.2.length&&B2 x.2.2.2.2.2.2.2.1 0 x.2.2.2.2.2.2.2.1.length&&(decide (0<=x.2.2.2.2.2.2.2.2.1)&&decide (x.2.2.2.2.2.2.2.2.1<=900)) &&
  (Iz x.2.2.2.2.2.2.2.2.2||E9 x.2.2.2.2.2.2.2.2.2 x.2.2.2.2.2.1)
theorem Y7 (t:rW):MX t=some (Iz t):=gJ (by
 unfold Tr Iz
 generalize (t.1==0)=a
 generalize (t.2.1==0)=b
 generalize (t.2.2.1==0)=c
 generalize UA (.pair .str (.pair .str (.int .i64))) t.2.2.2.1 (ByteArray.empty,ByteArray.empty,(0:Int))=d
 cases a<;>cases b<;>cases c<;>cases d<;>simp)
theorem aa (x:AA) (h1:x.2.2.2.2.2.2.1.length<=maxLen) (h2:x.2.2.2.2.2.2.2.1.length<=maxLen) (h3:x.2.2.2.2.2.2.2.2.2.2.2.2.2.length<=maxLen):FR x=some (Tx x):=jN (by
 have w0:∀ b,Db b x=some (Iz x.2.2.2.2.2.2.2.2.2||E9 x.2.2.2.2.2.2.2.2.2 x.2.2.2.2.2.1):=fun b=>aV (by
  unfold QI E9
  simp only [At,Y7,X]
  generalize Iz x.2.2.2.2.2.2.2.2.2=a
  generalize (x.2.2.2.2.2.2.2.2.2.1==1)=b
  generalize (x.2.2.2.2.2.2.2.2.2.1==2)=c
  generalize x.2.2.2.2.2.1=d
  generalize (decide (0<=x.2.2.2.2.2.2.2.2.2.2.1)&&decide (x.2.2.2.2.2.2.2.2.2.2.1<=1000))=e
  generalize (decide (1<=x.2.2.2.2.2.2.2.2.2.2.2.1)&&decide (x.2.2.2.2.2.2.2.2.2.2.2.1<=900))=f
  cases a<;>cases b<;>cases c<;>cases d<;>cases e<;>simp)
 unfold WN Tx
 simp only [At,Tw _ h1,Tw _ h3,Hh _ h2,X,w0]
 generalize (decide (1<=x.1)&&decide (x.1<=6))=a
 generalize (decide (1<=x.2.1)&&decide (x.2.1<=9))=b
 generalize decide ((x.2.2.2.2.2.2.1.length:Int)>0)=c
 generalize E8 x.2.2.2.2.2.2.1 0 x.2.2.2.2.2.2.1.length=d
 generalize E8 x.2.2.2.2.2.2.2.2.2.2.2.2.2 0 x.2.2.2.2.2.2.2.2.2.2.2.2.2.length=e
 generalize B2 x.2.2.2.2.2.2.2.1 0 x.2.2.2.2.2.2.2.1.length=f
 generalize (decide (0<=x.2.2.2.2.2.2.2.2.1)&&decide (x.2.2.2.2.2.2.2.2.1<=900))=g
 generalize (Iz x.2.2.2.2.2.2.2.2.2||E9 x.2.2.2.2.2.2.2.2.2 x.2.2.2.2.2.1)=t
 generalize x.2.2.2.2.2.1=s
 generalize x.2.2.2.2.1=l
 generalize x.2.2.2.1=m
 generalize x.2.2.1=n
 cases a
 ·simp
 cases b
 ·simp
 cases d<;>cases e<;>cases f<;>cases g<;>cases s<;>cases n<;>cases m<;>cases l<;>cases c<;>simp)
theorem Ty (x:AA) (h3:x.2.2.2.2.2.2.2.2.2.2.2.2.2.length<=maxLen):Cx x=some (E8 x.2.2.2.2.2.2.2.2.2.2.2.2.2 0 x.2.2.2.2.2.2.2.2.2.2.2.2.2.length&&(Iz x.2.2.2.2.2.2.2.2.2||E9 x.2.2.2.2.2.2.2.2.2 x.2.2.2.2.2.1),x):=Xk (by
 unfold NP Iz E9
 simp only [Ao,MM _ h3,X]
 by_cases hk:x.2.2.2.2.2.2.2.2.2.1=0
 ·rw [if_pos (by simp [hk])]
  have k1:(x.2.2.2.2.2.2.2.2.2.1==1)=false:=by simp [hk]
  have k2:(x.2.2.2.2.2.2.2.2.2.1==2)=false:=by simp [hk]
  have k0:(x.2.2.2.2.2.2.2.2.2.1==0)=true:=by simp [hk]
  rw [k1,k2,k0]
  have hl:((x.2.2.2.2.2.2.2.2.2.2.2.2.2.length:Int)==0)=true->E8 x.2.2.2.2.2.2.2.2.2.2.2.2.2 0 x.2.2.2.2.2.2.2.2.2.2.2.2.2.length=true:=by
   intro h
   have:x.2.2.2.2.2.2.2.2.2.2.2.2.2.length=0:=by simpa using h
   rw [this]
   rfl
  generalize ((x.2.2.2.2.2.2.2.2.2.2.2.2.2.length:Int)==0)=l at hl
  generalize E8 x.2.2.2.2.2.2.2.2.2.2.2.2.2 0 x.2.2.2.2.2.2.2.2.2.2.2.2.2.length=u at hl
  generalize (x.2.2.2.2.2.2.2.2.2.2.1==0)=b
  generalize (x.2.2.2.2.2.2.2.2.2.2.2.1==0)=c
  generalize UA (.pair .str (.pair .str (.int .i64))) x.2.2.2.2.2.2.2.2.2.2.2.2.1 (ByteArray.empty,ByteArray.empty,(0:Int))=d
  cases b<;>cases c<;>cases d<;>cases l<;>cases u<;>simp at hl ⊢
 ·rw [if_neg (by simp [hk])]
  have k0:(x.2.2.2.2.2.2.2.2.2.1==0)=false:=by simp [hk]
  have k12:(decide (1<=x.2.2.2.2.2.2.2.2.2.1)&&decide (x.2.2.2.2.2.2.2.2.2.1<=2))=(x.2.2.2.2.2.2.2.2.2.1==1||x.2.2.2.2.2.2.2.2.2.1==2):=by
   rw [Bool.eq_iff_iff]
   simp
   omega
  rw [k12,k0]
  generalize (x.2.2.2.2.2.2.2.2.2.1==1||x.2.2.2.2.2.2.2.2.2.1==2)=k
  generalize E8 x.2.2.2.2.2.2.2.2.2.2.2.2.2 0 x.2.2.2.2.2.2.2.2.2.2.2.2.2.length=u
  generalize (decide (0<=x.2.2.2.2.2.2.2.2.2.2.1)&&decide (x.2.2.2.2.2.2.2.2.2.2.1<=1000))=e
  generalize (decide (1<=x.2.2.2.2.2.2.2.2.2.2.2.1)&&decide (x.2.2.2.2.2.2.2.2.2.2.2.1<=900))=f
  cases k<;>cases u<;>cases e<;>cases f<;>rcases Bool.eq_false_or_eq_true x.2.2.2.2.2.1 with hs | hs<;>simp [hs])
theorem ae (x:AA) (h1:x.2.2.2.2.2.2.1.length<=maxLen) (h2:x.2.2.2.2.2.2.2.1.length<=maxLen) (h3:x.2.2.2.2.2.2.2.2.2.2.2.2.2.length<=maxLen):FQ x=some (Tx x):=ib (by
 have w0:∀ b,Jr b x=some ((!x.2.2.2.2.2.1||(x.2.2.2.1&&x.2.2.2.2.1&&!decide ((x.2.2.2.2.2.2.1.length:Int)>0)))&&(!x.2.2.1||(!x.2.2.2.1&&!x.2.2.2.2.1))&&(E8 x.2.2.2.2.2.2.2.2.2.2.2.2.2 0 x.2.2.2.2.2.2.2.2.2.2.2.2.2.length&&(Iz x.2.2.2.2.2.2.2.2.2||E9 x.2.2.2.2.2.2.2.2.2 x.2.2.2.2.2.1))):=fun b=>Z9 (by
  unfold P5
  simp only [Ty x h3,X]
  generalize (E8 x.2.2.2.2.2.2.2.2.2.2.2.2.2 0 x.2.2.2.2.2.2.2.2.2.2.2.2.2.length&&(Iz x.2.2.2.2.2.2.2.2.2||E9 x.2.2.2.2.2.2.2.2.2 x.2.2.2.2.2.1))=t
  generalize decide ((x.2.2.2.2.2.2.1.length:Int)>0)=c
  generalize x.2.2.2.2.2.1=s
  generalize x.2.2.2.2.1=l
  generalize x.2.2.2.1=m
  generalize x.2.2.1=n
  cases s<;>cases n<;>cases m<;>cases l<;>cases c<;>simp)
 unfold Vp Tx
 simp only [Ao,GZ,MM _ h1,Ll _ h2 Nc,X,w0]
 generalize (decide (1<=x.1)&&decide (x.1<=6))=a
 generalize (decide (1<=x.2.1)&&decide (x.2.1<=9))=b
 generalize E8 x.2.2.2.2.2.2.1 0 x.2.2.2.2.2.2.1.length=d
 generalize E8 x.2.2.2.2.2.2.2.2.2.2.2.2.2 0 x.2.2.2.2.2.2.2.2.2.2.2.2.2.length=e
 generalize B2 x.2.2.2.2.2.2.2.1 0 x.2.2.2.2.2.2.2.1.length=f
 generalize (decide (0<=x.2.2.2.2.2.2.2.2.1)&&decide (x.2.2.2.2.2.2.2.2.1<=900))=g
 generalize (Iz x.2.2.2.2.2.2.2.2.2||E9 x.2.2.2.2.2.2.2.2.2 x.2.2.2.2.2.1)=t
 generalize (!x.2.2.2.2.2.1||(x.2.2.2.1&&x.2.2.2.2.1&&!decide ((x.2.2.2.2.2.2.1.length:Int)>0)))=p
 generalize (!x.2.2.1||(!x.2.2.2.1&&!x.2.2.2.2.1))=q
 cases a
 ·simp
 cases b
 ·simp
 cases d<;>cases e<;>cases f<;>cases g<;>cases p<;>cases q<;>simp)

abbrev BK:Type:=Int×Int×Int×Int×Int×List (ByteArray×ByteArray×Int)
def Tz (x:BK):Bool :=
 (decide (1<=x.1)&&decide (x.1<=8))&&(decide (1<=x.2.1)&&decide (x.2.1<=6))&&(decide (1<=x.2.2.1)&&decide (x.2.2.1<=6))&&(decide (1<=x.2.2.2.1)&&decide (x.2.2.2.1<=9))&&(decide (0<=x.2.2.2.2.1)&&decide (x.2.2.2.2.1<=1000000000))&&B2 x.2.2.2.2.2 0 x.2.2.2.2.2.length &&
  (if x.1=2\/x.1=3 then true else if x.1=5 then ((x.2.2.2.2.2.length:Int)==1) else ((x.2.2.2.2.2.length:Int)==0))
theorem jd (x:BK) (h:x.2.2.2.2.2.length<=maxLen):Ub x=some (Tz x):=pD (by
 have w1:∀ a b,JW a b x=some (if b=true then true else if a=5 then ((x.2.2.2.2.2.length:Int)==1) else ((x.2.2.2.2.2.length:Int)==0)):=fun a b=>jT (by
  unfold WO
  by_cases h1:b=true<;>by_cases h2:a=5<;>simp [h1,h2])
 have w0:∀ b,N9 b x=some (if x.1=2\/x.1=3 then true else if x.1=5 then ((x.2.2.2.2.2.length:Int)==1) else ((x.2.2.2.2.2.length:Int)==0)):=fun b=>jU (by
  unfold WP
  by_cases h1:x.1=2<;>by_cases h2:x.1=3<;>simp [h1,h2,w1])
 unfold dM Tz
 simp only [At,Hh _ h,X,w0]
 generalize (decide (1<=x.1)&&decide (x.1<=8))=a
 generalize (decide (1<=x.2.1)&&decide (x.2.1<=6))=b
 generalize (decide (1<=x.2.2.1)&&decide (x.2.2.1<=6))=c
 generalize (decide (1<=x.2.2.2.1)&&decide (x.2.2.2.1<=9))=d
 generalize (decide (0<=x.2.2.2.2.1)&&decide (x.2.2.2.2.1<=1000000000))=e
 generalize B2 x.2.2.2.2.2 0 x.2.2.2.2.2.length=f
 cases a<;>cases b<;>cases c<;>cases d<;>cases e<;>cases f<;>simp)
theorem je (x:BK) (h:x.2.2.2.2.2.length<=maxLen):Ua x=some (Tz x):=pC (by
 have w1:∀ a b,JV a b x=some (if b=true then true else if a=5 then ((x.2.2.2.2.2.length:Int)==1) else ((x.2.2.2.2.2.length:Int)==0)):=fun a b=>jJ (by
  unfold WL
  by_cases h1:b=true<;>by_cases h2:a=5<;>simp [h1,h2])
 have w0:∀ b,N8 b x=some (if x.1=2\/x.1=3 then true else if x.1=5 then ((x.2.2.2.2.2.length:Int)==1) else ((x.2.2.2.2.2.length:Int)==0)):=fun b=>jK (by
  unfold WM
  by_cases h1:x.1=2<;>by_cases h2:x.1=3<;>simp [h1,h2,w1])
 unfold dE Tz
 simp only [Ao,GZ,Ll _ h Nc,X,w0]
 generalize (decide (1<=x.1)&&decide (x.1<=8))=a
 generalize (decide (1<=x.2.1)&&decide (x.2.1<=6))=b
 generalize (decide (1<=x.2.2.1)&&decide (x.2.2.1<=6))=c
 generalize (decide (1<=x.2.2.2.1)&&decide (x.2.2.2.1<=9))=d
 generalize (decide (0<=x.2.2.2.2.1)&&decide (x.2.2.2.2.1<=1000000000))=e
 generalize B2 x.2.2.2.2.2 0 x.2.2.2.2.2.length=f
 cases a<;>cases b<;>cases c<;>cases d<;>cases e<;>cases f<;>simp)

abbrev Cn:Type:=Int×Int×Int×AL
def w6 (v:List Int):Prop:=(∀ a∈v,1<=a/\a<=6)/\v.Pairwise (· < ·)
theorem mO {v:List Int}:∀ (m i:Nat),i+m=v.length->(E8 v i m=true↔∀ a (ha:a<v.length),i<=a->(1<=v[a]/\v[a]<=6)/\(a≠0->v.getD (a-1) 0<v[a]))
 | 0,i,h=>by
  simp only [E8,true_iff]
  intro a ha hi
  omega
 | m+1,i,h=>by
  have hi:i<v.length:=by omega
  rw [E8,Bool.and_eq_true,Bool.and_eq_true,mO m (i+1) (by omega),AU hi]
  simp only [Bool.or_eq_true,Bool.and_eq_true,decide_eq_true_eq]
  constructor
  ·rintro ⟨⟨h1,h2⟩,h3⟩ a ha hia
   by_cases e:a=i
   ·subst e
    exact ⟨h1,fun h0=>h2.resolve_left h0⟩
   ·exact h3 a ha (by omega)
  ·intro h3
   refine ⟨⟨(h3 i hi (Nat.le_refl _)).1,?_⟩,fun a ha hia=>h3 a ha (by omega)⟩
   by_cases e:i=0
   ·exact .inl e
   ·exact .inr ((h3 i hi (Nat.le_refl _)).2 e)
theorem vj {v:List Int}:E8 v 0 v.length=true↔w6 v:=by
 rw [mO _ _ (by omega)]
 constructor
 ·intro h
  refine ⟨fun a ha=>?_,?_⟩
  ·obtain ⟨i,hi,rfl⟩:=List.getElem_of_mem ha
   exact (h i hi (Nat.zero_le _)).1
  ·have st:∀ d a (ha:a+d+1<v.length),v.getD a 0<v.getD (a+d+1) 0:=by
    intro d
    induction d with
    | zero =>
     intro a ha
     have:=(h (a+1) (by omega) (Nat.zero_le _)).2 (by omega)
     rw [AU (show a+0+1<v.length from ha)]
     simpa using this
    | succ d ih =>
     intro a ha
     have h1:=ih a (by omega)
     have h2:=(h (a+(d+1)+1) ha (Nat.zero_le _)).2 (by omega)
     rw [AU ha]
     simp only [Nat.add_sub_cancel] at h2
     have h3:v.getD (a+d+1) 0<v[a+(d+1)+1]:=h2
     omega
   rw [List.pairwise_iff_getElem]
   intro i j hi hj hij
   have:=st (j-i-1) i (by omega)
   rw [show i+(j-i-1)+1=j by omega,AU hi,AU hj] at this
   exact this
 ·rintro ⟨h1,h2⟩ a ha _
  refine ⟨h1 _ (List.getElem_mem ha),fun h0=>?_⟩
  rw [AU (show a-1<v.length by omega)]
  exact (List.pairwise_iff_getElem.1 h2) (a-1) a (by omega) ha (by omega)
theorem rX {v:List Int} (h:w6 v):v.length<=6:=by
 have hs:v.Sublist [1,2,3,4,5,6]:=by
  have key:∀ (l:List Int) (n:Nat),n<=6->(∀ a∈l,(6-n:Int)<a/\a<=6)->l.Pairwise (· < ·)->l.length<=n:=by
   intro l
   induction l with
   | nil=>intro n _ _ _; simp
   | cons a l ih =>
    intro n hn hb hp
    have ha:=hb a (by simp)
    have hp2:=List.pairwise_cons.1 hp
    have:=ih ((6-a).toNat) (by omega) (fun b hb'=>⟨by have:=hp2.1 b hb'; omega,(hb b (by simp [hb'])).2⟩) hp2.2
    simp only [List.length_cons]
    omega
  have hl:=key v 6 (by omega) (fun a ha=>by have:=h.1 a ha; omega) h.2
  exact List.Sublist.trans (List.Sublist.refl v) (by
   have:∀ (l:List Int) (s:List Int),s.Pairwise (· < ·)->l.Pairwise (· < ·)->(∀ a∈l,a∈s)->l.Sublist s:=by
    intro l s
    induction s generalizing l with
    | nil =>
     intro _ _ hm
     cases l with
     | nil=>exact List.Sublist.slnil
     | cons a l=>exact absurd (hm a (by simp)) (by simp)
    | cons b s ih =>
     intro hs hl hm
     cases l with
     | nil=>exact List.nil_sublist _
     | cons a l =>
      have hs2:=List.pairwise_cons.1 hs
      have hl2:=List.pairwise_cons.1 hl
      rcases List.mem_cons.1 (hm a (by simp)) with e | e
      ·subst e
       refine (ih l hs2.2 hl2.2 fun c hc=>?_).cons_cons _
       rcases List.mem_cons.1 (hm c (by simp [hc])) with e | e
       ·have:=hl2.1 c hc; omega
       ·exact e
      ·refine (ih (a::l) hs2.2 hl fun c hc=>?_).cons _
       rcases List.mem_cons.1 (hm c hc) with e2 | e2
       ·have h1:=hs2.1 a e
        rcases List.mem_cons.1 hc with e3 | e3
        ·omega
        ·have:=hl2.1 c e3; omega
       ·exact e2
   refine this v [1,2,3,4,5,6] (by decide) h.2 fun a ha=>?_
   have:=h.1 a ha
   have h5:a=1\/a=2\/a=3\/a=4\/a=5\/a=6:=by omega
   rcases h5 with h | h | h | h | h | h<;>simp [h])
 simpa using hs.length_le
structure Ih (m:AA):Prop where
 id:1<=m.1/\m.1<=6
 ep:1<=m.2.1/\m.2.1<=9
 serves:m.2.2.2.2.2.1=true->m.2.2.2.1=true/\m.2.2.2.2.1=true/\m.2.2.2.2.2.2.1=[]
 fell:m.2.2.1=true->m.2.2.2.1=false/\m.2.2.2.2.1=false
 waits:w6 m.2.2.2.2.2.2.1
 left:w6 m.2.2.2.2.2.2.2.2.2.2.2.2.2
 items:Ap m.2.2.2.2.2.2.2.1=true
 count:0<=m.2.2.2.2.2.2.2.2.1/\m.2.2.2.2.2.2.2.2.1<=900
 task:Iz m.2.2.2.2.2.2.2.2.2=true\/E9 m.2.2.2.2.2.2.2.2.2 m.2.2.2.2.2.1=true
theorem rY {m:AA}:Tx m=true↔Ih m:=by
 unfold Tx
 simp only [Bool.and_eq_true,Bool.or_eq_true,Bool.not_eq_true',decide_eq_true_eq,vj,decide_eq_false_iff_not]
 constructor
 ·rintro ⟨⟨⟨⟨⟨⟨⟨⟨h1,h2⟩,h3⟩,h4⟩,h5⟩,h6⟩,h7⟩,h8⟩,h9⟩
  refine ⟨h1,h2,fun h=>?_,fun h=>?_,h5,h6,h7,h8,h9⟩
  ·rcases h3 with h3 | ⟨⟨a,b⟩,c⟩
   ·rw [h] at h3; cases h3
   ·exact ⟨a,b,List.length_eq_zero_iff.1 (by omega)⟩
  ·rcases h4 with h4 | h4
   ·rw [h] at h4; cases h4
   ·exact h4
 ·rintro ⟨h1,h2,h3,h4,h5,h6,h7,h8,h9⟩
  refine ⟨⟨⟨⟨⟨⟨⟨⟨h1,h2⟩,?_⟩,?_⟩,h5⟩,h6⟩,h7⟩,h8⟩,h9⟩
  ·cases hs:m.2.2.2.2.2.1 with
   | false=>exact .inl rfl
   | true =>
    obtain ⟨a,b,c⟩:=h3 hs
    exact .inr ⟨⟨a,b⟩,by rw [c]; simp⟩
  ·cases hs:m.2.2.1 with
   | false=>exact .inl rfl
   | true=>exact .inr (h4 hs)
theorem KM {x:List AL} (h:Ap x=true):x.length<=12:=(Cd.1 h).2.2
theorem Ih.lens {m:AA} (h:Ih m):m.2.2.2.2.2.2.1.length<=6/\m.2.2.2.2.2.2.2.1.length<=12/\m.2.2.2.2.2.2.2.2.2.2.2.2.2.length<=6:=⟨rX h.waits,KM h.items,rX h.left⟩
theorem dZ (m:AA) (h1:m.2.2.2.2.2.2.1.length<=68719476736) (h2:m.2.2.2.2.2.2.2.1.length<=68719476736) (h3:m.2.2.2.2.2.2.2.2.2.2.2.2.2.length<=68719476736):C7 m=some m:=lr (by
 unfold Xv
 rw [if_pos (by simpa using h1),if_pos (by simpa using h2),if_pos (by simpa using h3)]
 rfl)
theorem Ih.copy {m:AA} (h:Ih m):C7 m=some m:=by
 obtain ⟨h1,h2,h3⟩:=h.lens
 exact dZ m (by omega) (by omega) (by omega)
def DE (view:List Int) (id:Int):List Int:=[1,2,3,4,5,6].filter fun v=>v != id&&view.contains v
theorem Ul (view:List Int) (id:Int):w6 (DE view id):=by
 refine ⟨fun a ha=>?_,List.Pairwise.filter _ (by decide)⟩
 have:=(List.mem_filter.1 ha).1
 simp at this
 omega
theorem I0 (view:List Int) (id:Int) (h:view.length<=maxLen):GO view id=some (DE view id):=fp (by
 unfold Te
 have step:∀ (v:Nat) (acc r:List Int),v<=6->1<=v->acc.length<=6->CD view id ((v+1:Nat):Int) (if ((v:Int) != id&&view.contains (v:Int))=true then acc++[(v:Int)] else acc)=some r->CD view id (v:Int) acc=some r:=by
  intro v acc r hv hv1 ha hr
  refine Oh ?_
  unfold Ix
  rw [if_pos (by simp; omega),AR (show v<9223372036854775807 by omega),Ck view _ h]
  by_cases h1:((v:Int) != id)=true
  ·rw [if_pos h1,X]
   by_cases h2:view.contains (v:Int)=true
   ·rw [if_pos h2,if_pos (by simp; omega)]
    rw [if_pos (by rw [h1,h2]; rfl)] at hr
    exact hr
   ·rw [if_neg h2]
    rw [if_neg (fun hc=>h2 (by simp only [Bool.and_eq_true] at hc; exact hc.2))] at hr
    exact hr
  ·rw [if_neg h1]
   rw [if_neg (fun hc=>h1 (by simp only [Bool.and_eq_true] at hc; exact hc.1))] at hr
   exact hr
 have fin:∀ acc,CD view id ((7:Nat):Int) acc=some acc:=fun acc=>Oh (by
  unfold Ix
  rw [if_neg (by decide)])
 have g:∀ (acc:List Int) (v:Int),(if (v != id&&view.contains v)=true then acc++[v] else acc).length<=acc.length+1:=by
  intro acc v; split<;>simp
 refine step 1 [] _ (by omega) (by omega) (by simp) ?_
 refine step 2 _ _ (by omega) (by omega) (by have:=g [] ((1:Nat):Int); simp only [List.length_nil] at this; omega) ?_
 have l2:=g [] ((1:Nat):Int)
 generalize e1:(if (((1:Nat):Int) != id&&view.contains ((1:Nat):Int))=true then ([]:List Int)++[((1:Nat):Int)] else [])=a1 at l2 ⊢
 have l3:=g a1 ((2:Nat):Int)
 generalize e2:(if (((2:Nat):Int) != id&&view.contains ((2:Nat):Int))=true then a1++[((2:Nat):Int)] else a1)=a2 at l3 ⊢
 have l4:=g a2 ((3:Nat):Int)
 simp only [List.length_nil] at l2
 refine step 3 _ _ (by omega) (by omega) (by omega) ?_
 generalize e3:(if (((3:Nat):Int) != id&&view.contains ((3:Nat):Int))=true then a2++[((3:Nat):Int)] else a2)=a3 at l4 ⊢
 have l5:=g a3 ((4:Nat):Int)
 refine step 4 _ _ (by omega) (by omega) (by omega) ?_
 generalize e4:(if (((4:Nat):Int) != id&&view.contains ((4:Nat):Int))=true then a3++[((4:Nat):Int)] else a3)=a4 at l5 ⊢
 have l6:=g a4 ((5:Nat):Int)
 refine step 5 _ _ (by omega) (by omega) (by omega) ?_
 generalize e5:(if (((5:Nat):Int) != id&&view.contains ((5:Nat):Int))=true then a4++[((5:Nat):Int)] else a4)=a5 at l6 ⊢
 refine step 6 _ _ (by omega) (by omega) (by omega) ?_
 rw [fin]
 congr 1
 unfold DE
 have fl:∀ (p:Int->Bool) (v:Int) (l:List Int),(v::l).filter p=(if p v=true then [v] else [])++l.filter p:=by
  intro p v l; rw [List.filter_cons]; split<;>simp
 have ap:∀ (c:Bool) (a:List Int) (v:Int),(if c=true then a++[v] else a)=a++(if c=true then [v] else []):=by
  intro c a v; split<;>simp
 rw [ap,<- e5,ap,<- e4,ap,<- e3,ap,<- e2,ap,<- e1,ap]
 simp only [fl,List.filter_nil,List.append_nil,List.nil_append,List.append_assoc]
 rfl)
theorem mP {v:List Int} (h:w6 v) (p:Int->Bool):w6 (v.filter p):=⟨fun a ha=>h.1 a (List.mem_filter.1 ha).1,h.2.filter p⟩
theorem Ng (v:List Int) (x:Int) (h:v.length<=68719476736):HS v x=some (v.filter (· != x)):=dQ (by
 unfold Rv
 have key:=GY (n:=v.length) (P:=fun i=>∀ acc:List Int,acc.length<=i->Dx v x (i:Int) acc=some (acc++(v.drop i).filter (· != x))) (fun acc ha=>Na (by
  unfold Hw
  rw [if_neg (by simp)]
  simp)) (fun i hi ih acc ha=>Na (by
  unfold Hw
  simp only [show ((i:Int)<(v.length:Int)) from by omega,decide_true,if_true,show (0:Int)<=(i:Int) from by omega,Int.toNat_natCast,AU hi,AR (show i<9223372036854775807 by omega)]
  rw [BU hi,List.filter_cons]
  by_cases hh:(v[i] != x)=true
  ·rw [if_pos hh,if_pos (by simp; omega),ih _ (by simp; omega),if_pos hh,List.append_assoc]
   rfl
  ·rw [if_neg hh,ih _ (by omega),if_neg hh])) 0 (by omega) [] (by simp)
 simpa using key)

def Bu (view:List Int) (id:Int):List Int:=view.filter (· != id)
def QV (m:AA) (view:List Int) (its:List AL):AA :=
 (m.1,m.2.1,m.2.2.1,true,m.2.2.2.2.1,(((DE view m.1).length:Int)==0),DE view m.1,its,m.2.2.2.2.2.2.2.2)
def T0 (m:AA) (e:Int):AA :=
 (m.1,e,false,false,false,false,([]:List Int),m.2.2.2.2.2.2.2.1,(0:Int),(0:Int),(0:Int),(0:Int),(ByteArray.empty,ByteArray.empty,(0:Int)),([]:List Int))
def EA (m:AA) (x:BK) (k:Int):List BK:=[(k,m.1,x.2.1,x.2.2.2.1,x.2.2.2.2.1,([]:List AL))]
def Mv (m:AA) (its:List AL):AA :=
 (m.1,m.2.1,m.2.2.1,m.2.2.2.1,m.2.2.2.2.1,m.2.2.2.2.2.1,m.2.2.2.2.2.2.1,its,m.2.2.2.2.2.2.2.2.1,(0:Int),(0:Int),(0:Int),(ByteArray.empty,ByteArray.empty,(0:Int)),([]:List Int))
def Bm (m:AA):List Cn×AA :=
 if (m.2.2.2.2.2.2.2.2.2.1==1)=true then ([(m.2.2.2.2.2.2.2.2.2.2.1,m.2.1,m.2.2.2.2.2.2.2.2.2.2.2.1,m.2.2.2.2.2.2.2.2.2.2.2.2.1)],Mv m (Ai m.2.2.2.2.2.2.2.1 m.2.2.2.2.2.2.2.2.2.2.2.2.1))
 else ([(m.2.2.2.2.2.2.2.2.2.2.1,m.2.1,m.2.2.2.2.2.2.2.2.2.2.2.1,BB m.2.2.2.2.2.2.2.1 m.2.2.2.2.2.2.2.2.2.2.2.2.1.1)],Mv m m.2.2.2.2.2.2.2.1)
theorem T1 (view:List Int) (its:List AL) (m:AA) (h:view.length<=68719476736) (hi:its.length<=68719476736) :
  M7 view its m=some ((Bu view m.1).map (fun v=>(3,m.1,v,m.2.1,0,its)),QV m view its):=nK (by
 unfold ZU
 rw [if_pos (by simpa using hi),I0 view _ (by unfold maxLen; omega),X]
 have key:=GY (n:=view.length) (P:=fun i=>∀ acc:List BK,acc.length<=i->GT view its (i:Int) (QV m view its) acc ([]++its)=some (acc++((view.drop i).filter (· != m.1)).map (fun v=>((3:Int),m.1,v,m.2.1,(0:Int),its)),QV m view its)) (fun acc ha=>Tg (by
  unfold Mk
  rw [if_neg (by simp)]
  simp)) (fun i hi2 ih acc ha=>Tg (by
  unfold Mk
  simp only [show ((i:Int)<(view.length:Int)) from by omega,decide_true,if_true,show (0:Int)<=(i:Int) from by omega,Int.toNat_natCast,AU hi2,AR (show i<9223372036854775807 by omega)]
  rw [show (QV m view its).1=m.1 from rfl,show (QV m view its).2.1=m.2.1 from rfl,BU hi2,List.filter_cons]
  by_cases hh:(view[i] != m.1)=true
  ·rw [if_pos hh,if_pos (by simpa using hi),if_pos (by simp; omega),ih _ (by simp; omega),if_pos hh,List.map_cons,List.append_assoc]
   rfl
  ·rw [if_neg hh,ih _ (by omega),if_neg hh])) 0 (by omega) [] (by simp)
 exact key)
theorem Rz (m:AA) (e:Int) (h:m.2.2.2.2.2.2.2.1.length<=68719476736):LB m e=some (T0 m e):=mG (by
 unfold X7
 rw [if_pos (by simpa using h)]
 rfl)
theorem G1 (m:AA) (x:BK) (k:Int):D6 m x k=some (EA m x k):=jW rfl
theorem I1 (m:AA) (h:m.2.2.2.2.2.2.2.1.length<=34359738367):GP m=some (Bm m):=fq (by
 unfold Tf Bm
 rw [Ln _ _ h,Tt _ _ (by unfold maxLen; omega)]
 split<;>rfl)
def nt (m:AA) (f:Int):AA :=
 (m.1,m.2.1,m.2.2.1,m.2.2.2.1,m.2.2.2.2.1,m.2.2.2.2.2.1,m.2.2.2.2.2.2.1,m.2.2.2.2.2.2.2.1,m.2.2.2.2.2.2.2.2.1,m.2.2.2.2.2.2.2.2.2.1,m.2.2.2.2.2.2.2.2.2.2.1,m.2.2.2.2.2.2.2.2.2.2.2.1,m.2.2.2.2.2.2.2.2.2.2.2.2.1,m.2.2.2.2.2.2.2.2.2.2.2.2.2.filter (· != f))
def Ft (m:AA) (f:Int):AA×List BK×List Cn :=
 if (((m.2.2.2.2.2.2.2.2.2.2.2.2.2.filter (· != f)).length:Int)==0)=true then ((Bm (nt m f)).2,[],(Bm (nt m f)).1) else (nt m f,[],[])
def YI (m:AA) (view:List Int) (x:BK):AA×List BK×List Cn :=
 if x.1=2 then (if (m.2.2.2.2.1&&!m.2.2.2.1)=true then (QV m view x.2.2.2.2.2,(Bu view m.1).map (fun v=>(3,m.1,v,m.2.1,0,x.2.2.2.2.2)),[]) else (m,[],[]))
 else if x.1=3 then (if (!view.contains m.1||(view.getD 0 0==m.1))=true then (m,[],[]) else if (!m.2.2.2.1&&m.2.2.1)=true then (m,[],[])
  else if m.2.2.2.1=true then (m,EA m x 4,[]) else
   ((m.1,m.2.1,false,true,false,false,([]:List Int),x.2.2.2.2.2,(0:Int),(0:Int),(0:Int),(0:Int),(ByteArray.empty,ByteArray.empty,(0:Int)),([]:List Int)),EA m x 4,[]))
 else if x.1=4 then (if m.2.2.2.2.1=true then
   ((m.1,m.2.1,m.2.2.1,m.2.2.2.1,m.2.2.2.2.1,m.2.2.2.1&&(((m.2.2.2.2.2.2.1.filter (· != x.2.1)).length:Int)==0),m.2.2.2.2.2.2.1.filter (· != x.2.1),m.2.2.2.2.2.2.2),[],[]) else (m,[],[]))
 else if x.1=5 then (if m.2.2.2.1=true then
   ((m.1,m.2.1,m.2.2.1,m.2.2.2.1,m.2.2.2.2.1,m.2.2.2.2.2.1,m.2.2.2.2.2.2.1,Ai m.2.2.2.2.2.2.2.1 (x.2.2.2.2.2.getD 0 (ByteArray.empty,ByteArray.empty,(0:Int))),m.2.2.2.2.2.2.2.2),EA m x 6,[]) else (m,[],[]))
 else if x.1=7 then (if m.2.2.2.1=true then (m,EA m x 8,[]) else (m,[],[]))
 else if (x.1=6\/x.1=8)/\m.2.2.2.2.2.2.2.2.2.1=(if x.1=8 then 2 else 1)/\m.2.2.2.2.2.2.2.2.2.2.2.1=x.2.2.2.2.1 then
  (Ft m x.2.1)
 else (m,[],[])
theorem gN (m:AA) (view:List Int) (x:BK) (hm:Ih m) (hv:view.length<=68719476736) (hv0:0<view.length) (hx:x.2.2.2.2.2.length<=68719476736) (h5:x.1=5->0<x.2.2.2.2.2.length) :
  R9 m view x=some (YI m view x):=nL (by
 obtain ⟨l1,l2,l3⟩:=hm.lens
 unfold ZV
 rw [hm.copy,X]
 unfold YI
 by_cases k2:x.1=2
 ·rw [if_pos (by simpa using k2),if_pos k2]
  have J:∀ b y,Ic view [] [] b m x y m=some (if b=true then (QV m view x.2.2.2.2.2,(Bu view m.1).map (fun v=>(3,m.1,v,m.2.1,0,x.2.2.2.2.2)),[]) else (m,[],[])):=fun b y=>fw (by
   unfold Th
   cases b
   ·rfl
   ·rw [if_pos rfl,T1 view _ m hv hx]
    rfl)
  rw [J,J]
  cases m.2.2.2.2.1<;>cases m.2.2.2.1<;>rfl
 ·rw [if_neg (by simpa using k2),if_neg k2]
  by_cases k3:x.1=3
  ·rw [if_pos (by simpa using k3),if_pos k3,Ck view _ (by unfold maxLen; omega),X]
   have J2:∀ b y,Id [] [] b m x y m=some (if m.2.2.2.1=true then (m,EA m x 4,[]) else
     ((m.1,m.2.1,false,true,false,false,([]:List Int),x.2.2.2.2.2,(0:Int),(0:Int),(0:Int),(0:Int),(ByteArray.empty,ByteArray.empty,(0:Int)),([]:List Int)),EA m x 4,[])):=fun b y=>f5 (by
    unfold Ti
    rw [Rz m _ (by omega),G1,X,X]
    have hx':([]:List AL).length+x.2.2.2.2.2.length<=68719476736:=by simpa using hx
    cases m.2.2.2.1
    ·rw [if_pos (show (!false)=true from rfl),if_pos hx']; rfl
    ·rfl)
   have J1:∀ b y,Ml [] [] b m x y m=some (if (!m.2.2.2.1&&m.2.2.1)=true then (m,[],[]) else if m.2.2.2.1=true then (m,EA m x 4,[]) else
     ((m.1,m.2.1,false,true,false,false,([]:List Int),x.2.2.2.2.2,(0:Int),(0:Int),(0:Int),(0:Int),(ByteArray.empty,ByteArray.empty,(0:Int)),([]:List Int)),EA m x 4,[])):=fun b y=>f7 (by
    unfold Tj
    rw [J2,J2]
    cases m.2.2.2.1<;>cases m.2.2.1<;>rfl)
   rw [show view.getD (0:Int).toNat 0=view.getD 0 0 from rfl]
   cases view.contains m.1
   ·rfl
   ·rw [if_neg (by simp),if_pos (by omega),if_pos (by omega),J1]
    cases (view.getD 0 0==m.1)<;>rfl
  ·rw [if_neg (by simpa using k3),if_neg k3]
   by_cases k4:x.1=4
   ·rw [if_pos (by simpa using k4),if_pos k4,Ng _ _ (by omega),X]
    cases m.2.2.2.2.1<;>cases m.2.2.2.1<;>rfl
   ·rw [if_neg (by simpa using k4),if_neg k4]
    by_cases k5:x.1=5
    ·have:=h5 k5
     rw [if_pos (by simpa using k5),if_pos k5,Ln _ _ (by omega),X,G1,X,show x.2.2.2.2.2.getD (0:Int).toNat (ByteArray.empty,ByteArray.empty,(0:Int))=x.2.2.2.2.2.getD 0 (ByteArray.empty,ByteArray.empty,(0:Int)) from rfl]
     cases m.2.2.2.1
     ·rfl
     ·rw [if_pos rfl,if_pos rfl,if_pos (by omega),if_pos (by omega)]
    ·rw [if_neg (by simpa using k5),if_neg k5]
     by_cases k7:x.1=7
     ·rw [if_pos (by simpa using k7),if_pos k7,G1,X]
      cases m.2.2.2.1<;>rfl
     ·rw [if_neg (by simpa using k7),if_neg k7]
      have J5:∀ b y,Mm [] [] b m x y m=some (Ft m x.2.1):=fun b y=>f8 (by
       unfold Tk
       rw [Ng _ _ (by omega),X,I1 _ (by simp only; omega),X]
       unfold Ft
       split<;>rfl)
      have J4:∀ op y,Ie [] [] op m x y m=some (if m.2.2.2.2.2.2.2.2.2.1=op/\m.2.2.2.2.2.2.2.2.2.2.2.1=x.2.2.2.2.1 then (Ft m x.2.1) else (m,[],[])):=fun op y=>f9 (by
       unfold Tl
       rw [J5]
       by_cases h1:m.2.2.2.2.2.2.2.2.2.1=op
       ·rw [if_pos (by simp [h1])]
        by_cases h2:m.2.2.2.2.2.2.2.2.2.2.2.1=x.2.2.2.2.1
        ·rw [if_neg (by simp [h2]),if_pos (show _/\_ from ⟨h1,h2⟩)]
        ·rw [if_pos (by simp [h2]),if_neg (show ¬(_/\_) from fun h=>h2 h.2)]
       ·rw [if_neg (by simp [h1]),if_neg (fun h=>h1 h.1)])
      have J3:∀ b y,If [] [] b m x y m=some (if b=true/\m.2.2.2.2.2.2.2.2.2.1=(if x.1=8 then 2 else 1)/\m.2.2.2.2.2.2.2.2.2.2.2.1=x.2.2.2.2.1 then (Ft m x.2.1) else (m,[],[])):=fun b y=>f_ (by
       unfold Tm
       rw [J4,J4]
       cases b
       ·rw [if_neg (by simp),if_neg (by simp)]
       ·rw [if_pos rfl]
        by_cases k8:x.1=8
        ·simp only [k8,beq_self_eq_true,if_true,true_and]
        ·rw [if_neg (by simpa using k8)]
         simp only [k8,if_false,true_and])
      rw [J3,J3]
      by_cases k6:x.1=6
      ·simp only [k6,beq_self_eq_true,if_true,true_and,true_or]
      ·rw [if_neg (by simpa using k6)]
       simp only [k6,false_or,beq_iff_eq])
structure QK (views:List (List Int)):Prop where
 ok:Ep views views.length views=true
theorem JF {n:Nat}:∀ {l:List (List Int)} {x:List (List Int)},Ep x n l=true↔(∀ v∈l,Uk v=true)/\1<=n/\n<=9
 | [],x=>by simp [Ep]; omega
 | v::l,x=>by
  rw [Ep,Bool.and_eq_true,JF]
  simp [and_assoc]
theorem QK.len {views:List (List Int)} (h:QK views):1<=views.length/\views.length<=9:=(JF.1 h.ok).2
theorem QK.view {views:List (List Int)} (h:QK views) {v:List Int} (hv:v∈views):1<=v.length/\v.length<=4:=by
 have:=(JF.1 h.ok).1 v hv
 unfold Uk at this
 simp only [Bool.and_eq_true,decide_eq_true_eq] at this
 omega
theorem QK.get {views:List (List Int)} (h:QK views) {i:Nat} (hi:i<views.length):1<=(views.getD i []).length/\(views.getD i []).length<=4:=by
 rw [AU hi]
 exact h.view (List.getElem_mem hi)
theorem Fu {views:List (List Int)} (h:QK views):Dw views=some true:=by
 rw [dX views (by have:=h.len; unfold maxLen; omega) (fun a ha=>by have:=h.view ha; unfold maxLen; omega),h.ok]
theorem Jy {m:AA} (h:Ih m):FR m=some true:=by
 obtain ⟨h1,h2,h3⟩:=h.lens
 rw [aa m (by unfold maxLen; omega) (by unfold maxLen; omega) (by unfold maxLen; omega),rY.2 h]
def DF (m:AA) (views:List (List Int)) (x:BK):AA×List BK×List Cn :=
 if (Tz x&&(x.2.2.1==m.1)&&decide (m.2.1<=x.2.2.2.1)&&decide (x.2.2.2.1<=(views.length:Int)))=true then
  if x.2.2.2.1=m.2.1 then YI m (views.getD (m.2.1-1).toNat []) x
  else if (x.1==1&&(x.2.2.2.1==m.2.1+1)&&m.2.2.2.1&&(views.getD (m.2.1-1).toNat []).contains m.1)=true then (T0 m x.2.2.2.1,[(2,m.1,x.2.1,x.2.2.2.1,0,m.2.2.2.2.2.2.2.1)],[])
  else if (x.1==3&&(views.getD (x.2.2.2.1-1).toNat []).contains m.1&&((views.getD (x.2.2.2.1-1).toNat []).getD 0 0 != m.1))=true then
   ((m.1,x.2.2.2.1,false,true,false,false,([]:List Int),x.2.2.2.2.2,(0:Int),(0:Int),(0:Int),(0:Int),(ByteArray.empty,ByteArray.empty,(0:Int)),([]:List Int)),EA m x 4,[])
  else (m,[],[])
 else (m,[],[])
theorem vk {x:BK} (h:Tz x=true):x.2.2.2.2.2.length<=12/\(x.1=5->x.2.2.2.2.2.length=1):=by
 unfold Tz at h
 simp only [Bool.and_eq_true] at h
 refine ⟨KM (x:=x.2.2.2.2.2) h.1.2,fun h5=>?_⟩
 have:=h.2
 rw [if_neg (by omega),if_pos h5] at this
 simp only [beq_iff_eq] at this
 omega
theorem da (m:AA) (views:List (List Int)) (x:BK) (hm:Ih m) (hv:QK views) (hx:x.2.2.2.2.2.length<=68719476736) :
  Pn m views x=some (DF m views x):=mA (by
 have hvl:=hv.len
 have hep:=hm.ep
 unfold X2 DF
 rw [hm.copy,X,Jy hm,X,if_pos (by rfl),Fu hv,X,if_pos (by rfl),jd x (by unfold maxLen; omega),X]
 cases hmo:Tz x with
 | false=>rfl
 | true =>
  obtain ⟨xl,x5⟩:=vk hmo
  rw [if_pos (by rfl)]
  by_cases h1:x.2.2.1=m.1
  ·rw [if_pos (by simp [h1])]
   by_cases h2:x.2.2.2.1<m.2.1
   ·rw [if_neg (by simpa using h2),if_neg (by simp; omega)]
   ·rw [if_pos (by simpa using h2)]
    by_cases h3:x.2.2.2.1>(views.length:Int)
    ·rw [if_neg (by simpa using h3),if_neg (by simp; omega)]
    ·rw [if_pos (by simpa using h3),if_neg (by simp; omega),if_pos (by simp [h1]; omega)]
     have wm:IntKind.i64.wrap (m.2.1-1)=m.2.1-1:=Aa (by omega)
     have wp:IntKind.i64.wrap (m.2.1+1)=m.2.1+1:=Aa (by omega)
     have wx:IntKind.i64.wrap (x.2.2.2.1-1)=x.2.2.2.1-1:=Aa (by omega)
     have g1:=hv.get (i:=(m.2.1-1).toNat) (by omega)
     have g2:=hv.get (i:=(x.2.2.2.1-1).toNat) (by omega)
     have J3:∀ b y,Fo [] [] b m x y m=some (if b=true then ((m.1,x.2.2.2.1,false,true,false,false,([]:List Int),x.2.2.2.2.2,(0:Int),(0:Int),(0:Int),(0:Int),(ByteArray.empty,ByteArray.empty,(0:Int)),([]:List Int)),EA m x 4,[]) else (m,[],[])):=fun b y=>dA (by
      unfold Ri
      cases b
      ·rfl
      ·rw [if_pos rfl,if_pos (by simpa using hx),G1]
       rfl)
     have J2:∀ b y,Lb views [] [] b m x y m=some (if (x.1==3&&(views.getD (x.2.2.2.1-1).toNat []).contains m.1&&((views.getD (x.2.2.2.1-1).toNat []).getD 0 0 != m.1))=true then
       ((m.1,x.2.2.2.1,false,true,false,false,([]:List Int),x.2.2.2.2.2,(0:Int),(0:Int),(0:Int),(0:Int),(ByteArray.empty,ByteArray.empty,(0:Int)),([]:List Int)),EA m x 4,[]) else (m,[],[])):=fun b y=>dB (by
      unfold Rj
      rw [wx,if_pos (by omega),if_pos (by omega),Ck _ _ (by unfold maxLen; omega),X,show (views.getD (x.2.2.2.1-1).toNat ([]:List Int)).getD (0:Int).toNat 0=(views.getD (x.2.2.2.1-1).toNat []).getD 0 0 from rfl]
      simp only [J3]
      rw [if_pos (show (0:Int)<=0 by omega),if_pos (show (0:Int)<((views.getD (x.2.2.2.1-1).toNat ([]:List Int)).length:Int) by omega)]
      cases (x.1==3)<;>cases (views.getD (x.2.2.2.1-1).toNat ([]:List Int)).contains m.1<;>rfl)
     have J1:∀ b y,D3 views [] [] b m x y m=some (if b=true then (T0 m x.2.2.2.1,[(2,m.1,x.2.1,x.2.2.2.1,0,m.2.2.2.2.2.2.2.1)],[]) else
       if (x.1==3&&(views.getD (x.2.2.2.1-1).toNat []).contains m.1&&((views.getD (x.2.2.2.1-1).toNat []).getD 0 0 != m.1))=true then
       ((m.1,x.2.2.2.1,false,true,false,false,([]:List Int),x.2.2.2.2.2,(0:Int),(0:Int),(0:Int),(0:Int),(ByteArray.empty,ByteArray.empty,(0:Int)),([]:List Int)),EA m x 4,[]) else (m,[],[])):=fun b y=>dC (by
      unfold Rk
      have hl:([]:List AL).length+m.2.2.2.2.2.2.2.1.length<=68719476736:=by have:=hm.lens; simp; omega
      rw [J2,Rz m _ (by have:=hm.lens; omega),X,if_pos hl]
      cases b<;>rfl)
     refine dD ?_
     unfold Rl
     rw [wm,wp]
     by_cases h4:x.2.2.2.1=m.2.1
     ·rw [if_pos (by simpa using h4),if_pos (by omega),if_pos (by omega),if_pos h4,gN m _ x hm (by omega) (by omega) hx (fun h=>by have:=x5 h; omega)]
      rfl
     ·rw [if_neg (by simpa using h4),if_neg h4,Ck _ _ (by unfold maxLen; omega),X]
      simp only [J1]
      rw [if_pos (show (0:Int)<=m.2.1-1 by omega),if_pos (show m.2.1-1<(views.length:Int) by omega)]
      cases (x.1==1)<;>cases (x.2.2.2.1==m.2.1+1)<;>cases m.2.2.2.1<;>cases (views.getD (m.2.1-1).toNat ([]:List Int)).contains m.1<;>rfl
  ·rw [if_neg (by simp [h1]),if_neg (by simp [h1])])

theorem ZX {v:List Int}:∀ (m i:Nat),i+m=v.length->(HB v i m=true↔∀ a (ha:a<v.length),i<=a->(1<=v[a]/\v[a]<=6)/\v[a]∉v.take a)
 | 0,i,h=>by
  simp only [HB,true_iff]
  intro a ha hi
  omega
 | m+1,i,h=>by
  have hi:i<v.length:=by omega
  rw [HB,Bool.and_eq_true,Bool.and_eq_true,ZX m (i+1) (by omega),AU hi]
  simp only [Bool.and_eq_true,decide_eq_true_eq,Bool.not_eq_true',List.contains_eq_mem,decide_eq_false_iff_not]
  constructor
  ·rintro ⟨⟨h1,h2⟩,h3⟩ a ha hia
   by_cases e:a=i
   ·subst e
    exact ⟨h1,h2⟩
   ·exact h3 a ha (by omega)
  ·intro h3
   exact ⟨⟨(h3 i hi (Nat.le_refl _)).1,(h3 i hi (Nat.le_refl _)).2⟩,fun a ha hia=>h3 a ha (by omega)⟩
structure sv (v:List Int):Prop where
 len:1<=v.length/\v.length<=4
 mem:∀ a∈v,1<=a/\a<=6
 nd:v.Nodup
theorem rZ {v:List Int}:Uk v=true↔sv v:=by
 unfold Uk
 simp only [Bool.and_eq_true,decide_eq_true_eq]
 rw [ZX _ _ (by omega)]
 constructor
 ·rintro ⟨h1,h2⟩
  refine ⟨by omega,fun a ha=>?_,?_⟩
  ·obtain ⟨i,hi,rfl⟩:=List.getElem_of_mem ha
   exact (h2 i hi (Nat.zero_le _)).1
  ·rw [List.nodup_iff_pairwise_ne,List.pairwise_iff_getElem]
   intro i j hi hj hij e
   have:=(h2 j hj (Nat.zero_le _)).2
   apply this
   rw [<- e]
   exact List.mem_iff_getElem.2 ⟨i,by rw [List.length_take]; omega,by rw [List.getElem_take]⟩
 ·rintro ⟨h1,h2,h3⟩
  refine ⟨by omega,fun a ha _=>⟨h2 _ (List.getElem_mem ha),fun hm=>?_⟩⟩
  obtain ⟨i,hi,e⟩:=List.getElem_of_mem hm
  rw [List.length_take] at hi
  rw [List.getElem_take] at e
  have:=(List.getElem_inj h3).1 e
  omega
theorem QK.wok {views:List (List Int)} (h:QK views) {i:Nat} (hi:i<views.length):sv (views.getD i []):=by
 rw [AU hi]
 exact rZ.1 ((JF.1 h.ok).1 _ (List.getElem_mem hi))
structure sn (x:BK):Prop where
 kind:1<=x.1/\x.1<=8
 frm:1<=x.2.1/\x.2.1<=6
 to:1<=x.2.2.1/\x.2.2.1<=6
 ep:1<=x.2.2.2.1/\x.2.2.2.1<=9
 num:0<=x.2.2.2.2.1/\x.2.2.2.2.1<=1000000000
 items:Ap x.2.2.2.2.2=true
 shape:if x.1=2\/x.1=3 then True else if x.1=5 then x.2.2.2.2.2.length=1 else x.2.2.2.2.2=[]
theorem Ye {x:BK}:Tz x=true↔sn x:=by
 unfold Tz
 simp only [Bool.and_eq_true,decide_eq_true_eq]
 constructor
 ·rintro ⟨⟨⟨⟨⟨⟨h1,h2⟩,h3⟩,h4⟩,h5⟩,h6⟩,h7⟩
  refine ⟨h1,h2,h3,h4,h5,h6,?_⟩
  split at h7
  ·rename_i e; rw [if_pos e]; trivial
  ·rename_i e
   rw [if_neg e]
   split at h7
   ·rename_i e2; rw [if_pos e2]; simp only [beq_iff_eq] at h7; omega
   ·rename_i e2; rw [if_neg e2]; simp only [beq_iff_eq] at h7; exact List.length_eq_zero_iff.1 (by omega)
 ·rintro ⟨h1,h2,h3,h4,h5,h6,h7⟩
  refine ⟨⟨⟨⟨⟨⟨h1,h2⟩,h3⟩,h4⟩,h5⟩,h6⟩,?_⟩
  split
  ·rfl
  ·rename_i e
   rw [if_neg e] at h7
   split
   ·rename_i e2; rw [if_pos e2] at h7; simp; omega
   ·rename_i e2; rw [if_neg e2] at h7; simp [h7]
theorem O9:Ap []=true:=rfl
def af (m n:AA) (l:List BK):Prop:=∀ y∈l,sn y/\y.2.1=m.1/\y.2.2.2.1=n.2.1
theorem db {m n:AA} {view:List Int} {k num:Int} {its:List AL} (hm:1<=m.1/\m.1<=6) (he:1<=n.2.1/\n.2.1<=9) (hv:∀ a∈view,1<=a/\a<=6) (hk:1<=k/\k<=8) (hn:0<=num/\num<=1000000000) (hi:Ap its=true)
  (hs:if k=2\/k=3 then True else if k=5 then its.length=1 else its=[]):af m n ((Bu view m.1).map fun v=>(k,m.1,v,n.2.1,num,its)):=by
 intro y hy
 obtain ⟨v,hv2,rfl⟩:=List.mem_map.1 hy
 exact ⟨⟨hk,hm,hv v (List.mem_filter.1 hv2).1,he,hn,hi,hs⟩,rfl,rfl⟩
theorem QL {m n:AA} {x:BK} {k:Int} (hm:1<=m.1/\m.1<=6) (hx:sn x) (he:x.2.2.2.1=n.2.1) (hk:k=4\/k=6\/k=8):af m n (EA m x k):=by
 intro y hy
 simp only [EA,List.mem_singleton] at hy
 subst hy
 refine ⟨⟨by show 1<=k/\k<=8; omega,hm,hx.frm,hx.ep,hx.num,O9,?_⟩,rfl,he⟩
 show if k=2\/k=3 then True else if k=5 then ([]:List AL).length=1 else ([]:List AL)=[]
 rw [if_neg (by omega),if_neg (by omega)]
theorem YJ {m n:AA}:af m n []:=fun y hy=>by cases hy
theorem Yf:Iz ((0:Int),(0:Int),(0:Int),(ByteArray.empty,ByteArray.empty,(0:Int)),([]:List Int))=true:=by simp [Iz,UA]
theorem Ih.has {m:AA} {view:List Int} {its:List AL} (h:Ih m) (hl:m.2.2.2.2.1=true) (hb:m.2.2.2.1=false) (hi:Ap its=true):Ih (QV m view its):=by
 have hns:m.2.2.2.2.2.1=false:=by
  cases hs:m.2.2.2.2.2.1 with
  | false=>rfl
  | true=>have:=(h.serves hs).1; rw [hb] at this; cases this
 refine ⟨h.id,h.ep,fun hs=>⟨rfl,hl,?_⟩,fun hf=>?_,Ul _ _,h.left,hi,h.count,?_⟩
 ·simp only [QV,beq_iff_eq] at hs ⊢
  exact List.length_eq_zero_iff.1 (by omega)
 ·have:=(h.fell hf).2; rw [hl] at this; cases this
 ·rcases h.task with h1 | h1
  ·exact .inl h1
  ·unfold E9 at h1
   rw [hns] at h1
   simp at h1
theorem Ih.bare {m:AA} (h:Ih m) {e:Int} (he:1<=e/\e<=9):Ih (T0 m e) :=
 ⟨h.id,he,fun hs=>(by cases hs),fun hf=>(by cases hf),⟨by simp [T0],by simp [T0]⟩,⟨by simp [T0],by simp [T0]⟩,h.items,⟨by simp [T0],by simp [T0]⟩,.inl Yf⟩
theorem Ih.install {m:AA} (h:Ih m) {e:Int} {its:List AL} (he:1<=e/\e<=9) (hi:Ap its=true) :
  Ih (m.1,e,false,true,false,false,([]:List Int),its,(0:Int),(0:Int),(0:Int),(0:Int),(ByteArray.empty,ByteArray.empty,(0:Int)),([]:List Int)) :=
 ⟨h.id,he,fun hs=>(by cases hs),fun hf=>(by cases hf),⟨by simp,by simp⟩,⟨by simp,by simp⟩,hi,⟨by simp,by simp⟩,.inl Yf⟩
theorem Ih.clear {m:AA} (h:Ih m) {its:List AL} (hi:Ap its=true):Ih (Mv m its) :=
 ⟨h.id,h.ep,h.serves,h.fell,h.waits,⟨by simp [Mv],by simp [Mv]⟩,hi,h.count,.inl Yf⟩
theorem Ih.finish {m:AA} (h:Ih m):Ih (Bm m).2:=by
 unfold Bm
 split
 ·exact h.clear (Hz h.items)
 ·exact h.clear h.items
theorem vm {m:AA} (h:Ih m) (h0:m.2.2.2.2.2.2.2.2.2.1≠0):E9 m.2.2.2.2.2.2.2.2.2 m.2.2.2.2.2.1=true:=by
 rcases h.task with h1 | h1
 ·unfold Iz at h1
  simp only [Bool.and_eq_true,beq_iff_eq] at h1
  exact absurd h1.1.1.1.1 h0
 ·exact h1
def gO (l:List Cn):Prop:=l.length<=1/\∀ s∈l,0<=s.1/\s.1<=1000
theorem E_:gO []:=⟨by simp,fun s hs=>by cases hs⟩
theorem g_ {m:AA} (h:Ih m) (h0:m.2.2.2.2.2.2.2.2.2.1≠0):gO (Bm m).1:=by
 have h1:=vm h h0
 unfold E9 at h1
 simp only [Bool.and_eq_true,decide_eq_true_eq] at h1
 unfold Bm
 split
 ·exact ⟨by simp,fun s hs=>by simp at hs; subst hs; exact h1.1.2⟩
 ·exact ⟨by simp,fun s hs=>by simp at hs; subst hs; exact h1.1.2⟩
structure pF (m:AA) (r:AA×List BK×List Cn):Prop where
 mok:Ih r.1
 id:r.1.1=m.1
 ep:m.2.1<=r.1.2.1
 told:af m r.1 r.2.1
 tlen:r.2.1.length<=4
 said:gO r.2.2
theorem G2 {m:AA} (h:Ih m):pF m (m,[],[]):=⟨h,rfl,Int.le_refl _,YJ,by simp,E_⟩
theorem G3 (view:List Int) (id:Int):(Bu view id).length<=view.length:=List.length_filter_le _ _
theorem Ih.left_filter {m:AA} (h:Ih m) (f:Int):Ih (nt m f):=by
 refine ⟨h.id,h.ep,h.serves,h.fell,h.waits,mP h.left _,h.items,h.count,?_⟩
 rcases h.task with h1 | h1
 ·left
  unfold Iz at h1 ⊢
  simp only [Bool.and_eq_true,beq_iff_eq] at h1 ⊢
  refine ⟨h1.1,?_⟩
  have h2:=List.length_filter_le (· != f) m.2.2.2.2.2.2.2.2.2.2.2.2.2
  have h3:=h1.2
  show (((m.2.2.2.2.2.2.2.2.2.2.2.2.2.filter (· != f)).length:Nat):Int)=0
  omega
 ·exact .inr h1
theorem vn {m:AA} {view:List Int} {x:BK} (hm:Ih m) (hv:sv view) (hx:sn x) (he:x.2.2.2.1=m.2.1):pF m (YI m view x):=by
 unfold YI
 split
 ·split
  ·rename_i h1 h2
   simp only [Bool.and_eq_true,Bool.not_eq_true'] at h2
   refine ⟨hm.has h2.1 h2.2 hx.items,rfl,Int.le_refl _,?_,by simp only [List.length_map]; have:=G3 view m.1; have:=hv.len; omega,E_⟩
   exact db (n:=QV m view x.2.2.2.2.2) hm.id hm.ep hv.mem (by omega) (by omega) hx.items (by simp)
  ·exact G2 hm
 ·split
  ·split
   ·exact G2 hm
   ·split
    ·exact G2 hm
    ·split
     ·exact ⟨hm,rfl,Int.le_refl _,QL hm.id hx he (by omega),by simp [EA],E_⟩
     ·exact ⟨hm.install hm.ep hx.items,rfl,Int.le_refl _,QL hm.id hx he (by omega),by simp [EA],E_⟩
  ·split
   ·split
    ·rename_i hl
     refine ⟨⟨hm.id,hm.ep,fun hs=>?_,hm.fell,mP hm.waits _,hm.left,hm.items,hm.count,?_⟩,rfl,Int.le_refl _,YJ,by simp,E_⟩
     ·simp only [Bool.and_eq_true,beq_iff_eq] at hs
      exact ⟨hs.1,hl,List.length_eq_zero_iff.1 (show (List.filter (· != x.2.1) m.2.2.2.2.2.2.1).length=0 by have h:((List.filter (· != x.2.1) m.2.2.2.2.2.2.1).length:Int)=0:=hs.2; omega)⟩
     ·rcases hm.task with h1 | h1
      ·exact .inl h1
      ·right
       have hs:m.2.2.2.2.2.1=true:=by
        unfold E9 at h1
        simp only [Bool.and_eq_true] at h1
        exact h1.1.1.2
       obtain ⟨a,b,c⟩:=hm.serves hs
       rw [hs] at h1
       simp only [c,List.filter_nil,List.length_nil,a,Bool.true_and]
       exact h1
    ·exact G2 hm
   ·split
    ·split
     ·exact ⟨⟨hm.id,hm.ep,hm.serves,hm.fell,hm.waits,hm.left,Hz hm.items,hm.count,hm.task⟩,rfl,Int.le_refl _,QL hm.id hx he (by omega),by simp [EA],E_⟩
     ·exact G2 hm
    ·split
     ·split
      ·exact ⟨hm,rfl,Int.le_refl _,QL hm.id hx he (by omega),by simp [EA],E_⟩
      ·exact G2 hm
     ·by_cases hc:(x.1=6\/x.1=8)/\m.2.2.2.2.2.2.2.2.2.1=(if x.1=8 then 2 else 1)/\m.2.2.2.2.2.2.2.2.2.2.2.1=x.2.2.2.2.1
      ·rw [if_pos hc]
       have hn:=hm.left_filter x.2.1
       unfold Ft
       split
       ·refine ⟨hn.finish,?_,?_,YJ,by simp,g_ hn ?_⟩
        ·unfold Bm; split<;>rfl
        ·unfold Bm; split<;>exact Int.le_refl _
        ·have:=hc.2.1
         show m.2.2.2.2.2.2.2.2.2.1≠0
         rw [this]
         split<;>omega
       ·exact ⟨hn,rfl,Int.le_refl _,YJ,by simp,E_⟩
      ·rw [if_neg hc]
       exact G2 hm
theorem T2 {m:AA} {views:List (List Int)} {x:BK} (hm:Ih m) (hv:QK views):pF m (DF m views x):=by
 unfold DF
 split
 ·rename_i hc
  simp only [Bool.and_eq_true,decide_eq_true_eq,beq_iff_eq] at hc
  obtain ⟨⟨⟨h1,h2⟩,h3⟩,h4⟩:=hc
  have hx:=Ye.1 h1
  have hvl:=hv.len
  have he:=hm.ep
  split
  ·rename_i e
   exact vn hm (hv.wok (by omega)) hx e
  ·split
   ·refine ⟨hm.bare hx.ep,rfl,h3,fun y hy=>?_,by simp,E_⟩
    simp only [List.mem_singleton] at hy
    subst hy
    exact ⟨⟨by simp,hm.id,hx.frm,hx.ep,by simp,hm.items,by simp⟩,rfl,rfl⟩
   ·split
    ·exact ⟨hm.install hx.ep hx.items,rfl,h3,QL hm.id hx rfl (by omega),by simp [EA],E_⟩
    ·exact G2 hm
 ·exact G2 hm
end Go.Proofs.YtokiohnjegbnpaaGreat.Core
