/- Texts of the proof, packed: part 4. -/
import Derived.Test.YtokiohnjegbnpaaGreatP2
import Derived.IntWalk
set_option linter.unusedVariables false
set_option linter.unusedSimpArgs false
namespace Go.Proofs.YtokiohnjegbnpaaGreat.Core
open Go IntKind
set_option linter.unusedVariables false
set_option maxRecDepth 100000
noncomputable section
def xQ:List (Nat×BM):=[(4,Bm),(9,UR),(10,JE),(11,Ay),(12,BF),(13,FM),(14,Cq),(15,B9),(16,B_),(17,Oq),(32,Dn),(33,Dg),(34,DK),(35,GG),(36,Gj),(37,My),(38,BD),(39,DL),(40,GH),(41,Ot),(42,Do),(43,Mz),(44,Ko),(45,CH),(46,Dp),(47,Fa),(48,M0),(49,Ou),(51,Fb),(56,Ov),(57,DP),(59,Fc),(61,Kp),(62,JF),(63,Bn),(64,BI),(65,Bp),(66,Cr),(67,El),(68,IH),(69,Gk),(70,CI),(71,F9),(72,Q6),(73,Fd),(75,HN),(76,Kq),(77,Dq),(78,CA),(79,Em),(80,JG),(81,DM),(82,CQ),(83,Q8),(84,M1),(85,CJ),(86,Kr),(87,Ow),(89,GI),(90,CD),(95,BZ),(96,HO),(97,Kt),(98,Ku),(100,Dh),(101,Fe),(102,AU),(103,E9),(105,Dr),(106,Bh),(107,Ch),(108,Ba),(109,EL),(110,B1),(113,CR),(114,EX),(115,Bv),(116,E_),(117,DX),(118,Bf),(119,HQ),(120,EM),(121,FN),(122,EY),(123,Au),(124,Cu),(125,II),(126,EZ),(127,EN),(128,CL),(129,K3),(130,JH),(131,DY),(132,BR),(133,K4),(134,DG),(135,Cv),(137,AX),(138,JI),(139,Ds),(140,Ea),(141,Dt),(142,IJ),(143,CZ),(148,AS),(154,K6),(158,Ca),(159,AH),(160,IK),(169,JJ)]
def fns (f:Nat):Option BM:=vN f xQ
theorem xh:tY Tryz.prog fns:=sV (.cons iG <| .cons qo <| .cons iH <| .cons iI <| .cons iJ <| .cons iK <| .cons eS <| .cons mt <| .cons mw <| .cons oW <| .cons km <| .cons mx <| .cons iL <| .cons ko <| .cons Zq <| .cons my <| .cons eT <| .cons iM <| .cons kq <| .cons oX <| .cons ku <| .cons mz <| .cons ky <| .cons Zr <| .cons kz <| .cons XF <| .cons m3 <| .cons oY <| .cons XG <| .cons oZ <| .cons QR <| .cons ob <| .cons k_ <| .cons iN <| .cons iO <| .cons lA <| .cons lB <| .cons eU <| .cons eV <| .cons oc <| .cons Zs <| .cons Zt <| .cons Ym <| .cons py <| .cons XK <| .cons bc <| .cons lC <| .cons lD <| .cons Yn <| .cons eW <| .cons iP <| .cons iQ <| .cons eX <| .cons pz <| .cons m4 <| .cons Zu <| .cons lE <| .cons oe <| .cons lF <| .cons bd <| .cons US <| .cons be <| .cons lH <| .cons lI <| .cons og <| .cons oh <| .cons Gl <| .cons WV <| .cons lJ <| .cons ol <| .cons om <| .cons lK <| .cons oo <| .cons Zv <| .cons UT <| .cons m5 <| .cons XT <| .cons WW <| .cons Zw <| .cons WX <| .cons bf <| .cons UU <| .cons iR <| .cons m6 <| .cons lL <| .cons eY <| .cons eZ <| .cons m7 <| .cons oq <| .cons m8 <| .cons lM <| .cons iS <| .cons Zx <| .cons WY <| .cons lN <| .cons Yo <| .cons XX <| .cons Ox <| .cons iT <| .cons lO <| .cons m9 <| .cons lP <| .cons ed <| .cons bg <| .cons KM <| .cons lQ <| .cons bh <| .cons EO <| .cons ee <| .cons iU .nil)
def prims:F3:=fun f args bs=>if f=74 then lR 47 AM args bs else if f=88 then tx 97 AC args bs else if f=99 then lR 3 (.int .i64) args bs else if f=104 then lR 38 AB args bs else if f=144 then qB 3 145 args bs else if f=161 then wX args bs else if f=162 then tt 38 AB args bs else none
theorem vd:Ik Tryz.prog prims:=fun f args bs rs h=>by
 unfold prims at h
 split at h
 ·rename_i e; subst e; exact lU vT xN h
 split at h
 ·rename_i e; subst e; exact vS vU xO h
 split at h
 ·rename_i e; subst e; exact lU vV xP h
 split at h
 ·rename_i e; subst e; exact lU tz wh h
 split at h
 ·rename_i e; subst e; exact tv t8 Tryz.zeroValue3 t_ h
 split at h
 ·rename_i e; subst e; exact vQ uA h
 split at h
 ·rename_i e; subst e; exact vP uB wi h
 cases h
abbrev cP:F3:=oO fns prims
def cG {ρ:Type} (c:AF) (kn kr:St→Option ρ) (ke:Nat→St→Option ρ):St→Option ρ:=GE cP J6 c kn kr ke
def lG {ρ:Type} (c:AF) (hs:List (Nat×Nat)) (l:List Nat) (n:Nat) (kr:St→Option ρ) (ke:Nat→St→Option ρ):St→Option ρ:=J6 fun go s'=>GE cP J6 c (fun s''=>go (s''.cutH hs l n)) kr ke s'
def kJ {ρ:Type} (c:AF) (hs:List (Nat×Nat)) (l:List Nat) (n:Nat) (kn kr:St→Option ρ) (ke:Nat→St→Option ρ):St→Option ρ:=fun s=>cG c kn kr ke (s.cutH hs l n)
def kB {ρ:Type} (hs:List (Nat×Nat)) (l:List Nat) (n:Nat) (kn:St→Option ρ):St→Option ρ:=fun s=>kn (s.cutH hs l n)
def kE {ρ:Type} (b:Nat) (hs:List (Nat×Nat)) (l:List Nat) (n:Nat) (kn:St→Option ρ) (ke:Nat→St→Option ρ):Nat→St→Option ρ:=fun i s=>if i=b then kn (s.cutH hs l n) else ke i s
def kx {ρ:Type}:Nat→St→Option ρ:=fun _ _=>none
def cF (f:Nat) (a:BM) (x b:List AV):Option (RT a.outs):=(cP f x b).bind (CV a.outs)
theorem cT (a:BM) {f:Nat} {x b:List AV} {t:Option (RT a.outs)} {r:RT a.outs} (hf:fns f=some a) (hl:x.length=a.params.length∧b.length=(Dk a.params 0).length) (e:tl cP a x b=t) (h:t=some r):cF f a x b=some r:=qk hf hl (e.trans h)
theorem jS {ρ:Type} {t w:Option ρ} {r:ρ} (e:w=t) (h:t=some r):w=some r:=e.trans h
theorem lS {ρ:Type} {c:AF} {hs:List (Nat×Nat)} {l:List Nat} {n:Nat} {kr:St→Option ρ} {ke:Nat→St→Option ρ} {s:St} {t:Option ρ} {r:ρ} (e:GE cP J6 c (fun s=>lG c hs l n kr ke (s.cutH hs l n)) kr ke s=t) (h:t=some r):lG c hs l n kr ke s=some r:=sS (e.trans h)
def Vi (x0:List Int):Option Bool:=cF 4 Bm [.lst (.int .u8) x0] []
def Zy (x0:List Int):Option Bool:=cF 9 UR [.lst (.int .u8) x0] []
def Nl (x0:List Int):Option (List (List Int)×List AO):=cF 10 JE [.lst (.int .u8) x0] []
def Nm (x0:List (List Int)) (x1:List AO):Option (AA×List Int×Bool):=cF 11 Ay [.lst (.slice (.int .i64)) x0,.lst AT x1] []
def Nn (x0:List (List Int)) (x1:List AO):Option (AA×List Int×Bool):=cF 12 BF [.lst (.slice (.int .i64)) x0,.lst AT x1] []
def FO (x0:O):Option Bool:=cF 13 FM [.agg (U.enc x0)] []
def MT (x0 x1:List AG):Option Bool:=cF 14 Cq [.lst AM x0,.lst AM x1] []
def M2 (x0:List AG):Option Bool:=cF 15 B9 [.lst AM x0] []
def R5 (x0:List AG):Option Bool:=cF 16 B_ [.lst AM x0] []
def Gm (x0:AG):Option Int:=cF 17 Oq [.agg (AM.enc x0)] []
def Pi (x1:List Int) (b0:AN):Option (UP×AN):=cF 32 Dn [.ptr 0 0,.lst (.int .u8) x1] [.agg (A_.enc b0)]
def R6 (x0:List Int):Option AN:=cF 33 Dg [.lst (.int .u8) x0] []
def No (x0:List (List Int)):Option (AA×Bool):=cF 34 DK [.lst (.slice (.int .i64)) x0] []
def Pj (x0:AO):Option Bool:=cF 35 GG [.agg (AT.enc x0)] []
def Gn (x1:AO) (x2:Int) (b0:AA):Option (Bool×AA):=cF 36 Gj [.ptr 0 0,.agg (AT.enc x1),.int .i64 x2] [.agg (AY.enc b0)]
def R7 (x0:Bool):Option Int:=cF 37 My [.bool x0] []
def IM (x0:AA):Option AA:=cF 38 BD [.agg (Ab.enc x0)] []
def JK (x0:List (List Int)):Option (AA×Bool):=cF 39 DL [.lst (.slice (.int .i64)) x0] []
def Pk (x0:AO):Option Bool:=cF 40 GH [.agg (AT.enc x0)] []
def Oz (x1:Int) (x2:AO) (b0:AA):Option (Int×AA):=cF 41 Ot [.ptr 0 0,.int .i64 x1,.agg (AT.enc x2)] [.agg (Ab.enc b0)]
def Pl (x0:AA):Option AA:=cF 42 Do [.agg (Ab.enc x0)] []
def Ef (x0:Int):Option Bool:=cF 43 Mz [.int .i64 x0] []
def Ae (x0 x1 x2:Int):Option Bool:=cF 44 Ko [.int .i64 x0,.int .i64 x1,.int .i64 x2] []
def Gp (x0:List Int) (x1 x2:Int):Option Bool:=cF 45 CH [.lst (.int .i64) x0,.int .i64 x1,.int .i64 x2] []
def Eu (x0:List X):Option Bool:=cF 46 Dp [.lst AB x0] []
def Cw (b0:O):Option (Bool×O):=cF 47 Fa [.ptr 0 0] [.agg (U.enc b0)]
def M3 (x0:AG):Option Bool:=cF 48 M0 [.agg (AM.enc x0)] []
def IN (x0:AG):Option Int:=cF 49 Ou [.agg (AM.enc x0)] []
def Hq (x1 x2:Int) (b0:AA):Option AA:=cF 51 Fb [.ptr 0 0,.int .i64 x1,.int .i64 x2] [.agg (AY.enc b0)]
def AR (x0 x1 x2:Int):Option Bool:=cF 56 Ov [.int .i64 x0,.int .i64 x1,.int .i64 x2] []
def CT (x0:List Int) (x1:Int):Option Bool:=cF 57 DP [.lst (.int .i64) x0,.int .i64 x1] []
def Di (x0:List Int) (x1:Int):Option Bool:=cF 59 Fc [.lst (.int .i64) x0,.int .i64 x1] []
def Ew (b0:AN):Option (Int×AN):=cF 61 Kp [.ptr 0 0] [.agg (A_.enc b0)]
def CM (x1:Int) (b0:AN):Option (Int×AN):=cF 62 JF [.ptr 0 0,.int .i64 x1] [.agg (A_.enc b0)]
def Np (b0:AN):Option (List (List Int)×AN):=cF 63 Bn [.ptr 0 0] [.agg (A_.enc b0)]
def Pm (b0:AN) (b1:AA):Option (AO×AN×AA):=cF 64 BI [.ptr 0 0,.ptr 1 0] [.agg (A_.enc b0),.agg (Ab.enc b1)]
def Du (x0:List (List Int)):Option Bool:=cF 65 Bp [.lst (.slice (.int .i64)) x0] []
def IP (x0:List (List Int)):Option (List (List Int)):=cF 66 Cr [.lst (.slice (.int .i64)) x0] []
def MU (x0:Int) (x1:List (List Int)):Option (O×Bool):=cF 67 El [.int .i64 x0,.lst (.slice (.int .i64)) x1] []
def K7 (x0 x1:Int) (x2 x3:ByteArray):Option Bool:=cF 68 IH [.int .i64 x0,.int .i64 x1,.str x2,.str x3] []
def Ja (x1:AO) (x2:Int) (b0:AA):Option (Bool×AA):=cF 69 Gk [.ptr 0 0,.agg (AT.enc x1),.int .i64 x2] [.agg (AY.enc b0)]
def Jb (x1:AO) (x2:Int) (b0:AA):Option (Bool×AA):=cF 70 CI [.ptr 0 0,.agg (AT.enc x1),.int .i64 x2] [.agg (AY.enc b0)]
def Bi (x1:Int) (b0:AA):Option (Int×AA):=cF 71 F9 [.ptr 0 0,.int .i64 x1] [.agg (AY.enc b0)]
def RM (x0:O):Option O:=cF 72 Q6 [.agg (U.enc x0)] []
def Hr (x1:AO) (x2:Int) (b0:AA):Option (Bool×AA):=cF 73 Fd [.ptr 0 0,.agg (AT.enc x1),.int .i64 x2] [.agg (AY.enc b0)]
def Cb (x0:O):Option O:=cF 75 HN [.agg (U.enc x0)] []
def GO (x0:Y):Option Y:=cF 76 Kq [.agg (AC.enc x0)] []
def Dv (x0:List (List Int)):Option Bool:=cF 77 Dq [.lst (.slice (.int .i64)) x0] []
def F_ (x0:List (List Int)):Option (List (List Int)):=cF 78 CA [.lst (.slice (.int .i64)) x0] []
def MV (x0:Int) (x1:List (List Int)):Option (O×Bool):=cF 79 Em [.int .i64 x0,.lst (.slice (.int .i64)) x1] []
def Nq (x1:Int) (x2:AO) (b0:AA):Option (Int×AA):=cF 80 JG [.ptr 0 0,.int .i64 x1,.agg (AT.enc x2)] [.agg (Ab.enc b0)]
def Nr (x1 x2:Int) (b0:AA):Option (Int×AA):=cF 81 DM [.ptr 0 0,.int .i64 x1,.int .i64 x2] [.agg (Ab.enc b0)]
def En (x1:O) (x2:List Y) (x3:List AD) (x4:Int) (b0:AA):Option AA:=cF 82 CQ [.ptr 0 0,.agg (U.enc x1),.lst AC x2,.lst Aq x3,.int .i64 x4] [.agg (Ab.enc b0)]
def XY (x0:O):Option O:=cF 83 Q8 [.agg (U.enc x0)] []
def R8 (x1:Int) (x2:AO) (b0:AA):Option (Int×AA):=cF 84 M1 [.ptr 0 0,.int .i64 x1,.agg (AT.enc x2)] [.agg (Ab.enc b0)]
def Jc (x0:List Y):Option (List Y):=cF 85 CJ [.lst AC x0] []
def C6 (x0:O):Option O:=cF 86 Kr [.agg (U.enc x0)] []
def O0 (x0:ByteArray):Option Bool:=cF 87 Ow [.str x0] []
def K8 (x0:O) (x1:List (List Int)) (x2:Y):Option (O×List Y×List AD):=cF 89 GI [.agg (U.enc x0),.lst (.slice (.int .i64)) x1,.agg (AC.enc x2)] []
def Ff (x1:List Y) (x2:List AD) (x3:Int) (b0:AA):Option AA:=cF 90 CD [.ptr 0 0,.lst AC x1,.lst Aq x2,.int .i64 x3] [.agg (AY.enc b0)]
def C7 (x0:List Int) (x1:Int):Option Int:=cF 95 BZ [.lst (.int .i64) x0,.int .i64 x1] []
def HR (x1:List Int) (b0:AN):Option (Int×AN):=cF 96 HO [.ptr 0 0,.lst (.int .i64) x1] [.agg (A_.enc b0)]
def C8 (x1:Int) (b0:AN):Option (Bool×AN):=cF 97 Kt [.ptr 0 0,.int .i64 x1] [.agg (A_.enc b0)]
def K9 (x1:List ByteArray) (b0:AN):Option (ByteArray×AN):=cF 98 Ku [.ptr 0 0,.lst .str x1] [.agg (A_.enc b0)]
def O1 (x0:O) (x1:List (List Int)) (x2 x3:Int) (x4 x5:ByteArray):Option (O×List Y×List AD×Bool):=cF 100 Dh [.agg (U.enc x0),.lst (.slice (.int .i64)) x1,.int .i64 x2,.int .i64 x3,.str x4,.str x5] []
def O2 (x0:O) (x1:List (List Int)) (x2:Int):Option (O×List Y×Bool):=cF 101 Fe [.agg (U.enc x0),.lst (.slice (.int .i64)) x1,.int .i64 x2] []
def B2 (x0:List O) (x1:Int):Option Int:=cF 102 AU [.lst U x0,.clo 103 (.int .i64) x1] []
def HC (x0:O) (x1:Int):Option Bool:=cF 103 E9 [.agg (U.enc x0),.fptr [.int .i64 x1] 0] []
def Pn (x0:List Int):Option Bool:=cF 105 Dr [.lst (.int .i64) x0] []
def UW (x0:O) (x1:List (List Int)) (x2 x3:Int) (x4 x5:ByteArray):Option (O×List Y×List AD×Bool):=cF 106 Bh [.agg (U.enc x0),.lst (.slice (.int .i64)) x1,.int .i64 x2,.int .i64 x3,.str x4,.str x5] []
def UX (x0:O) (x1:List (List Int)) (x2:Int):Option (O×List Y×Bool):=cF 107 Ch [.agg (U.enc x0),.lst (.slice (.int .i64)) x1,.int .i64 x2] []
def Po (x0:O) (x1:List (List Int)) (x2:Y):Option (O×List Y×List AD):=cF 108 Ba [.agg (U.enc x0),.lst (.slice (.int .i64)) x1,.agg (AC.enc x2)] []
def UY (x0:Y):Option Bool:=cF 109 EL [.agg (AC.enc x0)] []
def Jd (x1:List (List Int)) (x2:Y) (b0:O):Option (List Y×List AD×O):=cF 110 B1 [.ptr 0 0,.lst (.slice (.int .i64)) x1,.agg (AC.enc x2)] [.agg (U.enc b0)]
def Gq (x1:List (List Int)) (b0:O):Option (Bool×O):=cF 113 CR [.ptr 0 0,.lst (.slice (.int .i64)) x1] [.agg (U.enc b0)]
def M4 (x0:List X) (x1:ByteArray):Option X:=cF 114 EX [.lst AB x0,.str x1] []
def Bw (x1:List Int) (b0:O):Option (List Int×O):=cF 115 Bv [.ptr 0 0,.lst (.int .i64) x1] [.agg (U.enc b0)]
def Cd (b0:List Int):Option (List Int):=cF 116 E_ [.row 0] [.new 3 (.int .i64) b0]
def Gr (b0:O):Option (List AD×O):=cF 117 DX [.ptr 0 0] [.agg (U.enc b0)]
def Ag (x1:List Int) (x2:Y) (b0:O):Option (List Y×O):=cF 118 Bf [.ptr 0 0,.lst (.int .i64) x1,.agg (AC.enc x2)] [.agg (U.enc b0)]
def Fg (b0:O):Option O:=cF 119 HQ [.ptr 0 0] [.agg (U.enc b0)]
def C9 (x1:List Int) (x2:List X) (b0:O):Option (List Y×O):=cF 120 EM [.ptr 0 0,.lst (.int .i64) x1,.lst AB x2] [.agg (U.enc b0)]
def FP (x0:O):Option Bool:=cF 121 FN [.agg (U.enc x0)] []
def M5 (x0:List X) (x1:ByteArray):Option X:=cF 122 EY [.lst AB x0,.str x1] []
def Hs (x0:List X) (x1:X):Option (List X):=cF 123 Au [.lst AB x0,.agg (AB.enc x1)] []
def GP (x0:List Int) (x1:Int):Option (List Int):=cF 124 Cu [.lst (.int .i64) x0,.int .i64 x1] []
def GQ (b0:O):Option (List AD×O):=cF 125 II [.ptr 0 0] [.agg (U.enc b0)]
def M6 (x1:List Int) (x2:List X) (b0:O):Option (List Y×O):=cF 126 EZ [.ptr 0 0,.lst (.int .i64) x1,.lst AB x2] [.agg (U.enc b0)]
def UZ (x0:Y):Option Bool:=cF 127 EN [.agg (AC.enc x0)] []
def R9 (x0:O) (x1:List Int) (x2:Y):Option (O×List Y×List AD):=cF 128 CL [.agg (U.enc x0),.lst (.int .i64) x1,.agg (AC.enc x2)] []
def K_ (x0:O) (x1:Int):Option O:=cF 129 K3 [.agg (U.enc x0),.int .i64 x1] []
def D5 (x0:O) (x1:Y) (x2:Int):Option (List Y):=cF 130 JH [.agg (U.enc x0),.agg (AC.enc x1),.int .i64 x2] []
def Je (x1:List (List Int)) (x2:Y) (b0:O):Option (List Y×O):=cF 131 DY [.ptr 0 0,.lst (.slice (.int .i64)) x1,.agg (AC.enc x2)] [.agg (U.enc b0)]
def HD (x1:List Int) (x2:Y) (b0:O):Option (List Y×O):=cF 132 BR [.ptr 0 0,.lst (.int .i64) x1,.agg (AC.enc x2)] [.agg (U.enc b0)]
def LA (x0:List Int) (x1:Int):Option (List Int):=cF 133 K4 [.lst (.int .i64) x0,.int .i64 x1] []
def Im (x1:Y) (b0:O):Option (List Y×O):=cF 134 DG [.ptr 0 0,.agg (AC.enc x1)] [.agg (U.enc b0)]
def Fh (x1:Int) (x2:Y) (b0:O):Option (List AD×O):=cF 135 Cv [.ptr 0 0,.int .i64 x1,.agg (AC.enc x2)] [.agg (U.enc b0)]
def CE (x1 x2 x3:Int) (b0:List Int):Option (List Int):=cF 137 AX [.row 0,.int .i64 x1,.int .i64 x2,.int .i64 x3] [.new 3 (.int .i64) b0]
def Ns (x0:Int):Option Int:=cF 138 JI [.int .u64 x0] []
def LB (x0:List X) (x1:X):Option (List X):=cF 139 Ds [.lst AB x0,.agg (AB.enc x1)] []
def C3 (x0:List Int):Option Bool:=cF 140 Ea [.lst (.int .i64) x0] []
def C_ (x0:List X):Option Bool:=cF 141 Dt [.lst AB x0] []
def MW (x0:oP):Option Bool:=cF 142 IJ [.agg (Ke.enc x0)] []
def HS (x0:List Int) (x1:Int):Option (List Int):=cF 143 CZ [.lst (.int .i64) x0,.int .i64 x1] []
def C1 (x1 x2:Int) (b0:List Int):Option (List Int):=cF 148 AS [.row 0,.int .i64 x1,.int .i64 x2] [.new 3 (.int .i64) b0]
def LC (x0 x1:Int):Option Bool:=cF 154 K6 [.int .i64 x0,.int .i64 x1] []
def LD (x0:Int):Option Int:=cF 158 Ca [.int .u64 x0] []
def BL (x0:List X) (x1:ByteArray) (x2:Unit):Option (Int×Bool):=cF 159 AH [.lst AB x0,.str x1,.fn 160 []] []
def IQ (x0:X) (x1:ByteArray):Option Int:=cF 160 IK [.agg (AB.enc x0),.str x1] []
def JL (x0:Int):Option Bool:=cF 169 JJ [.int .i64 x0] []
def Cn (q0:List AG):Option (List AG):=(cP 74 [.lst AM q0] []).bind (CV [(.own 47 AM)])
def BU (q0:List Y) (q1 q2:Int):Option (List Y):=(cP 88 [.new 97 AC q0,.int .i64 q1,.int .i64 q2] []).bind (CV [(.own 97 AC)])
def Bb (q0:List Int):Option (List Int):=(cP 99 [.lst (.int .i64) q0] []).bind (CV [(.own 3 (.int .i64))])
def Af (q0:List X):Option (List X):=(cP 104 [.lst AB q0] []).bind (CV [(.own 38 AB)])
def EP (q0:List Int) (q1:Int):Option (List Int):=(cP 144 [.new 3 (.int .i64) q0,.clo 145 (.int .i64) q1] []).bind (CV [(.own 3 (.int .i64))])
def Nt (q0 q1:Int) (q2:List Int):Option (List Int):=(cP 149 [.row 0,.int .i64 q0,.int .i64 q1] [.new 3 (.int .i64) q2]).bind (CV [(.own 3 (.int .i64))])
def KN (q0 q1:Int) (q2:List Int):Option (List Int):=(cP 150 [.row 0,.int .i64 q0,.int .i64 q1] [.new 3 (.int .i64) q2]).bind (CV [(.own 3 (.int .i64))])
def Lu (q0 q1:Int) (q2:List Int):Option (Int×Int×List Int):=(cP 151 [.row 0,.int .i64 q0,.int .i64 q1] [.new 3 (.int .i64) q2]).bind (CV [(.int .i64),(.int .i64),(.own 3 (.int .i64))])
def LE (q0 q1:Int) (q2:List Int):Option (List Int):=(cP 152 [.row 0,.int .i64 q0,.int .i64 q1] [.new 3 (.int .i64) q2]).bind (CV [(.own 3 (.int .i64))])
def HE (q0 q1:Int) (q2:List Int):Option (Bool×List Int):=(cP 153 [.row 0,.int .i64 q0,.int .i64 q1] [.new 3 (.int .i64) q2]).bind (CV [.bool,(.own 3 (.int .i64))])
def Jf (q0 q1 q2:Int) (q3:List Int):Option (Int×List Int):=(cP 155 [.row 0,.int .i64 q0,.int .i64 q1,.int .i64 q2] [.new 3 (.int .i64) q3]).bind (CV [(.int .i64),(.own 3 (.int .i64))])
def NN (q0 q1 q2:Int) (q3:List Int):Option (Int×Bool×List Int):=(cP 156 [.row 0,.int .i64 q0,.int .i64 q1,.int .i64 q2] [.new 3 (.int .i64) q3]).bind (CV [(.int .i64),.bool,(.own 3 (.int .i64))])
def Ce (q0:List X) (q1:Int) (q2:List X):Option (List X):=(cP 162 [.new 38 AB q0,.int .i64 q1,.new 38 AB q2] []).bind (CV [(.own 38 AB)])
def LF (q0 q1:ByteArray):Option Int:=(cP 161 [.str q0,.str q1] []).bind (CV [(.int .i64)])
theorem Jg {x0:List AG} (h:x0.length≤68719476736):Cn x0=some x0:=by
 unfold Cn cP
 rw [MP (r:=[.new 47 AM x0]) rfl (lT (t:=47) (K:=AM) (xs:=x0) h)]
 rfl
theorem FH {x0:List Y} {i j:Nat} (hi:i≤j) (hj:j≤x0.length):BU x0 (i:Int) (j:Int)=some (x0.take i++x0.drop j):=by
 unfold BU cP
 rw [MP (r:=[.new 97 AC (x0.take i++x0.drop j)]) rfl (vR (t:=97) (K:=AC) (xs:=x0) hi hj)]
 rfl
theorem CS {x0:List Int} (h:x0.length≤68719476736):Bb x0=some x0:=by
 unfold Bb cP
 rw [MP (r:=[.new 3 (.int .i64) x0]) rfl (lT (t:=3) (K:=(.int .i64)) (xs:=x0) h)]
 rfl
theorem Ax {x0:List X} (h:x0.length≤68719476736):Af x0=some x0:=by
 unfold Af cP
 rw [MP (r:=[.new 38 AB x0]) rfl (lT (t:=38) (K:=AB) (xs:=x0) h)]
 rfl
theorem O3 {x0:List Int} {x1:Int}:EP x0 x1=some (x0.filter fun x=>!(x==x1)):=by
 unfold EP cP
 rw [MP (fns:=fns) (prims:=prims) (f:=144) (args:=[.new 3 (.int .i64) x0,.clo 145 (.int .i64) x1]) (bs:=[]) (r:=[.new 3 (.int .i64) (x0.filter fun x=>!(x==x1))]) rfl (tu (t:=3) (g:=145) (xs:=x0) (n:=x1))]
 rfl
theorem bo {x0 x1:ByteArray}:LF x0 x1=some (Go.Lib.compareBytes x0.data.toList x1.data.toList):=by
 unfold LF cP
 rw [MP (r:=[.int .i64 (Go.Lib.compareBytes x0.data.toList x1.data.toList)]) rfl rfl]
 rfl
theorem I3 {x0:List X} {i:Nat} {x2:List X} (h:x0.length+x2.length≤68719476736) (hi:i≤x0.length) (hv:x2.length≠0):Ce x0 (i:Int) x2=some (x0.take i++x2++x0.drop i):=by
 unfold Ce cP
 rw [MP (r:=[.new 38 AB (x0.take i++x2++x0.drop i)]) rfl (vO (t:=38) (K:=AB) (xs:=x0) (vs:=x2) (i:=i) h hi hv)]
 rfl
end
end Go.Proofs.YtokiohnjegbnpaaGreat.Core

namespace Go.Proofs.YtokiohnjegbnpaaGreat.Core
open Go IntKind
set_option linter.unusedVariables false
set_option maxRecDepth 100000
noncomputable section
def bp:=cG JX (AE Bm) (AE Bm) kx
def br:=kE 0 [] [] 2 bp kx
def Zz:St→Option (RT (BM.outs Bm)):=lG Qg [] [5,11] 2 (AE Bm) br
def Pp (x0 x1:AA):Option Bool:=cG JX (AE Bm) (AE Bm) kx ⟨[],[.var (Ab.enc x0),.var (Ab.enc x1)]⟩
def Ex (x0:Int) (x1 x2:AA):Option Bool:=Zz ⟨[(5,.ptr 0 0),(11,.int .i64 x0)],[.var (Ab.enc x1),.var (Ab.enc x2)]⟩
def Pq (x0:Bool) (x1 x2:AA):Option Bool:=cG PP (AE Bm) (AE Bm) kx ⟨[(5,.ptr 0 0),(57,.bool x0)],[.var (Ab.enc x1),.var (Ab.enc x2)]⟩
def Pr (x0 x1:AA):Option Bool:=((M2 ([(0,ByteArray.empty,ByteArray.empty,0,2,0,1,2,ByteArray.empty),(0,ByteArray.empty,ByteArray.empty,3,4,0,1,1,ByteArray.empty)]:List AG)).bind fun y9=>(some (!y9)))
def Jh (x0:Int) (x1 x2:AA):Option Bool:=(if (decide (x0<(x1.2.2.2.length:Int)))=true then (if 0≤x0 then (if x0<(x1.2.2.2.length:Int) then (if (decide (((((((x1.2.2.2.getD x0.toNat (0,ByteArray.empty,ByteArray.empty,0,0,0,0,0,ByteArray.empty)).2).2).2).2).1)≥0))=true then (if (decide (((((((x1.2.2.2.getD x0.toNat (0,ByteArray.empty,ByteArray.empty,0,0,0,0,0,ByteArray.empty)).2).2).2).2).1)<(((((x1.2.2.2.getD x0.toNat (0,ByteArray.empty,ByteArray.empty,0,0,0,0,0,ByteArray.empty)).2).2).2).1)))=true then (some false) else ((Gm (x1.2.2.2.getD x0.toNat (0,ByteArray.empty,ByteArray.empty,0,0,0,0,0,ByteArray.empty))).bind fun y8=>(if (y8 != (i64.wrap ((i64.wrap (1000*((((((((x1.2.2.2.getD x0.toNat (0,ByteArray.empty,ByteArray.empty,0,0,0,0,0,ByteArray.empty)).2).2).2).2).2).2).1)))+(((((((((x1.2.2.2.getD x0.toNat (0,ByteArray.empty,ByteArray.empty,0,0,0,0,0,ByteArray.empty)).2).2).2).2).2).2).2).1))))=true then (some false) else (Ex (i64.wrap (x0+1)) x1 x2)))) else (Ex (i64.wrap (x0+1)) x1 x2)) else none) else none) else (Pp x1 x2))
def Ps (x0:Bool) (x1 x2:AA):Option Bool:=(Ex 0 x1 x2)
def Vj (x0:List Int):Option Bool:=((Zy x0).bind fun y1=>(if y1=true then (some true) else ((Nl x0).bind fun y2=>((Nm y2.1 y2.2).bind fun y3=>((Nn y2.1 y2.2).bind fun y4=>(if (!y3.2.2)=false then ((MT y3.1.2.2.2 y4.1.2.2.2).bind fun y5=>(if (!y5)=false then ((M2 y3.1.2.2.2).bind fun y6=>(if (!y6)=false then ((R5 y3.1.2.2.2).bind fun y7=>(if (!y7)=true then (some false) else (Pq (!y7) y3.1 y4.1))) else (some false))) else (some false))) else (some false)))))))
theorem Z0:QQ Pr Pp:=jS (by kernel_rfl)
theorem Pt:PO Jh Ex:=lS (by kernel_rfl)
theorem Z1:PO Ps Pq:=jS (by kernel_rfl)
theorem iV:PN Vj Vi:=cT Bm rfl ⟨rfl,rfl⟩ (by kernel_rfl)
def qr (x0:List Int):Option Bool:=(some (decide ((x0.length:Int)>1048576)))
theorem qt:PN qr Zy:=cT UR rfl ⟨rfl,rfl⟩ (by kernel_rfl)
def Vk (x0:List Int):Option (List (List Int)×List AO):=((R6 x0).bind fun y1=>((Pi x0 y1).bind fun y2=>(some (y2.1.1,y2.1.2))))
theorem iW:PN Vk Nl:=cT JE rfl ⟨rfl,rfl⟩ (by kernel_rfl)
def bt:=cG PR (AE Ay) (AE Ay) kx
def bw:=kE 2 [(11,11)] [4,7,11] 12 bt kx
def Z2:St→Option (RT (BM.outs Ay)):=lG PQ [(11,11)] [4,7,11,39,40,41] 12 (AE Ay) bw
def bz:=cG JY (AE Ay) (AE Ay) kx
def b8:=kE 0 [] [1,4,7] 11 bz kx
def Z3:St→Option (RT (BM.outs Ay)):=lG Qh [] [1,4,7,28,29,30] 11 (AE Ay) b8
def Ey (x0:List AO) (x1 x2:Int) (x3:List O) (x4:List Y) (x5:List AG) (x6:List (List Int)) (x7:List O) (x8:List Y) (x9:List AG) (x10:List (List Int)) (x11:List Int):Option (AA×List Int×Bool):=Z2 ⟨[(4,.ptr 3 0),(7,.ptr 10 0),(11,.row 11),(39,.lst AT x0),(40,.int .i64 x1),(41,.int .i64 x2)],[.rows 42 U x3,.rows 97 AC x4,.rows 47 AM x5,.var [.lst (.slice (.int .i64)) x6,.row 0,.row 1,.row 2],.dead,.dead,.dead,.rows 42 U x7,.rows 97 AC x8,.rows 47 AM x9,.var [.lst (.slice (.int .i64)) x10,.row 7,.row 8,.row 9],.rows 3 (.int .i64) x11]⟩
def Pu (x0:List AO) (x1:List O) (x2:List Y) (x3:List AG) (x4:List (List Int)) (x5:List O) (x6:List Y) (x7:List AG) (x8:List (List Int)):Option (AA×List Int×Bool):=cG JY (AE Ay) (AE Ay) kx ⟨[(1,.lst AT x0),(4,.ptr 3 0),(7,.ptr 10 0)],[.rows 42 U x1,.rows 97 AC x2,.rows 47 AM x3,.var [.lst (.slice (.int .i64)) x4,.row 0,.row 1,.row 2],.dead,.dead,.dead,.rows 42 U x5,.rows 97 AC x6,.rows 47 AM x7,.var [.lst (.slice (.int .i64)) x8,.row 7,.row 8,.row 9]]⟩
def Ez (x0 x1:List AO) (x2 x3:Int) (x4:List O) (x5:List Y) (x6:List AG) (x7:List (List Int)) (x8:List O) (x9:List Y) (x10:List AG) (x11:List (List Int)):Option (AA×List Int×Bool):=Z3 ⟨[(1,.lst AT x0),(4,.ptr 3 0),(7,.ptr 10 0),(28,.lst AT x1),(29,.int .i64 x2),(30,.int .i64 x3)],[.rows 42 U x4,.rows 97 AC x5,.rows 47 AM x6,.var [.lst (.slice (.int .i64)) x7,.row 0,.row 1,.row 2],.dead,.dead,.dead,.rows 42 U x8,.rows 97 AC x9,.rows 47 AM x10,.var [.lst (.slice (.int .i64)) x11,.row 7,.row 8,.row 9]]⟩
def Pv (x0:List AO) (x1:Bool) (x2:List O) (x3:List Y) (x4:List AG) (x5:List (List Int)) (x6:List O) (x7:List Y) (x8:List AG) (x9:List (List Int)):Option (AA×List Int×Bool):=cG PS (AE Ay) (AE Ay) kx ⟨[(1,.lst AT x0),(4,.ptr 3 0),(7,.ptr 10 0),(26,.bool x1)],[.rows 42 U x2,.rows 97 AC x3,.rows 47 AM x4,.var [.lst (.slice (.int .i64)) x5,.row 0,.row 1,.row 2],.dead,.dead,.dead,.rows 42 U x6,.rows 97 AC x7,.rows 47 AM x8,.var [.lst (.slice (.int .i64)) x9,.row 7,.row 8,.row 9]]⟩
def Ji (x0:List AO) (x1 x2:Int) (x3:List O) (x4:List Y) (x5:List AG) (x6:List (List Int)) (x7:List O) (x8:List Y) (x9:List AG) (x10:List (List Int)) (x11:List Int):Option (AA×List Int×Bool):=(if (decide (x2<x1))=true then (if 0≤x2 then (if x2<(x0.length:Int) then ((Gn (x0.getD x2.toNat (0,0,0,0,ByteArray.empty,ByteArray.empty)) x2 (x10,x7,x8,x9)).bind fun y3=>((R7 y3.1).bind fun y4=>(if x11.length+([y4]:List Int).length≤68719476736 then (Ey x0 x1 (i64.wrap (x2+1)) x3 x4 x5 x6 y3.2.2.1 y3.2.2.2.1 y3.2.2.2.2 y3.2.1 (x11++([y4]:List Int))) else none))) else none) else none) else ((IM (x10,x7,x8,x9)).bind fun y5=>(some (y5,x11,true))))
def Pw (x0:List AO) (x1:List O) (x2:List Y) (x3:List AG) (x4:List (List Int)) (x5:List O) (x6:List Y) (x7:List AG) (x8:List (List Int)):Option (AA×List Int×Bool):=(Ey x0 (x0.length:Int) 0 x1 x2 x3 x4 x5 x6 x7 x8 ([]:List Int))
def Jj (x0 x1:List AO) (x2 x3:Int) (x4:List O) (x5:List Y) (x6:List AG) (x7:List (List Int)) (x8:List O) (x9:List Y) (x10:List AG) (x11:List (List Int)):Option (AA×List Int×Bool):=(if (decide (x3<x2))=true then (if 0≤x3 then (if x3<(x1.length:Int) then ((Pj (x1.getD x3.toNat (0,0,0,0,ByteArray.empty,ByteArray.empty))).bind fun y2=>(if (!y2)=true then (some (([],([]:List O),([]:List Y),([]:List AG)),[],false)) else (Ez x0 x1 x2 (i64.wrap (x3+1)) x4 x5 x6 x7 x8 x9 x10 x11))) else none) else none) else (Pu x0 x4 x5 x6 x7 x8 x9 x10 x11))
def Px (x0:List AO) (x1:Bool) (x2:List O) (x3:List Y) (x4:List AG) (x5:List (List Int)) (x6:List O) (x7:List Y) (x8:List AG) (x9:List (List Int)):Option (AA×List Int×Bool):=(Ez x0 x0 (x0.length:Int) 0 x2 x3 x4 x5 x6 x7 x8 x9)
def Vl (x0:List (List Int)) (x1:List AO):Option (AA×List Int×Bool):=((No x0).bind fun y1=>(if (!y1.2)=false then (if (decide ((x1.length:Int)>70))=true then (some (([],([]:List O),([]:List Y),([]:List AG)),[],false)) else (Pv x1 (decide ((x1.length:Int)>70)) ([]:List O) ([]:List Y) ([]:List AG) ([]:List (List Int)) y1.1.2.1 y1.1.2.2.1 y1.1.2.2.2 y1.1.1)) else (some (([],([]:List O),([]:List Y),([]:List AG)),[],false))))
theorem Py:wW Ji Ey:=lS (by kernel_rfl)
theorem Z4:wV Pw Pu:=jS (by kernel_rfl)
theorem Pz:wW Jj Ez:=lS (by kernel_rfl)
theorem Z5:sX Px Pv:=jS (by kernel_rfl)
theorem iX:QQ Vl Nm:=cT Ay rfl ⟨rfl,rfl⟩ (by kernel_rfl)
def b9:=cG PT (AE BF) (AE BF) kx
def b_:=kE 2 [(10,2)] [4,7,10] 3 b9 kx
def Z6:St→Option (RT (BM.outs BF)):=lG Qk [(10,2)] [1,4,7,10,11] 3 (AE BF) b_
def cA:=cG JZ (AE BF) (AE BF) kx
def RN:=kE 0 [] [1,4,7,8] 2 cA kx
def P0:St→Option (RT (BM.outs BF)):=lG Qj [] [1,4,7,8,9] 2 (AE BF) RN
def cB:=kB [] [1,4,7,8,9] 2 P0
def P1 (x0:List AO) (x1:Bool) (x2:Int) (x3:Bool) (x4 x5:AA):Option (AA×List Int×Bool):=cG Qi cB (AE BF) RN ⟨[(1,.lst AT x0),(4,.ptr 0 0),(7,.ptr 1 0),(8,.bool x1),(9,.int .i64 x2),(23,.bool x3)],[.var (Ab.enc x4),.var (Ab.enc x5)]⟩
def E0 (x0:List AO) (x1:Int) (x2 x3:AA) (x4:List Int):Option (AA×List Int×Bool):=Z6 ⟨[(1,.lst AT x0),(4,.ptr 0 0),(7,.ptr 1 0),(10,.row 2),(11,.int .i64 x1)],[.var (Ab.enc x2),.var (Ab.enc x3),.rows 3 (.int .i64) x4]⟩
def Gs (x0:List AO) (x1:Bool) (x2 x3:AA):Option (AA×List Int×Bool):=cG JZ (AE BF) (AE BF) kx ⟨[(1,.lst AT x0),(4,.ptr 0 0),(7,.ptr 1 0),(8,.bool x1)],[.var (Ab.enc x2),.var (Ab.enc x3)]⟩
def Da (x0:List AO) (x1:Bool) (x2:Int) (x3 x4:AA):Option (AA×List Int×Bool):=P0 ⟨[(1,.lst AT x0),(4,.ptr 0 0),(7,.ptr 1 0),(8,.bool x1),(9,.int .i64 x2)],[.var (Ab.enc x3),.var (Ab.enc x4)]⟩
def P2 (x0:List AO) (x1:Bool) (x2:Int) (x3:Bool) (x4 x5:AA):Option (AA×List Int×Bool):=(if (decide ((x0.length:Int)≤70))=true then (if 0≤x2 then (if x2<(x0.length:Int) then ((Pk (x0.getD x2.toNat (0,0,0,0,ByteArray.empty,ByteArray.empty))).bind fun y2=>(Da x0 y2 (i64.wrap (x2+1)) x4 x5)) else none) else none) else (Da x0 false (i64.wrap (x2+1)) x4 x5))
def Jk (x0:List AO) (x1:Int) (x2 x3:AA) (x4:List Int):Option (AA×List Int×Bool):=(if (decide (x1<(x0.length:Int)))=true then (if 0≤x1 then (if x1<(x0.length:Int) then ((Oz x1 (x0.getD x1.toNat (0,0,0,0,ByteArray.empty,ByteArray.empty)) x3).bind fun y3=>(if x4.length+([y3.1]:List Int).length≤68719476736 then (E0 x0 (i64.wrap (x1+1)) x2 y3.2 (x4++([y3.1]:List Int))) else none)) else none) else none) else ((Pl x3).bind fun y4=>(some (y4,x4,true))))
def P3 (x0:List AO) (x1:Bool) (x2 x3:AA):Option (AA×List Int×Bool):=(if (!x1)=true then (some ((([]:List (List Int)),([]:List O),([]:List Y),([]:List AG)),([]:List Int),false)) else (E0 x0 0 x2 x3 ([]:List Int)))
def Jl (x0:List AO) (x1:Bool) (x2:Int) (x3 x4:AA):Option (AA×List Int×Bool):=(if (decide (x2<(x0.length:Int)))=true then (if x1=true then (P1 x0 x1 x2 x1 x3 x4) else (Gs x0 x1 x3 x4)) else (Gs x0 x1 x3 x4))
def Vm (x0:List (List Int)) (x1:List AO):Option (AA×List Int×Bool):=((JK x0).bind fun y1=>(Da x1 y1.2 0 (([]:List (List Int)),([]:List O),([]:List Y),([]:List AG)) y1.1))
theorem Z7:rS P2 P1:=jS (by kernel_rfl)
theorem P4:qn Jk E0:=lS (by kernel_rfl)
theorem Z8:iF P3 Gs:=jS (by kernel_rfl)
theorem P5:qn Jl Da:=lS (by kernel_rfl)
theorem iY:QQ Vm Nn:=cT BF rfl ⟨rfl,rfl⟩ (by kernel_rfl)
def Jm (x0:Bool) (x1:O):Option Bool:=cG Ql (AE FM) (AE FM) kx ⟨[(1,.ptr 0 0),(30,.bool x0)],[.var (U.enc x1)]⟩
def P6 (x0:Bool) (x1:O):Option Bool:=(if x1.2.2.2.2.2.1=true then (if (!x1.2.2.2.1)=false then (if (!x1.2.2.2.2.1)=false then (if (decide ((x1.2.2.2.2.2.2.1.length:Int)>0))=false then (if x1.2.2.1=true then (if x1.2.2.2.1=false then (if x1.2.2.2.2.1=true then (some false) else ((Cw x1).bind fun y6=>(some y6.1))) else (some false)) else ((Cw x1).bind fun y7=>(some y7.1))) else (some false)) else (some false)) else (some false)) else (if x1.2.2.1=true then (if x1.2.2.2.1=false then (if x1.2.2.2.2.1=true then (some false) else ((Cw x1).bind fun y8=>(some y8.1))) else (some false)) else ((Cw x1).bind fun y9=>(some y9.1))))
def Vn (x0:O):Option Bool:=((Ef x0.1).bind fun y1=>(if (!y1)=false then ((Ae x0.2.1 1 9).bind fun y2=>(if (!y2)=false then ((Gp x0.2.2.2.2.2.2.1 1 6).bind fun y3=>(if (!y3)=false then ((Eu x0.2.2.2.2.2.2.2.1).bind fun y4=>(if (!y4)=false then ((Ae x0.2.2.2.2.2.2.2.2.1 0 900).bind fun y5=>(if (!y5)=true then (some false) else (Jm (!y5) x0))) else (some false))) else (some false))) else (some false))) else (some false)))
theorem Z9:QQ P6 Jm:=jS (by kernel_rfl)
theorem iZ:PN Vn FO:=cT FM rfl ⟨rfl,rfl⟩ (by kernel_rfl)
def Z_:=cG PV (AE Cq) (AE Cq) kx
def aA:=kE 0 [] [] 0 Z_ kx
def Yp:St→Option (RT (BM.outs Cq)):=lG PU [] [0,1,5] 0 (AE Cq) aA
def GA (x0 x1:List AG) (x2:Int):Option Bool:=Yp ⟨[(0,.lst AM x0),(1,.lst AM x1),(5,.int .i64 x2)],[]⟩
def In (x0 x1:List AG) (x2:Int):Option Bool:=(if (decide (x2<(x0.length:Int)))=true then (if 0≤x2 then (if x2<(x0.length:Int) then (if 0≤x2 then (if x2<(x1.length:Int) then (if (true != T8 AM (x0.getD x2.toNat (0,ByteArray.empty,ByteArray.empty,0,0,0,0,0,ByteArray.empty)) (x1.getD x2.toNat (0,ByteArray.empty,ByteArray.empty,0,0,0,0,0,ByteArray.empty)))=true then (some false) else (GA x0 x1 (i64.wrap (x2+1)))) else none) else none) else none) else none) else (some true))
def S9 (x0 x1:List AG):Option Bool:=(if ((x0.length:Int) != (x1.length:Int))=true then (some false) else (GA x0 x1 0))
theorem OP:PO In GA:=lS (by kernel_rfl)
theorem eu:QQ S9 MT:=cT Cq rfl ⟨rfl,rfl⟩ (by kernel_rfl)
def ia:=cG Sa (AE B9) (AE B9) kx
def Nu:=kE 0 [] [] 0 ia kx
def S_:St→Option (RT (BM.outs B9)):=lG SZ [] [0,7,8,9] 0 (AE B9) Nu
def ib:=kB [] [0,7,8,9] 0 S_
def Vo:=cG SY ib (AE B9) Nu
def ic:=kB [] [0,7,8,9] 0 Vo
def ie:=kE 1 [] [0,7,8,9] 0 Vo Nu
def Nv:=kE 2 [] [0,7,8,9] 1 ic ie
def TA:St→Option (RT (BM.outs B9)):=lG Uv [] [0,3,4,7,8,9,14,15,16] 1 (AE B9) Nv
def ig:=kB [] [0,3,4,7,8,9,14,15,16] 1 TA
def Vp:=cG Uu ig (AE B9) Nv
def ii:=kB [] [0,3,4,7,8,9,14,15,16] 1 Vp
def ew:=kE 3 [] [0,3,4,7,8,9,14,15,16] 1 Vp Nv
def MX (x0:List AG) (x1:Int) (x2:List AG) (x3 x4:Int) (x5:List AG) (x6 x7:Int) (x8:Bool) (x9 x10:AG):Option Bool:=cG Ut ii (AE B9) ew ⟨[(0,.lst AM x0),(3,.int .i64 x1),(4,.ptr 0 0),(6,.ptr 1 0),(7,.lst AM x2),(8,.int .i64 x3),(9,.int .i64 x4),(14,.lst AM x5),(15,.int .i64 x6),(16,.int .i64 x7),(33,.bool x8)],[.var (AM.enc x9),.var (AM.enc x10)]⟩
def Cx (x0:List AG) (x1:Int) (x2:List AG) (x3 x4:Int) (x5:List AG) (x6 x7:Int) (x8:AG):Option Bool:=TA ⟨[(0,.lst AM x0),(3,.int .i64 x1),(4,.ptr 0 0),(7,.lst AM x2),(8,.int .i64 x3),(9,.int .i64 x4),(14,.lst AM x5),(15,.int .i64 x6),(16,.int .i64 x7)],[.var (AM.enc x8)]⟩
def IR (x0 x1:List AG) (x2 x3:Int):Option Bool:=S_ ⟨[(0,.lst AM x0),(7,.lst AM x1),(8,.int .i64 x2),(9,.int .i64 x3)],[]⟩
def TB (x0:List AG) (x1:Int) (x2:List AG) (x3 x4:Int) (x5:List AG) (x6 x7:Int) (x8:Bool) (x9 x10:AG):Option Bool:=((Gm x9).bind fun y3=>((Gm x10).bind fun y4=>(if (y3==y4)=true then (some false) else (if (decide (x9.2.2.2.2.1<x10.2.2.2.1))=true then ((Gm x9).bind fun y5=>((Gm x10).bind fun y6=>(if (decide (y5>y6))=true then (some false) else (Cx x0 x1 x2 x3 x4 x5 x6 (i64.wrap (x7+1)) x9)))) else (Cx x0 x1 x2 x3 x4 x5 x6 (i64.wrap (x7+1)) x9)))))
def MY (x0:List AG) (x1:Int) (x2:List AG) (x3 x4:Int) (x5:List AG) (x6 x7:Int) (x8:AG):Option Bool:=(if (decide (x7<x6))=true then (if 0≤x7 then (if x7<(x5.length:Int) then (if (x1==x7)=false then ((M3 x8).bind fun y1=>(if (!y1)=false then ((M3 (x5.getD x7.toNat (0,ByteArray.empty,ByteArray.empty,0,0,0,0,0,ByteArray.empty))).bind fun y2=>(if (!y2)=true then (Cx x0 x1 x2 x3 x4 x5 x6 (i64.wrap (x7+1)) x8) else (MX x0 x1 x2 x3 x4 x5 x6 x7 (!y2) x8 (x5.getD x7.toNat (0,ByteArray.empty,ByteArray.empty,0,0,0,0,0,ByteArray.empty))))) else (Cx x0 x1 x2 x3 x4 x5 x6 (i64.wrap (x7+1)) x8))) else (Cx x0 x1 x2 x3 x4 x5 x6 (i64.wrap (x7+1)) x8)) else none) else none) else (IR x0 x2 x3 (i64.wrap (x4+1))))
def MZ (x0 x1:List AG) (x2 x3:Int):Option Bool:=(if (decide (x3<x2))=true then (if 0≤x3 then (if x3<(x1.length:Int) then (Cx x0 x3 x1 x2 x3 x0 (x0.length:Int) 0 (x1.getD x3.toNat (0,ByteArray.empty,ByteArray.empty,0,0,0,0,0,ByteArray.empty))) else none) else none) else (some true))
def ZN (x0:List AG):Option Bool:=(IR x0 x0 (x0.length:Int) 0)
theorem e_:xL TB MX:=jS (by kernel_rfl)
theorem TC:wV MY Cx:=lS (by kernel_rfl)
theorem TD:iF MZ IR:=lS (by kernel_rfl)
theorem m_:PN ZN M2:=cT B9 rfl ⟨rfl,rfl⟩ (by kernel_rfl)
def ij:=cG Se (AE B_) (AE B_) kx
def Nw:=kE 0 [] [] 0 ij kx
def TE:St→Option (RT (BM.outs B_)):=lG Sd [] [0,3] 0 (AE B_) Nw
def ik:=kB [] [0,3] 0 TE
def Vq:=cG Sc ik (AE B_) Nw
def il:=kB [] [0,3] 0 Vq
def im:=kE 1 [] [0,3] 0 Vq Nw
def Nx:=kE 2 [] [0,3] 0 il im
def TF:St→Option (RT (BM.outs B_)):=lG Sb [] [0,3,4] 0 (AE B_) Nx
def ip:=kB [] [0,3,4] 0 TF
def Vr:=cG Uy ip (AE B_) Nx
def iq:=kB [] [0,3,4] 0 Vr
def fA:=kE 3 [] [0,3,4] 0 Vr Nx
def Ma (x0:List AG) (x1 x2:Int) (x3:Bool) (x4 x5:AG):Option Bool:=cG Ux iq (AE B_) fA ⟨[(0,.lst AM x0),(3,.int .i64 x1),(4,.int .i64 x2),(5,.ptr 0 0),(6,.ptr 1 0),(39,.bool x3)],[.var (AM.enc x4),.var (AM.enc x5)]⟩
def Cy (x0:List AG) (x1 x2:Int):Option Bool:=TF ⟨[(0,.lst AM x0),(3,.int .i64 x1),(4,.int .i64 x2)],[]⟩
def IS (x0:List AG) (x1:Int):Option Bool:=TE ⟨[(0,.lst AM x0),(3,.int .i64 x1)],[]⟩
def TG (x0:List AG) (x1 x2:Int) (x3:Bool) (x4 x5:AG):Option Bool:=((IN x4).bind fun y1=>((IN x5).bind fun y2=>(if (y1==y2)=true then (some false) else (if (decide (x4.2.2.2.2.1<x5.2.2.2.1))=true then ((IN x4).bind fun y3=>((IN x5).bind fun y4=>(if (decide (y3≥y4))=true then (some false) else (Cy x0 x1 (i64.wrap (x2+1)))))) else (Cy x0 x1 (i64.wrap (x2+1)))))))
def Mb (x0:List AG) (x1 x2:Int):Option Bool:=(if (decide (x2<(x0.length:Int)))=true then (if 0≤x1 then (if x1<(x0.length:Int) then (if 0≤x2 then (if x2<(x0.length:Int) then (if (decide (((((((x0.getD x1.toNat (0,ByteArray.empty,ByteArray.empty,0,0,0,0,0,ByteArray.empty)).2).2).2).2).1)<0))=false then (if (decide (((((((x0.getD x2.toNat (0,ByteArray.empty,ByteArray.empty,0,0,0,0,0,ByteArray.empty)).2).2).2).2).1)<0))=false then (if (x1==x2)=true then (Cy x0 x1 (i64.wrap (x2+1))) else (Ma x0 x1 x2 (x1==x2) (x0.getD x1.toNat (0,ByteArray.empty,ByteArray.empty,0,0,0,0,0,ByteArray.empty)) (x0.getD x2.toNat (0,ByteArray.empty,ByteArray.empty,0,0,0,0,0,ByteArray.empty)))) else (Cy x0 x1 (i64.wrap (x2+1)))) else (Cy x0 x1 (i64.wrap (x2+1)))) else none) else none) else none) else none) else (IS x0 (i64.wrap (x1+1))))
def Mc (x0:List AG) (x1:Int):Option Bool:=(if (decide (x1<(x0.length:Int)))=true then (Cy x0 x1 0) else (some true))
def ZO (x0:List AG):Option Bool:=(IS x0 0)
theorem fB:rS TG Ma:=jS (by kernel_rfl)
theorem TH:PO Mb Cy:=lS (by kernel_rfl)
theorem TI:QQ Mc IS:=lS (by kernel_rfl)
theorem nA:PN ZO R5:=cT B_ rfl ⟨rfl,rfl⟩ (by kernel_rfl)
def cC (x0:AG):Option Int:=((Ae x0.2.2.2.2.2.2.1 0 9).bind fun y1=>(if (!y1)=false then ((Ae x0.2.2.2.2.2.2.2.1 0 999).bind fun y2=>(if (!y2)=true then (some 0) else (some (i64.wrap ((i64.wrap (1000*x0.2.2.2.2.2.2.1))+x0.2.2.2.2.2.2.2.1))))) else (some 0)))
theorem oz:PN cC Gm:=cT Oq rfl ⟨rfl,rfl⟩ (by kernel_rfl)
def fC:=cG Sg (AE Dn) (AE Dn) kx
def fD:=kE 0 [] [4,5] 6 fC kx
def cD:St→Option (RT (BM.outs Dn)):=lG Sf [] [0,4,5,6,8,9] 6 (AE Dn) fD
def D0 (x0 x1:Int) (x2:AN) (x3:List AO) (x4:List (List Int)) (x5:List AO) (x6:List (List Int)) (x7:AA):Option (UP×AN):=cD ⟨[(0,.ptr 0 0),(4,.ptr 2 0),(5,.ptr 4 0),(6,.ptr 5 0),(8,.int .i64 x0),(9,.int .i64 x1)],[.var (A_.enc x2),.rows 55 AT x3,.var [.lst (.slice (.int .i64)) x4,.row 1],.rows 55 AT x5,.var [.lst (.slice (.int .i64)) x6,.row 3],.var (Ab.enc x7)]⟩
def LG (x0 x1:Int) (x2:AN) (x3:List AO) (x4:List (List Int)) (x5:List AO) (x6:List (List Int)) (x7:AA):Option (UP×AN):=(if (decide (x1<x0))=true then ((Pm x2 x7).bind fun y3=>((Oz x1 y3.1 y3.2.2).bind fun y4=>(if x5.length+([y3.1]:List AO).length≤68719476736 then (D0 x0 (i64.wrap (x1+1)) y3.2.1 x3 x4 (x5++([y3.1]:List AO)) x6 y4.2) else none))) else (some ((x6,x5),x2)))
def P7 (x1:List Int) (b0:AN):Option (UP×AN):=((Np b0).bind fun y1=>((JK y1.1).bind fun y2=>(if 4=0 then none else (if (decide ((i64.wrap (20+(i64.wrap (Int.tdiv (x1.length:Int) 4))))>69))=true then (D0 69 0 y1.2 ([]:List AO) ([]:List (List Int)) ([]:List AO) y1.1 y2.1) else (D0 (i64.wrap (20+(i64.wrap (Int.tdiv (x1.length:Int) 4)))) 0 y1.2 ([]:List AO) ([]:List (List Int)) ([]:List AO) y1.1 y2.1)))))
theorem RO:sW LG D0:=lS (by kernel_rfl)
theorem XZ:QQ P7 Pi:=cT Dn rfl ⟨rfl,rfl⟩ (by kernel_rfl)
def ir:=cG U1 (AE Dg) (AE Dg) kx
def Vs:=kE 0 [] [0,3] 0 ir kx
def TJ:St→Option (RT (BM.outs Dg)):=lG U0 [] [0,3,4] 0 (AE Dg) Vs
def iu:=kB [] [0,3,4] 0 TJ
def TK (x0:List Int) (x1 x2:Int) (x3:Bool):Option AN:=cG Uz iu (AE Dg) Vs ⟨[(0,.lst (.int .u8) x0),(3,.int .i64 x1),(4,.int .i64 x2),(15,.bool x3)],[]⟩
def IU (x0:List Int) (x1 x2:Int):Option AN:=TJ ⟨[(0,.lst (.int .u8) x0),(3,.int .i64 x1),(4,.int .i64 x2)],[]⟩
def TL (x0:List Int) (x1 x2:Int) (x3:Bool):Option AN:=(if 0≤x2 then (if x2<(x0.length:Int) then (IU x0 (KQ .i64 (i64.wrap ((i64.wrap ((i64.wrap (x1*131))+(i64.wrap (x0.getD x2.toNat 0))))+7)) 1073741823) (i64.wrap (x2+1))) else none) else none)
def IV (x0:List Int) (x1 x2:Int):Option AN:=(if (decide (x2<(x0.length:Int)))=true then (if (decide (x2<4000))=true then (TK x0 x1 x2 (decide (x2<4000))) else (some (x0,0,x1))) else (some (x0,0,x1)))
def nB (x0:List Int):Option AN:=(IU x0 (i64.wrap (14301+(x0.length:Int))) 0)
theorem fE:iF TL TK:=jS (by kernel_rfl)
theorem Md:PO IV IU:=lS (by kernel_rfl)
theorem nC:PN nB R6:=cT Dg rfl ⟨rfl,rfl⟩ (by kernel_rfl)
def cE:=cG Qn (AE DK) (AE DK) kx
def cH:=kE 0 [] [2,4] 8 cE kx
def aB:St→Option (RT (BM.outs DK)):=lG Qm [] [0,2,4,5] 8 (AE DK) cH
def E1 (x0:List (List Int)) (x1:Int) (x2:List O) (x3:List Y) (x4:List AG) (x5:List (List Int)) (x6:List O) (x7:List Y) (x8:List AG) (x9:List (List Int)):Option (AA×Bool):=aB ⟨[(0,.lst (.slice (.int .i64)) x0),(2,.ptr 3 0),(4,.ptr 7 0),(5,.int .i64 x1)],[.rows 42 U x2,.rows 97 AC x3,.rows 47 AM x4,.var [.lst (.slice (.int .i64)) x5,.row 0,.row 1,.row 2],.rows 42 U x6,.rows 97 AC x7,.rows 47 AM x8,.var [.lst (.slice (.int .i64)) x9,.row 4,.row 5,.row 6]]⟩
def Jn (x0:List (List Int)) (x1:Int) (x2:List O) (x3:List Y) (x4:List AG) (x5:List (List Int)) (x6:List O) (x7:List Y) (x8:List AG) (x9:List (List Int)):Option (AA×Bool):=(if (decide (x1≤6))=true then ((MU x1 x0).bind fun y3=>(if x6.length+([y3.1]:List O).length≤68719476736 then (E1 x0 (i64.wrap (x1+1)) x2 x3 x4 x5 (x6++([y3.1]:List O)) x7 x8 x9) else none)) else (some ((x9,x6,x7,x8),true)))
def Vt (x0:List (List Int)):Option (AA×Bool):=((Du x0).bind fun y1=>(if (!y1)=true then (some (([],([]:List O),([]:List Y),([]:List AG)),false)) else ((IP x0).bind fun y2=>(E1 x0 1 ([]:List O) ([]:List Y) ([]:List AG) ([]:List (List Int)) ([]:List O) ([]:List Y) ([]:List AG) y2))))
theorem P8:sX Jn E1:=lS (by kernel_rfl)
theorem iv:PN Vt No:=cT DK rfl ⟨rfl,rfl⟩ (by kernel_rfl)
def LH (x0:Bool) (x1:AO):Option Bool:=cG Sh (AE GG) (AE GG) kx ⟨[(1,.ptr 0 0),(17,.bool x0)],[.var (AT.enc x1)]⟩
def RP (x0:Bool) (x1:AO):Option Bool:=(if (x1.1==1)=true then ((K7 x1.2.2.2.1 0 x1.2.2.2.2.1 x1.2.2.2.2.2).bind fun y3=>(some y3)) else (if (x1.2.2.2.1==0)=true then (if (x1.2.2.2.2.1.toList==(⟨#[]⟩:ByteArray).toList)=true then (some (x1.2.2.2.2.2.toList==(⟨#[]⟩:ByteArray).toList)) else (some false)) else (some false)))
def Xa (x0:AO):Option Bool:=((Ae x0.1 1 6).bind fun y1=>(if (!y1)=false then ((Ef x0.2.1).bind fun y2=>(if (!y2)=false then (if (decide (x0.2.2.1<0))=true then (some false) else (LH (decide (x0.2.2.1<0)) x0)) else (some false))) else (some false)))
theorem cI:QQ RP LH:=jS (by kernel_rfl)
theorem lV:PN Xa Pj:=cT GG rfl ⟨rfl,rfl⟩ (by kernel_rfl)
def P9 (x1:AO) (x2:Int) (b0:AA):Option (Bool×AA):=(if (x1.1==1)=true then ((Ja x1 x2 b0).bind fun y1=>(some (y1.1,y1.2))) else (if (x1.1==5)=true then ((Jb x1 x2 b0).bind fun y2=>(some (y2.1,y2.2))) else (if (x1.1==6)=true then ((Bi x1.2.1 b0).bind fun y3=>(if 0≤y3.1 then (if y3.1<(y3.2.2.1.length:Int) then ((RM (y3.2.2.1.getD y3.1.toNat (0,0,false,false,false,false,([]:List Int),([]:List X),0,0,0,0,(ByteArray.empty,ByteArray.empty,0),([]:List Int)))).bind fun y4=>(if 0≤y3.1 then (if y3.1<(y3.2.2.1.length:Int) then (let z5:List O:=y3.2.2.1.set y3.1.toNat y4; (some (true,(y3.2.1,z5,y3.2.2.2)))) else none) else none)) else none) else none)) else ((Hr x1 x2 b0).bind fun y6=>(some (y6.1,y6.2))))))
theorem aC:PO P9 Gn:=cT Gj rfl ⟨rfl,rfl⟩ (by kernel_rfl)
def ZP (x0:Bool):Option Int:=(if x0=true then (some 0) else (some 1))
theorem nD:PN ZP R7:=cT My rfl ⟨rfl,rfl⟩ (by kernel_rfl)
def aD:=cG OE (AE BD) (AE BD) kx
def aE:=kE 2 [] [2,3] 10 aD kx
def Yq:St→Option (RT (BM.outs BD)):=lG OD [] [2,3,31,32,33] 10 (AE BD) aE
def aF:=cG Il (AE BD) (AE BD) kx
def aG:=kE 0 [] [1,2,3] 10 aF kx
def Yr:St→Option (RT (BM.outs BD)):=lG PW [] [1,2,3,16,17,18] 10 (AE BD) aG
def DH (x0:List Y) (x1 x2:Int) (x3:List (List Int)) (x4:List O) (x5:List Y) (x6:List AG) (x7:List O) (x8:List Y) (x9:List AG) (x10:List (List Int)) (x11:List O) (x12:List Y) (x13:List AG) (x14:List (List Int)):Option AA:=Yq ⟨[(2,.ptr 4 0),(3,.ptr 9 0),(31,.lst AC x0),(32,.int .i64 x1),(33,.int .i64 x2)],[.var [.lst (.slice (.int .i64)) x3,.lst U x4,.lst AC x5,.lst AM x6],.rows 42 U x7,.rows 97 AC x8,.rows 47 AM x9,.var [.lst (.slice (.int .i64)) x10,.row 1,.row 2,.row 3],.dead,.rows 42 U x11,.rows 97 AC x12,.rows 47 AM x13,.var [.lst (.slice (.int .i64)) x14,.row 6,.row 7,.row 8]]⟩
def OQ (x0:List (List Int)) (x1:List O) (x2:List Y) (x3:List AG) (x4:List O) (x5:List Y) (x6:List AG) (x7:List (List Int)) (x8:List O) (x9:List Y) (x10:List AG) (x11:List (List Int)):Option AA:=cG Il (AE BD) (AE BD) kx ⟨[(1,.ptr 0 0),(2,.ptr 4 0),(3,.ptr 9 0)],[.var [.lst (.slice (.int .i64)) x0,.lst U x1,.lst AC x2,.lst AM x3],.rows 42 U x4,.rows 97 AC x5,.rows 47 AM x6,.var [.lst (.slice (.int .i64)) x7,.row 1,.row 2,.row 3],.dead,.rows 42 U x8,.rows 97 AC x9,.rows 47 AM x10,.var [.lst (.slice (.int .i64)) x11,.row 6,.row 7,.row 8]]⟩
def DI (x0:List O) (x1 x2:Int) (x3:List (List Int)) (x4:List O) (x5:List Y) (x6:List AG) (x7:List O) (x8:List Y) (x9:List AG) (x10:List (List Int)) (x11:List O) (x12:List Y) (x13:List AG) (x14:List (List Int)):Option AA:=Yr ⟨[(1,.ptr 0 0),(2,.ptr 4 0),(3,.ptr 9 0),(16,.lst U x0),(17,.int .i64 x1),(18,.int .i64 x2)],[.var [.lst (.slice (.int .i64)) x3,.lst U x4,.lst AC x5,.lst AM x6],.rows 42 U x7,.rows 97 AC x8,.rows 47 AM x9,.var [.lst (.slice (.int .i64)) x10,.row 1,.row 2,.row 3],.dead,.rows 42 U x11,.rows 97 AC x12,.rows 47 AM x13,.var [.lst (.slice (.int .i64)) x14,.row 6,.row 7,.row 8]]⟩
def Io (x0:List Y) (x1 x2:Int) (x3:List (List Int)) (x4:List O) (x5:List Y) (x6:List AG) (x7:List O) (x8:List Y) (x9:List AG) (x10:List (List Int)) (x11:List O) (x12:List Y) (x13:List AG) (x14:List (List Int)):Option AA:=(if (decide (x2<x1))=true then (if 0≤x2 then (if x2<(x0.length:Int) then ((GO (x0.getD x2.toNat (0,0,0,0,0,([]:List X)))).bind fun y4=>(if x12.length+([y4]:List Y).length≤68719476736 then (DH x0 x1 (i64.wrap (x2+1)) x3 x4 x5 x6 x7 x8 x9 x10 x11 (x12++([y4]:List Y)) x13 x14) else none)) else none) else none) else (some (x14,x11,x12,x13)))
def OR (x0:List (List Int)) (x1:List O) (x2:List Y) (x3:List AG) (x4:List O) (x5:List Y) (x6:List AG) (x7:List (List Int)) (x8:List O) (x9:List Y) (x10:List AG) (x11:List (List Int)):Option AA:=(DH x2 (x2.length:Int) 0 x0 x1 x2 x3 x4 x5 x6 x7 x8 x9 x10 x11)
def Ip (x0:List O) (x1 x2:Int) (x3:List (List Int)) (x4:List O) (x5:List Y) (x6:List AG) (x7:List O) (x8:List Y) (x9:List AG) (x10:List (List Int)) (x11:List O) (x12:List Y) (x13:List AG) (x14:List (List Int)):Option AA:=(if (decide (x2<x1))=true then (if 0≤x2 then (if x2<(x0.length:Int) then ((Cb (x0.getD x2.toNat (0,0,false,false,false,false,([]:List Int),([]:List X),0,0,0,0,(ByteArray.empty,ByteArray.empty,0),([]:List Int)))).bind fun y3=>(if x11.length+([y3]:List O).length≤68719476736 then (DI x0 x1 (i64.wrap (x2+1)) x3 x4 x5 x6 x7 x8 x9 x10 (x11++([y3]:List O)) x12 x13 x14) else none)) else none) else none) else (OQ x3 x4 x5 x6 x7 x8 x9 x10 x11 x12 x13 x14))
def TM (x0:AA):Option AA:=((IP x0.1).bind fun y1=>((Cn x0.2.2.2).bind fun y2=>(DI x0.2.1 (x0.2.1.length:Int) 0 x0.1 x0.2.1 x0.2.2.1 x0.2.2.2 ([]:List O) ([]:List Y) ([]:List AG) ([]:List (List Int)) ([]:List O) ([]:List Y) y2 y1)))
theorem OS:xM Io DH:=lS (by kernel_rfl)
theorem Ys:wW OR OQ:=jS (by kernel_rfl)
theorem OT:xM Ip DI:=lS (by kernel_rfl)
theorem fF:PN TM IM:=cT BD rfl ⟨rfl,rfl⟩ (by kernel_rfl)
def cJ:=cG Qp (AE DL) (AE DL) kx
def cK:=kE 0 [] [2,4] 4 cJ kx
def aH:St→Option (RT (BM.outs DL)):=lG Qo [] [0,2,4,5] 4 (AE DL) cK
def E2 (x0:List (List Int)) (x1:Int) (x2:List O) (x3:List (List Int)) (x4:List Y) (x5:List AG) (x6:List O) (x7:List (List Int)):Option (AA×Bool):=aH ⟨[(0,.lst (.slice (.int .i64)) x0),(2,.ptr 1 0),(4,.ptr 3 0),(5,.int .i64 x1)],[.rows 42 U x2,.var [.lst (.slice (.int .i64)) x3,.row 0,.lst AC x4,.lst AM x5],.rows 42 U x6,.var [.lst (.slice (.int .i64)) x7,.row 2,.nil,.nil]]⟩
def Jo (x0:List (List Int)) (x1:Int) (x2:List O) (x3:List (List Int)) (x4:List Y) (x5:List AG) (x6:List O) (x7:List (List Int)):Option (AA×Bool):=(if (decide (x1≤6))=true then ((MV x1 x0).bind fun y3=>(if x6.length+([y3.1]:List O).length≤68719476736 then (E2 x0 (i64.wrap (x1+1)) x2 x3 x4 x5 (x6++([y3.1]:List O)) x7) else none)) else (some ((x7,x6,[],[]),true)))
def Vu (x0:List (List Int)):Option (AA×Bool):=((Dv x0).bind fun y1=>(if (!y1)=true then (some (([],([]:List O),[],[]),false)) else ((F_ x0).bind fun y2=>(E2 x0 1 ([]:List O) ([]:List (List Int)) ([]:List Y) ([]:List AG) ([]:List O) y2))))
theorem P_:sW Jo E2:=lS (by kernel_rfl)
theorem iw:PN Vu JK:=cT DL rfl ⟨rfl,rfl⟩ (by kernel_rfl)
def LI (x0:Bool) (x1:AO):Option Bool:=cG Si (AE GH) (AE GH) kx ⟨[(1,.ptr 0 0),(17,.bool x0)],[.var (AT.enc x1)]⟩
def RQ (x0:Bool) (x1:AO):Option Bool:=(if (x1.1 != 1)=true then (if (x1.2.2.2.1==0)=true then (if (x1.2.2.2.2.1.toList==(⟨#[]⟩:ByteArray).toList)=true then (some (x1.2.2.2.2.2.toList==(⟨#[]⟩:ByteArray).toList)) else (some false)) else (some false)) else (if (x1.2.2.2.1==1)=false then (if (x1.2.2.2.1==2)=true then ((AR (x1.2.2.2.2.1.size:Int) 1 12).bind fun y3=>(if y3=true then (if (decide ((x1.2.2.2.2.2.size:Int)≤20))=true then (if (x1.2.2.2.1==1)=false then (some (x1.2.2.2.2.2.toList==(⟨#[]⟩:ByteArray).toList)) else (some true)) else (some false)) else (some false))) else (some false)) else ((AR (x1.2.2.2.2.1.size:Int) 1 12).bind fun y4=>(if y4=true then (if (decide ((x1.2.2.2.2.2.size:Int)≤20))=true then (if (x1.2.2.2.1==1)=false then (some (x1.2.2.2.2.2.toList==(⟨#[]⟩:ByteArray).toList)) else (some true)) else (some false)) else (some false)))))
def Xb (x0:AO):Option Bool:=((AR x0.1 1 6).bind fun y1=>(if (!y1)=false then ((AR x0.2.1 1 6).bind fun y2=>(if (!y2)=false then (if (decide (x0.2.2.1<0))=true then (some false) else (LI (decide (x0.2.2.1<0)) x0)) else (some false))) else (some false)))
theorem cL:QQ RQ LI:=jS (by kernel_rfl)
theorem lW:PN Xb Pk:=cT GH rfl ⟨rfl,rfl⟩ (by kernel_rfl)
def LJ (x1:Int) (x2:AO) (b0:AA):Option (Int×AA):=(if (x2.1==1)=true then ((Nq x1 x2 b0).bind fun y1=>(some (y1.1,y1.2))) else (if (x2.1==5)=true then ((Nr x1 x2.2.1 b0).bind fun y2=>(some (y2.1,y2.2))) else (if (x2.1==6)=true then (if 0≤(i64.wrap (x2.2.1-1)) then (if (i64.wrap (x2.2.1-1))<(b0.2.1.length:Int) then ((XY (b0.2.1.getD (i64.wrap (x2.2.1-1)).toNat (0,0,false,false,false,false,([]:List Int),([]:List X),0,0,0,0,(ByteArray.empty,ByteArray.empty,0),([]:List Int)))).bind fun y3=>((En y3 ([]:List Y) ([]:List AD) x1 b0).bind fun y4=>(some (0,y4)))) else none) else none) else ((R8 x1 x2 b0).bind fun y5=>(some (y5.1,y5.2))))))
theorem O4:PO LJ Oz:=cT Ot rfl ⟨rfl,rfl⟩ (by kernel_rfl)
def fG:=cG Sk (AE Do) (AE Do) kx
def fH:=kE 0 [] [2,3] 6 fG kx
def cM:St→Option (RT (BM.outs Do)):=lG Sj [] [1,2,3,4] 6 (AE Do) fH
def Fi (x0:Int) (x1:List (List Int)) (x2:List O) (x3:List Y) (x4:List AG) (x5:List O) (x6:List (List Int)) (x7:List Y) (x8 x9:List AG) (x10:List O) (x11:List (List Int)) (x12:List Y) (x13:List AG):Option AA:=cM ⟨[(1,.ptr 0 0),(2,.ptr 2 0),(3,.ptr 5 0),(4,.int .i64 x0)],[.var [.lst (.slice (.int .i64)) x1,.lst U x2,.lst AC x3,.lst AM x4],.rows 42 U x5,.var [.lst (.slice (.int .i64)) x6,.row 1,.lst AC x7,.lst AM x8],.frz AM x9,.rows 42 U x10,.var [.lst (.slice (.int .i64)) x11,.row 4,.lst AC x12,.lst AM x13]]⟩
def LK (x0:Int) (x1:List (List Int)) (x2:List O) (x3:List Y) (x4:List AG) (x5:List O) (x6:List (List Int)) (x7:List Y) (x8 x9:List AG) (x10:List O) (x11:List (List Int)) (x12:List Y) (x13:List AG):Option AA:=(if (decide (x0<(x2.length:Int)))=true then (if 0≤x0 then (if x0<(x2.length:Int) then ((C6 (x2.getD x0.toNat (0,0,false,false,false,false,([]:List Int),([]:List X),0,0,0,0,(ByteArray.empty,ByteArray.empty,0),([]:List Int)))).bind fun y3=>(if x10.length+([y3]:List O).length≤68719476736 then (Fi (i64.wrap (x0+1)) x1 x2 x3 x4 x5 x6 x7 x8 x9 (x10++([y3]:List O)) x11 x12 x13) else none)) else none) else none) else (some (x11,x10,x12,x13)))
def Xc (x0:AA):Option AA:=((F_ x0.1).bind fun y1=>((Jc x0.2.2.1).bind fun y2=>(if ([]:List AG).length+x0.2.2.2.length≤68719476736 then (Fi 0 x0.1 x0.2.1 x0.2.2.1 x0.2.2.2 ([]:List O) ([]:List (List Int)) ([]:List Y) ([]:List AG) (([]:List AG)++x0.2.2.2) ([]:List O) y1 y2 (([]:List AG)++x0.2.2.2)) else none)))
theorem RR:xg LK Fi:=lS (by kernel_rfl)
theorem lX:PN Xc Pl:=cT Do rfl ⟨rfl,rfl⟩ (by kernel_rfl)
def ZQ (x0:Int):Option Bool:=((Ae x0 1 6).bind fun y1=>(some y1))
theorem nE:PN ZQ Ef:=cT Mz rfl ⟨rfl,rfl⟩ (by kernel_rfl)
def Xd (x0 x1 x2:Int):Option Bool:=(if (decide (x0≥x1))=true then (some (decide (x0≤x2))) else (some false))
theorem lY:PO Xd Ae:=cT Ko rfl ⟨rfl,rfl⟩ (by kernel_rfl)
def Xe:=cG NF (AE CH) (AE CH) kx
def Xf:=kE 0 [] [] 0 Xe kx
def WZ:St→Option (RT (BM.outs CH)):=lG NE [] [0,1,2,9,10,11] 0 (AE CH) Xf
def DQ (x0:List Int) (x1 x2:Int) (x3:List Int) (x4 x5:Int):Option Bool:=WZ ⟨[(0,.lst (.int .i64) x0),(1,.int .i64 x1),(2,.int .i64 x2),(9,.lst (.int .i64) x3),(10,.int .i64 x4),(11,.int .i64 x5)],[]⟩
def HF (x0:List Int) (x1 x2:Int) (x3:List Int) (x4 x5:Int):Option Bool:=(if (decide (x5<x4))=true then (if 0≤x5 then (if x5<(x3.length:Int) then ((Ae (x3.getD x5.toNat 0) x1 x2).bind fun y1=>(if (!y1)=false then (if (decide (x5>0))=true then (if 0≤(i64.wrap (x5-1)) then (if (i64.wrap (x5-1))<(x0.length:Int) then (if (decide ((x3.getD x5.toNat 0)≤(x0.getD (i64.wrap (x5-1)).toNat 0)))=true then (some false) else (DQ x0 x1 x2 x3 x4 (i64.wrap (x5+1)))) else none) else none) else (DQ x0 x1 x2 x3 x4 (i64.wrap (x5+1)))) else (some false))) else none) else none) else (some true))
def QA (x0:List Int) (x1 x2:Int):Option Bool:=(DQ x0 x1 x2 x0 (x0.length:Int) 0)
theorem L9:rS HF DQ:=lS (by kernel_rfl)
theorem aI:PO QA Gp:=cT CH rfl ⟨rfl,rfl⟩ (by kernel_rfl)
def fI:=cG Qu (AE Dp) (AE Dp) kx
def fJ:=kE 0 [] [0] 0 fI kx
def cN:St→Option (RT (BM.outs Dp)):=lG Qt [] [0,5,6,7] 0 (AE Dp) fJ
def Fj (x0 x1:List X) (x2 x3:Int):Option Bool:=cN ⟨[(0,.lst AB x0),(5,.lst AB x1),(6,.int .i64 x2),(7,.int .i64 x3)],[]⟩
def LL (x0 x1:List X) (x2 x3:Int):Option Bool:=(if (decide (x3<x2))=true then (if 0≤x3 then (if x3<(x1.length:Int) then ((O0 ((x1.getD x3.toNat (ByteArray.empty,ByteArray.empty,0)).1)).bind fun y1=>(if (!y1)=true then (some false) else (if (decide (((((x1.getD x3.toNat (ByteArray.empty,ByteArray.empty,0)).2).1).size:Int)>20))=true then (some false) else ((Ae (((x1.getD x3.toNat (ByteArray.empty,ByteArray.empty,0)).2).2) 1 1000000000).bind fun y2=>(if (!y2)=true then (some false) else (if (decide (x3>0))=true then (if 0≤(i64.wrap (x3-1)) then (if (i64.wrap (x3-1))<(x0.length:Int) then (if ((Op.bytesLess ((x1.getD x3.toNat (ByteArray.empty,ByteArray.empty,0)).1).toList ((x0.getD (i64.wrap (x3-1)).toNat (ByteArray.empty,ByteArray.empty,0)).1).toList)||(((x1.getD x3.toNat (ByteArray.empty,ByteArray.empty,0)).1).toList==((x0.getD (i64.wrap (x3-1)).toNat (ByteArray.empty,ByteArray.empty,0)).1).toList))=true then (some false) else (Fj x0 x1 x2 (i64.wrap (x3+1)))) else none) else none) else (Fj x0 x1 x2 (i64.wrap (x3+1))))))))) else none) else none) else (some (decide ((x0.length:Int)≤12))))
def Xg (x0:List X):Option Bool:=(Fj x0 x0 (x0.length:Int) 0)
theorem RS:iF LL Fj:=lS (by kernel_rfl)
theorem lZ:PN Xg Eu:=cT Dp rfl ⟨rfl,rfl⟩ (by kernel_rfl)
def NO (b0:O):Option (Bool×O):=(if (b0.2.2.2.2.2.2.2.2.2.1==0)=true then (if (b0.2.2.2.2.2.2.2.2.2.2.1==0)=true then (if (b0.2.2.2.2.2.2.2.2.2.2.2.1==0)=true then (if (false != T8 AB b0.2.2.2.2.2.2.2.2.2.2.2.2.1 (ByteArray.empty,ByteArray.empty,0))=true then (some (((b0.2.2.2.2.2.2.2.2.2.2.2.2.2.length:Int)==0),b0)) else (some (false,b0))) else (some (false,b0))) else (some (false,b0))) else ((Ae b0.2.2.2.2.2.2.2.2.2.1 1 2).bind fun y1=>(if y1=true then (if b0.2.2.2.2.2.1=true then ((Ae b0.2.2.2.2.2.2.2.2.2.2.1 0 1000).bind fun y2=>(if y2=true then ((Ae b0.2.2.2.2.2.2.2.2.2.2.2.1 1 900).bind fun y3=>(if y3=true then ((Gp b0.2.2.2.2.2.2.2.2.2.2.2.2.2 1 6).bind fun y4=>(some (y4,b0))) else (some (false,b0)))) else (some (false,b0)))) else (some (false,b0))) else (some (false,b0)))))
theorem Xh:PN NO Cw:=cT Fa rfl ⟨rfl,rfl⟩ (by kernel_rfl)
def nF (x0:AG):Option Bool:=(some (decide (x0.2.2.2.2.1≥0)))
theorem nG:PN nF M3:=cT M0 rfl ⟨rfl,rfl⟩ (by kernel_rfl)
def cO (x0:AG):Option Int:=((AR x0.2.2.2.2.2.2.1 0 9).bind fun y1=>(if (!y1)=false then ((AR x0.2.2.2.2.2.2.2.1 0 999).bind fun y2=>(if (!y2)=true then (some 0) else (some (i64.wrap ((i64.wrap (1000*x0.2.2.2.2.2.2.1))+x0.2.2.2.2.2.2.2.1))))) else (some 0)))
theorem o4:PN cO IN:=cT Ou rfl ⟨rfl,rfl⟩ (by kernel_rfl)
def NP (x1 x2:Int) (b0:AA):Option AA:=(if 0≤x1 then (if x1<(b0.2.2.1.length:Int) then ((BU b0.2.2.1 x1 (i64.wrap (x1+1))).bind fun y1=>((Bi ((((b0.2.2.1.getD x1.toNat (0,0,0,0,0,([]:List X))).2).2).1) (b0.1,b0.2.1,y1,b0.2.2.2)).bind fun y2=>(if (decide (y2.1≥0))=true then (if 0≤y2.1 then (if y2.1<(y2.2.2.1.length:Int) then ((K8 (y2.2.2.1.getD y2.1.toNat (0,0,false,false,false,false,([]:List Int),([]:List X),0,0,0,0,(ByteArray.empty,ByteArray.empty,0),([]:List Int))) y2.2.1 (b0.2.2.1.getD x1.toNat (0,0,0,0,0,([]:List X)))).bind fun y3=>(if 0≤y2.1 then (if y2.1<(y2.2.2.1.length:Int) then (let z4:List O:=y2.2.2.1.set y2.1.toNat y3.1; ((Ff y3.2.1 y3.2.2 x2 (y2.2.1,z4,y2.2.2.2)).bind fun y5=>(some y5))) else none) else none)) else none) else none) else (some y2.2)))) else none) else none)
theorem Xi:PO NP Hq:=cT Fb rfl ⟨rfl,rfl⟩ (by kernel_rfl)
def cQ (x0 x1 x2:Int):Option Bool:=(if (decide (x0≥x1))=true then (some (decide (x0≤x2))) else (some false))
theorem o5:PO cQ AR:=cT Ov rfl ⟨rfl,rfl⟩ (by kernel_rfl)
def If (x0:List Int) (x1:Int):Option Bool:=((C7 x0 x1).bind fun y1=>(some (decide (y1≥0))))
theorem QS:QQ If CT:=cT DP rfl ⟨rfl,rfl⟩ (by kernel_rfl)
def la:=cG XI (AE Fc) (AE Fc) kx
def lc:=kE 0 [] [] 0 la kx
def ix:St→Option (RT (BM.outs Fc)):=lG XH [] [0,1,5] 0 (AE Fc) lc
def JM (x0:List Int) (x1 x2:Int):Option Bool:=ix ⟨[(0,.lst (.int .i64) x0),(1,.int .i64 x1),(5,.int .i64 x2)],[]⟩
def Ny (x0:List Int) (x1 x2:Int):Option Bool:=(if (decide (x2<(x0.length:Int)))=true then (if 0≤x2 then (if x2<(x0.length:Int) then (if ((x0.getD x2.toNat 0)==x1)=true then (some true) else (JM x0 x1 (i64.wrap (x2+1)))) else none) else none) else (some false))
def cR (x0:List Int) (x1:Int):Option Bool:=(JM x0 x1 0)
theorem Vv:PO Ny JM:=lS (by kernel_rfl)
theorem o6:QQ cR Di:=cT Fc rfl ⟨rfl,rfl⟩ (by kernel_rfl)
end
end Go.Proofs.YtokiohnjegbnpaaGreat.Core

namespace Go.Proofs.YtokiohnjegbnpaaGreat.Core
open Go IntKind
set_option linter.unusedVariables false
set_option maxRecDepth 100000
noncomputable section
def QB (b0:AN):Option (Int×AN):=(if 33<0 then none else (if 45<0 then none else (if (decide (b0.2.1<(b0.1.length:Int)))=true then (if 0≤b0.2.1 then (if b0.2.1<(b0.1.length:Int) then (some ((KQ .i64 (i64.wrap ((KQ .i64 (au .i64 (Int.fdiv (i64.wrap ((i64.wrap (b0.2.2*6364136223846793005))+1442695040888963407)) (2^(min (33:Int).toNat (IntKind.bits .i64)))) (Int.fdiv (i64.wrap ((i64.wrap (b0.2.2*6364136223846793005))+1442695040888963407)) (2^(min (45:Int).toNat (IntKind.bits .i64))))) 255)+(i64.wrap (b0.1.getD b0.2.1.toNat 0)))) 255),(b0.1,(i64.wrap (b0.2.1+1)),(i64.wrap ((i64.wrap (b0.2.2*6364136223846793005))+1442695040888963407))))) else none) else none) else (some ((KQ .i64 (au .i64 (Int.fdiv (i64.wrap ((i64.wrap (b0.2.2*6364136223846793005))+1442695040888963407)) (2^(min (33:Int).toNat (IntKind.bits .i64)))) (Int.fdiv (i64.wrap ((i64.wrap (b0.2.2*6364136223846793005))+1442695040888963407)) (2^(min (45:Int).toNat (IntKind.bits .i64))))) 255),(b0.1,b0.2.1,(i64.wrap ((i64.wrap (b0.2.2*6364136223846793005))+1442695040888963407))))))))
theorem ld:PN QB Ew:=cT Kp rfl ⟨rfl,rfl⟩ (by kernel_rfl)
def Nz (x1:Int) (b0:AN):Option (Int×AN):=(if (decide (x1≤0))=true then (some (0,b0)) else (if (decide (x1≤256))=true then ((Ew b0).bind fun y1=>(if x1=0 then none else (some ((Int.tmod y1.1 x1),y1.2)))) else ((Ew b0).bind fun y2=>((Ew y2.2).bind fun y3=>((Ew y3.2).bind fun y4=>((Ew y4.2).bind fun y5=>(if x1=0 then none else (some ((Int.tmod (i64.wrap ((i64.wrap ((i64.wrap ((i64.wrap (y2.1*16777216))+(i64.wrap (y3.1*65536))))+(i64.wrap (y4.1*256))))+y5.1)) x1),y5.2)))))))))
theorem iy:QQ Nz CM:=cT JF rfl ⟨rfl,rfl⟩ (by kernel_rfl)
def cS:=cG Pa (AE Bn) (AE Bn) kx
def LN:=kE 0 [(3,1)] [3] 2 cS kx
def QC:St→Option (RT (BM.outs Bn)):=lG PZ [(3,1)] [0,3,4] 2 (AE Bn) LN
def cU:=kB [(3,1)] [0,3,4] 2 QC
def RU:=cG PY cU (AE Bn) LN
def cV:=kB [(3,1)] [0,3,4] 2 RU
def RV:=kE 1 [(3,1)] [0,3,4] 2 RU LN
def cW:=cG Qw cV (AE Bn) RV
def cX:=kE 2 [(3,1),(5,2)] [0,3,4,5] 3 cW RV
def aJ:St→Option (RT (BM.outs Bn)):=lG Qv [(3,1),(5,2)] [0,3,4,5,6] 3 (AE Bn) cX
def E3 (x0 x1:Int) (x2:AN) (x3:List (List Int)) (x4:List Int):Option (List (List Int)×AN):=aJ ⟨[(0,.ptr 0 0),(3,.row 1),(4,.int .i64 x0),(5,.row 2),(6,.int .i64 x1)],[.var (A_.enc x2),.rows 33 (.slice (.int .i64)) x3,.rows 3 (.int .i64) x4]⟩
def E4 (x0:Int) (x1:AN) (x2:List (List Int)):Option (List (List Int)×AN):=QC ⟨[(0,.ptr 0 0),(3,.row 1),(4,.int .i64 x0)],[.var (A_.enc x1),.rows 33 (.slice (.int .i64)) x2]⟩
def E5 (x0 x1:Int) (x2:AN) (x3:List (List Int)) (x4:List Int):Option (List (List Int)×AN):=((CM 3 x2).bind fun y2=>(if (decide (x1<(i64.wrap (1+y2.1))))=true then ((CM 4 y2.2).bind fun y3=>((Di x4 (i64.wrap (1+y3.1))).bind fun y4=>(if (!y4)=true then (if x4.length+([(i64.wrap (1+y3.1))]:List Int).length≤68719476736 then (E3 x0 (i64.wrap (x1+1)) y3.2 x3 (x4++([(i64.wrap (1+y3.1))]:List Int))) else none) else (E3 x0 (i64.wrap (x1+1)) y3.2 x3 x4)))) else (if x3.length+([x4]:List (List Int)).length≤68719476736 then (E4 (i64.wrap (x0+1)) y2.2 (x3++([x4]:List (List Int)))) else none)))
def Gt (x0:Int) (x1:AN) (x2:List (List Int)):Option (List (List Int)×AN):=((CM 5 x1).bind fun y1=>(if (decide (x0<(i64.wrap (1+y1.1))))=true then (E3 x0 0 y1.2 x2 ([]:List Int)) else (some (x2,y1.2))))
def Vw (b0:AN):Option (List (List Int)×AN):=(E4 0 b0 ([]:List (List Int)))
theorem Gu:qn E5 E3:=lS (by kernel_rfl)
theorem Jp:PO Gt E4:=lS (by kernel_rfl)
theorem iz:PN Vw Np:=cT Bn rfl ⟨rfl,rfl⟩ (by kernel_rfl)
def TN:=cG Qz (AE BI) (AE BI) kx
def TO:=kB [] [4,5] 4 TN
def TP:=kE 0 [] [4,5] 4 TN kx
def fK:=kE 1 [] [4,5] 6 TO TP
def cY:St→Option (RT (BM.outs BI)):=lG Sl [] [0,1,4,5,6] 6 (AE BI) fK
def fL:=kE 3 [] [4,5] 4 TO TP
def cZ:St→Option (RT (BM.outs BI)):=lG Qy [] [0,1,4,5,7] 4 (AE BI) fL
def DA (x0:Int) (x1:AN) (x2:AA) (x3 x4:AO) (x5:List Int) (x6:List ByteArray):Option (AO×AN×AA):=cY ⟨[(0,.ptr 0 0),(1,.ptr 1 0),(4,.ptr 2 0),(5,.ptr 3 0),(6,.int .i64 x0)],[.var (A_.enc x1),.var (Ab.enc x2),.var (AT.enc x3),.var (AT.enc x4),.frz (.int .i64) x5,.frz .str x6]⟩
def DB (x0:Int) (x1:AN) (x2:AA) (x3 x4:AO):Option (AO×AN×AA):=cZ ⟨[(0,.ptr 0 0),(1,.ptr 1 0),(4,.ptr 2 0),(5,.ptr 3 0),(7,.int .i64 x0)],[.var (A_.enc x1),.var (Ab.enc x2),.var (AT.enc x3),.var (AT.enc x4)]⟩
def Fk (x0:AN) (x1:AA) (x2 x3:AO):Option (AO×AN×AA):=cG Q0 (AE BI) (AE BI) kx ⟨[(0,.ptr 0 0),(1,.ptr 1 0),(4,.ptr 2 0),(5,.ptr 3 0)],[.var (A_.enc x0),.var (Ab.enc x1),.var (AT.enc x2),.var (AT.enc x3)]⟩
def Av (x0:AN) (x1:AA) (x2 x3:AO):Option (AO×AN×AA):=cG Q1 (AE BI) (AE BI) kx ⟨[(0,.ptr 0 0),(1,.ptr 1 0),(4,.ptr 2 0),(5,.ptr 3 0)],[.var (A_.enc x0),.var (Ab.enc x1),.var (AT.enc x2),.var (AT.enc x3)]⟩
def LO (x0:AN) (x1:AA) (x2 x3:AO):Option (AO×AN×AA):=cG Q2 (AE BI) (AE BI) kx ⟨[(0,.ptr 0 0),(1,.ptr 1 0),(4,.ptr 2 0),(5,.ptr 3 0)],[.var (A_.enc x0),.var (Ab.enc x1),.var (AT.enc x2),.var (AT.enc x3)]⟩
def Fl (x0:Int) (x1:AN) (x2:AA) (x3 x4:AO) (x5:List Int) (x6:List ByteArray):Option (AO×AN×AA):=(if (decide (x0<(x2.2.1.length:Int)))=true then (if 0≤x0 then (if x0<(x2.2.1.length:Int) then (if (((((((x2.2.1.getD x0.toNat (0,0,false,false,false,false,([]:List Int),([]:List X),0,0,0,0,(ByteArray.empty,ByteArray.empty,0),([]:List Int))).2).2).2).2).2).1)=true then ((C8 4 x1).bind fun y10=>(if (!y10.1)=true then (DA (i64.wrap (x0+1)) y10.2 x2 x3 (x4.1,(i64.wrap (x0+1)),x4.2.2) x5 x6) else (DA (i64.wrap (x0+1)) y10.2 x2 x3 x4 x5 x6))) else (DA (i64.wrap (x0+1)) x1 x2 x3 x4 x5 x6)) else none) else none) else (some (x4,x1,x2)))
def D1 (x0:Int) (x1:AN) (x2:AA) (x3 x4:AO):Option (AO×AN×AA):=(if (decide (x0<(x2.2.1.length:Int)))=true then (if 0≤x0 then (if x0<(x2.2.1.length:Int) then (if (decide ((((x2.2.1.getD x0.toNat (0,0,false,false,false,false,([]:List Int),([]:List X),0,0,0,0,(ByteArray.empty,ByteArray.empty,0),([]:List Int))).2).1)<(x2.1.length:Int)))=true then (if 0≤(((x2.2.1.getD x0.toNat (0,0,false,false,false,false,([]:List Int),([]:List X),0,0,0,0,(ByteArray.empty,ByteArray.empty,0),([]:List Int))).2).1) then (if (((x2.2.1.getD x0.toNat (0,0,false,false,false,false,([]:List Int),([]:List X),0,0,0,0,(ByteArray.empty,ByteArray.empty,0),([]:List Int))).2).1)<(x2.1.length:Int) then (if 0≤(0:Int) then (if 0<((x2.1.getD (((x2.2.1.getD x0.toNat (0,0,false,false,false,false,([]:List Int),([]:List X),0,0,0,0,(ByteArray.empty,ByteArray.empty,0),([]:List Int))).2).1).toNat ([]:List Int)).length:Int) then (if (((x2.1.getD (((x2.2.1.getD x0.toNat (0,0,false,false,false,false,([]:List Int),([]:List X),0,0,0,0,(ByteArray.empty,ByteArray.empty,0),([]:List Int))).2).1).toNat ([]:List Int)).getD (0:Int).toNat 0)==((x2.2.1.getD x0.toNat (0,0,false,false,false,false,([]:List Int),([]:List X),0,0,0,0,(ByteArray.empty,ByteArray.empty,0),([]:List Int))).1))=true then ((C8 3 x1).bind fun y11=>(if (!y11.1)=true then (DB (i64.wrap (x0+1)) y11.2 x2 x3 (x4.1,(x2.2.1.getD x0.toNat (0,0,false,false,false,false,([]:List Int),([]:List X),0,0,0,0,(ByteArray.empty,ByteArray.empty,0),([]:List Int))).1,x4.2.2)) else (DB (i64.wrap (x0+1)) y11.2 x2 x3 x4))) else (DB (i64.wrap (x0+1)) x1 x2 x3 x4)) else none) else none) else none) else none) else (DB (i64.wrap (x0+1)) x1 x2 x3 x4)) else none) else none) else (some (x4,x1,x2)))
def Fm (x0:AN) (x1:AA) (x2 x3:AO):Option (AO×AN×AA):=(if (x3.1==1)=true then ((HR ([1,1,2]:List Int) x0).bind fun y7=>((K9 ([(⟨#[97]⟩:ByteArray),(⟨#[98]⟩:ByteArray),(⟨#[99]⟩:ByteArray)]:List ByteArray) y7.2).bind fun y8=>(if (y7.1==1)=true then ((K9 ([(⟨#[118]⟩:ByteArray),(⟨#[119]⟩:ByteArray),(⟨#[120]⟩:ByteArray),(⟨#[121]⟩:ByteArray)]:List ByteArray) y8.2).bind fun y9=>(DA 0 y9.2 x1 x2 (x3.1,x3.2.1,x3.2.2.1,y7.1,y8.1,y9.1) ([1,1,2]:List Int) ([(⟨#[97]⟩:ByteArray),(⟨#[98]⟩:ByteArray),(⟨#[99]⟩:ByteArray)]:List ByteArray))) else (DA 0 y8.2 x1 x2 (x3.1,x3.2.1,x3.2.2.1,y7.1,y8.1,x3.2.2.2.2.2) ([1,1,2]:List Int) ([(⟨#[97]⟩:ByteArray),(⟨#[98]⟩:ByteArray),(⟨#[99]⟩:ByteArray)]:List ByteArray))))) else (if (x3.1==5)=true then (DB 0 x0 x1 x2 x3) else (some (x3,x0,x1))))
def HT (x0:AN) (x1:AA) (x2 x3:AO):Option (AO×AN×AA):=(if (x3.1==2)=true then ((C8 2 x0).bind fun y6=>(if y6.1=true then (Fk y6.2 x1 x2 (x3.1,x3.2.1,0,x3.2.2.2)) else (Fk y6.2 x1 x2 x3))) else (Fk x0 x1 x2 x3))
def HU (x0:AN) (x1:AA) (x2 x3:AO):Option (AO×AN×AA):=(if ((x1.2.2.1.length:Int)==0)=true then ((AR x3.1 2 4).bind fun y4=>(if y4=true then (if ((1:Int)==6)=true then ((C8 4 x0).bind fun y5=>(if (!y5.1)=true then (Av y5.2 x1 x2 (1,x3.2)) else (Av y5.2 x1 x2 (1,x3.2)))) else (Av x0 x1 x2 (1,x3.2))) else (if (x3.1==6)=true then ((C8 4 x0).bind fun y12=>(if (!y12.1)=true then (Av y12.2 x1 x2 (1,x3.2)) else (Av y12.2 x1 x2 x3))) else (Av x0 x1 x2 x3)))) else (if (x3.1==6)=true then ((C8 4 x0).bind fun y13=>(if (!y13.1)=true then (Av y13.2 x1 x2 (1,x3.2)) else (Av y13.2 x1 x2 x3))) else (Av x0 x1 x2 x3)))
def Xj (b0:AN) (b1:AA):Option (AO×AN×AA):=((HR ([1,1,1,2,2,2,2,2,2,2,2,3,4,5,6]:List Int) b0).bind fun y1=>((CM 4 y1.2).bind fun y2=>((CM 20 y2.2).bind fun y3=>(LO y3.2 b1 (0,0,0,0,ByteArray.empty,ByteArray.empty) (y1.1,(i64.wrap (1+y2.1)),y3.1,0,ByteArray.empty,ByteArray.empty)))))
theorem HV:uW Fl DA:=lS (by kernel_rfl)
theorem Fn:qn D1 DB:=lS (by kernel_rfl)
theorem HW:iF Fm Fk:=jS (by kernel_rfl)
theorem LP:iF HT Av:=jS (by kernel_rfl)
theorem LQ:iF HU LO:=jS (by kernel_rfl)
theorem lg:QQ Xj Pm:=cT BI rfl ⟨rfl,rfl⟩ (by kernel_rfl)
def fM:=cG Q5 (AE Bp) (AE Bp) kx
def Me:=kE 0 [] [0] 0 fM kx
def RW:St→Option (RT (BM.outs Bp)):=lG Q4 [] [0,7,8,9] 0 (AE Bp) Me
def fN:=kB [] [0,7,8,9] 0 RW
def TQ:=cG Q3 fN (AE Bp) Me
def TR:=kB [] [0,7,8,9] 0 TQ
def Mf:=kE 1 [] [0,7,8,9] 0 TQ Me
def fO:=cG MQ TR (AE Bp) Mf
def fP:=kE 2 [] [0,4,7,8,9] 0 fO Mf
def ca:St→Option (RT (BM.outs Bp)):=lG Sm [] [0,4,7,8,9,13,14,15] 0 (AE Bp) fP
def LR (x0:List (List Int)) (x1:List Int) (x2:List (List Int)) (x3 x4:Int):Option Bool:=cG MQ TR (AE Bp) Mf ⟨[(0,.lst (.slice (.int .i64)) x0),(4,.lst (.int .i64) x1),(7,.lst (.slice (.int .i64)) x2),(8,.int .i64 x3),(9,.int .i64 x4)],[]⟩
def HX (x0:List (List Int)) (x1:List Int) (x2:List (List Int)) (x3 x4:Int) (x5:List Int) (x6 x7:Int):Option Bool:=ca ⟨[(0,.lst (.slice (.int .i64)) x0),(4,.lst (.int .i64) x1),(7,.lst (.slice (.int .i64)) x2),(8,.int .i64 x3),(9,.int .i64 x4),(13,.lst (.int .i64) x5),(14,.int .i64 x6),(15,.int .i64 x7)],[]⟩
def HY (x0 x1:List (List Int)) (x2 x3:Int):Option Bool:=RW ⟨[(0,.lst (.slice (.int .i64)) x0),(7,.lst (.slice (.int .i64)) x1),(8,.int .i64 x2),(9,.int .i64 x3)],[]⟩
def RX (x0:List (List Int)) (x1:List Int) (x2:List (List Int)) (x3 x4:Int):Option Bool:=((Ae (x1.length:Int) 1 4).bind fun y3=>(if (!y3)=true then (some false) else (HY x0 x2 x3 (i64.wrap (x4+1)))))
def LT (x0:List (List Int)) (x1:List Int) (x2:List (List Int)) (x3 x4:Int) (x5:List Int) (x6 x7:Int):Option Bool:=(if (decide (x7<x6))=true then (if 0≤x7 then (if x7<(x5.length:Int) then ((Ef (x5.getD x7.toNat 0)).bind fun y1=>(if (!y1)=false then ((C7 x1 (x5.getD x7.toNat 0)).bind fun y2=>(if (y2 != x7)=true then (some false) else (HX x0 x1 x2 x3 x4 x5 x6 (i64.wrap (x7+1))))) else (some false))) else none) else none) else (LR x0 x1 x2 x3 x4))
def LU (x0 x1:List (List Int)) (x2 x3:Int):Option Bool:=(if (decide (x3<x2))=true then (if 0≤x3 then (if x3<(x1.length:Int) then (HX x0 (x1.getD x3.toNat ([]:List Int)) x1 x2 x3 (x1.getD x3.toNat ([]:List Int)) ((x1.getD x3.toNat ([]:List Int)).length:Int) 0) else none) else none) else ((Ae (x0.length:Int) 1 9).bind fun y4=>(some y4)))
def Xk (x0:List (List Int)):Option Bool:=(HY x0 x0 (x0.length:Int) 0)
theorem cc:qn RX LR:=jS (by kernel_rfl)
theorem RY:sW LT HX:=lS (by kernel_rfl)
theorem RZ:iF LU HY:=lS (by kernel_rfl)
theorem lh:PN Xk Du:=cT Bp rfl ⟨rfl,rfl⟩ (by kernel_rfl)
def aK:=cG Pc (AE Cr) (AE Cr) kx
def aL:=kE 0 [(3,0)] [3] 1 aK kx
def Yt:St→Option (RT (BM.outs Cr)):=lG Pb [(3,0)] [3,6,7,8] 1 (AE Cr) aL
def GB (x0:List (List Int)) (x1 x2:Int) (x3:List (List Int)):Option (List (List Int)):=Yt ⟨[(3,.row 0),(6,.lst (.slice (.int .i64)) x0),(7,.int .i64 x1),(8,.int .i64 x2)],[.rows 33 (.slice (.int .i64)) x3]⟩
def Iq (x0:List (List Int)) (x1 x2:Int) (x3:List (List Int)):Option (List (List Int)):=(if (decide (x2<x1))=true then (if 0≤x2 then (if x2<(x0.length:Int) then ((Bb (x0.getD x2.toNat ([]:List Int))).bind fun y1=>(if x3.length+([y1]:List (List Int)).length≤68719476736 then (GB x0 x1 (i64.wrap (x2+1)) (x3++([y1]:List (List Int)))) else none)) else none) else none) else (some x3))
def TS (x0:List (List Int)):Option (List (List Int)):=(GB x0 (x0.length:Int) 0 ([]:List (List Int)))
theorem OU:iF Iq GB:=lS (by kernel_rfl)
theorem fQ:PN TS IP:=cT Cr rfl ⟨rfl,rfl⟩ (by kernel_rfl)
def OV (x0:Int) (x1:List (List Int)) (x2:Bool) (x3:O):Option (O×Bool):=cG Pd (AE El) (AE El) kx ⟨[(0,.int .i64 x0),(1,.lst (.slice (.int .i64)) x1),(4,.ptr 0 0),(14,.bool x2)],[.var (U.enc x3)]⟩
def OW (x0:Int) (x1:List (List Int)) (x2:Bool) (x3:O):Option (O×Bool):=(if 0≤(0:Int) then (if 0<(x1.length:Int) then (if 0≤(0:Int) then (if 0<((x1.getD (0:Int).toNat ([]:List Int)).length:Int) then (if 0≤(0:Int) then (if 0<(x1.length:Int) then ((CT (x1.getD (0:Int).toNat ([]:List Int)) x0).bind fun y3=>(some ((x0,1,false,y3,(((x1.getD (0:Int).toNat ([]:List Int)).getD (0:Int).toNat 0)==x0),(((x1.getD (0:Int).toNat ([]:List Int)).getD (0:Int).toNat 0)==x0),([]:List Int),([]:List X),0,0,0,0,(ByteArray.empty,ByteArray.empty,0),([]:List Int)),true))) else none) else none) else none) else none) else none) else none)
def TU (x0:Int) (x1:List (List Int)):Option (O×Bool):=((Ef x0).bind fun y1=>(if (!y1)=false then ((Du x1).bind fun y2=>(if (!y2)=true then (some ((0,0,false,false,false,false,([]:List Int),([]:List X),0,0,0,0,(ByteArray.empty,ByteArray.empty,0),([]:List Int)),false)) else (OV x0 x1 (!y2) (0,0,false,false,false,false,([]:List Int),([]:List X),0,0,0,0,(ByteArray.empty,ByteArray.empty,0),([]:List Int))))) else (some ((0,0,false,false,false,false,([]:List Int),([]:List X),0,0,0,0,(ByteArray.empty,ByteArray.empty,0),([]:List Int)),false))))
theorem Yu:iF OW OV:=jS (by kernel_rfl)
theorem fR:QQ TU MU:=cT El rfl ⟨rfl,rfl⟩ (by kernel_rfl)
def JN (x0:Int) (x1:ByteArray) (x2:Bool):Option Bool:=cG XJ (AE IH) (AE IH) kx ⟨[(0,.int .i64 x0),(3,.str x1),(26,.bool x2)],[]⟩
def N0 (x0:Int) (x1:ByteArray) (x2:Bool):Option Bool:=(if (x0==1)=false then (some (x1.toList==(⟨#[]⟩:ByteArray).toList)) else (some true))
def Ua (x0 x1:Int) (x2 x3:ByteArray):Option Bool:=((Ae x0 1 2).bind fun y1=>(if (!y1)=false then ((Ae x1 0 1000).bind fun y2=>(if (!y2)=false then ((O0 x2).bind fun y3=>(if (!y3)=false then (if (decide ((x3.size:Int)>20))=true then (some false) else (JN x0 x3 (decide ((x3.size:Int)>20)))) else (some false))) else (some false))) else (some false)))
theorem Vx:PO N0 JN:=jS (by kernel_rfl)
theorem cd:iF Ua K7:=cT IH rfl ⟨rfl,rfl⟩ (by kernel_rfl)
def QD (x1:AO) (x2:Int) (b0:AA):Option (Bool×AA):=(if b0.2.2.2.length+([(x1.2.2.2.1,x1.2.2.2.2.1,x1.2.2.2.2.2,x2,(-1:Int),0,0,0,ByteArray.empty)]:List AG).length≤68719476736 then ((Bi x1.2.1 (b0.1,b0.2.1,b0.2.2.1,(b0.2.2.2++([(x1.2.2.2.1,x1.2.2.2.2.1,x1.2.2.2.2.2,x2,(-1:Int),0,0,0,ByteArray.empty)]:List AG)))).bind fun y1=>(if 0≤y1.1 then (if y1.1<(y1.2.2.1.length:Int) then ((O1 (y1.2.2.1.getD y1.1.toNat (0,0,false,false,false,false,([]:List Int),([]:List X),0,0,0,0,(ByteArray.empty,ByteArray.empty,0),([]:List Int))) y1.2.1 x1.2.2.2.1 (b0.2.2.2.length:Int) x1.2.2.2.2.1 x1.2.2.2.2.2).bind fun y2=>(if (!y2.2.2.2)=true then (some (false,y1.2)) else (if 0≤y1.1 then (if y1.1<(y1.2.2.1.length:Int) then (let z3:List O:=y1.2.2.1.set y1.1.toNat y2.1; ((Ff y2.2.1 y2.2.2.1 x2 (y1.2.1,z3,y1.2.2.2)).bind fun y4=>(some (true,y4)))) else none) else none))) else none) else none)) else none)
theorem aM:PO QD Ja:=cT Gk rfl ⟨rfl,rfl⟩ (by kernel_rfl)
def Xl:=cG Lw (AE CI) (AE CI) kx
def Xm:=kE 0 [] [] 5 Xl kx
def Wa:St→Option (RT (BM.outs CI)):=lG NG [] [0,2,4,7,8] 5 (AE CI) Xm
def DR (x0 x1 x2:Int) (x3:List (List Int)) (x4:List O) (x5:List Y) (x6:List AG) (x7:AO):Option (Bool×AA):=Wa ⟨[(0,.ptr 0 0),(2,.int .i64 x0),(4,.ptr 4 0),(7,.int .i64 x1),(8,.int .i64 x2)],[.var [.lst (.slice (.int .i64)) x3,.row 1,.row 2,.row 3],.rows 42 U x4,.rows 97 AC x5,.rows 47 AM x6,.var (AT.enc x7)]⟩
def FA (x0 x1 x2:Int) (x3:List (List Int)) (x4:List O) (x5:List Y) (x6:List AG) (x7:AO):Option (Bool×AA):=(if (decide (x2≤(x3.length:Int)))=true then (if 0≤(i64.wrap (x2-1)) then (if (i64.wrap (x2-1))<(x3.length:Int) then (if 0≤(0:Int) then (if 0<((x3.getD (i64.wrap (x2-1)).toNat ([]:List Int)).length:Int) then (if (((x3.getD (i64.wrap (x2-1)).toNat ([]:List Int)).getD (0:Int).toNat 0) != x7.2.1)=true then (DR x0 x1 (i64.wrap (x2+1)) x3 x4 x5 x6 x7) else (if 0≤x1 then (if x1<(x4.length:Int) then ((O2 (x4.getD x1.toNat (0,0,false,false,false,false,([]:List Int),([]:List X),0,0,0,0,(ByteArray.empty,ByteArray.empty,0),([]:List Int))) x3 x2).bind fun y2=>(if y2.2.2=true then (if 0≤x1 then (if x1<(x4.length:Int) then (let z3:List O:=x4.set x1.toNat y2.1; ((Ff y2.2.1 ([]) x0 (x3,z3,x5,x6)).bind fun y4=>(some (y2.2.2,y4)))) else none) else none) else (some (y2.2.2,(x3,x4,x5,x6))))) else none) else none)) else none) else none) else none) else none) else (some (false,(x3,x4,x5,x6))))
def QE (x1:AO) (x2:Int) (b0:AA):Option (Bool×AA):=((Bi x1.2.1 b0).bind fun y1=>(if 0≤y1.1 then (if y1.1<(y1.2.2.1.length:Int) then (DR x2 y1.1 (i64.wrap ((((y1.2.2.1.getD y1.1.toNat (0,0,false,false,false,false,([]:List Int),([]:List X),0,0,0,0,(ByteArray.empty,ByteArray.empty,0),([]:List Int))).2).1)+1)) y1.2.1 y1.2.2.1 y1.2.2.2.1 y1.2.2.2.2 x1) else none) else none))
theorem HG:sW FA DR:=lS (by kernel_rfl)
theorem aN:PO QE Jb:=cT CI rfl ⟨rfl,rfl⟩ (by kernel_rfl)
def OX (x1:Int) (b0:AA):Option (Int×AA):=((B2 b0.2.1 x1).bind fun y1=>(some (y1,b0)))
theorem Yv:QQ OX Bi:=cT F9 rfl ⟨rfl,rfl⟩ (by kernel_rfl)
def qE (x0:O):Option O:=(some (x0.1,x0.2.1,true,false,false,false,([]:List Int),([]:List X),0,0,0,0,(ByteArray.empty,ByteArray.empty,0),([]:List Int)))
theorem qF:PN qE RM:=cT Q6 rfl ⟨rfl,rfl⟩ (by kernel_rfl)
def NQ (x1:AO) (x2:Int) (b0:AA):Option (Bool×AA):=(if ((b0.2.2.1.length:Int)==0)=true then (some (false,b0)) else (if (b0.2.2.1.length:Int)=0 then none else (if (x1.1==2)=true then ((Hq (Int.tmod x1.2.2.1 (b0.2.2.1.length:Int)) x2 b0).bind fun y1=>(some (true,y1))) else (if (x1.1==3)=true then ((BU b0.2.2.1 (Int.tmod x1.2.2.1 (b0.2.2.1.length:Int)) (i64.wrap ((Int.tmod x1.2.2.1 (b0.2.2.1.length:Int))+1))).bind fun y2=>(some (true,(b0.1,b0.2.1,y2,b0.2.2.2)))) else (if (x1.1==4)=true then (if 0≤(Int.tmod x1.2.2.1 (b0.2.2.1.length:Int)) then (if (Int.tmod x1.2.2.1 (b0.2.2.1.length:Int))<(b0.2.2.1.length:Int) then ((GO (b0.2.2.1.getD ((Int.tmod x1.2.2.1 (b0.2.2.1.length:Int)).toNat) (0,0,0,0,0,([]:List X)))).bind fun y3=>(if b0.2.2.1.length+([y3]:List Y).length≤68719476736 then (some (true,(b0.1,b0.2.1,(b0.2.2.1++([y3]:List Y)),b0.2.2.2))) else none)) else none) else none) else (some (true,b0)))))))
theorem Xn:PO NQ Hr:=cT Fd rfl ⟨rfl,rfl⟩ (by kernel_rfl)
def Ra (x0:O):Option O:=((Bb x0.2.2.2.2.2.2.1).bind fun y1=>((Af x0.2.2.2.2.2.2.2.1).bind fun y2=>((Bb x0.2.2.2.2.2.2.2.2.2.2.2.2.2).bind fun y3=>(some (x0.1,x0.2.1,x0.2.2.1,x0.2.2.2.1,x0.2.2.2.2.1,x0.2.2.2.2.2.1,y1,y2,x0.2.2.2.2.2.2.2.2.1,x0.2.2.2.2.2.2.2.2.2.1,x0.2.2.2.2.2.2.2.2.2.2.1,x0.2.2.2.2.2.2.2.2.2.2.2.1,x0.2.2.2.2.2.2.2.2.2.2.2.2.1,y3)))))
theorem cf:PN Ra Cb:=cT HN rfl ⟨rfl,rfl⟩ (by kernel_rfl)
def Xo (x0:Y):Option Y:=((Af x0.2.2.2.2.2).bind fun y1=>(some (x0.1,x0.2.1,x0.2.2.1,x0.2.2.2.1,x0.2.2.2.2.1,y1)))
theorem ln:PN Xo GO:=cT Kq rfl ⟨rfl,rfl⟩ (by kernel_rfl)
def fS:=cG So (AE Dq) (AE Dq) kx
def fT:=kE 0 [] [0] 0 fS kx
def cg:St→Option (RT (BM.outs Dq)):=lG Sn [] [0,3] 0 (AE Dq) fT
def HZ (x0:List (List Int)) (x1:Int):Option Bool:=cg ⟨[(0,.lst (.slice (.int .i64)) x0),(3,.int .i64 x1)],[]⟩
def LV (x0:List (List Int)) (x1:Int):Option Bool:=(if (decide (x1<(x0.length:Int)))=true then (if 0≤x1 then (if x1<(x0.length:Int) then ((Pn (x0.getD x1.toNat ([]:List Int))).bind fun y1=>(if (!y1)=true then (some false) else (HZ x0 (i64.wrap (x1+1))))) else none) else none) else ((AR (x0.length:Int) 1 9).bind fun y2=>(some y2)))
def Xp (x0:List (List Int)):Option Bool:=(HZ x0 0)
theorem Rb:QQ LV HZ:=lS (by kernel_rfl)
theorem lq:PN Xp Dv:=cT Dq rfl ⟨rfl,rfl⟩ (by kernel_rfl)
def Wb:=cG Ly (AE CA) (AE CA) kx
def Wc:=kE 0 [(3,0)] [3] 1 Wb kx
def Ub:St→Option (RT (BM.outs CA)):=lG Lx [(3,0)] [0,3,4] 1 (AE CA) Wc
def EQ (x0:List (List Int)) (x1:Int) (x2:List (List Int)):Option (List (List Int)):=Ub ⟨[(0,.lst (.slice (.int .i64)) x0),(3,.row 0),(4,.int .i64 x1)],[.rows 33 (.slice (.int .i64)) x2]⟩
def Gv (x0:List (List Int)) (x1:Int) (x2:List (List Int)):Option (List (List Int)):=(if (decide (x1<(x0.length:Int)))=true then (if 0≤x1 then (if x1<(x0.length:Int) then (if ([]:List Int).length+(x0.getD x1.toNat ([]:List Int)).length≤68719476736 then (if x2.length+([(([]:List Int)++(x0.getD x1.toNat ([]:List Int)))]:List (List Int)).length≤68719476736 then (EQ x0 (i64.wrap (x1+1)) (x2++([(([]:List Int)++(x0.getD x1.toNat ([]:List Int)))]:List (List Int)))) else none) else none) else none) else none) else (some x2))
def OY (x0:List (List Int)):Option (List (List Int)):=(EQ x0 0 ([]:List (List Int)))
theorem LW:PO Gv EQ:=lS (by kernel_rfl)
theorem Yw:PN OY F_:=cT CA rfl ⟨rfl,rfl⟩ (by kernel_rfl)
def OZ (x0:Int) (x1:List (List Int)) (x2:Bool) (x3:O):Option (O×Bool):=cG Pe (AE Em) (AE Em) kx ⟨[(0,.int .i64 x0),(1,.lst (.slice (.int .i64)) x1),(4,.ptr 0 0),(14,.bool x2)],[.var (U.enc x3)]⟩
def Oa (x0:Int) (x1:List (List Int)) (x2:Bool) (x3:O):Option (O×Bool):=(if 0≤(0:Int) then (if 0<(x1.length:Int) then ((Di (x1.getD (0:Int).toNat ([]:List Int)) x0).bind fun y3=>(if 0≤(0:Int) then (if 0<(x1.length:Int) then (if 0≤(0:Int) then (if 0<((x1.getD (0:Int).toNat ([]:List Int)).length:Int) then (some ((x0,1,false,y3,(((x1.getD (0:Int).toNat ([]:List Int)).getD (0:Int).toNat 0)==x0),(((x1.getD (0:Int).toNat ([]:List Int)).getD (0:Int).toNat 0)==x0),([]:List Int),([]:List X),0,0,0,0,(ByteArray.empty,ByteArray.empty,0),([]:List Int)),true)) else none) else none) else none) else none)) else none) else none)
def TV (x0:Int) (x1:List (List Int)):Option (O×Bool):=((Dv x1).bind fun y1=>(if (!y1)=false then ((AR x0 1 6).bind fun y2=>(if (!y2)=true then (some ((0,0,false,false,false,false,([]:List Int),([]:List X),0,0,0,0,(ByteArray.empty,ByteArray.empty,0),([]:List Int)),false)) else (OZ x0 x1 (!y2) (0,0,false,false,false,false,([]:List Int),([]:List X),0,0,0,0,(ByteArray.empty,ByteArray.empty,0),([]:List Int))))) else (some ((0,0,false,false,false,false,([]:List Int),([]:List X),0,0,0,0,(ByteArray.empty,ByteArray.empty,0),([]:List Int)),false))))
theorem Yx:iF Oa OZ:=jS (by kernel_rfl)
theorem fU:QQ TV MV:=cT Em rfl ⟨rfl,rfl⟩ (by kernel_rfl)
def Vy (x1:Int) (x2:AO) (b0:AA):Option (Int×AA):=(if ([]:List AG).length+b0.2.2.2.length≤68719476736 then (if (([]:List AG)++b0.2.2.2).length+([(x2.2.2.2.1,x2.2.2.2.2.1,x2.2.2.2.2.2,x1,(-1:Int),0,0,0,ByteArray.empty)]:List AG).length≤68719476736 then (if 0≤(i64.wrap (x2.2.1-1)) then (if (i64.wrap (x2.2.1-1))<(b0.2.1.length:Int) then ((UW (b0.2.1.getD (i64.wrap (x2.2.1-1)).toNat (0,0,false,false,false,false,([]:List Int),([]:List X),0,0,0,0,(ByteArray.empty,ByteArray.empty,0),([]:List Int))) b0.1 x2.2.2.2.1 (i64.wrap ((((([]:List AG)++b0.2.2.2)++([(x2.2.2.2.1,x2.2.2.2.2.1,x2.2.2.2.2.2,x1,(-1:Int),0,0,0,ByteArray.empty)]:List AG)).length:Int)-1)) x2.2.2.2.2.1 x2.2.2.2.2.2).bind fun y1=>(if (!y1.2.2.2)=true then (some (1,(b0.1,b0.2.1,b0.2.2.1,((([]:List AG)++b0.2.2.2)++([(x2.2.2.2.1,x2.2.2.2.2.1,x2.2.2.2.2.2,x1,(-1:Int),0,0,0,ByteArray.empty)]:List AG))))) else ((En y1.1 y1.2.1 y1.2.2.1 x1 (b0.1,b0.2.1,b0.2.2.1,((([]:List AG)++b0.2.2.2)++([(x2.2.2.2.1,x2.2.2.2.2.1,x2.2.2.2.2.2,x1,(-1:Int),0,0,0,ByteArray.empty)]:List AG)))).bind fun y2=>(some (0,y2))))) else none) else none) else none) else none)
theorem i4:PO Vy Nq:=cT JG rfl ⟨rfl,rfl⟩ (by kernel_rfl)
def ci:=cG Pf (AE DM) (AE DM) kx
def cj:=kE 0 [] [] 2 ci kx
def aO:St→Option (RT (BM.outs DM)):=lG Q7 [] [0,1,2,7,8] 2 (AE DM) cj
def Gw (x0 x1 x2:Int) (x3:AA) (x4:O):Option (Int×AA):=aO ⟨[(0,.ptr 0 0),(1,.int .i64 x0),(2,.int .i64 x1),(7,.ptr 1 0),(8,.int .i64 x2)],[.var (Ab.enc x3),.var (U.enc x4)]⟩
def Gx (x0 x1 x2:Int) (x3:AA) (x4:O):Option (Int×AA):=(if (decide (x2≤(x3.1.length:Int)))=true then (if 0≤(i64.wrap (x2-1)) then (if (i64.wrap (x2-1))<(x3.1.length:Int) then (if 0≤(0:Int) then (if 0<((x3.1.getD (i64.wrap (x2-1)).toNat ([]:List Int)).length:Int) then (if (((x3.1.getD (i64.wrap (x2-1)).toNat ([]:List Int)).getD (0:Int).toNat 0) != x1)=true then (Gw x0 x1 (i64.wrap (x2+1)) x3 x4) else ((UX x4 x3.1 x2).bind fun y1=>(if (!y1.2.2)=true then (some (1,x3)) else ((En y1.1 y1.2.1 ([]:List AD) x0 x3).bind fun y2=>(some (0,y2)))))) else none) else none) else none) else none) else (some (1,x3)))
def N1 (x1 x2:Int) (b0:AA):Option (Int×AA):=(if 0≤(i64.wrap (x2-1)) then (if (i64.wrap (x2-1))<(b0.2.1.length:Int) then (Gw x1 x2 (i64.wrap ((((b0.2.1.getD (i64.wrap (x2-1)).toNat (0,0,false,false,false,false,([]:List Int),([]:List X),0,0,0,0,(ByteArray.empty,ByteArray.empty,0),([]:List Int))).2).1)+1)) b0 (b0.2.1.getD (i64.wrap (x2-1)).toNat (0,0,false,false,false,false,([]:List Int),([]:List X),0,0,0,0,(ByteArray.empty,ByteArray.empty,0),([]:List Int)))) else none) else none)
theorem Jq:qn Gx Gw:=lS (by kernel_rfl)
theorem Vz:PO N1 Nr:=cT DM rfl ⟨rfl,rfl⟩ (by kernel_rfl)
def Jr:=kE 0 [] [] 4 (AE CQ) kx
def Ob:St→Option (RT (BM.outs CQ)):=lG OH [] [0,3,4,11] 4 (AE CQ) Jr
def aP:=kB [] [0,3,4,11] 4 Ob
def QF:=cG OG aP (AE CQ) Jr
def aQ:=kB [] [0,3,4,11] 4 QF
def aR:=kE 1 [] [0,3,4,11] 4 QF Jr
def Oc (x0:List AD) (x1 x2:Int) (x3:Bool) (x4:AA) (x5:O) (x6:List O) (x7:List Y) (x8:AD):Option AA:=cG OF aQ (AE CQ) aR ⟨[(0,.ptr 0 0),(3,.lst Aq x0),(4,.int .i64 x1),(11,.int .i64 x2),(12,.ptr 4 0),(71,.bool x3)],[.var (Ab.enc x4),.var (U.enc x5),.frz U x6,.frz AC x7,.var (Aq.enc x8)]⟩
def CW (x0:List AD) (x1 x2:Int) (x3:AA) (x4:O) (x5:List O) (x6:List Y):Option AA:=Ob ⟨[(0,.ptr 0 0),(3,.lst Aq x0),(4,.int .i64 x1),(11,.int .i64 x2)],[.var (Ab.enc x3),.var (U.enc x4),.frz U x5,.frz AC x6]⟩
def Od (x0:List AD) (x1 x2:Int) (x3:Bool) (x4:AA) (x5:O) (x6:List O) (x7:List Y) (x8:AD):Option AA:=(if ([]:List AG).length+x4.2.2.2.length≤68719476736 then (if 0≤x8.1 then (if x8.1<((([]:List AG)++x4.2.2.2).length:Int) then (let z2:List AG:=(([]:List AG)++x4.2.2.2).set x8.1.toNat (((([]:List AG)++x4.2.2.2).getD x8.1.toNat (0,ByteArray.empty,ByteArray.empty,0,0,0,0,0,ByteArray.empty)).1,(((([]:List AG)++x4.2.2.2).getD x8.1.toNat (0,ByteArray.empty,ByteArray.empty,0,0,0,0,0,ByteArray.empty)).2).1,((((([]:List AG)++x4.2.2.2).getD x8.1.toNat (0,ByteArray.empty,ByteArray.empty,0,0,0,0,0,ByteArray.empty)).2).2).1,(((((([]:List AG)++x4.2.2.2).getD x8.1.toNat (0,ByteArray.empty,ByteArray.empty,0,0,0,0,0,ByteArray.empty)).2).2).2).1,x1,((((((([]:List AG)++x4.2.2.2).getD x8.1.toNat (0,ByteArray.empty,ByteArray.empty,0,0,0,0,0,ByteArray.empty)).2).2).2).2).2); (let z3:List AG:=z2.set x8.1.toNat ((z2.getD x8.1.toNat (0,ByteArray.empty,ByteArray.empty,0,0,0,0,0,ByteArray.empty)).1,((z2.getD x8.1.toNat (0,ByteArray.empty,ByteArray.empty,0,0,0,0,0,ByteArray.empty)).2).1,(((z2.getD x8.1.toNat (0,ByteArray.empty,ByteArray.empty,0,0,0,0,0,ByteArray.empty)).2).2).1,((((z2.getD x8.1.toNat (0,ByteArray.empty,ByteArray.empty,0,0,0,0,0,ByteArray.empty)).2).2).2).1,(((((z2.getD x8.1.toNat (0,ByteArray.empty,ByteArray.empty,0,0,0,0,0,ByteArray.empty)).2).2).2).2).1,x8.2.2.2.2.2,((((((z2.getD x8.1.toNat (0,ByteArray.empty,ByteArray.empty,0,0,0,0,0,ByteArray.empty)).2).2).2).2).2).2); (let z4:List AG:=z3.set x8.1.toNat ((z3.getD x8.1.toNat (0,ByteArray.empty,ByteArray.empty,0,0,0,0,0,ByteArray.empty)).1,((z3.getD x8.1.toNat (0,ByteArray.empty,ByteArray.empty,0,0,0,0,0,ByteArray.empty)).2).1,(((z3.getD x8.1.toNat (0,ByteArray.empty,ByteArray.empty,0,0,0,0,0,ByteArray.empty)).2).2).1,((((z3.getD x8.1.toNat (0,ByteArray.empty,ByteArray.empty,0,0,0,0,0,ByteArray.empty)).2).2).2).1,(((((z3.getD x8.1.toNat (0,ByteArray.empty,ByteArray.empty,0,0,0,0,0,ByteArray.empty)).2).2).2).2).1,((((((z3.getD x8.1.toNat (0,ByteArray.empty,ByteArray.empty,0,0,0,0,0,ByteArray.empty)).2).2).2).2).2).1,x8.2.1,(((((((z3.getD x8.1.toNat (0,ByteArray.empty,ByteArray.empty,0,0,0,0,0,ByteArray.empty)).2).2).2).2).2).2).2); (let z5:List AG:=z4.set x8.1.toNat ((z4.getD x8.1.toNat (0,ByteArray.empty,ByteArray.empty,0,0,0,0,0,ByteArray.empty)).1,((z4.getD x8.1.toNat (0,ByteArray.empty,ByteArray.empty,0,0,0,0,0,ByteArray.empty)).2).1,(((z4.getD x8.1.toNat (0,ByteArray.empty,ByteArray.empty,0,0,0,0,0,ByteArray.empty)).2).2).1,((((z4.getD x8.1.toNat (0,ByteArray.empty,ByteArray.empty,0,0,0,0,0,ByteArray.empty)).2).2).2).1,(((((z4.getD x8.1.toNat (0,ByteArray.empty,ByteArray.empty,0,0,0,0,0,ByteArray.empty)).2).2).2).2).1,((((((z4.getD x8.1.toNat (0,ByteArray.empty,ByteArray.empty,0,0,0,0,0,ByteArray.empty)).2).2).2).2).2).1,(((((((z4.getD x8.1.toNat (0,ByteArray.empty,ByteArray.empty,0,0,0,0,0,ByteArray.empty)).2).2).2).2).2).2).1,x8.2.2.1,((((((((z4.getD x8.1.toNat (0,ByteArray.empty,ByteArray.empty,0,0,0,0,0,ByteArray.empty)).2).2).2).2).2).2).2).2); (if (((z5.getD x8.1.toNat (0,ByteArray.empty,ByteArray.empty,0,0,0,0,0,ByteArray.empty)).1)==2)=true then (let z6:List AG:=z5.set x8.1.toNat ((z5.getD x8.1.toNat (0,ByteArray.empty,ByteArray.empty,0,0,0,0,0,ByteArray.empty)).1,((z5.getD x8.1.toNat (0,ByteArray.empty,ByteArray.empty,0,0,0,0,0,ByteArray.empty)).2).1,(((z5.getD x8.1.toNat (0,ByteArray.empty,ByteArray.empty,0,0,0,0,0,ByteArray.empty)).2).2).1,((((z5.getD x8.1.toNat (0,ByteArray.empty,ByteArray.empty,0,0,0,0,0,ByteArray.empty)).2).2).2).1,(((((z5.getD x8.1.toNat (0,ByteArray.empty,ByteArray.empty,0,0,0,0,0,ByteArray.empty)).2).2).2).2).1,((((((z5.getD x8.1.toNat (0,ByteArray.empty,ByteArray.empty,0,0,0,0,0,ByteArray.empty)).2).2).2).2).2).1,(((((((z5.getD x8.1.toNat (0,ByteArray.empty,ByteArray.empty,0,0,0,0,0,ByteArray.empty)).2).2).2).2).2).2).1,((((((((z5.getD x8.1.toNat (0,ByteArray.empty,ByteArray.empty,0,0,0,0,0,ByteArray.empty)).2).2).2).2).2).2).2).1,x8.2.2.2.2.1); (CW x0 x1 (i64.wrap (x2+1)) (x4.1,x4.2.1,x4.2.2.1,z6) x5 x6 x7)) else (CW x0 x1 (i64.wrap (x2+1)) (x4.1,x4.2.1,x4.2.2.1,z5) x5 x6 x7)))))) else none) else none) else none)
def Ir (x0:List AD) (x1 x2:Int) (x3:AA) (x4:O) (x5:List O) (x6:List Y):Option AA:=(if (decide (x2<(x0.length:Int)))=true then (if 0≤x2 then (if x2<(x0.length:Int) then (if (decide (((x0.getD x2.toNat (0,0,0,ByteArray.empty,ByteArray.empty,0)).1)≥(x3.2.2.2.length:Int)))=true then (CW x0 x1 (i64.wrap (x2+1)) x3 x4 x5 x6) else (if 0≤((x0.getD x2.toNat (0,0,0,ByteArray.empty,ByteArray.empty,0)).1) then (if ((x0.getD x2.toNat (0,0,0,ByteArray.empty,ByteArray.empty,0)).1)<(x3.2.2.2.length:Int) then (if (decide (((((((x3.2.2.2.getD ((x0.getD x2.toNat (0,0,0,ByteArray.empty,ByteArray.empty,0)).1).toNat (0,ByteArray.empty,ByteArray.empty,0,0,0,0,0,ByteArray.empty)).2).2).2).2).1)≥0))=true then (CW x0 x1 (i64.wrap (x2+1)) x3 x4 x5 x6) else (Oc x0 x1 x2 (decide (((((((x3.2.2.2.getD ((x0.getD x2.toNat (0,0,0,ByteArray.empty,ByteArray.empty,0)).1).toNat (0,ByteArray.empty,ByteArray.empty,0,0,0,0,0,ByteArray.empty)).2).2).2).2).1)≥0)) x3 x4 x5 x6 (x0.getD x2.toNat (0,0,0,ByteArray.empty,ByteArray.empty,0)))) else none) else none)) else none) else none) else (some x3))
def TW (x1:O) (x2:List Y) (x3:List AD) (x4:Int) (b0:AA):Option AA:=(if ([]:List O).length+b0.2.1.length≤68719476736 then (if 0≤(i64.wrap (x1.1-1)) then (if (i64.wrap (x1.1-1))<((([]:List O)++b0.2.1).length:Int) then (let z1:List O:=(([]:List O)++b0.2.1).set ((i64.wrap (x1.1-1)).toNat) x1; (if ([]:List Y).length+b0.2.2.1.length≤68719476736 then (if (([]:List Y)++b0.2.2.1).length+x2.length≤68719476736 then (CW x3 x4 0 (b0.1,z1,((([]:List Y)++b0.2.2.1)++x2),b0.2.2.2) x1 z1 ((([]:List Y)++b0.2.2.1)++x2)) else none) else none)) else none) else none) else none)
theorem Yy:wV Od Oc:=jS (by kernel_rfl)
theorem Oe:uW Ir CW:=lS (by kernel_rfl)
theorem fV:qn TW En:=cT CQ rfl ⟨rfl,rfl⟩ (by kernel_rfl)
def qG (x0:O):Option O:=(some (x0.1,x0.2.1,true,false,false,false,([]:List Int),([]:List X),0,0,0,0,(ByteArray.empty,ByteArray.empty,0),([]:List Int)))
theorem qH:PN qG XY:=cT Q8 rfl ⟨rfl,rfl⟩ (by kernel_rfl)
def R_ (x1:Int) (x2:AO) (b0:AA):Option (Int×AA):=(if ((b0.2.2.1.length:Int)==0)=true then (some (1,b0)) else (if (b0.2.2.1.length:Int)=0 then none else (if 0≤(Int.tmod x2.2.2.1 (b0.2.2.1.length:Int)) then (if (Int.tmod x2.2.2.1 (b0.2.2.1.length:Int))<(b0.2.2.1.length:Int) then (if (x2.1==4)=true then (if ([]:List Y).length+b0.2.2.1.length≤68719476736 then (if (([]:List Y)++b0.2.2.1).length+([b0.2.2.1.getD (Int.tmod x2.2.2.1 (b0.2.2.1.length:Int)).toNat (0,0,0,0,0,([]:List X))]:List Y).length≤68719476736 then (some (0,(b0.1,b0.2.1,((([]:List Y)++b0.2.2.1)++([b0.2.2.1.getD (Int.tmod x2.2.2.1 (b0.2.2.1.length:Int)).toNat (0,0,0,0,0,([]:List X))]:List Y)),b0.2.2.2))) else none) else none) else (if 0≤(0:Int) then (if 0≤(Int.tmod x2.2.2.1 (b0.2.2.1.length:Int)) then (if (Int.tmod x2.2.2.1 (b0.2.2.1.length:Int))≤(b0.2.2.1.length:Int) then (if 0≤(i64.wrap ((Int.tmod x2.2.2.1 (b0.2.2.1.length:Int))+1)) then (if (i64.wrap ((Int.tmod x2.2.2.1 (b0.2.2.1.length:Int))+1))≤(b0.2.2.1.length:Int) then (if (b0.2.2.1.length:Int)≤(b0.2.2.1.length:Int) then (if ([]:List Y).length+((b0.2.2.1.take (Int.tmod x2.2.2.1 (b0.2.2.1.length:Int)).toNat).drop (0:Int).toNat).length≤68719476736 then (if (([]:List Y)++((b0.2.2.1.take (Int.tmod x2.2.2.1 (b0.2.2.1.length:Int)).toNat).drop (0:Int).toNat)).length+((b0.2.2.1.take (b0.2.2.1.length:Int).toNat).drop (i64.wrap ((Int.tmod x2.2.2.1 (b0.2.2.1.length:Int))+1)).toNat).length≤68719476736 then (if (x2.1==3)=true then (some (0,(b0.1,b0.2.1,((([]:List Y)++((b0.2.2.1.take (Int.tmod x2.2.2.1 (b0.2.2.1.length:Int)).toNat).drop (0:Int).toNat))++((b0.2.2.1.take (b0.2.2.1.length:Int).toNat).drop (i64.wrap ((Int.tmod x2.2.2.1 (b0.2.2.1.length:Int))+1)).toNat)),b0.2.2.2))) else (if 0≤(i64.wrap (((((b0.2.2.1.getD (Int.tmod x2.2.2.1 (b0.2.2.1.length:Int)).toNat (0,0,0,0,0,([]:List X))).2).2).1)-1)) then (if (i64.wrap (((((b0.2.2.1.getD (Int.tmod x2.2.2.1 (b0.2.2.1.length:Int)).toNat (0,0,0,0,0,([]:List X))).2).2).1)-1))<(b0.2.1.length:Int) then ((Po (b0.2.1.getD (i64.wrap (((((b0.2.2.1.getD (Int.tmod x2.2.2.1 (b0.2.2.1.length:Int)).toNat (0,0,0,0,0,([]:List X))).2).2).1)-1)).toNat (0,0,false,false,false,false,([]:List Int),([]:List X),0,0,0,0,(ByteArray.empty,ByteArray.empty,0),([]:List Int))) b0.1 (b0.2.2.1.getD (Int.tmod x2.2.2.1 (b0.2.2.1.length:Int)).toNat (0,0,0,0,0,([]:List X)))).bind fun y1=>((En y1.1 y1.2.1 y1.2.2 x1 (b0.1,b0.2.1,((([]:List Y)++((b0.2.2.1.take (Int.tmod x2.2.2.1 (b0.2.2.1.length:Int)).toNat).drop (0:Int).toNat))++((b0.2.2.1.take (b0.2.2.1.length:Int).toNat).drop (i64.wrap ((Int.tmod x2.2.2.1 (b0.2.2.1.length:Int))+1)).toNat)),b0.2.2.2)).bind fun y2=>(some (0,y2)))) else none) else none)) else none) else none) else none) else none) else none) else none) else none) else none)) else none) else none)))
theorem ZR:PO R_ R8:=cT M1 rfl ⟨rfl,rfl⟩ (by kernel_rfl)
def Xq:=cG NI (AE CJ) (AE CJ) kx
def Xr:=kE 0 [(3,0)] [3] 1 Xq kx
def Wd:St→Option (RT (BM.outs CJ)):=lG NH [(3,0)] [0,3,4] 1 (AE CJ) Xr
def DS (x0:List Y) (x1:Int) (x2:List Y):Option (List Y):=Wd ⟨[(0,.lst AC x0),(3,.row 0),(4,.int .i64 x1)],[.rows 97 AC x2]⟩
def HH (x0:List Y) (x1:Int) (x2:List Y):Option (List Y):=(if (decide (x1<(x0.length:Int)))=true then (if 0≤x1 then (if x1<(x0.length:Int) then (if ([]:List X).length+((((((x0.getD x1.toNat (0,0,0,0,0,([]:List X))).2).2).2).2).2).length≤68719476736 then (if x2.length+([((x0.getD x1.toNat (0,0,0,0,0,([]:List X))).1,((x0.getD x1.toNat (0,0,0,0,0,([]:List X))).2).1,(((x0.getD x1.toNat (0,0,0,0,0,([]:List X))).2).2).1,((((x0.getD x1.toNat (0,0,0,0,0,([]:List X))).2).2).2).1,(((((x0.getD x1.toNat (0,0,0,0,0,([]:List X))).2).2).2).2).1,(([]:List X)++((((((x0.getD x1.toNat (0,0,0,0,0,([]:List X))).2).2).2).2).2)))]:List Y).length≤68719476736 then (DS x0 (i64.wrap (x1+1)) (x2++([((x0.getD x1.toNat (0,0,0,0,0,([]:List X))).1,((x0.getD x1.toNat (0,0,0,0,0,([]:List X))).2).1,(((x0.getD x1.toNat (0,0,0,0,0,([]:List X))).2).2).1,((((x0.getD x1.toNat (0,0,0,0,0,([]:List X))).2).2).2).1,(((((x0.getD x1.toNat (0,0,0,0,0,([]:List X))).2).2).2).2).1,(([]:List X)++((((((x0.getD x1.toNat (0,0,0,0,0,([]:List X))).2).2).2).2).2)))]:List Y))) else none) else none) else none) else none) else (some x2))
def QG (x0:List Y):Option (List Y):=(DS x0 0 ([]:List Y))
theorem L_:PO HH DS:=lS (by kernel_rfl)
theorem aS:PN QG Jc:=cT CJ rfl ⟨rfl,rfl⟩ (by kernel_rfl)
def Xs (x0:O):Option O:=(if ([]:List Int).length+x0.2.2.2.2.2.2.1.length≤68719476736 then (if ([]:List X).length+x0.2.2.2.2.2.2.2.1.length≤68719476736 then (if ([]:List Int).length+x0.2.2.2.2.2.2.2.2.2.2.2.2.2.length≤68719476736 then (some (x0.1,x0.2.1,x0.2.2.1,x0.2.2.2.1,x0.2.2.2.2.1,x0.2.2.2.2.2.1,(([]:List Int)++x0.2.2.2.2.2.2.1),(([]:List X)++x0.2.2.2.2.2.2.2.1),x0.2.2.2.2.2.2.2.2.1,x0.2.2.2.2.2.2.2.2.2.1,x0.2.2.2.2.2.2.2.2.2.2.1,x0.2.2.2.2.2.2.2.2.2.2.2.1,x0.2.2.2.2.2.2.2.2.2.2.2.2.1,(([]:List Int)++x0.2.2.2.2.2.2.2.2.2.2.2.2.2))) else none) else none) else none)
theorem lr:PN Xs C6:=cT Kr rfl ⟨rfl,rfl⟩ (by kernel_rfl)
def cm (x0:ByteArray):Option Bool:=((Ae (x0.size:Int) 1 12).bind fun y1=>(some y1))
theorem o7:PN cm O0:=cT Ow rfl ⟨rfl,rfl⟩ (by kernel_rfl)
def Rc (x0:List (List Int)) (x1:Bool) (x2:O) (x3:Y) (x4 x5:O):Option (O×List Y×List AD):=cG Sp (AE GI) (AE GI) kx ⟨[(1,.lst (.slice (.int .i64)) x0),(5,.ptr 1 0),(6,.ptr 2 0),(9,.ptr 3 0),(47,.bool x1)],[.var (U.enc x2),.var (AC.enc x3),.var (U.enc x4),.var (U.enc x5)]⟩
def Rd (x0:List (List Int)) (x1:Bool) (x2:O) (x3:Y) (x4 x5:O):Option (O×List Y×List AD):=((Jd x0 x3 x5).bind fun y5=>((Cb y5.2.2).bind fun y6=>(some (y6,y5.1,y5.2.1))))
def Xt (x0:O) (x1:List (List Int)) (x2:Y):Option (O×List Y×List AD):=((Cb x0).bind fun y1=>(if (x2.2.2.1 != x0.1)=false then (if (decide (x2.2.2.2.1<x0.2.1))=false then (if (decide (x2.2.2.2.1>(x1.length:Int)))=false then ((FO x0).bind fun y2=>(if (!y2)=false then ((Du x1).bind fun y3=>(if (!y3)=false then ((UY x2).bind fun y4=>(if (!y4)=true then (some (y1,[],[])) else (Rc x1 (!y4) x0 x2 (0,0,false,false,false,false,([]:List Int),([]:List X),0,0,0,0,(ByteArray.empty,ByteArray.empty,0),([]:List Int)) y1))) else (some (y1,[],[])))) else (some (y1,[],[])))) else (some (y1,[],[]))) else (some (y1,[],[]))) else (some (y1,[],[]))))
theorem cn:rS Rd Rc:=jS (by kernel_rfl)
theorem lu:PO Xt K8:=cT GI rfl ⟨rfl,rfl⟩ (by kernel_rfl)
end
end Go.Proofs.YtokiohnjegbnpaaGreat.Core

namespace Go.Proofs.YtokiohnjegbnpaaGreat.Core
open Go IntKind
set_option linter.unusedVariables false
set_option maxRecDepth 100000
noncomputable section
def Is:=kE 0 [] [] 4 (AE CD) kx
def NR:St→Option (RT (BM.outs CD)):=lG OK [] [0,3,20,21,22] 4 (AE CD) Is
def Yz:=kB [] [0,3,20,21,22] 4 NR
def Of:=cG OJ Yz (AE CD) Is
def Y0:=kB [] [0,3,20,21,22] 4 Of
def Y1:=kE 1 [] [0,3,20,21,22] 4 Of Is
def NS (x0:Int) (x1:List AD) (x2 x3:Int) (x4:Bool) (x5:List (List Int)) (x6:List O) (x7:List Y) (x8:List AG) (x9:AD):Option AA:=cG OI Y0 (AE CD) Y1 ⟨[(0,.ptr 0 0),(3,.int .i64 x0),(9,.ptr 4 0),(20,.lst Aq x1),(21,.int .i64 x2),(22,.int .i64 x3),(47,.bool x4)],[.var [.lst (.slice (.int .i64)) x5,.row 1,.row 2,.row 3],.rows 42 U x6,.rows 97 AC x7,.rows 47 AM x8,.var (Aq.enc x9)]⟩
def CK (x0:Int) (x1:List AD) (x2 x3:Int) (x4:List (List Int)) (x5:List O) (x6:List Y) (x7:List AG):Option AA:=NR ⟨[(0,.ptr 0 0),(3,.int .i64 x0),(20,.lst Aq x1),(21,.int .i64 x2),(22,.int .i64 x3)],[.var [.lst (.slice (.int .i64)) x4,.row 1,.row 2,.row 3],.rows 42 U x5,.rows 97 AC x6,.rows 47 AM x7]⟩
def NT (x0:Int) (x1:List AD) (x2 x3:Int) (x4:Bool) (x5:List (List Int)) (x6:List O) (x7:List Y) (x8:List AG) (x9:AD):Option AA:=(if 0≤x9.1 then (if x9.1<(x8.length:Int) then (let z2:List AG:=x8.set x9.1.toNat ((x8.getD x9.1.toNat (0,ByteArray.empty,ByteArray.empty,0,0,0,0,0,ByteArray.empty)).1,((x8.getD x9.1.toNat (0,ByteArray.empty,ByteArray.empty,0,0,0,0,0,ByteArray.empty)).2).1,(((x8.getD x9.1.toNat (0,ByteArray.empty,ByteArray.empty,0,0,0,0,0,ByteArray.empty)).2).2).1,((((x8.getD x9.1.toNat (0,ByteArray.empty,ByteArray.empty,0,0,0,0,0,ByteArray.empty)).2).2).2).1,x0,(((((x8.getD x9.1.toNat (0,ByteArray.empty,ByteArray.empty,0,0,0,0,0,ByteArray.empty)).2).2).2).2).2); (let z3:List AG:=z2.set x9.1.toNat ((z2.getD x9.1.toNat (0,ByteArray.empty,ByteArray.empty,0,0,0,0,0,ByteArray.empty)).1,((z2.getD x9.1.toNat (0,ByteArray.empty,ByteArray.empty,0,0,0,0,0,ByteArray.empty)).2).1,(((z2.getD x9.1.toNat (0,ByteArray.empty,ByteArray.empty,0,0,0,0,0,ByteArray.empty)).2).2).1,((((z2.getD x9.1.toNat (0,ByteArray.empty,ByteArray.empty,0,0,0,0,0,ByteArray.empty)).2).2).2).1,(((((z2.getD x9.1.toNat (0,ByteArray.empty,ByteArray.empty,0,0,0,0,0,ByteArray.empty)).2).2).2).2).1,x9.2.2.2.2.2,((((((z2.getD x9.1.toNat (0,ByteArray.empty,ByteArray.empty,0,0,0,0,0,ByteArray.empty)).2).2).2).2).2).2); (let z4:List AG:=z3.set x9.1.toNat ((z3.getD x9.1.toNat (0,ByteArray.empty,ByteArray.empty,0,0,0,0,0,ByteArray.empty)).1,((z3.getD x9.1.toNat (0,ByteArray.empty,ByteArray.empty,0,0,0,0,0,ByteArray.empty)).2).1,(((z3.getD x9.1.toNat (0,ByteArray.empty,ByteArray.empty,0,0,0,0,0,ByteArray.empty)).2).2).1,((((z3.getD x9.1.toNat (0,ByteArray.empty,ByteArray.empty,0,0,0,0,0,ByteArray.empty)).2).2).2).1,(((((z3.getD x9.1.toNat (0,ByteArray.empty,ByteArray.empty,0,0,0,0,0,ByteArray.empty)).2).2).2).2).1,((((((z3.getD x9.1.toNat (0,ByteArray.empty,ByteArray.empty,0,0,0,0,0,ByteArray.empty)).2).2).2).2).2).1,x9.2.1,(((((((z3.getD x9.1.toNat (0,ByteArray.empty,ByteArray.empty,0,0,0,0,0,ByteArray.empty)).2).2).2).2).2).2).2); (let z5:List AG:=z4.set x9.1.toNat ((z4.getD x9.1.toNat (0,ByteArray.empty,ByteArray.empty,0,0,0,0,0,ByteArray.empty)).1,((z4.getD x9.1.toNat (0,ByteArray.empty,ByteArray.empty,0,0,0,0,0,ByteArray.empty)).2).1,(((z4.getD x9.1.toNat (0,ByteArray.empty,ByteArray.empty,0,0,0,0,0,ByteArray.empty)).2).2).1,((((z4.getD x9.1.toNat (0,ByteArray.empty,ByteArray.empty,0,0,0,0,0,ByteArray.empty)).2).2).2).1,(((((z4.getD x9.1.toNat (0,ByteArray.empty,ByteArray.empty,0,0,0,0,0,ByteArray.empty)).2).2).2).2).1,((((((z4.getD x9.1.toNat (0,ByteArray.empty,ByteArray.empty,0,0,0,0,0,ByteArray.empty)).2).2).2).2).2).1,(((((((z4.getD x9.1.toNat (0,ByteArray.empty,ByteArray.empty,0,0,0,0,0,ByteArray.empty)).2).2).2).2).2).2).1,x9.2.2.1,((((((((z4.getD x9.1.toNat (0,ByteArray.empty,ByteArray.empty,0,0,0,0,0,ByteArray.empty)).2).2).2).2).2).2).2).2); (if (((z5.getD x9.1.toNat (0,ByteArray.empty,ByteArray.empty,0,0,0,0,0,ByteArray.empty)).1)==2)=true then (let z6:List AG:=z5.set x9.1.toNat ((z5.getD x9.1.toNat (0,ByteArray.empty,ByteArray.empty,0,0,0,0,0,ByteArray.empty)).1,((z5.getD x9.1.toNat (0,ByteArray.empty,ByteArray.empty,0,0,0,0,0,ByteArray.empty)).2).1,(((z5.getD x9.1.toNat (0,ByteArray.empty,ByteArray.empty,0,0,0,0,0,ByteArray.empty)).2).2).1,((((z5.getD x9.1.toNat (0,ByteArray.empty,ByteArray.empty,0,0,0,0,0,ByteArray.empty)).2).2).2).1,(((((z5.getD x9.1.toNat (0,ByteArray.empty,ByteArray.empty,0,0,0,0,0,ByteArray.empty)).2).2).2).2).1,((((((z5.getD x9.1.toNat (0,ByteArray.empty,ByteArray.empty,0,0,0,0,0,ByteArray.empty)).2).2).2).2).2).1,(((((((z5.getD x9.1.toNat (0,ByteArray.empty,ByteArray.empty,0,0,0,0,0,ByteArray.empty)).2).2).2).2).2).2).1,((((((((z5.getD x9.1.toNat (0,ByteArray.empty,ByteArray.empty,0,0,0,0,0,ByteArray.empty)).2).2).2).2).2).2).2).1,x9.2.2.2.2.1); (CK x0 x1 x2 (i64.wrap (x3+1)) x5 x6 x7 z6)) else (CK x0 x1 x2 (i64.wrap (x3+1)) x5 x6 x7 z5)))))) else none) else none)
def Ht (x0:Int) (x1:List AD) (x2 x3:Int) (x4:List (List Int)) (x5:List O) (x6:List Y) (x7:List AG):Option AA:=(if (decide (x3<x2))=true then (if 0≤x3 then (if x3<(x1.length:Int) then ((Ae ((x1.getD x3.toNat (0,0,0,ByteArray.empty,ByteArray.empty,0)).1) 0 (i64.wrap ((x7.length:Int)-1))).bind fun y1=>(if (!y1)=true then (CK x0 x1 x2 (i64.wrap (x3+1)) x4 x5 x6 x7) else (if 0≤((x1.getD x3.toNat (0,0,0,ByteArray.empty,ByteArray.empty,0)).1) then (if ((x1.getD x3.toNat (0,0,0,ByteArray.empty,ByteArray.empty,0)).1)<(x7.length:Int) then (if (((((((x7.getD (((x1.getD x3.toNat (0,0,0,ByteArray.empty,ByteArray.empty,0)).1).toNat) (0,ByteArray.empty,ByteArray.empty,0,0,0,0,0,ByteArray.empty)).2).2).2).2).1) != (-1:Int))=true then (CK x0 x1 x2 (i64.wrap (x3+1)) x4 x5 x6 x7) else (NS x0 x1 x2 x3 (((((((x7.getD (((x1.getD x3.toNat (0,0,0,ByteArray.empty,ByteArray.empty,0)).1).toNat) (0,ByteArray.empty,ByteArray.empty,0,0,0,0,0,ByteArray.empty)).2).2).2).2).1) != (-1:Int)) x4 x5 x6 x7 (x1.getD x3.toNat (0,0,0,ByteArray.empty,ByteArray.empty,0)))) else none) else none))) else none) else none) else (some (x4,x5,x6,x7)))
def Re (x1:List Y) (x2:List AD) (x3:Int) (b0:AA):Option AA:=(if b0.2.2.1.length+x1.length≤68719476736 then (CK x3 x2 (x2.length:Int) 0 b0.1 b0.2.1 (b0.2.2.1++x1) b0.2.2.2) else none)
theorem Xu:sX NT NS:=jS (by kernel_rfl)
theorem NU:sW Ht CK:=lS (by kernel_rfl)
theorem cp:iF Re Ff:=cT CD rfl ⟨rfl,rfl⟩ (by kernel_rfl)
def SA:=cG I1 (AE BZ) (AE BZ) kx
def SB:=kE 0 [] [] 0 SA kx
def QT:St→Option (RT (BM.outs BZ)):=lG I0 [] [0,1,7,8] 0 (AE BZ) SB
def CU (x0:List Int) (x1 x2 x3:Int):Option Int:=QT ⟨[(0,.lst (.int .i64) x0),(1,.int .i64 x1),(7,.int .i64 x2),(8,.int .i64 x3)],[]⟩
def BW (x0:List Int) (x1 x2 x3:Int):Option Int:=(if (decide (x3<x2))=true then (if 0≤x3 then (if x3<(x0.length:Int) then (if (x1==(x0.getD x3.toNat 0))=true then (some x3) else (CU x0 x1 x2 (i64.wrap (x3+1)))) else none) else none) else (some (-1:Int)))
def Uc (x0:List Int) (x1:Int):Option Int:=(CU x0 x1 (x0.length:Int) 0)
theorem By:iF BW CU:=lS (by kernel_rfl)
theorem LX:QQ Uc C7:=cT BZ rfl ⟨rfl,rfl⟩ (by kernel_rfl)
def Rf (x1:List Int) (b0:AN):Option (Int×AN):=((CM (x1.length:Int) b0).bind fun y1=>(if 0≤y1.1 then (if y1.1<(x1.length:Int) then (some ((x1.getD y1.1.toNat 0),y1.2)) else none) else none))
theorem cq:QQ Rf HR:=cT HO rfl ⟨rfl,rfl⟩ (by kernel_rfl)
def Xv (x1:Int) (b0:AN):Option (Bool×AN):=((CM x1 b0).bind fun y1=>(some ((y1.1==0),y1.2)))
theorem lw:QQ Xv C8:=cT Kt rfl ⟨rfl,rfl⟩ (by kernel_rfl)
def Xw (x1:List ByteArray) (b0:AN):Option (ByteArray×AN):=((CM (x1.length:Int) b0).bind fun y1=>(if 0≤y1.1 then (if y1.1<(x1.length:Int) then (some ((x1.getD y1.1.toNat ByteArray.empty),y1.2)) else none) else none))
theorem lx:QQ Xw K9:=cT Ku rfl ⟨rfl,rfl⟩ (by kernel_rfl)
def JO (x0:List Int) (x1 x2 x3:O) (x4:X) (x5:List Int) (x6:Y):Option (O×List Y×List AD×Bool):=cG XM (AE Dh) (AE Dh) kx ⟨[(12,.ptr 1 0),(16,.ptr 2 0),(18,.lst (.int .i64) x0),(20,.ptr 5 0)],[.var (U.enc x1),.var (U.enc x2),.var (U.enc x3),.var (AB.enc x4),.frz (.int .i64) x5,.var (AC.enc x6)]⟩
def G3 (x0:List (List Int)) (x1 x2:Int) (x3:Bool) (x4 x5 x6:O) (x7:X):Option (O×List Y×List AD×Bool):=cG U2 (AE Dh) (AE Dh) kx ⟨[(1,.lst (.slice (.int .i64)) x0),(2,.int .i64 x1),(3,.int .i64 x2),(6,.ptr 0 0),(12,.ptr 1 0),(16,.ptr 2 0),(17,.ptr 3 0),(69,.bool x3)],[.var (U.enc x4),.var (U.enc x5),.var (U.enc x6),.var (AB.enc x7)]⟩
def V0 (x0:List (List Int)) (x1 x2:Int) (x3 x4:ByteArray) (x5:Bool) (x6 x7:O):Option (O×List Y×List AD×Bool):=cG U3 (AE Dh) (AE Dh) kx ⟨[(1,.lst (.slice (.int .i64)) x0),(2,.int .i64 x1),(3,.int .i64 x2),(4,.str x3),(5,.str x4),(6,.ptr 0 0),(12,.ptr 1 0),(37,.bool x5)],[.var (U.enc x6),.var (U.enc x7)]⟩
def V5 (x0:List Int) (x1 x2 x3:O) (x4:X) (x5:List Int) (x6:Y):Option (O×List Y×List AD×Bool):=(if ((x0.length:Int)==0)=true then ((Gr x3).bind fun y9=>(some (y9.2,[],y9.1,true))) else (pR ((Ag x0 x6 x3).bind fun y10=>(some (x3,y10.1,[],true))) ((Ag x0 x6 x3).bind fun y11=>(some (y11.2,y11.1,[],true)))))
def V6 (x0:List (List Int)) (x1 x2:Int) (x3:Bool) (x4 x5 x6:O) (x7:X):Option (O×List Y×List AD×Bool):=(if 0≤(i64.wrap (x4.2.1-1)) then (if (i64.wrap (x4.2.1-1))<(x0.length:Int) then ((Bw (x0.getD (i64.wrap (x4.2.1-1)).toNat ([]:List Int)) x6).bind fun y6=>((Bb y6.1).bind fun y7=>((Cd y7).bind fun y8=>(if (x1==1)=true then (JO y6.1 x4 x5 (y6.2.1,y6.2.2.1,y6.2.2.2.1,y6.2.2.2.2.1,y6.2.2.2.2.2.1,y6.2.2.2.2.2.2.1,y6.2.2.2.2.2.2.2.1,y6.2.2.2.2.2.2.2.2.1,y6.2.2.2.2.2.2.2.2.2.1,x1,x2,y6.2.2.2.2.2.2.2.2.2.1,x7,y8) x7 y8 (5,0,0,0,y6.2.2.2.2.2.2.2.2.2.1,([x7]:List X))) else (JO y6.1 x4 x5 (y6.2.1,y6.2.2.1,y6.2.2.2.1,y6.2.2.2.2.1,y6.2.2.2.2.2.1,y6.2.2.2.2.2.2.1,y6.2.2.2.2.2.2.2.1,y6.2.2.2.2.2.2.2.2.1,y6.2.2.2.2.2.2.2.2.2.1,x1,x2,y6.2.2.2.2.2.2.2.2.2.1,x7,y8) x7 y8 (7,0,0,0,y6.2.2.2.2.2.2.2.2.2.1,([]:List X))))))) else none) else none)
def V7 (x0:List (List Int)) (x1 x2:Int) (x3 x4:ByteArray) (x5:Bool) (x6 x7:O):Option (O×List Y×List AD×Bool):=((Cb x6).bind fun y4=>(if (x1==1)=true then (if ((x6.2.2.2.2.2.2.2.1.length:Int)==12)=true then ((M4 x6.2.2.2.2.2.2.2.1 x3).bind fun y5=>(if (false != T8 AB y5 (ByteArray.empty,ByteArray.empty,0))=true then (some ((0,0,false,false,false,false,([]:List Int),([]:List X),0,0,0,0,(ByteArray.empty,ByteArray.empty,0),([]:List Int)),[],[],false)) else (G3 x0 x1 x2 (false != T8 AB y5 (ByteArray.empty,ByteArray.empty,0)) x6 x7 (y4.1,y4.2.1,y4.2.2.1,y4.2.2.2.1,y4.2.2.2.2.1,y4.2.2.2.2.2.1,y4.2.2.2.2.2.2.1,y4.2.2.2.2.2.2.2.1,(i64.wrap (y4.2.2.2.2.2.2.2.2.1+1)),y4.2.2.2.2.2.2.2.2.2) (x3,x4,(i64.wrap ((i64.wrap (1000*x6.2.1))+(i64.wrap (y4.2.2.2.2.2.2.2.2.1+1)))))))) else (G3 x0 x1 x2 false x6 x7 (y4.1,y4.2.1,y4.2.2.1,y4.2.2.2.1,y4.2.2.2.2.1,y4.2.2.2.2.2.1,y4.2.2.2.2.2.2.1,y4.2.2.2.2.2.2.2.1,(i64.wrap (y4.2.2.2.2.2.2.2.2.1+1)),y4.2.2.2.2.2.2.2.2.2) (x3,x4,(i64.wrap ((i64.wrap (1000*x6.2.1))+(i64.wrap (y4.2.2.2.2.2.2.2.2.1+1))))))) else (G3 x0 x1 x2 false x6 x7 (y4.1,y4.2.1,y4.2.2.1,y4.2.2.2.1,y4.2.2.2.2.1,y4.2.2.2.2.2.1,y4.2.2.2.2.2.2.1,y4.2.2.2.2.2.2.2.1,(i64.wrap (y4.2.2.2.2.2.2.2.2.1+1)),y4.2.2.2.2.2.2.2.2.2) (x3,x4,(i64.wrap ((i64.wrap (1000*x6.2.1))+(i64.wrap (y4.2.2.2.2.2.2.2.2.1+1))))))))
def cr (x0:O) (x1:List (List Int)) (x2 x3:Int) (x4 x5:ByteArray):Option (O×List Y×List AD×Bool):=((FO x0).bind fun y1=>(if (!y1)=false then ((Gq x1 x0).bind fun y2=>(if (!y2.1)=false then ((K7 x2 x3 x4 x5).bind fun y3=>(if (!y3)=true then (some ((0,0,false,false,false,false,([]:List Int),([]:List X),0,0,0,0,(ByteArray.empty,ByteArray.empty,0),([]:List Int)),[],[],false)) else (V0 x1 x2 x3 x4 x5 (!y3) y2.2 (0,0,false,false,false,false,([]:List Int),([]:List X),0,0,0,0,(ByteArray.empty,ByteArray.empty,0),([]:List Int))))) else (some ((0,0,false,false,false,false,([]:List Int),([]:List X),0,0,0,0,(ByteArray.empty,ByteArray.empty,0),([]:List Int)),[],[],false)))) else (some ((0,0,false,false,false,false,([]:List Int),([]:List X),0,0,0,0,(ByteArray.empty,ByteArray.empty,0),([]:List Int)),[],[],false))))
theorem i5:uW V5 JO:=jS (by kernel_rfl)
theorem i6:sW V6 G3:=jS (by kernel_rfl)
theorem i7:sW V7 V0:=jS (by kernel_rfl)
theorem o8:rS cr O1:=cT Dh rfl ⟨rfl,rfl⟩ (by kernel_rfl)
def JP (x0:List (List Int)) (x1:Int) (x2:Bool) (x3 x4 x5:O):Option (O×List Y×Bool):=cG U8 (AE Fe) (AE Fe) kx ⟨[(1,.lst (.slice (.int .i64)) x0),(2,.int .i64 x1),(6,.ptr 1 0),(9,.ptr 2 0),(10,.bool x2)],[.var (U.enc x3),.var (U.enc x4),.var (U.enc x5)]⟩
def V8 (x0:List (List Int)) (x1:Int) (x2:Bool) (x3 x4:O):Option (O×List Y×Bool):=cG U9 (AE Fe) (AE Fe) kx ⟨[(1,.lst (.slice (.int .i64)) x0),(2,.int .i64 x1),(3,.ptr 0 0),(6,.ptr 1 0),(44,.bool x2)],[.var (U.enc x3),.var (U.enc x4)]⟩
def V9 (x0:List (List Int)) (x1:Int) (x2:Bool) (x3 x4 x5:O):Option (O×List Y×Bool):=((Fg x5).bind fun y5=>(if x2=true then (if 0≤(i64.wrap (x1-1)) then (if (i64.wrap (x1-1))<(x0.length:Int) then ((C9 (x0.getD (i64.wrap (x1-1)).toNat ([]:List Int)) y5.2.2.2.2.2.2.2.1 (y5.1,x1,false,false,true,y5.2.2.2.2.2)).bind fun y6=>(some (y6.2,y6.1,true))) else none) else none) else (if 0≤(i64.wrap (x1-2)) then (if (i64.wrap (x1-2))<(x0.length:Int) then (pR ((Bw (x0.getD (i64.wrap (x1-2)).toNat ([]:List Int)) (y5.1,x1,false,false,true,y5.2.2.2.2.2)).bind fun y7=>((Ag y7.1 (1,0,0,0,0,([]:List X)) y7.2).bind fun y8=>(some ((y5.1,x1,false,false,true,y5.2.2.2.2.2),y8.1,true)))) ((Bw (x0.getD (i64.wrap (x1-2)).toNat ([]:List Int)) (y5.1,x1,false,false,true,y5.2.2.2.2.2)).bind fun y9=>(pR ((Ag y9.1 (1,0,0,0,0,([]:List X)) y9.2).bind fun y10=>(some (y9.2,y10.1,true))) ((Ag y9.1 (1,0,0,0,0,([]:List X)) y9.2).bind fun y11=>(some (y11.2,y11.1,true)))))) else none) else none)))
def V_ (x0:List (List Int)) (x1:Int) (x2:Bool) (x3 x4:O):Option (O×List Y×Bool):=((Cb x3).bind fun y4=>(if x3.2.2.2.1=true then (JP x0 x1 (x3.2.1==(i64.wrap (x1-1))) x3 x4 y4) else (JP x0 x1 false x3 x4 y4)))
def ct (x0:O) (x1:List (List Int)) (x2:Int):Option (O×List Y×Bool):=((FO x0).bind fun y1=>(if (!y1)=true then (some ((0,0,false,false,false,false,([]:List Int),([]:List X),0,0,0,0,(ByteArray.empty,ByteArray.empty,0),([]:List Int)),[],false)) else ((Du x1).bind fun y2=>(if (!y2)=true then (some ((0,0,false,false,false,false,([]:List Int),([]:List X),0,0,0,0,(ByteArray.empty,ByteArray.empty,0),([]:List Int)),[],false)) else ((Ae x2 2 (x1.length:Int)).bind fun y3=>(if (!y3)=true then (some ((0,0,false,false,false,false,([]:List Int),([]:List X),0,0,0,0,(ByteArray.empty,ByteArray.empty,0),([]:List Int)),[],false)) else (if (decide (x2≤x0.2.1))=true then (some ((0,0,false,false,false,false,([]:List Int),([]:List X),0,0,0,0,(ByteArray.empty,ByteArray.empty,0),([]:List Int)),[],false)) else (if 0≤(i64.wrap (x2-1)) then (if (i64.wrap (x2-1))<(x1.length:Int) then (if 0≤(0:Int) then (if 0<((x1.getD (i64.wrap (x2-1)).toNat ([]:List Int)).length:Int) then (if (((x1.getD (i64.wrap (x2-1)).toNat ([]:List Int)).getD (0:Int).toNat 0) != x0.1)=true then (some ((0,0,false,false,false,false,([]:List Int),([]:List X),0,0,0,0,(ByteArray.empty,ByteArray.empty,0),([]:List Int)),[],false)) else (V8 x1 x2 (((x1.getD (i64.wrap (x2-1)).toNat ([]:List Int)).getD (0:Int).toNat 0) != x0.1) x0 (0,0,false,false,false,false,([]:List Int),([]:List X),0,0,0,0,(ByteArray.empty,ByteArray.empty,0),([]:List Int)))) else none) else none) else none) else none))))))))
theorem i8:rS V9 JP:=jS (by kernel_rfl)
theorem i9:qn V_ V8:=jS (by kernel_rfl)
theorem o9:PO ct O2:=cT Fe rfl ⟨rfl,rfl⟩ (by kernel_rfl)
def GR:=cG Ct (AE AU) (AE AU) kx
def GS:=kE 0 [] [] 0 GR kx
def F7:St→Option (RT (BM.outs AU)):=lG Cs [] [0,1,7,8] 0 (AE AU) GS
def BB (x0:List O) (x1 x2 x3:Int):Option Int:=F7 ⟨[(0,.lst U x0),(1,.clo 103 (.int .i64) x1),(7,.int .i64 x2),(8,.int .i64 x3)],[]⟩
def Be (x0:List O) (x1 x2 x3:Int):Option Int:=(if (decide (x3<x2))=true then (if 0≤x3 then (if x3<(x0.length:Int) then ((HC (x0.getD x3.toNat (0,0,false,false,false,false,([]:List Int),([]:List X),0,0,0,0,(ByteArray.empty,ByteArray.empty,0),([]:List Int))) x1).bind fun y1=>(if y1=true then (some x3) else (BB x0 x1 x2 (i64.wrap (x3+1))))) else none) else none) else (some (-1:Int)))
def DC (x0:List O) (x1:Int):Option Int:=(BB x0 x1 (x0.length:Int) 0)
theorem Cl:iF Be BB:=lS (by kernel_rfl)
theorem Gy:QQ DC B2:=cT AU rfl ⟨rfl,rfl⟩ (by kernel_rfl)
def MA (x0:O) (x1:Int):Option Bool:=(some (x0.1==x1))
theorem We:QQ MA HC:=cT E9 rfl ⟨rfl,rfl⟩ (by kernel_rfl)
def fW:=cG Sr (AE Dr) (AE Dr) kx
def fX:=kE 0 [] [] 0 fW kx
def cv:St→Option (RT (BM.outs Dr)):=lG Sq [] [0,3] 0 (AE Dr) fX
def Ha (x0:List Int) (x1:Int):Option Bool:=cv ⟨[(0,.lst (.int .i64) x0),(3,.int .i64 x1)],[]⟩
def LY (x0:List Int) (x1:Int):Option Bool:=(if (decide (x1<(x0.length:Int)))=true then (if 0≤x1 then (if x1<(x0.length:Int) then ((AR (x0.getD x1.toNat 0) 1 6).bind fun y2=>(if (!y2)=true then (some false) else (if 0≤(0:Int) then (if 0≤x1 then (if x1≤(x0.length:Int) then (if 0≤x1 then (if x1<(x0.length:Int) then ((Di ((x0.take x1.toNat).drop (0:Int).toNat) (x0.getD x1.toNat 0)).bind fun y3=>(if y3=true then (some false) else (Ha x0 (i64.wrap (x1+1))))) else none) else none) else none) else none) else none))) else none) else none) else (some true))
def Xx (x0:List Int):Option Bool:=((AR (x0.length:Int) 1 4).bind fun y1=>(if (!y1)=true then (some false) else (Ha x0 0)))
theorem Rg:QQ LY Ha:=lS (by kernel_rfl)
theorem ly:PN Xx Pn:=cT Dr rfl ⟨rfl,rfl⟩ (by kernel_rfl)
def Xy:=cG Su (AE Bh) (AE Bh) kx
def l7:=kE 0 [(16,2)] [12,16,17,18] 6 Xy kx
def i_:St→Option (RT (BM.outs Bh)):=lG MR [(16,2)] [2,6,12,16,17,18,19,20,21] 6 (AE Bh) l7
def l8:=kE 0 [(16,2)] [12,16,17,18] 5 Xy kx
def jA:St→Option (RT (BM.outs Bh)):=lG MR [(16,2)] [2,6,12,16,17,18,19,20,21] 5 (AE Bh) l8
def D6 (x0:Int) (x1:List AD) (x2:List Int) (x3:Int) (x4 x5:O) (x6:List Y) (x7:O) (x8:X) (x9:List X):Option (O×List Y×List AD×Bool):=i_ ⟨[(2,.int .i64 x0),(6,.ptr 0 0),(12,.ptr 1 0),(16,.row 2),(17,.lst Aq x1),(18,.ptr 3 0),(19,.ptr 4 0),(20,.lst (.int .i64) x2),(21,.int .i64 x3)],[.var (U.enc x4),.var (U.enc x5),.rows 97 AC x6,.var (U.enc x7),.var (AB.enc x8),.rows 38 AB x9]⟩
def N2 (x0:List (List Int)) (x1 x2:Int) (x3:List AD) (x4:Bool) (x5 x6:O) (x7:List Y) (x8:O) (x9:X) (x10:List X):Option (O×List Y×List AD×Bool):=cG MS (AE Bh) (AE Bh) kx ⟨[(1,.lst (.slice (.int .i64)) x0),(2,.int .i64 x1),(3,.int .i64 x2),(6,.ptr 0 0),(12,.ptr 1 0),(16,.row 2),(17,.lst Aq x3),(18,.ptr 3 0),(19,.ptr 4 0),(130,.bool x4)],[.var (U.enc x5),.var (U.enc x6),.rows 97 AC x7,.var (U.enc x8),.var (AB.enc x9),.rows 38 AB x10]⟩
def D7 (x0:Int) (x1:List AD) (x2:List Int) (x3:Int) (x4 x5:O) (x6:List Y) (x7:O) (x8:X):Option (O×List Y×List AD×Bool):=jA ⟨[(2,.int .i64 x0),(6,.ptr 0 0),(12,.ptr 1 0),(16,.row 2),(17,.lst Aq x1),(18,.ptr 3 0),(19,.ptr 4 0),(20,.lst (.int .i64) x2),(21,.int .i64 x3)],[.var (U.enc x4),.var (U.enc x5),.rows 97 AC x6,.var (U.enc x7),.var (AB.enc x8)]⟩
def N3 (x0:List (List Int)) (x1 x2:Int) (x3:List AD) (x4:Bool) (x5 x6:O) (x7:List Y) (x8:O) (x9:X):Option (O×List Y×List AD×Bool):=cG MS (AE Bh) (AE Bh) kx ⟨[(1,.lst (.slice (.int .i64)) x0),(2,.int .i64 x1),(3,.int .i64 x2),(6,.ptr 0 0),(12,.ptr 1 0),(16,.row 2),(17,.lst Aq x3),(18,.ptr 3 0),(19,.ptr 4 0),(130,.bool x4)],[.var (U.enc x5),.var (U.enc x6),.rows 97 AC x7,.var (U.enc x8),.var (AB.enc x9)]⟩
def Ci (x0:List (List Int)) (x1 x2:Int) (x3 x4:ByteArray) (x5:List AD) (x6:Bool) (x7 x8:O) (x9:List Y):Option (O×List Y×List AD×Bool):=cG Sv (AE Bh) (AE Bh) kx ⟨[(1,.lst (.slice (.int .i64)) x0),(2,.int .i64 x1),(3,.int .i64 x2),(4,.str x3),(5,.str x4),(6,.ptr 0 0),(12,.ptr 1 0),(16,.row 2),(17,.lst Aq x5),(100,.bool x6)],[.var (U.enc x7),.var (U.enc x8),.rows 97 AC x9]⟩
def N4 (x0:Int) (x1:List AD) (x2:List Int) (x3:Int) (x4 x5:O) (x6:List Y) (x7:O) (x8:X) (x9:List X):Option (O×List Y×List AD×Bool):=(if (decide (x3<(x2.length:Int)))=true then (if 0≤x3 then (if x3<(x2.length:Int) then (if ((x2.getD x3.toNat 0)==x4.1)=true then (D6 x0 x1 x2 (i64.wrap (x3+1)) x4 x5 x6 x7 x8 x9) else (if 0≤x3 then (if x3<(x2.length:Int) then (if (x0==1)=true then (if x6.length+([(5,x4.1,(x2.getD x3.toNat 0),x4.2.1,x7.2.2.2.2.2.2.2.2.1,([x8]:List X))]:List Y).length≤68719476736 then (D6 x0 x1 x2 (i64.wrap (x3+1)) x4 x5 (x6++([(5,x4.1,(x2.getD x3.toNat 0),x4.2.1,x7.2.2.2.2.2.2.2.2.1,([x8]:List X))]:List Y)) x7 x8 x9) else none) else (if x6.length+([(7,x4.1,(x2.getD x3.toNat 0),x4.2.1,x7.2.2.2.2.2.2.2.2.1,([]:List X))]:List Y).length≤68719476736 then (D6 x0 x1 x2 (i64.wrap (x3+1)) x4 x5 (x6++([(7,x4.1,(x2.getD x3.toNat 0),x4.2.1,x7.2.2.2.2.2.2.2.2.1,([]:List X))]:List Y)) x7 x8 x9) else none)) else none) else none)) else none) else none) else (some (x7,x6,x1,true)))
def WA (x0:List (List Int)) (x1 x2:Int) (x3:List AD) (x4:Bool) (x5 x6:O) (x7:List Y) (x8:O) (x9:X) (x10:List X):Option (O×List Y×List AD×Bool):=(if 0≤(i64.wrap (x5.2.1-1)) then (if (i64.wrap (x5.2.1-1))<(x0.length:Int) then ((GP (x0.getD (i64.wrap (x5.2.1-1)).toNat ([]:List Int)) x5.1).bind fun y8=>(if ((y8.length:Int)==0)=true then ((GQ (x8.1,x8.2.1,x8.2.2.1,x8.2.2.2.1,x8.2.2.2.2.1,x8.2.2.2.2.2.1,x8.2.2.2.2.2.2.1,x8.2.2.2.2.2.2.2.1,x8.2.2.2.2.2.2.2.2.1,x1,x2,x8.2.2.2.2.2.2.2.2.1,x9,y8)).bind fun y9=>(some (y9.2,x7,y9.1,true))) else (D6 x1 x3 (x0.getD (i64.wrap (x5.2.1-1)).toNat ([]:List Int)) 0 x5 x6 x7 (x8.1,x8.2.1,x8.2.2.1,x8.2.2.2.1,x8.2.2.2.2.1,x8.2.2.2.2.2.1,x8.2.2.2.2.2.2.1,x8.2.2.2.2.2.2.2.1,x8.2.2.2.2.2.2.2.2.1,x1,x2,x8.2.2.2.2.2.2.2.2.1,x9,y8) x9 x10))) else none) else none)
def N5 (x0:Int) (x1:List AD) (x2:List Int) (x3:Int) (x4 x5:O) (x6:List Y) (x7:O) (x8:X):Option (O×List Y×List AD×Bool):=(if (decide (x3<(x2.length:Int)))=true then (if 0≤x3 then (if x3<(x2.length:Int) then (if ((x2.getD x3.toNat 0)==x4.1)=true then (D7 x0 x1 x2 (i64.wrap (x3+1)) x4 x5 x6 x7 x8) else (if 0≤x3 then (if x3<(x2.length:Int) then (if (x0==1)=true then (if x6.length+([(5,x4.1,(x2.getD x3.toNat 0),x4.2.1,x7.2.2.2.2.2.2.2.2.1,([x8]:List X))]:List Y).length≤68719476736 then (D7 x0 x1 x2 (i64.wrap (x3+1)) x4 x5 (x6++([(5,x4.1,(x2.getD x3.toNat 0),x4.2.1,x7.2.2.2.2.2.2.2.2.1,([x8]:List X))]:List Y)) x7 x8) else none) else (if x6.length+([(7,x4.1,(x2.getD x3.toNat 0),x4.2.1,x7.2.2.2.2.2.2.2.2.1,([]:List X))]:List Y).length≤68719476736 then (D7 x0 x1 x2 (i64.wrap (x3+1)) x4 x5 (x6++([(7,x4.1,(x2.getD x3.toNat 0),x4.2.1,x7.2.2.2.2.2.2.2.2.1,([]:List X))]:List Y)) x7 x8) else none)) else none) else none)) else none) else none) else (some (x7,x6,x1,true)))
def WB (x0:List (List Int)) (x1 x2:Int) (x3:List AD) (x4:Bool) (x5 x6:O) (x7:List Y) (x8:O) (x9:X):Option (O×List Y×List AD×Bool):=(if 0≤(i64.wrap (x5.2.1-1)) then (if (i64.wrap (x5.2.1-1))<(x0.length:Int) then ((GP (x0.getD (i64.wrap (x5.2.1-1)).toNat ([]:List Int)) x5.1).bind fun y10=>(if ((y10.length:Int)==0)=true then ((GQ (x8.1,x8.2.1,x8.2.2.1,x8.2.2.2.1,x8.2.2.2.2.1,x8.2.2.2.2.2.1,x8.2.2.2.2.2.2.1,x8.2.2.2.2.2.2.2.1,x8.2.2.2.2.2.2.2.2.1,x1,x2,x8.2.2.2.2.2.2.2.2.1,x9,y10)).bind fun y11=>(some (y11.2,x7,y11.1,true))) else (D7 x1 x3 (x0.getD (i64.wrap (x5.2.1-1)).toNat ([]:List Int)) 0 x5 x6 x7 (x8.1,x8.2.1,x8.2.2.1,x8.2.2.2.1,x8.2.2.2.2.1,x8.2.2.2.2.2.1,x8.2.2.2.2.2.2.1,x8.2.2.2.2.2.2.2.1,x8.2.2.2.2.2.2.2.2.1,x1,x2,x8.2.2.2.2.2.2.2.2.1,x9,y10) x9))) else none) else none)
def WC (x0:List (List Int)) (x1 x2:Int) (x3 x4:ByteArray) (x5:List AD) (x6:Bool) (x7 x8:O) (x9:List Y):Option (O×List Y×List AD×Bool):=((C6 x7).bind fun y5=>(if (x1==1)=true then ((Hs x7.2.2.2.2.2.2.2.1 (x3,x4,(i64.wrap ((i64.wrap (1000*x7.2.1))+(i64.wrap (x7.2.2.2.2.2.2.2.2.1+1)))))).bind fun y6=>((M5 y6 x3).bind fun y7=>(if (true != T8 AB y7 (x3,x4,(i64.wrap ((i64.wrap (1000*x7.2.1))+(i64.wrap (x7.2.2.2.2.2.2.2.2.1+1))))))=true then (some ((0,0,false,false,false,false,([]:List Int),([]:List X),0,0,0,0,(ByteArray.empty,ByteArray.empty,0),([]:List Int)),x9,x5,false)) else (N2 x0 x1 x2 x5 (true != T8 AB y7 (x3,x4,(i64.wrap ((i64.wrap (1000*x7.2.1))+(i64.wrap (x7.2.2.2.2.2.2.2.2.1+1)))))) x7 x8 x9 (y5.1,y5.2.1,y5.2.2.1,y5.2.2.2.1,y5.2.2.2.2.1,y5.2.2.2.2.2.1,y5.2.2.2.2.2.2.1,y5.2.2.2.2.2.2.2.1,(i64.wrap (x7.2.2.2.2.2.2.2.2.1+1)),y5.2.2.2.2.2.2.2.2.2) (x3,x4,(i64.wrap ((i64.wrap (1000*x7.2.1))+(i64.wrap (x7.2.2.2.2.2.2.2.2.1+1))))) y6)))) else (N3 x0 x1 x2 x5 false x7 x8 x9 (y5.1,y5.2.1,y5.2.2.1,y5.2.2.2.1,y5.2.2.2.2.1,y5.2.2.2.2.2.1,y5.2.2.2.2.2.2.1,y5.2.2.2.2.2.2.2.1,(i64.wrap (x7.2.2.2.2.2.2.2.2.1+1)),y5.2.2.2.2.2.2.2.2.2) (x3,x4,(i64.wrap ((i64.wrap (1000*x7.2.1))+(i64.wrap (x7.2.2.2.2.2.2.2.2.1+1))))))))
def cw (x0:O) (x1:List (List Int)) (x2 x3:Int) (x4 x5:ByteArray):Option (O×List Y×List AD×Bool):=((FP x0).bind fun y1=>(if (!y1)=true then (some ((0,0,false,false,false,false,([]:List Int),([]:List X),0,0,0,0,(ByteArray.empty,ByteArray.empty,0),([]:List Int)),([]:List Y),([]:List AD),false)) else ((Dv x1).bind fun y2=>(if (!y2)=true then (some ((0,0,false,false,false,false,([]:List Int),([]:List X),0,0,0,0,(ByteArray.empty,ByteArray.empty,0),([]:List Int)),([]:List Y),([]:List AD),false)) else (if (!x0.2.2.2.2.2.1)=true then (some ((0,0,false,false,false,false,([]:List Int),([]:List X),0,0,0,0,(ByteArray.empty,ByteArray.empty,0),([]:List Int)),([]:List Y),([]:List AD),false)) else (if (x0.2.2.2.2.2.2.2.2.2.1 != 0)=true then (some ((0,0,false,false,false,false,([]:List Int),([]:List X),0,0,0,0,(ByteArray.empty,ByteArray.empty,0),([]:List Int)),([]:List Y),([]:List AD),false)) else (if (decide (x0.2.2.2.2.2.2.2.2.1≥900))=true then (some ((0,0,false,false,false,false,([]:List Int),([]:List X),0,0,0,0,(ByteArray.empty,ByteArray.empty,0),([]:List Int)),([]:List Y),([]:List AD),false)) else (if (x2 != 1)=true then (if (x2 != 2)=true then (some ((0,0,false,false,false,false,([]:List Int),([]:List X),0,0,0,0,(ByteArray.empty,ByteArray.empty,0),([]:List Int)),([]:List Y),([]:List AD),false)) else ((AR x3 0 1000).bind fun y3=>(if (!y3)=true then (some ((0,0,false,false,false,false,([]:List Int),([]:List X),0,0,0,0,(ByteArray.empty,ByteArray.empty,0),([]:List Int)),([]:List Y),([]:List AD),false)) else ((AR (x4.size:Int) 1 12).bind fun y4=>(if (!y4)=true then (some ((0,0,false,false,false,false,([]:List Int),([]:List X),0,0,0,0,(ByteArray.empty,ByteArray.empty,0),([]:List Int)),([]:List Y),([]:List AD),false)) else (if (decide ((x5.size:Int)>20))=true then (some ((0,0,false,false,false,false,([]:List Int),([]:List X),0,0,0,0,(ByteArray.empty,ByteArray.empty,0),([]:List Int)),([]:List Y),([]:List AD),false)) else (if (x2==2)=true then (if (!(x5.toList==(⟨#[]⟩:ByteArray).toList))=true then (some ((0,0,false,false,false,false,([]:List Int),([]:List X),0,0,0,0,(ByteArray.empty,ByteArray.empty,0),([]:List Int)),([]:List Y),([]:List AD),false)) else (if (decide (x0.2.1>(x1.length:Int)))=true then (some ((0,0,false,false,false,false,([]:List Int),([]:List X),0,0,0,0,(ByteArray.empty,ByteArray.empty,0),([]:List Int)),([]:List Y),([]:List AD),false)) else (if 0≤(i64.wrap (x0.2.1-1)) then (if (i64.wrap (x0.2.1-1))<(x1.length:Int) then (if 0≤(0:Int) then (if 0<((x1.getD (i64.wrap (x0.2.1-1)).toNat ([]:List Int)).length:Int) then (if (((x1.getD (i64.wrap (x0.2.1-1)).toNat ([]:List Int)).getD (0:Int).toNat 0) != x0.1)=true then (some ((0,0,false,false,false,false,([]:List Int),([]:List X),0,0,0,0,(ByteArray.empty,ByteArray.empty,0),([]:List Int)),([]:List Y),([]:List AD),false)) else (Ci x1 x2 x3 x4 x5 ([]:List AD) (((x1.getD (i64.wrap (x0.2.1-1)).toNat ([]:List Int)).getD (0:Int).toNat 0) != x0.1) x0 (0,0,false,false,false,false,([]:List Int),([]:List X),0,0,0,0,(ByteArray.empty,ByteArray.empty,0),([]:List Int)) ([]:List Y))) else none) else none) else none) else none))) else (if (decide (x0.2.1>(x1.length:Int)))=true then (some ((0,0,false,false,false,false,([]:List Int),([]:List X),0,0,0,0,(ByteArray.empty,ByteArray.empty,0),([]:List Int)),([]:List Y),([]:List AD),false)) else (if 0≤(i64.wrap (x0.2.1-1)) then (if (i64.wrap (x0.2.1-1))<(x1.length:Int) then (if 0≤(0:Int) then (if 0<((x1.getD (i64.wrap (x0.2.1-1)).toNat ([]:List Int)).length:Int) then (if (((x1.getD (i64.wrap (x0.2.1-1)).toNat ([]:List Int)).getD (0:Int).toNat 0) != x0.1)=true then (some ((0,0,false,false,false,false,([]:List Int),([]:List X),0,0,0,0,(ByteArray.empty,ByteArray.empty,0),([]:List Int)),([]:List Y),([]:List AD),false)) else (Ci x1 x2 x3 x4 x5 ([]:List AD) (((x1.getD (i64.wrap (x0.2.1-1)).toNat ([]:List Int)).getD (0:Int).toNat 0) != x0.1) x0 (0,0,false,false,false,false,([]:List Int),([]:List X),0,0,0,0,(ByteArray.empty,ByteArray.empty,0),([]:List Int)) ([]:List Y))) else none) else none) else none) else none))))))))) else ((AR x3 0 1000).bind fun y12=>(if (!y12)=true then (some ((0,0,false,false,false,false,([]:List Int),([]:List X),0,0,0,0,(ByteArray.empty,ByteArray.empty,0),([]:List Int)),([]:List Y),([]:List AD),false)) else ((AR (x4.size:Int) 1 12).bind fun y13=>(if (!y13)=true then (some ((0,0,false,false,false,false,([]:List Int),([]:List X),0,0,0,0,(ByteArray.empty,ByteArray.empty,0),([]:List Int)),([]:List Y),([]:List AD),false)) else (if (decide ((x5.size:Int)>20))=true then (some ((0,0,false,false,false,false,([]:List Int),([]:List X),0,0,0,0,(ByteArray.empty,ByteArray.empty,0),([]:List Int)),([]:List Y),([]:List AD),false)) else (if (x2==2)=true then (if (!(x5.toList==(⟨#[]⟩:ByteArray).toList))=true then (some ((0,0,false,false,false,false,([]:List Int),([]:List X),0,0,0,0,(ByteArray.empty,ByteArray.empty,0),([]:List Int)),([]:List Y),([]:List AD),false)) else (if (decide (x0.2.1>(x1.length:Int)))=true then (some ((0,0,false,false,false,false,([]:List Int),([]:List X),0,0,0,0,(ByteArray.empty,ByteArray.empty,0),([]:List Int)),([]:List Y),([]:List AD),false)) else (if 0≤(i64.wrap (x0.2.1-1)) then (if (i64.wrap (x0.2.1-1))<(x1.length:Int) then (if 0≤(0:Int) then (if 0<((x1.getD (i64.wrap (x0.2.1-1)).toNat ([]:List Int)).length:Int) then (if (((x1.getD (i64.wrap (x0.2.1-1)).toNat ([]:List Int)).getD (0:Int).toNat 0) != x0.1)=true then (some ((0,0,false,false,false,false,([]:List Int),([]:List X),0,0,0,0,(ByteArray.empty,ByteArray.empty,0),([]:List Int)),([]:List Y),([]:List AD),false)) else (Ci x1 x2 x3 x4 x5 ([]:List AD) (((x1.getD (i64.wrap (x0.2.1-1)).toNat ([]:List Int)).getD (0:Int).toNat 0) != x0.1) x0 (0,0,false,false,false,false,([]:List Int),([]:List X),0,0,0,0,(ByteArray.empty,ByteArray.empty,0),([]:List Int)) ([]:List Y))) else none) else none) else none) else none))) else (if (decide (x0.2.1>(x1.length:Int)))=true then (some ((0,0,false,false,false,false,([]:List Int),([]:List X),0,0,0,0,(ByteArray.empty,ByteArray.empty,0),([]:List Int)),([]:List Y),([]:List AD),false)) else (if 0≤(i64.wrap (x0.2.1-1)) then (if (i64.wrap (x0.2.1-1))<(x1.length:Int) then (if 0≤(0:Int) then (if 0<((x1.getD (i64.wrap (x0.2.1-1)).toNat ([]:List Int)).length:Int) then (if (((x1.getD (i64.wrap (x0.2.1-1)).toNat ([]:List Int)).getD (0:Int).toNat 0) != x0.1)=true then (some ((0,0,false,false,false,false,([]:List Int),([]:List X),0,0,0,0,(ByteArray.empty,ByteArray.empty,0),([]:List Int)),([]:List Y),([]:List AD),false)) else (Ci x1 x2 x3 x4 x5 ([]:List AD) (((x1.getD (i64.wrap (x0.2.1-1)).toNat ([]:List Int)).getD (0:Int).toNat 0) != x0.1) x0 (0,0,false,false,false,false,([]:List Int),([]:List X),0,0,0,0,(ByteArray.empty,ByteArray.empty,0),([]:List Int)) ([]:List Y))) else none) else none) else none) else none))))))))))))))))
theorem WD:sX N4 D6:=lS (by kernel_rfl)
theorem jB:xL WA N2:=jS (by kernel_rfl)
theorem WE:wV N5 D7:=lS (by kernel_rfl)
theorem jC:sX WB N3:=jS (by kernel_rfl)
theorem jD:sX WC Ci:=jS (by kernel_rfl)
theorem o_:rS cw UW:=cT Bh rfl ⟨rfl,rfl⟩ (by kernel_rfl)
def l9:=cG VS (AE Ch) (AE Ch) kx
def l_:=kE 0 [(9,2)] [6,9,11] 5 l9 kx
def jE:St→Option (RT (BM.outs Ch)):=lG VR [(9,2)] [1,2,3,6,9,11,13] 5 (AE Ch) l_
def FQ (x0:List (List Int)) (x1 x2:Int) (x3 x4:O) (x5:List Y) (x6:List X) (x7:O):Option (O×List Y×Bool):=jE ⟨[(1,.lst (.slice (.int .i64)) x0),(2,.int .i64 x1),(3,.ptr 0 0),(6,.ptr 1 0),(9,.row 2),(11,.ptr 4 0),(13,.int .i64 x2)],[.var (U.enc x3),.var (U.enc x4),.rows 97 AC x5,.frz AB x6,.var (U.enc x7)]⟩
def G4 (x0:List (List Int)) (x1:Int) (x2:Bool) (x3 x4:O) (x5:List Y):Option (O×List Y×Bool):=cG VT (AE Ch) (AE Ch) kx ⟨[(1,.lst (.slice (.int .i64)) x0),(2,.int .i64 x1),(3,.ptr 0 0),(6,.ptr 1 0),(9,.row 2),(10,.bool x2)],[.var (U.enc x3),.var (U.enc x4),.rows 97 AC x5]⟩
def WF (x0:List (List Int)) (x1:Int) (x2:Bool) (x3 x4:O) (x5:List Y):Option (O×List Y×Bool):=cG VU (AE Ch) (AE Ch) kx ⟨[(1,.lst (.slice (.int .i64)) x0),(2,.int .i64 x1),(3,.ptr 0 0),(6,.ptr 1 0),(9,.row 2),(48,.bool x2)],[.var (U.enc x3),.var (U.enc x4),.rows 97 AC x5]⟩
def N6 (x0:List (List Int)) (x1 x2:Int) (x3 x4:O) (x5:List Y) (x6:List X) (x7:O):Option (O×List Y×Bool):=(if 0≤(i64.wrap (x1-2)) then (if (i64.wrap (x1-2))<(x0.length:Int) then (if (decide (x2<((x0.getD (i64.wrap (x1-2)).toNat ([]:List Int)).length:Int)))=true then (if 0≤(i64.wrap (x1-2)) then (if (i64.wrap (x1-2))<(x0.length:Int) then (if 0≤x2 then (if x2<((x0.getD (i64.wrap (x1-2)).toNat ([]:List Int)).length:Int) then (if (((x0.getD (i64.wrap (x1-2)).toNat ([]:List Int)).getD x2.toNat 0) != x3.1)=true then (if x5.length+([(1,x3.1,((x0.getD (i64.wrap (x1-2)).toNat ([]:List Int)).getD x2.toNat 0),x1,0,([]:List X))]:List Y).length≤68719476736 then (FQ x0 x1 (i64.wrap (x2+1)) x3 x4 (x5++([(1,x3.1,((x0.getD (i64.wrap (x1-2)).toNat ([]:List Int)).getD x2.toNat 0),x1,0,([]:List X))]:List Y)) x6 x7) else none) else (FQ x0 x1 (i64.wrap (x2+1)) x3 x4 x5 x6 x7)) else none) else none) else none) else none) else ((C6 x7).bind fun y7=>(some (y7,x5,true)))) else none) else none)
def WG (x0:List (List Int)) (x1:Int) (x2:Bool) (x3 x4:O) (x5:List Y):Option (O×List Y×Bool):=(if ([]:List X).length+x3.2.2.2.2.2.2.2.1.length≤68719476736 then (if x2=true then (if 0≤(i64.wrap (x1-1)) then (if (i64.wrap (x1-1))<(x0.length:Int) then ((M6 (x0.getD (i64.wrap (x1-1)).toNat ([]:List Int)) x3.2.2.2.2.2.2.2.1 (x3.1,x1,false,false,true,false,([]:List Int),(([]:List X)++x3.2.2.2.2.2.2.2.1),0,0,0,0,(ByteArray.empty,ByteArray.empty,0),([]:List Int))).bind fun y5=>((C6 y5.2).bind fun y6=>(some (y6,y5.1,true)))) else none) else none) else (FQ x0 x1 0 x3 x4 x5 (([]:List X)++x3.2.2.2.2.2.2.2.1) (x3.1,x1,false,false,true,false,([]:List Int),(([]:List X)++x3.2.2.2.2.2.2.2.1),0,0,0,0,(ByteArray.empty,ByteArray.empty,0),([]:List Int)))) else none)
def WH (x0:List (List Int)) (x1:Int) (x2:Bool) (x3 x4:O) (x5:List Y):Option (O×List Y×Bool):=(if x3.2.2.2.1=true then (if (x3.2.1==(i64.wrap (x1-1)))=true then (if 0≤(i64.wrap (x1-2)) then (if (i64.wrap (x1-2))<(x0.length:Int) then ((Di (x0.getD (i64.wrap (x1-2)).toNat ([]:List Int)) x3.1).bind fun y4=>(G4 x0 x1 y4 x3 x4 x5)) else none) else none) else (G4 x0 x1 false x3 x4 x5)) else (G4 x0 x1 false x3 x4 x5))
def cz (x0:O) (x1:List (List Int)) (x2:Int):Option (O×List Y×Bool):=((FP x0).bind fun y1=>(if (!y1)=true then (some ((0,0,false,false,false,false,([]:List Int),([]:List X),0,0,0,0,(ByteArray.empty,ByteArray.empty,0),([]:List Int)),([]:List Y),false)) else ((Dv x1).bind fun y2=>(if (!y2)=true then (some ((0,0,false,false,false,false,([]:List Int),([]:List X),0,0,0,0,(ByteArray.empty,ByteArray.empty,0),([]:List Int)),([]:List Y),false)) else ((AR x2 2 (x1.length:Int)).bind fun y3=>(if (!y3)=true then (some ((0,0,false,false,false,false,([]:List Int),([]:List X),0,0,0,0,(ByteArray.empty,ByteArray.empty,0),([]:List Int)),([]:List Y),false)) else (if (decide (x2≤x0.2.1))=true then (some ((0,0,false,false,false,false,([]:List Int),([]:List X),0,0,0,0,(ByteArray.empty,ByteArray.empty,0),([]:List Int)),([]:List Y),false)) else (if 0≤(i64.wrap (x2-1)) then (if (i64.wrap (x2-1))<(x1.length:Int) then (if 0≤(0:Int) then (if 0<((x1.getD (i64.wrap (x2-1)).toNat ([]:List Int)).length:Int) then (if (((x1.getD (i64.wrap (x2-1)).toNat ([]:List Int)).getD (0:Int).toNat 0) != x0.1)=true then (some ((0,0,false,false,false,false,([]:List Int),([]:List X),0,0,0,0,(ByteArray.empty,ByteArray.empty,0),([]:List Int)),([]:List Y),false)) else (WF x1 x2 (((x1.getD (i64.wrap (x2-1)).toNat ([]:List Int)).getD (0:Int).toNat 0) != x0.1) x0 (0,0,false,false,false,false,([]:List Int),([]:List X),0,0,0,0,(ByteArray.empty,ByteArray.empty,0),([]:List Int)) ([]:List Y))) else none) else none) else none) else none))))))))
theorem WI:sW N6 FQ:=lS (by kernel_rfl)
theorem jF:rS WG G4:=jS (by kernel_rfl)
theorem jG:rS WH WF:=jS (by kernel_rfl)
theorem pA:PO cz UX:=cT Ch rfl ⟨rfl,rfl⟩ (by kernel_rfl)
end
end Go.Proofs.YtokiohnjegbnpaaGreat.Core

namespace Go.Proofs.YtokiohnjegbnpaaGreat.Core
open Go IntKind
set_option linter.unusedVariables false
set_option maxRecDepth 100000
noncomputable section
def fY:=cG RC (AE Ba) (AE Ba) kx
def fZ:=cG Kv (AE Ba) (AE Ba) kx
def Fo (x0:List Y) (x1:List AD) (x2:Bool) (x3:O) (x4:Y) (x5 x6:O):Option (O×List Y×List AD):=cG RB fY (AE Ba) kx ⟨[(3,.ptr 0 0),(5,.ptr 1 0),(6,.ptr 2 0),(9,.ptr 3 0),(10,.lst AC x0),(11,.lst Aq x1),(146,.bool x2)],[.var (U.enc x3),.var (AC.enc x4),.var (U.enc x5),.var (U.enc x6)]⟩
def LZ (x0:List (List Int)) (x1:List Y) (x2:List AD) (x3:Bool) (x4:O) (x5:Y) (x6 x7:O):Option (O×List Y×List AD):=cG Kv (AE Ba) (AE Ba) kx ⟨[(1,.lst (.slice (.int .i64)) x0),(3,.ptr 0 0),(5,.ptr 1 0),(6,.ptr 2 0),(9,.ptr 3 0),(10,.lst AC x1),(11,.lst Aq x2),(105,.bool x3)],[.var (U.enc x4),.var (AC.enc x5),.var (U.enc x6),.var (U.enc x7)]⟩
def D2 (x0:List (List Int)) (x1:List Y) (x2:List AD) (x3:Bool) (x4:O) (x5:Y) (x6 x7:O):Option (O×List Y×List AD):=cG Q_ fZ (AE Ba) kx ⟨[(1,.lst (.slice (.int .i64)) x0),(3,.ptr 0 0),(5,.ptr 1 0),(6,.ptr 2 0),(9,.ptr 3 0),(10,.lst AC x1),(11,.lst Aq x2),(105,.bool x3)],[.var (U.enc x4),.var (AC.enc x5),.var (U.enc x6),.var (U.enc x7)]⟩
def Rh (x0:List (List Int)) (x1:List Y) (x2:List AD) (x3:Bool) (x4:O) (x5:Y) (x6 x7:O):Option (O×List Y×List AD):=cG RD (AE Ba) (AE Ba) kx ⟨[(1,.lst (.slice (.int .i64)) x0),(3,.ptr 0 0),(5,.ptr 1 0),(6,.ptr 2 0),(9,.ptr 3 0),(10,.lst AC x1),(11,.lst Aq x2),(59,.bool x3)],[.var (U.enc x4),.var (AC.enc x5),.var (U.enc x6),.var (U.enc x7)]⟩
def Ri (x0:List Y) (x1:List AD) (x2:Bool) (x3:O) (x4:Y) (x5 x6:O):Option (O×List Y×List AD):=(if x2=true then (if ([]:List X).length+x4.2.2.2.2.2.length≤68719476736 then ((D5 x3 x4 4).bind fun y9=>(some ((x3.1,x4.2.2.2.1,false,true,false,false,([]:List Int),(([]:List X)++x4.2.2.2.2.2),0,0,0,0,(ByteArray.empty,ByteArray.empty,0),([]:List Int)),y9,x1))) else none) else (some (x6,x0,x1)))
def Rj (x0:List (List Int)) (x1:List Y) (x2:List AD) (x3:Bool) (x4:O) (x5:Y) (x6 x7:O):Option (O×List Y×List AD):=(if 0≤(i64.wrap (x5.2.2.2.1-1)) then (if (i64.wrap (x5.2.2.2.1-1))<(x0.length:Int) then (if (x5.1==3)=true then ((Di (x0.getD (i64.wrap (x5.2.2.2.1-1)).toNat ([]:List Int)) x4.1).bind fun y8=>(if y8=true then (if 0≤(0:Int) then (if 0<((x0.getD (i64.wrap (x5.2.2.2.1-1)).toNat ([]:List Int)).length:Int) then (Fo x1 x2 (((x0.getD (i64.wrap (x5.2.2.2.1-1)).toNat ([]:List Int)).getD (0:Int).toNat 0) != x4.1) x4 x5 x6 x7) else none) else none) else (Fo x1 x2 false x4 x5 x6 x7))) else (Fo x1 x2 false x4 x5 x6 x7)) else none) else none)
def Rk (x0:List (List Int)) (x1:List Y) (x2:List AD) (x3:Bool) (x4:O) (x5:Y) (x6 x7:O):Option (O×List Y×List AD):=(if x3=true then ((K_ x4 x5.2.2.2.1).bind fun y7=>(if ([]:List X).length+x4.2.2.2.2.2.2.2.1.length≤68719476736 then (some (y7,([(2,x4.1,x5.2.1,x5.2.2.2.1,0,(([]:List X)++x4.2.2.2.2.2.2.2.1))]:List Y),x2)) else none)) else (LZ x0 x1 x2 x3 x4 x5 x6 x7))
def Rl (x0:List (List Int)) (x1:List Y) (x2:List AD) (x3:Bool) (x4:O) (x5:Y) (x6 x7:O):Option (O×List Y×List AD):=(if (x5.2.2.2.1==x4.2.1)=true then (if 0≤(i64.wrap (x4.2.1-1)) then (if (i64.wrap (x4.2.1-1))<(x0.length:Int) then ((R9 x4 (x0.getD (i64.wrap (x4.2.1-1)).toNat ([]:List Int)) x5).bind fun y5=>(some (y5.1,y5.2.1,y5.2.2))) else none) else none) else (if (x5.1==1)=true then (if (x5.2.2.2.1==(i64.wrap (x4.2.1+1)))=true then (if x4.2.2.2.1=true then (if 0≤(i64.wrap (x4.2.1-1)) then (if (i64.wrap (x4.2.1-1))<(x0.length:Int) then ((Di (x0.getD (i64.wrap (x4.2.1-1)).toNat ([]:List Int)) x4.1).bind fun y6=>(D2 x0 x1 x2 y6 x4 x5 x6 x7)) else none) else none) else (D2 x0 x1 x2 false x4 x5 x6 x7)) else (D2 x0 x1 x2 false x4 x5 x6 x7)) else (D2 x0 x1 x2 false x4 x5 x6 x7)))
def Xz (x0:O) (x1:List (List Int)) (x2:Y):Option (O×List Y×List AD):=((C6 x0).bind fun y1=>((FP x0).bind fun y2=>(if (!y2)=false then ((Dv x1).bind fun y3=>(if (!y3)=false then ((UZ x2).bind fun y4=>(if (!y4)=false then (if (x2.2.2.1 != x0.1)=false then (if (decide (x2.2.2.2.1<x0.2.1))=false then (if (decide (x2.2.2.2.1>(x1.length:Int)))=false then (if (decide (x0.2.1>(x1.length:Int)))=true then (some (y1,([]:List Y),([]:List AD))) else (Rh x1 ([]:List Y) ([]:List AD) (decide (x0.2.1>(x1.length:Int))) x0 x2 (0,0,false,false,false,false,([]:List Int),([]:List X),0,0,0,0,(ByteArray.empty,ByteArray.empty,0),([]:List Int)) y1)) else (some (y1,([]:List Y),([]:List AD)))) else (some (y1,([]:List Y),([]:List AD)))) else (some (y1,([]:List Y),([]:List AD)))) else (some (y1,([]:List Y),([]:List AD))))) else (some (y1,([]:List Y),([]:List AD))))) else (some (y1,([]:List Y),([]:List AD))))))
theorem c_:uW Ri Fo:=jS (by kernel_rfl)
theorem dA:sW Rj LZ:=jS (by kernel_rfl)
theorem dB:sW Rk D2:=jS (by kernel_rfl)
theorem dC:sW Rl Rh:=jS (by kernel_rfl)
theorem mA:PO Xz Po:=cT Ba rfl ⟨rfl,rfl⟩ (by kernel_rfl)
def X0:=cG XR (AE EL) (AE EL) kx
def mB:=kB [] [1] 1 X0
def mC:=kE 0 [] [1] 1 X0 kx
def JQ (x0:Int) (x1:Bool) (x2:Y):Option Bool:=cG XQ mB (AE EL) mC ⟨[(1,.ptr 0 0),(38,.int .i64 x0),(39,.bool x1)],[.var (AC.enc x2)]⟩
def N7 (x0:Bool) (x1:Y):Option Bool:=cG XS (AE EL) (AE EL) kx ⟨[(1,.ptr 0 0),(36,.bool x0)],[.var (AC.enc x1)]⟩
def WJ (x0:Int) (x1:Bool) (x2:Y):Option Bool:=(if x1=true then (some true) else (if (x0==5)=true then (some ((x2.2.2.2.2.2.length:Int)==1)) else (some ((x2.2.2.2.2.2.length:Int)==0))))
def WK (x0:Bool) (x1:Y):Option Bool:=(if (x1.1==2)=true then (JQ x1.1 (x1.1==2) x1) else (JQ x1.1 (x1.1==3) x1))
def dD (x0:Y):Option Bool:=((Ae x0.1 1 8).bind fun y1=>(if (!y1)=false then ((Ef x0.2.1).bind fun y2=>(if (!y2)=false then ((Ef x0.2.2.1).bind fun y3=>(if (!y3)=false then ((Ae x0.2.2.2.1 1 9).bind fun y4=>(if (!y4)=false then ((Ae x0.2.2.2.2.1 0 1000000000).bind fun y5=>(if (!y5)=false then ((Eu x0.2.2.2.2.2).bind fun y6=>(if (!y6)=true then (some false) else (N7 (!y6) x0))) else (some false))) else (some false))) else (some false))) else (some false))) else (some false)))
theorem jH:PO WJ JQ:=jS (by kernel_rfl)
theorem jI:QQ WK N7:=jS (by kernel_rfl)
theorem pB:PN dD UY:=cT EL rfl ⟨rfl,rfl⟩ (by kernel_rfl)
def NV:=cG L5 (AE B1) (AE B1) kx
def Hu:=kB [] [] 2 NV
def Hv:=kE 0 [] [] 2 NV kx
def DU (x0:List (List Int)) (x1:Bool) (x2:O) (x3:Y):Option (List Y×List AD×O):=cG NK Hu (AE B1) Hv ⟨[(0,.ptr 0 0),(1,.lst (.slice (.int .i64)) x0),(5,.ptr 1 0),(37,.bool x1)],[.var (U.enc x2),.var (AC.enc x3)]⟩
def FB (x0:Bool) (x1:O) (x2:Y):Option (List Y×List AD×O):=cG NL Hu (AE B1) Hv ⟨[(0,.ptr 0 0),(5,.ptr 1 0),(75,.bool x0)],[.var (U.enc x1),.var (AC.enc x2)]⟩
def FC (x0:Int) (x1:Bool) (x2:O) (x3:Y):Option (List Y×List AD×O):=cG Lz Hu (AE B1) Hv ⟨[(0,.ptr 0 0),(5,.ptr 1 0),(9,.int .i64 x0),(107,.bool x1)],[.var (U.enc x2),.var (AC.enc x3)]⟩
def MB (x0:List (List Int)) (x1:Bool) (x2:O) (x3:Y):Option (List Y×List AD×O):=(if x1=true then (if 0≤(i64.wrap (x2.2.1-1)) then (if (i64.wrap (x2.2.1-1))<(x0.length:Int) then ((C9 (x0.getD (i64.wrap (x2.2.1-1)).toNat ([]:List Int)) x3.2.2.2.2.2 x2).bind fun y2=>(some (y2.1,[],y2.2))) else none) else none) else (some ([],[],x2)))
def MC (x0:Bool) (x1:O) (x2:Y):Option (List Y×List AD×O):=(if x0=true then ((LA x1.2.2.2.2.2.2.1 x2.2.1).bind fun y4=>(if x1.2.2.2.2.2.1=false then (if ((y4.length:Int)==0)=true then (some ([],[],(x1.1,x1.2.1,x1.2.2.1,x1.2.2.2.1,x1.2.2.2.2.1,x1.2.2.2.1,y4,x1.2.2.2.2.2.2.2))) else (some ([],[],(x1.1,x1.2.1,x1.2.2.1,x1.2.2.2.1,x1.2.2.2.2.1,false,y4,x1.2.2.2.2.2.2.2)))) else (some ([],[],(x1.1,x1.2.1,x1.2.2.1,x1.2.2.2.1,x1.2.2.2.2.1,true,y4,x1.2.2.2.2.2.2.2))))) else (some ([],[],x1)))
def MD (x0:Int) (x1:Bool) (x2:O) (x3:Y):Option (List Y×List AD×O):=(if x1=true then ((Im x3 x2).bind fun y5=>(some (y5.1,[],y5.2))) else (if (x0==6)=true then ((Fh 1 x3 x2).bind fun y6=>(some ([],y6.1,y6.2))) else (if (x0==8)=true then ((Fh 2 x3 x2).bind fun y7=>(some ([],y7.1,y7.2))) else (some ([],[],x2)))))
def QH (x1:List (List Int)) (x2:Y) (b0:O):Option (List Y×List AD×O):=(if (x2.1==1)=true then ((Je x1 x2 b0).bind fun y1=>(some (y1.1,[],y1.2))) else (if (x2.1==2)=true then (if (x2.2.2.2.1==b0.2.1)=true then (if b0.2.2.2.2.1=true then (DU x1 (!b0.2.2.2.1) b0 x2) else (DU x1 false b0 x2)) else (DU x1 false b0 x2)) else (if (x2.1==3)=true then (if 0≤(i64.wrap (x2.2.2.2.1-1)) then (if (i64.wrap (x2.2.2.2.1-1))<(x1.length:Int) then ((HD (x1.getD (i64.wrap (x2.2.2.2.1-1)).toNat ([]:List Int)) x2 b0).bind fun y3=>(some (y3.1,[],y3.2))) else none) else none) else (if (x2.1==4)=true then (if (x2.2.2.2.1==b0.2.1)=true then (FB b0.2.2.2.2.1 b0 x2) else (FB false b0 x2)) else (if (x2.1==5)=true then (FC x2.1 (x2.1==5) b0 x2) else (FC x2.1 (x2.1==7) b0 x2))))))
theorem Wf:iF MB DU:=jS (by kernel_rfl)
theorem Wg:PO MC FB:=jS (by kernel_rfl)
theorem Wh:iF MD FC:=jS (by kernel_rfl)
theorem aT:PO QH Jd:=cT B1 rfl ⟨rfl,rfl⟩ (by kernel_rfl)
def Ig (x0:List (List Int)) (x1:Bool) (x2:O):Option (Bool×O):=cG I2 (AE CR) (AE CR) kx ⟨[(0,.ptr 0 0),(1,.lst (.slice (.int .i64)) x0),(33,.bool x1)],[.var (U.enc x2)]⟩
def Ih (x0:List (List Int)) (x1:Bool) (x2:O):Option (Bool×O):=((Du x0).bind fun y1=>(if y1=true then (if 0≤(i64.wrap (x2.2.1-1)) then (if (i64.wrap (x2.2.1-1))<(x0.length:Int) then (if 0≤(0:Int) then (if 0<((x0.getD (i64.wrap (x2.2.1-1)).toNat ([]:List Int)).length:Int) then (some ((((x0.getD (i64.wrap (x2.2.1-1)).toNat ([]:List Int)).getD (0:Int).toNat 0)==x2.1),x2)) else none) else none) else none) else none) else (some (false,x2))))
def La (x1:List (List Int)) (b0:O):Option (Bool×O):=(if (!b0.2.2.2.2.2.1)=false then (if (b0.2.2.2.2.2.2.2.2.2.1 != 0)=false then (if (b0.2.2.2.2.2.2.2.2.1==900)=false then (if (decide (b0.2.1>(x1.length:Int)))=true then (some (false,b0)) else (Ig x1 (decide (b0.2.1>(x1.length:Int))) b0)) else (some (false,b0))) else (some (false,b0))) else (some (false,b0)))
theorem QU:PO Ih Ig:=jS (by kernel_rfl)
theorem Ud:QQ La Gq:=cT CR rfl ⟨rfl,rfl⟩ (by kernel_rfl)
def jJ:=cG VX (AE EX) (AE EX) kx
def jK:=kE 0 [] [4] 1 jJ kx
def fa:St→Option (RT (BM.outs EX)):=lG VV [] [1,4,7,8,9] 1 (AE EX) jK
def IW (x0:ByteArray) (x1:List X) (x2 x3:Int) (x4:X):Option X:=fa ⟨[(1,.str x0),(4,.ptr 0 0),(7,.lst AB x1),(8,.int .i64 x2),(9,.int .i64 x3)],[.var (AB.enc x4)]⟩
def Mg (x0:ByteArray) (x1:List X) (x2 x3:Int) (x4:X):Option X:=(if (decide (x3<x2))=true then (if 0≤x3 then (if x3<(x1.length:Int) then (if (((x1.getD x3.toNat (ByteArray.empty,ByteArray.empty,0)).1).toList==x0.toList)=true then (some (x1.getD x3.toNat (ByteArray.empty,ByteArray.empty,0))) else (IW x0 x1 x2 (i64.wrap (x3+1)) x4)) else none) else none) else (some (ByteArray.empty,ByteArray.empty,0)))
def ZS (x0:List X) (x1:ByteArray):Option X:=(IW x1 x0 (x0.length:Int) 0 (ByteArray.empty,ByteArray.empty,0))
theorem TX:qn Mg IW:=lS (by kernel_rfl)
theorem nH:QQ ZS M4:=cT EX rfl ⟨rfl,rfl⟩ (by kernel_rfl)
def Ue:=cG Kx (AE Bv) (AE Bv) kx
def Uf:=kE 0 [(5,1)] [5] 2 Ue kx
def TY:St→Option (RT (BM.outs Bv)):=lG Kw [(5,1)] [0,5,8,9,10] 2 (AE Bv) Uf
def Cz (x0:List Int) (x1 x2:Int) (x3:O) (x4:List Int):Option (List Int×O):=TY ⟨[(0,.ptr 0 0),(5,.row 1),(8,.lst (.int .i64) x0),(9,.int .i64 x1),(10,.int .i64 x2)],[.var (U.enc x3),.rows 3 (.int .i64) x4]⟩
def GT (x0:List Int) (x1 x2:Int) (x3:O) (x4:List Int):Option (List Int×O):=(if (decide (x2<x1))=true then (if 0≤x2 then (if x2<(x0.length:Int) then (if ((x0.getD x2.toNat 0) != x3.1)=true then (if x4.length+([(x0.getD x2.toNat 0)]:List Int).length≤68719476736 then (Cz x0 x1 (i64.wrap (x2+1)) x3 (x4++([(x0.getD x2.toNat 0)]:List Int))) else none) else (Cz x0 x1 (i64.wrap (x2+1)) x3 x4)) else none) else none) else (some (x4,x3)))
def NW (x1:List Int) (b0:O):Option (List Int×O):=(Cz x1 (x1.length:Int) 0 b0 ([]:List Int))
theorem KD:qn GT Cz:=lS (by kernel_rfl)
theorem X1:QQ NW Bw:=cT Bv rfl ⟨rfl,rfl⟩ (by kernel_rfl)
def ME (b0:List Int):Option (List Int):=((Ns (IntKind.u64.wrap (b0.length:Int))).bind fun y1=>((CE 0 (b0.length:Int) y1 b0).bind fun y2=>(some y2)))
theorem Wi:PN ME Cd:=cT E_ rfl ⟨rfl,rfl⟩ (by kernel_rfl)
def HI (x0:O) (x1:oP):Option (List AD×O):=cG NM (AE DX) (AE DX) kx ⟨[(0,.ptr 0 0),(3,.ptr 1 0)],[.var (U.enc x0),.var (Ke.enc x1)]⟩
def HJ (x0:O) (x1:oP):Option (List AD×O):=(some (([(x1.2.1,x0.2.1,x1.2.2.1,x1.2.2.2.1)]:List AD),(x0.1,x0.2.1,x0.2.2.1,x0.2.2.2.1,x0.2.2.2.2.1,x0.2.2.2.2.2.1,x0.2.2.2.2.2.2.1,x0.2.2.2.2.2.2.2.1,x0.2.2.2.2.2.2.2.2.1,0,0,0,(ByteArray.empty,ByteArray.empty,0),([]:List Int))))
def QI (b0:O):Option (List AD×O):=(if (b0.2.2.2.2.2.2.2.2.2.1==1)=true then ((LB b0.2.2.2.2.2.2.2.1 b0.2.2.2.2.2.2.2.2.2.2.2.2.1).bind fun y1=>(HI (b0.1,b0.2.1,b0.2.2.1,b0.2.2.2.1,b0.2.2.2.2.1,b0.2.2.2.2.2.1,b0.2.2.2.2.2.2.1,y1,b0.2.2.2.2.2.2.2.2) b0.2.2.2.2.2.2.2.2.2)) else ((M4 b0.2.2.2.2.2.2.2.1 b0.2.2.2.2.2.2.2.2.2.2.2.2.1.1).bind fun y2=>(HI b0 (b0.2.2.2.2.2.2.2.2.2.1,b0.2.2.2.2.2.2.2.2.2.2.1,b0.2.2.2.2.2.2.2.2.2.2.2.1,y2,b0.2.2.2.2.2.2.2.2.2.2.2.2.2))))
theorem MF:QQ HJ HI:=jS (by kernel_rfl)
theorem aU:PN QI Gr:=cT DX rfl ⟨rfl,rfl⟩ (by kernel_rfl)
def TZ:=cG J8 (AE Bf) (AE Bf) kx
def Ta:=kE 0 [(7,2)] [7] 3 TZ kx
def SC:St→Option (RT (BM.outs Bf)):=lG J7 [(7,2)] [0,5,7,11,12,13] 3 (AE Bf) Ta
def Dj (x0:List Int) (x1 x2:Int) (x3:O) (x4:Y) (x5:List Y):Option (List Y×O):=SC ⟨[(0,.ptr 0 0),(5,.ptr 1 0),(7,.row 2),(11,.lst (.int .i64) x0),(12,.int .i64 x1),(13,.int .i64 x2)],[.var (U.enc x3),.var (AC.enc x4),.rows 97 AC x5]⟩
def F0 (x0:List Int) (x1 x2:Int) (x3:O) (x4:Y) (x5:List Y):Option (List Y×O):=(if (decide (x2<x1))=true then (if 0≤x2 then (if x2<(x0.length:Int) then ((GO x4).bind fun y1=>(if x5.length+([(y1.1,x3.1,(x0.getD x2.toNat 0),x3.2.1,y1.2.2.2.2)]:List Y).length≤68719476736 then (Dj x0 x1 (i64.wrap (x2+1)) x3 x4 (x5++([(y1.1,x3.1,(x0.getD x2.toNat 0),x3.2.1,y1.2.2.2.2)]:List Y))) else none)) else none) else none) else (some (x5,x3)))
def MG (x1:List Int) (x2:Y) (b0:O):Option (List Y×O):=(Dj x1 (x1.length:Int) 0 b0 x2 ([]:List Y))
theorem I4:rS F0 Dj:=lS (by kernel_rfl)
theorem Wj:PO MG Ag:=cT Bf rfl ⟨rfl,rfl⟩ (by kernel_rfl)
def dE (b0:O):Option O:=(some (b0.1,b0.2.1,b0.2.2.1,b0.2.2.2.1,false,false,[],b0.2.2.2.2.2.2.2.1,0,0,0,0,(ByteArray.empty,ByteArray.empty,0),([]:List Int)))
theorem dF:PN dE Fg:=cT HQ rfl ⟨rfl,rfl⟩ (by kernel_rfl)
def Lb (x1:List Int) (x2:List X) (b0:O):Option (List Y×O):=((Bw x1 b0).bind fun y1=>((Af x2).bind fun y2=>((Bb y1.1).bind fun y3=>((Cd y3).bind fun y4=>(if ((y1.1.length:Int)==0)=true then ((Ag y1.1 (3,0,0,0,0,x2) (y1.2.1,y1.2.2.1,y1.2.2.2.1,true,y1.2.2.2.2.2.1,true,y4,y2,y1.2.2.2.2.2.2.2.2.2)).bind fun y5=>(some (y5.1,y5.2))) else ((Ag y1.1 (3,0,0,0,0,x2) (y1.2.1,y1.2.2.1,y1.2.2.2.1,true,y1.2.2.2.2.2.1,y1.2.2.2.2.2.2.1,y4,y2,y1.2.2.2.2.2.2.2.2.2)).bind fun y6=>(some (y6.1,y6.2))))))))
theorem Ug:PO Lb C9:=cT EM rfl ⟨rfl,rfl⟩ (by kernel_rfl)
def Db (x0:Bool) (x1:O):Option Bool:=cG RE (AE FN) (AE FN) kx ⟨[(1,.ptr 0 0),(70,.bool x0)],[.var (U.enc x1)]⟩
def QJ (x0:Bool) (x1:O):Option Bool:=((MW x1.2.2.2.2.2.2.2.2.2).bind fun y7=>(if y7=false then (if (x1.2.2.2.2.2.2.2.2.2.1==1)=false then (if (x1.2.2.2.2.2.2.2.2.2.1==2)=true then (if x1.2.2.2.2.2.1=true then ((AR x1.2.2.2.2.2.2.2.2.2.2.1 0 1000).bind fun y8=>(if y8=true then ((AR x1.2.2.2.2.2.2.2.2.2.2.2.1 1 900).bind fun y9=>(some y9)) else (some false))) else (some false)) else (some false)) else (if x1.2.2.2.2.2.1=true then ((AR x1.2.2.2.2.2.2.2.2.2.2.1 0 1000).bind fun y10=>(if y10=true then ((AR x1.2.2.2.2.2.2.2.2.2.2.2.1 1 900).bind fun y11=>(some y11)) else (some false))) else (some false))) else (some true)))
def WL (x0:O):Option Bool:=((AR x0.1 1 6).bind fun y1=>(if (!y1)=false then ((AR x0.2.1 1 9).bind fun y2=>(if (!y2)=false then (if x0.2.2.2.2.2.1=true then (if (!x0.2.2.2.1)=false then (if (!x0.2.2.2.2.1)=false then (if (decide ((x0.2.2.2.2.2.2.1.length:Int)>0))=false then (if x0.2.2.1=true then (if x0.2.2.2.1=false then (if x0.2.2.2.2.1=false then ((C3 x0.2.2.2.2.2.2.1).bind fun y3=>(if (!y3)=false then ((C3 x0.2.2.2.2.2.2.2.2.2.2.2.2.2).bind fun y4=>(if (!y4)=false then ((C_ x0.2.2.2.2.2.2.2.1).bind fun y5=>(if (!y5)=false then ((AR x0.2.2.2.2.2.2.2.2.1 0 900).bind fun y6=>(if (!y6)=true then (some false) else (Db (!y6) x0))) else (some false))) else (some false))) else (some false))) else (some false)) else (some false)) else ((C3 x0.2.2.2.2.2.2.1).bind fun y12=>(if (!y12)=false then ((C3 x0.2.2.2.2.2.2.2.2.2.2.2.2.2).bind fun y13=>(if (!y13)=false then ((C_ x0.2.2.2.2.2.2.2.1).bind fun y14=>(if (!y14)=false then ((AR x0.2.2.2.2.2.2.2.2.1 0 900).bind fun y15=>(if (!y15)=true then (some false) else (Db (!y15) x0))) else (some false))) else (some false))) else (some false)))) else (some false)) else (some false)) else (some false)) else (if x0.2.2.1=true then (if x0.2.2.2.1=false then (if x0.2.2.2.2.1=false then ((C3 x0.2.2.2.2.2.2.1).bind fun y16=>(if (!y16)=false then ((C3 x0.2.2.2.2.2.2.2.2.2.2.2.2.2).bind fun y17=>(if (!y17)=false then ((C_ x0.2.2.2.2.2.2.2.1).bind fun y18=>(if (!y18)=false then ((AR x0.2.2.2.2.2.2.2.2.1 0 900).bind fun y19=>(if (!y19)=true then (some false) else (Db (!y19) x0))) else (some false))) else (some false))) else (some false))) else (some false)) else (some false)) else ((C3 x0.2.2.2.2.2.2.1).bind fun y20=>(if (!y20)=false then ((C3 x0.2.2.2.2.2.2.2.2.2.2.2.2.2).bind fun y21=>(if (!y21)=false then ((C_ x0.2.2.2.2.2.2.2.1).bind fun y22=>(if (!y22)=false then ((AR x0.2.2.2.2.2.2.2.2.1 0 900).bind fun y23=>(if (!y23)=true then (some false) else (Db (!y23) x0))) else (some false))) else (some false))) else (some false))))) else (some false))) else (some false)))
theorem aV:QQ QJ Db:=jS (by kernel_rfl)
theorem jL:PN WL FP:=cT FN rfl ⟨rfl,rfl⟩ (by kernel_rfl)
def jM:=cG VZ (AE EY) (AE EY) kx
def jN:=kE 0 [] [4] 1 jM kx
def fb:St→Option (RT (BM.outs EY)):=lG VY [] [0,1,4,5] 1 (AE EY) jN
def IX (x0:List X) (x1:ByteArray) (x2:Int) (x3:X):Option X:=fb ⟨[(0,.lst AB x0),(1,.str x1),(4,.ptr 0 0),(5,.int .i64 x2)],[.var (AB.enc x3)]⟩
def Mh (x0:List X) (x1:ByteArray) (x2:Int) (x3:X):Option X:=(if (decide (x2<(x0.length:Int)))=true then (if 0≤x2 then (if x2<(x0.length:Int) then (if (((x0.getD x2.toNat (ByteArray.empty,ByteArray.empty,0)).1).toList==x1.toList)=true then (if 0≤x2 then (if x2<(x0.length:Int) then (some (x0.getD x2.toNat (ByteArray.empty,ByteArray.empty,0))) else none) else none) else (IX x0 x1 (i64.wrap (x2+1)) x3)) else none) else none) else (some (ByteArray.empty,ByteArray.empty,0)))
def ZT (x0:List X) (x1:ByteArray):Option X:=(IX x0 x1 0 (ByteArray.empty,ByteArray.empty,0))
theorem Tb:iF Mh IX:=lS (by kernel_rfl)
theorem nI:QQ ZT M5:=cT EY rfl ⟨rfl,rfl⟩ (by kernel_rfl)
def fc:=cG Ky (AE Au) (AE Au) kx
def ff:=kE 2 [(5,1),(6,2)] [0,5,6] 3 fc kx
def dG:St→Option (RT (BM.outs Au)):=lG RF [(5,1),(6,2)] [0,3,5,6,8] 3 (AE Au) ff
def fg:=cG Kz (AE Au) (AE Au) kx
def Mi:=kE 0 [(5,1),(6,2)] [0,3,5,6] 3 fg kx
def Rm:St→Option (RT (BM.outs Au)):=lG Sz [(5,1),(6,2)] [0,3,5,6,7] 3 (AE Au) Mi
def fh:=kB [(5,1),(6,2)] [0,3,5,6,7] 3 Rm
def Tc:=cG Sy fh (AE Au) Mi
def fi:=kB [(5,1),(6,2)] [0,3,5,6,7] 3 Tc
def fj:=kE 1 [(5,1),(6,2)] [0,3,5,6,7] 3 Tc Mi
def Hc (x0:List X) (x1:Int) (x2:X) (x3 x4:List X):Option (List X):=cG Sx fi (AE Au) fj ⟨[(0,.lst AB x0),(3,.ptr 0 0),(5,.row 1),(6,.row 2),(7,.int .i64 x1)],[.var (AB.enc x2),.rows 38 AB x3,.rows 38 AB x4]⟩
def Lc (x0:List X) (x1:X) (x2 x3:List X):Option (List X):=cG Ky (AE Au) (AE Au) kx ⟨[(0,.lst AB x0),(5,.row 1),(6,.row 2)],[.var (AB.enc x1),.rows 38 AB x2,.rows 38 AB x3]⟩
def D3 (x0:List X) (x1:Int) (x2:X) (x3 x4:List X):Option (List X):=dG ⟨[(0,.lst AB x0),(3,.ptr 0 0),(5,.row 1),(6,.row 2),(8,.int .i64 x1)],[.var (AB.enc x2),.rows 38 AB x3,.rows 38 AB x4]⟩
def Ld (x0:List X) (x1:X) (x2 x3:List X):Option (List X):=cG Kz (AE Au) (AE Au) kx ⟨[(0,.lst AB x0),(3,.ptr 0 0),(5,.row 1),(6,.row 2)],[.var (AB.enc x1),.rows 38 AB x2,.rows 38 AB x3]⟩
def D4 (x0:List X) (x1:Int) (x2:X) (x3 x4:List X):Option (List X):=Rm ⟨[(0,.lst AB x0),(3,.ptr 0 0),(5,.row 1),(6,.row 2),(7,.int .i64 x1)],[.var (AB.enc x2),.rows 38 AB x3,.rows 38 AB x4]⟩
def Rn (x0:List X) (x1:Int) (x2:X) (x3 x4:List X):Option (List X):=(if 0≤x1 then (if x1<(x0.length:Int) then (if (((x0.getD x1.toNat (ByteArray.empty,ByteArray.empty,0)).1).toList==x2.1.toList)=true then (if 0≤x1 then (if x1<(x0.length:Int) then (if (decide ((((x0.getD x1.toNat (ByteArray.empty,ByteArray.empty,0)).2).2)≥x2.2.2))=true then (some x3) else (D4 x0 (i64.wrap (x1+1)) x2 x3 x4)) else none) else none) else (D4 x0 (i64.wrap (x1+1)) x2 x3 x4)) else none) else none)
def Ro (x0:List X) (x1:X) (x2 x3:List X):Option (List X):=((C_ x0).bind fun y1=>(if (!y1)=false then ((C_ x3).bind fun y2=>(if (!y2)=true then (some x2) else (some x3))) else (some x2)))
def Le (x0:List X) (x1:Int) (x2:X) (x3 x4:List X):Option (List X):=(if (decide (x1<(x0.length:Int)))=true then (if 0≤x1 then (if x1<(x0.length:Int) then (if (!((Op.bytesLess ((x0.getD x1.toNat (ByteArray.empty,ByteArray.empty,0)).1).toList x2.1.toList)||(((x0.getD x1.toNat (ByteArray.empty,ByteArray.empty,0)).1).toList==x2.1.toList)))=true then (if 0≤x1 then (if x1<(x0.length:Int) then (if x4.length+([x0.getD x1.toNat (ByteArray.empty,ByteArray.empty,0)]:List X).length≤68719476736 then (D3 x0 (i64.wrap (x1+1)) x2 x3 (x4++([x0.getD x1.toNat (ByteArray.empty,ByteArray.empty,0)]:List X))) else none) else none) else none) else (D3 x0 (i64.wrap (x1+1)) x2 x3 x4)) else none) else none) else (Lc x0 x2 x3 x4))
def Rp (x0:List X) (x1:X) (x2 x3:List X):Option (List X):=(if x3.length+([x1]:List X).length≤68719476736 then (D3 x0 0 x1 x2 (x3++([x1]:List X))) else none)
def Lf (x0:List X) (x1:Int) (x2:X) (x3 x4:List X):Option (List X):=(if (decide (x1<(x0.length:Int)))=true then (if 0≤x1 then (if x1<(x0.length:Int) then (if (Op.bytesLess ((x0.getD x1.toNat (ByteArray.empty,ByteArray.empty,0)).1).toList x2.1.toList)=true then (if 0≤x1 then (if x1<(x0.length:Int) then (if x4.length+([x0.getD x1.toNat (ByteArray.empty,ByteArray.empty,0)]:List X).length≤68719476736 then (Hc x0 x1 x2 x3 (x4++([x0.getD x1.toNat (ByteArray.empty,ByteArray.empty,0)]:List X))) else none) else none) else none) else (Hc x0 x1 x2 x3 x4)) else none) else none) else (Ld x0 x2 x3 x4))
def X2 (x0:List X) (x1:X):Option (List X):=(if ([]:List X).length+x0.length≤68719476736 then (D4 x0 0 x1 (([]:List X)++x0) ([]:List X)) else none)
theorem dH:qn Rn Hc:=jS (by kernel_rfl)
theorem dI:iF Ro Lc:=jS (by kernel_rfl)
theorem Rq:qn Le D3:=lS (by kernel_rfl)
theorem dJ:iF Rp Ld:=jS (by kernel_rfl)
theorem Rr:qn Lf D4:=lS (by kernel_rfl)
theorem mD:QQ X2 Hs:=cT Au rfl ⟨rfl,rfl⟩ (by kernel_rfl)
def aW:=cG Ph (AE Cu) (AE Cu) kx
def aX:=kE 0 [(5,0)] [5] 1 aW kx
def Y2:St→Option (RT (BM.outs Cu)):=lG Pg [(5,0)] [0,1,5,6] 1 (AE Cu) aX
def CB (x0:List Int) (x1 x2:Int) (x3:List Int):Option (List Int):=Y2 ⟨[(0,.lst (.int .i64) x0),(1,.int .i64 x1),(5,.row 0),(6,.int .i64 x2)],[.rows 3 (.int .i64) x3]⟩
def It (x0:List Int) (x1 x2:Int) (x3:List Int):Option (List Int):=(if (decide (x2≤6))=true then (if (x2 != x1)=true then ((Di x0 x2).bind fun y1=>(if y1=true then (if x3.length+([x2]:List Int).length≤68719476736 then (CB x0 x1 (i64.wrap (x2+1)) (x3++([x2]:List Int))) else none) else (CB x0 x1 (i64.wrap (x2+1)) x3))) else (CB x0 x1 (i64.wrap (x2+1)) x3)) else (some x3))
def Td (x0:List Int) (x1:Int):Option (List Int):=(CB x0 x1 1 ([]:List Int))
theorem Og:iF It CB:=lS (by kernel_rfl)
theorem fk:QQ Td GP:=cT Cu rfl ⟨rfl,rfl⟩ (by kernel_rfl)
def Te (b0:O):Option (List AD×O):=(if (b0.2.2.2.2.2.2.2.2.2.1==1)=true then ((Hs b0.2.2.2.2.2.2.2.1 b0.2.2.2.2.2.2.2.2.2.2.2.2.1).bind fun y1=>(some (([(b0.2.2.2.2.2.2.2.2.2.2.1,b0.2.1,b0.2.2.2.2.2.2.2.2.2.2.2.1,b0.2.2.2.2.2.2.2.2.2.2.2.2.1)]:List AD),(b0.1,b0.2.1,b0.2.2.1,b0.2.2.2.1,b0.2.2.2.2.1,b0.2.2.2.2.2.1,b0.2.2.2.2.2.2.1,y1,b0.2.2.2.2.2.2.2.2.1,0,0,0,(ByteArray.empty,ByteArray.empty,0),([]:List Int))))) else ((M5 b0.2.2.2.2.2.2.2.1 b0.2.2.2.2.2.2.2.2.2.2.2.2.1.1).bind fun y2=>(some (([(b0.2.2.2.2.2.2.2.2.2.2.1,b0.2.1,b0.2.2.2.2.2.2.2.2.2.2.2.1,y2)]:List AD),(b0.1,b0.2.1,b0.2.2.1,b0.2.2.2.1,b0.2.2.2.2.1,b0.2.2.2.2.2.1,b0.2.2.2.2.2.2.1,b0.2.2.2.2.2.2.2.1,b0.2.2.2.2.2.2.2.2.1,0,0,0,(ByteArray.empty,ByteArray.empty,0),([]:List Int))))))
theorem fm:PN Te GQ:=cT II rfl ⟨rfl,rfl⟩ (by kernel_rfl)
def jO:=cG Vb (AE EZ) (AE EZ) kx
def jP:=kE 0 [(7,1)] [7] 3 jO kx
def fo:St→Option (RT (BM.outs EZ)):=lG Va [(7,1)] [0,1,2,7,8] 3 (AE EZ) jP
def GU (x0:List Int) (x1:List X) (x2:Int) (x3:O) (x4:List Y) (x5:List X):Option (List Y×O):=fo ⟨[(0,.ptr 0 0),(1,.lst (.int .i64) x0),(2,.lst AB x1),(7,.row 1),(8,.int .i64 x2)],[.var (U.enc x3),.rows 97 AC x4,.frz AB x5]⟩
def Mj (x0:List Int) (x1:List X) (x2:Int) (x3:O) (x4:List Y) (x5:List X):Option (List Y×O):=(if (decide (x2<(x0.length:Int)))=true then (if 0≤x2 then (if x2<(x0.length:Int) then (if ((x0.getD x2.toNat 0) != x3.1)=true then (if 0≤x2 then (if x2<(x0.length:Int) then (if ([]:List X).length+x1.length≤68719476736 then (if x4.length+([(3,x3.1,(x0.getD x2.toNat 0),x3.2.1,0,(([]:List X)++x1))]:List Y).length≤68719476736 then (GU x0 x1 (i64.wrap (x2+1)) x3 (x4++([(3,x3.1,(x0.getD x2.toNat 0),x3.2.1,0,(([]:List X)++x1))]:List Y)) x5) else none) else none) else none) else none) else (GU x0 x1 (i64.wrap (x2+1)) x3 x4 x5)) else none) else none) else (some (x4,x3)))
def ZU (x1:List Int) (x2:List X) (b0:O):Option (List Y×O):=(if ([]:List X).length+x2.length≤68719476736 then ((GP x1 b0.1).bind fun y1=>(GU x1 x2 0 (b0.1,b0.2.1,b0.2.2.1,true,b0.2.2.2.2.1,((y1.length:Int)==0),y1,(([]:List X)++x2),b0.2.2.2.2.2.2.2.2) ([]:List Y) (([]:List X)++x2))) else none)
theorem Tf:rS Mj GU:=lS (by kernel_rfl)
theorem nJ:PO ZU M6:=cT EZ rfl ⟨rfl,rfl⟩ (by kernel_rfl)
def X3:=cG XV (AE EN) (AE EN) kx
def mE:=kB [] [1] 1 X3
def mF:=kE 0 [] [1] 1 X3 kx
def JR (x0:Int) (x1:Bool) (x2:Y):Option Bool:=cG XU mE (AE EN) mF ⟨[(1,.ptr 0 0),(38,.int .i64 x0),(39,.bool x1)],[.var (AC.enc x2)]⟩
def N8 (x0:Bool) (x1:Y):Option Bool:=cG XW (AE EN) (AE EN) kx ⟨[(1,.ptr 0 0),(36,.bool x0)],[.var (AC.enc x1)]⟩
def WM (x0:Int) (x1:Bool) (x2:Y):Option Bool:=(if x1=true then (some true) else (if (x0==5)=true then (some ((x2.2.2.2.2.2.length:Int)==1)) else (some ((x2.2.2.2.2.2.length:Int)==0))))
def WN (x0:Bool) (x1:Y):Option Bool:=(if (x1.1==2)=true then (JR x1.1 (x1.1==2) x1) else (JR x1.1 (x1.1==3) x1))
def dL (x0:Y):Option Bool:=((AR x0.1 1 8).bind fun y1=>(if (!y1)=false then ((AR x0.2.1 1 6).bind fun y2=>(if (!y2)=false then ((AR x0.2.2.1 1 6).bind fun y3=>(if (!y3)=false then ((AR x0.2.2.2.1 1 9).bind fun y4=>(if (!y4)=false then ((AR x0.2.2.2.2.1 0 1000000000).bind fun y5=>(if (!y5)=false then ((C_ x0.2.2.2.2.2).bind fun y6=>(if (!y6)=true then (some false) else (N8 (!y6) x0))) else (some false))) else (some false))) else (some false))) else (some false))) else (some false)))
theorem jQ:PO WM JR:=jS (by kernel_rfl)
theorem jR:QQ WN N8:=jS (by kernel_rfl)
theorem pC:PN dL UZ:=cT EN rfl ⟨rfl,rfl⟩ (by kernel_rfl)
def WO:=cG S5 (AE CL) (AE CL) kx
def FR:=kB [] [6,9,10,11] 4 WO
def FS:=kE 0 [] [6,9,10,11] 4 WO kx
def IY (x0:List Int) (x1:List Y) (x2:List AD) (x3:Bool) (x4:O) (x5:Y) (x6 x7:O):Option (O×List Y×List AD):=cG Vc FR (AE CL) FS ⟨[(1,.lst (.int .i64) x0),(5,.ptr 1 0),(6,.ptr 2 0),(9,.ptr 3 0),(10,.lst AC x1),(11,.lst Aq x2),(28,.bool x3)],[.var (U.enc x4),.var (AC.enc x5),.var (U.enc x6),.var (U.enc x7)]⟩
def Ia (x0:List Y) (x1:List AD) (x2:Bool) (x3:O) (x4:Y) (x5 x6:O):Option (O×List Y×List AD):=cG Vd FR (AE CL) FS ⟨[(3,.ptr 0 0),(5,.ptr 1 0),(6,.ptr 2 0),(9,.ptr 3 0),(10,.lst AC x0),(11,.lst Aq x1),(60,.bool x2)],[.var (U.enc x3),.var (AC.enc x4),.var (U.enc x5),.var (U.enc x6)]⟩
def Mk (x0:List Y) (x1:List AD) (x2:Bool) (x3:O) (x4:Y) (x5 x6:O):Option (O×List Y×List AD):=cG Ve FR (AE CL) FS ⟨[(3,.ptr 0 0),(5,.ptr 1 0),(6,.ptr 2 0),(9,.ptr 3 0),(10,.lst AC x0),(11,.lst Aq x1),(50,.bool x2)],[.var (U.enc x3),.var (AC.enc x4),.var (U.enc x5),.var (U.enc x6)]⟩
def Ml (x0:List Y) (x1:List AD) (x2:Bool) (x3:O) (x4:Y) (x5 x6:O):Option (O×List Y×List AD):=cG S0 FR (AE CL) FS ⟨[(5,.ptr 1 0),(6,.ptr 2 0),(9,.ptr 3 0),(10,.lst AC x0),(11,.lst Aq x1),(145,.bool x2)],[.var (U.enc x3),.var (AC.enc x4),.var (U.enc x5),.var (U.enc x6)]⟩
def Ib (x0:List Y) (x1:List AD) (x2:Int) (x3:O) (x4:Y) (x5 x6:O):Option (O×List Y×List AD):=cG S3 FR (AE CL) FS ⟨[(5,.ptr 1 0),(6,.ptr 2 0),(9,.ptr 3 0),(10,.lst AC x0),(11,.lst Aq x1),(13,.int .i64 x2)],[.var (U.enc x3),.var (AC.enc x4),.var (U.enc x5),.var (U.enc x6)]⟩
def Ic (x0:List Y) (x1:List AD) (x2:Bool) (x3:O) (x4:Y) (x5 x6:O):Option (O×List Y×List AD):=cG S4 FR (AE CL) FS ⟨[(5,.ptr 1 0),(6,.ptr 2 0),(9,.ptr 3 0),(10,.lst AC x0),(11,.lst Aq x1),(127,.bool x2)],[.var (U.enc x3),.var (AC.enc x4),.var (U.enc x5),.var (U.enc x6)]⟩
def Tg (x0:List Int) (x1:List Y) (x2:List AD) (x3:Bool) (x4:O) (x5:Y) (x6 x7:O):Option (O×List Y×List AD):=(if x3=true then ((M6 x0 x5.2.2.2.2.2 x7).bind fun y2=>(some (y2.2,y2.1,x2))) else (some (x7,x1,x2)))
def Th (x0:List Y) (x1:List AD) (x2:Bool) (x3:O) (x4:Y) (x5 x6:O):Option (O×List Y×List AD):=(if (!x6.2.2.2.1)=true then ((K_ x3 x3.2.1).bind fun y4=>(if ([]:List X).length+x4.2.2.2.2.2.length≤68719476736 then ((D5 x3 x4 4).bind fun y5=>(some ((y4.1,y4.2.1,y4.2.2.1,true,y4.2.2.2.2.1,y4.2.2.2.2.2.1,y4.2.2.2.2.2.2.1,(([]:List X)++x4.2.2.2.2.2),y4.2.2.2.2.2.2.2.2),y5,x1))) else none)) else ((D5 x3 x4 4).bind fun y6=>(some (x6,y6,x1))))
def Ti (x0:List Y) (x1:List AD) (x2:Bool) (x3:O) (x4:Y) (x5 x6:O):Option (O×List Y×List AD):=(if (!x6.2.2.2.1)=true then (if x6.2.2.1=true then (some (x6,x0,x1)) else (Ia x0 x1 x6.2.2.1 x3 x4 x5 x6)) else (Ia x0 x1 false x3 x4 x5 x6))
def Tj (x0:List Y) (x1:List AD) (x2:Bool) (x3:O) (x4:Y) (x5 x6:O):Option (O×List Y×List AD):=((HS x6.2.2.2.2.2.2.2.2.2.2.2.2.2 x4.2.1).bind fun y11=>(if ((y11.length:Int)==0)=true then ((GQ (x6.1,x6.2.1,x6.2.2.1,x6.2.2.2.1,x6.2.2.2.2.1,x6.2.2.2.2.2.1,x6.2.2.2.2.2.2.1,x6.2.2.2.2.2.2.2.1,x6.2.2.2.2.2.2.2.2.1,x6.2.2.2.2.2.2.2.2.2.1,x6.2.2.2.2.2.2.2.2.2.2.1,x6.2.2.2.2.2.2.2.2.2.2.2.1,x6.2.2.2.2.2.2.2.2.2.2.2.2.1,y11)).bind fun y12=>(some (y12.2,x0,y12.1))) else (some ((x6.1,x6.2.1,x6.2.2.1,x6.2.2.2.1,x6.2.2.2.2.1,x6.2.2.2.2.2.1,x6.2.2.2.2.2.2.1,x6.2.2.2.2.2.2.2.1,x6.2.2.2.2.2.2.2.2.1,x6.2.2.2.2.2.2.2.2.2.1,x6.2.2.2.2.2.2.2.2.2.2.1,x6.2.2.2.2.2.2.2.2.2.2.2.1,x6.2.2.2.2.2.2.2.2.2.2.2.2.1,y11),x0,x1))))
def Tk (x0:List Y) (x1:List AD) (x2:Int) (x3:O) (x4:Y) (x5 x6:O):Option (O×List Y×List AD):=(if (x6.2.2.2.2.2.2.2.2.2.1 != x2)=false then (if (x6.2.2.2.2.2.2.2.2.2.2.2.1 != x4.2.2.2.2.1)=true then (some (x6,x0,x1)) else (Ml x0 x1 (x6.2.2.2.2.2.2.2.2.2.2.2.1 != x4.2.2.2.2.1) x3 x4 x5 x6)) else (some (x6,x0,x1)))
def Tl (x0:List Y) (x1:List AD) (x2:Bool) (x3:O) (x4:Y) (x5 x6:O):Option (O×List Y×List AD):=(if x2=true then (if (x4.1==8)=true then (Ib x0 x1 2 x3 x4 x5 x6) else (Ib x0 x1 1 x3 x4 x5 x6)) else (some (x6,x0,x1)))
def ZV (x0:O) (x1:List Int) (x2:Y):Option (O×List Y×List AD):=((C6 x0).bind fun y1=>(if (x2.1==2)=true then (if y1.2.2.2.2.1=true then (IY x1 ([]:List Y) ([]:List AD) (!y1.2.2.2.1) x0 x2 (0,0,false,false,false,false,([]:List Int),([]:List X),0,0,0,0,(ByteArray.empty,ByteArray.empty,0),([]:List Int)) y1) else (IY x1 ([]:List Y) ([]:List AD) false x0 x2 (0,0,false,false,false,false,([]:List Int),([]:List X),0,0,0,0,(ByteArray.empty,ByteArray.empty,0),([]:List Int)) y1)) else (if (x2.1==3)=true then ((Di x1 x0.1).bind fun y3=>(if (!y3)=true then (some (y1,([]:List Y),([]:List AD))) else (if 0≤(0:Int) then (if 0<(x1.length:Int) then (if ((x1.getD (0:Int).toNat 0)==x0.1)=true then (some (y1,([]:List Y),([]:List AD))) else (Mk ([]:List Y) ([]:List AD) ((x1.getD (0:Int).toNat 0)==x0.1) x0 x2 (0,0,false,false,false,false,([]:List Int),([]:List X),0,0,0,0,(ByteArray.empty,ByteArray.empty,0),([]:List Int)) y1)) else none) else none))) else (if (x2.1==4)=true then (if y1.2.2.2.2.1=true then ((HS y1.2.2.2.2.2.2.1 x2.2.1).bind fun y7=>(if y1.2.2.2.1=true then (some ((y1.1,y1.2.1,y1.2.2.1,y1.2.2.2.1,y1.2.2.2.2.1,((y7.length:Int)==0),y7,y1.2.2.2.2.2.2.2),([]:List Y),([]:List AD))) else (some ((y1.1,y1.2.1,y1.2.2.1,y1.2.2.2.1,y1.2.2.2.2.1,false,y7,y1.2.2.2.2.2.2.2),([]:List Y),([]:List AD))))) else (some (y1,([]:List Y),([]:List AD)))) else (if (x2.1==5)=true then (if y1.2.2.2.1=true then (if 0≤(0:Int) then (if 0<(x2.2.2.2.2.2.length:Int) then ((Hs y1.2.2.2.2.2.2.2.1 (x2.2.2.2.2.2.getD (0:Int).toNat (ByteArray.empty,ByteArray.empty,0))).bind fun y8=>((D5 x0 x2 6).bind fun y9=>(some ((y1.1,y1.2.1,y1.2.2.1,y1.2.2.2.1,y1.2.2.2.2.1,y1.2.2.2.2.2.1,y1.2.2.2.2.2.2.1,y8,y1.2.2.2.2.2.2.2.2),y9,([]:List AD))))) else none) else none) else (some (y1,([]:List Y),([]:List AD)))) else (if (x2.1==7)=true then (if y1.2.2.2.1=true then ((D5 x0 x2 8).bind fun y10=>(some (y1,y10,([]:List AD)))) else (some (y1,([]:List Y),([]:List AD)))) else (if (x2.1==6)=true then (Ic ([]:List Y) ([]:List AD) (x2.1==6) x0 x2 (0,0,false,false,false,false,([]:List Int),([]:List X),0,0,0,0,(ByteArray.empty,ByteArray.empty,0),([]:List Int)) y1) else (Ic ([]:List Y) ([]:List AD) (x2.1==8) x0 x2 (0,0,false,false,false,false,([]:List Int),([]:List X),0,0,0,0,(ByteArray.empty,ByteArray.empty,0),([]:List Int)) y1))))))))
theorem fp:sW Tg IY:=jS (by kernel_rfl)
theorem fq:uW Th Ia:=jS (by kernel_rfl)
theorem fu:uW Ti Mk:=jS (by kernel_rfl)
theorem fw:uW Tj Ml:=jS (by kernel_rfl)
theorem f5:uW Tk Ib:=jS (by kernel_rfl)
theorem f7:uW Tl Ic:=jS (by kernel_rfl)
theorem nK:PO ZV R9:=cT CL rfl ⟨rfl,rfl⟩ (by kernel_rfl)
def X4 (x0:O) (x1:Int):Option O:=(if ([]:List X).length+x0.2.2.2.2.2.2.2.1.length≤68719476736 then (some (x0.1,x1,false,false,false,false,([]:List Int),(([]:List X)++x0.2.2.2.2.2.2.2.1),0,0,0,0,(ByteArray.empty,ByteArray.empty,0),([]:List Int))) else none)
theorem mG:QQ X4 K_:=cT K3 rfl ⟨rfl,rfl⟩ (by kernel_rfl)
def jT (x0:O) (x1:Y) (x2:Int):Option (List Y):=(some ([(x2,x0.1,x1.2.1,x1.2.2.2.1,x1.2.2.2.2.1,([]:List X))]:List Y))
theorem jU:PO jT D5:=cT JH rfl ⟨rfl,rfl⟩ (by kernel_rfl)
def MH (x0:Bool) (x1:O) (x2:Y):Option (List Y×O):=cG L7 (AE DY) (AE DY) kx ⟨[(0,.ptr 0 0),(5,.ptr 1 0),(37,.bool x0)],[.var (U.enc x1),.var (AC.enc x2)]⟩
def MI (x0:Bool) (x1:O) (x2:Y):Option (List Y×O):=((Fg (x1.1,x2.2.2.2.1,x1.2.2.1,false,x1.2.2.2.2)).bind fun y2=>((Ag ([x2.2.1]:List Int) (2,0,0,0,0,y2.2.2.2.2.2.2.2.1) y2).bind fun y3=>(some (y3.1,y3.2))))
def QK (x1:List (List Int)) (x2:Y) (b0:O):Option (List Y×O):=(if (x2.2.2.2.1 != (i64.wrap (b0.2.1+1)))=true then (some ([],b0)) else (if (!b0.2.2.2.1)=true then (some ([],b0)) else (if 0≤(i64.wrap (b0.2.1-1)) then (if (i64.wrap (b0.2.1-1))<(x1.length:Int) then ((CT (x1.getD (i64.wrap (b0.2.1-1)).toNat ([]:List Int)) b0.1).bind fun y1=>(if (!y1)=true then (some ([],b0)) else (MH (!y1) b0 x2))) else none) else none)))
theorem Wk:PO MI MH:=jS (by kernel_rfl)
theorem aY:PO QK Je:=cT DY rfl ⟨rfl,rfl⟩ (by kernel_rfl)
def KE:=cG KA (AE BR) (AE BR) kx
def Tm:=kB [] [0,5] 2 KE
def Tn:=kE 0 [] [0,5] 2 KE kx
def Cf (x0:Bool) (x1:O) (x2:Y):Option (List Y×O):=cG J_ Tm (AE BR) Tn ⟨[(0,.ptr 0 0),(5,.ptr 1 0),(24,.bool x0)],[.var (U.enc x1),.var (AC.enc x2)]⟩
def I5 (x0:Bool) (x1:O) (x2:Y):Option (List Y×O):=cG KB (AE BR) (AE BR) kx ⟨[(0,.ptr 0 0),(5,.ptr 1 0),(23,.bool x0)],[.var (U.enc x1),.var (AC.enc x2)]⟩
def I6 (x0:Bool) (x1:O) (x2:Y):Option (List Y×O):=(if x0=true then ((Af x2.2.2.2.2.2).bind fun y2=>((Fg (x1.1,x2.2.2.2.1,false,true,x1.2.2.2.2.1,x1.2.2.2.2.2.1,x1.2.2.2.2.2.2.1,y2,x1.2.2.2.2.2.2.2.2)).bind fun y3=>((Ag ([x2.2.1]:List Int) (4,0,0,0,0,([]:List X)) y3).bind fun y4=>(some (y4.1,y4.2))))) else (if (!x1.2.2.2.1)=true then (some ([],x1)) else ((Ag ([x2.2.1]:List Int) (4,0,0,0,0,([]:List X)) x1).bind fun y5=>(some (y5.1,y5.2)))))
def I7 (x0:Bool) (x1:O) (x2:Y):Option (List Y×O):=(if (decide (x2.2.2.2.1>x1.2.1))=true then (Cf true x1 x2) else (if (!x1.2.2.2.1)=true then (Cf (!x1.2.2.1) x1 x2) else (Cf false x1 x2)))
def MJ (x1:List Int) (x2:Y) (b0:O):Option (List Y×O):=((CT x1 b0.1).bind fun y1=>(if (!y1)=true then (some ([],b0)) else (if 0≤(0:Int) then (if 0<(x1.length:Int) then (if ((x1.getD (0:Int).toNat 0)==b0.1)=true then (some ([],b0)) else (I5 ((x1.getD (0:Int).toNat 0)==b0.1) b0 x2)) else none) else none)))
theorem SD:PO I6 Cf:=jS (by kernel_rfl)
theorem SE:PO I7 I5:=jS (by kernel_rfl)
theorem Wl:PO MJ HD:=cT BR rfl ⟨rfl,rfl⟩ (by kernel_rfl)
def X5 (x0:List Int) (x1:Int):Option (List Int):=((Bb x0).bind fun y1=>((EP y1 x1).bind fun y2=>(some y2)))
theorem mH:QQ X5 LA:=cT K4 rfl ⟨rfl,rfl⟩ (by kernel_rfl)
def Lg (x0:Bool) (x1:O) (x2:Y):Option (List Y×O):=cG L8 (AE DG) (AE DG) kx ⟨[(0,.ptr 0 0),(3,.ptr 1 0),(18,.bool x0)],[.var (U.enc x1),.var (AC.enc x2)]⟩
def Lh (x0:Bool) (x1:O) (x2:Y):Option (List Y×O):=(if (x2.1==7)=true then ((Ag ([x2.2.1]:List Int) (8,0,0,0,x2.2.2.2.2.1,([]:List X)) x1).bind fun y1=>(some (y1.1,y1.2))) else (if 0≤(0:Int) then (if 0<(x2.2.2.2.2.2.length:Int) then ((LB x1.2.2.2.2.2.2.2.1 (x2.2.2.2.2.2.getD (0:Int).toNat (ByteArray.empty,ByteArray.empty,0))).bind fun y2=>((Ag ([x2.2.1]:List Int) (6,0,0,0,x2.2.2.2.2.1,([]:List X)) (x1.1,x1.2.1,x1.2.2.1,x1.2.2.2.1,x1.2.2.2.2.1,x1.2.2.2.2.2.1,x1.2.2.2.2.2.2.1,y2,x1.2.2.2.2.2.2.2.2)).bind fun y3=>(some (y3.1,y3.2)))) else none) else none))
def Oh (x1:Y) (b0:O):Option (List Y×O):=(if (x1.2.2.2.1 != b0.2.1)=true then (some ([],b0)) else (if (!b0.2.2.2.1)=true then (some ([],b0)) else (Lg (!b0.2.2.2.1) b0 x1)))
theorem Uh:PO Lh Lg:=jS (by kernel_rfl)
theorem Y3:QQ Oh Im:=cT DG rfl ⟨rfl,rfl⟩ (by kernel_rfl)
def KF (x0:Bool) (x1:O) (x2:Y):Option (List AD×O):=cG KC (AE Cv) (AE Cv) kx ⟨[(0,.ptr 0 0),(5,.ptr 1 0),(32,.bool x0)],[.var (U.enc x1),.var (AC.enc x2)]⟩
def KG (x0:Bool) (x1:O) (x2:Y):Option (List AD×O):=((LA x1.2.2.2.2.2.2.2.2.2.2.2.2.2 x2.2.1).bind fun y1=>(if (decide ((y1.length:Int)>0))=true then (some ([],(x1.1,x1.2.1,x1.2.2.1,x1.2.2.2.1,x1.2.2.2.2.1,x1.2.2.2.2.2.1,x1.2.2.2.2.2.2.1,x1.2.2.2.2.2.2.2.1,x1.2.2.2.2.2.2.2.2.1,x1.2.2.2.2.2.2.2.2.2.1,x1.2.2.2.2.2.2.2.2.2.2.1,x1.2.2.2.2.2.2.2.2.2.2.2.1,x1.2.2.2.2.2.2.2.2.2.2.2.2.1,y1))) else ((Gr (x1.1,x1.2.1,x1.2.2.1,x1.2.2.2.1,x1.2.2.2.2.1,x1.2.2.2.2.2.1,x1.2.2.2.2.2.2.1,x1.2.2.2.2.2.2.2.1,x1.2.2.2.2.2.2.2.2.1,x1.2.2.2.2.2.2.2.2.2.1,x1.2.2.2.2.2.2.2.2.2.2.1,x1.2.2.2.2.2.2.2.2.2.2.2.1,x1.2.2.2.2.2.2.2.2.2.2.2.2.1,y1)).bind fun y2=>(some (y2.1,y2.2)))))
def NX (x1:Int) (x2:Y) (b0:O):Option (List AD×O):=(if (x2.2.2.2.1 != b0.2.1)=true then (some ([],b0)) else (if (b0.2.2.2.2.2.2.2.2.2.1 != x1)=true then (some ([],b0)) else (if (b0.2.2.2.2.2.2.2.2.2.2.2.1 != x2.2.2.2.2.1)=true then (some ([],b0)) else (KF (b0.2.2.2.2.2.2.2.2.2.2.2.1 != x2.2.2.2.2.1) b0 x2))))
theorem To:PO KG KF:=jS (by kernel_rfl)
theorem X6:PO NX Fh:=cT Cv rfl ⟨rfl,rfl⟩ (by kernel_rfl)
end
end Go.Proofs.YtokiohnjegbnpaaGreat.Core

namespace Go.Proofs.YtokiohnjegbnpaaGreat.Core
open Go IntKind
set_option linter.unusedVariables false
set_option maxRecDepth 100000
noncomputable section
def Gd:=kE 0 [] [] 1 (AE AX) kx
def GV:St→Option (RT (BM.outs AX)):=lG GN [(0,0)] [0,1,2,3,8,9] 1 (AE AX) Gd
def Ge:=kB [(0,0)] [0,1,2,3,8,9] 1 GV
def Bx:=kB [(0,0)] [0,1,2,3,8,9] 1 Ge
def BS:=kE 1 [(0,0)] [0,1,2,3,8,9] 1 Ge Gd
def NY:=cG DZ Bx (AE AX) BS
def GW (x0 x1 x2:Int) (x3 x4:Bool) (x5 x6:Int) (x7:Bool) (x8:List Int):Option (List Int):=cG DZ Bx (AE AX) BS ⟨[(0,.row 0),(1,.int .i64 x0),(2,.int .i64 x1),(3,.int .i64 x2),(8,.bool x3),(9,.bool x4),(10,.int .i64 x5),(11,.int .i64 x6),(87,.bool x7)],[.mrow 3 (.int .i64) x8]⟩
def Dc (x0 x1 x2:Int) (x3 x4:Bool) (x5 x6:Int) (x7:Bool) (x8:List Int):Option (List Int):=cG GJ NY (AE AX) BS ⟨[(0,.row 0),(1,.int .i64 x0),(2,.int .i64 x1),(3,.int .i64 x2),(8,.bool x3),(9,.bool x4),(10,.int .i64 x5),(11,.int .i64 x6),(87,.bool x7)],[.mrow 3 (.int .i64) x8]⟩
def Bq (x0 x1 x2:Int) (x3 x4:Bool) (x5 x6:Int) (x7:List Int):Option (List Int):=cG GK Bx (AE AX) BS ⟨[(0,.row 0),(1,.int .i64 x0),(2,.int .i64 x1),(3,.int .i64 x2),(8,.bool x3),(9,.bool x4),(10,.int .i64 x5),(11,.int .i64 x6)],[.mrow 3 (.int .i64) x7]⟩
def Dd (x0 x1 x2:Int) (x3 x4:Bool) (x5 x6 x7:Int) (x8:List Int):Option (List Int):=cG GL Bx (AE AX) BS ⟨[(0,.row 0),(1,.int .i64 x0),(2,.int .i64 x1),(3,.int .i64 x2),(8,.bool x3),(9,.bool x4),(10,.int .i64 x5),(11,.int .i64 x6),(12,.int .i64 x7)],[.mrow 3 (.int .i64) x8]⟩
def De (x0 x1 x2:Int) (x3 x4:Bool) (x5:Int) (x6:List Int):Option (List Int):=cG GM Bx (AE AX) BS ⟨[(0,.row 0),(1,.int .i64 x0),(2,.int .i64 x1),(3,.int .i64 x2),(8,.bool x3),(9,.bool x4),(10,.int .i64 x5)],[.mrow 3 (.int .i64) x6]⟩
def Br (x0 x1 x2:Int) (x3 x4:Bool) (x5:List Int):Option (List Int):=GV ⟨[(0,.row 0),(1,.int .i64 x0),(2,.int .i64 x1),(3,.int .i64 x2),(8,.bool x3),(9,.bool x4)],[.mrow 3 (.int .i64) x5]⟩
def Mm (x0 x1 x2:Int) (x3 x4:Bool) (x5 x6:Int) (x7:Bool) (x8:List Int):Option (List Int):=((NN x0 x1 x6 x8).bind fun y9=>(if 8=0 then none else (if (decide ((i64.wrap (y9.1-x0))<(i64.wrap (x1-y9.1))))=true then ((CE x0 y9.1 x2 y9.2.2).bind fun y10=>(Br (i64.wrap (y9.1+1)) x1 x2 (decide ((i64.wrap (y9.1-x0))≥(i64.wrap (Int.tdiv x5 8)))) y9.2.1 y10)) else ((CE (i64.wrap (y9.1+1)) x1 x2 y9.2.2).bind fun y11=>(Br x0 y9.1 x2 (decide ((i64.wrap (x1-y9.1))≥(i64.wrap (Int.tdiv x5 8)))) y9.2.1 y11)))))
def Mn (x0 x1 x2:Int) (x3 x4:Bool) (x5 x6:Int) (x7:Bool) (x8:List Int):Option (List Int):=(if x7=true then ((Jf x0 x1 x6 x8).bind fun y8=>(Br y8.1 x1 x2 x3 x4 y8.2)) else (GW x0 x1 x2 x3 x4 x5 x6 x7 x8))
def Mo (x0 x1 x2:Int) (x3 x4:Bool) (x5 x6:Int) (x7:List Int):Option (List Int):=(if (decide (x0>0))=true then (if 0≤(i64.wrap (x0-1)) then (if (i64.wrap (x0-1))<(x7.length:Int) then (if 0≤x6 then (if x6<(x7.length:Int) then ((LC (x7.getD ((i64.wrap (x0-1)).toNat) 0) (x7.getD x6.toNat 0)).bind fun y7=>(Dc x0 x1 x2 x3 x4 x5 x6 (!y7) x7)) else none) else none) else none) else none) else (Dc x0 x1 x2 x3 x4 x5 x6 false x7))
def Mp (x0 x1 x2:Int) (x3 x4:Bool) (x5 x6 x7:Int) (x8:List Int):Option (List Int):=(if x3=true then (if x4=true then (if (x7==1)=true then ((HE x0 x1 x8).bind fun y6=>(if y6.1=true then (some y6.2) else (Bq x0 x1 x2 x3 x4 x5 x6 y6.2))) else (Bq x0 x1 x2 x3 x4 x5 x6 x8)) else (Bq x0 x1 x2 x3 x4 x5 x6 x8)) else (Bq x0 x1 x2 x3 x4 x5 x6 x8))
def Mq (x0 x1 x2:Int) (x3 x4:Bool) (x5:Int) (x6:List Int):Option (List Int):=((Lu x0 x1 x6).bind fun y4=>(if (y4.2.1==2)=true then ((LE x0 x1 y4.2.2).bind fun y5=>(Dd x0 x1 x2 x3 x4 x5 (i64.wrap ((i64.wrap (x1-1))-(i64.wrap (y4.1-x0)))) 1 y5)) else (Dd x0 x1 x2 x3 x4 x5 y4.1 y4.2.1 y4.2.2)))
def GX (x0 x1 x2:Int) (x3 x4:Bool) (x5:List Int):Option (List Int):=(if (decide ((i64.wrap (x1-x0))≤12))=true then ((C1 x0 x1 x5).bind fun y1=>(some y1)) else (if (x2==0)=true then ((Nt x0 x1 x5).bind fun y2=>(some y2)) else (if (!x3)=true then ((KN x0 x1 x5).bind fun y3=>(De x0 x1 (i64.wrap (x2-1)) x3 x4 (i64.wrap (x1-x0)) y3)) else (De x0 x1 x2 x3 x4 (i64.wrap (x1-x0)) x5))))
def Hd (x1 x2 x3:Int) (b0:List Int):Option (List Int):=(Br x1 x2 x3 true true b0)
theorem f8:wV Mm GW:=jS (by kernel_rfl)
theorem f9:wV Mn Dc:=jS (by kernel_rfl)
theorem f_:sW Mo Bq:=jS (by kernel_rfl)
theorem gA:wV Mp Dd:=jS (by kernel_rfl)
theorem gC:uW Mq De:=jS (by kernel_rfl)
theorem Mr:rS GX Br:=lS (by kernel_rfl)
theorem O5:iF Hd CE:=cT AX rfl ⟨rfl,rfl⟩ (by kernel_rfl)
def WP (x0:Int):Option Int:=((LD x0).bind fun y1=>(some y1))
theorem jV:PN WP Ns:=cT JI rfl ⟨rfl,rfl⟩ (by kernel_rfl)
def He (x0:List X) (x1:X) (x2:List X):Option (List X):=cG S7 (AE Ds) (AE Ds) kx ⟨[(0,.lst AB x0),(5,.row 1)],[.var (AB.enc x1),.rows 38 AB x2]⟩
def Hf (x0:List X) (x1:Int) (x2 x3:Bool) (x4:X) (x5:List X):Option (List X):=cG S8 (AE Ds) (AE Ds) kx ⟨[(0,.lst AB x0),(3,.ptr 0 0),(5,.row 1),(6,.int .i64 x1),(7,.bool x2),(32,.bool x3)],[.var (AB.enc x4),.rows 38 AB x5]⟩
def Rs (x0:List X) (x1:X) (x2:List X):Option (List X):=((Eu x2).bind fun y5=>(if (!y5)=true then ((Af x0).bind fun y6=>(some y6)) else (some x2)))
def Rt (x0:List X) (x1:Int) (x2 x3:Bool) (x4:X) (x5:List X):Option (List X):=(if x2=true then (if 0≤x1 then (if x1<(x5.length:Int) then (let z4:List X:=x5.set x1.toNat x4; (He x0 x4 z4)) else none) else none) else ((Ce x5 x1 ([x4]:List X)).bind fun y7=>(He x0 x4 y7)))
def X7 (x0:List X) (x1:X):Option (List X):=((Af x0).bind fun y1=>((BL x0 x1.1 ()).bind fun y2=>((Eu x0).bind fun y3=>(if (!y3)=true then (some y1) else (if y2.2=true then (if 0≤y2.1 then (if y2.1<(x0.length:Int) then (if (decide ((((x0.getD y2.1.toNat (ByteArray.empty,ByteArray.empty,0)).2).2)≥x1.2.2))=true then (some y1) else (Hf x0 y2.1 y2.2 (decide ((((x0.getD y2.1.toNat (ByteArray.empty,ByteArray.empty,0)).2).2)≥x1.2.2)) x1 y1)) else none) else none) else (Hf x0 y2.1 y2.2 false x1 y1))))))
theorem dM:PO Rs He:=jS (by kernel_rfl)
theorem dN:rS Rt Hf:=jS (by kernel_rfl)
theorem mI:QQ X7 LB:=cT Ds rfl ⟨rfl,rfl⟩ (by kernel_rfl)
def jW:=cG Vh (AE Ea) (AE Ea) kx
def jX:=kE 0 [] [] 0 jW kx
def gD:St→Option (RT (BM.outs Ea)):=lG Vg [] [0,3] 0 (AE Ea) jX
def GY (x0:List Int) (x1:Int):Option Bool:=gD ⟨[(0,.lst (.int .i64) x0),(3,.int .i64 x1)],[]⟩
def Ms (x0:List Int) (x1:Int):Option Bool:=(if (decide (x1<(x0.length:Int)))=true then (if 0≤x1 then (if x1<(x0.length:Int) then ((AR (x0.getD x1.toNat 0) 1 6).bind fun y1=>(if (!y1)=true then (some false) else (if (decide (x1>0))=true then (if 0≤(i64.wrap (x1-1)) then (if (i64.wrap (x1-1))<(x0.length:Int) then (if 0≤x1 then (if x1<(x0.length:Int) then (if (decide ((x0.getD (i64.wrap (x1-1)).toNat 0)≥(x0.getD x1.toNat 0)))=true then (some false) else (GY x0 (i64.wrap (x1+1)))) else none) else none) else none) else none) else (GY x0 (i64.wrap (x1+1)))))) else none) else none) else (some true))
def ZW (x0:List Int):Option Bool:=(GY x0 0)
theorem Tp:QQ Ms GY:=lS (by kernel_rfl)
theorem nL:PN ZW C3:=cT Ea rfl ⟨rfl,rfl⟩ (by kernel_rfl)
def gE:=cG RK (AE Dt) (AE Dt) kx
def gF:=kE 0 [] [0] 0 gE kx
def dO:St→Option (RT (BM.outs Dt)):=lG RJ [] [0,3] 0 (AE Dt) gF
def Fp (x0:List X) (x1:Int):Option Bool:=dO ⟨[(0,.lst AB x0),(3,.int .i64 x1)],[]⟩
def Li (x0:List X) (x1:Int):Option Bool:=(if (decide (x1<(x0.length:Int)))=true then (if 0≤x1 then (if x1<(x0.length:Int) then ((AR (((x0.getD x1.toNat (ByteArray.empty,ByteArray.empty,0)).1).size:Int) 1 12).bind fun y1=>(if (!y1)=true then (some false) else (if (decide (((((x0.getD x1.toNat (ByteArray.empty,ByteArray.empty,0)).2).1).size:Int)>20))=true then (some false) else ((AR (((x0.getD x1.toNat (ByteArray.empty,ByteArray.empty,0)).2).2) 1 1000000000).bind fun y2=>(if (!y2)=true then (some false) else (if (decide (x1>0))=true then (if 0≤(i64.wrap (x1-1)) then (if (i64.wrap (x1-1))<(x0.length:Int) then (if (!(Op.bytesLess ((x0.getD (i64.wrap (x1-1)).toNat (ByteArray.empty,ByteArray.empty,0)).1).toList ((x0.getD x1.toNat (ByteArray.empty,ByteArray.empty,0)).1).toList))=true then (some false) else (Fp x0 (i64.wrap (x1+1)))) else none) else none) else (Fp x0 (i64.wrap (x1+1))))))))) else none) else none) else (some (decide ((x0.length:Int)≤12))))
def X8 (x0:List X):Option Bool:=(Fp x0 0)
theorem Ru:QQ Li Fp:=lS (by kernel_rfl)
theorem mJ:PN X8 C_:=cT Dt rfl ⟨rfl,rfl⟩ (by kernel_rfl)
def Tq (x0:oP):Option Bool:=(if (x0.1==0)=true then (if (x0.2.1==0)=true then (if (x0.2.2.1==0)=true then (if (false != T8 AB x0.2.2.2.1 (ByteArray.empty,ByteArray.empty,0))=true then (some ((x0.2.2.2.2.length:Int)==0)) else (some false)) else (some false)) else (some false)) else (some false))
theorem gG:PN Tq MW:=cT IJ rfl ⟨rfl,rfl⟩ (by kernel_rfl)
def Y4:=cG OM (AE CZ) (AE CZ) kx
def Y5:=kE 0 [(5,0)] [5] 1 Y4 kx
def X9:St→Option (RT (BM.outs CZ)):=lG OL [(5,0)] [0,1,5,6] 1 (AE CZ) Y5
def Dw (x0:List Int) (x1 x2:Int) (x3:List Int):Option (List Int):=X9 ⟨[(0,.lst (.int .i64) x0),(1,.int .i64 x1),(5,.row 0),(6,.int .i64 x2)],[.rows 3 (.int .i64) x3]⟩
def Hw (x0:List Int) (x1 x2:Int) (x3:List Int):Option (List Int):=(if (decide (x2<(x0.length:Int)))=true then (if 0≤x2 then (if x2<(x0.length:Int) then (if ((x0.getD x2.toNat 0) != x1)=true then (if 0≤x2 then (if x2<(x0.length:Int) then (if x3.length+([(x0.getD x2.toNat 0)]:List Int).length≤68719476736 then (Dw x0 x1 (i64.wrap (x2+1)) (x3++([(x0.getD x2.toNat 0)]:List Int))) else none) else none) else none) else (Dw x0 x1 (i64.wrap (x2+1)) x3)) else none) else none) else (some x3))
def Rv (x0:List Int) (x1:Int):Option (List Int):=(Dw x0 x1 0 ([]:List Int))
theorem NZ:iF Hw Dw:=lS (by kernel_rfl)
theorem dP:QQ Rv HS:=cT CZ rfl ⟨rfl,rfl⟩ (by kernel_rfl)
def Cg:=kE 0 [] [] 1 (AE AS) kx
def EC:St→Option (RT (BM.outs AS)):=lG Ee [(0,0)] [0,1,2,6] 1 (AE AS) Cg
def I8:=kB [(0,0)] [0,1,2,6] 1 EC
def Eg:=cG Ed I8 (AE AS) Cg
def I9:=kB [(0,0)] [0,1,2,6] 1 Eg
def I_:=kE 1 [(0,0)] [0,1,2,6] 1 Eg Cg
def Eh:=kE 2 [(0,0)] [0,1,2,6] 1 I9 I_
def ED:St→Option (RT (BM.outs AS)):=lG Ec [(0,0)] [0,1,2,6,7] 1 (AE AS) Eh
def JA:=kB [(0,0)] [0,1,2,6,7] 1 ED
def EE (x0 x1 x2 x3:Int) (x4:Bool) (x5:List Int):Option (List Int):=cG Eb JA (AE AS) Eh ⟨[(0,.row 0),(1,.int .i64 x0),(2,.int .i64 x1),(6,.int .i64 x2),(7,.int .i64 x3),(30,.bool x4)],[.mrow 3 (.int .i64) x5]⟩
def Bj (x0 x1 x2 x3:Int) (x4:List Int):Option (List Int):=ED ⟨[(0,.row 0),(1,.int .i64 x0),(2,.int .i64 x1),(6,.int .i64 x2),(7,.int .i64 x3)],[.mrow 3 (.int .i64) x4]⟩
def Ar (x0 x1 x2:Int) (x3:List Int):Option (List Int):=EC ⟨[(0,.row 0),(1,.int .i64 x0),(2,.int .i64 x1),(6,.int .i64 x2)],[.mrow 3 (.int .i64) x3]⟩
def EF (x0 x1 x2 x3:Int) (x4:Bool) (x5:List Int):Option (List Int):=(if 0≤(i64.wrap (x3-1)) then (if (i64.wrap (x3-1))<(x5.length:Int) then (if 0≤x3 then (if x3<(x5.length:Int) then (if 0≤x3 then (if x3<(x5.length:Int) then (let z2:List Int:=x5.set x3.toNat (x5.getD ((i64.wrap (x3-1)).toNat) 0); (if 0≤(i64.wrap (x3-1)) then (if (i64.wrap (x3-1))<(z2.length:Int) then (let z3:List Int:=z2.set ((i64.wrap (x3-1)).toNat) (x5.getD x3.toNat 0); (Bj x0 x1 x2 (i64.wrap (x3-1)) z3)) else none) else none)) else none) else none) else none) else none) else none) else none)
def CX (x0 x1 x2 x3:Int) (x4:List Int):Option (List Int):=(if (decide (x3>x0))=true then (if 0≤x3 then (if x3<(x4.length:Int) then (if 0≤(i64.wrap (x3-1)) then (if (i64.wrap (x3-1))<(x4.length:Int) then ((LC (x4.getD x3.toNat 0) (x4.getD ((i64.wrap (x3-1)).toNat) 0)).bind fun y1=>(if y1=true then (EE x0 x1 x2 x3 y1 x4) else (Ar x0 x1 (i64.wrap (x2+1)) x4))) else none) else none) else none) else none) else (Ar x0 x1 (i64.wrap (x2+1)) x4))
def Bk (x0 x1 x2:Int) (x3:List Int):Option (List Int):=(if (decide (x2<x1))=true then (Bj x0 x1 x2 x2 x3) else (some x3))
def C2 (x1 x2:Int) (b0:List Int):Option (List Int):=(Ar x1 x2 (i64.wrap (x1+1)) b0)
theorem Iu:rS EF EE:=jS (by kernel_rfl)
theorem EG:qn CX Bj:=lS (by kernel_rfl)
theorem CY:iF Bk Ar:=lS (by kernel_rfl)
theorem FI:PO C2 C1:=cT AS rfl ⟨rfl,rfl⟩ (by kernel_rfl)
def X_ (x0 x1:Int):Option Bool:=((JL x0).bind fun y1=>(if y1=true then ((JL x1).bind fun y2=>(if (!y2)=false then (some (decide (x0<x1))) else (some true))) else (some (decide (x0<x1)))))
theorem mK:QQ X_ LC:=cT K6 rfl ⟨rfl,rfl⟩ (by kernel_rfl)
def Fq (x0 x1:Int):Option Int:=cG ON (AE Ca) (AE Ca) kx ⟨[(0,.int .u64 x0),(2,.int .i64 x1)],[]⟩
def Hx (x0 x1:Int):Option Int:=cG OO (AE Ca) (AE Ca) kx ⟨[(0,.int .u64 x0),(2,.int .i64 x1)],[]⟩
def Hy (x0 x1:Int):Option Int:=(if (decide (x0≥256))=true then (if 8<0 then none else (if 0≤(IntKind.u8.wrap (Int.fdiv x0 (2^(min (8:Int).toNat (IntKind.bits .u64))))) then (if (IntKind.u8.wrap (Int.fdiv x0 (2^(min (8:Int).toNat (IntKind.bits .u64)))))<((⟨#[0,1,2,2,3,3,3,3,4,4,4,4,4,4,4,4,5,5,5,5,5,5,5,5,5,5,5,5,5,5,5,5,6,6,6,6,6,6,6,6,6,6,6,6,6,6,6,6,6,6,6,6,6,6,6,6,6,6,6,6,6,6,6,6,7,7,7,7,7,7,7,7,7,7,7,7,7,7,7,7,7,7,7,7,7,7,7,7,7,7,7,7,7,7,7,7,7,7,7,7,7,7,7,7,7,7,7,7,7,7,7,7,7,7,7,7,7,7,7,7,7,7,7,7,7,7,7,7,8,8,8,8,8,8,8,8,8,8,8,8,8,8,8,8,8,8,8,8,8,8,8,8,8,8,8,8,8,8,8,8,8,8,8,8,8,8,8,8,8,8,8,8,8,8,8,8,8,8,8,8,8,8,8,8,8,8,8,8,8,8,8,8,8,8,8,8,8,8,8,8,8,8,8,8,8,8,8,8,8,8,8,8,8,8,8,8,8,8,8,8,8,8,8,8,8,8,8,8,8,8,8,8,8,8,8,8,8,8,8,8,8,8,8,8,8,8,8,8,8,8,8,8,8,8,8,8]⟩:ByteArray).size:Int) then (some (i64.wrap ((i64.wrap (x1+8))+(i64.wrap (((⟨#[0,1,2,2,3,3,3,3,4,4,4,4,4,4,4,4,5,5,5,5,5,5,5,5,5,5,5,5,5,5,5,5,6,6,6,6,6,6,6,6,6,6,6,6,6,6,6,6,6,6,6,6,6,6,6,6,6,6,6,6,6,6,6,6,7,7,7,7,7,7,7,7,7,7,7,7,7,7,7,7,7,7,7,7,7,7,7,7,7,7,7,7,7,7,7,7,7,7,7,7,7,7,7,7,7,7,7,7,7,7,7,7,7,7,7,7,7,7,7,7,7,7,7,7,7,7,7,7,8,8,8,8,8,8,8,8,8,8,8,8,8,8,8,8,8,8,8,8,8,8,8,8,8,8,8,8,8,8,8,8,8,8,8,8,8,8,8,8,8,8,8,8,8,8,8,8,8,8,8,8,8,8,8,8,8,8,8,8,8,8,8,8,8,8,8,8,8,8,8,8,8,8,8,8,8,8,8,8,8,8,8,8,8,8,8,8,8,8,8,8,8,8,8,8,8,8,8,8,8,8,8,8,8,8,8,8,8,8,8,8,8,8,8,8,8,8,8,8,8,8,8,8,8,8,8,8]⟩:ByteArray).data.toList.getD (IntKind.u8.wrap (Int.fdiv x0 (2^(min (8:Int).toNat (IntKind.bits .u64))))).toNat 0).toNat:Int))))) else none) else none)) else (if 0≤(IntKind.u8.wrap x0) then (if (IntKind.u8.wrap x0)<((⟨#[0,1,2,2,3,3,3,3,4,4,4,4,4,4,4,4,5,5,5,5,5,5,5,5,5,5,5,5,5,5,5,5,6,6,6,6,6,6,6,6,6,6,6,6,6,6,6,6,6,6,6,6,6,6,6,6,6,6,6,6,6,6,6,6,7,7,7,7,7,7,7,7,7,7,7,7,7,7,7,7,7,7,7,7,7,7,7,7,7,7,7,7,7,7,7,7,7,7,7,7,7,7,7,7,7,7,7,7,7,7,7,7,7,7,7,7,7,7,7,7,7,7,7,7,7,7,7,7,8,8,8,8,8,8,8,8,8,8,8,8,8,8,8,8,8,8,8,8,8,8,8,8,8,8,8,8,8,8,8,8,8,8,8,8,8,8,8,8,8,8,8,8,8,8,8,8,8,8,8,8,8,8,8,8,8,8,8,8,8,8,8,8,8,8,8,8,8,8,8,8,8,8,8,8,8,8,8,8,8,8,8,8,8,8,8,8,8,8,8,8,8,8,8,8,8,8,8,8,8,8,8,8,8,8,8,8,8,8,8,8,8,8,8,8,8,8,8,8,8,8,8,8,8,8,8,8]⟩:ByteArray).size:Int) then (some (i64.wrap (x1+(i64.wrap (((⟨#[0,1,2,2,3,3,3,3,4,4,4,4,4,4,4,4,5,5,5,5,5,5,5,5,5,5,5,5,5,5,5,5,6,6,6,6,6,6,6,6,6,6,6,6,6,6,6,6,6,6,6,6,6,6,6,6,6,6,6,6,6,6,6,6,7,7,7,7,7,7,7,7,7,7,7,7,7,7,7,7,7,7,7,7,7,7,7,7,7,7,7,7,7,7,7,7,7,7,7,7,7,7,7,7,7,7,7,7,7,7,7,7,7,7,7,7,7,7,7,7,7,7,7,7,7,7,7,7,8,8,8,8,8,8,8,8,8,8,8,8,8,8,8,8,8,8,8,8,8,8,8,8,8,8,8,8,8,8,8,8,8,8,8,8,8,8,8,8,8,8,8,8,8,8,8,8,8,8,8,8,8,8,8,8,8,8,8,8,8,8,8,8,8,8,8,8,8,8,8,8,8,8,8,8,8,8,8,8,8,8,8,8,8,8,8,8,8,8,8,8,8,8,8,8,8,8,8,8,8,8,8,8,8,8,8,8,8,8,8,8,8,8,8,8,8,8,8,8,8,8,8,8,8,8,8,8]⟩:ByteArray).data.toList.getD (IntKind.u8.wrap x0).toNat 0).toNat:Int))))) else none) else none))
def Na (x0 x1:Int):Option Int:=(if (decide (x0≥65536))=true then (if 16<0 then none else (Fq (Int.fdiv x0 (2^(min (16:Int).toNat (IntKind.bits .u64)))) (i64.wrap (x1+16)))) else (Fq x0 x1))
def Rw (x0:Int):Option Int:=(if (decide (x0≥4294967296))=true then (if 32<0 then none else (Hx (Int.fdiv x0 (2^(min (32:Int).toNat (IntKind.bits .u64)))) 32)) else (Hx x0 0))
theorem YA:QQ Hy Fq:=jS (by kernel_rfl)
theorem YB:QQ Na Hx:=jS (by kernel_rfl)
theorem dQ:PN Rw LD:=cT Ca rfl ⟨rfl,rfl⟩ (by kernel_rfl)
def D8:=cG BG (AE AH) (AE AH) kx
def D9:=kE 0 [] [0,1,2,8,9] 0 D8 kx
def Dy:St→Option (RT (BM.outs AH)):=lG B7 [] [0,1,2,8,9,10] 0 (AE AH) D9
def B3 (x0:List X) (x1:ByteArray) (x2 x3:Int):Option (Int×Bool):=cG BG (AE AH) (AE AH) kx ⟨[(0,.lst AB x0),(1,.str x1),(2,.fn 160 []),(8,.int .i64 x2),(9,.int .i64 x3)],[]⟩
def AJ (x0:List X) (x1:ByteArray) (x2 x3 x4:Int):Option (Int×Bool):=Dy ⟨[(0,.lst AB x0),(1,.str x1),(2,.fn 160 []),(8,.int .i64 x2),(9,.int .i64 x3),(10,.int .i64 x4)],[]⟩
def B4 (x0:List X) (x1:ByteArray) (x2 x3:Int):Option (Int×Bool):=(if (decide (x3<x2))=true then (if 0≤x3 then (if x3<(x0.length:Int) then ((IQ (x0.getD x3.toNat (ByteArray.empty,ByteArray.empty,0)) x1).bind fun y2=>(some (x3,(y2==0)))) else none) else none) else (some (x3,false)))
def BC (x0:List X) (x1:ByteArray) (x2 x3 x4:Int):Option (Int×Bool):=(if (decide (x3<x4))=true then (if 1<0 then none else (if 0≤(i64.wrap (Int.fdiv (IntKind.u64.wrap (i64.wrap (x3+x4))) (2^(min (1:Int).toNat (IntKind.bits .u64))))) then (if (i64.wrap (Int.fdiv (IntKind.u64.wrap (i64.wrap (x3+x4))) (2^(min (1:Int).toNat (IntKind.bits .u64)))))<(x0.length:Int) then ((IQ (x0.getD (i64.wrap (Int.fdiv (IntKind.u64.wrap (i64.wrap (x3+x4))) (2^(min (1:Int).toNat (IntKind.bits .u64))))).toNat (ByteArray.empty,ByteArray.empty,0)) x1).bind fun y1=>(if (decide (y1<0))=true then (AJ x0 x1 x2 (i64.wrap ((i64.wrap (Int.fdiv (IntKind.u64.wrap (i64.wrap (x3+x4))) (2^(min (1:Int).toNat (IntKind.bits .u64)))))+1)) x4) else (AJ x0 x1 x2 x3 (i64.wrap (Int.fdiv (IntKind.u64.wrap (i64.wrap (x3+x4))) (2^(min (1:Int).toNat (IntKind.bits .u64)))))))) else none) else none)) else (B3 x0 x1 x2 x3))
def CF (x0:List X) (x1:ByteArray) (x2:Unit):Option (Int×Bool):=(AJ x0 x1 (x0.length:Int) 0 (x0.length:Int))
theorem Dz:iF B4 B3:=jS (by kernel_rfl)
theorem B5:qn BC AJ:=lS (by kernel_rfl)
theorem ER:PO CF BL:=cT AH rfl ⟨rfl,rfl⟩ (by kernel_rfl)
def Tr (x0:X) (x1:ByteArray):Option Int:=((LF x0.1 x1).bind fun y1=>(some y1))
theorem gH:QQ Tr IQ:=cT IK rfl ⟨rfl,rfl⟩ (by kernel_rfl)
def WQ (x0:Int):Option Bool:=(some (x0 != x0))
theorem jY:PN WQ JL:=cT JJ rfl ⟨rfl,rfl⟩ (by kernel_rfl)
end
end Go.Proofs.YtokiohnjegbnpaaGreat.Core


namespace Go.Proofs.YtokiohnjegbnpaaGreat.Core
open Go
set_option linter.unusedVariables false
theorem AZ {n:Int} (h:-9223372036854775808≤n∧n≤9223372036854775807):IntKind.i64.wrap n=n:=IntWalk.i64_in n h
theorem AP {i:Nat} (h:i<9223372036854775807):IntKind.i64.wrap ((i:Int)+1)=((i+1:Nat):Int):=by
 rw [AZ (by omega)]
 omega
theorem GZ {P:Nat→Prop} {n:Nat} (h0:P n) (h:∀ i,i<n→P (i+1)→P i):∀ i,i≤n→P i:=by
 intro i hi
 induction hk:n-i generalizing i with
 | zero =>
  have:i=n:=by omega
  subst this
  exact h0
 | succ k ih=>exact h i (by omega) (ih (i+1) (by omega) (by omega))
theorem AW {α:Type} {xs:List α} {i:Nat} {d:α} (h:i<xs.length):xs.getD i d=xs[i]:=by
 simp [List.getD,h]
end Go.Proofs.YtokiohnjegbnpaaGreat.Core

namespace Go.Proofs.YtokiohnjegbnpaaGreat.Core
open Go
set_option linter.unusedVariables false
theorem As (a b c:Int):AR a b c=some (decide (b≤a)&&decide (a≤c)):=o5 (by
 unfold cQ
 by_cases h:b≤a<;>simp [h])
theorem An (a b c:Int):Ae a b c=some (decide (b≤a)&&decide (a≤c)):=lY (by
 unfold Xd
 by_cases h:b≤a<;>simp [h])
def Hg (x:Int×ByteArray×ByteArray×Int×Int×Int×Int×Int×ByteArray):Int :=
 if (decide ((0:Int)≤x.2.2.2.2.2.2.1)&&decide (x.2.2.2.2.2.2.1≤9))&&(decide ((0:Int)≤x.2.2.2.2.2.2.2.1)&&decide (x.2.2.2.2.2.2.2.1≤999)) then IntKind.i64.wrap (IntKind.i64.wrap (1000*x.2.2.2.2.2.2.1)+x.2.2.2.2.2.2.2.1) else 0
theorem jZ x:IN x=some (Hg x):=o4 (by
 unfold cO Hg
 simp only [As,Option.bind_some]
 generalize (decide ((0:Int)≤x.2.2.2.2.2.2.1)&&decide (x.2.2.2.2.2.2.1≤9))=a
 generalize (decide ((0:Int)≤x.2.2.2.2.2.2.2.1)&&decide (x.2.2.2.2.2.2.2.1≤999))=b
 cases a<;>cases b<;>simp)
theorem WR x:Gm x=some (Hg x):=oz (by
 unfold cC Hg
 simp only [An,Option.bind_some]
 generalize (decide ((0:Int)≤x.2.2.2.2.2.2.1)&&decide (x.2.2.2.2.2.2.1≤9))=a
 generalize (decide ((0:Int)≤x.2.2.2.2.2.2.2.1)&&decide (x.2.2.2.2.2.2.2.1≤999))=b
 cases a<;>cases b<;>simp)
end Go.Proofs.YtokiohnjegbnpaaGreat.Core

namespace Go.Proofs.YtokiohnjegbnpaaGreat.Core
open Go
set_option linter.unusedVariables false
def BA (x:List (ByteArray×ByteArray×Int)) (k:ByteArray):ByteArray×ByteArray×Int :=
 (x.find? fun a=>a.1.toList==k.toList).getD (ByteArray.empty,ByteArray.empty,0)
theorem BT {α:Type} {x:List α} {i:Nat} (h:i<x.length):x.drop i=x[i]::x.drop (i+1):=List.drop_eq_getElem_cons h
theorem Ts (x k) (h:x.length≤maxLen):M5 x k=some (BA x k):=nI (by
 have hm:x.length≤9223372036854775807:=h
 unfold ZT
 exact GZ (n:=x.length) (P:=fun i=>∀ z,IX x k (i:Int) z=some (BA (x.drop i) k)) (fun z=>Tb (by
  unfold Mh
  rw [if_neg (by simp),List.drop_length]
  rfl)) (fun i hi ih z=>Tb (by
  unfold Mh
  simp only [show ((i:Int)<(x.length:Int)) from by omega,decide_true,if_true,show (0:Int)≤(i:Int) from by omega,Int.toNat_natCast,AW hi,AP (show i<9223372036854775807 by omega)]
  rw [BT hi]
  by_cases hk:(x[i].1.toList==k.toList)=true
  ·rw [if_pos hk]
   unfold BA
   rw [List.find?_cons,hk]
   rfl
  ·rw [if_neg hk,ih]
   unfold BA
   rw [List.find?_cons,Bool.eq_false_iff.2 hk])) 0 (by omega) _)
theorem Tt (x k) (h:x.length≤maxLen):M4 x k=some (BA x k):=nH (by
 have hm:x.length≤9223372036854775807:=h
 unfold ZS
 exact GZ (n:=x.length) (P:=fun i=>∀ z,IW k x (x.length:Int) (i:Int) z=some (BA (x.drop i) k)) (fun z=>TX (by
  unfold Mg
  rw [if_neg (by simp),List.drop_length]
  rfl)) (fun i hi ih z=>TX (by
  unfold Mg
  simp only [show ((i:Int)<(x.length:Int)) from by omega,decide_true,if_true,show (0:Int)≤(i:Int) from by omega,Int.toNat_natCast,AW hi,AP (show i<9223372036854775807 by omega)]
  rw [BT hi]
  by_cases hk:(x[i].1.toList==k.toList)=true
  ·rw [if_pos hk]
   unfold BA
   rw [List.find?_cons,hk]
   rfl
  ·rw [if_neg hk,ih]
   unfold BA
   rw [List.find?_cons,Bool.eq_false_iff.2 hk])) 0 (by omega) _)
end Go.Proofs.YtokiohnjegbnpaaGreat.Core

namespace Go.Proofs.YtokiohnjegbnpaaGreat.Core
open Go
set_option linter.unusedVariables false
theorem N9 k:O0 k=some (decide (1≤(k.size:Int))&&decide ((k.size:Int)≤12)):=o7 (by simp [cm,An])
theorem Ga n:Ef n=some (decide (1≤n)&&decide (n≤6)):=nE (by simp [ZQ,An])
def pD (v:ByteArray):Bool:=v.toList==(⟨#[]⟩:ByteArray).toList
theorem gI (v:ByteArray):(v.toList==(⟨#[]⟩:ByteArray).toList)=pD v:=rfl
def dR (op:Int) (k v:ByteArray):Bool :=
 (decide (op=1)||decide (op=2))&&(decide (1≤(k.size:Int))&&decide ((k.size:Int)≤12))&&decide ((v.size:Int)≤20)&&(decide (op=1)||pD v)
def KO (x:Int×Int×Int×Int×ByteArray×ByteArray):Bool :=
 decide (1≤x.1)&&decide (x.1≤6)&&(decide (1≤x.2.1)&&decide (x.2.1≤6))&&decide (0≤x.2.2.1) &&
  (if x.1=1 then dR x.2.2.2.1 x.2.2.2.2.1 x.2.2.2.2.2 else decide (x.2.2.2.1=0)&&pD x.2.2.2.2.1&&pD x.2.2.2.2.2)
theorem ja a k v:K7 a 0 k v=some (dR a k v):=cd (by
 have w:∀ b,JN a v b=some (decide (a=1)||pD v):=fun b=>Vx (by
  unfold N0
  rw [gI]
  by_cases h:a=1<;>simp [h])
 unfold Ua dR
 have se:decide ((v.size:Int)>20)=!decide ((v.size:Int)≤20):=by
  by_cases h:(v.size:Int)≤20<;>simp [h]
  omega
 simp only [se,An,N9,Option.bind_some,w]
 by_cases h1:a=1
 ·by_cases h2:1≤(k.size:Int)<;>by_cases h3:(k.size:Int)≤12<;>by_cases h4:(v.size:Int)≤20<;>simp [h1,h2,h3,h4]
 ·by_cases h1b:a=2
  ·by_cases h2:1≤(k.size:Int)<;>by_cases h3:(k.size:Int)≤12<;>by_cases h4:(v.size:Int)≤20<;>simp [h1b,h2,h3,h4]
  ·have:¬ (1≤a∧a≤2):=by omega
   by_cases h5:1≤a
   ·have:¬ a≤2:=by omega
    simp [h1,h1b,this]
   ·simp [h1,h1b,h5])
theorem dS x:Pj x=some (KO x):=lV (by
 have w:∀ b,LH b x=some (if x.1=1 then dR x.2.2.2.1 x.2.2.2.2.1 x.2.2.2.2.2 else decide (x.2.2.2.1=0)&&pD x.2.2.2.2.1&&pD x.2.2.2.2.2):=fun b=>cI (by
  unfold RP
  simp only [gI]
  by_cases h:x.1=1
  ·simp [h,ja]
  ·by_cases h2:x.2.2.2.1=0<;>rcases Bool.eq_false_or_eq_true (pD x.2.2.2.2.1) with h3 | h3<;>simp [h,h2,h3])
 unfold Xa KO
 simp only [An,Ga,Option.bind_some,w]
 by_cases h1:1≤x.1<;>by_cases h2:x.1≤6<;>by_cases h3:1≤x.2.1<;>by_cases h4:x.2.1≤6<;>by_cases h5:0≤x.2.2.1<;>simp [h1,h2,h3,h4,h5]<;>omega)
theorem dU x:Pk x=some (KO x):=lW (by
 have w:∀ b,LI b x=some (if x.1=1 then dR x.2.2.2.1 x.2.2.2.2.1 x.2.2.2.2.2 else decide (x.2.2.2.1=0)&&pD x.2.2.2.2.1&&pD x.2.2.2.2.2):=fun b=>cL (by
  unfold RQ dR
  simp only [gI]
  by_cases h:x.1=1
  ·simp only [As,Option.bind_some]
   by_cases g1:x.2.2.2.1=1
   ·by_cases h2:1≤(x.2.2.2.2.1.size:Int)<;>by_cases h3:(x.2.2.2.2.1.size:Int)≤12<;>by_cases h4:(x.2.2.2.2.2.size:Int)≤20<;>simp [h,g1,h2,h3,h4]
   ·by_cases g2:x.2.2.2.1=2
    ·by_cases h2:1≤(x.2.2.2.2.1.size:Int)<;>by_cases h3:(x.2.2.2.2.1.size:Int)≤12<;>by_cases h4:(x.2.2.2.2.2.size:Int)≤20<;>simp [h,g2,h2,h3,h4]
    ·simp [h,g1,g2]
  ·by_cases h2:x.2.2.2.1=0<;>rcases Bool.eq_false_or_eq_true (pD x.2.2.2.2.1) with h3 | h3<;>simp [h,h2,h3])
 unfold Xb KO
 simp only [As,Option.bind_some,w]
 by_cases h1:1≤x.1<;>by_cases h2:x.1≤6<;>by_cases h3:1≤x.2.1<;>by_cases h4:x.2.1≤6<;>by_cases h5:0≤x.2.2.1<;>simp [h1,h2,h3,h4,h5]<;>omega)
end Go.Proofs.YtokiohnjegbnpaaGreat.Core

namespace Go.Proofs.YtokiohnjegbnpaaGreat.Core
open Go
set_option linter.unusedVariables false
def Id (a:ByteArray×ByteArray×Int):Bool:=(decide (1≤(a.1.size:Int))&&decide ((a.1.size:Int)≤12))&&decide ((a.2.1.size:Int)≤20)&&(decide (1≤a.2.2)&&decide (a.2.2≤1000000000))
def Bz (x:List (ByteArray×ByteArray×Int)) (i:Nat):Nat→Bool
 | 0=>decide ((x.length:Int)≤12)
 | k+1=>Id (x.getD i (ByteArray.empty,ByteArray.empty,0))&&(decide (i=0)||Op.bytesLess (x.getD (i-1) (ByteArray.empty,ByteArray.empty,0)).1.toList (x.getD i (ByteArray.empty,ByteArray.empty,0)).1.toList)&&Bz x (i+1) k
theorem se (n:Int):decide (n>20)=!decide (n≤20):=by
 by_cases h:n≤20<;>simp [h]
 omega
theorem Yb {i:Nat} (h:i<9223372036854775807) (h0:0<i):IntKind.i64.wrap ((i:Int)-1)=((i-1:Nat):Int):=by
 rw [AZ (by omega)]
 omega
theorem Hh (x) (h:x.length≤maxLen):C_ x=some (Bz x 0 x.length):=mJ (by
 have hm:x.length≤9223372036854775807:=h
 unfold X8
 have:=GZ (n:=x.length) (P:=fun i=>Fp x (i:Int)=some (Bz x i (x.length-i))) (Ru (by
  unfold Li
  rw [if_neg (by simp),Nat.sub_self]
  rfl)) (fun i hi ih=>Ru (by
  unfold Li
  have e:x.length-i=(x.length-(i+1))+1:=by omega
  simp only [show ((i:Int)<(x.length:Int)) from by omega,decide_true,if_true,show (0:Int)≤(i:Int) from by omega,Int.toNat_natCast,AP (show i<9223372036854775807 by omega),ih,As,Option.bind_some,se]
  rw [e,Bz,Id]
  generalize (decide (1≤((x.getD i (ByteArray.empty,ByteArray.empty,0)).1.size:Int))&&decide (((x.getD i (ByteArray.empty,ByteArray.empty,0)).1.size:Int)≤12))=a
  generalize decide (((x.getD i (ByteArray.empty,ByteArray.empty,0)).2.1.size:Int)≤20)=b
  generalize (decide (1≤(x.getD i (ByteArray.empty,ByteArray.empty,0)).2.2)&&decide ((x.getD i (ByteArray.empty,ByteArray.empty,0)).2.2≤1000000000))=c
  cases a
  ·simp
  cases b
  ·simp
  cases c
  ·simp
  by_cases h0:0<i
  ·rw [Yb (by omega) h0]
   simp only [Int.toNat_natCast,show ((0:Int)≤((i-1:Nat):Int)) from by omega,show (((i-1:Nat):Int)<(x.length:Int)) from by omega,if_true]
   rcases Bool.eq_false_or_eq_true (Op.bytesLess (x.getD (i-1) (ByteArray.empty,ByteArray.empty,0)).1.toList (x.getD i (ByteArray.empty,ByteArray.empty,0)).1.toList) with hb | hb<;>simp only [hb]<;>simp [h0,show i≠0 by omega]
  ·have:i=0:=by omega
   subst this
   simp)) 0 (by omega)
 simpa using this)
theorem Lj (x) (h:x.length≤maxLen) (hl:∀ a b:List UInt8,(Op.bytesLess a b||a==b)=!Op.bytesLess b a):Eu x=some (Bz x 0 x.length):=lZ (by
 have hm:x.length≤9223372036854775807:=h
 unfold Xg
 have:=GZ (n:=x.length) (P:=fun i=>Fj x x (x.length:Int) (i:Int)=some (Bz x i (x.length-i))) (RS (by
  unfold LL
  rw [if_neg (by simp),Nat.sub_self]
  rfl)) (fun i hi ih=>RS (by
  unfold LL
  have e:x.length-i=(x.length-(i+1))+1:=by omega
  simp only [show ((i:Int)<(x.length:Int)) from by omega,decide_true,if_true,show (0:Int)≤(i:Int) from by omega,Int.toNat_natCast,AP (show i<9223372036854775807 by omega),ih,An,N9,Option.bind_some,se,hl]
  rw [e,Bz,Id]
  generalize (decide (1≤((x.getD i (ByteArray.empty,ByteArray.empty,0)).1.size:Int))&&decide (((x.getD i (ByteArray.empty,ByteArray.empty,0)).1.size:Int)≤12))=a
  generalize decide (((x.getD i (ByteArray.empty,ByteArray.empty,0)).2.1.size:Int)≤20)=b
  generalize (decide (1≤(x.getD i (ByteArray.empty,ByteArray.empty,0)).2.2)&&decide ((x.getD i (ByteArray.empty,ByteArray.empty,0)).2.2≤1000000000))=c
  cases a
  ·simp
  cases b
  ·simp
  cases c
  ·simp
  by_cases h0:0<i
  ·rw [Yb (by omega) h0]
   simp only [Int.toNat_natCast,show ((0:Int)≤((i-1:Nat):Int)) from by omega,show (((i-1:Nat):Int)<(x.length:Int)) from by omega,if_true]
   rcases Bool.eq_false_or_eq_true (Op.bytesLess (x.getD (i-1) (ByteArray.empty,ByteArray.empty,0)).1.toList (x.getD i (ByteArray.empty,ByteArray.empty,0)).1.toList) with hb | hb<;>simp only [hb]<;>simp [h0,show i≠0 by omega]
  ·have:i=0:=by omega
   subst this
   simp)) 0 (by omega)
 simpa using this)
theorem Nb:∀ a b:List UInt8,(Op.bytesLess a b||a==b)=!Op.bytesLess b a
 | [],[]=>rfl
 | [],_::_=>rfl
 | _::_,[]=>rfl
 | a::l,b::m=>by
  have ih:=Nb l m
  simp only [Op.bytesLess]
  by_cases h1:a<b
  ·have h2:¬ b<a:=by exact UInt8.not_lt.2 (UInt8.le_of_lt h1)
   have h3:¬ b=a:=fun h=>by subst h; exact absurd h1 (UInt8.lt_irrefl _)
   simp [h1,h2,h3]
  ·by_cases h2:b<a
   ·have h3:¬ a=b:=fun h=>by subst h; exact absurd h2 (UInt8.lt_irrefl _)
    simp [h1,h2,h3]
   ·have h3:a=b:=UInt8.le_antisymm (UInt8.not_lt.1 h2) (UInt8.not_lt.1 h1)
    subst h3
    simpa [h1] using ih
end Go.Proofs.YtokiohnjegbnpaaGreat.Core

namespace Go.Proofs.YtokiohnjegbnpaaGreat.Core
open Go
set_option linter.unusedVariables false
abbrev AK:Type:=ByteArray×ByteArray×Int
abbrev mL:AK:=(ByteArray.empty,ByteArray.empty,(0:Int))
theorem Yc:∀ a:List UInt8,Op.bytesLess a a=false
 | []=>rfl
 | a::l=>by simp [Op.bytesLess,Yc l,UInt8.lt_irrefl]
theorem YC:∀ {a b c:List UInt8},Op.bytesLess a b=true→Op.bytesLess b c=true→Op.bytesLess a c=true
 | _,[],_,h,_=>by cases ‹List UInt8› <;> simp [Op.bytesLess] at h
 | _,_::_,[],_,h=>by simp [Op.bytesLess] at h
 | [],_::_,_::_,_,_=>rfl
 | a::x,b::y,c::z,h,g=>by
  simp only [Op.bytesLess,Bool.or_eq_true,decide_eq_true_eq,Bool.and_eq_true,beq_iff_eq] at h g ⊢
  rcases h with h | ⟨rfl,h⟩
  ·rcases g with g | ⟨rfl,g⟩
   ·exact .inl (UInt8.lt_trans h g)
   ·exact .inl h
  ·rcases g with g | ⟨rfl,g⟩
   ·exact .inl g
   ·exact .inr ⟨rfl,YC h g⟩
theorem mM:∀ a b:List UInt8,decide (Lib.compareBytes a b<0)=Op.bytesLess a b∧(Lib.compareBytes a b==0)=(a==b)
 | [],[]=>⟨rfl,rfl⟩
 | [],_::_=>⟨rfl,rfl⟩
 | _::_,[]=>⟨rfl,rfl⟩
 | a::l,b::m=>by
  have ih:=mM l m
  simp only [Lib.compareBytes,Op.bytesLess]
  by_cases h1:a<b
  ·have h3:¬ a=b:=fun h=>by subst h; exact absurd h1 (UInt8.lt_irrefl _)
   simp [h1,h3]
  ·by_cases h2:b<a
   ·have h3:¬ a=b:=fun h=>by subst h; exact absurd h2 (UInt8.lt_irrefl _)
    simp [h1,h2,h3]
   ·have h3:a=b:=UInt8.le_antisymm (UInt8.not_lt.1 h2) (UInt8.not_lt.1 h1)
    subst h3
    simpa [h1] using ih
theorem Oi (a:AK) (k:ByteArray):IQ a k=some (Lib.compareBytes a.1.toList k.toList):=gH (by
 unfold Tr
 rw [bo,ByteArray.toList_eq,ByteArray.toList_eq]
 rfl)
def Tu (x:List AK) (i:Nat) (k:ByteArray):Bool:=match x[i]? with
 | some b=>b.1.toList==k.toList
 | none=>false
def SI (k:ByteArray) (b:AK):Bool:=Op.bytesLess b.1.toList k.toList
def JS (x:List AK):Prop:=∀ a b (ha:a<x.length) (hb:b<x.length),a<b→Op.bytesLess x[a].1.toList x[b].1.toList=true
def gz (x:List AK) (k:ByteArray) (i j:Nat):Prop:=∀ a (ha:a<x.length),(a<i→SI k x[a]=true)∧(j≤a→SI k x[a]=false)
theorem wo {i j:Nat} (h:i+j≤137438953472):IntKind.i64.wrap (Int.fdiv (IntKind.u64.wrap (IntKind.i64.wrap ((i:Int)+(j:Int)))) (2^(min (1:Int).toNat (IntKind.bits .u64))))=(((i+j) / 2:Nat):Int):=by
 have e1:IntKind.i64.wrap ((i:Int)+(j:Int))=((i+j:Nat):Int):=by rw [AZ (by omega)]; omega
 have e2:IntKind.u64.wrap ((i+j:Nat):Int)=((i+j:Nat):Int):=by
  simp only [IntKind.wrap,IntKind.bits,IntKind.signed]
  simp
  omega
 have e3:(2:Int)^(min (1:Int).toNat (IntKind.bits .u64))=2:=by decide
 rw [e1,e2,e3,Int.fdiv_eq_ediv_of_nonneg _ (by omega)]
 rw [AZ (by omega)]
 omega
theorem qI (x:List AK) (k:ByteArray) (hx:x.length≤68719476736):∀ (m i j:Nat),j-i≤m→i≤j→j≤x.length →
  ∃ r:Nat,i≤r∧r≤j∧AJ x k (x.length:Int) (i:Int) (j:Int)=some ((r:Int),Tu x r k)∧(JS x→gz x k i j→gz x k r r):=by
 intro m
 induction m with
 | zero =>
  intro i j hm hij hj
  have:i=j:=by omega
  subst this
  refine ⟨i,Nat.le_refl _,Nat.le_refl _,B5 ?_,fun _ h=>h⟩
  unfold BC
  rw [if_neg (by simp)]
  refine Dz ?_
  unfold B4 Tu
  by_cases h:i<x.length
  ·simp only [show ((i:Int)<(x.length:Int)) from by omega,decide_true,if_true,show (0:Int)≤(i:Int) from by omega,Int.toNat_natCast,AW h,Oi,Option.bind_some,(mM _ _).2,List.getElem?_eq_getElem h]
  ·rw [if_neg (by simp; omega),List.getElem?_eq_none (by omega)]
 | succ m ih =>
  intro i j hm hij hj
  by_cases hlt:i<j
  ·have hmid:i≤(i+j) / 2∧(i+j) / 2<j:=by omega
   generalize hh:(i+j) / 2=h at hmid
   have hb:h<x.length:=by omega
   have step:∀ r,(if SI k x[h]=true then AJ x k (x.length:Int) ((h+1:Nat):Int) (j:Int) else AJ x k (x.length:Int) (i:Int) (h:Int))=some r→AJ x k (x.length:Int) (i:Int) (j:Int)=some r:=fun r hr=>B5 (by
    unfold BC
    simp only [show ((i:Int)<(j:Int)) from by omega,decide_true,if_true,wo (show i+j≤137438953472 by omega),hh,show ¬ ((1:Int)<0) from by decide,if_false,show ((0:Int)≤(h:Int)) from by omega,show ((h:Int)<(x.length:Int)) from by omega,Int.toNat_natCast,AW hb,Oi,Option.bind_some,(mM _ _).1,AP (show h<9223372036854775807 by omega)]
    exact hr)
   cases hl:SI k x[h] with
   | true =>
    obtain ⟨r,h1,h2,h3,h4⟩:=ih (h+1) j (by omega) (by omega) hj
    refine ⟨r,by omega,h2,step _ (by rw [hl]; exact h3),fun ho hc=>h4 ho fun a ha=>⟨fun hlt=>?_,(hc a ha).2⟩⟩
    by_cases e:a=h
    ·subst e; exact hl
    ·exact YC (ho a h ha hb (by omega)) hl
   | false =>
    obtain ⟨r,h1,h2,h3,h4⟩:=ih i h (by omega) hmid.1 (by omega)
    refine ⟨r,h1,by omega,step _ (by rw [hl]; exact h3),fun ho hc=>h4 ho fun a ha=>⟨(hc a ha).1,fun hle=>?_⟩⟩
    by_cases e:a=h
    ·subst e; exact hl
    ·cases q:SI k x[a] with
     | false=>rfl
     | true =>
      have:=YC (ho h a hb ha (by omega)) q
      rw [show Op.bytesLess x[h].1.toList k.toList=false from hl] at this
      cases this
  ·have:i=j:=by omega
   subst this
   exact ih i i (by omega) (Nat.le_refl _) hj
theorem sf (x:List AK) (k:ByteArray) (hx:x.length≤68719476736):∃ r:Nat,r≤x.length∧BL x k ()=some ((r:Int),Tu x r k)∧(JS x→gz x k r r):=by
 obtain ⟨r,_,h2,h3,h4⟩:=qI x k hx x.length 0 x.length (by omega) (by omega) (Nat.le_refl _)
 refine ⟨r,h2,ER (by unfold CF; exact h3),fun ho=>h4 ho fun a ha=>⟨fun h=>by omega,fun h=>by omega⟩⟩
theorem YD {x:List AK}:∀ (m i:Nat),Bz x i m=true→∀ a,i≤a→a<i+m→a≠0→Op.bytesLess (x.getD (a-1) mL).1.toList (x.getD a mL).1.toList=true
 | 0,i,_,a,h1,h2,_=>by omega
 | m+1,i,h,a,h1,h2,h0=>by
  simp only [Bz,Bool.and_eq_true,Bool.or_eq_true,decide_eq_true_eq] at h
  obtain ⟨⟨_,h3⟩,h4⟩:=h
  by_cases e:a=i
  ·subst e
   exact h3.resolve_left h0
  ·exact YD m (i+1) h4 a (by omega) (by omega) h0
theorem YE {x:List AK} (h:Bz x 0 x.length=true):JS x:=by
 have st:=YD _ _ h
 have:∀ d a (ha:a+d+1<x.length),Op.bytesLess (x.getD a mL).1.toList (x.getD (a+d+1) mL).1.toList=true:=by
  intro d
  induction d with
  | zero=>intro a ha; exact st (a+1) (by omega) (by omega) (by omega)
  | succ d ih =>
   intro a ha
   exact YC (ih a (by omega)) (st (a+(d+1)+1) (by omega) (by omega) (by omega))
 intro a b ha hb hab
 have:=this (b-a-1) a (by omega)
 rw [show a+(b-a-1)+1=b by omega,AW ha,AW hb] at this
 exact this
theorem qJ {x:List AK} {k:ByteArray} {r:Nat} (hr:r≤x.length) (h:gz x k r r):x.take r=x.filter (SI k)∧x.drop r=x.filter (fun b=>!SI k b):=by
 have e1:(x.take r).filter (SI k)=x.take r:=List.filter_eq_self.2 fun b hb=>by
  obtain ⟨a,ha,rfl⟩:=List.getElem_of_mem hb
  rw [List.length_take] at ha
  rw [List.getElem_take]
  exact (h a (by omega)).1 (by omega)
 have e2:(x.drop r).filter (SI k)=[]:=List.filter_eq_nil_iff.2 fun b hb=>by
  obtain ⟨a,ha,rfl⟩:=List.getElem_of_mem hb
  rw [List.length_drop] at ha
  rw [List.getElem_drop]
  have:=(h (r+a) (by omega)).2 (by omega)
  simp [this]
 have e3:(x.take r).filter (fun b=>!SI k b)=[]:=List.filter_eq_nil_iff.2 fun b hb=>by
  obtain ⟨a,ha,rfl⟩:=List.getElem_of_mem hb
  rw [List.length_take] at ha
  rw [List.getElem_take]
  have:=(h a (by omega)).1 (by omega)
  simp [this]
 have e4:(x.drop r).filter (fun b=>!SI k b)=x.drop r:=List.filter_eq_self.2 fun b hb=>by
  obtain ⟨a,ha,rfl⟩:=List.getElem_of_mem hb
  rw [List.length_drop] at ha
  rw [List.getElem_drop]
  have:=(h (r+a) (by omega)).2 (by omega)
  simp [this]
 have f1:x.filter (SI k)=(x.take r).filter (SI k)++(x.drop r).filter (SI k):=by rw [← List.filter_append,List.take_append_drop]
 have f2:x.filter (fun b=>!SI k b)=(x.take r).filter (fun b=>!SI k b)++(x.drop r).filter (fun b=>!SI k b):=by rw [← List.filter_append,List.take_append_drop]
 rw [f1,f2,e1,e2,e3,e4]
 simp
theorem qu {x:List AK} {k:ByteArray} {r:Nat} (ho:JS x) (h:gz x k r r) (j:Nat) (hj:j<x.length) (e:x[j].1.toList=k.toList):j=r:=by
 rcases Nat.lt_trichotomy j r with g | g | g
 ·have:=(h j hj).1 g
  simp only [SI,e,Yc] at this
  cases this
 ·exact g
 ·have h1:=ho r j (by omega) hj g
  have h2:=(h r (by omega)).2 (Nat.le_refl _)
  rw [e] at h1
  rw [show SI k x[r]=true from h1] at h2
  cases h2
def WS (x:List AK) (a:AK):Bool:=x.any fun b=>(b.1.toList==a.1.toList)&&decide (b.2.2≥a.2.2)
def N_ (k:ByteArray) (b:AK):Bool:=!(Op.bytesLess b.1.toList k.toList||(b.1.toList==k.toList))
def QV (x:List AK) (a:AK):List AK:=x.filter (SI a.1)++[a]++x.filter (N_ a.1)
def Ao (x:List AK):Bool:=Bz x 0 x.length
def Ah (x:List AK) (a:AK):List AK:=if WS x a=true then x else if Ao x=true then (if Ao (QV x a)=true then QV x a else x) else x
theorem qv {x:List AK} {k:ByteArray} {r:Nat} (hr:r≤x.length) (h:gz x k r r):x.filter (N_ k)=(x.drop r).filter fun b=>!(b.1.toList==k.toList):=by
 rw [(qJ hr h).2,List.filter_filter]
 congr 1
 funext b
 simp only [N_,SI,Bool.not_or]
 exact Bool.and_comm _ _
theorem Lk (x:List AK) (a:AK) (hx:x.length≤34359738367):Hs x a=some (Ah x a):=mD (by
 have J4:∀ same out:List AK,out.length≤maxLen→Lc x a same out=some (if Ao x=true then (if Ao out=true then out else same) else same):=fun same out ho=>dI (by
  unfold Ro Ao
  rw [Hh x (by unfold maxLen; omega),Hh out ho]
  cases Bz x 0 x.length<;>cases Bz out 0 out.length<;>simp)
 have L3:∀ same out:List AK,out.length≤x.length+1→D3 x ((0:Nat):Int) a same out=some (if Ao x=true then (if Ao (out++(x.drop 0).filter (N_ a.1))=true then out++(x.drop 0).filter (N_ a.1) else same) else same):=by
  intro same out ho
  refine GZ (n:=x.length) (P:=fun i=>∀ out:List AK,out.length≤x.length+1+i→D3 x (i:Int) a same out=some (if Ao x=true then (if Ao (out++(x.drop i).filter (N_ a.1))=true then out++(x.drop i).filter (N_ a.1) else same) else same)) (fun out ho=>Rq ?_) (fun i hi ih out ho=>Rq ?_) 0 (by omega) out ho
  ·unfold Le
   rw [if_neg (by simp),J4 same out (by unfold maxLen; omega)]
   simp
  ·unfold Le
   simp only [show ((i:Int)<(x.length:Int)) from by omega,decide_true,if_true,show (0:Int)≤(i:Int) from by omega,Int.toNat_natCast,AW hi,AP (show i<9223372036854775807 by omega)]
   rw [BT hi,List.filter_cons]
   change (if N_ a.1 x[i]=true then _ else _)=_
   by_cases hh:N_ a.1 x[i]=true
   ·rw [if_pos hh,if_pos (by simp; omega),ih _ (by simp; omega),if_pos hh,List.append_assoc]
    rfl
   ·rw [if_neg hh,ih _ (by omega),if_neg hh]
 have J2:∀ same out:List AK,out.length≤x.length→Ld x a same out=some (if Ao x=true then (if Ao (out++[a]++x.filter (N_ a.1))=true then out++[a]++x.filter (N_ a.1) else same) else same):=fun same out ho=>dJ (by
  unfold Rp
  rw [if_pos (by simp; omega)]
  have:=L3 same (out++[a]) (by simp; omega)
  simpa using this)
 have L0:∀ same:List AK,D4 x ((0:Nat):Int) a same []=some (if WS (x.drop 0) a=true then same else if Ao x=true then (if Ao (([]++(x.drop 0).filter (SI a.1))++[a]++x.filter (N_ a.1))=true then ([]++(x.drop 0).filter (SI a.1))++[a]++x.filter (N_ a.1) else same) else same):=by
  intro same
  refine GZ (n:=x.length) (P:=fun i=>∀ out:List AK,out.length≤i→D4 x (i:Int) a same out=some (if WS (x.drop i) a=true then same else if Ao x=true then (if Ao ((out++(x.drop i).filter (SI a.1))++[a]++x.filter (N_ a.1))=true then (out++(x.drop i).filter (SI a.1))++[a]++x.filter (N_ a.1) else same) else same)) (fun out ho=>Rr ?_) (fun i hi ih out ho=>Rr ?_) 0 (by omega) [] (by simp)
  ·unfold Lf
   rw [if_neg (by simp),J2 same out ho]
   simp [WS]
  ·unfold Lf
   simp only [show ((i:Int)<(x.length:Int)) from by omega,decide_true,if_true,show (0:Int)≤(i:Int) from by omega,Int.toNat_natCast,AW hi]
   have J1:∀ out:List AK,out.length≤i+1→Hc x (i:Int) a same out=some (if WS (x.drop i) a=true then same else if Ao x=true then (if Ao ((out++(x.drop (i+1)).filter (SI a.1))++[a]++x.filter (N_ a.1))=true then (out++(x.drop (i+1)).filter (SI a.1))++[a]++x.filter (N_ a.1) else same) else same):=fun out ho=>dH (by
    unfold Rn
    simp only [show ((i:Int)<(x.length:Int)) from by omega,decide_true,if_true,show (0:Int)≤(i:Int) from by omega,Int.toNat_natCast,AW hi,AP (show i<9223372036854775807 by omega),ih out ho]
    rw [BT hi]
    rw [show WS (x[i]::x.drop (i+1)) a=(((x[i].1.toList==a.1.toList)&&decide (x[i].2.2≥a.2.2))||WS (x.drop (i+1)) a) from List.any_cons]
    generalize (x[i].1.toList==a.1.toList)=p
    generalize decide (x[i].2.2≥a.2.2)=q
    cases p<;>cases q<;>simp)
   rw [BT hi,List.filter_cons]
   change (if SI a.1 x[i]=true then _ else _)=_
   rw [BT hi] at J1
   by_cases hh:SI a.1 x[i]=true
   ·rw [if_pos hh,if_pos (by simp; omega),J1 _ (by simp; omega),if_pos hh]
    simp only [List.append_assoc,List.cons_append,List.nil_append]
   ·rw [if_neg hh,J1 _ (by omega),if_neg hh]
 unfold X2
 rw [if_pos (by simp; omega)]
 have:=L0 ([]++x)
 simpa [Ah,QV] using this)
theorem uC {x:List AK} {a:AK} {r:Nat} (hr:r≤x.length) (ho:JS x) (h:gz x a.1 r r):WS x a=(Tu x r a.1&&decide ((x.getD r mL).2.2≥a.2.2)):=by
 unfold WS Tu
 by_cases hl:r<x.length
 ·rw [List.getElem?_eq_getElem hl,AW hl]
  rw [Bool.eq_iff_iff,List.any_eq_true]
  simp only [Bool.and_eq_true,beq_iff_eq,decide_eq_true_eq]
  refine ⟨fun ⟨b,hb,e,hv⟩=>?_,fun ⟨e,hv⟩=>⟨_,List.getElem_mem hl,e,hv⟩⟩
  obtain ⟨j,hj,rfl⟩:=List.getElem_of_mem hb
  have:=qu ho h j hj e
  subst this
  exact ⟨e,hv⟩
 ·rw [List.getElem?_eq_none (by omega),Bool.false_and,List.any_eq_false]
  intro b hb
  obtain ⟨j,hj,rfl⟩:=List.getElem_of_mem hb
  intro hc
  simp only [Bool.and_eq_true,beq_iff_eq] at hc
  have:=qu ho h j hj hc.1
  omega
theorem ve {x:List AK} {a:AK} {r:Nat} (hr:r≤x.length) (ho:JS x) (h:gz x a.1 r r):QV x a=if Tu x r a.1=true then x.set r a else x.take r++[a]++x.drop r:=by
 unfold QV
 rw [qv hr h,← (qJ hr h).1]
 have hk:∀ (j:Nat) (hj:j<x.length),j≠r→(x[j].1.toList==a.1.toList)=false:=fun j hj hne=>by
  cases q:(x[j].1.toList==a.1.toList) with
  | false=>rfl
  | true=>exact absurd (qu ho h j hj (by simpa using q)) hne
 have tail:(x.drop (r+1)).filter (fun b=>!(b.1.toList==a.1.toList))=x.drop (r+1):=List.filter_eq_self.2 fun b hb=>by
  obtain ⟨j,hj,rfl⟩:=List.getElem_of_mem hb
  rw [List.length_drop] at hj
  rw [List.getElem_drop,hk (r+1+j) (by omega) (by omega)]
  rfl
 by_cases hl:r<x.length
 ·rw [BT hl,List.filter_cons,tail]
  unfold Tu
  rw [List.getElem?_eq_getElem hl]
  cases q:(x[r].1.toList==a.1.toList) with
  | true=>simp [q,List.set_eq_take_append_cons_drop,hl]
  | false=>simp [q]
 ·have:x.drop r=[]:=List.drop_eq_nil_of_le (by omega)
  rw [this]
  unfold Tu
  rw [List.getElem?_eq_none (by omega)]
  simp
theorem Rx (x:List AK) (a:AK) (hx:x.length≤34359738367):LB x a=some (Ah x a):=mI (by
 obtain ⟨r,hr,hs,hc⟩:=sf x a.1 (by omega)
 have ok:∀ y:List AK,y.length≤68719476736→Eu y=some (Ao y):=fun y hy=>Lj y (by unfold maxLen; omega) Nb
 have J1:∀ y:List AK,y.length≤68719476736→He x a y=some (if Ao y=true then y else x):=fun y hy=>dM (by
  unfold Rs
  rw [ok y hy,Ax (by omega)]
  cases Ao y<;>simp)
 have hl:Tu x r a.1=true→r<x.length:=fun h=>by
  by_cases hl:r<x.length
  ·exact hl
  ·unfold Tu at h
   rw [List.getElem?_eq_none (by omega)] at h
   cases h
 have J0:∀ b,Ao x=true→Hf x (r:Int) (Tu x r a.1) b a x=some (if Ao (QV x a)=true then QV x a else x):=fun b hok=>dN (by
  unfold Rt
  rw [ve hr (YE hok) (hc (YE hok))]
  cases hh:Tu x r a.1 with
  | true =>
   have:=hl hh
   simp only [if_true,show (0:Int)≤(r:Int) from by omega,show ((r:Int)<(x.length:Int)) from by omega,Int.toNat_natCast]
   rw [J1 _ (by simp; omega)]
  | false =>
   rw [if_neg (by simp),I3 (by simp; omega) hr (by simp),Option.bind_some,J1 _ (by simp; omega)]
   simp)
 unfold X7
 rw [Ax (by omega),Option.bind_some,hs,Option.bind_some,ok x (by omega),Option.bind_some]
 cases hok:Ao x with
 | false=>simp [Ah,hok]
 | true =>
  have hst:=uC hr (YE hok) (hc (YE hok))
  have j0:=J0
  unfold Ah
  rw [hst,hok]
  cases hh:Tu x r a.1 with
  | false =>
   have:=J0 false hok
   rw [hh] at this
   simp [this]
  | true =>
   have hlr:=hl hh
   have:=J0 false hok
   rw [hh] at this
   simp only [if_true,show (0:Int)≤(r:Int) from by omega,show ((r:Int)<(x.length:Int)) from by omega,Int.toNat_natCast,Bool.true_and]
   cases q:decide ((x.getD r mL).2.2≥a.2.2) with
   | true=>simp
   | false=>simp [this])
end Go.Proofs.YtokiohnjegbnpaaGreat.Core

namespace Go.Proofs.YtokiohnjegbnpaaGreat.Core
open Go
set_option linter.unusedVariables false
abbrev Nc:Type:=List Int×Int×Int
def WT (d:Nc):Prop:=0≤d.2.1∧d.1.length≤maxLen
theorem g7 (a:Int):0≤KQ .i64 a 255∧KQ .i64 a 255≤255:=by
 unfold KQ
 have h:(BitVec.ofInt (IntKind.bits .i64) a &&& BitVec.ofInt (IntKind.bits .i64) 255).toNat≤255:=by
  rw [BitVec.toNat_and]
  refine Nat.le_trans Nat.and_le_right ?_
  decide
 rw [AZ (by omega)]
 omega
theorem Fs (d:Nc) (h:WT d):∃ b d',Ew d=some (b,d')∧WT d'∧0≤b∧b≤255:=by
 have hm:d.1.length≤9223372036854775807:=h.2
 have hp:=h.1
 suffices g:∃ b d',QB d=some (b,d')∧WT d'∧0≤b∧b≤255 from g.imp fun b g=>g.imp fun d' g=>⟨ld g.1,g.2⟩
 unfold QB
 rw [if_neg (by omega),if_neg (by omega)]
 by_cases h1:d.2.1<(d.1.length:Int)
 ·rw [if_pos (by simpa using h1),if_pos hp,if_pos h1]
  refine ⟨_,_,rfl,⟨?_,h.2⟩,g7 _⟩
  show 0≤IntKind.i64.wrap (d.2.1+1)
  rw [AZ (by omega)]
  omega
 ·rw [if_neg (by simpa using h1)]
  exact ⟨_,_,rfl,h,g7 _⟩
theorem Bc (n:Int) (d:Nc) (h:WT d):∃ v d',CM n d=some (v,d')∧WT d'∧0≤v∧(0<n→v<n):=by
 suffices g:∃ b d',Nz n d=some (b,d')∧WT d'∧0≤b∧(0<n→b<n) from g.imp fun b g=>g.imp fun d' g=>⟨iy g.1,g.2⟩
 unfold Nz
 by_cases h1:n≤0
 ·exact ⟨0,d,by rw [if_pos (by simpa using h1)],h,by omega,by omega⟩
 ·rw [if_neg (by simpa using h1)]
  by_cases h2:n≤256
  ·obtain ⟨b,d1,e1,k1,b0,b1⟩:=Fs d h
   refine ⟨_,_,by rw [if_pos (by simpa using h2),e1,Option.bind_some,if_neg (by omega)],k1,Int.tmod_nonneg _ b0,fun _=>Int.tmod_lt_of_pos _ (by omega)⟩
  ·obtain ⟨b1,d1,e1,k1,b10,b11⟩:=Fs d h
   obtain ⟨b2,d2,e2,k2,b20,b21⟩:=Fs d1 k1
   obtain ⟨b3,d3,e3,k3,b30,b31⟩:=Fs d2 k2
   obtain ⟨b4,d4,e4,k4,b40,b41⟩:=Fs d3 k3
   refine ⟨_,_,by rw [if_neg (by simpa using h2),e1,Option.bind_some,e2,Option.bind_some,e3,Option.bind_some,e4,Option.bind_some,if_neg (by omega)],k4,Int.tmod_nonneg _ ?_,fun _=>Int.tmod_lt_of_pos _ (by omega)⟩
   rw [AZ (n:=b1*16777216) (by omega),AZ (n:=b2*65536) (by omega),AZ (n:=b3*256) (by omega),AZ (n:=b1*16777216+b2*65536) (by omega),AZ (n:=b1*16777216+b2*65536+b3*256) (by omega),AZ (by omega)]
   omega
theorem Hi (n:Int) (d:Nc) (h:WT d):∃ v d',C8 n d=some (v,d')∧WT d':=by
 obtain ⟨v,d',e,k,_⟩:=Bc n d h
 exact ⟨_,_,lw (by unfold Xv; rw [e,Option.bind_some]),k⟩
theorem Nd (x:List Int) (hx:0<x.length) (d:Nc) (h:WT d):∃ v d',HR x d=some (v,d')∧WT d'∧v∈x:=by
 obtain ⟨v,d',e,k,v0,v1⟩:=Bc (x.length:Int) d h
 have v1:=v1 (by omega)
 have hv:v.toNat<x.length:=by omega
 exact ⟨_,_,cq (by unfold Rf; rw [e,Option.bind_some,if_pos v0,if_pos v1]),k,by rw [AW hv]; exact List.getElem_mem hv⟩
theorem gJ (x:List Int) (h:x.length≤maxLen):∃ d,R6 x=some d∧WT d:=by
 have hm:x.length≤9223372036854775807:=h
 have key:=GZ (n:=x.length) (P:=fun i=>∀ a,∃ d,IU x a (i:Int)=some d∧WT d) (fun a=>⟨(x,0,a),Md (by
  unfold IV
  rw [if_neg (by simp)]),⟨Int.le_refl _,h⟩⟩) (fun i hi ih a=>by
  by_cases h4:(i:Int)<4000
  ·obtain ⟨d,e,k⟩:=ih (KQ .i64 (IntKind.i64.wrap ((IntKind.i64.wrap ((IntKind.i64.wrap (a*(131:Int)))+(IntKind.i64.wrap (x.getD (i:Int).toNat (0:Int)))))+(7:Int))) (1073741823:Int))
   refine ⟨d,Md ?_,k⟩
   unfold IV
   rw [if_pos (by simpa using hi),if_pos (by simpa using h4)]
   refine fE ?_
   unfold TL
   rw [if_pos (by omega),if_pos (by omega),AP (show i<9223372036854775807 by omega)]
   exact e
  ·refine ⟨(x,0,a),Md ?_,⟨Int.le_refl _,h⟩⟩
   unfold IV
   rw [if_pos (by simpa using hi),if_neg (by simpa using h4)]) 0 (by omega)
 obtain ⟨d,e,k⟩:=key (IntKind.i64.wrap ((14301:Int)+(x.length:Int)))
 exact ⟨d,nC e,k⟩
end Go.Proofs.YtokiohnjegbnpaaGreat.Core

namespace Go.Proofs.YtokiohnjegbnpaaGreat.Core
open Go
set_option linter.unusedVariables false
theorem SF {x:List AK}:∀ (m i:Nat),i+m=x.length→(Bz x i m=true↔(∀ a (ha:a<x.length),i≤a→Id x[a]=true∧(a≠0→Op.bytesLess (x.getD (a-1) mL).1.toList x[a].1.toList=true))∧x.length≤12)
 | 0,i,h=>by
  simp only [Bz,decide_eq_true_eq]
  refine ⟨fun h2=>⟨fun a ha hi=>by omega,by omega⟩,fun h2=>by have:=h2.2; omega⟩
 | m+1,i,h=>by
  have hi:i<x.length:=by omega
  rw [Bz,Bool.and_eq_true,Bool.and_eq_true,SF m (i+1) (by omega),AW hi]
  simp only [Bool.or_eq_true,decide_eq_true_eq]
  constructor
  ·rintro ⟨⟨h1,h2⟩,h3,h4⟩
   refine ⟨fun a ha hia=>?_,h4⟩
   by_cases e:a=i
   ·subst e
    exact ⟨h1,fun h0=>h2.resolve_left h0⟩
   ·exact h3 a ha (by omega)
  ·rintro ⟨h3,h4⟩
   refine ⟨⟨(h3 i hi (Nat.le_refl _)).1,?_⟩,fun a ha hia=>h3 a ha (by omega),h4⟩
   by_cases e:i=0
   ·exact .inl e
   ·exact .inr ((h3 i hi (Nat.le_refl _)).2 e)
theorem Cc {x:List AK}:Ao x=true↔(∀ b∈x,Id b=true)∧JS x∧x.length≤12:=by
 constructor
 ·intro h
  have h1:=(SF x.length 0 (by omega)).1 h
  refine ⟨fun b hb=>?_,YE h,h1.2⟩
  obtain ⟨a,ha,rfl⟩:=List.getElem_of_mem hb
  exact (h1.1 a ha (Nat.zero_le _)).1
 ·rintro ⟨h1,h2,h3⟩
  refine (SF x.length 0 (by omega)).2 ⟨fun a ha _=>⟨h1 _ (List.getElem_mem ha),fun h0=>?_⟩,h3⟩
  rw [AW (show a-1<x.length by omega)]
  exact h2 (a-1) a (by omega) ha (by omega)
theorem np {x:List AK}:JS x↔x.Pairwise fun b c=>Op.bytesLess b.1.toList c.1.toList=true:=by
 rw [List.pairwise_iff_getElem]
 rfl
theorem aZ {x:List AK} (a:AK) (h:JS x):JS (QV x a):=by
 rw [np] at h ⊢
 have lo:∀ b∈x.filter (SI a.1),Op.bytesLess b.1.toList a.1.toList=true:=fun b hb=>(List.mem_filter.1 hb).2
 have hg:∀ b∈x.filter (N_ a.1),Op.bytesLess a.1.toList b.1.toList=true:=fun b hb=>by
  have:=(List.mem_filter.1 hb).2
  rw [N_,Nb] at this
  simpa using this
 unfold QV
 rw [List.pairwise_append,List.pairwise_append]
 refine ⟨⟨h.filter _,List.pairwise_singleton _ _,fun b hb c hc=>?_⟩,h.filter _,fun b hb c hc=>?_⟩
 ·rw [List.mem_singleton] at hc
  subst hc
  exact lo b hb
 ·rcases List.mem_append.1 hb with hb | hb
  ·exact YC (lo b hb) (hg c hc)
  ·rw [List.mem_singleton] at hb
   subst hb
   exact hg c hc
theorem uD (x:List AK) (a:AK):(QV x a).length≤x.length+1:=by
 have h1:(x.filter (N_ a.1)).length≤(x.filter fun b=>!SI a.1 b).length:=by
  rw [← List.countP_eq_length_filter,← List.countP_eq_length_filter]
  refine List.countP_mono_left fun b _ hb=>?_
  simp only [N_,SI,Bool.not_eq_true',Bool.or_eq_false_iff] at hb ⊢
  exact hb.1
 have h2:(x.filter (SI a.1)).length+(x.filter fun b=>!SI a.1 b).length=x.length:=by
  rw [← List.countP_eq_length_filter,← List.countP_eq_length_filter]
  have:=List.length_eq_countP_add_countP (SI a.1) (l:=x)
  rw [this]
  congr 2
  funext b
  cases SI a.1 b<;>rfl
 simp only [QV,List.length_append,List.length_cons,List.length_nil]
 omega
theorem mN {x:List AK} {a:AK}:a∈QV x a:=by simp [QV]
theorem qK {x:List AK} {a b:AK} (h:b∈QV x a):b=a∨b∈x:=by
 simp only [QV,List.mem_append,List.mem_filter,List.mem_singleton] at h
 rcases h with (h | h) | h
 ·exact .inr h.1
 ·exact .inl h
 ·exact .inr h.1
theorem qw {x:List AK} {a b:AK} (h:b∈x) (hk:(b.1.toList==a.1.toList)=false):b∈QV x a:=by
 simp only [QV,List.mem_append,List.mem_filter,List.mem_singleton]
 cases q:SI a.1 b with
 | true=>exact .inl (.inl ⟨h,rfl⟩)
 | false =>
  refine .inr ⟨h,?_⟩
  unfold N_
  rw [show Op.bytesLess b.1.toList a.1.toList=false from q,hk]
  rfl
theorem Mt {x:List AK} (ho:JS x) {b:AK} (hb:b∈x):BA x b.1=b:=by
 obtain ⟨j,hj,rfl⟩:=List.getElem_of_mem hb
 have:x.find? (fun a=>a.1.toList==x[j].1.toList)=some x[j]:=by
  rw [List.find?_eq_some_iff_getElem]
  refine ⟨by simp,j,hj,rfl,fun i hi=>?_⟩
  have:=ho i j (by omega) hj hi
  cases q:(x[i].1.toList==x[j].1.toList) with
  | false=>rfl
  | true =>
   rw [beq_iff_eq] at q
   rw [q,Yc] at this
   cases this
 unfold BA
 rw [this]
 rfl
theorem sg {x:List AK} (ho:JS x) {a:AK} (h1:1≤a.2.2):(BA x a.1).2.2≥a.2.2↔WS x a=true:=by
 constructor
 ·intro h
  unfold BA at h
  cases q:x.find? (fun b=>b.1.toList==a.1.toList) with
  | none=>rw [q] at h; simp at h; omega
  | some b =>
   rw [q] at h
   exact List.any_eq_true.2 ⟨b,List.mem_of_find?_eq_some q,by simpa [List.find?_some q] using h⟩
 ·intro h
  obtain ⟨b,hb,hc⟩:=List.any_eq_true.1 h
  simp only [Bool.and_eq_true,beq_iff_eq,decide_eq_true_eq] at hc
  have e:BA x a.1=BA x b.1:=by unfold BA; rw [hc.1]
  rw [e,Mt ho hb]
  exact hc.2
theorem qL (a:AK):T8 (.pair .str (.pair .str (.int .i64))) a a=true:=by simp [T8]
theorem Ry (x:List ByteArray) (hx:0<x.length) (d:Nc) (h:WT d):∃ v d',K9 x d=some (v,d')∧WT d'∧v∈x:=by
 obtain ⟨v,d',e,k,v0,v1⟩:=Bc (x.length:Int) d h
 have v1:=v1 (by omega)
 have hv:v.toNat<x.length:=by omega
 exact ⟨_,_,lx (by unfold Xw; rw [e,Option.bind_some,if_pos v0,if_pos v1]),k,by rw [AW hv]; exact List.getElem_mem hv⟩
theorem Hz {x:List AK} {a:AK} (h:Ao x=true):Ao (Ah x a)=true:=by
 unfold Ah
 rw [if_pos h]
 split
 ·exact h
 ·split
  ·assumption
  ·exact h
theorem qM (x:List AK) (a:AK):(Ah x a).length≤x.length+1:=by
 have:=uD x a
 unfold Ah
 (repeat' split)<;>omega
end Go.Proofs.YtokiohnjegbnpaaGreat.Core

namespace Go.Proofs.YtokiohnjegbnpaaGreat.Core
open Go
set_option linter.unusedVariables false
end Go.Proofs.YtokiohnjegbnpaaGreat.Core

namespace Go.Proofs.YtokiohnjegbnpaaGreat.Core
open Go
set_option linter.unusedVariables false
theorem Cj (x:List Int) (n:Int) (h:x.length≤maxLen):Di x n=some (x.contains n):=o6 (by
 have hm:x.length≤9223372036854775807:=h
 unfold cR
 have:=GZ (n:=x.length) (P:=fun i=>JM x n (i:Int)=some ((x.drop i).contains n)) (Vv (by
  unfold Ny
  rw [if_neg (by simp),List.drop_length]
  rfl)) (fun i hi ih=>Vv (by
  unfold Ny
  simp only [show ((i:Int)<(x.length:Int)) from by omega,decide_true,if_true,show (0:Int)≤(i:Int) from by omega,Int.toNat_natCast,AW hi,AP (show i<9223372036854775807 by omega)]
  rw [BT hi,List.contains_cons,ih]
  by_cases e:x[i]=n
  ·subst e
   simp
  ·simp [e,Ne.symm e])) 0 (by omega)
 simpa using this)
theorem wr (x:List Int) (i:Nat) (hi:i<x.length) (h:x.length≤maxLen):∃ r,C7 x x[i]=some r∧((r=(i:Int))↔x[i]∉x.take i):=by
 have hm:x.length≤9223372036854775807:=h
 have key:=GZ (n:=i) (P:=fun k=>∃ r,CU x x[i] (x.length:Int) (k:Int)=some r∧(k:Int)≤r∧((r=(i:Int))↔∀ m (hm:m<i),k≤m→x[m]≠x[i])) ⟨i,By (by
  unfold BW
  simp only [show ((i:Int)<(x.length:Int)) from by omega,decide_true,if_true,show (0:Int)≤(i:Int) from by omega,Int.toNat_natCast,AW hi]
  simp),by omega,⟨fun _ m hm hk=>by omega,fun _=>rfl⟩⟩ (fun k hk ⟨r,hr,hkr,hiff⟩=>by
  have hk2:k<x.length:=by omega
  by_cases e:x[i]=x[k]
  ·refine ⟨k,By ?_,by omega,⟨fun he=>by omega,fun hall=>absurd e.symm (hall k hk (by omega))⟩⟩
   unfold BW
   simp only [show ((k:Int)<(x.length:Int)) from by omega,decide_true,if_true,show (0:Int)≤(k:Int) from by omega,Int.toNat_natCast,AW hk2]
   rw [if_pos (by simpa using e)]
  ·refine ⟨r,By ?_,by omega,hiff.trans ⟨fun hall m hm hkm=>?_,fun hall m hm hkm=>hall m hm (by omega)⟩⟩
   ·unfold BW
    simp only [show ((k:Int)<(x.length:Int)) from by omega,decide_true,if_true,show (0:Int)≤(k:Int) from by omega,Int.toNat_natCast,AW hk2,AP (show k<9223372036854775807 by omega)]
    rw [if_neg (by simpa using e)]
    exact hr
   ·rcases Nat.lt_or_ge k m with h1 | h1
    ·exact hall m hm h1
    ·have:m=k:=by omega
     subst this
     exact fun h=>e h.symm) 0 (by omega)
 obtain ⟨r,hr,_,hiff⟩:=key
 refine ⟨r,LX hr,hiff.trans ⟨fun hall hmem=>?_,fun hn m hm _ he=>hn ?_⟩⟩
 ·obtain ⟨m,hm,he⟩:=List.mem_take_iff_getElem.1 hmem
  exact hall m (by omega) (by omega) he
 ·exact List.mem_take_iff_getElem.2 ⟨m,by omega,he⟩
def G_ (v:List Int) (i:Nat):Nat→Bool
 | 0=>true
 | k+1=>(decide (1≤v.getD i 0)&&decide (v.getD i 0≤6))&&!(v.take i).contains (v.getD i 0)&&G_ v (i+1) k
def Ui (v:List Int):Bool:=(decide (1≤(v.length:Int))&&decide ((v.length:Int)≤4))&&G_ v 0 v.length
def Eo (x:List (List Int)) (n:Nat):List (List Int)→Bool
 | []=>decide (1≤(n:Int))&&decide ((n:Int)≤9)
 | v::r=>Ui v&&Eo x n r
theorem dV (v:List Int) (h:v.length≤maxLen):Pn v=some (Ui v):=ly (by
 have hm:v.length≤9223372036854775807:=h
 unfold Xx Ui
 simp only [As,Option.bind_some]
 have:=GZ (n:=v.length) (P:=fun i=>Ha v (i:Int)=some (G_ v i (v.length-i))) (Rg (by
  unfold LY
  rw [if_neg (by simp),Nat.sub_self]
  rfl)) (fun i hi ih=>Rg (by
  unfold LY
  have e:v.length-i=(v.length-(i+1))+1:=by omega
  rw [e,G_]
  simp only [show ((i:Int)<(v.length:Int)) from by omega,show ((i:Int)≤(v.length:Int)) from by omega,decide_true,if_true,show (0:Int)≤(i:Int) from by omega,Int.toNat_natCast,As,Option.bind_some,AP (show i<9223372036854775807 by omega),ih,Int.toNat_zero,List.drop_zero,Int.le_refl,
   Cj (v.take i) _ (by rw [List.length_take]; omega)]
  generalize (decide (1≤v.getD i 0)&&decide (v.getD i 0≤6))=a
  generalize (v.take i).contains (v.getD i 0)=b
  cases a<;>cases b<;>simp)) 0 (by omega)
 simp only [Int.ofNat_zero,Nat.sub_zero] at this
 generalize (decide (1≤(v.length:Int))&&decide ((v.length:Int)≤4))=a
 cases a
 ·simp
 ·simpa using this)
theorem dW (x:List (List Int)) (h:x.length≤maxLen) (ho:∀ a∈x,a.length≤maxLen):Dv x=some (Eo x x.length x):=lq (by
 have hm:x.length≤9223372036854775807:=h
 unfold Xp
 exact GZ (n:=x.length) (P:=fun i=>HZ x (i:Int)=some (Eo x x.length (x.drop i))) (Rb (by
  unfold LV
  rw [if_neg (by simp),List.drop_length,As]
  rfl)) (fun i hi ih=>Rb (by
  unfold LV
  simp only [show ((i:Int)<(x.length:Int)) from by omega,decide_true,if_true,show (0:Int)≤(i:Int) from by omega,Int.toNat_natCast,AW hi,dV x[i] (ho _ (List.getElem_mem _)),Option.bind_some,AP (show i<9223372036854775807 by omega),ih]
  rw [BT hi,Eo]
  generalize Ui x[i]=a
  cases a<;>simp)) 0 (by omega))
theorem dX (x:List (List Int)) (h:x.length≤maxLen) (ho:∀ a∈x,a.length≤maxLen):Du x=some (Eo x x.length x):=lh (by
 have hm:x.length≤9223372036854775807:=h
 unfold Xk
 exact GZ (n:=x.length) (P:=fun i=>HY x x (x.length:Int) (i:Int)=some (Eo x x.length (x.drop i))) (RZ (by
  unfold LU
  rw [if_neg (by simp),List.drop_length,An]
  rfl)) (fun i hi ih=>RZ (by
  unfold LU
  simp only [show ((i:Int)<(x.length:Int)) from by omega,decide_true,if_true,show (0:Int)≤(i:Int) from by omega,Int.toNat_natCast,AW hi]
  rw [BT hi,Eo]
  have hv:=ho x[i] (List.getElem_mem _)
  generalize x[i]=v at hv
  have hvm:v.length≤9223372036854775807:=hv
  have wj:LR x v x (x.length:Int) (i:Int)=some ((decide (1≤(v.length:Int))&&decide ((v.length:Int)≤4))&&Eo x x.length (x.drop (i+1))):=cc (by
   unfold RX
   rw [An,Option.bind_some,AP (show i<9223372036854775807 by omega),ih]
   generalize (decide (1≤(v.length:Int))&&decide ((v.length:Int)≤4))=a
   cases a<;>simp)
  have:=GZ (n:=v.length) (P:=fun j=>HX x v x (x.length:Int) (i:Int) v (v.length:Int) (j:Int)=some (G_ v j (v.length-j)&&((decide (1≤(v.length:Int))&&decide ((v.length:Int)≤4))&&Eo x x.length (x.drop (i+1))))) (RY (by
   unfold LT
   rw [if_neg (by simp),Nat.sub_self,wj]
   rfl)) (fun j hj ihj=>RY (by
   unfold LT
   have e:v.length-j=(v.length-(j+1))+1:=by omega
   obtain ⟨r,hr,hiff⟩:=wr v j hj hv
   rw [e,G_]
   simp only [show ((j:Int)<(v.length:Int)) from by omega,decide_true,if_true,show (0:Int)≤(j:Int) from by omega,Int.toNat_natCast,Ga,Option.bind_some,AP (show j<9223372036854775807 by omega),ihj,AW hj,hr]
   have hb:(r != (j:Int))=(v.take j).contains v[j]:=by
    by_cases e2:r=(j:Int)
    ·have:=hiff.1 e2
     simp [e2,this]
    ·have:v[j]∈v.take j:=Classical.byContradiction fun hn=>e2 (hiff.2 hn)
     simp [e2,this]
   rw [hb]
   generalize (decide (1≤v[j])&&decide (v[j]≤6))=a
   generalize (v.take j).contains v[j]=b
   cases a<;>cases b<;>simp)) 0 (by omega)
  simp only [Int.ofNat_zero,Nat.sub_zero] at this
  unfold Ui
  refine Eq.trans this ?_
  congr 1
  generalize G_ v 0 v.length=a
  generalize (decide (1≤(v.length:Int))&&decide ((v.length:Int)≤4))=b
  cases a<;>cases b<;>simp)) 0 (by omega))
end Go.Proofs.YtokiohnjegbnpaaGreat.Core

namespace Go.Proofs.YtokiohnjegbnpaaGreat.Core
open Go
set_option linter.unusedVariables false
abbrev rT:Type:=Int×Int×Int×(ByteArray×ByteArray×Int)×List Int
abbrev Z:Type:=Int×Int×Bool×Bool×Bool×Bool×List Int×List (ByteArray×ByteArray×Int)×Int×rT
def E6 (v:List Int) (i:Nat):Nat→Bool
 | 0=>true
 | k+1=>(decide (1≤v.getD i 0)&&decide (v.getD i 0≤6))&&(decide (i=0)||decide (v.getD (i-1) 0<v.getD i 0))&&E6 v (i+1) k
theorem Tv (x:List Int) (h:x.length≤maxLen):C3 x=some (E6 x 0 x.length):=nL (by
 have hm:x.length≤9223372036854775807:=h
 unfold ZW
 have:=GZ (n:=x.length) (P:=fun i=>GY x (i:Int)=some (E6 x i (x.length-i))) (Tp (by
  unfold Ms
  rw [if_neg (by simp),Nat.sub_self]
  rfl)) (fun i hi ih=>Tp (by
  unfold Ms
  have e:x.length-i=(x.length-(i+1))+1:=by omega
  simp only [show ((i:Int)<(x.length:Int)) from by omega,decide_true,if_true,show (0:Int)≤(i:Int) from by omega,Int.toNat_natCast,AP (show i<9223372036854775807 by omega),ih,As,Option.bind_some]
  rw [e,E6]
  generalize (decide (1≤x.getD i 0)&&decide (x.getD i 0≤6))=a
  cases a
  ·simp
  by_cases h0:0<i
  ·rw [Yb (by omega) h0]
   simp only [Int.toNat_natCast,show ((0:Int)≤((i-1:Nat):Int)) from by omega,show (((i-1:Nat):Int)<(x.length:Int)) from by omega,if_true]
   rcases Int.lt_or_le (x.getD (i-1) 0) (x.getD i 0) with hb | hb
   ·have d1:decide (x.getD (i-1) 0≥x.getD i 0)=false:=decide_eq_false (by omega)
    have d2:decide (x.getD (i-1) 0<x.getD i 0)=true:=decide_eq_true hb
    simp only [d1,d2]
    simp [h0,show i≠0 by omega]
   ·have d1:decide (x.getD (i-1) 0≥x.getD i 0)=true:=decide_eq_true (by omega)
    have d2:decide (x.getD (i-1) 0<x.getD i 0)=false:=decide_eq_false (by omega)
    simp only [d1,d2]
    simp [h0,show i≠0 by omega]
  ·have:i=0:=by omega
   subst this
   simp)) 0 (by omega)
 simpa using this)
theorem MK (x:List Int) (h:x.length≤maxLen):Gp x 1 6=some (E6 x 0 x.length):=aI (by
 have hm:x.length≤9223372036854775807:=h
 unfold QA
 have:=GZ (n:=x.length) (P:=fun i=>DQ x 1 6 x (x.length:Int) (i:Int)=some (E6 x i (x.length-i))) (L9 (by
  unfold HF
  rw [if_neg (by simp),Nat.sub_self]
  rfl)) (fun i hi ih=>L9 (by
  unfold HF
  have e:x.length-i=(x.length-(i+1))+1:=by omega
  simp only [show ((i:Int)<(x.length:Int)) from by omega,decide_true,if_true,show (0:Int)≤(i:Int) from by omega,Int.toNat_natCast,AP (show i<9223372036854775807 by omega),ih,An,Option.bind_some]
  rw [e,E6]
  generalize (decide (1≤x.getD i 0)&&decide (x.getD i 0≤6))=a
  cases a
  ·simp
  by_cases h0:0<i
  ·rw [Yb (by omega) h0]
   simp only [Int.toNat_natCast,show ((0:Int)≤((i-1:Nat):Int)) from by omega,show (((i-1:Nat):Int)<(x.length:Int)) from by omega,if_true]
   rcases Int.lt_or_le (x.getD (i-1) 0) (x.getD i 0) with hb | hb
   ·have d1:decide (x.getD i 0≤x.getD (i-1) 0)=false:=decide_eq_false (by omega)
    have d2:decide (x.getD (i-1) 0<x.getD i 0)=true:=decide_eq_true hb
    simp only [d1,d2]
    simp [h0,show i≠0 by omega]
   ·have d1:decide (x.getD i 0≤x.getD (i-1) 0)=true:=decide_eq_true (by omega)
    have d2:decide (x.getD (i-1) 0<x.getD i 0)=false:=decide_eq_false (by omega)
    simp only [d1,d2]
    simp [h0,show i≠0 by omega]
  ·have:i=0:=by omega
   subst this
   simp)) 0 (by omega)
 simpa using this)
def Iv (t:rT):Bool:=(t.1==0)&&(t.2.1==0)&&(t.2.2.1==0)&&T8 (.pair .str (.pair .str (.int .i64))) t.2.2.2.1 (ByteArray.empty,ByteArray.empty,(0:Int))&&((t.2.2.2.2.length:Int)==0)
def E7 (t:rT) (serves:Bool):Bool:=(t.1==1||t.1==2)&&serves&&(decide (0≤t.2.1)&&decide (t.2.1≤1000))&&(decide (1≤t.2.2.1)&&decide (t.2.2.1≤900))
def Tw (x:Z):Bool :=
 (decide (1≤x.1)&&decide (x.1≤6))&&(decide (1≤x.2.1)&&decide (x.2.1≤9))&&(!x.2.2.2.2.2.1||(x.2.2.2.1&&x.2.2.2.2.1&&!decide ((x.2.2.2.2.2.2.1.length:Int)>0)))&&(!x.2.2.1||(!x.2.2.2.1&&!x.2.2.2.2.1)) &&
  E6 x.2.2.2.2.2.2.1 0 x.2.2.2.2.2.2.1.length&&E6 x.2.2.2.2.2.2.2.2.2.2.2.2.2 0 x.2.2.2.2.2.2.2.2.2.2.2.2.2.length&&Bz x.2.2.2.2.2.2.2.1 0 x.2.2.2.2.2.2.2.1.length&&(decide (0≤x.2.2.2.2.2.2.2.2.1)&&decide (x.2.2.2.2.2.2.2.2.1≤900)) &&
  (Iv x.2.2.2.2.2.2.2.2.2||E7 x.2.2.2.2.2.2.2.2.2 x.2.2.2.2.2.1)
theorem Y6 (t:rT):MW t=some (Iv t):=gG (by
 unfold Tq Iv
 generalize (t.1==0)=a
 generalize (t.2.1==0)=b
 generalize (t.2.2.1==0)=c
 generalize T8 (.pair .str (.pair .str (.int .i64))) t.2.2.2.1 (ByteArray.empty,ByteArray.empty,(0:Int))=d
 cases a<;>cases b<;>cases c<;>cases d<;>simp)
theorem aa (x:Z) (h1:x.2.2.2.2.2.2.1.length≤maxLen) (h2:x.2.2.2.2.2.2.2.1.length≤maxLen) (h3:x.2.2.2.2.2.2.2.2.2.2.2.2.2.length≤maxLen):FP x=some (Tw x):=jL (by
 have w0:∀ b,Db b x=some (Iv x.2.2.2.2.2.2.2.2.2||E7 x.2.2.2.2.2.2.2.2.2 x.2.2.2.2.2.1):=fun b=>aV (by
  unfold QJ E7
  simp only [As,Y6,Option.bind_some]
  generalize Iv x.2.2.2.2.2.2.2.2.2=a
  generalize (x.2.2.2.2.2.2.2.2.2.1==1)=b
  generalize (x.2.2.2.2.2.2.2.2.2.1==2)=c
  generalize x.2.2.2.2.2.1=d
  generalize (decide (0≤x.2.2.2.2.2.2.2.2.2.2.1)&&decide (x.2.2.2.2.2.2.2.2.2.2.1≤1000))=e
  generalize (decide (1≤x.2.2.2.2.2.2.2.2.2.2.2.1)&&decide (x.2.2.2.2.2.2.2.2.2.2.2.1≤900))=f
  cases a<;>cases b<;>cases c<;>cases d<;>cases e<;>simp)
 unfold WL Tw
 simp only [As,Tv _ h1,Tv _ h3,Hh _ h2,Option.bind_some,w0]
 generalize (decide (1≤x.1)&&decide (x.1≤6))=a
 generalize (decide (1≤x.2.1)&&decide (x.2.1≤9))=b
 generalize decide ((x.2.2.2.2.2.2.1.length:Int)>0)=c
 generalize E6 x.2.2.2.2.2.2.1 0 x.2.2.2.2.2.2.1.length=d
 generalize E6 x.2.2.2.2.2.2.2.2.2.2.2.2.2 0 x.2.2.2.2.2.2.2.2.2.2.2.2.2.length=e
 generalize Bz x.2.2.2.2.2.2.2.1 0 x.2.2.2.2.2.2.2.1.length=f
 generalize (decide (0≤x.2.2.2.2.2.2.2.2.1)&&decide (x.2.2.2.2.2.2.2.2.1≤900))=g
 generalize (Iv x.2.2.2.2.2.2.2.2.2||E7 x.2.2.2.2.2.2.2.2.2 x.2.2.2.2.2.1)=t
 generalize x.2.2.2.2.2.1=s
 generalize x.2.2.2.2.1=l
 generalize x.2.2.2.1=m
 generalize x.2.2.1=n
 cases a
 ·simp
 cases b
 ·simp
 cases d<;>cases e<;>cases f<;>cases g<;>cases s<;>cases n<;>cases m<;>cases l<;>cases c<;>simp)
theorem Tx (x:Z) (h3:x.2.2.2.2.2.2.2.2.2.2.2.2.2.length≤maxLen):Cw x=some (E6 x.2.2.2.2.2.2.2.2.2.2.2.2.2 0 x.2.2.2.2.2.2.2.2.2.2.2.2.2.length&&(Iv x.2.2.2.2.2.2.2.2.2||E7 x.2.2.2.2.2.2.2.2.2 x.2.2.2.2.2.1),x):=Xh (by
 unfold NO Iv E7
 simp only [An,MK _ h3,Option.bind_some]
 by_cases hk:x.2.2.2.2.2.2.2.2.2.1=0
 ·rw [if_pos (by simp [hk])]
  have k1:(x.2.2.2.2.2.2.2.2.2.1==1)=false:=by simp [hk]
  have k2:(x.2.2.2.2.2.2.2.2.2.1==2)=false:=by simp [hk]
  have k0:(x.2.2.2.2.2.2.2.2.2.1==0)=true:=by simp [hk]
  rw [k1,k2,k0]
  have hl:((x.2.2.2.2.2.2.2.2.2.2.2.2.2.length:Int)==0)=true→E6 x.2.2.2.2.2.2.2.2.2.2.2.2.2 0 x.2.2.2.2.2.2.2.2.2.2.2.2.2.length=true:=by
   intro h
   have:x.2.2.2.2.2.2.2.2.2.2.2.2.2.length=0:=by simpa using h
   rw [this]
   rfl
  generalize ((x.2.2.2.2.2.2.2.2.2.2.2.2.2.length:Int)==0)=l at hl
  generalize E6 x.2.2.2.2.2.2.2.2.2.2.2.2.2 0 x.2.2.2.2.2.2.2.2.2.2.2.2.2.length=u at hl
  generalize (x.2.2.2.2.2.2.2.2.2.2.1==0)=b
  generalize (x.2.2.2.2.2.2.2.2.2.2.2.1==0)=c
  generalize T8 (.pair .str (.pair .str (.int .i64))) x.2.2.2.2.2.2.2.2.2.2.2.2.1 (ByteArray.empty,ByteArray.empty,(0:Int))=d
  cases b<;>cases c<;>cases d<;>cases l<;>cases u<;>simp at hl ⊢
 ·rw [if_neg (by simp [hk])]
  have k0:(x.2.2.2.2.2.2.2.2.2.1==0)=false:=by simp [hk]
  have k12:(decide (1≤x.2.2.2.2.2.2.2.2.2.1)&&decide (x.2.2.2.2.2.2.2.2.2.1≤2))=(x.2.2.2.2.2.2.2.2.2.1==1||x.2.2.2.2.2.2.2.2.2.1==2):=by
   rw [Bool.eq_iff_iff]
   simp
   omega
  rw [k12,k0]
  generalize (x.2.2.2.2.2.2.2.2.2.1==1||x.2.2.2.2.2.2.2.2.2.1==2)=k
  generalize E6 x.2.2.2.2.2.2.2.2.2.2.2.2.2 0 x.2.2.2.2.2.2.2.2.2.2.2.2.2.length=u
  generalize (decide (0≤x.2.2.2.2.2.2.2.2.2.2.1)&&decide (x.2.2.2.2.2.2.2.2.2.2.1≤1000))=e
  generalize (decide (1≤x.2.2.2.2.2.2.2.2.2.2.2.1)&&decide (x.2.2.2.2.2.2.2.2.2.2.2.1≤900))=f
  cases k<;>cases u<;>cases e<;>cases f<;>rcases Bool.eq_false_or_eq_true x.2.2.2.2.2.1 with hs | hs<;>simp [hs])
theorem ae (x:Z) (h1:x.2.2.2.2.2.2.1.length≤maxLen) (h2:x.2.2.2.2.2.2.2.1.length≤maxLen) (h3:x.2.2.2.2.2.2.2.2.2.2.2.2.2.length≤maxLen):FO x=some (Tw x):=iZ (by
 have w0:∀ b,Jm b x=some ((!x.2.2.2.2.2.1||(x.2.2.2.1&&x.2.2.2.2.1&&!decide ((x.2.2.2.2.2.2.1.length:Int)>0)))&&(!x.2.2.1||(!x.2.2.2.1&&!x.2.2.2.2.1))&&(E6 x.2.2.2.2.2.2.2.2.2.2.2.2.2 0 x.2.2.2.2.2.2.2.2.2.2.2.2.2.length&&(Iv x.2.2.2.2.2.2.2.2.2||E7 x.2.2.2.2.2.2.2.2.2 x.2.2.2.2.2.1))):=fun b=>Z9 (by
  unfold P6
  simp only [Tx x h3,Option.bind_some]
  generalize (E6 x.2.2.2.2.2.2.2.2.2.2.2.2.2 0 x.2.2.2.2.2.2.2.2.2.2.2.2.2.length&&(Iv x.2.2.2.2.2.2.2.2.2||E7 x.2.2.2.2.2.2.2.2.2 x.2.2.2.2.2.1))=t
  generalize decide ((x.2.2.2.2.2.2.1.length:Int)>0)=c
  generalize x.2.2.2.2.2.1=s
  generalize x.2.2.2.2.1=l
  generalize x.2.2.2.1=m
  generalize x.2.2.1=n
  cases s<;>cases n<;>cases m<;>cases l<;>cases c<;>simp)
 unfold Vn Tw
 simp only [An,Ga,MK _ h1,Lj _ h2 Nb,Option.bind_some,w0]
 generalize (decide (1≤x.1)&&decide (x.1≤6))=a
 generalize (decide (1≤x.2.1)&&decide (x.2.1≤9))=b
 generalize E6 x.2.2.2.2.2.2.1 0 x.2.2.2.2.2.2.1.length=d
 generalize E6 x.2.2.2.2.2.2.2.2.2.2.2.2.2 0 x.2.2.2.2.2.2.2.2.2.2.2.2.2.length=e
 generalize Bz x.2.2.2.2.2.2.2.1 0 x.2.2.2.2.2.2.2.1.length=f
 generalize (decide (0≤x.2.2.2.2.2.2.2.2.1)&&decide (x.2.2.2.2.2.2.2.2.1≤900))=g
 generalize (Iv x.2.2.2.2.2.2.2.2.2||E7 x.2.2.2.2.2.2.2.2.2 x.2.2.2.2.2.1)=t
 generalize (!x.2.2.2.2.2.1||(x.2.2.2.1&&x.2.2.2.2.1&&!decide ((x.2.2.2.2.2.2.1.length:Int)>0)))=p
 generalize (!x.2.2.1||(!x.2.2.2.1&&!x.2.2.2.2.1))=q
 cases a
 ·simp
 cases b
 ·simp
 cases d<;>cases e<;>cases f<;>cases g<;>cases p<;>cases q<;>simp)
end Go.Proofs.YtokiohnjegbnpaaGreat.Core

namespace Go.Proofs.YtokiohnjegbnpaaGreat.Core
open Go
set_option linter.unusedVariables false
abbrev BJ:Type:=Int×Int×Int×Int×Int×List (ByteArray×ByteArray×Int)
def Ty (x:BJ):Bool :=
 (decide (1≤x.1)&&decide (x.1≤8))&&(decide (1≤x.2.1)&&decide (x.2.1≤6))&&(decide (1≤x.2.2.1)&&decide (x.2.2.1≤6))&&(decide (1≤x.2.2.2.1)&&decide (x.2.2.2.1≤9))&&(decide (0≤x.2.2.2.2.1)&&decide (x.2.2.2.2.1≤1000000000))&&Bz x.2.2.2.2.2 0 x.2.2.2.2.2.length &&
  (if x.1=2∨x.1=3 then true else if x.1=5 then ((x.2.2.2.2.2.length:Int)==1) else ((x.2.2.2.2.2.length:Int)==0))
theorem jb (x:BJ) (h:x.2.2.2.2.2.length≤maxLen):UZ x=some (Ty x):=pC (by
 have w1:∀ a b,JR a b x=some (if b=true then true else if a=5 then ((x.2.2.2.2.2.length:Int)==1) else ((x.2.2.2.2.2.length:Int)==0)):=fun a b=>jQ (by
  unfold WM
  by_cases h1:b=true<;>by_cases h2:a=5<;>simp [h1,h2])
 have w0:∀ b,N8 b x=some (if x.1=2∨x.1=3 then true else if x.1=5 then ((x.2.2.2.2.2.length:Int)==1) else ((x.2.2.2.2.2.length:Int)==0)):=fun b=>jR (by
  unfold WN
  by_cases h1:x.1=2<;>by_cases h2:x.1=3<;>simp [h1,h2,w1])
 unfold dL Ty
 simp only [As,Hh _ h,Option.bind_some,w0]
 generalize (decide (1≤x.1)&&decide (x.1≤8))=a
 generalize (decide (1≤x.2.1)&&decide (x.2.1≤6))=b
 generalize (decide (1≤x.2.2.1)&&decide (x.2.2.1≤6))=c
 generalize (decide (1≤x.2.2.2.1)&&decide (x.2.2.2.1≤9))=d
 generalize (decide (0≤x.2.2.2.2.1)&&decide (x.2.2.2.2.1≤1000000000))=e
 generalize Bz x.2.2.2.2.2 0 x.2.2.2.2.2.length=f
 cases a<;>cases b<;>cases c<;>cases d<;>cases e<;>cases f<;>simp)
theorem jc (x:BJ) (h:x.2.2.2.2.2.length≤maxLen):UY x=some (Ty x):=pB (by
 have w1:∀ a b,JQ a b x=some (if b=true then true else if a=5 then ((x.2.2.2.2.2.length:Int)==1) else ((x.2.2.2.2.2.length:Int)==0)):=fun a b=>jH (by
  unfold WJ
  by_cases h1:b=true<;>by_cases h2:a=5<;>simp [h1,h2])
 have w0:∀ b,N7 b x=some (if x.1=2∨x.1=3 then true else if x.1=5 then ((x.2.2.2.2.2.length:Int)==1) else ((x.2.2.2.2.2.length:Int)==0)):=fun b=>jI (by
  unfold WK
  by_cases h1:x.1=2<;>by_cases h2:x.1=3<;>simp [h1,h2,w1])
 unfold dD Ty
 simp only [An,Ga,Lj _ h Nb,Option.bind_some,w0]
 generalize (decide (1≤x.1)&&decide (x.1≤8))=a
 generalize (decide (1≤x.2.1)&&decide (x.2.1≤6))=b
 generalize (decide (1≤x.2.2.1)&&decide (x.2.2.1≤6))=c
 generalize (decide (1≤x.2.2.2.1)&&decide (x.2.2.2.1≤9))=d
 generalize (decide (0≤x.2.2.2.2.1)&&decide (x.2.2.2.2.1≤1000000000))=e
 generalize Bz x.2.2.2.2.2 0 x.2.2.2.2.2.length=f
 cases a<;>cases b<;>cases c<;>cases d<;>cases e<;>cases f<;>simp)
end Go.Proofs.YtokiohnjegbnpaaGreat.Core

namespace Go.Proofs.YtokiohnjegbnpaaGreat.Core
open Go
set_option linter.unusedVariables false
set_option linter.unusedSimpArgs false
abbrev Cm:Type:=Int×Int×Int×AK
def wu (v:List Int):Prop:=(∀ a∈v,1≤a∧a≤6)∧v.Pairwise (· < ·)
theorem mO {v:List Int}:∀ (m i:Nat),i+m=v.length→(E6 v i m=true↔∀ a (ha:a<v.length),i≤a→(1≤v[a]∧v[a]≤6)∧(a≠0→v.getD (a-1) 0<v[a]))
 | 0,i,h=>by
  simp only [E6,true_iff]
  intro a ha hi
  omega
 | m+1,i,h=>by
  have hi:i<v.length:=by omega
  rw [E6,Bool.and_eq_true,Bool.and_eq_true,mO m (i+1) (by omega),AW hi]
  simp only [Bool.or_eq_true,Bool.and_eq_true,decide_eq_true_eq]
  constructor
  ·rintro ⟨⟨h1,h2⟩,h3⟩ a ha hia
   by_cases e:a=i
   ·subst e
    exact ⟨h1,fun h0=>h2.resolve_left h0⟩
   ·exact h3 a ha (by omega)
  ·intro h3
   refine ⟨⟨(h3 i hi (Nat.le_refl _)).1,?_⟩,fun a ha hia=>h3 a ha (by omega)⟩
   by_cases e:i=0
   ·exact .inl e
   ·exact .inr ((h3 i hi (Nat.le_refl _)).2 e)
theorem vf {v:List Int}:E6 v 0 v.length=true↔wu v:=by
 rw [mO _ _ (by omega)]
 constructor
 ·intro h
  refine ⟨fun a ha=>?_,?_⟩
  ·obtain ⟨i,hi,rfl⟩:=List.getElem_of_mem ha
   exact (h i hi (Nat.zero_le _)).1
  ·have st:∀ d a (ha:a+d+1<v.length),v.getD a 0<v.getD (a+d+1) 0:=by
    intro d
    induction d with
    | zero =>
     intro a ha
     have:=(h (a+1) (by omega) (Nat.zero_le _)).2 (by omega)
     rw [AW (show a+0+1<v.length from ha)]
     simpa using this
    | succ d ih =>
     intro a ha
     have h1:=ih a (by omega)
     have h2:=(h (a+(d+1)+1) ha (Nat.zero_le _)).2 (by omega)
     rw [AW ha]
     simp only [Nat.add_sub_cancel] at h2
     have h3:v.getD (a+d+1) 0<v[a+(d+1)+1]:=h2
     omega
   rw [List.pairwise_iff_getElem]
   intro i j hi hj hij
   have:=st (j-i-1) i (by omega)
   rw [show i+(j-i-1)+1=j by omega,AW hi,AW hj] at this
   exact this
 ·rintro ⟨h1,h2⟩ a ha _
  refine ⟨h1 _ (List.getElem_mem ha),fun h0=>?_⟩
  rw [AW (show a-1<v.length by omega)]
  exact (List.pairwise_iff_getElem.1 h2) (a-1) a (by omega) ha (by omega)
theorem rU {v:List Int} (h:wu v):v.length≤6:=by
 have hs:v.Sublist [1,2,3,4,5,6]:=by
  have key:∀ (l:List Int) (n:Nat),n≤6→(∀ a∈l,(6-n:Int)<a∧a≤6)→l.Pairwise (· < ·)→l.length≤n:=by
   intro l
   induction l with
   | nil=>intro n _ _ _; simp
   | cons a l ih =>
    intro n hn hb hp
    have ha:=hb a (by simp)
    have hp2:=List.pairwise_cons.1 hp
    have:=ih ((6-a).toNat) (by omega) (fun b hb'=>⟨by have:=hp2.1 b hb'; omega,(hb b (by simp [hb'])).2⟩) hp2.2
    simp only [List.length_cons]
    omega
  have hl:=key v 6 (by omega) (fun a ha=>by have:=h.1 a ha; omega) h.2
  exact List.Sublist.trans (List.Sublist.refl v) (by
   have:∀ (l:List Int) (s:List Int),s.Pairwise (· < ·)→l.Pairwise (· < ·)→(∀ a∈l,a∈s)→l.Sublist s:=by
    intro l s
    induction s generalizing l with
    | nil =>
     intro _ _ hm
     cases l with
     | nil=>exact List.Sublist.slnil
     | cons a l=>exact absurd (hm a (by simp)) (by simp)
    | cons b s ih =>
     intro hs hl hm
     cases l with
     | nil=>exact List.nil_sublist _
     | cons a l =>
      have hs2:=List.pairwise_cons.1 hs
      have hl2:=List.pairwise_cons.1 hl
      rcases List.mem_cons.1 (hm a (by simp)) with e | e
      ·subst e
       refine (ih l hs2.2 hl2.2 fun c hc=>?_).cons_cons _
       rcases List.mem_cons.1 (hm c (by simp [hc])) with e | e
       ·have:=hl2.1 c hc; omega
       ·exact e
      ·refine (ih (a::l) hs2.2 hl fun c hc=>?_).cons _
       rcases List.mem_cons.1 (hm c hc) with e2 | e2
       ·have h1:=hs2.1 a e
        rcases List.mem_cons.1 hc with e3 | e3
        ·omega
        ·have:=hl2.1 c e3; omega
       ·exact e2
   refine this v [1,2,3,4,5,6] (by decide) h.2 fun a ha=>?_
   have:=h.1 a ha
   have h5:a=1∨a=2∨a=3∨a=4∨a=5∨a=6:=by omega
   rcases h5 with h | h | h | h | h | h<;>simp [h])
 simpa using hs.length_le
structure Ie (m:Z):Prop where
 id:1≤m.1∧m.1≤6
 ep:1≤m.2.1∧m.2.1≤9
 serves:m.2.2.2.2.2.1=true→m.2.2.2.1=true∧m.2.2.2.2.1=true∧m.2.2.2.2.2.2.1=[]
 fell:m.2.2.1=true→m.2.2.2.1=false∧m.2.2.2.2.1=false
 waits:wu m.2.2.2.2.2.2.1
 left:wu m.2.2.2.2.2.2.2.2.2.2.2.2.2
 items:Ao m.2.2.2.2.2.2.2.1=true
 count:0≤m.2.2.2.2.2.2.2.2.1∧m.2.2.2.2.2.2.2.2.1≤900
 task:Iv m.2.2.2.2.2.2.2.2.2=true∨E7 m.2.2.2.2.2.2.2.2.2 m.2.2.2.2.2.1=true
theorem rV {m:Z}:Tw m=true↔Ie m:=by
 unfold Tw
 simp only [Bool.and_eq_true,Bool.or_eq_true,Bool.not_eq_true',decide_eq_true_eq,vf,decide_eq_false_iff_not]
 constructor
 ·rintro ⟨⟨⟨⟨⟨⟨⟨⟨h1,h2⟩,h3⟩,h4⟩,h5⟩,h6⟩,h7⟩,h8⟩,h9⟩
  refine ⟨h1,h2,fun h=>?_,fun h=>?_,h5,h6,h7,h8,h9⟩
  ·rcases h3 with h3 | ⟨⟨a,b⟩,c⟩
   ·rw [h] at h3; cases h3
   ·exact ⟨a,b,List.length_eq_zero_iff.1 (by omega)⟩
  ·rcases h4 with h4 | h4
   ·rw [h] at h4; cases h4
   ·exact h4
 ·rintro ⟨h1,h2,h3,h4,h5,h6,h7,h8,h9⟩
  refine ⟨⟨⟨⟨⟨⟨⟨⟨h1,h2⟩,?_⟩,?_⟩,h5⟩,h6⟩,h7⟩,h8⟩,h9⟩
  ·cases hs:m.2.2.2.2.2.1 with
   | false=>exact .inl rfl
   | true =>
    obtain ⟨a,b,c⟩:=h3 hs
    exact .inr ⟨⟨a,b⟩,by rw [c]; simp⟩
  ·cases hs:m.2.2.1 with
   | false=>exact .inl rfl
   | true=>exact .inr (h4 hs)
theorem KH {x:List AK} (h:Ao x=true):x.length≤12:=(Cc.1 h).2.2
theorem Ie.lens {m:Z} (h:Ie m):m.2.2.2.2.2.2.1.length≤6∧m.2.2.2.2.2.2.2.1.length≤12∧m.2.2.2.2.2.2.2.2.2.2.2.2.2.length≤6:=⟨rU h.waits,KH h.items,rU h.left⟩
theorem dY (m:Z) (h1:m.2.2.2.2.2.2.1.length≤68719476736) (h2:m.2.2.2.2.2.2.2.1.length≤68719476736) (h3:m.2.2.2.2.2.2.2.2.2.2.2.2.2.length≤68719476736):C6 m=some m:=lr (by
 unfold Xs
 rw [if_pos (by simpa using h1),if_pos (by simpa using h2),if_pos (by simpa using h3)]
 rfl)
theorem Ie.copy {m:Z} (h:Ie m):C6 m=some m:=by
 obtain ⟨h1,h2,h3⟩:=h.lens
 exact dY m (by omega) (by omega) (by omega)
def DD (view:List Int) (id:Int):List Int:=[1,2,3,4,5,6].filter fun v=>v != id&&view.contains v
theorem Uj (view:List Int) (id:Int):wu (DD view id):=by
 refine ⟨fun a ha=>?_,List.Pairwise.filter _ (by decide)⟩
 have:=(List.mem_filter.1 ha).1
 simp at this
 omega
theorem Iw (view:List Int) (id:Int) (h:view.length≤maxLen):GP view id=some (DD view id):=fk (by
 unfold Td
 have step:∀ (v:Nat) (acc r:List Int),v≤6→1≤v→acc.length≤6→CB view id ((v+1:Nat):Int) (if ((v:Int) != id&&view.contains (v:Int))=true then acc++[(v:Int)] else acc)=some r→CB view id (v:Int) acc=some r:=by
  intro v acc r hv hv1 ha hr
  refine Og ?_
  unfold It
  rw [if_pos (by simp; omega),AP (show v<9223372036854775807 by omega),Cj view _ h]
  by_cases h1:((v:Int) != id)=true
  ·rw [if_pos h1,Option.bind_some]
   by_cases h2:view.contains (v:Int)=true
   ·rw [if_pos h2,if_pos (by simp; omega)]
    rw [if_pos (by rw [h1,h2]; rfl)] at hr
    exact hr
   ·rw [if_neg h2]
    rw [if_neg (fun hc=>h2 (by simp only [Bool.and_eq_true] at hc; exact hc.2))] at hr
    exact hr
  ·rw [if_neg h1]
   rw [if_neg (fun hc=>h1 (by simp only [Bool.and_eq_true] at hc; exact hc.1))] at hr
   exact hr
 have fin:∀ acc,CB view id ((7:Nat):Int) acc=some acc:=fun acc=>Og (by
  unfold It
  rw [if_neg (by decide)])
 have g:∀ (acc:List Int) (v:Int),(if (v != id&&view.contains v)=true then acc++[v] else acc).length≤acc.length+1:=by
  intro acc v; split<;>simp
 refine step 1 [] _ (by omega) (by omega) (by simp) ?_
 refine step 2 _ _ (by omega) (by omega) (by have:=g [] ((1:Nat):Int); simp only [List.length_nil] at this; omega) ?_
 have l2:=g [] ((1:Nat):Int)
 generalize e1:(if (((1:Nat):Int) != id&&view.contains ((1:Nat):Int))=true then ([]:List Int)++[((1:Nat):Int)] else [])=a1 at l2 ⊢
 have l3:=g a1 ((2:Nat):Int)
 generalize e2:(if (((2:Nat):Int) != id&&view.contains ((2:Nat):Int))=true then a1++[((2:Nat):Int)] else a1)=a2 at l3 ⊢
 have l4:=g a2 ((3:Nat):Int)
 simp only [List.length_nil] at l2
 refine step 3 _ _ (by omega) (by omega) (by omega) ?_
 generalize e3:(if (((3:Nat):Int) != id&&view.contains ((3:Nat):Int))=true then a2++[((3:Nat):Int)] else a2)=a3 at l4 ⊢
 have l5:=g a3 ((4:Nat):Int)
 refine step 4 _ _ (by omega) (by omega) (by omega) ?_
 generalize e4:(if (((4:Nat):Int) != id&&view.contains ((4:Nat):Int))=true then a3++[((4:Nat):Int)] else a3)=a4 at l5 ⊢
 have l6:=g a4 ((5:Nat):Int)
 refine step 5 _ _ (by omega) (by omega) (by omega) ?_
 generalize e5:(if (((5:Nat):Int) != id&&view.contains ((5:Nat):Int))=true then a4++[((5:Nat):Int)] else a4)=a5 at l6 ⊢
 refine step 6 _ _ (by omega) (by omega) (by omega) ?_
 rw [fin]
 congr 1
 unfold DD
 have fl:∀ (p:Int→Bool) (v:Int) (l:List Int),(v::l).filter p=(if p v=true then [v] else [])++l.filter p:=by
  intro p v l; rw [List.filter_cons]; split<;>simp
 have ap:∀ (c:Bool) (a:List Int) (v:Int),(if c=true then a++[v] else a)=a++(if c=true then [v] else []):=by
  intro c a v; split<;>simp
 rw [ap,← e5,ap,← e4,ap,← e3,ap,← e2,ap,← e1,ap]
 simp only [fl,List.filter_nil,List.append_nil,List.nil_append,List.append_assoc]
 rfl)
theorem mP {v:List Int} (h:wu v) (p:Int→Bool):wu (v.filter p):=⟨fun a ha=>h.1 a (List.mem_filter.1 ha).1,h.2.filter p⟩
theorem Nf (v:List Int) (x:Int) (h:v.length≤68719476736):HS v x=some (v.filter (· != x)):=dP (by
 unfold Rv
 have key:=GZ (n:=v.length) (P:=fun i=>∀ acc:List Int,acc.length≤i→Dw v x (i:Int) acc=some (acc++(v.drop i).filter (· != x))) (fun acc ha=>NZ (by
  unfold Hw
  rw [if_neg (by simp)]
  simp)) (fun i hi ih acc ha=>NZ (by
  unfold Hw
  simp only [show ((i:Int)<(v.length:Int)) from by omega,decide_true,if_true,show (0:Int)≤(i:Int) from by omega,Int.toNat_natCast,AW hi,AP (show i<9223372036854775807 by omega)]
  rw [BT hi,List.filter_cons]
  by_cases hh:(v[i] != x)=true
  ·rw [if_pos hh,if_pos (by simp; omega),ih _ (by simp; omega),if_pos hh,List.append_assoc]
   rfl
  ·rw [if_neg hh,ih _ (by omega),if_neg hh])) 0 (by omega) [] (by simp)
 simpa using key)
end Go.Proofs.YtokiohnjegbnpaaGreat.Core

namespace Go.Proofs.YtokiohnjegbnpaaGreat.Core
open Go
set_option linter.unusedVariables false
set_option linter.unusedSimpArgs false
def Bs (view:List Int) (id:Int):List Int:=view.filter (· != id)
def QW (m:Z) (view:List Int) (its:List AK):Z :=
 (m.1,m.2.1,m.2.2.1,true,m.2.2.2.2.1,(((DD view m.1).length:Int)==0),DD view m.1,its,m.2.2.2.2.2.2.2.2)
def Tz (m:Z) (e:Int):Z :=
 (m.1,e,false,false,false,false,([]:List Int),m.2.2.2.2.2.2.2.1,(0:Int),(0:Int),(0:Int),(0:Int),(ByteArray.empty,ByteArray.empty,(0:Int)),([]:List Int))
def D_ (m:Z) (x:BJ) (k:Int):List BJ:=[(k,m.1,x.2.1,x.2.2.2.1,x.2.2.2.2.1,([]:List AK))]
def Mu (m:Z) (its:List AK):Z :=
 (m.1,m.2.1,m.2.2.1,m.2.2.2.1,m.2.2.2.2.1,m.2.2.2.2.2.1,m.2.2.2.2.2.2.1,its,m.2.2.2.2.2.2.2.2.1,(0:Int),(0:Int),(0:Int),(ByteArray.empty,ByteArray.empty,(0:Int)),([]:List Int))
def Bl (m:Z):List Cm×Z :=
 if (m.2.2.2.2.2.2.2.2.2.1==1)=true then ([(m.2.2.2.2.2.2.2.2.2.2.1,m.2.1,m.2.2.2.2.2.2.2.2.2.2.2.1,m.2.2.2.2.2.2.2.2.2.2.2.2.1)],Mu m (Ah m.2.2.2.2.2.2.2.1 m.2.2.2.2.2.2.2.2.2.2.2.2.1))
 else ([(m.2.2.2.2.2.2.2.2.2.2.1,m.2.1,m.2.2.2.2.2.2.2.2.2.2.2.1,BA m.2.2.2.2.2.2.2.1 m.2.2.2.2.2.2.2.2.2.2.2.2.1.1)],Mu m m.2.2.2.2.2.2.2.1)
theorem T0 (view:List Int) (its:List AK) (m:Z) (h:view.length≤68719476736) (hi:its.length≤68719476736) :
  M6 view its m=some ((Bs view m.1).map (fun v=>(3,m.1,v,m.2.1,0,its)),QW m view its):=nJ (by
 unfold ZU
 rw [if_pos (by simpa using hi),Iw view _ (by unfold maxLen; omega),Option.bind_some]
 have key:=GZ (n:=view.length) (P:=fun i=>∀ acc:List BJ,acc.length≤i→GU view its (i:Int) (QW m view its) acc ([]++its)=some (acc++((view.drop i).filter (· != m.1)).map (fun v=>((3:Int),m.1,v,m.2.1,(0:Int),its)),QW m view its)) (fun acc ha=>Tf (by
  unfold Mj
  rw [if_neg (by simp)]
  simp)) (fun i hi2 ih acc ha=>Tf (by
  unfold Mj
  simp only [show ((i:Int)<(view.length:Int)) from by omega,decide_true,if_true,show (0:Int)≤(i:Int) from by omega,Int.toNat_natCast,AW hi2,AP (show i<9223372036854775807 by omega)]
  rw [show (QW m view its).1=m.1 from rfl,show (QW m view its).2.1=m.2.1 from rfl,BT hi2,List.filter_cons]
  by_cases hh:(view[i] != m.1)=true
  ·rw [if_pos hh,if_pos (by simpa using hi),if_pos (by simp; omega),ih _ (by simp; omega),if_pos hh,List.map_cons,List.append_assoc]
   rfl
  ·rw [if_neg hh,ih _ (by omega),if_neg hh])) 0 (by omega) [] (by simp)
 exact key)
theorem Rz (m:Z) (e:Int) (h:m.2.2.2.2.2.2.2.1.length≤68719476736):K_ m e=some (Tz m e):=mG (by
 unfold X4
 rw [if_pos (by simpa using h)]
 rfl)
theorem Gz (m:Z) (x:BJ) (k:Int):D5 m x k=some (D_ m x k):=jU rfl
theorem Ix (m:Z) (h:m.2.2.2.2.2.2.2.1.length≤34359738367):GQ m=some (Bl m):=fm (by
 unfold Te Bl
 rw [Lk _ _ h,Ts _ _ (by unfold maxLen; omega)]
 split<;>rfl)
def nq (m:Z) (f:Int):Z :=
 (m.1,m.2.1,m.2.2.1,m.2.2.2.1,m.2.2.2.2.1,m.2.2.2.2.2.1,m.2.2.2.2.2.2.1,m.2.2.2.2.2.2.2.1,m.2.2.2.2.2.2.2.2.1,m.2.2.2.2.2.2.2.2.2.1,m.2.2.2.2.2.2.2.2.2.2.1,m.2.2.2.2.2.2.2.2.2.2.2.1,m.2.2.2.2.2.2.2.2.2.2.2.2.1,m.2.2.2.2.2.2.2.2.2.2.2.2.2.filter (· != f))
def Ft (m:Z) (f:Int):Z×List BJ×List Cm :=
 if (((m.2.2.2.2.2.2.2.2.2.2.2.2.2.filter (· != f)).length:Int)==0)=true then ((Bl (nq m f)).2,[],(Bl (nq m f)).1) else (nq m f,[],[])
def YF (m:Z) (view:List Int) (x:BJ):Z×List BJ×List Cm :=
 if x.1=2 then (if (m.2.2.2.2.1&&!m.2.2.2.1)=true then (QW m view x.2.2.2.2.2,(Bs view m.1).map (fun v=>(3,m.1,v,m.2.1,0,x.2.2.2.2.2)),[]) else (m,[],[]))
 else if x.1=3 then (if (!view.contains m.1||(view.getD 0 0==m.1))=true then (m,[],[]) else if (!m.2.2.2.1&&m.2.2.1)=true then (m,[],[])
  else if m.2.2.2.1=true then (m,D_ m x 4,[]) else
   ((m.1,m.2.1,false,true,false,false,([]:List Int),x.2.2.2.2.2,(0:Int),(0:Int),(0:Int),(0:Int),(ByteArray.empty,ByteArray.empty,(0:Int)),([]:List Int)),D_ m x 4,[]))
 else if x.1=4 then (if m.2.2.2.2.1=true then
   ((m.1,m.2.1,m.2.2.1,m.2.2.2.1,m.2.2.2.2.1,m.2.2.2.1&&(((m.2.2.2.2.2.2.1.filter (· != x.2.1)).length:Int)==0),m.2.2.2.2.2.2.1.filter (· != x.2.1),m.2.2.2.2.2.2.2),[],[]) else (m,[],[]))
 else if x.1=5 then (if m.2.2.2.1=true then
   ((m.1,m.2.1,m.2.2.1,m.2.2.2.1,m.2.2.2.2.1,m.2.2.2.2.2.1,m.2.2.2.2.2.2.1,Ah m.2.2.2.2.2.2.2.1 (x.2.2.2.2.2.getD 0 (ByteArray.empty,ByteArray.empty,(0:Int))),m.2.2.2.2.2.2.2.2),D_ m x 6,[]) else (m,[],[]))
 else if x.1=7 then (if m.2.2.2.1=true then (m,D_ m x 8,[]) else (m,[],[]))
 else if (x.1=6∨x.1=8)∧m.2.2.2.2.2.2.2.2.2.1=(if x.1=8 then 2 else 1)∧m.2.2.2.2.2.2.2.2.2.2.2.1=x.2.2.2.2.1 then
  (Ft m x.2.1)
 else (m,[],[])
theorem gK (m:Z) (view:List Int) (x:BJ) (hm:Ie m) (hv:view.length≤68719476736) (hv0:0<view.length) (hx:x.2.2.2.2.2.length≤68719476736) (h5:x.1=5→0<x.2.2.2.2.2.length) :
  R9 m view x=some (YF m view x):=nK (by
 obtain ⟨l1,l2,l3⟩:=hm.lens
 unfold ZV
 rw [hm.copy,Option.bind_some]
 unfold YF
 by_cases k2:x.1=2
 ·rw [if_pos (by simpa using k2),if_pos k2]
  have J:∀ b y,IY view [] [] b m x y m=some (if b=true then (QW m view x.2.2.2.2.2,(Bs view m.1).map (fun v=>(3,m.1,v,m.2.1,0,x.2.2.2.2.2)),[]) else (m,[],[])):=fun b y=>fp (by
   unfold Tg
   cases b
   ·rfl
   ·rw [if_pos rfl,T0 view _ m hv hx]
    rfl)
  rw [J,J]
  cases m.2.2.2.2.1<;>cases m.2.2.2.1<;>rfl
 ·rw [if_neg (by simpa using k2),if_neg k2]
  by_cases k3:x.1=3
  ·rw [if_pos (by simpa using k3),if_pos k3,Cj view _ (by unfold maxLen; omega),Option.bind_some]
   have J2:∀ b y,Ia [] [] b m x y m=some (if m.2.2.2.1=true then (m,D_ m x 4,[]) else
     ((m.1,m.2.1,false,true,false,false,([]:List Int),x.2.2.2.2.2,(0:Int),(0:Int),(0:Int),(0:Int),(ByteArray.empty,ByteArray.empty,(0:Int)),([]:List Int)),D_ m x 4,[])):=fun b y=>fq (by
    unfold Th
    rw [Rz m _ (by omega),Gz,Option.bind_some,Option.bind_some]
    have hx':([]:List AK).length+x.2.2.2.2.2.length≤68719476736:=by simpa using hx
    cases m.2.2.2.1
    ·rw [if_pos (show (!false)=true from rfl),if_pos hx']; rfl
    ·rfl)
   have J1:∀ b y,Mk [] [] b m x y m=some (if (!m.2.2.2.1&&m.2.2.1)=true then (m,[],[]) else if m.2.2.2.1=true then (m,D_ m x 4,[]) else
     ((m.1,m.2.1,false,true,false,false,([]:List Int),x.2.2.2.2.2,(0:Int),(0:Int),(0:Int),(0:Int),(ByteArray.empty,ByteArray.empty,(0:Int)),([]:List Int)),D_ m x 4,[])):=fun b y=>fu (by
    unfold Ti
    rw [J2,J2]
    cases m.2.2.2.1<;>cases m.2.2.1<;>rfl)
   rw [show view.getD (0:Int).toNat 0=view.getD 0 0 from rfl]
   cases view.contains m.1
   ·rfl
   ·rw [if_neg (by simp),if_pos (by omega),if_pos (by omega),J1]
    cases (view.getD 0 0==m.1)<;>rfl
  ·rw [if_neg (by simpa using k3),if_neg k3]
   by_cases k4:x.1=4
   ·rw [if_pos (by simpa using k4),if_pos k4,Nf _ _ (by omega),Option.bind_some]
    cases m.2.2.2.2.1<;>cases m.2.2.2.1<;>rfl
   ·rw [if_neg (by simpa using k4),if_neg k4]
    by_cases k5:x.1=5
    ·have:=h5 k5
     rw [if_pos (by simpa using k5),if_pos k5,Lk _ _ (by omega),Option.bind_some,Gz,Option.bind_some,show x.2.2.2.2.2.getD (0:Int).toNat (ByteArray.empty,ByteArray.empty,(0:Int))=x.2.2.2.2.2.getD 0 (ByteArray.empty,ByteArray.empty,(0:Int)) from rfl]
     cases m.2.2.2.1
     ·rfl
     ·rw [if_pos rfl,if_pos rfl,if_pos (by omega),if_pos (by omega)]
    ·rw [if_neg (by simpa using k5),if_neg k5]
     by_cases k7:x.1=7
     ·rw [if_pos (by simpa using k7),if_pos k7,Gz,Option.bind_some]
      cases m.2.2.2.1<;>rfl
     ·rw [if_neg (by simpa using k7),if_neg k7]
      have J5:∀ b y,Ml [] [] b m x y m=some (Ft m x.2.1):=fun b y=>fw (by
       unfold Tj
       rw [Nf _ _ (by omega),Option.bind_some,Ix _ (by simp only; omega),Option.bind_some]
       unfold Ft
       split<;>rfl)
      have J4:∀ op y,Ib [] [] op m x y m=some (if m.2.2.2.2.2.2.2.2.2.1=op∧m.2.2.2.2.2.2.2.2.2.2.2.1=x.2.2.2.2.1 then (Ft m x.2.1) else (m,[],[])):=fun op y=>f5 (by
       unfold Tk
       rw [J5]
       by_cases h1:m.2.2.2.2.2.2.2.2.2.1=op
       ·rw [if_pos (by simp [h1])]
        by_cases h2:m.2.2.2.2.2.2.2.2.2.2.2.1=x.2.2.2.2.1
        ·rw [if_neg (by simp [h2]),if_pos (show _∧_ from ⟨h1,h2⟩)]
        ·rw [if_pos (by simp [h2]),if_neg (show ¬(_∧_) from fun h=>h2 h.2)]
       ·rw [if_neg (by simp [h1]),if_neg (fun h=>h1 h.1)])
      have J3:∀ b y,Ic [] [] b m x y m=some (if b=true∧m.2.2.2.2.2.2.2.2.2.1=(if x.1=8 then 2 else 1)∧m.2.2.2.2.2.2.2.2.2.2.2.1=x.2.2.2.2.1 then (Ft m x.2.1) else (m,[],[])):=fun b y=>f7 (by
       unfold Tl
       rw [J4,J4]
       cases b
       ·rw [if_neg (by simp),if_neg (by simp)]
       ·rw [if_pos rfl]
        by_cases k8:x.1=8
        ·simp only [k8,beq_self_eq_true,if_true,true_and]
        ·rw [if_neg (by simpa using k8)]
         simp only [k8,if_false,true_and])
      rw [J3,J3]
      by_cases k6:x.1=6
      ·simp only [k6,beq_self_eq_true,if_true,true_and,true_or]
      ·rw [if_neg (by simpa using k6)]
       simp only [k6,false_or,beq_iff_eq])
structure QL (views:List (List Int)):Prop where
 ok:Eo views views.length views=true
theorem JB {n:Nat}:∀ {l:List (List Int)} {x:List (List Int)},Eo x n l=true↔(∀ v∈l,Ui v=true)∧1≤n∧n≤9
 | [],x=>by simp [Eo]; omega
 | v::l,x=>by
  rw [Eo,Bool.and_eq_true,JB]
  simp [and_assoc]
theorem QL.len {views:List (List Int)} (h:QL views):1≤views.length∧views.length≤9:=(JB.1 h.ok).2
theorem QL.view {views:List (List Int)} (h:QL views) {v:List Int} (hv:v∈views):1≤v.length∧v.length≤4:=by
 have:=(JB.1 h.ok).1 v hv
 unfold Ui at this
 simp only [Bool.and_eq_true,decide_eq_true_eq] at this
 omega
theorem QL.get {views:List (List Int)} (h:QL views) {i:Nat} (hi:i<views.length):1≤(views.getD i []).length∧(views.getD i []).length≤4:=by
 rw [AW hi]
 exact h.view (List.getElem_mem hi)
theorem Fu {views:List (List Int)} (h:QL views):Dv views=some true:=by
 rw [dW views (by have:=h.len; unfold maxLen; omega) (fun a ha=>by have:=h.view ha; unfold maxLen; omega),h.ok]
theorem Js {m:Z} (h:Ie m):FP m=some true:=by
 obtain ⟨h1,h2,h3⟩:=h.lens
 rw [aa m (by unfold maxLen; omega) (by unfold maxLen; omega) (by unfold maxLen; omega),rV.2 h]
def DE (m:Z) (views:List (List Int)) (x:BJ):Z×List BJ×List Cm :=
 if (Ty x&&(x.2.2.1==m.1)&&decide (m.2.1≤x.2.2.2.1)&&decide (x.2.2.2.1≤(views.length:Int)))=true then
  if x.2.2.2.1=m.2.1 then YF m (views.getD (m.2.1-1).toNat []) x
  else if (x.1==1&&(x.2.2.2.1==m.2.1+1)&&m.2.2.2.1&&(views.getD (m.2.1-1).toNat []).contains m.1)=true then (Tz m x.2.2.2.1,[(2,m.1,x.2.1,x.2.2.2.1,0,m.2.2.2.2.2.2.2.1)],[])
  else if (x.1==3&&(views.getD (x.2.2.2.1-1).toNat []).contains m.1&&((views.getD (x.2.2.2.1-1).toNat []).getD 0 0 != m.1))=true then
   ((m.1,x.2.2.2.1,false,true,false,false,([]:List Int),x.2.2.2.2.2,(0:Int),(0:Int),(0:Int),(0:Int),(ByteArray.empty,ByteArray.empty,(0:Int)),([]:List Int)),D_ m x 4,[])
  else (m,[],[])
 else (m,[],[])
theorem vg {x:BJ} (h:Ty x=true):x.2.2.2.2.2.length≤12∧(x.1=5→x.2.2.2.2.2.length=1):=by
 unfold Ty at h
 simp only [Bool.and_eq_true] at h
 refine ⟨KH (x:=x.2.2.2.2.2) h.1.2,fun h5=>?_⟩
 have:=h.2
 rw [if_neg (by omega),if_pos h5] at this
 simp only [beq_iff_eq] at this
 omega
theorem dZ (m:Z) (views:List (List Int)) (x:BJ) (hm:Ie m) (hv:QL views) (hx:x.2.2.2.2.2.length≤68719476736) :
  Po m views x=some (DE m views x):=mA (by
 have hvl:=hv.len
 have hep:=hm.ep
 unfold Xz DE
 rw [hm.copy,Option.bind_some,Js hm,Option.bind_some,if_pos (by rfl),Fu hv,Option.bind_some,if_pos (by rfl),jb x (by unfold maxLen; omega),Option.bind_some]
 cases hmo:Ty x with
 | false=>rfl
 | true =>
  obtain ⟨xl,x5⟩:=vg hmo
  rw [if_pos (by rfl)]
  by_cases h1:x.2.2.1=m.1
  ·rw [if_pos (by simp [h1])]
   by_cases h2:x.2.2.2.1<m.2.1
   ·rw [if_neg (by simpa using h2),if_neg (by simp; omega)]
   ·rw [if_pos (by simpa using h2)]
    by_cases h3:x.2.2.2.1>(views.length:Int)
    ·rw [if_neg (by simpa using h3),if_neg (by simp; omega)]
    ·rw [if_pos (by simpa using h3),if_neg (by simp; omega),if_pos (by simp [h1]; omega)]
     have wm:IntKind.i64.wrap (m.2.1-1)=m.2.1-1:=AZ (by omega)
     have wp:IntKind.i64.wrap (m.2.1+1)=m.2.1+1:=AZ (by omega)
     have wx:IntKind.i64.wrap (x.2.2.2.1-1)=x.2.2.2.1-1:=AZ (by omega)
     have g1:=hv.get (i:=(m.2.1-1).toNat) (by omega)
     have g2:=hv.get (i:=(x.2.2.2.1-1).toNat) (by omega)
     have J3:∀ b y,Fo [] [] b m x y m=some (if b=true then ((m.1,x.2.2.2.1,false,true,false,false,([]:List Int),x.2.2.2.2.2,(0:Int),(0:Int),(0:Int),(0:Int),(ByteArray.empty,ByteArray.empty,(0:Int)),([]:List Int)),D_ m x 4,[]) else (m,[],[])):=fun b y=>c_ (by
      unfold Ri
      cases b
      ·rfl
      ·rw [if_pos rfl,if_pos (by simpa using hx),Gz]
       rfl)
     have J2:∀ b y,LZ views [] [] b m x y m=some (if (x.1==3&&(views.getD (x.2.2.2.1-1).toNat []).contains m.1&&((views.getD (x.2.2.2.1-1).toNat []).getD 0 0 != m.1))=true then
       ((m.1,x.2.2.2.1,false,true,false,false,([]:List Int),x.2.2.2.2.2,(0:Int),(0:Int),(0:Int),(0:Int),(ByteArray.empty,ByteArray.empty,(0:Int)),([]:List Int)),D_ m x 4,[]) else (m,[],[])):=fun b y=>dA (by
      unfold Rj
      rw [wx,if_pos (by omega),if_pos (by omega),Cj _ _ (by unfold maxLen; omega),Option.bind_some,show (views.getD (x.2.2.2.1-1).toNat ([]:List Int)).getD (0:Int).toNat 0=(views.getD (x.2.2.2.1-1).toNat []).getD 0 0 from rfl]
      simp only [J3]
      rw [if_pos (show (0:Int)≤0 by omega),if_pos (show (0:Int)<((views.getD (x.2.2.2.1-1).toNat ([]:List Int)).length:Int) by omega)]
      cases (x.1==3)<;>cases (views.getD (x.2.2.2.1-1).toNat ([]:List Int)).contains m.1<;>rfl)
     have J1:∀ b y,D2 views [] [] b m x y m=some (if b=true then (Tz m x.2.2.2.1,[(2,m.1,x.2.1,x.2.2.2.1,0,m.2.2.2.2.2.2.2.1)],[]) else
       if (x.1==3&&(views.getD (x.2.2.2.1-1).toNat []).contains m.1&&((views.getD (x.2.2.2.1-1).toNat []).getD 0 0 != m.1))=true then
       ((m.1,x.2.2.2.1,false,true,false,false,([]:List Int),x.2.2.2.2.2,(0:Int),(0:Int),(0:Int),(0:Int),(ByteArray.empty,ByteArray.empty,(0:Int)),([]:List Int)),D_ m x 4,[]) else (m,[],[])):=fun b y=>dB (by
      unfold Rk
      have hl:([]:List AK).length+m.2.2.2.2.2.2.2.1.length≤68719476736:=by have:=hm.lens; simp; omega
      rw [J2,Rz m _ (by have:=hm.lens; omega),Option.bind_some,if_pos hl]
      cases b<;>rfl)
     refine dC ?_
     unfold Rl
     rw [wm,wp]
     by_cases h4:x.2.2.2.1=m.2.1
     ·rw [if_pos (by simpa using h4),if_pos (by omega),if_pos (by omega),if_pos h4,gK m _ x hm (by omega) (by omega) hx (fun h=>by have:=x5 h; omega)]
      rfl
     ·rw [if_neg (by simpa using h4),if_neg h4,Cj _ _ (by unfold maxLen; omega),Option.bind_some]
      simp only [J1]
      rw [if_pos (show (0:Int)≤m.2.1-1 by omega),if_pos (show m.2.1-1<(views.length:Int) by omega)]
      cases (x.1==1)<;>cases (x.2.2.2.1==m.2.1+1)<;>cases m.2.2.2.1<;>cases (views.getD (m.2.1-1).toNat ([]:List Int)).contains m.1<;>rfl
  ·rw [if_neg (by simp [h1]),if_neg (by simp [h1])])
end Go.Proofs.YtokiohnjegbnpaaGreat.Core

namespace Go.Proofs.YtokiohnjegbnpaaGreat.Core
open Go
set_option linter.unusedVariables false
set_option linter.unusedSimpArgs false
theorem ZX {v:List Int}:∀ (m i:Nat),i+m=v.length→(G_ v i m=true↔∀ a (ha:a<v.length),i≤a→(1≤v[a]∧v[a]≤6)∧v[a]∉v.take a)
 | 0,i,h=>by
  simp only [G_,true_iff]
  intro a ha hi
  omega
 | m+1,i,h=>by
  have hi:i<v.length:=by omega
  rw [G_,Bool.and_eq_true,Bool.and_eq_true,ZX m (i+1) (by omega),AW hi]
  simp only [Bool.and_eq_true,decide_eq_true_eq,Bool.not_eq_true',List.contains_eq_mem,decide_eq_false_iff_not]
  constructor
  ·rintro ⟨⟨h1,h2⟩,h3⟩ a ha hia
   by_cases e:a=i
   ·subst e
    exact ⟨h1,h2⟩
   ·exact h3 a ha (by omega)
  ·intro h3
   exact ⟨⟨(h3 i hi (Nat.le_refl _)).1,(h3 i hi (Nat.le_refl _)).2⟩,fun a ha hia=>h3 a ha (by omega)⟩
structure sq (v:List Int):Prop where
 len:1≤v.length∧v.length≤4
 mem:∀ a∈v,1≤a∧a≤6
 nd:v.Nodup
theorem rW {v:List Int}:Ui v=true↔sq v:=by
 unfold Ui
 simp only [Bool.and_eq_true,decide_eq_true_eq]
 rw [ZX _ _ (by omega)]
 constructor
 ·rintro ⟨h1,h2⟩
  refine ⟨by omega,fun a ha=>?_,?_⟩
  ·obtain ⟨i,hi,rfl⟩:=List.getElem_of_mem ha
   exact (h2 i hi (Nat.zero_le _)).1
  ·rw [List.nodup_iff_pairwise_ne,List.pairwise_iff_getElem]
   intro i j hi hj hij e
   have:=(h2 j hj (Nat.zero_le _)).2
   apply this
   rw [← e]
   exact List.mem_iff_getElem.2 ⟨i,by rw [List.length_take]; omega,by rw [List.getElem_take]⟩
 ·rintro ⟨h1,h2,h3⟩
  refine ⟨by omega,fun a ha _=>⟨h2 _ (List.getElem_mem ha),fun hm=>?_⟩⟩
  obtain ⟨i,hi,e⟩:=List.getElem_of_mem hm
  rw [List.length_take] at hi
  rw [List.getElem_take] at e
  have:=(List.getElem_inj h3).1 e
  omega
theorem QL.wok {views:List (List Int)} (h:QL views) {i:Nat} (hi:i<views.length):sq (views.getD i []):=by
 rw [AW hi]
 exact rW.1 ((JB.1 h.ok).1 _ (List.getElem_mem hi))
structure sh (x:BJ):Prop where
 kind:1≤x.1∧x.1≤8
 frm:1≤x.2.1∧x.2.1≤6
 to:1≤x.2.2.1∧x.2.2.1≤6
 ep:1≤x.2.2.2.1∧x.2.2.2.1≤9
 num:0≤x.2.2.2.2.1∧x.2.2.2.2.1≤1000000000
 items:Ao x.2.2.2.2.2=true
 shape:if x.1=2∨x.1=3 then True else if x.1=5 then x.2.2.2.2.2.length=1 else x.2.2.2.2.2=[]
theorem Yd {x:BJ}:Ty x=true↔sh x:=by
 unfold Ty
 simp only [Bool.and_eq_true,decide_eq_true_eq]
 constructor
 ·rintro ⟨⟨⟨⟨⟨⟨h1,h2⟩,h3⟩,h4⟩,h5⟩,h6⟩,h7⟩
  refine ⟨h1,h2,h3,h4,h5,h6,?_⟩
  split at h7
  ·rename_i e; rw [if_pos e]; trivial
  ·rename_i e
   rw [if_neg e]
   split at h7
   ·rename_i e2; rw [if_pos e2]; simp only [beq_iff_eq] at h7; omega
   ·rename_i e2; rw [if_neg e2]; simp only [beq_iff_eq] at h7; exact List.length_eq_zero_iff.1 (by omega)
 ·rintro ⟨h1,h2,h3,h4,h5,h6,h7⟩
  refine ⟨⟨⟨⟨⟨⟨h1,h2⟩,h3⟩,h4⟩,h5⟩,h6⟩,?_⟩
  split
  ·rfl
  ·rename_i e
   rw [if_neg e] at h7
   split
   ·rename_i e2; rw [if_pos e2] at h7; simp; omega
   ·rename_i e2; rw [if_neg e2] at h7; simp [h7]
theorem O9:Ao []=true:=rfl
def af (m n:Z) (l:List BJ):Prop:=∀ y∈l,sh y∧y.2.1=m.1∧y.2.2.2.1=n.2.1
theorem da {m n:Z} {view:List Int} {k num:Int} {its:List AK} (hm:1≤m.1∧m.1≤6) (he:1≤n.2.1∧n.2.1≤9) (hv:∀ a∈view,1≤a∧a≤6) (hk:1≤k∧k≤8) (hn:0≤num∧num≤1000000000) (hi:Ao its=true)
  (hs:if k=2∨k=3 then True else if k=5 then its.length=1 else its=[]):af m n ((Bs view m.1).map fun v=>(k,m.1,v,n.2.1,num,its)):=by
 intro y hy
 obtain ⟨v,hv2,rfl⟩:=List.mem_map.1 hy
 exact ⟨⟨hk,hm,hv v (List.mem_filter.1 hv2).1,he,hn,hi,hs⟩,rfl,rfl⟩
theorem QM {m n:Z} {x:BJ} {k:Int} (hm:1≤m.1∧m.1≤6) (hx:sh x) (he:x.2.2.2.1=n.2.1) (hk:k=4∨k=6∨k=8):af m n (D_ m x k):=by
 intro y hy
 simp only [D_,List.mem_singleton] at hy
 subst hy
 refine ⟨⟨by show 1≤k∧k≤8; omega,hm,hx.frm,hx.ep,hx.num,O9,?_⟩,rfl,he⟩
 show if k=2∨k=3 then True else if k=5 then ([]:List AK).length=1 else ([]:List AK)=[]
 rw [if_neg (by omega),if_neg (by omega)]
theorem YG {m n:Z}:af m n []:=fun y hy=>by cases hy
theorem Ye:Iv ((0:Int),(0:Int),(0:Int),(ByteArray.empty,ByteArray.empty,(0:Int)),([]:List Int))=true:=by simp [Iv,T8]
theorem Ie.has {m:Z} {view:List Int} {its:List AK} (h:Ie m) (hl:m.2.2.2.2.1=true) (hb:m.2.2.2.1=false) (hi:Ao its=true):Ie (QW m view its):=by
 have hns:m.2.2.2.2.2.1=false:=by
  cases hs:m.2.2.2.2.2.1 with
  | false=>rfl
  | true=>have:=(h.serves hs).1; rw [hb] at this; cases this
 refine ⟨h.id,h.ep,fun hs=>⟨rfl,hl,?_⟩,fun hf=>?_,Uj _ _,h.left,hi,h.count,?_⟩
 ·simp only [QW,beq_iff_eq] at hs ⊢
  exact List.length_eq_zero_iff.1 (by omega)
 ·have:=(h.fell hf).2; rw [hl] at this; cases this
 ·rcases h.task with h1 | h1
  ·exact .inl h1
  ·unfold E7 at h1
   rw [hns] at h1
   simp at h1
theorem Ie.bare {m:Z} (h:Ie m) {e:Int} (he:1≤e∧e≤9):Ie (Tz m e) :=
 ⟨h.id,he,fun hs=>(by cases hs),fun hf=>(by cases hf),⟨by simp [Tz],by simp [Tz]⟩,⟨by simp [Tz],by simp [Tz]⟩,h.items,⟨by simp [Tz],by simp [Tz]⟩,.inl Ye⟩
theorem Ie.install {m:Z} (h:Ie m) {e:Int} {its:List AK} (he:1≤e∧e≤9) (hi:Ao its=true) :
  Ie (m.1,e,false,true,false,false,([]:List Int),its,(0:Int),(0:Int),(0:Int),(0:Int),(ByteArray.empty,ByteArray.empty,(0:Int)),([]:List Int)) :=
 ⟨h.id,he,fun hs=>(by cases hs),fun hf=>(by cases hf),⟨by simp,by simp⟩,⟨by simp,by simp⟩,hi,⟨by simp,by simp⟩,.inl Ye⟩
theorem Ie.clear {m:Z} (h:Ie m) {its:List AK} (hi:Ao its=true):Ie (Mu m its) :=
 ⟨h.id,h.ep,h.serves,h.fell,h.waits,⟨by simp [Mu],by simp [Mu]⟩,hi,h.count,.inl Ye⟩
theorem Ie.finish {m:Z} (h:Ie m):Ie (Bl m).2:=by
 unfold Bl
 split
 ·exact h.clear (Hz h.items)
 ·exact h.clear h.items
theorem vh {m:Z} (h:Ie m) (h0:m.2.2.2.2.2.2.2.2.2.1≠0):E7 m.2.2.2.2.2.2.2.2.2 m.2.2.2.2.2.1=true:=by
 rcases h.task with h1 | h1
 ·unfold Iv at h1
  simp only [Bool.and_eq_true,beq_iff_eq] at h1
  exact absurd h1.1.1.1.1 h0
 ·exact h1
def gL (l:List Cm):Prop:=l.length≤1∧∀ s∈l,0≤s.1∧s.1≤1000
theorem E8:gL []:=⟨by simp,fun s hs=>by cases hs⟩
theorem g8 {m:Z} (h:Ie m) (h0:m.2.2.2.2.2.2.2.2.2.1≠0):gL (Bl m).1:=by
 have h1:=vh h h0
 unfold E7 at h1
 simp only [Bool.and_eq_true,decide_eq_true_eq] at h1
 unfold Bl
 split
 ·exact ⟨by simp,fun s hs=>by simp at hs; subst hs; exact h1.1.2⟩
 ·exact ⟨by simp,fun s hs=>by simp at hs; subst hs; exact h1.1.2⟩
structure pE (m:Z) (r:Z×List BJ×List Cm):Prop where
 mok:Ie r.1
 id:r.1.1=m.1
 ep:m.2.1≤r.1.2.1
 told:af m r.1 r.2.1
 tlen:r.2.1.length≤4
 said:gL r.2.2
theorem G0 {m:Z} (h:Ie m):pE m (m,[],[]):=⟨h,rfl,Int.le_refl _,YG,by simp,E8⟩
theorem G1 (view:List Int) (id:Int):(Bs view id).length≤view.length:=List.length_filter_le _ _
theorem Ie.left_filter {m:Z} (h:Ie m) (f:Int):Ie (nq m f):=by
 refine ⟨h.id,h.ep,h.serves,h.fell,h.waits,mP h.left _,h.items,h.count,?_⟩
 rcases h.task with h1 | h1
 ·left
  unfold Iv at h1 ⊢
  simp only [Bool.and_eq_true,beq_iff_eq] at h1 ⊢
  refine ⟨h1.1,?_⟩
  have h2:=List.length_filter_le (· != f) m.2.2.2.2.2.2.2.2.2.2.2.2.2
  have h3:=h1.2
  show (((m.2.2.2.2.2.2.2.2.2.2.2.2.2.filter (· != f)).length:Nat):Int)=0
  omega
 ·exact .inr h1
theorem vj {m:Z} {view:List Int} {x:BJ} (hm:Ie m) (hv:sq view) (hx:sh x) (he:x.2.2.2.1=m.2.1):pE m (YF m view x):=by
 unfold YF
 split
 ·split
  ·rename_i h1 h2
   simp only [Bool.and_eq_true,Bool.not_eq_true'] at h2
   refine ⟨hm.has h2.1 h2.2 hx.items,rfl,Int.le_refl _,?_,by simp only [List.length_map]; have:=G1 view m.1; have:=hv.len; omega,E8⟩
   exact da (n:=QW m view x.2.2.2.2.2) hm.id hm.ep hv.mem (by omega) (by omega) hx.items (by simp)
  ·exact G0 hm
 ·split
  ·split
   ·exact G0 hm
   ·split
    ·exact G0 hm
    ·split
     ·exact ⟨hm,rfl,Int.le_refl _,QM hm.id hx he (by omega),by simp [D_],E8⟩
     ·exact ⟨hm.install hm.ep hx.items,rfl,Int.le_refl _,QM hm.id hx he (by omega),by simp [D_],E8⟩
  ·split
   ·split
    ·rename_i hl
     refine ⟨⟨hm.id,hm.ep,fun hs=>?_,hm.fell,mP hm.waits _,hm.left,hm.items,hm.count,?_⟩,rfl,Int.le_refl _,YG,by simp,E8⟩
     ·simp only [Bool.and_eq_true,beq_iff_eq] at hs
      exact ⟨hs.1,hl,List.length_eq_zero_iff.1 (show (List.filter (· != x.2.1) m.2.2.2.2.2.2.1).length=0 by have h:((List.filter (· != x.2.1) m.2.2.2.2.2.2.1).length:Int)=0:=hs.2; omega)⟩
     ·rcases hm.task with h1 | h1
      ·exact .inl h1
      ·right
       have hs:m.2.2.2.2.2.1=true:=by
        unfold E7 at h1
        simp only [Bool.and_eq_true] at h1
        exact h1.1.1.2
       obtain ⟨a,b,c⟩:=hm.serves hs
       rw [hs] at h1
       simp only [c,List.filter_nil,List.length_nil,a,Bool.true_and]
       exact h1
    ·exact G0 hm
   ·split
    ·split
     ·exact ⟨⟨hm.id,hm.ep,hm.serves,hm.fell,hm.waits,hm.left,Hz hm.items,hm.count,hm.task⟩,rfl,Int.le_refl _,QM hm.id hx he (by omega),by simp [D_],E8⟩
     ·exact G0 hm
    ·split
     ·split
      ·exact ⟨hm,rfl,Int.le_refl _,QM hm.id hx he (by omega),by simp [D_],E8⟩
      ·exact G0 hm
     ·by_cases hc:(x.1=6∨x.1=8)∧m.2.2.2.2.2.2.2.2.2.1=(if x.1=8 then 2 else 1)∧m.2.2.2.2.2.2.2.2.2.2.2.1=x.2.2.2.2.1
      ·rw [if_pos hc]
       have hn:=hm.left_filter x.2.1
       unfold Ft
       split
       ·refine ⟨hn.finish,?_,?_,YG,by simp,g8 hn ?_⟩
        ·unfold Bl; split<;>rfl
        ·unfold Bl; split<;>exact Int.le_refl _
        ·have:=hc.2.1
         show m.2.2.2.2.2.2.2.2.2.1≠0
         rw [this]
         split<;>omega
       ·exact ⟨hn,rfl,Int.le_refl _,YG,by simp,E8⟩
      ·rw [if_neg hc]
       exact G0 hm
theorem YH {m:Z} {views:List (List Int)} {x:BJ} (hm:Ie m) (hv:QL views):pE m (DE m views x):=by
 unfold DE
 split
 ·rename_i hc
  simp only [Bool.and_eq_true,decide_eq_true_eq,beq_iff_eq] at hc
  obtain ⟨⟨⟨h1,h2⟩,h3⟩,h4⟩:=hc
  have hx:=Yd.1 h1
  have hvl:=hv.len
  have he:=hm.ep
  split
  ·rename_i e
   exact vj hm (hv.wok (by omega)) hx e
  ·split
   ·refine ⟨hm.bare hx.ep,rfl,h3,fun y hy=>?_,by simp,E8⟩
    simp only [List.mem_singleton] at hy
    subst hy
    exact ⟨⟨by simp,hm.id,hx.frm,hx.ep,by simp,hm.items,by simp⟩,rfl,rfl⟩
   ·split
    ·exact ⟨hm.install hx.ep hx.items,rfl,h3,QM hm.id hx rfl (by omega),by simp [D_],E8⟩
    ·exact G0 hm
 ·exact G0 hm
end Go.Proofs.YtokiohnjegbnpaaGreat.Core
