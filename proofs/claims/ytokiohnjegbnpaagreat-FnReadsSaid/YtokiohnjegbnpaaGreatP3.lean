/- Texts of the proof, packed: part 4. -/
import Derived.Test.YtokiohnjegbnpaaGreatP2
import Derived.IntWalk
set_option linter.unusedVariables false
set_option linter.unusedSimpArgs false
namespace Go.Proofs.YtokiohnjegbnpaaGreat.Core
open Go IntKind
set_option maxRecDepth 100000
noncomputable section
def yh:List (Nat×BM):=[(5,BT),(9,Ua),(10,Jg),(11,BA),(13,Fd),(17,PQ),(18,Gv),(19,Dp),(20,CJ),(21,CY),(22,DE),(32,Dy),(33,Dq),(34,DS),(35,GW),(36,G4),(37,NM),(38,BI),(39,DU),(41,PR),(43,NN),(44,LI),(45,CO),(46,Dz),(47,Fs),(48,NO),(49,PS),(50,Ad),(51,Ft),(52,PT),(53,NP),(56,PU),(57,DZ),(59,Fu),(61,LK),(62,Jh),(63,Bu),(64,BL),(65,Bw),(66,C2),(67,E5),(68,Im),(69,G5),(70,CP),(71,GP),(72,RL),(73,Fv),(75,Hn),(76,LL),(77,D0),(78,CH),(79,E6),(80,Ji),(81,DV),(82,CZ),(83,RN),(84,NQ),(86,LN),(87,PV),(89,GZ),(90,CK),(91,BQ),(92,LO),(95,Bf),(96,Ho),(97,LP),(98,LQ),(100,Dr),(101,Fw),(102,AU),(103,FR),(105,D1),(106,Bo),(107,Cs),(108,Bg),(109,Eh),(110,B9),(111,Ab),(113,Ca),(114,Er),(115,B2),(116,FS),(117,Dh),(118,Bm),(119,Hp),(120,Ei),(121,Fe),(122,Es),(123,Ax),(124,C5),(125,In),(126,Et),(127,Ej),(128,CS),(129,LX),(130,Jj),(131,Di),(132,BW),(133,LY),(134,DQ),(135,C6),(137,AW),(138,Jk),(139,D2),(140,Eu),(141,D3),(142,Io),(143,Cj),(148,AS),(154,La),(158,Ck),(159,AI),(160,Ip),(169,Jl)]
def fns (f:Nat):Option BM:=w5 f yh
theorem zA:uz Tryz.prog fns:=uB (.cons lO <| .cons sM <| .cons ip <| .cons iq <| .cons ir <| .cons pY <| .cons rE <| .cons pZ <| .cons pa <| .cons pb <| .cons pd <| .cons lP <| .cons ni <| .cons iu <| .cons lQ <| .cons ae <| .cons nj <| .cons fT <| .cons iv <| .cons pe <| .cons nl <| .cons lR <| .cons af <| .cons lT <| .cons X0 <| .cons nn <| .cons pf <| .cons X1 <| .cons X2 <| .cons ph <| .cons no <| .cons pj <| .cons Qh <| .cons pl <| .cons lU <| .cons iw <| .cons ix <| .cons lV <| .cons lW <| .cons fU <| .cons fV <| .cons pn <| .cons ag <| .cons ah <| .cons Ze <| .cons rF <| .cons X6 <| .cons cZ <| .cons lX <| .cons lY <| .cons Zf <| .cons fW <| .cons iy <| .cons iz <| .cons fX <| .cons rG <| .cons np <| .cons lZ <| .cons po <| .cons la <| .cons ca <| .cons HM <| .cons lc <| .cons Ub <| .cons cc <| .cons ld <| .cons lg <| .cons pp <| .cons pq <| .cons G6 <| .cons XG <| .cons lh <| .cons pr <| .cons pu <| .cons ln <| .cons pw <| .cons ak <| .cons IN <| .cons Uc <| .cons nq <| .cons YE <| .cons XH <| .cons am <| .cons XI <| .cons cd <| .cons Ud <| .cons i4 <| .cons ns <| .cons lq <| .cons fY <| .cons fZ <| .cons nt <| .cons py <| .cons nu <| .cons lr <| .cons i5 <| .cons an <| .cons XJ <| .cons lu <| .cons Zg <| .cons YI <| .cons PW <| .cons i6 <| .cons lw <| .cons nw <| .cons lx <| .cons fa <| .cons cf <| .cons Kr <| .cons ly <| .cons cg <| .cons Ek <| .cons fb <| .cons i7 .nil)
def prims:GK:=fun f args bs=>if f=74 then l7 47 AJ args bs else if f=88 then vN 97 AF args bs else if f=99 then l7 3 (.int .i64) args bs else if f=104 then l7 38 AC args bs else if f=144 then rL 3 145 args bs else if f=161 then yA args bs else if f=162 then vK 38 AC args bs else none
theorem xH:I_ Tryz.prog prims:=fun f args bs rs h=>by
 unfold prims at h
 split at h
 ·rename_i e; subst e; exact l9 xA ye h
 split at h
 ·rename_i e; subst e; exact w_ xB yf h
 split at h
 ·rename_i e; subst e; exact l9 xC yg h
 split at h
 ·rename_i e; subst e; exact l9 vO yF h
 split at h
 ·rename_i e; subst e; exact vM vP Tryz.zeroValue3 vQ h
 split at h
 ·rename_i e; subst e; exact w8 vR h
 split at h
 ·rename_i e; subst e; exact w7 vS yG h
 cases h
abbrev cP:GK:=pK fns prims
def cG {ρ:Type} (c:AH) (kn kr:St->Option ρ) (ke:Nat->St->Option ρ):St->Option ρ:=GU cP KQ c kn kr ke
def lG {ρ:Type} (c:AH) (hs:List (Nat×Nat)) (l:List Nat) (n:Nat) (kr:St->Option ρ) (ke:Nat->St->Option ρ):St->Option ρ:=KQ fun go s'=>GU cP KQ c (fun s''=>go (s''.cutH hs l n)) kr ke s'
def kJ {ρ:Type} (c:AH) (hs:List (Nat×Nat)) (l:List Nat) (n:Nat) (kn kr:St->Option ρ) (ke:Nat->St->Option ρ):St->Option ρ:=fun s=>cG c kn kr ke (s.cutH hs l n)
def kB {ρ:Type} (hs:List (Nat×Nat)) (l:List Nat) (n:Nat) (kn:St->Option ρ):St->Option ρ:=fun s=>kn (s.cutH hs l n)
def kE {ρ:Type} (b:Nat) (hs:List (Nat×Nat)) (l:List Nat) (n:Nat) (kn:St->Option ρ) (ke:Nat->St->Option ρ):Nat->St->Option ρ:=fun i s=>if i=b then kn (s.cutH hs l n) else ke i s
def kx {ρ:Type}:Nat->St->Option ρ:=fun _ _=>none
def cF (f:Nat) (a:BM) (x b:List AV):Option (RT a.outs):=(cP f x b).bind (Cf a.outs)
theorem cT (a:BM) {f:Nat} {x b:List AV} {t:Option (RT a.outs)} {r:RT a.outs} (hf:fns f=some a) (hl:x.length=a.params.length/\b.length=(Dv a.params 0).length) (e:vF cP a x b=t) (h:t=some r):cF f a x b=some r:=sI hf hl (e.trans h)
theorem jS {ρ:Type} {t w:Option ρ} {r:ρ} (e:w=t) (h:t=some r):w=some r:=e.trans h
theorem lS {ρ:Type} {c:AH} {hs:List (Nat×Nat)} {l:List Nat} {n:Nat} {kr:St->Option ρ} {ke:Nat->St->Option ρ} {s:St} {t:Option ρ} {r:ρ} (e:GU cP KQ c (fun s=>lG c hs l n kr ke (s.cutH hs l n)) kr ke s=t) (h:t=some r):lG c hs l n kr ke s=some r:=t_ (e.trans h)
def YJ (x0:List Int):Option Bool:=cF 5 BT [.lst (.int .u8) x0] []
def aq (x0:List Int):Option Bool:=cF 9 Ua [.lst (.int .u8) x0] []
def OA (x0:List Int):Option (List (List Int)×List AY):=cF 10 Jg [.lst (.int .u8) x0] []
def OB (x0:List (List Int)) (x1:List AY):Option (AB×List Int×Bool):=cF 11 BA [.lst (.slice (.int .i64)) x0,.lst Ae x1] []
def Ff (x0:O):Option Bool:=cF 13 Fd [.agg (U.enc x0)] []
def G7 (x0:AD):Option Int:=cF 17 PQ [.agg (AJ.enc x0)] []
def YK (x0:AB) (x1:Int):Option AB:=cF 18 Gv [.agg (Ag.enc x0),.int .i64 x1] []
def Uf (x0:List AD):Option Bool:=cF 19 Dp [.lst AJ x0] []
def Ug (x0:List AD):Option Bool:=cF 20 CJ [.lst AJ x0] []
def Uh (x0:List AD):Option Bool:=cF 21 CY [.lst AJ x0] []
def Ui (x0:List AD):Option Bool:=cF 22 DE [.lst AJ x0] []
def P5 (x1:List Int) (b0:AP):Option (UW×AP):=cF 32 Dy [.ptr 0 0,.lst (.int .u8) x1] [.agg (BC.enc b0)]
def SP (x0:List Int):Option AP:=cF 33 Dq [.lst (.int .u8) x0] []
def OC (x0:List (List Int)):Option (AB×Bool):=cF 34 DS [.lst (.slice (.int .i64)) x0] []
def P6 (x0:AY):Option Bool:=cF 35 GW [.agg (Ae.enc x0)] []
def G8 (x1:AY) (x2:Int) (b0:AB):Option (Bool×AB):=cF 36 G4 [.ptr 0 0,.agg (Ae.enc x1),.int .i64 x2] [.agg (Aa.enc b0)]
def SQ (x0:Bool):Option Int:=cF 37 NM [.bool x0] []
def Cb (x0:AB):Option AB:=cF 38 BI [.agg (Ag.enc x0)] []
def OD (x0:List (List Int)):Option (AB×Bool):=cF 39 DU [.lst (.slice (.int .i64)) x0] []
def Uj (x1:Int) (x2:AY) (b0:AB):Option (Int×AB):=cF 41 PR [.ptr 0 0,.int .i64 x1,.agg (Ae.enc x2)] [.agg (Ag.enc b0)]
def Ds (x0:Int):Option Bool:=cF 43 NN [.int .i64 x0] []
def Af (x0 x1 x2:Int):Option Bool:=cF 44 LI [.int .i64 x0,.int .i64 x1,.int .i64 x2] []
def G9 (x0:List Int) (x1 x2:Int):Option Bool:=cF 45 CO [.lst (.int .i64) x0,.int .i64 x1,.int .i64 x2] []
def FD (x0:List Y):Option Bool:=cF 46 Dz [.lst AC x0] []
def C7 (b0:O):Option (Bool×O):=cF 47 Fs [.ptr 0 0] [.agg (U.enc b0)]
def GH (x0:AD):Option Bool:=cF 48 NO [.agg (AJ.enc x0)] []
def Lb (x0:AD):Option Int:=cF 49 PS [.agg (AJ.enc x0)] []
def IP (b0:AB):Option (Bool×AB):=cF 50 Ad [.ptr 0 0] [.agg (Ag.enc b0)]
def D4 (x1 x2:Int) (b0:AB):Option AB:=cF 51 Ft [.ptr 0 0,.int .i64 x1,.int .i64 x2] [.agg (Aa.enc b0)]
def Uk (x0:List AD) (x1:AD):Option Bool:=cF 52 PT [.lst AJ x0,.agg (AJ.enc x1)] []
def SS (x0 x1:AD):Option Bool:=cF 53 NP [.agg (AJ.enc x0),.agg (AJ.enc x1)] []
def AX (x0 x1 x2:Int):Option Bool:=cF 56 PU [.int .i64 x0,.int .i64 x1,.int .i64 x2] []
def Cd (x0:List Int) (x1:Int):Option Bool:=cF 57 DZ [.lst (.int .i64) x0,.int .i64 x1] []
def Dt (x0:List Int) (x1:Int):Option Bool:=cF 59 Fu [.lst (.int .i64) x0,.int .i64 x1] []
def FE (b0:AP):Option (Int×AP):=cF 61 LK [.ptr 0 0] [.agg (BC.enc b0)]
def CT (x1:Int) (b0:AP):Option (Int×AP):=cF 62 Jh [.ptr 0 0,.int .i64 x1] [.agg (BC.enc b0)]
def OE (b0:AP):Option (List (List Int)×AP):=cF 63 Bu [.ptr 0 0] [.agg (BC.enc b0)]
def P7 (b0:AP) (b1:AB):Option (AY×AP×AB):=cF 64 BL [.ptr 0 0,.ptr 1 0] [.agg (BC.enc b0),.agg (Ag.enc b1)]
def DF (x0:List (List Int)):Option Bool:=cF 65 Bw [.lst (.slice (.int .i64)) x0] []
def Ir (x0:List (List Int)):Option (List (List Int)):=cF 66 C2 [.lst (.slice (.int .i64)) x0] []
def Mw (x0:Int) (x1:List (List Int)):Option (O×Bool):=cF 67 E5 [.int .i64 x0,.lst (.slice (.int .i64)) x1] []
def Lc (x0 x1:Int) (x2 x3:ByteArray):Option Bool:=cF 68 Im [.int .i64 x0,.int .i64 x1,.str x2,.str x3] []
def J6 (x1:AY) (x2:Int) (b0:AB):Option (Bool×AB):=cF 69 G5 [.ptr 0 0,.agg (Ae.enc x1),.int .i64 x2] [.agg (Aa.enc b0)]
def J7 (x1:AY) (x2:Int) (b0:AB):Option (Bool×AB):=cF 70 CP [.ptr 0 0,.agg (Ae.enc x1),.int .i64 x2] [.agg (Aa.enc b0)]
def Bp (x1:Int) (b0:AB):Option (Int×AB):=cF 71 GP [.ptr 0 0,.int .i64 x1] [.agg (Aa.enc b0)]
def Rd (x0:O):Option O:=cF 72 RL [.agg (U.enc x0)] []
def IQ (x1:AY) (x2:Int) (b0:AB):Option (Bool×AB):=cF 73 Fv [.ptr 0 0,.agg (Ae.enc x1),.int .i64 x2] [.agg (Aa.enc b0)]
def Cl (x0:O):Option O:=cF 75 Hn [.agg (U.enc x0)] []
def Gf (x0:Z):Option Z:=cF 76 LL [.agg (AF.enc x0)] []
def D5 (x0:List (List Int)):Option Bool:=cF 77 D0 [.lst (.slice (.int .i64)) x0] []
def JB (x0:List (List Int)):Option (List (List Int)):=cF 78 CH [.lst (.slice (.int .i64)) x0] []
def Mx (x0:Int) (x1:List (List Int)):Option (O×Bool):=cF 79 E6 [.int .i64 x0,.lst (.slice (.int .i64)) x1] []
def OF (x1:Int) (x2:AY) (b0:AB):Option (Int×AB):=cF 80 Ji [.ptr 0 0,.int .i64 x1,.agg (Ae.enc x2)] [.agg (Ag.enc b0)]
def OG (x1 x2:Int) (b0:AB):Option (Int×AB):=cF 81 DV [.ptr 0 0,.int .i64 x1,.int .i64 x2] [.agg (Ag.enc b0)]
def E7 (x1:O) (x2:List Z) (x3:List AE) (x4:Int) (b0:AB):Option AB:=cF 82 CZ [.ptr 0 0,.agg (U.enc x1),.lst AF x2,.lst Ar x3,.int .i64 x4] [.agg (Ag.enc b0)]
def YL (x0:O):Option O:=cF 83 RN [.agg (U.enc x0)] []
def ST (x1:Int) (x2:AY) (b0:AB):Option (Int×AB):=cF 84 NQ [.ptr 0 0,.int .i64 x1,.agg (Ae.enc x2)] [.agg (Ag.enc b0)]
def D6 (x0:O):Option O:=cF 86 LN [.agg (U.enc x0)] []
def PZ (x0:ByteArray):Option Bool:=cF 87 PV [.str x0] []
def Ld (x0:O) (x1:List (List Int)) (x2:Z):Option (O×List Z×List AE):=cF 89 GZ [.agg (U.enc x0),.lst (.slice (.int .i64)) x1,.agg (AF.enc x2)] []
def Fx (x1:List Z) (x2:List AE) (x3:Int) (b0:AB):Option AB:=cF 90 CK [.ptr 0 0,.lst AF x1,.lst Ar x2,.int .i64 x3] [.agg (Aa.enc b0)]
def CE (x0:List AD) (x1:AD):Option Bool:=cF 91 BQ [.lst AJ x0,.clo 92 AJ x1] []
def P8 (x0 x1:AD):Option Bool:=cF 92 LO [.agg (AJ.enc x0),.fptr [.int .i64 x1.1,.str x1.2.1,.str x1.2.2.1,.int .i64 x1.2.2.2.1,.int .i64 x1.2.2.2.2.1,.int .i64 x1.2.2.2.2.2.1,.int .i64 x1.2.2.2.2.2.2.1,.int .i64 x1.2.2.2.2.2.2.2.1,.str x1.2.2.2.2.2.2.2.2] 0] []
def DG (x0:List Int) (x1:Int):Option Int:=cF 95 Bf [.lst (.int .i64) x0,.int .i64 x1] []
def Hq (x1:List Int) (b0:AP):Option (Int×AP):=cF 96 Ho [.ptr 0 0,.lst (.int .i64) x1] [.agg (BC.enc b0)]
def DH (x1:Int) (b0:AP):Option (Bool×AP):=cF 97 LP [.ptr 0 0,.int .i64 x1] [.agg (BC.enc b0)]
def Le (x1:List ByteArray) (b0:AP):Option (ByteArray×AP):=cF 98 LQ [.ptr 0 0,.lst .str x1] [.agg (BC.enc b0)]
def Pa (x0:O) (x1:List (List Int)) (x2 x3:Int) (x4 x5:ByteArray):Option (O×List Z×List AE×Bool):=cF 100 Dr [.agg (U.enc x0),.lst (.slice (.int .i64)) x1,.int .i64 x2,.int .i64 x3,.str x4,.str x5] []
def Pb (x0:O) (x1:List (List Int)) (x2:Int):Option (O×List Z×Bool):=cF 101 Fw [.agg (U.enc x0),.lst (.slice (.int .i64)) x1,.int .i64 x2] []
def B_ (x0:List O) (x1:Int):Option Int:=cF 102 AU [.lst U x0,.clo 103 (.int .i64) x1] []
def Hc (x0:O) (x1:Int):Option Bool:=cF 103 FR [.agg (U.enc x0),.fptr [.int .i64 x1] 0] []
def P9 (x0:List Int):Option Bool:=cF 105 D1 [.lst (.int .i64) x0] []
def Ul (x0:O) (x1:List (List Int)) (x2 x3:Int) (x4 x5:ByteArray):Option (O×List Z×List AE×Bool):=cF 106 Bo [.agg (U.enc x0),.lst (.slice (.int .i64)) x1,.int .i64 x2,.int .i64 x3,.str x4,.str x5] []
def Um (x0:O) (x1:List (List Int)) (x2:Int):Option (O×List Z×Bool):=cF 107 Cs [.agg (U.enc x0),.lst (.slice (.int .i64)) x1,.int .i64 x2] []
def P_ (x0:O) (x1:List (List Int)) (x2:Z):Option (O×List Z×List AE):=cF 108 Bg [.agg (U.enc x0),.lst (.slice (.int .i64)) x1,.agg (AF.enc x2)] []
def Un (x0:Z):Option Bool:=cF 109 Eh [.agg (AF.enc x0)] []
def J8 (x1:List (List Int)) (x2:Z) (b0:O):Option (List Z×List AE×O):=cF 110 B9 [.ptr 0 0,.lst (.slice (.int .i64)) x1,.agg (AF.enc x2)] [.agg (U.enc b0)]
def CQ (x0:List AD) (x1:AD):Option Int:=cF 111 Ab [.lst AJ x0,.clo 92 AJ x1] []
def G_ (x1:List (List Int)) (b0:O):Option (Bool×O):=cF 113 Ca [.ptr 0 0,.lst (.slice (.int .i64)) x1] [.agg (U.enc b0)]
def NR (x0:List Y) (x1:ByteArray):Option Y:=cF 114 Er [.lst AC x0,.str x1] []
def B3 (x1:List Int) (b0:O):Option (List Int×O):=cF 115 B2 [.ptr 0 0,.lst (.int .i64) x1] [.agg (U.enc b0)]
def Cn (b0:List Int):Option (List Int):=cF 116 FS [.row 0] [.new 3 (.int .i64) b0]
def HA (b0:O):Option (List AE×O):=cF 117 Dh [.ptr 0 0] [.agg (U.enc b0)]
def Ai (x1:List Int) (x2:Z) (b0:O):Option (List Z×O):=cF 118 Bm [.ptr 0 0,.lst (.int .i64) x1,.agg (AF.enc x2)] [.agg (U.enc b0)]
def Fy (b0:O):Option O:=cF 119 Hp [.ptr 0 0] [.agg (U.enc b0)]
def DI (x1:List Int) (x2:List Y) (b0:O):Option (List Z×O):=cF 120 Ei [.ptr 0 0,.lst (.int .i64) x1,.lst AC x2] [.agg (U.enc b0)]
def Fg (x0:O):Option Bool:=cF 121 Fe [.agg (U.enc x0)] []
def NS (x0:List Y) (x1:ByteArray):Option Y:=cF 122 Es [.lst AC x0,.str x1] []
def IR (x0:List Y) (x1:Y):Option (List Y):=cF 123 Ax [.lst AC x0,.agg (AC.enc x1)] []
def Gg (x0:List Int) (x1:Int):Option (List Int):=cF 124 C5 [.lst (.int .i64) x0,.int .i64 x1] []
def Gh (b0:O):Option (List AE×O):=cF 125 In [.ptr 0 0] [.agg (U.enc b0)]
def NT (x1:List Int) (x2:List Y) (b0:O):Option (List Z×O):=cF 126 Et [.ptr 0 0,.lst (.int .i64) x1,.lst AC x2] [.agg (U.enc b0)]
def Uo (x0:Z):Option Bool:=cF 127 Ej [.agg (AF.enc x0)] []
def SU (x0:O) (x1:List Int) (x2:Z):Option (O×List Z×List AE):=cF 128 CS [.agg (U.enc x0),.lst (.int .i64) x1,.agg (AF.enc x2)] []
def Lf (x0:O) (x1:Int):Option O:=cF 129 LX [.agg (U.enc x0),.int .i64 x1] []
def EK (x0:O) (x1:Z) (x2:Int):Option (List Z):=cF 130 Jj [.agg (U.enc x0),.agg (AF.enc x1),.int .i64 x2] []
def J9 (x1:List (List Int)) (x2:Z) (b0:O):Option (List Z×O):=cF 131 Di [.ptr 0 0,.lst (.slice (.int .i64)) x1,.agg (AF.enc x2)] [.agg (U.enc b0)]
def Hd (x1:List Int) (x2:Z) (b0:O):Option (List Z×O):=cF 132 BW [.ptr 0 0,.lst (.int .i64) x1,.agg (AF.enc x2)] [.agg (U.enc b0)]
def Lg (x0:List Int) (x1:Int):Option (List Int):=cF 133 LY [.lst (.int .i64) x0,.int .i64 x1] []
def JC (x1:Z) (b0:O):Option (List Z×O):=cF 134 DQ [.ptr 0 0,.agg (AF.enc x1)] [.agg (U.enc b0)]
def Fz (x1:Int) (x2:Z) (b0:O):Option (List AE×O):=cF 135 C6 [.ptr 0 0,.int .i64 x1,.agg (AF.enc x2)] [.agg (U.enc b0)]
def CL (x1 x2 x3:Int) (b0:List Int):Option (List Int):=cF 137 AW [.row 0,.int .i64 x1,.int .i64 x2,.int .i64 x3] [.new 3 (.int .i64) b0]
def OH (x0:Int):Option Int:=cF 138 Jk [.int .u64 x0] []
def Lh (x0:List Y) (x1:Y):Option (List Y):=cF 139 D2 [.lst AC x0,.agg (AC.enc x1)] []
def DB (x0:List Int):Option Bool:=cF 140 Eu [.lst (.int .i64) x0] []
def DJ (x0:List Y):Option Bool:=cF 141 D3 [.lst AC x0] []
def My (x0:pL):Option Bool:=cF 142 Io [.agg (K9.enc x0)] []
def Hr (x0:List Int) (x1:Int):Option (List Int):=cF 143 Cj [.lst (.int .i64) x0,.int .i64 x1] []
def C_ (x1 x2:Int) (b0:List Int):Option (List Int):=cF 148 AS [.row 0,.int .i64 x1,.int .i64 x2] [.new 3 (.int .i64) b0]
def Li (x0 x1:Int):Option Bool:=cF 154 La [.int .i64 x0,.int .i64 x1] []
def Lj (x0:Int):Option Int:=cF 158 Ck [.int .u64 x0] []
def BO (x0:List Y) (x1:ByteArray) (x2:Unit):Option (Int×Bool):=cF 159 AI [.lst AC x0,.str x1,.fn 160 []] []
def Is (x0:Y) (x1:ByteArray):Option Int:=cF 160 Ip [.agg (AC.enc x0),.str x1] []
def Jm (x0:Int):Option Bool:=cF 169 Jl [.int .i64 x0] []
def Cz (q0:List AD):Option (List AD):=(cP 74 [.lst AJ q0] []).bind (Cf [(.own 47 AJ)])
def Ba (q0:List Z) (q1 q2:Int):Option (List Z):=(cP 88 [.new 97 AF q0,.int .i64 q1,.int .i64 q2] []).bind (Cf [(.own 97 AF)])
def Bh (q0:List Int):Option (List Int):=(cP 99 [.lst (.int .i64) q0] []).bind (Cf [(.own 3 (.int .i64))])
def Ah (q0:List Y):Option (List Y):=(cP 104 [.lst AC q0] []).bind (Cf [(.own 38 AC)])
def El (q0:List Int) (q1:Int):Option (List Int):=(cP 144 [.new 3 (.int .i64) q0,.clo 145 (.int .i64) q1] []).bind (Cf [(.own 3 (.int .i64))])
def OI (q0 q1:Int) (q2:List Int):Option (List Int):=(cP 149 [.row 0,.int .i64 q0,.int .i64 q1] [.new 3 (.int .i64) q2]).bind (Cf [(.own 3 (.int .i64))])
def Kt (q0 q1:Int) (q2:List Int):Option (List Int):=(cP 150 [.row 0,.int .i64 q0,.int .i64 q1] [.new 3 (.int .i64) q2]).bind (Cf [(.own 3 (.int .i64))])
def MR (q0 q1:Int) (q2:List Int):Option (Int×Int×List Int):=(cP 151 [.row 0,.int .i64 q0,.int .i64 q1] [.new 3 (.int .i64) q2]).bind (Cf [(.int .i64),(.int .i64),(.own 3 (.int .i64))])
def Lk (q0 q1:Int) (q2:List Int):Option (List Int):=(cP 152 [.row 0,.int .i64 q0,.int .i64 q1] [.new 3 (.int .i64) q2]).bind (Cf [(.own 3 (.int .i64))])
def He (q0 q1:Int) (q2:List Int):Option (Bool×List Int):=(cP 153 [.row 0,.int .i64 q0,.int .i64 q1] [.new 3 (.int .i64) q2]).bind (Cf [.bool,(.own 3 (.int .i64))])
def J_ (q0 q1 q2:Int) (q3:List Int):Option (Int×List Int):=(cP 155 [.row 0,.int .i64 q0,.int .i64 q1,.int .i64 q2] [.new 3 (.int .i64) q3]).bind (Cf [(.int .i64),(.own 3 (.int .i64))])
def Nl (q0 q1 q2:Int) (q3:List Int):Option (Int×Bool×List Int):=(cP 156 [.row 0,.int .i64 q0,.int .i64 q1,.int .i64 q2] [.new 3 (.int .i64) q3]).bind (Cf [(.int .i64),.bool,(.own 3 (.int .i64))])
def Co (q0:List Y) (q1:Int) (q2:List Y):Option (List Y):=(cP 162 [.new 38 AC q0,.int .i64 q1,.new 38 AC q2] []).bind (Cf [(.own 38 AC)])
def Ll (q0 q1:ByteArray):Option Int:=(cP 161 [.str q0,.str q1] []).bind (Cf [(.int .i64)])
theorem KA {x0:List AD} (h:x0.length<=68719476736):Cz x0=some x0:=by
 unfold Cz cP
 rw [Mr (r:=[.new 47 AJ x0]) rfl (l8 (t:=47) (K:=AJ) (xs:=x0) h)]
 rfl
theorem FZ {x0:List Z} {i j:Nat} (hi:i<=j) (hj:j<=x0.length):Ba x0 (i:Int) (j:Int)=some (x0.take i++x0.drop j):=by
 unfold Ba cP
 rw [Mr (r:=[.new 97 AF (x0.take i++x0.drop j)]) rfl (w9 (t:=97) (K:=AF) (xs:=x0) hi hj)]
 rfl
theorem Cc {x0:List Int} (h:x0.length<=68719476736):Bh x0=some x0:=by
 unfold Bh cP
 rw [Mr (r:=[.new 3 (.int .i64) x0]) rfl (l8 (t:=3) (K:=(.int .i64)) (xs:=x0) h)]
 rfl
theorem A_ {x0:List Y} (h:x0.length<=68719476736):Ah x0=some x0:=by
 unfold Ah cP
 rw [Mr (r:=[.new 38 AC x0]) rfl (l8 (t:=38) (K:=AC) (xs:=x0) h)]
 rfl
theorem Pc {x0:List Int} {x1:Int}:El x0 x1=some (x0.filter fun x=>!(x==x1)):=by
 unfold El cP
 rw [Mr (fns:=fns) (prims:=prims) (f:=144) (args:=[.new 3 (.int .i64) x0,.clo 145 (.int .i64) x1]) (bs:=[]) (r:=[.new 3 (.int .i64) (x0.filter fun x=>!(x==x1))]) rfl (vL (t:=3) (g:=145) (xs:=x0) (n:=x1))]
 rfl
theorem cn {x0 x1:ByteArray}:Ll x0 x1=some (Go.Lib.compareBytes x0.data.toList x1.data.toList):=by
 unfold Ll cP
 rw [Mr (r:=[.int .i64 (Go.Lib.compareBytes x0.data.toList x1.data.toList)]) rfl rfl]
 rfl
theorem JT {x0:List Y} {i:Nat} {x2:List Y} (h:x0.length+x2.length<=68719476736) (hi:i<=x0.length) (hv:x2.length≠0):Co x0 (i:Int) x2=some (x0.take i++x2++x0.drop i):=by
 unfold Co cP
 rw [Mr (r:=[.new 38 AC (x0.take i++x2++x0.drop i)]) rfl (w6 (t:=38) (K:=AC) (xs:=x0) (vs:=x2) (i:=i) h hi hv)]
 rfl

def fh:=cG LH (AG BT) (AG BT) kx
def Mz:=kE 0 [] [5,8] 2 fh kx
def Re:St->Option (RT (BM.outs BT)):=lG Qy [] [5,8,9] 2 (AG BT) Mz
def fi:=kB [] [5,8,9] 2 Re
def TM:=cG Qx fi (AG BT) Mz
def fj:=kB [] [5,8,9] 2 TM
def fk:=kE 1 [] [5,8,9] 2 TM Mz
def fm:=kE 2 [] [5,8,9] 3 fj fk
def cp:St->Option (RT (BM.outs BT)):=lG Sw [] [5,8,9,10,11] 3 (AG BT) fm
def Bi (x0 x1:Int) (x2 x3:AB) (x4:AD):Option Bool:=cp ⟨[(5,.ptr 0 0),(8,.ptr 1 0),(9,.int .i64 x0),(10,.ptr 2 0),(11,.int .i64 x1)],[.var (Ag.enc x2),.var (Ag.enc x3),.var (AJ.enc x4)]⟩
def Rf (x0 x1:AB):Option Bool:=cG LH (AG BT) (AG BT) kx ⟨[(5,.ptr 0 0),(8,.ptr 1 0)],[.var (Ag.enc x0),.var (Ag.enc x1)]⟩
def Hs (x0:Int) (x1 x2:AB):Option Bool:=Re ⟨[(5,.ptr 0 0),(8,.ptr 1 0),(9,.int .i64 x0)],[.var (Ag.enc x1),.var (Ag.enc x2)]⟩
def Rg (x0:Bool) (x1:AB):Option Bool:=cG Qz (AG BT) (AG BT) kx ⟨[(5,.ptr 0 0),(36,.bool x0)],[.var (Ag.enc x1)]⟩
def Ln (x0 x1:Int) (x2 x3:AB) (x4:AD):Option Bool:=(if (decide (x1<(x3.2.2.2.length:Int)))=true then (if 0<=x1 then (if x1<(x3.2.2.2.length:Int) then (if (x4.1==2)=true then (if (decide (x4.2.2.2.2.1>=0))=true then (if (((x3.2.2.2.getD x1.toNat (0,ByteArray.empty,ByteArray.empty,0,0,0,0,0,ByteArray.empty)).1)==1)=true then (if (decide (((((((x3.2.2.2.getD x1.toNat (0,ByteArray.empty,ByteArray.empty,0,0,0,0,0,ByteArray.empty)).2).2).2).2).1)>=0))=true then (if ((((x3.2.2.2.getD x1.toNat (0,ByteArray.empty,ByteArray.empty,0,0,0,0,0,ByteArray.empty)).2).1).toList==x4.2.1.toList)=true then (if (decide (((((((x3.2.2.2.getD x1.toNat (0,ByteArray.empty,ByteArray.empty,0,0,0,0,0,ByteArray.empty)).2).2).2).2).1)<x4.2.2.2.1))=true then (if (decide (x4.2.2.2.2.2.1<(((((((x3.2.2.2.getD x1.toNat (0,ByteArray.empty,ByteArray.empty,0,0,0,0,0,ByteArray.empty)).2).2).2).2).2).1)))=false then (if (x4.2.2.2.2.2.1==(((((((x3.2.2.2.getD x1.toNat (0,ByteArray.empty,ByteArray.empty,0,0,0,0,0,ByteArray.empty)).2).2).2).2).2).1))=true then (if (!(x4.2.2.2.2.2.2.2.2.toList==((((x3.2.2.2.getD x1.toNat (0,ByteArray.empty,ByteArray.empty,0,0,0,0,0,ByteArray.empty)).2).2).1).toList))=true then (some false) else (Bi x0 (i64.wrap (x1+1)) x2 x3 x4)) else (Bi x0 (i64.wrap (x1+1)) x2 x3 x4)) else (some false)) else (Bi x0 (i64.wrap (x1+1)) x2 x3 x4)) else (Bi x0 (i64.wrap (x1+1)) x2 x3 x4)) else (Bi x0 (i64.wrap (x1+1)) x2 x3 x4)) else (Bi x0 (i64.wrap (x1+1)) x2 x3 x4)) else (Bi x0 (i64.wrap (x1+1)) x2 x3 x4)) else (Bi x0 (i64.wrap (x1+1)) x2 x3 x4)) else none) else none) else (Hs (i64.wrap (x0+1)) x2 x3))
def Rh (x0 x1:AB):Option Bool:=((Uf x1.2.2.2).bind fun y5=>(if y5=true then ((Ug x1.2.2.2).bind fun y6=>(if y6=true then ((Uh x1.2.2.2).bind fun y7=>(if y7=true then ((Ui x1.2.2.2).bind fun y8=>(if y8=true then (some ((x1.2.2.2.length:Int)==(x0.2.2.2.length:Int))) else (some false))) else (some false))) else (some false))) else (some false)))
def Lo (x0:Int) (x1 x2:AB):Option Bool:=(if (decide (x0<(x2.2.2.2.length:Int)))=true then (if 0<=x0 then (if x0<(x2.2.2.2.length:Int) then (Bi x0 0 x1 x2 (x2.2.2.2.getD x0.toNat (0,ByteArray.empty,ByteArray.empty,0,0,0,0,0,ByteArray.empty))) else none) else none) else (Rf x1 x2))
def Ri (x0:Bool) (x1:AB):Option Bool:=((YK x1 1000).bind fun y4=>(Hs 0 x1 y4))
def YM (x0:List Int):Option Bool:=((aq x0).bind fun y1=>(if y1=true then (some true) else ((OA x0).bind fun y2=>((OB y2.1 y2.2).bind fun y3=>(if (!y3.2.2)=false then (if ((y3.1.1.length:Int) != (y2.1.length:Int))=true then (some false) else (Rg ((y3.1.1.length:Int) != (y2.1.length:Int)) y3.1)) else (some false))))))
theorem Rj:sL Ln Bi:=lS (by kernel_rfl)
theorem cq:Oi Rh Rf:=jS (by kernel_rfl)
theorem Rk:Qw Lo Hs:=lS (by kernel_rfl)
theorem cr:Oi Ri Rg:=jS (by kernel_rfl)
theorem l_:PP YM YJ:=cT BT rfl ⟨rfl,rfl⟩ (by kernel_rfl)
def sP (x0:List Int):Option Bool:=(some (decide ((x0.length:Int)>1048576)))
theorem sQ:PP sP aq:=cT Ua rfl ⟨rfl,rfl⟩ (by kernel_rfl)
def WK (x0:List Int):Option (List (List Int)×List AY):=((SP x0).bind fun y1=>((P5 x0 y1).bind fun y2=>(some (y2.1.1,y2.1.2))))
theorem i8:PP WK OA:=cT Jg rfl ⟨rfl,rfl⟩ (by kernel_rfl)
def ct:=cG Ps (AG BA) (AG BA) kx
def cv:=kE 2 [(11,11)] [4,7,11] 12 ct kx
def ar:St->Option (RT (BM.outs BA)):=lG Pr [(11,11)] [4,7,11,39,40,41] 12 (AG BA) cv
def cw:=cG Jz (AG BA) (AG BA) kx
def cz:=kE 0 [] [1,4,7] 11 cw kx
def au:St->Option (RT (BM.outs BA)):=lG Q0 [] [1,4,7,28,29,30] 11 (AG BA) cz
def FF (x0:List AY) (x1 x2:Int) (x3:List O) (x4:List Z) (x5:List AD) (x6:List (List Int)) (x7:List O) (x8:List Z) (x9:List AD) (x10:List (List Int)) (x11:List Int):Option (AB×List Int×Bool):=ar ⟨[(4,.ptr 3 0),(7,.ptr 10 0),(11,.row 11),(39,.lst Ae x0),(40,.int .i64 x1),(41,.int .i64 x2)],[.rows 42 U x3,.rows 97 AF x4,.rows 47 AJ x5,.var [.lst (.slice (.int .i64)) x6,.row 0,.row 1,.row 2],.dead,.dead,.dead,.rows 42 U x7,.rows 97 AF x8,.rows 47 AJ x9,.var [.lst (.slice (.int .i64)) x10,.row 7,.row 8,.row 9],.rows 3 (.int .i64) x11]⟩
def QA (x0:List AY) (x1:List O) (x2:List Z) (x3:List AD) (x4:List (List Int)) (x5:List O) (x6:List Z) (x7:List AD) (x8:List (List Int)):Option (AB×List Int×Bool):=cG Jz (AG BA) (AG BA) kx ⟨[(1,.lst Ae x0),(4,.ptr 3 0),(7,.ptr 10 0)],[.rows 42 U x1,.rows 97 AF x2,.rows 47 AJ x3,.var [.lst (.slice (.int .i64)) x4,.row 0,.row 1,.row 2],.dead,.dead,.dead,.rows 42 U x5,.rows 97 AF x6,.rows 47 AJ x7,.var [.lst (.slice (.int .i64)) x8,.row 7,.row 8,.row 9]]⟩
def FH (x0 x1:List AY) (x2 x3:Int) (x4:List O) (x5:List Z) (x6:List AD) (x7:List (List Int)) (x8:List O) (x9:List Z) (x10:List AD) (x11:List (List Int)):Option (AB×List Int×Bool):=au ⟨[(1,.lst Ae x0),(4,.ptr 3 0),(7,.ptr 10 0),(28,.lst Ae x1),(29,.int .i64 x2),(30,.int .i64 x3)],[.rows 42 U x4,.rows 97 AF x5,.rows 47 AJ x6,.var [.lst (.slice (.int .i64)) x7,.row 0,.row 1,.row 2],.dead,.dead,.dead,.rows 42 U x8,.rows 97 AF x9,.rows 47 AJ x10,.var [.lst (.slice (.int .i64)) x11,.row 7,.row 8,.row 9]]⟩
def QB (x0:List AY) (x1:Bool) (x2:List O) (x3:List Z) (x4:List AD) (x5:List (List Int)) (x6:List O) (x7:List Z) (x8:List AD) (x9:List (List Int)):Option (AB×List Int×Bool):=cG Pt (AG BA) (AG BA) kx ⟨[(1,.lst Ae x0),(4,.ptr 3 0),(7,.ptr 10 0),(26,.bool x1)],[.rows 42 U x2,.rows 97 AF x3,.rows 47 AJ x4,.var [.lst (.slice (.int .i64)) x5,.row 0,.row 1,.row 2],.dead,.dead,.dead,.rows 42 U x6,.rows 97 AF x7,.rows 47 AJ x8,.var [.lst (.slice (.int .i64)) x9,.row 7,.row 8,.row 9]]⟩
def KB (x0:List AY) (x1 x2:Int) (x3:List O) (x4:List Z) (x5:List AD) (x6:List (List Int)) (x7:List O) (x8:List Z) (x9:List AD) (x10:List (List Int)) (x11:List Int):Option (AB×List Int×Bool):=(if (decide (x2<x1))=true then (if 0<=x2 then (if x2<(x0.length:Int) then ((G8 (x0.getD x2.toNat (0,0,0,0,ByteArray.empty,ByteArray.empty)) x2 (x10,x7,x8,x9)).bind fun y3=>((SQ y3.1).bind fun y4=>(if x11.length+([y4]:List Int).length<=68719476736 then (FF x0 x1 (i64.wrap (x2+1)) x3 x4 x5 x6 y3.2.2.1 y3.2.2.2.1 y3.2.2.2.2 y3.2.1 (x11++([y4]:List Int))) else none))) else none) else none) else ((Cb (x10,x7,x8,x9)).bind fun y5=>(some (y5,x11,true))))
def QC (x0:List AY) (x1:List O) (x2:List Z) (x3:List AD) (x4:List (List Int)) (x5:List O) (x6:List Z) (x7:List AD) (x8:List (List Int)):Option (AB×List Int×Bool):=(FF x0 (x0.length:Int) 0 x1 x2 x3 x4 x5 x6 x7 x8 ([]:List Int))
def KC (x0 x1:List AY) (x2 x3:Int) (x4:List O) (x5:List Z) (x6:List AD) (x7:List (List Int)) (x8:List O) (x9:List Z) (x10:List AD) (x11:List (List Int)):Option (AB×List Int×Bool):=(if (decide (x3<x2))=true then (if 0<=x3 then (if x3<(x1.length:Int) then ((P6 (x1.getD x3.toNat (0,0,0,0,ByteArray.empty,ByteArray.empty))).bind fun y2=>(if (!y2)=true then (some (([],([]:List O),([]:List Z),([]:List AD)),[],false)) else (FH x0 x1 x2 (i64.wrap (x3+1)) x4 x5 x6 x7 x8 x9 x10 x11))) else none) else none) else (QA x0 x4 x5 x6 x7 x8 x9 x10 x11))
def QD (x0:List AY) (x1:Bool) (x2:List O) (x3:List Z) (x4:List AD) (x5:List (List Int)) (x6:List O) (x7:List Z) (x8:List AD) (x9:List (List Int)):Option (AB×List Int×Bool):=(FH x0 x0 (x0.length:Int) 0 x2 x3 x4 x5 x6 x7 x8 x9)
def WL (x0:List (List Int)) (x1:List AY):Option (AB×List Int×Bool):=((OC x0).bind fun y1=>(if (!y1.2)=false then (if (decide ((x1.length:Int)>70))=true then (some (([],([]:List O),([]:List Z),([]:List AD)),[],false)) else (QB x1 (decide ((x1.length:Int)>70)) ([]:List O) ([]:List Z) ([]:List AD) ([]:List (List Int)) y1.1.2.1 y1.1.2.2.1 y1.1.2.2.2 y1.1.1)) else (some (([],([]:List O),([]:List Z),([]:List AD)),[],false))))
theorem QE:x_ KB FF:=lS (by kernel_rfl)
theorem ax:yP QC QA:=jS (by kernel_rfl)
theorem QF:x_ KC FH:=lS (by kernel_rfl)
theorem ay:rD QD QB:=jS (by kernel_rfl)
theorem i9:Oi WL OB:=cT BA rfl ⟨rfl,rfl⟩ (by kernel_rfl)
def KD (x0:Bool) (x1:O):Option Bool:=cG Q1 (AG Fd) (AG Fd) kx ⟨[(1,.ptr 0 0),(30,.bool x0)],[.var (U.enc x1)]⟩
def QG (x0:Bool) (x1:O):Option Bool:=(if x1.2.2.2.2.2.1=true then (if (!x1.2.2.2.1)=false then (if (!x1.2.2.2.2.1)=false then (if (decide ((x1.2.2.2.2.2.2.1.length:Int)>0))=false then (if x1.2.2.1=true then (if x1.2.2.2.1=false then (if x1.2.2.2.2.1=true then (some false) else ((C7 x1).bind fun y6=>(some y6.1))) else (some false)) else ((C7 x1).bind fun y7=>(some y7.1))) else (some false)) else (some false)) else (some false)) else (if x1.2.2.1=true then (if x1.2.2.2.1=false then (if x1.2.2.2.2.1=true then (some false) else ((C7 x1).bind fun y8=>(some y8.1))) else (some false)) else ((C7 x1).bind fun y9=>(some y9.1))))
def WM (x0:O):Option Bool:=((Ds x0.1).bind fun y1=>(if (!y1)=false then ((Af x0.2.1 1 9).bind fun y2=>(if (!y2)=false then ((G9 x0.2.2.2.2.2.2.1 1 6).bind fun y3=>(if (!y3)=false then ((FD x0.2.2.2.2.2.2.2.1).bind fun y4=>(if (!y4)=false then ((Af x0.2.2.2.2.2.2.2.2.1 0 900).bind fun y5=>(if (!y5)=true then (some false) else (KD (!y5) x0))) else (some false))) else (some false))) else (some false))) else (some false)))
theorem az:Oi QG KD:=jS (by kernel_rfl)
theorem i_:PP WM Ff:=cT Fd rfl ⟨rfl,rfl⟩ (by kernel_rfl)
def c_ (x0:AD):Option Int:=((Af x0.2.2.2.2.2.2.1 0 9).bind fun y1=>(if (!y1)=false then ((Af x0.2.2.2.2.2.2.2.1 0 999).bind fun y2=>(if (!y2)=true then (some 0) else (some (i64.wrap ((i64.wrap (1000*x0.2.2.2.2.2.2.1))+x0.2.2.2.2.2.2.2.1))))) else (some 0)))
theorem p_:PP c_ G7:=cT PQ rfl ⟨rfl,rfl⟩ (by kernel_rfl)
def nx:=cG aA (AG Gv) (AG Gv) kx
def ny:=kE 0 [] [4,5] 12 nx kx
def mA:St->Option (RT (BM.outs Gv)):=lG Z_ [] [4,5,6] 12 (AG Gv) ny
def Lq (x0:Int) (x1:AB) (x2:List O) (x3:List Z) (x4:List AD) (x5:List (List Int)) (x6:List O) (x7:List Z) (x8:List AD) (x9:List (List Int)):Option AB:=mA ⟨[(4,.ptr 4 0),(5,.ptr 11 0),(6,.int .i64 x0)],[.var (Ag.enc x1),.rows 42 U x2,.rows 97 AF x3,.rows 47 AJ x4,.var [.lst (.slice (.int .i64)) x5,.row 1,.row 2,.row 3],.dead,.dead,.dead,.rows 42 U x6,.rows 97 AF x7,.rows 47 AJ x8,.var [.lst (.slice (.int .i64)) x9,.row 8,.row 9,.row 10]]⟩
def QH (x0:Int) (x1:AB) (x2:List O) (x3:List Z) (x4:List AD) (x5:List (List Int)) (x6:List O) (x7:List Z) (x8:List AD) (x9:List (List Int)):Option AB:=(if (decide (x0>0))=true then (if (decide ((x7.length:Int)>0))=true then ((D4 0 70 (x9,x6,x7,x8)).bind fun y3=>(Lq (i64.wrap (x0-1)) x1 x2 x3 x4 x5 y3.2.1 y3.2.2.1 y3.2.2.2 y3.1)) else ((Cb (x9,x6,x7,x8)).bind fun y4=>(some y4))) else ((Cb (x9,x6,x7,x8)).bind fun y5=>(some y5)))
def iR (x0:AB) (x1:Int):Option AB:=((Cb x0).bind fun y1=>((IP x0).bind fun y2=>(if (!y2.1)=true then (some y1) else (Lq (min x1 1000) y2.2 ([]:List O) ([]:List Z) ([]:List AD) ([]:List (List Int)) y1.2.1 y1.2.2.1 y1.2.2.2 y1.1))))
theorem YN:rD QH Lq:=lS (by kernel_rfl)
theorem rO:Oi iR YK:=cT Gv rfl ⟨rfl,rfl⟩ (by kernel_rfl)
def mB:=cG VH (AG Dp) (AG Dp) kx
def QI:=kE 0 [] [] 0 mB kx
def WN:St->Option (RT (BM.outs Dp)):=lG VG [] [0,5,6,7] 0 (AG Dp) QI
def mC:=kB [] [0,5,6,7] 0 WN
def YO:=cG Xx mC (AG Dp) QI
def mD:=kB [] [0,5,6,7] 0 YO
def mE:=kE 1 [] [0,5,6,7] 0 YO QI
def OJ (x0 x1:List AD) (x2 x3:Int) (x4:Bool) (x5:AD):Option Bool:=cG Xw mD (AG Dp) mE ⟨[(0,.lst AJ x0),(4,.ptr 0 0),(5,.lst AJ x1),(6,.int .i64 x2),(7,.int .i64 x3),(18,.bool x4)],[.var (AJ.enc x5)]⟩
def EL (x0 x1:List AD) (x2 x3:Int):Option Bool:=WN ⟨[(0,.lst AJ x0),(5,.lst AJ x1),(6,.int .i64 x2),(7,.int .i64 x3)],[]⟩
def WO (x0 x1:List AD) (x2 x3:Int) (x4:Bool) (x5:AD):Option Bool:=(if (x5.2.2.2.2.2.1==0)=true then (if (!(x5.2.2.2.2.2.2.2.2.toList==(⟨#[]⟩:ByteArray).toList))=true then (some false) else (EL x0 x1 x2 (i64.wrap (x3+1)))) else ((Uk x0 x5).bind fun y2=>(if (!y2)=true then (some false) else ((G7 x5).bind fun y3=>(if (decide (x5.2.2.2.2.2.1>y3))=true then (some false) else (EL x0 x1 x2 (i64.wrap (x3+1))))))))
def OK (x0 x1:List AD) (x2 x3:Int):Option Bool:=(if (decide (x3<x2))=true then (if 0<=x3 then (if x3<(x1.length:Int) then (if (((x1.getD x3.toNat (0,ByteArray.empty,ByteArray.empty,0,0,0,0,0,ByteArray.empty)).1) != 2)=false then ((GH (x1.getD x3.toNat (0,ByteArray.empty,ByteArray.empty,0,0,0,0,0,ByteArray.empty))).bind fun y1=>(if (!y1)=true then (EL x0 x1 x2 (i64.wrap (x3+1))) else (OJ x0 x1 x2 x3 (!y1) (x1.getD x3.toNat (0,ByteArray.empty,ByteArray.empty,0,0,0,0,0,ByteArray.empty))))) else (EL x0 x1 x2 (i64.wrap (x3+1)))) else none) else none) else (some true))
def dA (x0:List AD):Option Bool:=(EL x0 x0 (x0.length:Int) 0)
theorem jA:uC WO OJ:=jS (by kernel_rfl)
theorem WP:bl OK EL:=lS (by kernel_rfl)
theorem qA:PP dA Uf:=cT Dp rfl ⟨rfl,rfl⟩ (by kernel_rfl)
def mF:=cG VL (AG CJ) (AG CJ) kx
def QJ:=kE 0 [] [] 0 mF kx
def WQ:St->Option (RT (BM.outs CJ)):=lG VK [] [0,3] 0 (AG CJ) QJ
def mG:=kB [] [0,3] 0 WQ
def YP:=cG VJ mG (AG CJ) QJ
def QK:=kB [] [0,3] 0 YP
def Lr:=kE 1 [] [0,3] 0 YP QJ
def mH:=cG N_ QK (AG CJ) Lr
def mI:=kE 2 [] [0,3,4,5] 1 mH Lr
def jB:St->Option (RT (BM.outs CJ)):=lG Xy [] [0,3,4,5,6] 1 (AG CJ) mI
def OL (x0:List AD) (x1:Int) (x2:Bool) (x3:AD):Option Bool:=cG N_ QK (AG CJ) Lr ⟨[(0,.lst AJ x0),(3,.int .i64 x1),(4,.ptr 0 0),(5,.bool x2)],[.var (AJ.enc x3)]⟩
def Fh (x0:List AD) (x1:Int) (x2:Bool) (x3:Int) (x4:AD):Option Bool:=jB ⟨[(0,.lst AJ x0),(3,.int .i64 x1),(4,.ptr 0 0),(5,.bool x2),(6,.int .i64 x3)],[.var (AJ.enc x4)]⟩
def OM (x0:List AD) (x1:Int) (x2:Bool) (x3:AD):Option Bool:=cG VI QK (AG CJ) Lr ⟨[(0,.lst AJ x0),(3,.int .i64 x1),(4,.ptr 0 0),(24,.bool x2)],[.var (AJ.enc x3)]⟩
def EM (x0:List AD) (x1:Int):Option Bool:=WQ ⟨[(0,.lst AJ x0),(3,.int .i64 x1)],[]⟩
def WR (x0:List AD) (x1:Int) (x2:Bool) (x3:AD):Option Bool:=(if (!x2)=true then (some false) else ((Lb x3).bind fun y2=>(if (decide (x3.2.2.2.2.2.1>y2))=true then (some false) else (EM x0 (i64.wrap (x1+1))))))
def ON (x0:List AD) (x1:Int) (x2:Bool) (x3:Int) (x4:AD):Option Bool:=(if (decide (x3<(x0.length:Int)))=true then (if x2=true then (Fh x0 x1 true (i64.wrap (x3+1)) x4) else (if 0<=x3 then (if x3<(x0.length:Int) then ((SS x4 (x0.getD x3.toNat (0,ByteArray.empty,ByteArray.empty,0,0,0,0,0,ByteArray.empty))).bind fun y1=>(Fh x0 x1 y1 (i64.wrap (x3+1)) x4)) else none) else none)) else (OL x0 x1 x2 x4))
def WS (x0:List AD) (x1:Int) (x2:Bool) (x3:AD):Option Bool:=(if (x3.2.2.2.2.2.1==0)=true then (if (!(x3.2.2.2.2.2.2.2.2.toList==(⟨#[]⟩:ByteArray).toList))=true then (some false) else (EM x0 (i64.wrap (x1+1)))) else (Fh x0 x1 false 0 x3))
def OO (x0:List AD) (x1:Int):Option Bool:=(if (decide (x1<(x0.length:Int)))=true then (if 0<=x1 then (if x1<(x0.length:Int) then (if (((x0.getD x1.toNat (0,ByteArray.empty,ByteArray.empty,0,0,0,0,0,ByteArray.empty)).1) != 2)=false then (if (decide (((((((x0.getD x1.toNat (0,ByteArray.empty,ByteArray.empty,0,0,0,0,0,ByteArray.empty)).2).2).2).2).1)<0))=true then (EM x0 (i64.wrap (x1+1))) else (OM x0 x1 (decide (((((((x0.getD x1.toNat (0,ByteArray.empty,ByteArray.empty,0,0,0,0,0,ByteArray.empty)).2).2).2).2).1)<0)) (x0.getD x1.toNat (0,ByteArray.empty,ByteArray.empty,0,0,0,0,0,ByteArray.empty)))) else (EM x0 (i64.wrap (x1+1)))) else none) else none) else (some true))
def dB (x0:List AD):Option Bool:=(EM x0 0)
theorem jC:bl WR OL:=jS (by kernel_rfl)
theorem WT:sL ON Fh:=lS (by kernel_rfl)
theorem jD:bl WS OM:=jS (by kernel_rfl)
theorem WU:Oi OO EM:=lS (by kernel_rfl)
theorem qB:PP dB Ug:=cT CJ rfl ⟨rfl,rfl⟩ (by kernel_rfl)
def mJ:=cG VU (AG CY) (AG CY) kx
def QL:=kE 0 [] [] 0 mJ kx
def WV:St->Option (RT (BM.outs CY)):=lG VT [] [0,8,9,10] 0 (AG CY) QL
def mK:=kB [] [0,8,9,10] 0 WV
def YQ:=cG VS mK (AG CY) QL
def mL:=kB [] [0,8,9,10] 0 YQ
def mM:=kE 1 [] [0,8,9,10] 0 YQ QL
def QM:=kE 2 [] [0,8,9,10] 1 mL mM
def WW:St->Option (RT (BM.outs CY)):=lG VR [] [0,4,8,9,10,22,23,24] 1 (AG CY) QM
def mN:=kB [] [0,4,8,9,10,22,23,24] 1 WW
def YR:=cG VQ mN (AG CY) QM
def mO:=kB [] [0,4,8,9,10,22,23,24] 1 YR
def jE:=kE 3 [] [0,4,8,9,10,22,23,24] 1 YR QM
def CU (x0:List AD) (x1:Bool) (x2:List AD) (x3 x4:Int) (x5:List AD) (x6 x7:Int) (x8 x9:AD):Option Bool:=cG VP mO (AG CY) jE ⟨[(0,.lst AJ x0),(4,.ptr 0 0),(6,.ptr 1 0),(7,.bool x1),(8,.lst AJ x2),(9,.int .i64 x3),(10,.int .i64 x4),(22,.lst AJ x5),(23,.int .i64 x6),(24,.int .i64 x7)],[.var (AJ.enc x8),.var (AJ.enc x9)]⟩
def HN (x0 x1:List AD) (x2 x3:Int) (x4:List AD) (x5 x6:Int) (x7:AD):Option Bool:=WW ⟨[(0,.lst AJ x0),(4,.ptr 0 0),(8,.lst AJ x1),(9,.int .i64 x2),(10,.int .i64 x3),(22,.lst AJ x4),(23,.int .i64 x5),(24,.int .i64 x6)],[.var (AJ.enc x7)]⟩
def Fi (x0 x1:List AD) (x2 x3:Int):Option Bool:=WV ⟨[(0,.lst AJ x0),(8,.lst AJ x1),(9,.int .i64 x2),(10,.int .i64 x3)],[]⟩
def WX (x0:List AD) (x1:Bool) (x2:List AD) (x3 x4:Int) (x5:List AD) (x6 x7:Int) (x8 x9:AD):Option Bool:=(if x1=true then (if (decide (x8.2.2.2.2.2.1<x9.2.2.2.2.2.1))=true then (some false) else (HN x0 x2 x3 x4 x5 x6 (i64.wrap (x7+1)) x8)) else (HN x0 x2 x3 x4 x5 x6 (i64.wrap (x7+1)) x8))
def OP (x0 x1:List AD) (x2 x3:Int) (x4:List AD) (x5 x6:Int) (x7:AD):Option Bool:=(if (decide (x6<x5))=true then (if 0<=x6 then (if x6<(x4.length:Int) then (if (((x4.getD x6.toNat (0,ByteArray.empty,ByteArray.empty,0,0,0,0,0,ByteArray.empty)).1)==1)=true then (if ((((x4.getD x6.toNat (0,ByteArray.empty,ByteArray.empty,0,0,0,0,0,ByteArray.empty)).2).1).toList==x7.2.1.toList)=true then ((GH (x4.getD x6.toNat (0,ByteArray.empty,ByteArray.empty,0,0,0,0,0,ByteArray.empty))).bind fun y2=>(if y2=true then ((G7 (x4.getD x6.toNat (0,ByteArray.empty,ByteArray.empty,0,0,0,0,0,ByteArray.empty))).bind fun y3=>((G7 x7).bind fun y4=>(CU x0 (decide (y3<y4)) x1 x2 x3 x4 x5 x6 x7 (x4.getD x6.toNat (0,ByteArray.empty,ByteArray.empty,0,0,0,0,0,ByteArray.empty))))) else (CU x0 false x1 x2 x3 x4 x5 x6 x7 (x4.getD x6.toNat (0,ByteArray.empty,ByteArray.empty,0,0,0,0,0,ByteArray.empty))))) else (CU x0 false x1 x2 x3 x4 x5 x6 x7 (x4.getD x6.toNat (0,ByteArray.empty,ByteArray.empty,0,0,0,0,0,ByteArray.empty)))) else (if (((x4.getD x6.toNat (0,ByteArray.empty,ByteArray.empty,0,0,0,0,0,ByteArray.empty)).1)==2)=true then (if ((((x4.getD x6.toNat (0,ByteArray.empty,ByteArray.empty,0,0,0,0,0,ByteArray.empty)).2).1).toList==x7.2.1.toList)=true then ((GH (x4.getD x6.toNat (0,ByteArray.empty,ByteArray.empty,0,0,0,0,0,ByteArray.empty))).bind fun y5=>(if y5=true then ((G7 (x4.getD x6.toNat (0,ByteArray.empty,ByteArray.empty,0,0,0,0,0,ByteArray.empty))).bind fun y6=>((G7 x7).bind fun y7=>(CU x0 (decide (y6<y7)) x1 x2 x3 x4 x5 x6 x7 (x4.getD x6.toNat (0,ByteArray.empty,ByteArray.empty,0,0,0,0,0,ByteArray.empty))))) else (CU x0 false x1 x2 x3 x4 x5 x6 x7 (x4.getD x6.toNat (0,ByteArray.empty,ByteArray.empty,0,0,0,0,0,ByteArray.empty))))) else (CU x0 false x1 x2 x3 x4 x5 x6 x7 (x4.getD x6.toNat (0,ByteArray.empty,ByteArray.empty,0,0,0,0,0,ByteArray.empty)))) else (CU x0 false x1 x2 x3 x4 x5 x6 x7 (x4.getD x6.toNat (0,ByteArray.empty,ByteArray.empty,0,0,0,0,0,ByteArray.empty))))) else none) else none) else (Fi x0 x1 x2 (i64.wrap (x3+1))))
def OQ (x0 x1:List AD) (x2 x3:Int):Option Bool:=(if (decide (x3<x2))=true then (if 0<=x3 then (if x3<(x1.length:Int) then (if (((x1.getD x3.toNat (0,ByteArray.empty,ByteArray.empty,0,0,0,0,0,ByteArray.empty)).1) != 2)=false then ((GH (x1.getD x3.toNat (0,ByteArray.empty,ByteArray.empty,0,0,0,0,0,ByteArray.empty))).bind fun y1=>(if (!y1)=true then (Fi x0 x1 x2 (i64.wrap (x3+1))) else (HN x0 x1 x2 x3 x0 (x0.length:Int) 0 (x1.getD x3.toNat (0,ByteArray.empty,ByteArray.empty,0,0,0,0,0,ByteArray.empty))))) else (Fi x0 x1 x2 (i64.wrap (x3+1)))) else none) else none) else (some true))
def dC (x0:List AD):Option Bool:=(Fi x0 x0 (x0.length:Int) 0)
theorem jF:rD WX CU:=jS (by kernel_rfl)
theorem WY:s_ OP HN:=lS (by kernel_rfl)
theorem WZ:bl OQ Fi:=lS (by kernel_rfl)
theorem qC:PP dC Uh:=cT CY rfl ⟨rfl,rfl⟩ (by kernel_rfl)
def mP:=cG Vc (AG DE) (AG DE) kx
def QN:=kE 0 [] [] 0 mP kx
def Wa:St->Option (RT (BM.outs DE)):=lG Vb [] [0,3] 0 (AG DE) QN
def mQ:=kB [] [0,3] 0 Wa
def YS:=cG Va mQ (AG DE) QN
def mR:=kB [] [0,3] 0 YS
def mS:=kE 1 [] [0,3] 0 YS QN
def mT:=kE 2 [] [0,3] 0 mR mS
def jG:St->Option (RT (BM.outs DE)):=lG VZ [] [0,3,4] 0 (AG DE) mT
def Ct (x0:List AD) (x1 x2:Int):Option Bool:=jG ⟨[(0,.lst AJ x0),(3,.int .i64 x1),(4,.int .i64 x2)],[]⟩
def Jn (x0:List AD) (x1:Int):Option Bool:=Wa ⟨[(0,.lst AJ x0),(3,.int .i64 x1)],[]⟩
def OR (x0:List AD) (x1 x2:Int):Option Bool:=(if (decide (x2<(x0.length:Int)))=true then (if 0<=x1 then (if x1<(x0.length:Int) then (if 0<=x2 then (if x2<(x0.length:Int) then (if (((x0.getD x1.toNat (0,ByteArray.empty,ByteArray.empty,0,0,0,0,0,ByteArray.empty)).1)==2)=true then (if (decide (((((((x0.getD x1.toNat (0,ByteArray.empty,ByteArray.empty,0,0,0,0,0,ByteArray.empty)).2).2).2).2).1)>=0))=true then (if (decide (((((((x0.getD x2.toNat (0,ByteArray.empty,ByteArray.empty,0,0,0,0,0,ByteArray.empty)).2).2).2).2).1)>=0))=true then (if ((((x0.getD x2.toNat (0,ByteArray.empty,ByteArray.empty,0,0,0,0,0,ByteArray.empty)).2).1).toList==(((x0.getD x1.toNat (0,ByteArray.empty,ByteArray.empty,0,0,0,0,0,ByteArray.empty)).2).1).toList)=true then ((Lb (x0.getD x2.toNat (0,ByteArray.empty,ByteArray.empty,0,0,0,0,0,ByteArray.empty))).bind fun y1=>((Lb (x0.getD x1.toNat (0,ByteArray.empty,ByteArray.empty,0,0,0,0,0,ByteArray.empty))).bind fun y2=>(if (decide (y1<y2))=true then (if (decide ((((((((x0.getD x2.toNat (0,ByteArray.empty,ByteArray.empty,0,0,0,0,0,ByteArray.empty)).2).2).2).2).2).1)>(((((((x0.getD x1.toNat (0,ByteArray.empty,ByteArray.empty,0,0,0,0,0,ByteArray.empty)).2).2).2).2).2).1)))=true then (some false) else (Ct x0 x1 (i64.wrap (x2+1)))) else (Ct x0 x1 (i64.wrap (x2+1)))))) else (Ct x0 x1 (i64.wrap (x2+1)))) else (Ct x0 x1 (i64.wrap (x2+1)))) else (Ct x0 x1 (i64.wrap (x2+1)))) else (Ct x0 x1 (i64.wrap (x2+1)))) else none) else none) else none) else none) else (Jn x0 (i64.wrap (x1+1))))
def OS (x0:List AD) (x1:Int):Option Bool:=(if (decide (x1<(x0.length:Int)))=true then (Ct x0 x1 0) else (some true))
def dD (x0:List AD):Option Bool:=(Jn x0 0)
theorem Wb:Qw OR Ct:=lS (by kernel_rfl)
theorem Wc:Oi OS Jn:=lS (by kernel_rfl)
theorem qD:PP dD Ui:=cT DE rfl ⟨rfl,rfl⟩ (by kernel_rfl)
def fo:=cG Sy (AG Dy) (AG Dy) kx
def fp:=kE 0 [] [4,5] 6 fo kx
def dE:St->Option (RT (BM.outs Dy)):=lG Sx [] [0,4,5,6,8,9] 6 (AG Dy) fp
def EC (x0 x1:Int) (x2:AP) (x3:List AY) (x4:List (List Int)) (x5:List AY) (x6:List (List Int)) (x7:AB):Option (UW×AP):=dE ⟨[(0,.ptr 0 0),(4,.ptr 2 0),(5,.ptr 4 0),(6,.ptr 5 0),(8,.int .i64 x0),(9,.int .i64 x1)],[.var (BC.enc x2),.rows 55 Ae x3,.var [.lst (.slice (.int .i64)) x4,.row 1],.rows 55 Ae x5,.var [.lst (.slice (.int .i64)) x6,.row 3],.var (Ag.enc x7)]⟩
def Ls (x0 x1:Int) (x2:AP) (x3:List AY) (x4:List (List Int)) (x5:List AY) (x6:List (List Int)) (x7:AB):Option (UW×AP):=(if (decide (x1<x0))=true then ((P7 x2 x7).bind fun y3=>((Uj x1 y3.1 y3.2.2).bind fun y4=>(if x5.length+([y3.1]:List AY).length<=68719476736 then (EC x0 (i64.wrap (x1+1)) y3.2.1 x3 x4 (x5++([y3.1]:List AY)) x6 y4.2) else none))) else (some ((x6,x5),x2)))
def QO (x1:List Int) (b0:AP):Option (UW×AP):=((OE b0).bind fun y1=>((OD y1.1).bind fun y2=>(if 4=0 then none else (if (decide ((i64.wrap (20+(i64.wrap (Int.tdiv (x1.length:Int) 4))))>69))=true then (EC 69 0 y1.2 ([]:List AY) ([]:List (List Int)) ([]:List AY) y1.1 y2.1) else (EC (i64.wrap (20+(i64.wrap (Int.tdiv (x1.length:Int) 4)))) 0 y1.2 ([]:List AY) ([]:List (List Int)) ([]:List AY) y1.1 y2.1)))))
theorem Rl:s_ Ls EC:=lS (by kernel_rfl)
theorem YT:Oi QO P5:=cT Dy rfl ⟨rfl,rfl⟩ (by kernel_rfl)
def jH:=cG Vf (AG Dq) (AG Dq) kx
def Wd:=kE 0 [] [0,3] 0 jH kx
def TN:St->Option (RT (BM.outs Dq)):=lG Ve [] [0,3,4] 0 (AG Dq) Wd
def jI:=kB [] [0,3,4] 0 TN
def TO (x0:List Int) (x1 x2:Int) (x3:Bool):Option AP:=cG Vd jI (AG Dq) Wd ⟨[(0,.lst (.int .u8) x0),(3,.int .i64 x1),(4,.int .i64 x2),(15,.bool x3)],[]⟩
def It (x0:List Int) (x1 x2:Int):Option AP:=TN ⟨[(0,.lst (.int .u8) x0),(3,.int .i64 x1),(4,.int .i64 x2)],[]⟩
def TP (x0:List Int) (x1 x2:Int) (x3:Bool):Option AP:=(if 0<=x2 then (if x2<(x0.length:Int) then (It x0 (Kv .i64 (i64.wrap ((i64.wrap ((i64.wrap (x1*131))+(i64.wrap (x0.getD x2.toNat 0))))+7)) 1073741823) (i64.wrap (x2+1))) else none) else none)
def Iu (x0:List Int) (x1 x2:Int):Option AP:=(if (decide (x2<(x0.length:Int)))=true then (if (decide (x2<4000))=true then (TO x0 x1 x2 (decide (x2<4000))) else (some (x0,0,x1))) else (some (x0,0,x1)))
def nz (x0:List Int):Option AP:=(It x0 (i64.wrap (14301+(x0.length:Int))) 0)
theorem fq:bl TP TO:=jS (by kernel_rfl)
theorem M0:Qw Iu It:=lS (by kernel_rfl)
theorem n5:PP nz SP:=cT Dq rfl ⟨rfl,rfl⟩ (by kernel_rfl)
def dF:=cG Q3 (AG DS) (AG DS) kx
def dG:=kE 0 [] [2,4] 8 dF kx
def a_:St->Option (RT (BM.outs DS)):=lG Q2 [] [0,2,4,5] 8 (AG DS) dG
def FI (x0:List (List Int)) (x1:Int) (x2:List O) (x3:List Z) (x4:List AD) (x5:List (List Int)) (x6:List O) (x7:List Z) (x8:List AD) (x9:List (List Int)):Option (AB×Bool):=a_ ⟨[(0,.lst (.slice (.int .i64)) x0),(2,.ptr 3 0),(4,.ptr 7 0),(5,.int .i64 x1)],[.rows 42 U x2,.rows 97 AF x3,.rows 47 AJ x4,.var [.lst (.slice (.int .i64)) x5,.row 0,.row 1,.row 2],.rows 42 U x6,.rows 97 AF x7,.rows 47 AJ x8,.var [.lst (.slice (.int .i64)) x9,.row 4,.row 5,.row 6]]⟩
def KE (x0:List (List Int)) (x1:Int) (x2:List O) (x3:List Z) (x4:List AD) (x5:List (List Int)) (x6:List O) (x7:List Z) (x8:List AD) (x9:List (List Int)):Option (AB×Bool):=(if (decide (x1<=6))=true then ((Mw x1 x0).bind fun y3=>(if x6.length+([y3.1]:List O).length<=68719476736 then (FI x0 (i64.wrap (x1+1)) x2 x3 x4 x5 (x6++([y3.1]:List O)) x7 x8 x9) else none)) else (some ((x9,x6,x7,x8),true)))
def We (x0:List (List Int)):Option (AB×Bool):=((DF x0).bind fun y1=>(if (!y1)=true then (some (([],([]:List O),([]:List Z),([]:List AD)),false)) else ((Ir x0).bind fun y2=>(FI x0 1 ([]:List O) ([]:List Z) ([]:List AD) ([]:List (List Int)) ([]:List O) ([]:List Z) ([]:List AD) y2))))
theorem QP:rD KE FI:=lS (by kernel_rfl)
theorem jJ:PP We OC:=cT DS rfl ⟨rfl,rfl⟩ (by kernel_rfl)
def Lt (x0:Bool) (x1:AY):Option Bool:=cG Sz (AG GW) (AG GW) kx ⟨[(1,.ptr 0 0),(17,.bool x0)],[.var (Ae.enc x1)]⟩
def Rm (x0:Bool) (x1:AY):Option Bool:=(if (x1.1==1)=true then ((Lc x1.2.2.2.1 0 x1.2.2.2.2.1 x1.2.2.2.2.2).bind fun y3=>(some y3)) else (if (x1.2.2.2.1==0)=true then (if (x1.2.2.2.2.1.toList==(⟨#[]⟩:ByteArray).toList)=true then (some (x1.2.2.2.2.2.toList==(⟨#[]⟩:ByteArray).toList)) else (some false)) else (some false)))
def YU (x0:AY):Option Bool:=((Af x0.1 1 6).bind fun y1=>(if (!y1)=false then ((Ds x0.2.1).bind fun y2=>(if (!y2)=false then (if (decide (x0.2.2.1<0))=true then (some false) else (Lt (decide (x0.2.2.1<0)) x0)) else (some false))) else (some false)))
theorem dH:Oi Rm Lt:=jS (by kernel_rfl)
theorem mU:PP YU P6:=cT GW rfl ⟨rfl,rfl⟩ (by kernel_rfl)
def QQ (x1:AY) (x2:Int) (b0:AB):Option (Bool×AB):=(if (x1.1==1)=true then ((J6 x1 x2 b0).bind fun y1=>(some (y1.1,y1.2))) else (if (x1.1==5)=true then ((J7 x1 x2 b0).bind fun y2=>(some (y2.1,y2.2))) else (if (x1.1==6)=true then ((Bp x1.2.1 b0).bind fun y3=>(if 0<=y3.1 then (if y3.1<(y3.2.2.1.length:Int) then ((Rd (y3.2.2.1.getD y3.1.toNat (0,0,false,false,false,false,([]:List Int),([]:List Y),0,0,0,0,(ByteArray.empty,ByteArray.empty,0),([]:List Int)))).bind fun y4=>(if 0<=y3.1 then (if y3.1<(y3.2.2.1.length:Int) then (let z5:List O:=y3.2.2.1.set y3.1.toNat y4; (some (true,(y3.2.1,z5,y3.2.2.2)))) else none) else none)) else none) else none)) else ((IQ x1 x2 b0).bind fun y6=>(some (y6.1,y6.2))))))
theorem bA:Qw QQ G8:=cT G4 rfl ⟨rfl,rfl⟩ (by kernel_rfl)
def aB (x0:Bool):Option Int:=(if x0=true then (some 0) else (some 1))
theorem n6:PP aB SQ:=cT NM rfl ⟨rfl,rfl⟩ (by kernel_rfl)
def bB:=cG Ok (AG BI) (AG BI) kx
def bC:=kE 2 [] [2,3] 10 bB kx
def Zh:St->Option (RT (BM.outs BI)):=lG Oj [] [2,3,31,32,33] 10 (AG BI) bC
def bD:=cG JA (AG BI) (AG BI) kx
def bE:=kE 0 [] [1,2,3] 10 bD kx
def Zi:St->Option (RT (BM.outs BI)):=lG Pu [] [1,2,3,16,17,18] 10 (AG BI) bE
def EV (x0:List Z) (x1 x2:Int) (x3:List (List Int)) (x4:List O) (x5:List Z) (x6:List AD) (x7:List O) (x8:List Z) (x9:List AD) (x10:List (List Int)) (x11:List O) (x12:List Z) (x13:List AD) (x14:List (List Int)):Option AB:=Zh ⟨[(2,.ptr 4 0),(3,.ptr 9 0),(31,.lst AF x0),(32,.int .i64 x1),(33,.int .i64 x2)],[.var [.lst (.slice (.int .i64)) x3,.lst U x4,.lst AF x5,.lst AJ x6],.rows 42 U x7,.rows 97 AF x8,.rows 47 AJ x9,.var [.lst (.slice (.int .i64)) x10,.row 1,.row 2,.row 3],.dead,.rows 42 U x11,.rows 97 AF x12,.rows 47 AJ x13,.var [.lst (.slice (.int .i64)) x14,.row 6,.row 7,.row 8]]⟩
def Oy (x0:List (List Int)) (x1:List O) (x2:List Z) (x3:List AD) (x4:List O) (x5:List Z) (x6:List AD) (x7:List (List Int)) (x8:List O) (x9:List Z) (x10:List AD) (x11:List (List Int)):Option AB:=cG JA (AG BI) (AG BI) kx ⟨[(1,.ptr 0 0),(2,.ptr 4 0),(3,.ptr 9 0)],[.var [.lst (.slice (.int .i64)) x0,.lst U x1,.lst AF x2,.lst AJ x3],.rows 42 U x4,.rows 97 AF x5,.rows 47 AJ x6,.var [.lst (.slice (.int .i64)) x7,.row 1,.row 2,.row 3],.dead,.rows 42 U x8,.rows 97 AF x9,.rows 47 AJ x10,.var [.lst (.slice (.int .i64)) x11,.row 6,.row 7,.row 8]]⟩
def EW (x0:List O) (x1 x2:Int) (x3:List (List Int)) (x4:List O) (x5:List Z) (x6:List AD) (x7:List O) (x8:List Z) (x9:List AD) (x10:List (List Int)) (x11:List O) (x12:List Z) (x13:List AD) (x14:List (List Int)):Option AB:=Zi ⟨[(1,.ptr 0 0),(2,.ptr 4 0),(3,.ptr 9 0),(16,.lst U x0),(17,.int .i64 x1),(18,.int .i64 x2)],[.var [.lst (.slice (.int .i64)) x3,.lst U x4,.lst AF x5,.lst AJ x6],.rows 42 U x7,.rows 97 AF x8,.rows 47 AJ x9,.var [.lst (.slice (.int .i64)) x10,.row 1,.row 2,.row 3],.dead,.rows 42 U x11,.rows 97 AF x12,.rows 47 AJ x13,.var [.lst (.slice (.int .i64)) x14,.row 6,.row 7,.row 8]]⟩
def JD (x0:List Z) (x1 x2:Int) (x3:List (List Int)) (x4:List O) (x5:List Z) (x6:List AD) (x7:List O) (x8:List Z) (x9:List AD) (x10:List (List Int)) (x11:List O) (x12:List Z) (x13:List AD) (x14:List (List Int)):Option AB:=(if (decide (x2<x1))=true then (if 0<=x2 then (if x2<(x0.length:Int) then ((Gf (x0.getD x2.toNat (0,0,0,0,0,([]:List Y)))).bind fun y4=>(if x12.length+([y4]:List Z).length<=68719476736 then (EV x0 x1 (i64.wrap (x2+1)) x3 x4 x5 x6 x7 x8 x9 x10 x11 (x12++([y4]:List Z)) x13 x14) else none)) else none) else none) else (some (x14,x11,x12,x13)))
def Oz (x0:List (List Int)) (x1:List O) (x2:List Z) (x3:List AD) (x4:List O) (x5:List Z) (x6:List AD) (x7:List (List Int)) (x8:List O) (x9:List Z) (x10:List AD) (x11:List (List Int)):Option AB:=(EV x2 (x2.length:Int) 0 x0 x1 x2 x3 x4 x5 x6 x7 x8 x9 x10 x11)
def JE (x0:List O) (x1 x2:Int) (x3:List (List Int)) (x4:List O) (x5:List Z) (x6:List AD) (x7:List O) (x8:List Z) (x9:List AD) (x10:List (List Int)) (x11:List O) (x12:List Z) (x13:List AD) (x14:List (List Int)):Option AB:=(if (decide (x2<x1))=true then (if 0<=x2 then (if x2<(x0.length:Int) then ((Cl (x0.getD x2.toNat (0,0,false,false,false,false,([]:List Int),([]:List Y),0,0,0,0,(ByteArray.empty,ByteArray.empty,0),([]:List Int)))).bind fun y3=>(if x11.length+([y3]:List O).length<=68719476736 then (EW x0 x1 (i64.wrap (x2+1)) x3 x4 x5 x6 x7 x8 x9 x10 (x11++([y3]:List O)) x12 x13 x14) else none)) else none) else none) else (Oy x3 x4 x5 x6 x7 x8 x9 x10 x11 x12 x13 x14))
def TQ (x0:AB):Option AB:=((Ir x0.1).bind fun y1=>((Cz x0.2.2.2).bind fun y2=>(EW x0.2.1 (x0.2.1.length:Int) 0 x0.1 x0.2.1 x0.2.2.1 x0.2.2.2 ([]:List O) ([]:List Z) ([]:List AD) ([]:List (List Int)) ([]:List O) ([]:List Z) y2 y1)))
theorem O0:yd JD EV:=lS (by kernel_rfl)
theorem Zj:x_ Oz Oy:=jS (by kernel_rfl)
theorem O1:yd JE EW:=lS (by kernel_rfl)
theorem fu:PP TQ Cb:=cT BI rfl ⟨rfl,rfl⟩ (by kernel_rfl)
def dI:=cG Q5 (AG DU) (AG DU) kx
def dJ:=kE 0 [] [2,4] 4 dI kx
def bF:St->Option (RT (BM.outs DU)):=lG Q4 [] [0,2,4,5] 4 (AG DU) dJ
def FJ (x0:List (List Int)) (x1:Int) (x2:List O) (x3:List (List Int)) (x4:List Z) (x5:List AD) (x6:List O) (x7:List (List Int)):Option (AB×Bool):=bF ⟨[(0,.lst (.slice (.int .i64)) x0),(2,.ptr 1 0),(4,.ptr 3 0),(5,.int .i64 x1)],[.rows 42 U x2,.var [.lst (.slice (.int .i64)) x3,.row 0,.lst AF x4,.lst AJ x5],.rows 42 U x6,.var [.lst (.slice (.int .i64)) x7,.row 2,.nil,.nil]]⟩
def KF (x0:List (List Int)) (x1:Int) (x2:List O) (x3:List (List Int)) (x4:List Z) (x5:List AD) (x6:List O) (x7:List (List Int)):Option (AB×Bool):=(if (decide (x1<=6))=true then ((Mx x1 x0).bind fun y3=>(if x6.length+([y3.1]:List O).length<=68719476736 then (FJ x0 (i64.wrap (x1+1)) x2 x3 x4 x5 (x6++([y3.1]:List O)) x7) else none)) else (some ((x7,x6,[],[]),true)))
def Wf (x0:List (List Int)):Option (AB×Bool):=((D5 x0).bind fun y1=>(if (!y1)=true then (some (([],([]:List O),[],[]),false)) else ((JB x0).bind fun y2=>(FJ x0 1 ([]:List O) ([]:List (List Int)) ([]:List Z) ([]:List AD) ([]:List O) y2))))
theorem QR:s_ KF FJ:=lS (by kernel_rfl)
theorem jK:PP Wf OD:=cT DU rfl ⟨rfl,rfl⟩ (by kernel_rfl)
def Lu (x1:Int) (x2:AY) (b0:AB):Option (Int×AB):=(if (x2.1==1)=true then ((OF x1 x2 b0).bind fun y1=>(some (y1.1,y1.2))) else (if (x2.1==5)=true then ((OG x1 x2.2.1 b0).bind fun y2=>(some (y2.1,y2.2))) else (if (x2.1==6)=true then (if 0<=(i64.wrap (x2.2.1-1)) then (if (i64.wrap (x2.2.1-1))<(b0.2.1.length:Int) then ((YL (b0.2.1.getD (i64.wrap (x2.2.1-1)).toNat (0,0,false,false,false,false,([]:List Int),([]:List Y),0,0,0,0,(ByteArray.empty,ByteArray.empty,0),([]:List Int)))).bind fun y3=>((E7 y3 ([]:List Z) ([]:List AE) x1 b0).bind fun y4=>(some (0,y4)))) else none) else none) else ((ST x1 x2 b0).bind fun y5=>(some (y5.1,y5.2))))))
theorem qE:Qw Lu Uj:=cT PR rfl ⟨rfl,rfl⟩ (by kernel_rfl)
def aC (x0:Int):Option Bool:=((Af x0 1 6).bind fun y1=>(some y1))
theorem n7:PP aC Ds:=cT NN rfl ⟨rfl,rfl⟩ (by kernel_rfl)
def YV (x0 x1 x2:Int):Option Bool:=(if (decide (x0>=x1))=true then (some (decide (x0<=x2))) else (some false))
theorem mV:Qw YV Af:=cT LI rfl ⟨rfl,rfl⟩ (by kernel_rfl)
def YW:=cG Nf (AG CO) (AG CO) kx
def YX:=kE 0 [] [] 0 YW kx
def XK:St->Option (RT (BM.outs CO)):=lG Nd [] [0,1,2,9,10,11] 0 (AG CO) YX
def Dc (x0:List Int) (x1 x2:Int) (x3:List Int) (x4 x5:Int):Option Bool:=XK ⟨[(0,.lst (.int .i64) x0),(1,.int .i64 x1),(2,.int .i64 x2),(9,.lst (.int .i64) x3),(10,.int .i64 x4),(11,.int .i64 x5)],[]⟩
def Hf (x0:List Int) (x1 x2:Int) (x3:List Int) (x4 x5:Int):Option Bool:=(if (decide (x5<x4))=true then (if 0<=x5 then (if x5<(x3.length:Int) then ((Af (x3.getD x5.toNat 0) x1 x2).bind fun y1=>(if (!y1)=false then (if (decide (x5>0))=true then (if 0<=(i64.wrap (x5-1)) then (if (i64.wrap (x5-1))<(x0.length:Int) then (if (decide ((x3.getD x5.toNat 0)<=(x0.getD (i64.wrap (x5-1)).toNat 0)))=true then (some false) else (Dc x0 x1 x2 x3 x4 (i64.wrap (x5+1)))) else none) else none) else (Dc x0 x1 x2 x3 x4 (i64.wrap (x5+1)))) else (some false))) else none) else none) else (some true))
def QS (x0:List Int) (x1 x2:Int):Option Bool:=(Dc x0 x1 x2 x0 (x0.length:Int) 0)
theorem Mc:uC Hf Dc:=lS (by kernel_rfl)
theorem bG:Qw QS G9:=cT CO rfl ⟨rfl,rfl⟩ (by kernel_rfl)
def fw:=cG Q_ (AG Dz) (AG Dz) kx
def f4:=kE 0 [] [0] 0 fw kx
def dL:St->Option (RT (BM.outs Dz)):=lG Q9 [] [0,5,6,7] 0 (AG Dz) f4
def F0 (x0 x1:List Y) (x2 x3:Int):Option Bool:=dL ⟨[(0,.lst AC x0),(5,.lst AC x1),(6,.int .i64 x2),(7,.int .i64 x3)],[]⟩
def Lv (x0 x1:List Y) (x2 x3:Int):Option Bool:=(if (decide (x3<x2))=true then (if 0<=x3 then (if x3<(x1.length:Int) then ((PZ ((x1.getD x3.toNat (ByteArray.empty,ByteArray.empty,0)).1)).bind fun y1=>(if (!y1)=true then (some false) else (if (decide (((((x1.getD x3.toNat (ByteArray.empty,ByteArray.empty,0)).2).1).size:Int)>20))=true then (some false) else ((Af (((x1.getD x3.toNat (ByteArray.empty,ByteArray.empty,0)).2).2) 1 1000000000).bind fun y2=>(if (!y2)=true then (some false) else (if (decide (x3>0))=true then (if 0<=(i64.wrap (x3-1)) then (if (i64.wrap (x3-1))<(x0.length:Int) then (if ((Op.bytesLess ((x1.getD x3.toNat (ByteArray.empty,ByteArray.empty,0)).1).toList ((x0.getD (i64.wrap (x3-1)).toNat (ByteArray.empty,ByteArray.empty,0)).1).toList)||(((x1.getD x3.toNat (ByteArray.empty,ByteArray.empty,0)).1).toList==((x0.getD (i64.wrap (x3-1)).toNat (ByteArray.empty,ByteArray.empty,0)).1).toList))=true then (some false) else (F0 x0 x1 x2 (i64.wrap (x3+1)))) else none) else none) else (F0 x0 x1 x2 (i64.wrap (x3+1))))))))) else none) else none) else (some (decide ((x0.length:Int)<=12))))
def YY (x0:List Y):Option Bool:=(F0 x0 x0 (x0.length:Int) 0)
theorem Rn:bl Lv F0:=lS (by kernel_rfl)
theorem mW:PP YY FD:=cT Dz rfl ⟨rfl,rfl⟩ (by kernel_rfl)
def Nm (b0:O):Option (Bool×O):=(if (b0.2.2.2.2.2.2.2.2.2.1==0)=true then (if (b0.2.2.2.2.2.2.2.2.2.2.1==0)=true then (if (b0.2.2.2.2.2.2.2.2.2.2.2.1==0)=true then (if (false != XZ AC b0.2.2.2.2.2.2.2.2.2.2.2.2.1 (ByteArray.empty,ByteArray.empty,0))=true then (some (((b0.2.2.2.2.2.2.2.2.2.2.2.2.2.length:Int)==0),b0)) else (some (false,b0))) else (some (false,b0))) else (some (false,b0))) else ((Af b0.2.2.2.2.2.2.2.2.2.1 1 2).bind fun y1=>(if y1=true then (if b0.2.2.2.2.2.1=true then ((Af b0.2.2.2.2.2.2.2.2.2.2.1 0 1000).bind fun y2=>(if y2=true then ((Af b0.2.2.2.2.2.2.2.2.2.2.2.1 1 900).bind fun y3=>(if y3=true then ((G9 b0.2.2.2.2.2.2.2.2.2.2.2.2.2 1 6).bind fun y4=>(some (y4,b0))) else (some (false,b0)))) else (some (false,b0)))) else (some (false,b0))) else (some (false,b0)))))
theorem YZ:PP Nm C7:=cT Fs rfl ⟨rfl,rfl⟩ (by kernel_rfl)
def n8 (x0:AD):Option Bool:=(some (decide (x0.2.2.2.2.1>=0)))
theorem n9:PP n8 GH:=cT NO rfl ⟨rfl,rfl⟩ (by kernel_rfl)
def dM (x0:AD):Option Int:=((AX x0.2.2.2.2.2.2.1 0 9).bind fun y1=>(if (!y1)=false then ((AX x0.2.2.2.2.2.2.2.1 0 999).bind fun y2=>(if (!y2)=true then (some 0) else (some (i64.wrap ((i64.wrap (1000*x0.2.2.2.2.2.2.1))+x0.2.2.2.2.2.2.2.1))))) else (some 0)))
theorem qF:PP dM Lb:=cT PS rfl ⟨rfl,rfl⟩ (by kernel_rfl)

def Up:=cG GX (AG Ad) (AG Ad) kx
def Uq:=kE 2 [] [0] 1 Up kx
def TR:St->Option (RT (BM.outs Ad)):=lG KR [] [0,26,27,28] 1 (AG Ad) Uq
def Ur:=cG GY (AG Ad) (AG Ad) kx
def Us:=kE 0 [] [0] 1 Ur kx
def TS:St->Option (RT (BM.outs Ad)):=lG LJ [] [0,10,11,12] 1 (AG Ad) Us
def KZ (x0:AB):Option (Bool×AB):=cG GX (AG Ad) (AG Ad) kx ⟨[(0,.ptr 0 0)],[.var (Ag.enc x0)]⟩
def ED (x0:List Z) (x1 x2:Int) (x3:AB):Option (Bool×AB):=TR ⟨[(0,.ptr 0 0),(26,.lst AF x0),(27,.int .i64 x1),(28,.int .i64 x2)],[.var (Ag.enc x3)]⟩
def Ka (x0:AB):Option (Bool×AB):=cG GY (AG Ad) (AG Ad) kx ⟨[(0,.ptr 0 0)],[.var (Ag.enc x0)]⟩
def EE (x0:List O) (x1 x2:Int) (x3:AB):Option (Bool×AB):=TS ⟨[(0,.ptr 0 0),(10,.lst U x0),(11,.int .i64 x1),(12,.int .i64 x2)],[.var (Ag.enc x3)]⟩
def Kb (x0:AB):Option (Bool×AB):=(if ((x0.2.1.length:Int)==6)=true then ((DF x0.1).bind fun y2=>(some (y2,x0))) else (some (false,x0)))
def Gi (x0:List Z) (x1 x2:Int) (x3:AB):Option (Bool×AB):=(if (decide (x2<x1))=true then (if 0<=x2 then (if x2<(x0.length:Int) then ((Ds ((((x0.getD x2.toNat (0,0,0,0,0,([]:List Y))).2).2).1)).bind fun y1=>(if (!y1)=true then (some (false,x3)) else (ED x0 x1 (i64.wrap (x2+1)) x3))) else none) else none) else (KZ x3))
def Kc (x0:AB):Option (Bool×AB):=(ED x0.2.2.1 (x0.2.2.1.length:Int) 0 x0)
def Gj (x0:List O) (x1 x2:Int) (x3:AB):Option (Bool×AB):=(if (decide (x2<x1))=true then (if 0<=x2 then (if x2<(x0.length:Int) then (if (((x0.getD x2.toNat (0,0,false,false,false,false,([]:List Int),([]:List Y),0,0,0,0,(ByteArray.empty,ByteArray.empty,0),([]:List Int))).1) != (i64.wrap (x2+1)))=true then (some (false,x3)) else (EE x0 x1 (i64.wrap (x2+1)) x3)) else none) else none) else (Ka x3))
def Nn (b0:AB):Option (Bool×AB):=(EE b0.2.1 (b0.2.1.length:Int) 0 b0)
theorem TU:PP Kb KZ:=jS (by kernel_rfl)
theorem Ke:bl Gi ED:=lS (by kernel_rfl)
theorem TV:PP Kc Ka:=jS (by kernel_rfl)
theorem Kf:bl Gj EE:=lS (by kernel_rfl)
theorem Ya:PP Nn IP:=cT Ad rfl ⟨rfl,rfl⟩ (by kernel_rfl)
def No (x1 x2:Int) (b0:AB):Option AB:=(if 0<=x1 then (if x1<(b0.2.2.1.length:Int) then ((Ba b0.2.2.1 x1 (i64.wrap (x1+1))).bind fun y1=>((Bp ((((b0.2.2.1.getD x1.toNat (0,0,0,0,0,([]:List Y))).2).2).1) (b0.1,b0.2.1,y1,b0.2.2.2)).bind fun y2=>(if (decide (y2.1>=0))=true then (if 0<=y2.1 then (if y2.1<(y2.2.2.1.length:Int) then ((Ld (y2.2.2.1.getD y2.1.toNat (0,0,false,false,false,false,([]:List Int),([]:List Y),0,0,0,0,(ByteArray.empty,ByteArray.empty,0),([]:List Int))) y2.2.1 (b0.2.2.1.getD x1.toNat (0,0,0,0,0,([]:List Y)))).bind fun y3=>(if 0<=y2.1 then (if y2.1<(y2.2.2.1.length:Int) then (let z4:List O:=y2.2.2.1.set y2.1.toNat y3.1; ((Fx y3.2.1 y3.2.2 x2 (y2.2.1,z4,y2.2.2.2)).bind fun y5=>(some y5))) else none) else none)) else none) else none) else (some y2.2)))) else none) else none)
theorem Yb:Qw No D4:=cT Ft rfl ⟨rfl,rfl⟩ (by kernel_rfl)
def dN (x0:List AD) (x1:AD):Option Bool:=((CE x0 x1).bind fun y1=>(some y1))
theorem qG:Oi dN Uk:=cT PT rfl ⟨rfl,rfl⟩ (by kernel_rfl)
def aD (x0 x1:AD):Option Bool:=(if (x1.1==1)=true then (if (x1.2.1.toList==x0.2.1.toList)=true then (if (x1.2.2.1.toList==x0.2.2.2.2.2.2.2.2.toList)=true then (if (decide (x1.2.2.2.2.1<0))=false then (some (x1.2.2.2.2.2.1==x0.2.2.2.2.2.1)) else (some true)) else (some false)) else (some false)) else (some false))
theorem n_:Oi aD SS:=cT NP rfl ⟨rfl,rfl⟩ (by kernel_rfl)
def dO (x0 x1 x2:Int):Option Bool:=(if (decide (x0>=x1))=true then (some (decide (x0<=x2))) else (some false))
theorem qH:Qw dO AX:=cT PU rfl ⟨rfl,rfl⟩ (by kernel_rfl)
def I4 (x0:List Int) (x1:Int):Option Bool:=((DG x0 x1).bind fun y1=>(some (decide (y1>=0))))
theorem Qi:Oi I4 Cd:=cT DZ rfl ⟨rfl,rfl⟩ (by kernel_rfl)
def mX:=cG X4 (AG Fu) (AG Fu) kx
def mY:=kE 0 [] [] 0 mX kx
def jL:St->Option (RT (BM.outs Fu)):=lG X3 [] [0,1,5] 0 (AG Fu) mY
def Jo (x0:List Int) (x1 x2:Int):Option Bool:=jL ⟨[(0,.lst (.int .i64) x0),(1,.int .i64 x1),(5,.int .i64 x2)],[]⟩
def OT (x0:List Int) (x1 x2:Int):Option Bool:=(if (decide (x2<(x0.length:Int)))=true then (if 0<=x2 then (if x2<(x0.length:Int) then (if ((x0.getD x2.toNat 0)==x1)=true then (some true) else (Jo x0 x1 (i64.wrap (x2+1)))) else none) else none) else (some false))
def dP (x0:List Int) (x1:Int):Option Bool:=(Jo x0 x1 0)
theorem Wg:Qw OT Jo:=lS (by kernel_rfl)
theorem qI:Oi dP Dt:=cT Fu rfl ⟨rfl,rfl⟩ (by kernel_rfl)
def QT (b0:AP):Option (Int×AP):=(if 33<0 then none else (if 45<0 then none else (if (decide (b0.2.1<(b0.1.length:Int)))=true then (if 0<=b0.2.1 then (if b0.2.1<(b0.1.length:Int) then (some ((Kv .i64 (i64.wrap ((Kv .i64 (bm .i64 (Int.fdiv (i64.wrap ((i64.wrap (b0.2.2*6364136223846793005))+1442695040888963407)) (2^(min (33:Int).toNat (IntKind.bits .i64)))) (Int.fdiv (i64.wrap ((i64.wrap (b0.2.2*6364136223846793005))+1442695040888963407)) (2^(min (45:Int).toNat (IntKind.bits .i64))))) 255)+(i64.wrap (b0.1.getD b0.2.1.toNat 0)))) 255),(b0.1,(i64.wrap (b0.2.1+1)),(i64.wrap ((i64.wrap (b0.2.2*6364136223846793005))+1442695040888963407))))) else none) else none) else (some ((Kv .i64 (bm .i64 (Int.fdiv (i64.wrap ((i64.wrap (b0.2.2*6364136223846793005))+1442695040888963407)) (2^(min (33:Int).toNat (IntKind.bits .i64)))) (Int.fdiv (i64.wrap ((i64.wrap (b0.2.2*6364136223846793005))+1442695040888963407)) (2^(min (45:Int).toNat (IntKind.bits .i64))))) 255),(b0.1,b0.2.1,(i64.wrap ((i64.wrap (b0.2.2*6364136223846793005))+1442695040888963407))))))))
theorem mZ:PP QT FE:=cT LK rfl ⟨rfl,rfl⟩ (by kernel_rfl)
def OU (x1:Int) (b0:AP):Option (Int×AP):=(if (decide (x1<=0))=true then (some (0,b0)) else (if (decide (x1<=256))=true then ((FE b0).bind fun y1=>(if x1=0 then none else (some ((Int.tmod y1.1 x1),y1.2)))) else ((FE b0).bind fun y2=>((FE y2.2).bind fun y3=>((FE y3.2).bind fun y4=>((FE y4.2).bind fun y5=>(if x1=0 then none else (some ((Int.tmod (i64.wrap ((i64.wrap ((i64.wrap ((i64.wrap (y2.1*16777216))+(i64.wrap (y3.1*65536))))+(i64.wrap (y4.1*256))))+y5.1)) x1),y5.2)))))))))
theorem jM:Oi OU CT:=cT Jh rfl ⟨rfl,rfl⟩ (by kernel_rfl)
def dQ:=cG Px (AG Bu) (AG Bu) kx
def Lw:=kE 0 [(3,1)] [3] 2 dQ kx
def QU:St->Option (RT (BM.outs Bu)):=lG Pw [(3,1)] [0,3,4] 2 (AG Bu) Lw
def dR:=kB [(3,1)] [0,3,4] 2 QU
def Ro:=cG Pv dR (AG Bu) Lw
def dS:=kB [(3,1)] [0,3,4] 2 Ro
def Rp:=kE 1 [(3,1)] [0,3,4] 2 Ro Lw
def dU:=cG RB dS (AG Bu) Rp
def dV:=kE 2 [(3,1),(5,2)] [0,3,4,5] 3 dU Rp
def bH:St->Option (RT (BM.outs Bu)):=lG RA [(3,1),(5,2)] [0,3,4,5,6] 3 (AG Bu) dV
def FK (x0 x1:Int) (x2:AP) (x3:List (List Int)) (x4:List Int):Option (List (List Int)×AP):=bH ⟨[(0,.ptr 0 0),(3,.row 1),(4,.int .i64 x0),(5,.row 2),(6,.int .i64 x1)],[.var (BC.enc x2),.rows 33 (.slice (.int .i64)) x3,.rows 3 (.int .i64) x4]⟩
def FM (x0:Int) (x1:AP) (x2:List (List Int)):Option (List (List Int)×AP):=QU ⟨[(0,.ptr 0 0),(3,.row 1),(4,.int .i64 x0)],[.var (BC.enc x1),.rows 33 (.slice (.int .i64)) x2]⟩
def FN (x0 x1:Int) (x2:AP) (x3:List (List Int)) (x4:List Int):Option (List (List Int)×AP):=((CT 3 x2).bind fun y2=>(if (decide (x1<(i64.wrap (1+y2.1))))=true then ((CT 4 y2.2).bind fun y3=>((Dt x4 (i64.wrap (1+y3.1))).bind fun y4=>(if (!y4)=true then (if x4.length+([(i64.wrap (1+y3.1))]:List Int).length<=68719476736 then (FK x0 (i64.wrap (x1+1)) y3.2 x3 (x4++([(i64.wrap (1+y3.1))]:List Int))) else none) else (FK x0 (i64.wrap (x1+1)) y3.2 x3 x4)))) else (if x3.length+([x4]:List (List Int)).length<=68719476736 then (FM (i64.wrap (x0+1)) y2.2 (x3++([x4]:List (List Int)))) else none)))
def HB (x0:Int) (x1:AP) (x2:List (List Int)):Option (List (List Int)×AP):=((CT 5 x1).bind fun y1=>(if (decide (x0<(i64.wrap (1+y1.1))))=true then (FK x0 0 y1.2 x2 ([]:List Int)) else (some (x2,y1.2))))
def Wh (b0:AP):Option (List (List Int)×AP):=(FM 0 b0 ([]:List (List Int)))
theorem HC:sL FN FK:=lS (by kernel_rfl)
theorem KG:Qw HB FM:=lS (by kernel_rfl)
theorem jN:PP Wh OE:=cT Bu rfl ⟨rfl,rfl⟩ (by kernel_rfl)
def TW:=cG RE (AG BL) (AG BL) kx
def TX:=kB [] [4,5] 4 TW
def TY:=kE 0 [] [4,5] 4 TW kx
def f7:=kE 1 [] [4,5] 6 TX TY
def dW:St->Option (RT (BM.outs BL)):=lG S0 [] [0,1,4,5,6] 6 (AG BL) f7
def f8:=kE 3 [] [4,5] 4 TX TY
def dX:St->Option (RT (BM.outs BL)):=lG RD [] [0,1,4,5,7] 4 (AG BL) f8
def DK (x0:Int) (x1:AP) (x2:AB) (x3 x4:AY) (x5:List Int) (x6:List ByteArray):Option (AY×AP×AB):=dW ⟨[(0,.ptr 0 0),(1,.ptr 1 0),(4,.ptr 2 0),(5,.ptr 3 0),(6,.int .i64 x0)],[.var (BC.enc x1),.var (Ag.enc x2),.var (Ae.enc x3),.var (Ae.enc x4),.frz (.int .i64) x5,.frz .str x6]⟩
def DL (x0:Int) (x1:AP) (x2:AB) (x3 x4:AY):Option (AY×AP×AB):=dX ⟨[(0,.ptr 0 0),(1,.ptr 1 0),(4,.ptr 2 0),(5,.ptr 3 0),(7,.int .i64 x0)],[.var (BC.enc x1),.var (Ag.enc x2),.var (Ae.enc x3),.var (Ae.enc x4)]⟩
def F3 (x0:AP) (x1:AB) (x2 x3:AY):Option (AY×AP×AB):=cG RF (AG BL) (AG BL) kx ⟨[(0,.ptr 0 0),(1,.ptr 1 0),(4,.ptr 2 0),(5,.ptr 3 0)],[.var (BC.enc x0),.var (Ag.enc x1),.var (Ae.enc x2),.var (Ae.enc x3)]⟩
def Ay (x0:AP) (x1:AB) (x2 x3:AY):Option (AY×AP×AB):=cG RG (AG BL) (AG BL) kx ⟨[(0,.ptr 0 0),(1,.ptr 1 0),(4,.ptr 2 0),(5,.ptr 3 0)],[.var (BC.enc x0),.var (Ag.enc x1),.var (Ae.enc x2),.var (Ae.enc x3)]⟩
def Lx (x0:AP) (x1:AB) (x2 x3:AY):Option (AY×AP×AB):=cG RH (AG BL) (AG BL) kx ⟨[(0,.ptr 0 0),(1,.ptr 1 0),(4,.ptr 2 0),(5,.ptr 3 0)],[.var (BC.enc x0),.var (Ag.enc x1),.var (Ae.enc x2),.var (Ae.enc x3)]⟩
def F4 (x0:Int) (x1:AP) (x2:AB) (x3 x4:AY) (x5:List Int) (x6:List ByteArray):Option (AY×AP×AB):=(if (decide (x0<(x2.2.1.length:Int)))=true then (if 0<=x0 then (if x0<(x2.2.1.length:Int) then (if (((((((x2.2.1.getD x0.toNat (0,0,false,false,false,false,([]:List Int),([]:List Y),0,0,0,0,(ByteArray.empty,ByteArray.empty,0),([]:List Int))).2).2).2).2).2).1)=true then ((DH 4 x1).bind fun y10=>(if (!y10.1)=true then (DK (i64.wrap (x0+1)) y10.2 x2 x3 (x4.1,(i64.wrap (x0+1)),x4.2.2) x5 x6) else (DK (i64.wrap (x0+1)) y10.2 x2 x3 x4 x5 x6))) else (DK (i64.wrap (x0+1)) x1 x2 x3 x4 x5 x6)) else none) else none) else (some (x4,x1,x2)))
def EF (x0:Int) (x1:AP) (x2:AB) (x3 x4:AY):Option (AY×AP×AB):=(if (decide (x0<(x2.2.1.length:Int)))=true then (if 0<=x0 then (if x0<(x2.2.1.length:Int) then (if (decide ((((x2.2.1.getD x0.toNat (0,0,false,false,false,false,([]:List Int),([]:List Y),0,0,0,0,(ByteArray.empty,ByteArray.empty,0),([]:List Int))).2).1)<(x2.1.length:Int)))=true then (if 0<=(((x2.2.1.getD x0.toNat (0,0,false,false,false,false,([]:List Int),([]:List Y),0,0,0,0,(ByteArray.empty,ByteArray.empty,0),([]:List Int))).2).1) then (if (((x2.2.1.getD x0.toNat (0,0,false,false,false,false,([]:List Int),([]:List Y),0,0,0,0,(ByteArray.empty,ByteArray.empty,0),([]:List Int))).2).1)<(x2.1.length:Int) then (if 0<=(0:Int) then (if 0<((x2.1.getD (((x2.2.1.getD x0.toNat (0,0,false,false,false,false,([]:List Int),([]:List Y),0,0,0,0,(ByteArray.empty,ByteArray.empty,0),([]:List Int))).2).1).toNat ([]:List Int)).length:Int) then (if (((x2.1.getD (((x2.2.1.getD x0.toNat (0,0,false,false,false,false,([]:List Int),([]:List Y),0,0,0,0,(ByteArray.empty,ByteArray.empty,0),([]:List Int))).2).1).toNat ([]:List Int)).getD (0:Int).toNat 0)==((x2.2.1.getD x0.toNat (0,0,false,false,false,false,([]:List Int),([]:List Y),0,0,0,0,(ByteArray.empty,ByteArray.empty,0),([]:List Int))).1))=true then ((DH 3 x1).bind fun y11=>(if (!y11.1)=true then (DL (i64.wrap (x0+1)) y11.2 x2 x3 (x4.1,(x2.2.1.getD x0.toNat (0,0,false,false,false,false,([]:List Int),([]:List Y),0,0,0,0,(ByteArray.empty,ByteArray.empty,0),([]:List Int))).1,x4.2.2)) else (DL (i64.wrap (x0+1)) y11.2 x2 x3 x4))) else (DL (i64.wrap (x0+1)) x1 x2 x3 x4)) else none) else none) else none) else none) else (DL (i64.wrap (x0+1)) x1 x2 x3 x4)) else none) else none) else (some (x4,x1,x2)))
def F5 (x0:AP) (x1:AB) (x2 x3:AY):Option (AY×AP×AB):=(if (x3.1==1)=true then ((Hq ([1,1,2]:List Int) x0).bind fun y7=>((Le ([(⟨#[97]⟩:ByteArray),(⟨#[98]⟩:ByteArray),(⟨#[99]⟩:ByteArray)]:List ByteArray) y7.2).bind fun y8=>(if (y7.1==1)=true then ((Le ([(⟨#[118]⟩:ByteArray),(⟨#[119]⟩:ByteArray),(⟨#[120]⟩:ByteArray),(⟨#[121]⟩:ByteArray)]:List ByteArray) y8.2).bind fun y9=>(DK 0 y9.2 x1 x2 (x3.1,x3.2.1,x3.2.2.1,y7.1,y8.1,y9.1) ([1,1,2]:List Int) ([(⟨#[97]⟩:ByteArray),(⟨#[98]⟩:ByteArray),(⟨#[99]⟩:ByteArray)]:List ByteArray))) else (DK 0 y8.2 x1 x2 (x3.1,x3.2.1,x3.2.2.1,y7.1,y8.1,x3.2.2.2.2.2) ([1,1,2]:List Int) ([(⟨#[97]⟩:ByteArray),(⟨#[98]⟩:ByteArray),(⟨#[99]⟩:ByteArray)]:List ByteArray))))) else (if (x3.1==5)=true then (DL 0 x0 x1 x2 x3) else (some (x3,x0,x1))))
def Ht (x0:AP) (x1:AB) (x2 x3:AY):Option (AY×AP×AB):=(if (x3.1==2)=true then ((DH 2 x0).bind fun y6=>(if y6.1=true then (F3 y6.2 x1 x2 (x3.1,x3.2.1,0,x3.2.2.2)) else (F3 y6.2 x1 x2 x3))) else (F3 x0 x1 x2 x3))
def Hu (x0:AP) (x1:AB) (x2 x3:AY):Option (AY×AP×AB):=(if ((x1.2.2.1.length:Int)==0)=true then ((AX x3.1 2 4).bind fun y4=>(if y4=true then (if ((1:Int)==6)=true then ((DH 4 x0).bind fun y5=>(if (!y5.1)=true then (Ay y5.2 x1 x2 (1,x3.2)) else (Ay y5.2 x1 x2 (1,x3.2)))) else (Ay x0 x1 x2 (1,x3.2))) else (if (x3.1==6)=true then ((DH 4 x0).bind fun y12=>(if (!y12.1)=true then (Ay y12.2 x1 x2 (1,x3.2)) else (Ay y12.2 x1 x2 x3))) else (Ay x0 x1 x2 x3)))) else (if (x3.1==6)=true then ((DH 4 x0).bind fun y13=>(if (!y13.1)=true then (Ay y13.2 x1 x2 (1,x3.2)) else (Ay y13.2 x1 x2 x3))) else (Ay x0 x1 x2 x3)))
def Yc (b0:AP) (b1:AB):Option (AY×AP×AB):=((Hq ([1,1,1,2,2,2,2,2,2,2,2,3,4,5,6]:List Int) b0).bind fun y1=>((CT 4 y1.2).bind fun y2=>((CT 20 y2.2).bind fun y3=>(Lx y3.2 b1 (0,0,0,0,ByteArray.empty,ByteArray.empty) (y1.1,(i64.wrap (1+y2.1)),y3.1,0,ByteArray.empty,ByteArray.empty)))))
theorem Hv:vu F4 DK:=lS (by kernel_rfl)
theorem F6:sL EF DL:=lS (by kernel_rfl)
theorem Hw:bl F5 F3:=jS (by kernel_rfl)
theorem Ly:bl Ht Ay:=jS (by kernel_rfl)
theorem Lz:bl Hu Lx:=jS (by kernel_rfl)
theorem ma:Oi Yc P7:=cT BL rfl ⟨rfl,rfl⟩ (by kernel_rfl)
def f9:=cG RK (AG Bw) (AG Bw) kx
def M1:=kE 0 [] [0] 0 f9 kx
def Rq:St->Option (RT (BM.outs Bw)):=lG RJ [] [0,7,8,9] 0 (AG Bw) M1
def f_:=kB [] [0,7,8,9] 0 Rq
def TZ:=cG RI f_ (AG Bw) M1
def Ta:=kB [] [0,7,8,9] 0 TZ
def M2:=kE 1 [] [0,7,8,9] 0 TZ M1
def gA:=cG Mt Ta (AG Bw) M2
def gC:=kE 2 [] [0,4,7,8,9] 0 gA M2
def dY:St->Option (RT (BM.outs Bw)):=lG S3 [] [0,4,7,8,9,13,14,15] 0 (AG Bw) gC
def L5 (x0:List (List Int)) (x1:List Int) (x2:List (List Int)) (x3 x4:Int):Option Bool:=cG Mt Ta (AG Bw) M2 ⟨[(0,.lst (.slice (.int .i64)) x0),(4,.lst (.int .i64) x1),(7,.lst (.slice (.int .i64)) x2),(8,.int .i64 x3),(9,.int .i64 x4)],[]⟩
def Hx (x0:List (List Int)) (x1:List Int) (x2:List (List Int)) (x3 x4:Int) (x5:List Int) (x6 x7:Int):Option Bool:=dY ⟨[(0,.lst (.slice (.int .i64)) x0),(4,.lst (.int .i64) x1),(7,.lst (.slice (.int .i64)) x2),(8,.int .i64 x3),(9,.int .i64 x4),(13,.lst (.int .i64) x5),(14,.int .i64 x6),(15,.int .i64 x7)],[]⟩
def Hy (x0 x1:List (List Int)) (x2 x3:Int):Option Bool:=Rq ⟨[(0,.lst (.slice (.int .i64)) x0),(7,.lst (.slice (.int .i64)) x1),(8,.int .i64 x2),(9,.int .i64 x3)],[]⟩
def Rr (x0:List (List Int)) (x1:List Int) (x2:List (List Int)) (x3 x4:Int):Option Bool:=((Af (x1.length:Int) 1 4).bind fun y3=>(if (!y3)=true then (some false) else (Hy x0 x2 x3 (i64.wrap (x4+1)))))
def L6 (x0:List (List Int)) (x1:List Int) (x2:List (List Int)) (x3 x4:Int) (x5:List Int) (x6 x7:Int):Option Bool:=(if (decide (x7<x6))=true then (if 0<=x7 then (if x7<(x5.length:Int) then ((Ds (x5.getD x7.toNat 0)).bind fun y1=>(if (!y1)=false then ((DG x1 (x5.getD x7.toNat 0)).bind fun y2=>(if (y2 != x7)=true then (some false) else (Hx x0 x1 x2 x3 x4 x5 x6 (i64.wrap (x7+1))))) else (some false))) else none) else none) else (L5 x0 x1 x2 x3 x4))
def L7 (x0 x1:List (List Int)) (x2 x3:Int):Option Bool:=(if (decide (x3<x2))=true then (if 0<=x3 then (if x3<(x1.length:Int) then (Hx x0 (x1.getD x3.toNat ([]:List Int)) x1 x2 x3 (x1.getD x3.toNat ([]:List Int)) ((x1.getD x3.toNat ([]:List Int)).length:Int) 0) else none) else none) else ((Af (x0.length:Int) 1 9).bind fun y4=>(some y4)))
def Yd (x0:List (List Int)):Option Bool:=(Hy x0 x0 (x0.length:Int) 0)
theorem dZ:sL Rr L5:=jS (by kernel_rfl)
theorem Rs:s_ L6 Hx:=lS (by kernel_rfl)
theorem Rt:bl L7 Hy:=lS (by kernel_rfl)
theorem mb:PP Yd DF:=cT Bw rfl ⟨rfl,rfl⟩ (by kernel_rfl)
def bI:=cG Pz (AG C2) (AG C2) kx
def bJ:=kE 0 [(3,0)] [3] 1 bI kx
def Zk:St->Option (RT (BM.outs C2)):=lG Py [(3,0)] [3,6,7,8] 1 (AG C2) bJ
def GQ (x0:List (List Int)) (x1 x2:Int) (x3:List (List Int)):Option (List (List Int)):=Zk ⟨[(3,.row 0),(6,.lst (.slice (.int .i64)) x0),(7,.int .i64 x1),(8,.int .i64 x2)],[.rows 33 (.slice (.int .i64)) x3]⟩
def JF (x0:List (List Int)) (x1 x2:Int) (x3:List (List Int)):Option (List (List Int)):=(if (decide (x2<x1))=true then (if 0<=x2 then (if x2<(x0.length:Int) then ((Bh (x0.getD x2.toNat ([]:List Int))).bind fun y1=>(if x3.length+([y1]:List (List Int)).length<=68719476736 then (GQ x0 x1 (i64.wrap (x2+1)) (x3++([y1]:List (List Int)))) else none)) else none) else none) else (some x3))
def Tb (x0:List (List Int)):Option (List (List Int)):=(GQ x0 (x0.length:Int) 0 ([]:List (List Int)))
theorem O2:bl JF GQ:=lS (by kernel_rfl)
theorem gD:PP Tb Ir:=cT C2 rfl ⟨rfl,rfl⟩ (by kernel_rfl)
def O3 (x0:Int) (x1:List (List Int)) (x2:Bool) (x3:O):Option (O×Bool):=cG P0 (AG E5) (AG E5) kx ⟨[(0,.int .i64 x0),(1,.lst (.slice (.int .i64)) x1),(4,.ptr 0 0),(14,.bool x2)],[.var (U.enc x3)]⟩
def O4 (x0:Int) (x1:List (List Int)) (x2:Bool) (x3:O):Option (O×Bool):=(if 0<=(0:Int) then (if 0<(x1.length:Int) then (if 0<=(0:Int) then (if 0<((x1.getD (0:Int).toNat ([]:List Int)).length:Int) then (if 0<=(0:Int) then (if 0<(x1.length:Int) then ((Cd (x1.getD (0:Int).toNat ([]:List Int)) x0).bind fun y3=>(some ((x0,1,false,y3,(((x1.getD (0:Int).toNat ([]:List Int)).getD (0:Int).toNat 0)==x0),(((x1.getD (0:Int).toNat ([]:List Int)).getD (0:Int).toNat 0)==x0),([]:List Int),([]:List Y),0,0,0,0,(ByteArray.empty,ByteArray.empty,0),([]:List Int)),true))) else none) else none) else none) else none) else none) else none)
def Tc (x0:Int) (x1:List (List Int)):Option (O×Bool):=((Ds x0).bind fun y1=>(if (!y1)=false then ((DF x1).bind fun y2=>(if (!y2)=true then (some ((0,0,false,false,false,false,([]:List Int),([]:List Y),0,0,0,0,(ByteArray.empty,ByteArray.empty,0),([]:List Int)),false)) else (O3 x0 x1 (!y2) (0,0,false,false,false,false,([]:List Int),([]:List Y),0,0,0,0,(ByteArray.empty,ByteArray.empty,0),([]:List Int))))) else (some ((0,0,false,false,false,false,([]:List Int),([]:List Y),0,0,0,0,(ByteArray.empty,ByteArray.empty,0),([]:List Int)),false))))
theorem Zl:bl O4 O3:=jS (by kernel_rfl)
theorem gE:Oi Tc Mw:=cT E5 rfl ⟨rfl,rfl⟩ (by kernel_rfl)
def Jp (x0:Int) (x1:ByteArray) (x2:Bool):Option Bool:=cG X5 (AG Im) (AG Im) kx ⟨[(0,.int .i64 x0),(3,.str x1),(26,.bool x2)],[]⟩
def OV (x0:Int) (x1:ByteArray) (x2:Bool):Option Bool:=(if (x0==1)=false then (some (x1.toList==(⟨#[]⟩:ByteArray).toList)) else (some true))
def Ut (x0 x1:Int) (x2 x3:ByteArray):Option Bool:=((Af x0 1 2).bind fun y1=>(if (!y1)=false then ((Af x1 0 1000).bind fun y2=>(if (!y2)=false then ((PZ x2).bind fun y3=>(if (!y3)=false then (if (decide ((x3.size:Int)>20))=true then (some false) else (Jp x0 x3 (decide ((x3.size:Int)>20)))) else (some false))) else (some false))) else (some false)))
theorem Wi:Qw OV Jp:=jS (by kernel_rfl)
theorem da:bl Ut Lc:=cT Im rfl ⟨rfl,rfl⟩ (by kernel_rfl)
def QV (x1:AY) (x2:Int) (b0:AB):Option (Bool×AB):=(if b0.2.2.2.length+([(x1.2.2.2.1,x1.2.2.2.2.1,x1.2.2.2.2.2,x2,(-1:Int),0,0,0,ByteArray.empty)]:List AD).length<=68719476736 then ((Bp x1.2.1 (b0.1,b0.2.1,b0.2.2.1,(b0.2.2.2++([(x1.2.2.2.1,x1.2.2.2.2.1,x1.2.2.2.2.2,x2,(-1:Int),0,0,0,ByteArray.empty)]:List AD)))).bind fun y1=>(if 0<=y1.1 then (if y1.1<(y1.2.2.1.length:Int) then ((Pa (y1.2.2.1.getD y1.1.toNat (0,0,false,false,false,false,([]:List Int),([]:List Y),0,0,0,0,(ByteArray.empty,ByteArray.empty,0),([]:List Int))) y1.2.1 x1.2.2.2.1 (b0.2.2.2.length:Int) x1.2.2.2.2.1 x1.2.2.2.2.2).bind fun y2=>(if (!y2.2.2.2)=true then (some (false,y1.2)) else (if 0<=y1.1 then (if y1.1<(y1.2.2.1.length:Int) then (let z3:List O:=y1.2.2.1.set y1.1.toNat y2.1; ((Fx y2.2.1 y2.2.2.1 x2 (y1.2.1,z3,y1.2.2.2)).bind fun y4=>(some (true,y4)))) else none) else none))) else none) else none)) else none)
theorem bK:Qw QV J6:=cT G5 rfl ⟨rfl,rfl⟩ (by kernel_rfl)
def Ye:=cG MU (AG CP) (AG CP) kx
def Yf:=kE 0 [] [] 5 Ye kx
def XL:St->Option (RT (BM.outs CP)):=lG Ng [] [0,2,4,7,8] 5 (AG CP) Yf
def Dd (x0 x1 x2:Int) (x3:List (List Int)) (x4:List O) (x5:List Z) (x6:List AD) (x7:AY):Option (Bool×AB):=XL ⟨[(0,.ptr 0 0),(2,.int .i64 x0),(4,.ptr 4 0),(7,.int .i64 x1),(8,.int .i64 x2)],[.var [.lst (.slice (.int .i64)) x3,.row 1,.row 2,.row 3],.rows 42 U x4,.rows 97 AF x5,.rows 47 AJ x6,.var (Ae.enc x7)]⟩
def FT (x0 x1 x2:Int) (x3:List (List Int)) (x4:List O) (x5:List Z) (x6:List AD) (x7:AY):Option (Bool×AB):=(if (decide (x2<=(x3.length:Int)))=true then (if 0<=(i64.wrap (x2-1)) then (if (i64.wrap (x2-1))<(x3.length:Int) then (if 0<=(0:Int) then (if 0<((x3.getD (i64.wrap (x2-1)).toNat ([]:List Int)).length:Int) then (if (((x3.getD (i64.wrap (x2-1)).toNat ([]:List Int)).getD (0:Int).toNat 0) != x7.2.1)=true then (Dd x0 x1 (i64.wrap (x2+1)) x3 x4 x5 x6 x7) else (if 0<=x1 then (if x1<(x4.length:Int) then ((Pb (x4.getD x1.toNat (0,0,false,false,false,false,([]:List Int),([]:List Y),0,0,0,0,(ByteArray.empty,ByteArray.empty,0),([]:List Int))) x3 x2).bind fun y2=>(if y2.2.2=true then (if 0<=x1 then (if x1<(x4.length:Int) then (let z3:List O:=x4.set x1.toNat y2.1; ((Fx y2.2.1 ([]) x0 (x3,z3,x5,x6)).bind fun y4=>(some (y2.2.2,y4)))) else none) else none) else (some (y2.2.2,(x3,x4,x5,x6))))) else none) else none)) else none) else none) else none) else none) else (some (false,(x3,x4,x5,x6))))
def QW (x1:AY) (x2:Int) (b0:AB):Option (Bool×AB):=((Bp x1.2.1 b0).bind fun y1=>(if 0<=y1.1 then (if y1.1<(y1.2.2.1.length:Int) then (Dd x2 y1.1 (i64.wrap ((((y1.2.2.1.getD y1.1.toNat (0,0,false,false,false,false,([]:List Int),([]:List Y),0,0,0,0,(ByteArray.empty,ByteArray.empty,0),([]:List Int))).2).1)+1)) y1.2.1 y1.2.2.1 y1.2.2.2.1 y1.2.2.2.2 x1) else none) else none))
theorem Hg:s_ FT Dd:=lS (by kernel_rfl)
theorem bL:Qw QW J7:=cT CP rfl ⟨rfl,rfl⟩ (by kernel_rfl)
def O5 (x1:Int) (b0:AB):Option (Int×AB):=((B_ b0.2.1 x1).bind fun y1=>(some (y1,b0)))
theorem Zm:Oi O5 Bp:=cT GP rfl ⟨rfl,rfl⟩ (by kernel_rfl)
def rP (x0:O):Option O:=(some (x0.1,x0.2.1,true,false,false,false,([]:List Int),([]:List Y),0,0,0,0,(ByteArray.empty,ByteArray.empty,0),([]:List Int)))
theorem rQ:PP rP Rd:=cT RL rfl ⟨rfl,rfl⟩ (by kernel_rfl)
def Np (x1:AY) (x2:Int) (b0:AB):Option (Bool×AB):=(if ((b0.2.2.1.length:Int)==0)=true then (some (false,b0)) else (if (b0.2.2.1.length:Int)=0 then none else (if (x1.1==2)=true then ((D4 (Int.tmod x1.2.2.1 (b0.2.2.1.length:Int)) x2 b0).bind fun y1=>(some (true,y1))) else (if (x1.1==3)=true then ((Ba b0.2.2.1 (Int.tmod x1.2.2.1 (b0.2.2.1.length:Int)) (i64.wrap ((Int.tmod x1.2.2.1 (b0.2.2.1.length:Int))+1))).bind fun y2=>(some (true,(b0.1,b0.2.1,y2,b0.2.2.2)))) else (if (x1.1==4)=true then (if 0<=(Int.tmod x1.2.2.1 (b0.2.2.1.length:Int)) then (if (Int.tmod x1.2.2.1 (b0.2.2.1.length:Int))<(b0.2.2.1.length:Int) then ((Gf (b0.2.2.1.getD ((Int.tmod x1.2.2.1 (b0.2.2.1.length:Int)).toNat) (0,0,0,0,0,([]:List Y)))).bind fun y3=>(if b0.2.2.1.length+([y3]:List Z).length<=68719476736 then (some (true,(b0.1,b0.2.1,(b0.2.2.1++([y3]:List Z)),b0.2.2.2))) else none)) else none) else none) else (some (true,b0)))))))
theorem Yg:Qw Np IQ:=cT Fv rfl ⟨rfl,rfl⟩ (by kernel_rfl)
def Ru (x0:O):Option O:=((Bh x0.2.2.2.2.2.2.1).bind fun y1=>((Ah x0.2.2.2.2.2.2.2.1).bind fun y2=>((Bh x0.2.2.2.2.2.2.2.2.2.2.2.2.2).bind fun y3=>(some (x0.1,x0.2.1,x0.2.2.1,x0.2.2.2.1,x0.2.2.2.2.1,x0.2.2.2.2.2.1,y1,y2,x0.2.2.2.2.2.2.2.2.1,x0.2.2.2.2.2.2.2.2.2.1,x0.2.2.2.2.2.2.2.2.2.2.1,x0.2.2.2.2.2.2.2.2.2.2.2.1,x0.2.2.2.2.2.2.2.2.2.2.2.2.1,y3)))))
theorem db:PP Ru Cl:=cT Hn rfl ⟨rfl,rfl⟩ (by kernel_rfl)
def Yh (x0:Z):Option Z:=((Ah x0.2.2.2.2.2).bind fun y1=>(some (x0.1,x0.2.1,x0.2.2.1,x0.2.2.2.1,x0.2.2.2.2.1,y1)))
theorem mc:PP Yh Gf:=cT LL rfl ⟨rfl,rfl⟩ (by kernel_rfl)
def gF:=cG S5 (AG D0) (AG D0) kx
def gG:=kE 0 [] [0] 0 gF kx
def dd:St->Option (RT (BM.outs D0)):=lG S4 [] [0,3] 0 (AG D0) gG
def Hz (x0:List (List Int)) (x1:Int):Option Bool:=dd ⟨[(0,.lst (.slice (.int .i64)) x0),(3,.int .i64 x1)],[]⟩
def L8 (x0:List (List Int)) (x1:Int):Option Bool:=(if (decide (x1<(x0.length:Int)))=true then (if 0<=x1 then (if x1<(x0.length:Int) then ((P9 (x0.getD x1.toNat ([]:List Int))).bind fun y1=>(if (!y1)=true then (some false) else (Hz x0 (i64.wrap (x1+1))))) else none) else none) else ((AX (x0.length:Int) 1 9).bind fun y2=>(some y2)))
def Yi (x0:List (List Int)):Option Bool:=(Hz x0 0)
theorem Rv:Oi L8 Hz:=lS (by kernel_rfl)
theorem md:PP Yi D5:=cT D0 rfl ⟨rfl,rfl⟩ (by kernel_rfl)
def XM:=cG MW (AG CH) (AG CH) kx
def XN:=kE 0 [(3,0)] [3] 1 XM kx
def Uu:St->Option (RT (BM.outs CH)):=lG MV [(3,0)] [0,3,4] 1 (AG CH) XN
def Em (x0:List (List Int)) (x1:Int) (x2:List (List Int)):Option (List (List Int)):=Uu ⟨[(0,.lst (.slice (.int .i64)) x0),(3,.row 0),(4,.int .i64 x1)],[.rows 33 (.slice (.int .i64)) x2]⟩
def HD (x0:List (List Int)) (x1:Int) (x2:List (List Int)):Option (List (List Int)):=(if (decide (x1<(x0.length:Int)))=true then (if 0<=x1 then (if x1<(x0.length:Int) then (if ([]:List Int).length+(x0.getD x1.toNat ([]:List Int)).length<=68719476736 then (if x2.length+([(([]:List Int)++(x0.getD x1.toNat ([]:List Int)))]:List (List Int)).length<=68719476736 then (Em x0 (i64.wrap (x1+1)) (x2++([(([]:List Int)++(x0.getD x1.toNat ([]:List Int)))]:List (List Int)))) else none) else none) else none) else none) else (some x2))
def O6 (x0:List (List Int)):Option (List (List Int)):=(Em x0 0 ([]:List (List Int)))
theorem L9:Qw HD Em:=lS (by kernel_rfl)
theorem Zn:PP O6 JB:=cT CH rfl ⟨rfl,rfl⟩ (by kernel_rfl)
def O7 (x0:Int) (x1:List (List Int)) (x2:Bool) (x3:O):Option (O×Bool):=cG P1 (AG E6) (AG E6) kx ⟨[(0,.int .i64 x0),(1,.lst (.slice (.int .i64)) x1),(4,.ptr 0 0),(14,.bool x2)],[.var (U.enc x3)]⟩
def O8 (x0:Int) (x1:List (List Int)) (x2:Bool) (x3:O):Option (O×Bool):=(if 0<=(0:Int) then (if 0<(x1.length:Int) then ((Dt (x1.getD (0:Int).toNat ([]:List Int)) x0).bind fun y3=>(if 0<=(0:Int) then (if 0<(x1.length:Int) then (if 0<=(0:Int) then (if 0<((x1.getD (0:Int).toNat ([]:List Int)).length:Int) then (some ((x0,1,false,y3,(((x1.getD (0:Int).toNat ([]:List Int)).getD (0:Int).toNat 0)==x0),(((x1.getD (0:Int).toNat ([]:List Int)).getD (0:Int).toNat 0)==x0),([]:List Int),([]:List Y),0,0,0,0,(ByteArray.empty,ByteArray.empty,0),([]:List Int)),true)) else none) else none) else none) else none)) else none) else none)
def Td (x0:Int) (x1:List (List Int)):Option (O×Bool):=((D5 x1).bind fun y1=>(if (!y1)=false then ((AX x0 1 6).bind fun y2=>(if (!y2)=true then (some ((0,0,false,false,false,false,([]:List Int),([]:List Y),0,0,0,0,(ByteArray.empty,ByteArray.empty,0),([]:List Int)),false)) else (O7 x0 x1 (!y2) (0,0,false,false,false,false,([]:List Int),([]:List Y),0,0,0,0,(ByteArray.empty,ByteArray.empty,0),([]:List Int))))) else (some ((0,0,false,false,false,false,([]:List Int),([]:List Y),0,0,0,0,(ByteArray.empty,ByteArray.empty,0),([]:List Int)),false))))
theorem Zo:bl O8 O7:=jS (by kernel_rfl)
theorem gH:Oi Td Mx:=cT E6 rfl ⟨rfl,rfl⟩ (by kernel_rfl)
def Wj (x1:Int) (x2:AY) (b0:AB):Option (Int×AB):=(if ([]:List AD).length+b0.2.2.2.length<=68719476736 then (if (([]:List AD)++b0.2.2.2).length+([(x2.2.2.2.1,x2.2.2.2.2.1,x2.2.2.2.2.2,x1,(-1:Int),0,0,0,ByteArray.empty)]:List AD).length<=68719476736 then (if 0<=(i64.wrap (x2.2.1-1)) then (if (i64.wrap (x2.2.1-1))<(b0.2.1.length:Int) then ((Ul (b0.2.1.getD (i64.wrap (x2.2.1-1)).toNat (0,0,false,false,false,false,([]:List Int),([]:List Y),0,0,0,0,(ByteArray.empty,ByteArray.empty,0),([]:List Int))) b0.1 x2.2.2.2.1 (i64.wrap ((((([]:List AD)++b0.2.2.2)++([(x2.2.2.2.1,x2.2.2.2.2.1,x2.2.2.2.2.2,x1,(-1:Int),0,0,0,ByteArray.empty)]:List AD)).length:Int)-1)) x2.2.2.2.2.1 x2.2.2.2.2.2).bind fun y1=>(if (!y1.2.2.2)=true then (some (1,(b0.1,b0.2.1,b0.2.2.1,((([]:List AD)++b0.2.2.2)++([(x2.2.2.2.1,x2.2.2.2.2.1,x2.2.2.2.2.2,x1,(-1:Int),0,0,0,ByteArray.empty)]:List AD))))) else ((E7 y1.1 y1.2.1 y1.2.2.1 x1 (b0.1,b0.2.1,b0.2.2.1,((([]:List AD)++b0.2.2.2)++([(x2.2.2.2.1,x2.2.2.2.2.1,x2.2.2.2.2.2,x1,(-1:Int),0,0,0,ByteArray.empty)]:List AD)))).bind fun y2=>(some (0,y2))))) else none) else none) else none) else none)
theorem jO:Qw Wj OF:=cT Ji rfl ⟨rfl,rfl⟩ (by kernel_rfl)
def de:=cG P2 (AG DV) (AG DV) kx
def df:=kE 0 [] [] 2 de kx
def bM:St->Option (RT (BM.outs DV)):=lG RM [] [0,1,2,7,8] 2 (AG DV) df
def HE (x0 x1 x2:Int) (x3:AB) (x4:O):Option (Int×AB):=bM ⟨[(0,.ptr 0 0),(1,.int .i64 x0),(2,.int .i64 x1),(7,.ptr 1 0),(8,.int .i64 x2)],[.var (Ag.enc x3),.var (U.enc x4)]⟩
def HF (x0 x1 x2:Int) (x3:AB) (x4:O):Option (Int×AB):=(if (decide (x2<=(x3.1.length:Int)))=true then (if 0<=(i64.wrap (x2-1)) then (if (i64.wrap (x2-1))<(x3.1.length:Int) then (if 0<=(0:Int) then (if 0<((x3.1.getD (i64.wrap (x2-1)).toNat ([]:List Int)).length:Int) then (if (((x3.1.getD (i64.wrap (x2-1)).toNat ([]:List Int)).getD (0:Int).toNat 0) != x1)=true then (HE x0 x1 (i64.wrap (x2+1)) x3 x4) else ((Um x4 x3.1 x2).bind fun y1=>(if (!y1.2.2)=true then (some (1,x3)) else ((E7 y1.1 y1.2.1 ([]:List AE) x0 x3).bind fun y2=>(some (0,y2)))))) else none) else none) else none) else none) else (some (1,x3)))
def OW (x1 x2:Int) (b0:AB):Option (Int×AB):=(if 0<=(i64.wrap (x2-1)) then (if (i64.wrap (x2-1))<(b0.2.1.length:Int) then (HE x1 x2 (i64.wrap ((((b0.2.1.getD (i64.wrap (x2-1)).toNat (0,0,false,false,false,false,([]:List Int),([]:List Y),0,0,0,0,(ByteArray.empty,ByteArray.empty,0),([]:List Int))).2).1)+1)) b0 (b0.2.1.getD (i64.wrap (x2-1)).toNat (0,0,false,false,false,false,([]:List Int),([]:List Y),0,0,0,0,(ByteArray.empty,ByteArray.empty,0),([]:List Int)))) else none) else none)
theorem KH:sL HF HE:=lS (by kernel_rfl)
theorem Wk:Qw OW OG:=cT DV rfl ⟨rfl,rfl⟩ (by kernel_rfl)
def KI:=kE 0 [] [] 4 (AG CZ) kx
def O9:St->Option (RT (BM.outs CZ)):=lG On [] [0,3,4,11] 4 (AG CZ) KI
def bN:=kB [] [0,3,4,11] 4 O9
def QX:=cG Om bN (AG CZ) KI
def bO:=kB [] [0,3,4,11] 4 QX
def bP:=kE 1 [] [0,3,4,11] 4 QX KI
def O_ (x0:List AE) (x1 x2:Int) (x3:Bool) (x4:AB) (x5:O) (x6:List O) (x7:List Z) (x8:AE):Option AB:=cG Ol bO (AG CZ) bP ⟨[(0,.ptr 0 0),(3,.lst Ar x0),(4,.int .i64 x1),(11,.int .i64 x2),(12,.ptr 4 0),(71,.bool x3)],[.var (Ag.enc x4),.var (U.enc x5),.frz U x6,.frz AF x7,.var (Ar.enc x8)]⟩
def Cg (x0:List AE) (x1 x2:Int) (x3:AB) (x4:O) (x5:List O) (x6:List Z):Option AB:=O9 ⟨[(0,.ptr 0 0),(3,.lst Ar x0),(4,.int .i64 x1),(11,.int .i64 x2)],[.var (Ag.enc x3),.var (U.enc x4),.frz U x5,.frz AF x6]⟩
def PA (x0:List AE) (x1 x2:Int) (x3:Bool) (x4:AB) (x5:O) (x6:List O) (x7:List Z) (x8:AE):Option AB:=(if ([]:List AD).length+x4.2.2.2.length<=68719476736 then (if 0<=x8.1 then (if x8.1<((([]:List AD)++x4.2.2.2).length:Int) then (let z2:List AD:=(([]:List AD)++x4.2.2.2).set x8.1.toNat (((([]:List AD)++x4.2.2.2).getD x8.1.toNat (0,ByteArray.empty,ByteArray.empty,0,0,0,0,0,ByteArray.empty)).1,(((([]:List AD)++x4.2.2.2).getD x8.1.toNat (0,ByteArray.empty,ByteArray.empty,0,0,0,0,0,ByteArray.empty)).2).1,((((([]:List AD)++x4.2.2.2).getD x8.1.toNat (0,ByteArray.empty,ByteArray.empty,0,0,0,0,0,ByteArray.empty)).2).2).1,(((((([]:List AD)++x4.2.2.2).getD x8.1.toNat (0,ByteArray.empty,ByteArray.empty,0,0,0,0,0,ByteArray.empty)).2).2).2).1,x1,((((((([]:List AD)++x4.2.2.2).getD x8.1.toNat (0,ByteArray.empty,ByteArray.empty,0,0,0,0,0,ByteArray.empty)).2).2).2).2).2); (let z3:List AD:=z2.set x8.1.toNat ((z2.getD x8.1.toNat (0,ByteArray.empty,ByteArray.empty,0,0,0,0,0,ByteArray.empty)).1,((z2.getD x8.1.toNat (0,ByteArray.empty,ByteArray.empty,0,0,0,0,0,ByteArray.empty)).2).1,(((z2.getD x8.1.toNat (0,ByteArray.empty,ByteArray.empty,0,0,0,0,0,ByteArray.empty)).2).2).1,((((z2.getD x8.1.toNat (0,ByteArray.empty,ByteArray.empty,0,0,0,0,0,ByteArray.empty)).2).2).2).1,(((((z2.getD x8.1.toNat (0,ByteArray.empty,ByteArray.empty,0,0,0,0,0,ByteArray.empty)).2).2).2).2).1,x8.2.2.2.2.2,((((((z2.getD x8.1.toNat (0,ByteArray.empty,ByteArray.empty,0,0,0,0,0,ByteArray.empty)).2).2).2).2).2).2); (let z4:List AD:=z3.set x8.1.toNat ((z3.getD x8.1.toNat (0,ByteArray.empty,ByteArray.empty,0,0,0,0,0,ByteArray.empty)).1,((z3.getD x8.1.toNat (0,ByteArray.empty,ByteArray.empty,0,0,0,0,0,ByteArray.empty)).2).1,(((z3.getD x8.1.toNat (0,ByteArray.empty,ByteArray.empty,0,0,0,0,0,ByteArray.empty)).2).2).1,((((z3.getD x8.1.toNat (0,ByteArray.empty,ByteArray.empty,0,0,0,0,0,ByteArray.empty)).2).2).2).1,(((((z3.getD x8.1.toNat (0,ByteArray.empty,ByteArray.empty,0,0,0,0,0,ByteArray.empty)).2).2).2).2).1,((((((z3.getD x8.1.toNat (0,ByteArray.empty,ByteArray.empty,0,0,0,0,0,ByteArray.empty)).2).2).2).2).2).1,x8.2.1,(((((((z3.getD x8.1.toNat (0,ByteArray.empty,ByteArray.empty,0,0,0,0,0,ByteArray.empty)).2).2).2).2).2).2).2); (let z5:List AD:=z4.set x8.1.toNat ((z4.getD x8.1.toNat (0,ByteArray.empty,ByteArray.empty,0,0,0,0,0,ByteArray.empty)).1,((z4.getD x8.1.toNat (0,ByteArray.empty,ByteArray.empty,0,0,0,0,0,ByteArray.empty)).2).1,(((z4.getD x8.1.toNat (0,ByteArray.empty,ByteArray.empty,0,0,0,0,0,ByteArray.empty)).2).2).1,((((z4.getD x8.1.toNat (0,ByteArray.empty,ByteArray.empty,0,0,0,0,0,ByteArray.empty)).2).2).2).1,(((((z4.getD x8.1.toNat (0,ByteArray.empty,ByteArray.empty,0,0,0,0,0,ByteArray.empty)).2).2).2).2).1,((((((z4.getD x8.1.toNat (0,ByteArray.empty,ByteArray.empty,0,0,0,0,0,ByteArray.empty)).2).2).2).2).2).1,(((((((z4.getD x8.1.toNat (0,ByteArray.empty,ByteArray.empty,0,0,0,0,0,ByteArray.empty)).2).2).2).2).2).2).1,x8.2.2.1,((((((((z4.getD x8.1.toNat (0,ByteArray.empty,ByteArray.empty,0,0,0,0,0,ByteArray.empty)).2).2).2).2).2).2).2).2); (if (((z5.getD x8.1.toNat (0,ByteArray.empty,ByteArray.empty,0,0,0,0,0,ByteArray.empty)).1)==2)=true then (let z6:List AD:=z5.set x8.1.toNat ((z5.getD x8.1.toNat (0,ByteArray.empty,ByteArray.empty,0,0,0,0,0,ByteArray.empty)).1,((z5.getD x8.1.toNat (0,ByteArray.empty,ByteArray.empty,0,0,0,0,0,ByteArray.empty)).2).1,(((z5.getD x8.1.toNat (0,ByteArray.empty,ByteArray.empty,0,0,0,0,0,ByteArray.empty)).2).2).1,((((z5.getD x8.1.toNat (0,ByteArray.empty,ByteArray.empty,0,0,0,0,0,ByteArray.empty)).2).2).2).1,(((((z5.getD x8.1.toNat (0,ByteArray.empty,ByteArray.empty,0,0,0,0,0,ByteArray.empty)).2).2).2).2).1,((((((z5.getD x8.1.toNat (0,ByteArray.empty,ByteArray.empty,0,0,0,0,0,ByteArray.empty)).2).2).2).2).2).1,(((((((z5.getD x8.1.toNat (0,ByteArray.empty,ByteArray.empty,0,0,0,0,0,ByteArray.empty)).2).2).2).2).2).2).1,((((((((z5.getD x8.1.toNat (0,ByteArray.empty,ByteArray.empty,0,0,0,0,0,ByteArray.empty)).2).2).2).2).2).2).2).1,x8.2.2.2.2.1); (Cg x0 x1 (i64.wrap (x2+1)) (x4.1,x4.2.1,x4.2.2.1,z6) x5 x6 x7)) else (Cg x0 x1 (i64.wrap (x2+1)) (x4.1,x4.2.1,x4.2.2.1,z5) x5 x6 x7)))))) else none) else none) else none)
def JG (x0:List AE) (x1 x2:Int) (x3:AB) (x4:O) (x5:List O) (x6:List Z):Option AB:=(if (decide (x2<(x0.length:Int)))=true then (if 0<=x2 then (if x2<(x0.length:Int) then (if (decide (((x0.getD x2.toNat (0,0,0,ByteArray.empty,ByteArray.empty,0)).1)>=(x3.2.2.2.length:Int)))=true then (Cg x0 x1 (i64.wrap (x2+1)) x3 x4 x5 x6) else (if 0<=((x0.getD x2.toNat (0,0,0,ByteArray.empty,ByteArray.empty,0)).1) then (if ((x0.getD x2.toNat (0,0,0,ByteArray.empty,ByteArray.empty,0)).1)<(x3.2.2.2.length:Int) then (if (decide (((((((x3.2.2.2.getD ((x0.getD x2.toNat (0,0,0,ByteArray.empty,ByteArray.empty,0)).1).toNat (0,ByteArray.empty,ByteArray.empty,0,0,0,0,0,ByteArray.empty)).2).2).2).2).1)>=0))=true then (Cg x0 x1 (i64.wrap (x2+1)) x3 x4 x5 x6) else (O_ x0 x1 x2 (decide (((((((x3.2.2.2.getD ((x0.getD x2.toNat (0,0,0,ByteArray.empty,ByteArray.empty,0)).1).toNat (0,ByteArray.empty,ByteArray.empty,0,0,0,0,0,ByteArray.empty)).2).2).2).2).1)>=0)) x3 x4 x5 x6 (x0.getD x2.toNat (0,0,0,ByteArray.empty,ByteArray.empty,0)))) else none) else none)) else none) else none) else (some x3))
def Te (x1:O) (x2:List Z) (x3:List AE) (x4:Int) (b0:AB):Option AB:=(if ([]:List O).length+b0.2.1.length<=68719476736 then (if 0<=(i64.wrap (x1.1-1)) then (if (i64.wrap (x1.1-1))<((([]:List O)++b0.2.1).length:Int) then (let z1:List O:=(([]:List O)++b0.2.1).set ((i64.wrap (x1.1-1)).toNat) x1; (if ([]:List Z).length+b0.2.2.1.length<=68719476736 then (if (([]:List Z)++b0.2.2.1).length+x2.length<=68719476736 then (Cg x3 x4 0 (b0.1,z1,((([]:List Z)++b0.2.2.1)++x2),b0.2.2.2) x1 z1 ((([]:List Z)++b0.2.2.1)++x2)) else none) else none)) else none) else none) else none)
theorem Zp:yP PA O_:=jS (by kernel_rfl)
theorem PB:vu JG Cg:=lS (by kernel_rfl)
theorem gI:sL Te E7:=cT CZ rfl ⟨rfl,rfl⟩ (by kernel_rfl)
def rR (x0:O):Option O:=(some (x0.1,x0.2.1,true,false,false,false,([]:List Int),([]:List Y),0,0,0,0,(ByteArray.empty,ByteArray.empty,0),([]:List Int)))
theorem rS:PP rR YL:=cT RN rfl ⟨rfl,rfl⟩ (by kernel_rfl)

def SV (x1:Int) (x2:AY) (b0:AB):Option (Int×AB):=(if ((b0.2.2.1.length:Int)==0)=true then (some (1,b0)) else (if (b0.2.2.1.length:Int)=0 then none else (if 0<=(Int.tmod x2.2.2.1 (b0.2.2.1.length:Int)) then (if (Int.tmod x2.2.2.1 (b0.2.2.1.length:Int))<(b0.2.2.1.length:Int) then (if (x2.1==4)=true then (if ([]:List Z).length+b0.2.2.1.length<=68719476736 then (if (([]:List Z)++b0.2.2.1).length+([b0.2.2.1.getD (Int.tmod x2.2.2.1 (b0.2.2.1.length:Int)).toNat (0,0,0,0,0,([]:List Y))]:List Z).length<=68719476736 then (some (0,(b0.1,b0.2.1,((([]:List Z)++b0.2.2.1)++([b0.2.2.1.getD (Int.tmod x2.2.2.1 (b0.2.2.1.length:Int)).toNat (0,0,0,0,0,([]:List Y))]:List Z)),b0.2.2.2))) else none) else none) else (if 0<=(0:Int) then (if 0<=(Int.tmod x2.2.2.1 (b0.2.2.1.length:Int)) then (if (Int.tmod x2.2.2.1 (b0.2.2.1.length:Int))<=(b0.2.2.1.length:Int) then (if 0<=(i64.wrap ((Int.tmod x2.2.2.1 (b0.2.2.1.length:Int))+1)) then (if (i64.wrap ((Int.tmod x2.2.2.1 (b0.2.2.1.length:Int))+1))<=(b0.2.2.1.length:Int) then (if (b0.2.2.1.length:Int)<=(b0.2.2.1.length:Int) then (if ([]:List Z).length+((b0.2.2.1.take (Int.tmod x2.2.2.1 (b0.2.2.1.length:Int)).toNat).drop (0:Int).toNat).length<=68719476736 then (if (([]:List Z)++((b0.2.2.1.take (Int.tmod x2.2.2.1 (b0.2.2.1.length:Int)).toNat).drop (0:Int).toNat)).length+((b0.2.2.1.take (b0.2.2.1.length:Int).toNat).drop (i64.wrap ((Int.tmod x2.2.2.1 (b0.2.2.1.length:Int))+1)).toNat).length<=68719476736 then (if (x2.1==3)=true then (some (0,(b0.1,b0.2.1,((([]:List Z)++((b0.2.2.1.take (Int.tmod x2.2.2.1 (b0.2.2.1.length:Int)).toNat).drop (0:Int).toNat))++((b0.2.2.1.take (b0.2.2.1.length:Int).toNat).drop (i64.wrap ((Int.tmod x2.2.2.1 (b0.2.2.1.length:Int))+1)).toNat)),b0.2.2.2))) else (if 0<=(i64.wrap (((((b0.2.2.1.getD (Int.tmod x2.2.2.1 (b0.2.2.1.length:Int)).toNat (0,0,0,0,0,([]:List Y))).2).2).1)-1)) then (if (i64.wrap (((((b0.2.2.1.getD (Int.tmod x2.2.2.1 (b0.2.2.1.length:Int)).toNat (0,0,0,0,0,([]:List Y))).2).2).1)-1))<(b0.2.1.length:Int) then ((P_ (b0.2.1.getD (i64.wrap (((((b0.2.2.1.getD (Int.tmod x2.2.2.1 (b0.2.2.1.length:Int)).toNat (0,0,0,0,0,([]:List Y))).2).2).1)-1)).toNat (0,0,false,false,false,false,([]:List Int),([]:List Y),0,0,0,0,(ByteArray.empty,ByteArray.empty,0),([]:List Int))) b0.1 (b0.2.2.1.getD (Int.tmod x2.2.2.1 (b0.2.2.1.length:Int)).toNat (0,0,0,0,0,([]:List Y)))).bind fun y1=>((E7 y1.1 y1.2.1 y1.2.2 x1 (b0.1,b0.2.1,((([]:List Z)++((b0.2.2.1.take (Int.tmod x2.2.2.1 (b0.2.2.1.length:Int)).toNat).drop (0:Int).toNat))++((b0.2.2.1.take (b0.2.2.1.length:Int).toNat).drop (i64.wrap ((Int.tmod x2.2.2.1 (b0.2.2.1.length:Int))+1)).toNat)),b0.2.2.2)).bind fun y2=>(some (0,y2)))) else none) else none)) else none) else none) else none) else none) else none) else none) else none) else none)) else none) else none)))
theorem oA:Qw SV ST:=cT NQ rfl ⟨rfl,rfl⟩ (by kernel_rfl)
def Yj (x0:O):Option O:=(if ([]:List Int).length+x0.2.2.2.2.2.2.1.length<=68719476736 then (if ([]:List Y).length+x0.2.2.2.2.2.2.2.1.length<=68719476736 then (if ([]:List Int).length+x0.2.2.2.2.2.2.2.2.2.2.2.2.2.length<=68719476736 then (some (x0.1,x0.2.1,x0.2.2.1,x0.2.2.2.1,x0.2.2.2.2.1,x0.2.2.2.2.2.1,(([]:List Int)++x0.2.2.2.2.2.2.1),(([]:List Y)++x0.2.2.2.2.2.2.2.1),x0.2.2.2.2.2.2.2.2.1,x0.2.2.2.2.2.2.2.2.2.1,x0.2.2.2.2.2.2.2.2.2.2.1,x0.2.2.2.2.2.2.2.2.2.2.2.1,x0.2.2.2.2.2.2.2.2.2.2.2.2.1,(([]:List Int)++x0.2.2.2.2.2.2.2.2.2.2.2.2.2))) else none) else none) else none)
theorem me:PP Yj D6:=cT LN rfl ⟨rfl,rfl⟩ (by kernel_rfl)
def dg (x0:ByteArray):Option Bool:=((Af (x0.size:Int) 1 12).bind fun y1=>(some y1))
theorem qJ:PP dg PZ:=cT PV rfl ⟨rfl,rfl⟩ (by kernel_rfl)
def Rw (x0:List (List Int)) (x1:Bool) (x2:O) (x3:Z) (x4 x5:O):Option (O×List Z×List AE):=cG S6 (AG GZ) (AG GZ) kx ⟨[(1,.lst (.slice (.int .i64)) x0),(5,.ptr 1 0),(6,.ptr 2 0),(9,.ptr 3 0),(47,.bool x1)],[.var (U.enc x2),.var (AF.enc x3),.var (U.enc x4),.var (U.enc x5)]⟩
def Rx (x0:List (List Int)) (x1:Bool) (x2:O) (x3:Z) (x4 x5:O):Option (O×List Z×List AE):=((J8 x0 x3 x5).bind fun y5=>((Cl y5.2.2).bind fun y6=>(some (y6,y5.1,y5.2.1))))
def Yk (x0:O) (x1:List (List Int)) (x2:Z):Option (O×List Z×List AE):=((Cl x0).bind fun y1=>(if (x2.2.2.1 != x0.1)=false then (if (decide (x2.2.2.2.1<x0.2.1))=false then (if (decide (x2.2.2.2.1>(x1.length:Int)))=false then ((Ff x0).bind fun y2=>(if (!y2)=false then ((DF x1).bind fun y3=>(if (!y3)=false then ((Un x2).bind fun y4=>(if (!y4)=true then (some (y1,[],[])) else (Rw x1 (!y4) x0 x2 (0,0,false,false,false,false,([]:List Int),([]:List Y),0,0,0,0,(ByteArray.empty,ByteArray.empty,0),([]:List Int)) y1))) else (some (y1,[],[])))) else (some (y1,[],[])))) else (some (y1,[],[]))) else (some (y1,[],[]))) else (some (y1,[],[]))))
theorem dh:uC Rx Rw:=jS (by kernel_rfl)
theorem mf:Qw Yk Ld:=cT GZ rfl ⟨rfl,rfl⟩ (by kernel_rfl)
def JH:=kE 0 [] [] 4 (AG CK) kx
def Nq:St->Option (RT (BM.outs CK)):=lG Ot [] [0,3,20,21,22] 4 (AG CK) JH
def Zq:=kB [] [0,3,20,21,22] 4 Nq
def PD:=cG Oq Zq (AG CK) JH
def Zr:=kB [] [0,3,20,21,22] 4 PD
def Zs:=kE 1 [] [0,3,20,21,22] 4 PD JH
def Nr (x0:Int) (x1:List AE) (x2 x3:Int) (x4:Bool) (x5:List (List Int)) (x6:List O) (x7:List Z) (x8:List AD) (x9:AE):Option AB:=cG Oo Zr (AG CK) Zs ⟨[(0,.ptr 0 0),(3,.int .i64 x0),(9,.ptr 4 0),(20,.lst Ar x1),(21,.int .i64 x2),(22,.int .i64 x3),(47,.bool x4)],[.var [.lst (.slice (.int .i64)) x5,.row 1,.row 2,.row 3],.rows 42 U x6,.rows 97 AF x7,.rows 47 AJ x8,.var (Ar.enc x9)]⟩
def CR (x0:Int) (x1:List AE) (x2 x3:Int) (x4:List (List Int)) (x5:List O) (x6:List Z) (x7:List AD):Option AB:=Nq ⟨[(0,.ptr 0 0),(3,.int .i64 x0),(20,.lst Ar x1),(21,.int .i64 x2),(22,.int .i64 x3)],[.var [.lst (.slice (.int .i64)) x4,.row 1,.row 2,.row 3],.rows 42 U x5,.rows 97 AF x6,.rows 47 AJ x7]⟩
def Ns (x0:Int) (x1:List AE) (x2 x3:Int) (x4:Bool) (x5:List (List Int)) (x6:List O) (x7:List Z) (x8:List AD) (x9:AE):Option AB:=(if 0<=x9.1 then (if x9.1<(x8.length:Int) then (let z2:List AD:=x8.set x9.1.toNat ((x8.getD x9.1.toNat (0,ByteArray.empty,ByteArray.empty,0,0,0,0,0,ByteArray.empty)).1,((x8.getD x9.1.toNat (0,ByteArray.empty,ByteArray.empty,0,0,0,0,0,ByteArray.empty)).2).1,(((x8.getD x9.1.toNat (0,ByteArray.empty,ByteArray.empty,0,0,0,0,0,ByteArray.empty)).2).2).1,((((x8.getD x9.1.toNat (0,ByteArray.empty,ByteArray.empty,0,0,0,0,0,ByteArray.empty)).2).2).2).1,x0,(((((x8.getD x9.1.toNat (0,ByteArray.empty,ByteArray.empty,0,0,0,0,0,ByteArray.empty)).2).2).2).2).2); (let z3:List AD:=z2.set x9.1.toNat ((z2.getD x9.1.toNat (0,ByteArray.empty,ByteArray.empty,0,0,0,0,0,ByteArray.empty)).1,((z2.getD x9.1.toNat (0,ByteArray.empty,ByteArray.empty,0,0,0,0,0,ByteArray.empty)).2).1,(((z2.getD x9.1.toNat (0,ByteArray.empty,ByteArray.empty,0,0,0,0,0,ByteArray.empty)).2).2).1,((((z2.getD x9.1.toNat (0,ByteArray.empty,ByteArray.empty,0,0,0,0,0,ByteArray.empty)).2).2).2).1,(((((z2.getD x9.1.toNat (0,ByteArray.empty,ByteArray.empty,0,0,0,0,0,ByteArray.empty)).2).2).2).2).1,x9.2.2.2.2.2,((((((z2.getD x9.1.toNat (0,ByteArray.empty,ByteArray.empty,0,0,0,0,0,ByteArray.empty)).2).2).2).2).2).2); (let z4:List AD:=z3.set x9.1.toNat ((z3.getD x9.1.toNat (0,ByteArray.empty,ByteArray.empty,0,0,0,0,0,ByteArray.empty)).1,((z3.getD x9.1.toNat (0,ByteArray.empty,ByteArray.empty,0,0,0,0,0,ByteArray.empty)).2).1,(((z3.getD x9.1.toNat (0,ByteArray.empty,ByteArray.empty,0,0,0,0,0,ByteArray.empty)).2).2).1,((((z3.getD x9.1.toNat (0,ByteArray.empty,ByteArray.empty,0,0,0,0,0,ByteArray.empty)).2).2).2).1,(((((z3.getD x9.1.toNat (0,ByteArray.empty,ByteArray.empty,0,0,0,0,0,ByteArray.empty)).2).2).2).2).1,((((((z3.getD x9.1.toNat (0,ByteArray.empty,ByteArray.empty,0,0,0,0,0,ByteArray.empty)).2).2).2).2).2).1,x9.2.1,(((((((z3.getD x9.1.toNat (0,ByteArray.empty,ByteArray.empty,0,0,0,0,0,ByteArray.empty)).2).2).2).2).2).2).2); (let z5:List AD:=z4.set x9.1.toNat ((z4.getD x9.1.toNat (0,ByteArray.empty,ByteArray.empty,0,0,0,0,0,ByteArray.empty)).1,((z4.getD x9.1.toNat (0,ByteArray.empty,ByteArray.empty,0,0,0,0,0,ByteArray.empty)).2).1,(((z4.getD x9.1.toNat (0,ByteArray.empty,ByteArray.empty,0,0,0,0,0,ByteArray.empty)).2).2).1,((((z4.getD x9.1.toNat (0,ByteArray.empty,ByteArray.empty,0,0,0,0,0,ByteArray.empty)).2).2).2).1,(((((z4.getD x9.1.toNat (0,ByteArray.empty,ByteArray.empty,0,0,0,0,0,ByteArray.empty)).2).2).2).2).1,((((((z4.getD x9.1.toNat (0,ByteArray.empty,ByteArray.empty,0,0,0,0,0,ByteArray.empty)).2).2).2).2).2).1,(((((((z4.getD x9.1.toNat (0,ByteArray.empty,ByteArray.empty,0,0,0,0,0,ByteArray.empty)).2).2).2).2).2).2).1,x9.2.2.1,((((((((z4.getD x9.1.toNat (0,ByteArray.empty,ByteArray.empty,0,0,0,0,0,ByteArray.empty)).2).2).2).2).2).2).2).2); (if (((z5.getD x9.1.toNat (0,ByteArray.empty,ByteArray.empty,0,0,0,0,0,ByteArray.empty)).1)==2)=true then (let z6:List AD:=z5.set x9.1.toNat ((z5.getD x9.1.toNat (0,ByteArray.empty,ByteArray.empty,0,0,0,0,0,ByteArray.empty)).1,((z5.getD x9.1.toNat (0,ByteArray.empty,ByteArray.empty,0,0,0,0,0,ByteArray.empty)).2).1,(((z5.getD x9.1.toNat (0,ByteArray.empty,ByteArray.empty,0,0,0,0,0,ByteArray.empty)).2).2).1,((((z5.getD x9.1.toNat (0,ByteArray.empty,ByteArray.empty,0,0,0,0,0,ByteArray.empty)).2).2).2).1,(((((z5.getD x9.1.toNat (0,ByteArray.empty,ByteArray.empty,0,0,0,0,0,ByteArray.empty)).2).2).2).2).1,((((((z5.getD x9.1.toNat (0,ByteArray.empty,ByteArray.empty,0,0,0,0,0,ByteArray.empty)).2).2).2).2).2).1,(((((((z5.getD x9.1.toNat (0,ByteArray.empty,ByteArray.empty,0,0,0,0,0,ByteArray.empty)).2).2).2).2).2).2).1,((((((((z5.getD x9.1.toNat (0,ByteArray.empty,ByteArray.empty,0,0,0,0,0,ByteArray.empty)).2).2).2).2).2).2).2).1,x9.2.2.2.2.1); (CR x0 x1 x2 (i64.wrap (x3+1)) x5 x6 x7 z6)) else (CR x0 x1 x2 (i64.wrap (x3+1)) x5 x6 x7 z5)))))) else none) else none)
def IS (x0:Int) (x1:List AE) (x2 x3:Int) (x4:List (List Int)) (x5:List O) (x6:List Z) (x7:List AD):Option AB:=(if (decide (x3<x2))=true then (if 0<=x3 then (if x3<(x1.length:Int) then ((Af ((x1.getD x3.toNat (0,0,0,ByteArray.empty,ByteArray.empty,0)).1) 0 (i64.wrap ((x7.length:Int)-1))).bind fun y1=>(if (!y1)=true then (CR x0 x1 x2 (i64.wrap (x3+1)) x4 x5 x6 x7) else (if 0<=((x1.getD x3.toNat (0,0,0,ByteArray.empty,ByteArray.empty,0)).1) then (if ((x1.getD x3.toNat (0,0,0,ByteArray.empty,ByteArray.empty,0)).1)<(x7.length:Int) then (if (((((((x7.getD (((x1.getD x3.toNat (0,0,0,ByteArray.empty,ByteArray.empty,0)).1).toNat) (0,ByteArray.empty,ByteArray.empty,0,0,0,0,0,ByteArray.empty)).2).2).2).2).1) != (-1:Int))=true then (CR x0 x1 x2 (i64.wrap (x3+1)) x4 x5 x6 x7) else (Nr x0 x1 x2 x3 (((((((x7.getD (((x1.getD x3.toNat (0,0,0,ByteArray.empty,ByteArray.empty,0)).1).toNat) (0,ByteArray.empty,ByteArray.empty,0,0,0,0,0,ByteArray.empty)).2).2).2).2).1) != (-1:Int)) x4 x5 x6 x7 (x1.getD x3.toNat (0,0,0,ByteArray.empty,ByteArray.empty,0)))) else none) else none))) else none) else none) else (some (x4,x5,x6,x7)))
def Ry (x1:List Z) (x2:List AE) (x3:Int) (b0:AB):Option AB:=(if b0.2.2.1.length+x1.length<=68719476736 then (CR x3 x2 (x2.length:Int) 0 b0.1 b0.2.1 (b0.2.2.1++x1) b0.2.2.2) else none)
theorem Yl:rD Ns Nr:=jS (by kernel_rfl)
theorem Nt:s_ IS CR:=lS (by kernel_rfl)
theorem di:bl Ry Fx:=cT CK rfl ⟨rfl,rfl⟩ (by kernel_rfl)
def DW (x0:List AD) (x1:AD):Option Bool:=((CQ x0 x1).bind fun y1=>(some (decide (y1>=0))))
theorem HO:Oi DW CE:=cT BQ rfl ⟨rfl,rfl⟩ (by kernel_rfl)
def Ym (x0 x1:AD):Option Bool:=(if (x0.1==1)=true then (if (x0.2.1.toList==x1.2.1.toList)=true then (if (x0.2.2.1.toList==x1.2.2.2.2.2.2.2.2.toList)=true then ((GH x0).bind fun y1=>(if (!y1)=false then (some (x0.2.2.2.2.2.1==x1.2.2.2.2.2.1)) else (some true))) else (some false)) else (some false)) else (some false))
theorem mg:Oi Ym P8:=cT LO rfl ⟨rfl,rfl⟩ (by kernel_rfl)
def SW:=cG JR (AG Bf) (AG Bf) kx
def SX:=kE 0 [] [] 0 SW kx
def Qj:St->Option (RT (BM.outs Bf)):=lG JQ [] [0,1,7,8] 0 (AG Bf) SX
def Ce (x0:List Int) (x1 x2 x3:Int):Option Int:=Qj ⟨[(0,.lst (.int .i64) x0),(1,.int .i64 x1),(7,.int .i64 x2),(8,.int .i64 x3)],[]⟩
def Bc (x0:List Int) (x1 x2 x3:Int):Option Int:=(if (decide (x3<x2))=true then (if 0<=x3 then (if x3<(x0.length:Int) then (if (x1==(x0.getD x3.toNat 0))=true then (some x3) else (Ce x0 x1 x2 (i64.wrap (x3+1)))) else none) else none) else (some (-1:Int)))
def Uv (x0:List Int) (x1:Int):Option Int:=(Ce x0 x1 (x0.length:Int) 0)
theorem B6:bl Bc Ce:=lS (by kernel_rfl)
theorem L_:Oi Uv DG:=cT Bf rfl ⟨rfl,rfl⟩ (by kernel_rfl)
def Rz (x1:List Int) (b0:AP):Option (Int×AP):=((CT (x1.length:Int) b0).bind fun y1=>(if 0<=y1.1 then (if y1.1<(x1.length:Int) then (some ((x1.getD y1.1.toNat 0),y1.2)) else none) else none))
theorem dj:Oi Rz Hq:=cT Ho rfl ⟨rfl,rfl⟩ (by kernel_rfl)
def Yn (x1:Int) (b0:AP):Option (Bool×AP):=((CT x1 b0).bind fun y1=>(some ((y1.1==0),y1.2)))
theorem mh:Oi Yn DH:=cT LP rfl ⟨rfl,rfl⟩ (by kernel_rfl)
def Yo (x1:List ByteArray) (b0:AP):Option (ByteArray×AP):=((CT (x1.length:Int) b0).bind fun y1=>(if 0<=y1.1 then (if y1.1<(x1.length:Int) then (some ((x1.getD y1.1.toNat ByteArray.empty),y1.2)) else none) else none))
theorem mi:Oi Yo Le:=cT LQ rfl ⟨rfl,rfl⟩ (by kernel_rfl)
def Jq (x0:List Int) (x1 x2 x3:O) (x4:Y) (x5:List Int) (x6:Z):Option (O×List Z×List AE×Bool):=cG X8 (AG Dr) (AG Dr) kx ⟨[(12,.ptr 1 0),(16,.ptr 2 0),(18,.lst (.int .i64) x0),(20,.ptr 5 0)],[.var (U.enc x1),.var (U.enc x2),.var (U.enc x3),.var (AC.enc x4),.frz (.int .i64) x5,.var (AF.enc x6)]⟩
def HQ (x0:List (List Int)) (x1 x2:Int) (x3:Bool) (x4 x5 x6:O) (x7:Y):Option (O×List Z×List AE×Bool):=cG Vg (AG Dr) (AG Dr) kx ⟨[(1,.lst (.slice (.int .i64)) x0),(2,.int .i64 x1),(3,.int .i64 x2),(6,.ptr 0 0),(12,.ptr 1 0),(16,.ptr 2 0),(17,.ptr 3 0),(69,.bool x3)],[.var (U.enc x4),.var (U.enc x5),.var (U.enc x6),.var (AC.enc x7)]⟩
def Wl (x0:List (List Int)) (x1 x2:Int) (x3 x4:ByteArray) (x5:Bool) (x6 x7:O):Option (O×List Z×List AE×Bool):=cG Vh (AG Dr) (AG Dr) kx ⟨[(1,.lst (.slice (.int .i64)) x0),(2,.int .i64 x1),(3,.int .i64 x2),(4,.str x3),(5,.str x4),(6,.ptr 0 0),(12,.ptr 1 0),(37,.bool x5)],[.var (U.enc x6),.var (U.enc x7)]⟩
def Wm (x0:List Int) (x1 x2 x3:O) (x4:Y) (x5:List Int) (x6:Z):Option (O×List Z×List AE×Bool):=(if ((x0.length:Int)==0)=true then ((HA x3).bind fun y9=>(some (y9.2,[],y9.1,true))) else (qe ((Ai x0 x6 x3).bind fun y10=>(some (x3,y10.1,[],true))) ((Ai x0 x6 x3).bind fun y11=>(some (y11.2,y11.1,[],true)))))
def Wn (x0:List (List Int)) (x1 x2:Int) (x3:Bool) (x4 x5 x6:O) (x7:Y):Option (O×List Z×List AE×Bool):=(if 0<=(i64.wrap (x4.2.1-1)) then (if (i64.wrap (x4.2.1-1))<(x0.length:Int) then ((B3 (x0.getD (i64.wrap (x4.2.1-1)).toNat ([]:List Int)) x6).bind fun y6=>((Bh y6.1).bind fun y7=>((Cn y7).bind fun y8=>(if (x1==1)=true then (Jq y6.1 x4 x5 (y6.2.1,y6.2.2.1,y6.2.2.2.1,y6.2.2.2.2.1,y6.2.2.2.2.2.1,y6.2.2.2.2.2.2.1,y6.2.2.2.2.2.2.2.1,y6.2.2.2.2.2.2.2.2.1,y6.2.2.2.2.2.2.2.2.2.1,x1,x2,y6.2.2.2.2.2.2.2.2.2.1,x7,y8) x7 y8 (5,0,0,0,y6.2.2.2.2.2.2.2.2.2.1,([x7]:List Y))) else (Jq y6.1 x4 x5 (y6.2.1,y6.2.2.1,y6.2.2.2.1,y6.2.2.2.2.1,y6.2.2.2.2.2.1,y6.2.2.2.2.2.2.1,y6.2.2.2.2.2.2.2.1,y6.2.2.2.2.2.2.2.2.1,y6.2.2.2.2.2.2.2.2.2.1,x1,x2,y6.2.2.2.2.2.2.2.2.2.1,x7,y8) x7 y8 (7,0,0,0,y6.2.2.2.2.2.2.2.2.2.1,([]:List Y))))))) else none) else none)
def Wo (x0:List (List Int)) (x1 x2:Int) (x3 x4:ByteArray) (x5:Bool) (x6 x7:O):Option (O×List Z×List AE×Bool):=((Cl x6).bind fun y4=>(if (x1==1)=true then (if ((x6.2.2.2.2.2.2.2.1.length:Int)==12)=true then ((NR x6.2.2.2.2.2.2.2.1 x3).bind fun y5=>(if (false != XZ AC y5 (ByteArray.empty,ByteArray.empty,0))=true then (some ((0,0,false,false,false,false,([]:List Int),([]:List Y),0,0,0,0,(ByteArray.empty,ByteArray.empty,0),([]:List Int)),[],[],false)) else (HQ x0 x1 x2 (false != XZ AC y5 (ByteArray.empty,ByteArray.empty,0)) x6 x7 (y4.1,y4.2.1,y4.2.2.1,y4.2.2.2.1,y4.2.2.2.2.1,y4.2.2.2.2.2.1,y4.2.2.2.2.2.2.1,y4.2.2.2.2.2.2.2.1,(i64.wrap (y4.2.2.2.2.2.2.2.2.1+1)),y4.2.2.2.2.2.2.2.2.2) (x3,x4,(i64.wrap ((i64.wrap (1000*x6.2.1))+(i64.wrap (y4.2.2.2.2.2.2.2.2.1+1)))))))) else (HQ x0 x1 x2 false x6 x7 (y4.1,y4.2.1,y4.2.2.1,y4.2.2.2.1,y4.2.2.2.2.1,y4.2.2.2.2.2.1,y4.2.2.2.2.2.2.1,y4.2.2.2.2.2.2.2.1,(i64.wrap (y4.2.2.2.2.2.2.2.2.1+1)),y4.2.2.2.2.2.2.2.2.2) (x3,x4,(i64.wrap ((i64.wrap (1000*x6.2.1))+(i64.wrap (y4.2.2.2.2.2.2.2.2.1+1))))))) else (HQ x0 x1 x2 false x6 x7 (y4.1,y4.2.1,y4.2.2.1,y4.2.2.2.1,y4.2.2.2.2.1,y4.2.2.2.2.2.1,y4.2.2.2.2.2.2.1,y4.2.2.2.2.2.2.2.1,(i64.wrap (y4.2.2.2.2.2.2.2.2.1+1)),y4.2.2.2.2.2.2.2.2.2) (x3,x4,(i64.wrap ((i64.wrap (1000*x6.2.1))+(i64.wrap (y4.2.2.2.2.2.2.2.2.1+1))))))))
def dl (x0:O) (x1:List (List Int)) (x2 x3:Int) (x4 x5:ByteArray):Option (O×List Z×List AE×Bool):=((Ff x0).bind fun y1=>(if (!y1)=false then ((G_ x1 x0).bind fun y2=>(if (!y2.1)=false then ((Lc x2 x3 x4 x5).bind fun y3=>(if (!y3)=true then (some ((0,0,false,false,false,false,([]:List Int),([]:List Y),0,0,0,0,(ByteArray.empty,ByteArray.empty,0),([]:List Int)),[],[],false)) else (Wl x1 x2 x3 x4 x5 (!y3) y2.2 (0,0,false,false,false,false,([]:List Int),([]:List Y),0,0,0,0,(ByteArray.empty,ByteArray.empty,0),([]:List Int))))) else (some ((0,0,false,false,false,false,([]:List Int),([]:List Y),0,0,0,0,(ByteArray.empty,ByteArray.empty,0),([]:List Int)),[],[],false)))) else (some ((0,0,false,false,false,false,([]:List Int),([]:List Y),0,0,0,0,(ByteArray.empty,ByteArray.empty,0),([]:List Int)),[],[],false))))
theorem jP:vu Wm Jq:=jS (by kernel_rfl)
theorem jQ:s_ Wn HQ:=jS (by kernel_rfl)
theorem jR:s_ Wo Wl:=jS (by kernel_rfl)
theorem qK:uC dl Pa:=cT Dr rfl ⟨rfl,rfl⟩ (by kernel_rfl)
def Jr (x0:List (List Int)) (x1:Int) (x2:Bool) (x3 x4 x5:O):Option (O×List Z×Bool):=cG Vm (AG Fw) (AG Fw) kx ⟨[(1,.lst (.slice (.int .i64)) x0),(2,.int .i64 x1),(6,.ptr 1 0),(9,.ptr 2 0),(10,.bool x2)],[.var (U.enc x3),.var (U.enc x4),.var (U.enc x5)]⟩
def Wp (x0:List (List Int)) (x1:Int) (x2:Bool) (x3 x4:O):Option (O×List Z×Bool):=cG Vn (AG Fw) (AG Fw) kx ⟨[(1,.lst (.slice (.int .i64)) x0),(2,.int .i64 x1),(3,.ptr 0 0),(6,.ptr 1 0),(44,.bool x2)],[.var (U.enc x3),.var (U.enc x4)]⟩
def Wq (x0:List (List Int)) (x1:Int) (x2:Bool) (x3 x4 x5:O):Option (O×List Z×Bool):=((Fy x5).bind fun y5=>(if x2=true then (if 0<=(i64.wrap (x1-1)) then (if (i64.wrap (x1-1))<(x0.length:Int) then ((DI (x0.getD (i64.wrap (x1-1)).toNat ([]:List Int)) y5.2.2.2.2.2.2.2.1 (y5.1,x1,false,false,true,y5.2.2.2.2.2)).bind fun y6=>(some (y6.2,y6.1,true))) else none) else none) else (if 0<=(i64.wrap (x1-2)) then (if (i64.wrap (x1-2))<(x0.length:Int) then (qe ((B3 (x0.getD (i64.wrap (x1-2)).toNat ([]:List Int)) (y5.1,x1,false,false,true,y5.2.2.2.2.2)).bind fun y7=>((Ai y7.1 (1,0,0,0,0,([]:List Y)) y7.2).bind fun y8=>(some ((y5.1,x1,false,false,true,y5.2.2.2.2.2),y8.1,true)))) ((B3 (x0.getD (i64.wrap (x1-2)).toNat ([]:List Int)) (y5.1,x1,false,false,true,y5.2.2.2.2.2)).bind fun y9=>(qe ((Ai y9.1 (1,0,0,0,0,([]:List Y)) y9.2).bind fun y10=>(some (y9.2,y10.1,true))) ((Ai y9.1 (1,0,0,0,0,([]:List Y)) y9.2).bind fun y11=>(some (y11.2,y11.1,true)))))) else none) else none)))
def Wr (x0:List (List Int)) (x1:Int) (x2:Bool) (x3 x4:O):Option (O×List Z×Bool):=((Cl x3).bind fun y4=>(if x3.2.2.2.1=true then (Jr x0 x1 (x3.2.1==(i64.wrap (x1-1))) x3 x4 y4) else (Jr x0 x1 false x3 x4 y4)))
def dp (x0:O) (x1:List (List Int)) (x2:Int):Option (O×List Z×Bool):=((Ff x0).bind fun y1=>(if (!y1)=true then (some ((0,0,false,false,false,false,([]:List Int),([]:List Y),0,0,0,0,(ByteArray.empty,ByteArray.empty,0),([]:List Int)),[],false)) else ((DF x1).bind fun y2=>(if (!y2)=true then (some ((0,0,false,false,false,false,([]:List Int),([]:List Y),0,0,0,0,(ByteArray.empty,ByteArray.empty,0),([]:List Int)),[],false)) else ((Af x2 2 (x1.length:Int)).bind fun y3=>(if (!y3)=true then (some ((0,0,false,false,false,false,([]:List Int),([]:List Y),0,0,0,0,(ByteArray.empty,ByteArray.empty,0),([]:List Int)),[],false)) else (if (decide (x2<=x0.2.1))=true then (some ((0,0,false,false,false,false,([]:List Int),([]:List Y),0,0,0,0,(ByteArray.empty,ByteArray.empty,0),([]:List Int)),[],false)) else (if 0<=(i64.wrap (x2-1)) then (if (i64.wrap (x2-1))<(x1.length:Int) then (if 0<=(0:Int) then (if 0<((x1.getD (i64.wrap (x2-1)).toNat ([]:List Int)).length:Int) then (if (((x1.getD (i64.wrap (x2-1)).toNat ([]:List Int)).getD (0:Int).toNat 0) != x0.1)=true then (some ((0,0,false,false,false,false,([]:List Int),([]:List Y),0,0,0,0,(ByteArray.empty,ByteArray.empty,0),([]:List Int)),[],false)) else (Wp x1 x2 (((x1.getD (i64.wrap (x2-1)).toNat ([]:List Int)).getD (0:Int).toNat 0) != x0.1) x0 (0,0,false,false,false,false,([]:List Int),([]:List Y),0,0,0,0,(ByteArray.empty,ByteArray.empty,0),([]:List Int)))) else none) else none) else none) else none))))))))
theorem jT:uC Wq Jr:=jS (by kernel_rfl)
theorem jU:sL Wr Wp:=jS (by kernel_rfl)
theorem qL:Qw dp Pb:=cT Fw rfl ⟨rfl,rfl⟩ (by kernel_rfl)
def Gk:=cG C4 (AG AU) (AG AU) kx
def Gl:=kE 0 [] [] 0 Gk kx
def GN:St->Option (RT (BM.outs AU)):=lG C3 [] [0,1,7,8] 0 (AG AU) Gl
def BE (x0:List O) (x1 x2 x3:Int):Option Int:=GN ⟨[(0,.lst U x0),(1,.clo 103 (.int .i64) x1),(7,.int .i64 x2),(8,.int .i64 x3)],[]⟩
def Bl (x0:List O) (x1 x2 x3:Int):Option Int:=(if (decide (x3<x2))=true then (if 0<=x3 then (if x3<(x0.length:Int) then ((Hc (x0.getD x3.toNat (0,0,false,false,false,false,([]:List Int),([]:List Y),0,0,0,0,(ByteArray.empty,ByteArray.empty,0),([]:List Int))) x1).bind fun y1=>(if y1=true then (some x3) else (BE x0 x1 x2 (i64.wrap (x3+1))))) else none) else none) else (some (-1:Int)))
def DM (x0:List O) (x1:Int):Option Int:=(BE x0 x1 (x0.length:Int) 0)
theorem Cx:bl Bl BE:=lS (by kernel_rfl)
theorem HG:Oi DM B_:=cT AU rfl ⟨rfl,rfl⟩ (by kernel_rfl)
def Md (x0:O) (x1:Int):Option Bool:=(some (x0.1==x1))
theorem XO:Oi Md Hc:=cT FR rfl ⟨rfl,rfl⟩ (by kernel_rfl)
def gJ:=cG S8 (AG D1) (AG D1) kx
def gK:=kE 0 [] [] 0 gJ kx
def dq:St->Option (RT (BM.outs D1)):=lG S7 [] [0,3] 0 (AG D1) gK
def H5 (x0:List Int) (x1:Int):Option Bool:=dq ⟨[(0,.lst (.int .i64) x0),(3,.int .i64 x1)],[]⟩
def MA (x0:List Int) (x1:Int):Option Bool:=(if (decide (x1<(x0.length:Int)))=true then (if 0<=x1 then (if x1<(x0.length:Int) then ((AX (x0.getD x1.toNat 0) 1 6).bind fun y2=>(if (!y2)=true then (some false) else (if 0<=(0:Int) then (if 0<=x1 then (if x1<=(x0.length:Int) then (if 0<=x1 then (if x1<(x0.length:Int) then ((Dt ((x0.take x1.toNat).drop (0:Int).toNat) (x0.getD x1.toNat 0)).bind fun y3=>(if y3=true then (some false) else (H5 x0 (i64.wrap (x1+1))))) else none) else none) else none) else none) else none))) else none) else none) else (some true))
def Yp (x0:List Int):Option Bool:=((AX (x0.length:Int) 1 4).bind fun y1=>(if (!y1)=true then (some false) else (H5 x0 0)))
theorem R0:Oi MA H5:=lS (by kernel_rfl)
theorem mj:PP Yp P9:=cT D1 rfl ⟨rfl,rfl⟩ (by kernel_rfl)
def Yq:=cG S_ (AG Bo) (AG Bo) kx
def mm:=kE 0 [(16,2)] [12,16,17,18] 6 Yq kx
def jV:St->Option (RT (BM.outs Bo)):=lG Mu [(16,2)] [2,6,12,16,17,18,19,20,21] 6 (AG Bo) mm
def mn:=kE 0 [(16,2)] [12,16,17,18] 5 Yq kx
def jW:St->Option (RT (BM.outs Bo)):=lG Mu [(16,2)] [2,6,12,16,17,18,19,20,21] 5 (AG Bo) mn
def EN (x0:Int) (x1:List AE) (x2:List Int) (x3:Int) (x4 x5:O) (x6:List Z) (x7:O) (x8:Y) (x9:List Y):Option (O×List Z×List AE×Bool):=jV ⟨[(2,.int .i64 x0),(6,.ptr 0 0),(12,.ptr 1 0),(16,.row 2),(17,.lst Ar x1),(18,.ptr 3 0),(19,.ptr 4 0),(20,.lst (.int .i64) x2),(21,.int .i64 x3)],[.var (U.enc x4),.var (U.enc x5),.rows 97 AF x6,.var (U.enc x7),.var (AC.enc x8),.rows 38 AC x9]⟩
def OX (x0:List (List Int)) (x1 x2:Int) (x3:List AE) (x4:Bool) (x5 x6:O) (x7:List Z) (x8:O) (x9:Y) (x10:List Y):Option (O×List Z×List AE×Bool):=cG Mv (AG Bo) (AG Bo) kx ⟨[(1,.lst (.slice (.int .i64)) x0),(2,.int .i64 x1),(3,.int .i64 x2),(6,.ptr 0 0),(12,.ptr 1 0),(16,.row 2),(17,.lst Ar x3),(18,.ptr 3 0),(19,.ptr 4 0),(130,.bool x4)],[.var (U.enc x5),.var (U.enc x6),.rows 97 AF x7,.var (U.enc x8),.var (AC.enc x9),.rows 38 AC x10]⟩
def EO (x0:Int) (x1:List AE) (x2:List Int) (x3:Int) (x4 x5:O) (x6:List Z) (x7:O) (x8:Y):Option (O×List Z×List AE×Bool):=jW ⟨[(2,.int .i64 x0),(6,.ptr 0 0),(12,.ptr 1 0),(16,.row 2),(17,.lst Ar x1),(18,.ptr 3 0),(19,.ptr 4 0),(20,.lst (.int .i64) x2),(21,.int .i64 x3)],[.var (U.enc x4),.var (U.enc x5),.rows 97 AF x6,.var (U.enc x7),.var (AC.enc x8)]⟩
def OY (x0:List (List Int)) (x1 x2:Int) (x3:List AE) (x4:Bool) (x5 x6:O) (x7:List Z) (x8:O) (x9:Y):Option (O×List Z×List AE×Bool):=cG Mv (AG Bo) (AG Bo) kx ⟨[(1,.lst (.slice (.int .i64)) x0),(2,.int .i64 x1),(3,.int .i64 x2),(6,.ptr 0 0),(12,.ptr 1 0),(16,.row 2),(17,.lst Ar x3),(18,.ptr 3 0),(19,.ptr 4 0),(130,.bool x4)],[.var (U.enc x5),.var (U.enc x6),.rows 97 AF x7,.var (U.enc x8),.var (AC.enc x9)]⟩
def Cu (x0:List (List Int)) (x1 x2:Int) (x3 x4:ByteArray) (x5:List AE) (x6:Bool) (x7 x8:O) (x9:List Z):Option (O×List Z×List AE×Bool):=cG TA (AG Bo) (AG Bo) kx ⟨[(1,.lst (.slice (.int .i64)) x0),(2,.int .i64 x1),(3,.int .i64 x2),(4,.str x3),(5,.str x4),(6,.ptr 0 0),(12,.ptr 1 0),(16,.row 2),(17,.lst Ar x5),(100,.bool x6)],[.var (U.enc x7),.var (U.enc x8),.rows 97 AF x9]⟩
def OZ (x0:Int) (x1:List AE) (x2:List Int) (x3:Int) (x4 x5:O) (x6:List Z) (x7:O) (x8:Y) (x9:List Y):Option (O×List Z×List AE×Bool):=(if (decide (x3<(x2.length:Int)))=true then (if 0<=x3 then (if x3<(x2.length:Int) then (if ((x2.getD x3.toNat 0)==x4.1)=true then (EN x0 x1 x2 (i64.wrap (x3+1)) x4 x5 x6 x7 x8 x9) else (if 0<=x3 then (if x3<(x2.length:Int) then (if (x0==1)=true then (if x6.length+([(5,x4.1,(x2.getD x3.toNat 0),x4.2.1,x7.2.2.2.2.2.2.2.2.1,([x8]:List Y))]:List Z).length<=68719476736 then (EN x0 x1 x2 (i64.wrap (x3+1)) x4 x5 (x6++([(5,x4.1,(x2.getD x3.toNat 0),x4.2.1,x7.2.2.2.2.2.2.2.2.1,([x8]:List Y))]:List Z)) x7 x8 x9) else none) else (if x6.length+([(7,x4.1,(x2.getD x3.toNat 0),x4.2.1,x7.2.2.2.2.2.2.2.2.1,([]:List Y))]:List Z).length<=68719476736 then (EN x0 x1 x2 (i64.wrap (x3+1)) x4 x5 (x6++([(7,x4.1,(x2.getD x3.toNat 0),x4.2.1,x7.2.2.2.2.2.2.2.2.1,([]:List Y))]:List Z)) x7 x8 x9) else none)) else none) else none)) else none) else none) else (some (x7,x6,x1,true)))
def Ws (x0:List (List Int)) (x1 x2:Int) (x3:List AE) (x4:Bool) (x5 x6:O) (x7:List Z) (x8:O) (x9:Y) (x10:List Y):Option (O×List Z×List AE×Bool):=(if 0<=(i64.wrap (x5.2.1-1)) then (if (i64.wrap (x5.2.1-1))<(x0.length:Int) then ((Gg (x0.getD (i64.wrap (x5.2.1-1)).toNat ([]:List Int)) x5.1).bind fun y8=>(if ((y8.length:Int)==0)=true then ((Gh (x8.1,x8.2.1,x8.2.2.1,x8.2.2.2.1,x8.2.2.2.2.1,x8.2.2.2.2.2.1,x8.2.2.2.2.2.2.1,x8.2.2.2.2.2.2.2.1,x8.2.2.2.2.2.2.2.2.1,x1,x2,x8.2.2.2.2.2.2.2.2.1,x9,y8)).bind fun y9=>(some (y9.2,x7,y9.1,true))) else (EN x1 x3 (x0.getD (i64.wrap (x5.2.1-1)).toNat ([]:List Int)) 0 x5 x6 x7 (x8.1,x8.2.1,x8.2.2.1,x8.2.2.2.1,x8.2.2.2.2.1,x8.2.2.2.2.2.1,x8.2.2.2.2.2.2.1,x8.2.2.2.2.2.2.2.1,x8.2.2.2.2.2.2.2.2.1,x1,x2,x8.2.2.2.2.2.2.2.2.1,x9,y8) x9 x10))) else none) else none)
def Oa (x0:Int) (x1:List AE) (x2:List Int) (x3:Int) (x4 x5:O) (x6:List Z) (x7:O) (x8:Y):Option (O×List Z×List AE×Bool):=(if (decide (x3<(x2.length:Int)))=true then (if 0<=x3 then (if x3<(x2.length:Int) then (if ((x2.getD x3.toNat 0)==x4.1)=true then (EO x0 x1 x2 (i64.wrap (x3+1)) x4 x5 x6 x7 x8) else (if 0<=x3 then (if x3<(x2.length:Int) then (if (x0==1)=true then (if x6.length+([(5,x4.1,(x2.getD x3.toNat 0),x4.2.1,x7.2.2.2.2.2.2.2.2.1,([x8]:List Y))]:List Z).length<=68719476736 then (EO x0 x1 x2 (i64.wrap (x3+1)) x4 x5 (x6++([(5,x4.1,(x2.getD x3.toNat 0),x4.2.1,x7.2.2.2.2.2.2.2.2.1,([x8]:List Y))]:List Z)) x7 x8) else none) else (if x6.length+([(7,x4.1,(x2.getD x3.toNat 0),x4.2.1,x7.2.2.2.2.2.2.2.2.1,([]:List Y))]:List Z).length<=68719476736 then (EO x0 x1 x2 (i64.wrap (x3+1)) x4 x5 (x6++([(7,x4.1,(x2.getD x3.toNat 0),x4.2.1,x7.2.2.2.2.2.2.2.2.1,([]:List Y))]:List Z)) x7 x8) else none)) else none) else none)) else none) else none) else (some (x7,x6,x1,true)))
def Wt (x0:List (List Int)) (x1 x2:Int) (x3:List AE) (x4:Bool) (x5 x6:O) (x7:List Z) (x8:O) (x9:Y):Option (O×List Z×List AE×Bool):=(if 0<=(i64.wrap (x5.2.1-1)) then (if (i64.wrap (x5.2.1-1))<(x0.length:Int) then ((Gg (x0.getD (i64.wrap (x5.2.1-1)).toNat ([]:List Int)) x5.1).bind fun y10=>(if ((y10.length:Int)==0)=true then ((Gh (x8.1,x8.2.1,x8.2.2.1,x8.2.2.2.1,x8.2.2.2.2.1,x8.2.2.2.2.2.1,x8.2.2.2.2.2.2.1,x8.2.2.2.2.2.2.2.1,x8.2.2.2.2.2.2.2.2.1,x1,x2,x8.2.2.2.2.2.2.2.2.1,x9,y10)).bind fun y11=>(some (y11.2,x7,y11.1,true))) else (EO x1 x3 (x0.getD (i64.wrap (x5.2.1-1)).toNat ([]:List Int)) 0 x5 x6 x7 (x8.1,x8.2.1,x8.2.2.1,x8.2.2.2.1,x8.2.2.2.2.1,x8.2.2.2.2.2.1,x8.2.2.2.2.2.2.1,x8.2.2.2.2.2.2.2.1,x8.2.2.2.2.2.2.2.2.1,x1,x2,x8.2.2.2.2.2.2.2.2.1,x9,y10) x9))) else none) else none)
def Wu (x0:List (List Int)) (x1 x2:Int) (x3 x4:ByteArray) (x5:List AE) (x6:Bool) (x7 x8:O) (x9:List Z):Option (O×List Z×List AE×Bool):=((D6 x7).bind fun y5=>(if (x1==1)=true then ((IR x7.2.2.2.2.2.2.2.1 (x3,x4,(i64.wrap ((i64.wrap (1000*x7.2.1))+(i64.wrap (x7.2.2.2.2.2.2.2.2.1+1)))))).bind fun y6=>((NS y6 x3).bind fun y7=>(if (true != XZ AC y7 (x3,x4,(i64.wrap ((i64.wrap (1000*x7.2.1))+(i64.wrap (x7.2.2.2.2.2.2.2.2.1+1))))))=true then (some ((0,0,false,false,false,false,([]:List Int),([]:List Y),0,0,0,0,(ByteArray.empty,ByteArray.empty,0),([]:List Int)),x9,x5,false)) else (OX x0 x1 x2 x5 (true != XZ AC y7 (x3,x4,(i64.wrap ((i64.wrap (1000*x7.2.1))+(i64.wrap (x7.2.2.2.2.2.2.2.2.1+1)))))) x7 x8 x9 (y5.1,y5.2.1,y5.2.2.1,y5.2.2.2.1,y5.2.2.2.2.1,y5.2.2.2.2.2.1,y5.2.2.2.2.2.2.1,y5.2.2.2.2.2.2.2.1,(i64.wrap (x7.2.2.2.2.2.2.2.2.1+1)),y5.2.2.2.2.2.2.2.2.2) (x3,x4,(i64.wrap ((i64.wrap (1000*x7.2.1))+(i64.wrap (x7.2.2.2.2.2.2.2.2.1+1))))) y6)))) else (OY x0 x1 x2 x5 false x7 x8 x9 (y5.1,y5.2.1,y5.2.2.1,y5.2.2.2.1,y5.2.2.2.2.1,y5.2.2.2.2.2.1,y5.2.2.2.2.2.2.1,y5.2.2.2.2.2.2.2.1,(i64.wrap (x7.2.2.2.2.2.2.2.2.1+1)),y5.2.2.2.2.2.2.2.2.2) (x3,x4,(i64.wrap ((i64.wrap (1000*x7.2.1))+(i64.wrap (x7.2.2.2.2.2.2.2.2.1+1))))))))
def dr (x0:O) (x1:List (List Int)) (x2 x3:Int) (x4 x5:ByteArray):Option (O×List Z×List AE×Bool):=((Fg x0).bind fun y1=>(if (!y1)=true then (some ((0,0,false,false,false,false,([]:List Int),([]:List Y),0,0,0,0,(ByteArray.empty,ByteArray.empty,0),([]:List Int)),([]:List Z),([]:List AE),false)) else ((D5 x1).bind fun y2=>(if (!y2)=true then (some ((0,0,false,false,false,false,([]:List Int),([]:List Y),0,0,0,0,(ByteArray.empty,ByteArray.empty,0),([]:List Int)),([]:List Z),([]:List AE),false)) else (if (!x0.2.2.2.2.2.1)=true then (some ((0,0,false,false,false,false,([]:List Int),([]:List Y),0,0,0,0,(ByteArray.empty,ByteArray.empty,0),([]:List Int)),([]:List Z),([]:List AE),false)) else (if (x0.2.2.2.2.2.2.2.2.2.1 != 0)=true then (some ((0,0,false,false,false,false,([]:List Int),([]:List Y),0,0,0,0,(ByteArray.empty,ByteArray.empty,0),([]:List Int)),([]:List Z),([]:List AE),false)) else (if (decide (x0.2.2.2.2.2.2.2.2.1>=900))=true then (some ((0,0,false,false,false,false,([]:List Int),([]:List Y),0,0,0,0,(ByteArray.empty,ByteArray.empty,0),([]:List Int)),([]:List Z),([]:List AE),false)) else (if (x2 != 1)=true then (if (x2 != 2)=true then (some ((0,0,false,false,false,false,([]:List Int),([]:List Y),0,0,0,0,(ByteArray.empty,ByteArray.empty,0),([]:List Int)),([]:List Z),([]:List AE),false)) else ((AX x3 0 1000).bind fun y3=>(if (!y3)=true then (some ((0,0,false,false,false,false,([]:List Int),([]:List Y),0,0,0,0,(ByteArray.empty,ByteArray.empty,0),([]:List Int)),([]:List Z),([]:List AE),false)) else ((AX (x4.size:Int) 1 12).bind fun y4=>(if (!y4)=true then (some ((0,0,false,false,false,false,([]:List Int),([]:List Y),0,0,0,0,(ByteArray.empty,ByteArray.empty,0),([]:List Int)),([]:List Z),([]:List AE),false)) else (if (decide ((x5.size:Int)>20))=true then (some ((0,0,false,false,false,false,([]:List Int),([]:List Y),0,0,0,0,(ByteArray.empty,ByteArray.empty,0),([]:List Int)),([]:List Z),([]:List AE),false)) else (if (x2==2)=true then (if (!(x5.toList==(⟨#[]⟩:ByteArray).toList))=true then (some ((0,0,false,false,false,false,([]:List Int),([]:List Y),0,0,0,0,(ByteArray.empty,ByteArray.empty,0),([]:List Int)),([]:List Z),([]:List AE),false)) else (if (decide (x0.2.1>(x1.length:Int)))=true then (some ((0,0,false,false,false,false,([]:List Int),([]:List Y),0,0,0,0,(ByteArray.empty,ByteArray.empty,0),([]:List Int)),([]:List Z),([]:List AE),false)) else (if 0<=(i64.wrap (x0.2.1-1)) then (if (i64.wrap (x0.2.1-1))<(x1.length:Int) then (if 0<=(0:Int) then (if 0<((x1.getD (i64.wrap (x0.2.1-1)).toNat ([]:List Int)).length:Int) then (if (((x1.getD (i64.wrap (x0.2.1-1)).toNat ([]:List Int)).getD (0:Int).toNat 0) != x0.1)=true then (some ((0,0,false,false,false,false,([]:List Int),([]:List Y),0,0,0,0,(ByteArray.empty,ByteArray.empty,0),([]:List Int)),([]:List Z),([]:List AE),false)) else (Cu x1 x2 x3 x4 x5 ([]:List AE) (((x1.getD (i64.wrap (x0.2.1-1)).toNat ([]:List Int)).getD (0:Int).toNat 0) != x0.1) x0 (0,0,false,false,false,false,([]:List Int),([]:List Y),0,0,0,0,(ByteArray.empty,ByteArray.empty,0),([]:List Int)) ([]:List Z))) else none) else none) else none) else none))) else (if (decide (x0.2.1>(x1.length:Int)))=true then (some ((0,0,false,false,false,false,([]:List Int),([]:List Y),0,0,0,0,(ByteArray.empty,ByteArray.empty,0),([]:List Int)),([]:List Z),([]:List AE),false)) else (if 0<=(i64.wrap (x0.2.1-1)) then (if (i64.wrap (x0.2.1-1))<(x1.length:Int) then (if 0<=(0:Int) then (if 0<((x1.getD (i64.wrap (x0.2.1-1)).toNat ([]:List Int)).length:Int) then (if (((x1.getD (i64.wrap (x0.2.1-1)).toNat ([]:List Int)).getD (0:Int).toNat 0) != x0.1)=true then (some ((0,0,false,false,false,false,([]:List Int),([]:List Y),0,0,0,0,(ByteArray.empty,ByteArray.empty,0),([]:List Int)),([]:List Z),([]:List AE),false)) else (Cu x1 x2 x3 x4 x5 ([]:List AE) (((x1.getD (i64.wrap (x0.2.1-1)).toNat ([]:List Int)).getD (0:Int).toNat 0) != x0.1) x0 (0,0,false,false,false,false,([]:List Int),([]:List Y),0,0,0,0,(ByteArray.empty,ByteArray.empty,0),([]:List Int)) ([]:List Z))) else none) else none) else none) else none))))))))) else ((AX x3 0 1000).bind fun y12=>(if (!y12)=true then (some ((0,0,false,false,false,false,([]:List Int),([]:List Y),0,0,0,0,(ByteArray.empty,ByteArray.empty,0),([]:List Int)),([]:List Z),([]:List AE),false)) else ((AX (x4.size:Int) 1 12).bind fun y13=>(if (!y13)=true then (some ((0,0,false,false,false,false,([]:List Int),([]:List Y),0,0,0,0,(ByteArray.empty,ByteArray.empty,0),([]:List Int)),([]:List Z),([]:List AE),false)) else (if (decide ((x5.size:Int)>20))=true then (some ((0,0,false,false,false,false,([]:List Int),([]:List Y),0,0,0,0,(ByteArray.empty,ByteArray.empty,0),([]:List Int)),([]:List Z),([]:List AE),false)) else (if (x2==2)=true then (if (!(x5.toList==(⟨#[]⟩:ByteArray).toList))=true then (some ((0,0,false,false,false,false,([]:List Int),([]:List Y),0,0,0,0,(ByteArray.empty,ByteArray.empty,0),([]:List Int)),([]:List Z),([]:List AE),false)) else (if (decide (x0.2.1>(x1.length:Int)))=true then (some ((0,0,false,false,false,false,([]:List Int),([]:List Y),0,0,0,0,(ByteArray.empty,ByteArray.empty,0),([]:List Int)),([]:List Z),([]:List AE),false)) else (if 0<=(i64.wrap (x0.2.1-1)) then (if (i64.wrap (x0.2.1-1))<(x1.length:Int) then (if 0<=(0:Int) then (if 0<((x1.getD (i64.wrap (x0.2.1-1)).toNat ([]:List Int)).length:Int) then (if (((x1.getD (i64.wrap (x0.2.1-1)).toNat ([]:List Int)).getD (0:Int).toNat 0) != x0.1)=true then (some ((0,0,false,false,false,false,([]:List Int),([]:List Y),0,0,0,0,(ByteArray.empty,ByteArray.empty,0),([]:List Int)),([]:List Z),([]:List AE),false)) else (Cu x1 x2 x3 x4 x5 ([]:List AE) (((x1.getD (i64.wrap (x0.2.1-1)).toNat ([]:List Int)).getD (0:Int).toNat 0) != x0.1) x0 (0,0,false,false,false,false,([]:List Int),([]:List Y),0,0,0,0,(ByteArray.empty,ByteArray.empty,0),([]:List Int)) ([]:List Z))) else none) else none) else none) else none))) else (if (decide (x0.2.1>(x1.length:Int)))=true then (some ((0,0,false,false,false,false,([]:List Int),([]:List Y),0,0,0,0,(ByteArray.empty,ByteArray.empty,0),([]:List Int)),([]:List Z),([]:List AE),false)) else (if 0<=(i64.wrap (x0.2.1-1)) then (if (i64.wrap (x0.2.1-1))<(x1.length:Int) then (if 0<=(0:Int) then (if 0<((x1.getD (i64.wrap (x0.2.1-1)).toNat ([]:List Int)).length:Int) then (if (((x1.getD (i64.wrap (x0.2.1-1)).toNat ([]:List Int)).getD (0:Int).toNat 0) != x0.1)=true then (some ((0,0,false,false,false,false,([]:List Int),([]:List Y),0,0,0,0,(ByteArray.empty,ByteArray.empty,0),([]:List Int)),([]:List Z),([]:List AE),false)) else (Cu x1 x2 x3 x4 x5 ([]:List AE) (((x1.getD (i64.wrap (x0.2.1-1)).toNat ([]:List Int)).getD (0:Int).toNat 0) != x0.1) x0 (0,0,false,false,false,false,([]:List Int),([]:List Y),0,0,0,0,(ByteArray.empty,ByteArray.empty,0),([]:List Int)) ([]:List Z))) else none) else none) else none) else none))))))))))))))))
theorem Ww:rD OZ EN:=lS (by kernel_rfl)
theorem jX:y_ Ws OX:=jS (by kernel_rfl)
theorem Wx:yP Oa EO:=lS (by kernel_rfl)
theorem jY:rD Wt OY:=jS (by kernel_rfl)
theorem jZ:rD Wu Cu:=jS (by kernel_rfl)
theorem qM:uC dr Ul:=cT Bo rfl ⟨rfl,rfl⟩ (by kernel_rfl)

def mo:=cG V6 (AG Cs) (AG Cs) kx
def mq:=kE 0 [(9,2)] [6,9,11] 5 mo kx
def ja:St->Option (RT (BM.outs Cs)):=lG V5 [(9,2)] [1,2,3,6,9,11,13] 5 (AG Cs) mq
def Fj (x0:List (List Int)) (x1 x2:Int) (x3 x4:O) (x5:List Z) (x6:List Y) (x7:O):Option (O×List Z×Bool):=ja ⟨[(1,.lst (.slice (.int .i64)) x0),(2,.int .i64 x1),(3,.ptr 0 0),(6,.ptr 1 0),(9,.row 2),(11,.ptr 4 0),(13,.int .i64 x2)],[.var (U.enc x3),.var (U.enc x4),.rows 97 AF x5,.frz AC x6,.var (U.enc x7)]⟩
def HR (x0:List (List Int)) (x1:Int) (x2:Bool) (x3 x4:O) (x5:List Z):Option (O×List Z×Bool):=cG V7 (AG Cs) (AG Cs) kx ⟨[(1,.lst (.slice (.int .i64)) x0),(2,.int .i64 x1),(3,.ptr 0 0),(6,.ptr 1 0),(9,.row 2),(10,.bool x2)],[.var (U.enc x3),.var (U.enc x4),.rows 97 AF x5]⟩
def Wy (x0:List (List Int)) (x1:Int) (x2:Bool) (x3 x4:O) (x5:List Z):Option (O×List Z×Bool):=cG V8 (AG Cs) (AG Cs) kx ⟨[(1,.lst (.slice (.int .i64)) x0),(2,.int .i64 x1),(3,.ptr 0 0),(6,.ptr 1 0),(9,.row 2),(48,.bool x2)],[.var (U.enc x3),.var (U.enc x4),.rows 97 AF x5]⟩
def Ob (x0:List (List Int)) (x1 x2:Int) (x3 x4:O) (x5:List Z) (x6:List Y) (x7:O):Option (O×List Z×Bool):=(if 0<=(i64.wrap (x1-2)) then (if (i64.wrap (x1-2))<(x0.length:Int) then (if (decide (x2<((x0.getD (i64.wrap (x1-2)).toNat ([]:List Int)).length:Int)))=true then (if 0<=(i64.wrap (x1-2)) then (if (i64.wrap (x1-2))<(x0.length:Int) then (if 0<=x2 then (if x2<((x0.getD (i64.wrap (x1-2)).toNat ([]:List Int)).length:Int) then (if (((x0.getD (i64.wrap (x1-2)).toNat ([]:List Int)).getD x2.toNat 0) != x3.1)=true then (if x5.length+([(1,x3.1,((x0.getD (i64.wrap (x1-2)).toNat ([]:List Int)).getD x2.toNat 0),x1,0,([]:List Y))]:List Z).length<=68719476736 then (Fj x0 x1 (i64.wrap (x2+1)) x3 x4 (x5++([(1,x3.1,((x0.getD (i64.wrap (x1-2)).toNat ([]:List Int)).getD x2.toNat 0),x1,0,([]:List Y))]:List Z)) x6 x7) else none) else (Fj x0 x1 (i64.wrap (x2+1)) x3 x4 x5 x6 x7)) else none) else none) else none) else none) else ((D6 x7).bind fun y7=>(some (y7,x5,true)))) else none) else none)
def Wz (x0:List (List Int)) (x1:Int) (x2:Bool) (x3 x4:O) (x5:List Z):Option (O×List Z×Bool):=(if ([]:List Y).length+x3.2.2.2.2.2.2.2.1.length<=68719476736 then (if x2=true then (if 0<=(i64.wrap (x1-1)) then (if (i64.wrap (x1-1))<(x0.length:Int) then ((NT (x0.getD (i64.wrap (x1-1)).toNat ([]:List Int)) x3.2.2.2.2.2.2.2.1 (x3.1,x1,false,false,true,false,([]:List Int),(([]:List Y)++x3.2.2.2.2.2.2.2.1),0,0,0,0,(ByteArray.empty,ByteArray.empty,0),([]:List Int))).bind fun y5=>((D6 y5.2).bind fun y6=>(some (y6,y5.1,true)))) else none) else none) else (Fj x0 x1 0 x3 x4 x5 (([]:List Y)++x3.2.2.2.2.2.2.2.1) (x3.1,x1,false,false,true,false,([]:List Int),(([]:List Y)++x3.2.2.2.2.2.2.2.1),0,0,0,0,(ByteArray.empty,ByteArray.empty,0),([]:List Int)))) else none)
def W0 (x0:List (List Int)) (x1:Int) (x2:Bool) (x3 x4:O) (x5:List Z):Option (O×List Z×Bool):=(if x3.2.2.2.1=true then (if (x3.2.1==(i64.wrap (x1-1)))=true then (if 0<=(i64.wrap (x1-2)) then (if (i64.wrap (x1-2))<(x0.length:Int) then ((Dt (x0.getD (i64.wrap (x1-2)).toNat ([]:List Int)) x3.1).bind fun y4=>(HR x0 x1 y4 x3 x4 x5)) else none) else none) else (HR x0 x1 false x3 x4 x5)) else (HR x0 x1 false x3 x4 x5))
def dt (x0:O) (x1:List (List Int)) (x2:Int):Option (O×List Z×Bool):=((Fg x0).bind fun y1=>(if (!y1)=true then (some ((0,0,false,false,false,false,([]:List Int),([]:List Y),0,0,0,0,(ByteArray.empty,ByteArray.empty,0),([]:List Int)),([]:List Z),false)) else ((D5 x1).bind fun y2=>(if (!y2)=true then (some ((0,0,false,false,false,false,([]:List Int),([]:List Y),0,0,0,0,(ByteArray.empty,ByteArray.empty,0),([]:List Int)),([]:List Z),false)) else ((AX x2 2 (x1.length:Int)).bind fun y3=>(if (!y3)=true then (some ((0,0,false,false,false,false,([]:List Int),([]:List Y),0,0,0,0,(ByteArray.empty,ByteArray.empty,0),([]:List Int)),([]:List Z),false)) else (if (decide (x2<=x0.2.1))=true then (some ((0,0,false,false,false,false,([]:List Int),([]:List Y),0,0,0,0,(ByteArray.empty,ByteArray.empty,0),([]:List Int)),([]:List Z),false)) else (if 0<=(i64.wrap (x2-1)) then (if (i64.wrap (x2-1))<(x1.length:Int) then (if 0<=(0:Int) then (if 0<((x1.getD (i64.wrap (x2-1)).toNat ([]:List Int)).length:Int) then (if (((x1.getD (i64.wrap (x2-1)).toNat ([]:List Int)).getD (0:Int).toNat 0) != x0.1)=true then (some ((0,0,false,false,false,false,([]:List Int),([]:List Y),0,0,0,0,(ByteArray.empty,ByteArray.empty,0),([]:List Int)),([]:List Z),false)) else (Wy x1 x2 (((x1.getD (i64.wrap (x2-1)).toNat ([]:List Int)).getD (0:Int).toNat 0) != x0.1) x0 (0,0,false,false,false,false,([]:List Int),([]:List Y),0,0,0,0,(ByteArray.empty,ByteArray.empty,0),([]:List Int)) ([]:List Z))) else none) else none) else none) else none))))))))
theorem W3:s_ Ob Fj:=lS (by kernel_rfl)
theorem jb:uC Wz HR:=jS (by kernel_rfl)
theorem jc:uC W0 Wy:=jS (by kernel_rfl)
theorem qN:Qw dt Um:=cT Cs rfl ⟨rfl,rfl⟩ (by kernel_rfl)
def gL:=cG RS (AG Bg) (AG Bg) kx
def gM:=cG LR (AG Bg) (AG Bg) kx
def F7 (x0:List Z) (x1:List AE) (x2:Bool) (x3:O) (x4:Z) (x5 x6:O):Option (O×List Z×List AE):=cG RR gL (AG Bg) kx ⟨[(3,.ptr 0 0),(5,.ptr 1 0),(6,.ptr 2 0),(9,.ptr 3 0),(10,.lst AF x0),(11,.lst Ar x1),(146,.bool x2)],[.var (U.enc x3),.var (AF.enc x4),.var (U.enc x5),.var (U.enc x6)]⟩
def MB (x0:List (List Int)) (x1:List Z) (x2:List AE) (x3:Bool) (x4:O) (x5:Z) (x6 x7:O):Option (O×List Z×List AE):=cG LR (AG Bg) (AG Bg) kx ⟨[(1,.lst (.slice (.int .i64)) x0),(3,.ptr 0 0),(5,.ptr 1 0),(6,.ptr 2 0),(9,.ptr 3 0),(10,.lst AF x1),(11,.lst Ar x2),(105,.bool x3)],[.var (U.enc x4),.var (AF.enc x5),.var (U.enc x6),.var (U.enc x7)]⟩
def EG (x0:List (List Int)) (x1:List Z) (x2:List AE) (x3:Bool) (x4:O) (x5:Z) (x6 x7:O):Option (O×List Z×List AE):=cG RP gM (AG Bg) kx ⟨[(1,.lst (.slice (.int .i64)) x0),(3,.ptr 0 0),(5,.ptr 1 0),(6,.ptr 2 0),(9,.ptr 3 0),(10,.lst AF x1),(11,.lst Ar x2),(105,.bool x3)],[.var (U.enc x4),.var (AF.enc x5),.var (U.enc x6),.var (U.enc x7)]⟩
def R1 (x0:List (List Int)) (x1:List Z) (x2:List AE) (x3:Bool) (x4:O) (x5:Z) (x6 x7:O):Option (O×List Z×List AE):=cG RU (AG Bg) (AG Bg) kx ⟨[(1,.lst (.slice (.int .i64)) x0),(3,.ptr 0 0),(5,.ptr 1 0),(6,.ptr 2 0),(9,.ptr 3 0),(10,.lst AF x1),(11,.lst Ar x2),(59,.bool x3)],[.var (U.enc x4),.var (AF.enc x5),.var (U.enc x6),.var (U.enc x7)]⟩
def R2 (x0:List Z) (x1:List AE) (x2:Bool) (x3:O) (x4:Z) (x5 x6:O):Option (O×List Z×List AE):=(if x2=true then (if ([]:List Y).length+x4.2.2.2.2.2.length<=68719476736 then ((EK x3 x4 4).bind fun y9=>(some ((x3.1,x4.2.2.2.1,false,true,false,false,([]:List Int),(([]:List Y)++x4.2.2.2.2.2),0,0,0,0,(ByteArray.empty,ByteArray.empty,0),([]:List Int)),y9,x1))) else none) else (some (x6,x0,x1)))
def R3 (x0:List (List Int)) (x1:List Z) (x2:List AE) (x3:Bool) (x4:O) (x5:Z) (x6 x7:O):Option (O×List Z×List AE):=(if 0<=(i64.wrap (x5.2.2.2.1-1)) then (if (i64.wrap (x5.2.2.2.1-1))<(x0.length:Int) then (if (x5.1==3)=true then ((Dt (x0.getD (i64.wrap (x5.2.2.2.1-1)).toNat ([]:List Int)) x4.1).bind fun y8=>(if y8=true then (if 0<=(0:Int) then (if 0<((x0.getD (i64.wrap (x5.2.2.2.1-1)).toNat ([]:List Int)).length:Int) then (F7 x1 x2 (((x0.getD (i64.wrap (x5.2.2.2.1-1)).toNat ([]:List Int)).getD (0:Int).toNat 0) != x4.1) x4 x5 x6 x7) else none) else none) else (F7 x1 x2 false x4 x5 x6 x7))) else (F7 x1 x2 false x4 x5 x6 x7)) else none) else none)
def R4 (x0:List (List Int)) (x1:List Z) (x2:List AE) (x3:Bool) (x4:O) (x5:Z) (x6 x7:O):Option (O×List Z×List AE):=(if x3=true then ((Lf x4 x5.2.2.2.1).bind fun y7=>(if ([]:List Y).length+x4.2.2.2.2.2.2.2.1.length<=68719476736 then (some (y7,([(2,x4.1,x5.2.1,x5.2.2.2.1,0,(([]:List Y)++x4.2.2.2.2.2.2.2.1))]:List Z),x2)) else none)) else (MB x0 x1 x2 x3 x4 x5 x6 x7))
def R5 (x0:List (List Int)) (x1:List Z) (x2:List AE) (x3:Bool) (x4:O) (x5:Z) (x6 x7:O):Option (O×List Z×List AE):=(if (x5.2.2.2.1==x4.2.1)=true then (if 0<=(i64.wrap (x4.2.1-1)) then (if (i64.wrap (x4.2.1-1))<(x0.length:Int) then ((SU x4 (x0.getD (i64.wrap (x4.2.1-1)).toNat ([]:List Int)) x5).bind fun y5=>(some (y5.1,y5.2.1,y5.2.2))) else none) else none) else (if (x5.1==1)=true then (if (x5.2.2.2.1==(i64.wrap (x4.2.1+1)))=true then (if x4.2.2.2.1=true then (if 0<=(i64.wrap (x4.2.1-1)) then (if (i64.wrap (x4.2.1-1))<(x0.length:Int) then ((Dt (x0.getD (i64.wrap (x4.2.1-1)).toNat ([]:List Int)) x4.1).bind fun y6=>(EG x0 x1 x2 y6 x4 x5 x6 x7)) else none) else none) else (EG x0 x1 x2 false x4 x5 x6 x7)) else (EG x0 x1 x2 false x4 x5 x6 x7)) else (EG x0 x1 x2 false x4 x5 x6 x7)))
def Yr (x0:O) (x1:List (List Int)) (x2:Z):Option (O×List Z×List AE):=((D6 x0).bind fun y1=>((Fg x0).bind fun y2=>(if (!y2)=false then ((D5 x1).bind fun y3=>(if (!y3)=false then ((Uo x2).bind fun y4=>(if (!y4)=false then (if (x2.2.2.1 != x0.1)=false then (if (decide (x2.2.2.2.1<x0.2.1))=false then (if (decide (x2.2.2.2.1>(x1.length:Int)))=false then (if (decide (x0.2.1>(x1.length:Int)))=true then (some (y1,([]:List Z),([]:List AE))) else (R1 x1 ([]:List Z) ([]:List AE) (decide (x0.2.1>(x1.length:Int))) x0 x2 (0,0,false,false,false,false,([]:List Int),([]:List Y),0,0,0,0,(ByteArray.empty,ByteArray.empty,0),([]:List Int)) y1)) else (some (y1,([]:List Z),([]:List AE)))) else (some (y1,([]:List Z),([]:List AE)))) else (some (y1,([]:List Z),([]:List AE)))) else (some (y1,([]:List Z),([]:List AE))))) else (some (y1,([]:List Z),([]:List AE))))) else (some (y1,([]:List Z),([]:List AE))))))
theorem du:vu R2 F7:=jS (by kernel_rfl)
theorem dv:s_ R3 MB:=jS (by kernel_rfl)
theorem dw:s_ R4 EG:=jS (by kernel_rfl)
theorem dx:s_ R5 R1:=jS (by kernel_rfl)
theorem mr:Qw Yr P_:=cT Bg rfl ⟨rfl,rfl⟩ (by kernel_rfl)
def Ys:=cG YC (AG Eh) (AG Eh) kx
def mt:=kB [] [1] 1 Ys
def mw:=kE 0 [] [1] 1 Ys kx
def Js (x0:Int) (x1:Bool) (x2:Z):Option Bool:=cG YB mt (AG Eh) mw ⟨[(1,.ptr 0 0),(38,.int .i64 x0),(39,.bool x1)],[.var (AF.enc x2)]⟩
def Oc (x0:Bool) (x1:Z):Option Bool:=cG YD (AG Eh) (AG Eh) kx ⟨[(1,.ptr 0 0),(36,.bool x0)],[.var (AF.enc x1)]⟩
def W4 (x0:Int) (x1:Bool) (x2:Z):Option Bool:=(if x1=true then (some true) else (if (x0==5)=true then (some ((x2.2.2.2.2.2.length:Int)==1)) else (some ((x2.2.2.2.2.2.length:Int)==0))))
def W5 (x0:Bool) (x1:Z):Option Bool:=(if (x1.1==2)=true then (Js x1.1 (x1.1==2) x1) else (Js x1.1 (x1.1==3) x1))
def dy (x0:Z):Option Bool:=((Af x0.1 1 8).bind fun y1=>(if (!y1)=false then ((Ds x0.2.1).bind fun y2=>(if (!y2)=false then ((Ds x0.2.2.1).bind fun y3=>(if (!y3)=false then ((Af x0.2.2.2.1 1 9).bind fun y4=>(if (!y4)=false then ((Af x0.2.2.2.2.1 0 1000000000).bind fun y5=>(if (!y5)=false then ((FD x0.2.2.2.2.2).bind fun y6=>(if (!y6)=true then (some false) else (Oc (!y6) x0))) else (some false))) else (some false))) else (some false))) else (some false))) else (some false)))
theorem jd:Qw W4 Js:=jS (by kernel_rfl)
theorem je:Oi W5 Oc:=jS (by kernel_rfl)
theorem qO:PP dy Un:=cT Eh rfl ⟨rfl,rfl⟩ (by kernel_rfl)
def Nu:=cG MY (AG B9) (AG B9) kx
def IU:=kB [] [] 2 Nu
def IV:=kE 0 [] [] 2 Nu kx
def De (x0:List (List Int)) (x1:Bool) (x2:O) (x3:Z):Option (List Z×List AE×O):=cG Ni IU (AG B9) IV ⟨[(0,.ptr 0 0),(1,.lst (.slice (.int .i64)) x0),(5,.ptr 1 0),(37,.bool x1)],[.var (U.enc x2),.var (AF.enc x3)]⟩
def FU (x0:Bool) (x1:O) (x2:Z):Option (List Z×List AE×O):=cG Nj IU (AG B9) IV ⟨[(0,.ptr 0 0),(5,.ptr 1 0),(75,.bool x0)],[.var (U.enc x1),.var (AF.enc x2)]⟩
def FV (x0:Int) (x1:Bool) (x2:O) (x3:Z):Option (List Z×List AE×O):=cG MX IU (AG B9) IV ⟨[(0,.ptr 0 0),(5,.ptr 1 0),(9,.int .i64 x0),(107,.bool x1)],[.var (U.enc x2),.var (AF.enc x3)]⟩
def Me (x0:List (List Int)) (x1:Bool) (x2:O) (x3:Z):Option (List Z×List AE×O):=(if x1=true then (if 0<=(i64.wrap (x2.2.1-1)) then (if (i64.wrap (x2.2.1-1))<(x0.length:Int) then ((DI (x0.getD (i64.wrap (x2.2.1-1)).toNat ([]:List Int)) x3.2.2.2.2.2 x2).bind fun y2=>(some (y2.1,[],y2.2))) else none) else none) else (some ([],[],x2)))
def Mf (x0:Bool) (x1:O) (x2:Z):Option (List Z×List AE×O):=(if x0=true then ((Lg x1.2.2.2.2.2.2.1 x2.2.1).bind fun y4=>(if x1.2.2.2.2.2.1=false then (if ((y4.length:Int)==0)=true then (some ([],[],(x1.1,x1.2.1,x1.2.2.1,x1.2.2.2.1,x1.2.2.2.2.1,x1.2.2.2.1,y4,x1.2.2.2.2.2.2.2))) else (some ([],[],(x1.1,x1.2.1,x1.2.2.1,x1.2.2.2.1,x1.2.2.2.2.1,false,y4,x1.2.2.2.2.2.2.2)))) else (some ([],[],(x1.1,x1.2.1,x1.2.2.1,x1.2.2.2.1,x1.2.2.2.2.1,true,y4,x1.2.2.2.2.2.2.2))))) else (some ([],[],x1)))
def Mg (x0:Int) (x1:Bool) (x2:O) (x3:Z):Option (List Z×List AE×O):=(if x1=true then ((JC x3 x2).bind fun y5=>(some (y5.1,[],y5.2))) else (if (x0==6)=true then ((Fz 1 x3 x2).bind fun y6=>(some ([],y6.1,y6.2))) else (if (x0==8)=true then ((Fz 2 x3 x2).bind fun y7=>(some ([],y7.1,y7.2))) else (some ([],[],x2)))))
def QY (x1:List (List Int)) (x2:Z) (b0:O):Option (List Z×List AE×O):=(if (x2.1==1)=true then ((J9 x1 x2 b0).bind fun y1=>(some (y1.1,[],y1.2))) else (if (x2.1==2)=true then (if (x2.2.2.2.1==b0.2.1)=true then (if b0.2.2.2.2.1=true then (De x1 (!b0.2.2.2.1) b0 x2) else (De x1 false b0 x2)) else (De x1 false b0 x2)) else (if (x2.1==3)=true then (if 0<=(i64.wrap (x2.2.2.2.1-1)) then (if (i64.wrap (x2.2.2.2.1-1))<(x1.length:Int) then ((Hd (x1.getD (i64.wrap (x2.2.2.2.1-1)).toNat ([]:List Int)) x2 b0).bind fun y3=>(some (y3.1,[],y3.2))) else none) else none) else (if (x2.1==4)=true then (if (x2.2.2.2.1==b0.2.1)=true then (FU b0.2.2.2.2.1 b0 x2) else (FU false b0 x2)) else (if (x2.1==5)=true then (FV x2.1 (x2.1==5) b0 x2) else (FV x2.1 (x2.1==7) b0 x2))))))
theorem XP:bl Me De:=jS (by kernel_rfl)
theorem XQ:Qw Mf FU:=jS (by kernel_rfl)
theorem XR:bl Mg FV:=jS (by kernel_rfl)
theorem bQ:Qw QY J8:=cT B9 rfl ⟨rfl,rfl⟩ (by kernel_rfl)
def Hh:=cG Db (AG Ab) (AG Ab) kx
def Hi:=kE 0 [] [] 0 Hh kx
def HS:St->Option (RT (BM.outs Ab)):=lG Da [] [0,1,7,8] 0 (AG Ab) Hi
def Aw (x0:List AD) (x1:AD) (x2 x3:Int):Option Int:=HS ⟨[(0,.lst AJ x0),(1,.clo 92 AJ x1),(7,.int .i64 x2),(8,.int .i64 x3)],[]⟩
def BR (x0:List AD) (x1:AD) (x2 x3:Int):Option Int:=(if (decide (x3<x2))=true then (if 0<=x3 then (if x3<(x0.length:Int) then ((P8 (x0.getD x3.toNat (0,ByteArray.empty,ByteArray.empty,0,0,0,0,0,ByteArray.empty)) x1).bind fun y1=>(if y1=true then (some x3) else (Aw x0 x1 x2 (i64.wrap (x3+1))))) else none) else none) else (some (-1:Int)))
def D7 (x0:List AD) (x1:AD):Option Int:=(Aw x0 x1 (x0.length:Int) 0)
theorem CF:bl BR Aw:=lS (by kernel_rfl)
theorem IW:Oi D7 CQ:=cT Ab rfl ⟨rfl,rfl⟩ (by kernel_rfl)
def I5 (x0:List (List Int)) (x1:Bool) (x2:O):Option (Bool×O):=cG JS (AG Ca) (AG Ca) kx ⟨[(0,.ptr 0 0),(1,.lst (.slice (.int .i64)) x0),(33,.bool x1)],[.var (U.enc x2)]⟩
def I6 (x0:List (List Int)) (x1:Bool) (x2:O):Option (Bool×O):=((DF x0).bind fun y1=>(if y1=true then (if 0<=(i64.wrap (x2.2.1-1)) then (if (i64.wrap (x2.2.1-1))<(x0.length:Int) then (if 0<=(0:Int) then (if 0<((x0.getD (i64.wrap (x2.2.1-1)).toNat ([]:List Int)).length:Int) then (some ((((x0.getD (i64.wrap (x2.2.1-1)).toNat ([]:List Int)).getD (0:Int).toNat 0)==x2.1),x2)) else none) else none) else none) else none) else (some (false,x2))))
def MC (x1:List (List Int)) (b0:O):Option (Bool×O):=(if (!b0.2.2.2.2.2.1)=false then (if (b0.2.2.2.2.2.2.2.2.2.1 != 0)=false then (if (b0.2.2.2.2.2.2.2.2.1==900)=false then (if (decide (b0.2.1>(x1.length:Int)))=true then (some (false,b0)) else (I5 x1 (decide (b0.2.1>(x1.length:Int))) b0)) else (some (false,b0))) else (some (false,b0))) else (some (false,b0)))
theorem Qk:Qw I6 I5:=jS (by kernel_rfl)
theorem Uw:Oi MC G_:=cT Ca rfl ⟨rfl,rfl⟩ (by kernel_rfl)
def jf:=cG V_ (AG Er) (AG Er) kx
def jg:=kE 0 [] [4] 1 jf kx
def gN:St->Option (RT (BM.outs Er)):=lG V9 [] [1,4,7,8,9] 1 (AG Er) jg
def Iv (x0:ByteArray) (x1:List Y) (x2 x3:Int) (x4:Y):Option Y:=gN ⟨[(1,.str x0),(4,.ptr 0 0),(7,.lst AC x1),(8,.int .i64 x2),(9,.int .i64 x3)],[.var (AC.enc x4)]⟩
def M3 (x0:ByteArray) (x1:List Y) (x2 x3:Int) (x4:Y):Option Y:=(if (decide (x3<x2))=true then (if 0<=x3 then (if x3<(x1.length:Int) then (if (((x1.getD x3.toNat (ByteArray.empty,ByteArray.empty,0)).1).toList==x0.toList)=true then (some (x1.getD x3.toNat (ByteArray.empty,ByteArray.empty,0))) else (Iv x0 x1 x2 (i64.wrap (x3+1)) x4)) else none) else none) else (some (ByteArray.empty,ByteArray.empty,0)))
def aE (x0:List Y) (x1:ByteArray):Option Y:=(Iv x1 x0 (x0.length:Int) 0 (ByteArray.empty,ByteArray.empty,0))
theorem Tf:sL M3 Iv:=lS (by kernel_rfl)
theorem oB:Oi aE NR:=cT Er rfl ⟨rfl,rfl⟩ (by kernel_rfl)
def Ux:=cG LU (AG B2) (AG B2) kx
def Uy:=kE 0 [(5,1)] [5] 2 Ux kx
def Tg:St->Option (RT (BM.outs B2)):=lG LT [(5,1)] [0,5,8,9,10] 2 (AG B2) Uy
def C8 (x0:List Int) (x1 x2:Int) (x3:O) (x4:List Int):Option (List Int×O):=Tg ⟨[(0,.ptr 0 0),(5,.row 1),(8,.lst (.int .i64) x0),(9,.int .i64 x1),(10,.int .i64 x2)],[.var (U.enc x3),.rows 3 (.int .i64) x4]⟩
def Gm (x0:List Int) (x1 x2:Int) (x3:O) (x4:List Int):Option (List Int×O):=(if (decide (x2<x1))=true then (if 0<=x2 then (if x2<(x0.length:Int) then (if ((x0.getD x2.toNat 0) != x3.1)=true then (if x4.length+([(x0.getD x2.toNat 0)]:List Int).length<=68719476736 then (C8 x0 x1 (i64.wrap (x2+1)) x3 (x4++([(x0.getD x2.toNat 0)]:List Int))) else none) else (C8 x0 x1 (i64.wrap (x2+1)) x3 x4)) else none) else none) else (some (x4,x3)))
def Nv (x1:List Int) (b0:O):Option (List Int×O):=(C8 x1 (x1.length:Int) 0 b0 ([]:List Int))
theorem Kg:sL Gm C8:=lS (by kernel_rfl)
theorem Yt:Oi Nv B3:=cT B2 rfl ⟨rfl,rfl⟩ (by kernel_rfl)
def Mh (b0:List Int):Option (List Int):=((OH (IntKind.u64.wrap (b0.length:Int))).bind fun y1=>((CL 0 (b0.length:Int) y1 b0).bind fun y2=>(some y2)))
theorem XS:PP Mh Cn:=cT FS rfl ⟨rfl,rfl⟩ (by kernel_rfl)
def Hj (x0:O) (x1:pL):Option (List AE×O):=cG Nk (AG Dh) (AG Dh) kx ⟨[(0,.ptr 0 0),(3,.ptr 1 0)],[.var (U.enc x0),.var (K9.enc x1)]⟩
def Hk (x0:O) (x1:pL):Option (List AE×O):=(some (([(x1.2.1,x0.2.1,x1.2.2.1,x1.2.2.2.1)]:List AE),(x0.1,x0.2.1,x0.2.2.1,x0.2.2.2.1,x0.2.2.2.2.1,x0.2.2.2.2.2.1,x0.2.2.2.2.2.2.1,x0.2.2.2.2.2.2.2.1,x0.2.2.2.2.2.2.2.2.1,0,0,0,(ByteArray.empty,ByteArray.empty,0),([]:List Int))))
def QZ (b0:O):Option (List AE×O):=(if (b0.2.2.2.2.2.2.2.2.2.1==1)=true then ((Lh b0.2.2.2.2.2.2.2.1 b0.2.2.2.2.2.2.2.2.2.2.2.2.1).bind fun y1=>(Hj (b0.1,b0.2.1,b0.2.2.1,b0.2.2.2.1,b0.2.2.2.2.1,b0.2.2.2.2.2.1,b0.2.2.2.2.2.2.1,y1,b0.2.2.2.2.2.2.2.2) b0.2.2.2.2.2.2.2.2.2)) else ((NR b0.2.2.2.2.2.2.2.1 b0.2.2.2.2.2.2.2.2.2.2.2.2.1.1).bind fun y2=>(Hj b0 (b0.2.2.2.2.2.2.2.2.2.1,b0.2.2.2.2.2.2.2.2.2.2.1,b0.2.2.2.2.2.2.2.2.2.2.2.1,y2,b0.2.2.2.2.2.2.2.2.2.2.2.2.2))))
theorem Mi:Oi Hk Hj:=jS (by kernel_rfl)
theorem bR:PP QZ HA:=cT Dh rfl ⟨rfl,rfl⟩ (by kernel_rfl)
def Th:=cG KT (AG Bm) (AG Bm) kx
def Ti:=kE 0 [(7,2)] [7] 3 Th kx
def SY:St->Option (RT (BM.outs Bm)):=lG KS [(7,2)] [0,5,7,11,12,13] 3 (AG Bm) Ti
def Du (x0:List Int) (x1 x2:Int) (x3:O) (x4:Z) (x5:List Z):Option (List Z×O):=SY ⟨[(0,.ptr 0 0),(5,.ptr 1 0),(7,.row 2),(11,.lst (.int .i64) x0),(12,.int .i64 x1),(13,.int .i64 x2)],[.var (U.enc x3),.var (AF.enc x4),.rows 97 AF x5]⟩
def GI (x0:List Int) (x1 x2:Int) (x3:O) (x4:Z) (x5:List Z):Option (List Z×O):=(if (decide (x2<x1))=true then (if 0<=x2 then (if x2<(x0.length:Int) then ((Gf x4).bind fun y1=>(if x5.length+([(y1.1,x3.1,(x0.getD x2.toNat 0),x3.2.1,y1.2.2.2.2)]:List Z).length<=68719476736 then (Du x0 x1 (i64.wrap (x2+1)) x3 x4 (x5++([(y1.1,x3.1,(x0.getD x2.toNat 0),x3.2.1,y1.2.2.2.2)]:List Z))) else none)) else none) else none) else (some (x5,x3)))
def Mj (x1:List Int) (x2:Z) (b0:O):Option (List Z×O):=(Du x1 (x1.length:Int) 0 b0 x2 ([]:List Z))
theorem JU:uC GI Du:=lS (by kernel_rfl)
theorem XT:Qw Mj Ai:=cT Bm rfl ⟨rfl,rfl⟩ (by kernel_rfl)
def dz (b0:O):Option O:=(some (b0.1,b0.2.1,b0.2.2.1,b0.2.2.2.1,false,false,[],b0.2.2.2.2.2.2.2.1,0,0,0,0,(ByteArray.empty,ByteArray.empty,0),([]:List Int)))
theorem d8:PP dz Fy:=cT Hp rfl ⟨rfl,rfl⟩ (by kernel_rfl)
def MD (x1:List Int) (x2:List Y) (b0:O):Option (List Z×O):=((B3 x1 b0).bind fun y1=>((Ah x2).bind fun y2=>((Bh y1.1).bind fun y3=>((Cn y3).bind fun y4=>(if ((y1.1.length:Int)==0)=true then ((Ai y1.1 (3,0,0,0,0,x2) (y1.2.1,y1.2.2.1,y1.2.2.2.1,true,y1.2.2.2.2.2.1,true,y4,y2,y1.2.2.2.2.2.2.2.2.2)).bind fun y5=>(some (y5.1,y5.2))) else ((Ai y1.1 (3,0,0,0,0,x2) (y1.2.1,y1.2.2.1,y1.2.2.2.1,true,y1.2.2.2.2.2.1,y1.2.2.2.2.2.2.1,y4,y2,y1.2.2.2.2.2.2.2.2.2)).bind fun y6=>(some (y6.1,y6.2))))))))
theorem Uz:Qw MD DI:=cT Ei rfl ⟨rfl,rfl⟩ (by kernel_rfl)
def Dk (x0:Bool) (x1:O):Option Bool:=cG RV (AG Fe) (AG Fe) kx ⟨[(1,.ptr 0 0),(70,.bool x0)],[.var (U.enc x1)]⟩
def Qa (x0:Bool) (x1:O):Option Bool:=((My x1.2.2.2.2.2.2.2.2.2).bind fun y7=>(if y7=false then (if (x1.2.2.2.2.2.2.2.2.2.1==1)=false then (if (x1.2.2.2.2.2.2.2.2.2.1==2)=true then (if x1.2.2.2.2.2.1=true then ((AX x1.2.2.2.2.2.2.2.2.2.2.1 0 1000).bind fun y8=>(if y8=true then ((AX x1.2.2.2.2.2.2.2.2.2.2.2.1 1 900).bind fun y9=>(some y9)) else (some false))) else (some false)) else (some false)) else (if x1.2.2.2.2.2.1=true then ((AX x1.2.2.2.2.2.2.2.2.2.2.1 0 1000).bind fun y10=>(if y10=true then ((AX x1.2.2.2.2.2.2.2.2.2.2.2.1 1 900).bind fun y11=>(some y11)) else (some false))) else (some false))) else (some true)))
def W6 (x0:O):Option Bool:=((AX x0.1 1 6).bind fun y1=>(if (!y1)=false then ((AX x0.2.1 1 9).bind fun y2=>(if (!y2)=false then (if x0.2.2.2.2.2.1=true then (if (!x0.2.2.2.1)=false then (if (!x0.2.2.2.2.1)=false then (if (decide ((x0.2.2.2.2.2.2.1.length:Int)>0))=false then (if x0.2.2.1=true then (if x0.2.2.2.1=false then (if x0.2.2.2.2.1=false then ((DB x0.2.2.2.2.2.2.1).bind fun y3=>(if (!y3)=false then ((DB x0.2.2.2.2.2.2.2.2.2.2.2.2.2).bind fun y4=>(if (!y4)=false then ((DJ x0.2.2.2.2.2.2.2.1).bind fun y5=>(if (!y5)=false then ((AX x0.2.2.2.2.2.2.2.2.1 0 900).bind fun y6=>(if (!y6)=true then (some false) else (Dk (!y6) x0))) else (some false))) else (some false))) else (some false))) else (some false)) else (some false)) else ((DB x0.2.2.2.2.2.2.1).bind fun y12=>(if (!y12)=false then ((DB x0.2.2.2.2.2.2.2.2.2.2.2.2.2).bind fun y13=>(if (!y13)=false then ((DJ x0.2.2.2.2.2.2.2.1).bind fun y14=>(if (!y14)=false then ((AX x0.2.2.2.2.2.2.2.2.1 0 900).bind fun y15=>(if (!y15)=true then (some false) else (Dk (!y15) x0))) else (some false))) else (some false))) else (some false)))) else (some false)) else (some false)) else (some false)) else (if x0.2.2.1=true then (if x0.2.2.2.1=false then (if x0.2.2.2.2.1=false then ((DB x0.2.2.2.2.2.2.1).bind fun y16=>(if (!y16)=false then ((DB x0.2.2.2.2.2.2.2.2.2.2.2.2.2).bind fun y17=>(if (!y17)=false then ((DJ x0.2.2.2.2.2.2.2.1).bind fun y18=>(if (!y18)=false then ((AX x0.2.2.2.2.2.2.2.2.1 0 900).bind fun y19=>(if (!y19)=true then (some false) else (Dk (!y19) x0))) else (some false))) else (some false))) else (some false))) else (some false)) else (some false)) else ((DB x0.2.2.2.2.2.2.1).bind fun y20=>(if (!y20)=false then ((DB x0.2.2.2.2.2.2.2.2.2.2.2.2.2).bind fun y21=>(if (!y21)=false then ((DJ x0.2.2.2.2.2.2.2.1).bind fun y22=>(if (!y22)=false then ((AX x0.2.2.2.2.2.2.2.2.1 0 900).bind fun y23=>(if (!y23)=true then (some false) else (Dk (!y23) x0))) else (some false))) else (some false))) else (some false))))) else (some false))) else (some false)))
theorem bS:Oi Qa Dk:=jS (by kernel_rfl)
theorem jh:PP W6 Fg:=cT Fe rfl ⟨rfl,rfl⟩ (by kernel_rfl)
def ji:=cG WB (AG Es) (AG Es) kx
def jj:=kE 0 [] [4] 1 ji kx
def gO:St->Option (RT (BM.outs Es)):=lG WA [] [0,1,4,5] 1 (AG Es) jj
def Iw (x0:List Y) (x1:ByteArray) (x2:Int) (x3:Y):Option Y:=gO ⟨[(0,.lst AC x0),(1,.str x1),(4,.ptr 0 0),(5,.int .i64 x2)],[.var (AC.enc x3)]⟩
def M4 (x0:List Y) (x1:ByteArray) (x2:Int) (x3:Y):Option Y:=(if (decide (x2<(x0.length:Int)))=true then (if 0<=x2 then (if x2<(x0.length:Int) then (if (((x0.getD x2.toNat (ByteArray.empty,ByteArray.empty,0)).1).toList==x1.toList)=true then (if 0<=x2 then (if x2<(x0.length:Int) then (some (x0.getD x2.toNat (ByteArray.empty,ByteArray.empty,0))) else none) else none) else (Iw x0 x1 (i64.wrap (x2+1)) x3)) else none) else none) else (some (ByteArray.empty,ByteArray.empty,0)))
def aF (x0:List Y) (x1:ByteArray):Option Y:=(Iw x0 x1 0 (ByteArray.empty,ByteArray.empty,0))
theorem Tj:bl M4 Iw:=lS (by kernel_rfl)
theorem oC:Oi aF NS:=cT Es rfl ⟨rfl,rfl⟩ (by kernel_rfl)
def gP:=cG LV (AG Ax) (AG Ax) kx
def gQ:=kE 2 [(5,1),(6,2)] [0,5,6] 3 gP kx
def d9:St->Option (RT (BM.outs Ax)):=lG RW [(5,1),(6,2)] [0,3,5,6,8] 3 (AG Ax) gQ
def gR:=cG LW (AG Ax) (AG Ax) kx
def M5:=kE 0 [(5,1),(6,2)] [0,3,5,6] 3 gR kx
def R6:St->Option (RT (BM.outs Ax)):=lG TE [(5,1),(6,2)] [0,3,5,6,7] 3 (AG Ax) M5
def gS:=kB [(5,1),(6,2)] [0,3,5,6,7] 3 R6
def Tk:=cG TD gS (AG Ax) M5
def gT:=kB [(5,1),(6,2)] [0,3,5,6,7] 3 Tk
def gU:=kE 1 [(5,1),(6,2)] [0,3,5,6,7] 3 Tk M5
def H6 (x0:List Y) (x1:Int) (x2:Y) (x3 x4:List Y):Option (List Y):=cG TC gT (AG Ax) gU ⟨[(0,.lst AC x0),(3,.ptr 0 0),(5,.row 1),(6,.row 2),(7,.int .i64 x1)],[.var (AC.enc x2),.rows 38 AC x3,.rows 38 AC x4]⟩
def ME (x0:List Y) (x1:Y) (x2 x3:List Y):Option (List Y):=cG LV (AG Ax) (AG Ax) kx ⟨[(0,.lst AC x0),(5,.row 1),(6,.row 2)],[.var (AC.enc x1),.rows 38 AC x2,.rows 38 AC x3]⟩
def EH (x0:List Y) (x1:Int) (x2:Y) (x3 x4:List Y):Option (List Y):=d9 ⟨[(0,.lst AC x0),(3,.ptr 0 0),(5,.row 1),(6,.row 2),(8,.int .i64 x1)],[.var (AC.enc x2),.rows 38 AC x3,.rows 38 AC x4]⟩
def MF (x0:List Y) (x1:Y) (x2 x3:List Y):Option (List Y):=cG LW (AG Ax) (AG Ax) kx ⟨[(0,.lst AC x0),(3,.ptr 0 0),(5,.row 1),(6,.row 2)],[.var (AC.enc x1),.rows 38 AC x2,.rows 38 AC x3]⟩
def EI (x0:List Y) (x1:Int) (x2:Y) (x3 x4:List Y):Option (List Y):=R6 ⟨[(0,.lst AC x0),(3,.ptr 0 0),(5,.row 1),(6,.row 2),(7,.int .i64 x1)],[.var (AC.enc x2),.rows 38 AC x3,.rows 38 AC x4]⟩
def R7 (x0:List Y) (x1:Int) (x2:Y) (x3 x4:List Y):Option (List Y):=(if 0<=x1 then (if x1<(x0.length:Int) then (if (((x0.getD x1.toNat (ByteArray.empty,ByteArray.empty,0)).1).toList==x2.1.toList)=true then (if 0<=x1 then (if x1<(x0.length:Int) then (if (decide ((((x0.getD x1.toNat (ByteArray.empty,ByteArray.empty,0)).2).2)>=x2.2.2))=true then (some x3) else (EI x0 (i64.wrap (x1+1)) x2 x3 x4)) else none) else none) else (EI x0 (i64.wrap (x1+1)) x2 x3 x4)) else none) else none)
def R8 (x0:List Y) (x1:Y) (x2 x3:List Y):Option (List Y):=((DJ x0).bind fun y1=>(if (!y1)=false then ((DJ x3).bind fun y2=>(if (!y2)=true then (some x2) else (some x3))) else (some x2)))
def MG (x0:List Y) (x1:Int) (x2:Y) (x3 x4:List Y):Option (List Y):=(if (decide (x1<(x0.length:Int)))=true then (if 0<=x1 then (if x1<(x0.length:Int) then (if (!((Op.bytesLess ((x0.getD x1.toNat (ByteArray.empty,ByteArray.empty,0)).1).toList x2.1.toList)||(((x0.getD x1.toNat (ByteArray.empty,ByteArray.empty,0)).1).toList==x2.1.toList)))=true then (if 0<=x1 then (if x1<(x0.length:Int) then (if x4.length+([x0.getD x1.toNat (ByteArray.empty,ByteArray.empty,0)]:List Y).length<=68719476736 then (EH x0 (i64.wrap (x1+1)) x2 x3 (x4++([x0.getD x1.toNat (ByteArray.empty,ByteArray.empty,0)]:List Y))) else none) else none) else none) else (EH x0 (i64.wrap (x1+1)) x2 x3 x4)) else none) else none) else (ME x0 x2 x3 x4))
def R9 (x0:List Y) (x1:Y) (x2 x3:List Y):Option (List Y):=(if x3.length+([x1]:List Y).length<=68719476736 then (EH x0 0 x1 x2 (x3++([x1]:List Y))) else none)
def MH (x0:List Y) (x1:Int) (x2:Y) (x3 x4:List Y):Option (List Y):=(if (decide (x1<(x0.length:Int)))=true then (if 0<=x1 then (if x1<(x0.length:Int) then (if (Op.bytesLess ((x0.getD x1.toNat (ByteArray.empty,ByteArray.empty,0)).1).toList x2.1.toList)=true then (if 0<=x1 then (if x1<(x0.length:Int) then (if x4.length+([x0.getD x1.toNat (ByteArray.empty,ByteArray.empty,0)]:List Y).length<=68719476736 then (H6 x0 x1 x2 x3 (x4++([x0.getD x1.toNat (ByteArray.empty,ByteArray.empty,0)]:List Y))) else none) else none) else none) else (H6 x0 x1 x2 x3 x4)) else none) else none) else (MF x0 x2 x3 x4))
def Yu (x0:List Y) (x1:Y):Option (List Y):=(if ([]:List Y).length+x0.length<=68719476736 then (EI x0 0 x1 (([]:List Y)++x0) ([]:List Y)) else none)
theorem d_:sL R7 H6:=jS (by kernel_rfl)
theorem eA:bl R8 ME:=jS (by kernel_rfl)
theorem R_:sL MG EH:=lS (by kernel_rfl)
theorem eB:bl R9 MF:=jS (by kernel_rfl)
theorem SA:sL MH EI:=lS (by kernel_rfl)
theorem mx:Oi Yu IR:=cT Ax rfl ⟨rfl,rfl⟩ (by kernel_rfl)
def bT:=cG P4 (AG C5) (AG C5) kx
def bU:=kE 0 [(5,0)] [5] 1 bT kx
def Zt:St->Option (RT (BM.outs C5)):=lG P3 [(5,0)] [0,1,5,6] 1 (AG C5) bU
def CI (x0:List Int) (x1 x2:Int) (x3:List Int):Option (List Int):=Zt ⟨[(0,.lst (.int .i64) x0),(1,.int .i64 x1),(5,.row 0),(6,.int .i64 x2)],[.rows 3 (.int .i64) x3]⟩
def JI (x0:List Int) (x1 x2:Int) (x3:List Int):Option (List Int):=(if (decide (x2<=6))=true then (if (x2 != x1)=true then ((Dt x0 x2).bind fun y1=>(if y1=true then (if x3.length+([x2]:List Int).length<=68719476736 then (CI x0 x1 (i64.wrap (x2+1)) (x3++([x2]:List Int))) else none) else (CI x0 x1 (i64.wrap (x2+1)) x3))) else (CI x0 x1 (i64.wrap (x2+1)) x3)) else (some x3))
def Tl (x0:List Int) (x1:Int):Option (List Int):=(CI x0 x1 1 ([]:List Int))
theorem PE:bl JI CI:=lS (by kernel_rfl)
theorem gV:Oi Tl Gg:=cT C5 rfl ⟨rfl,rfl⟩ (by kernel_rfl)
def Tm (b0:O):Option (List AE×O):=(if (b0.2.2.2.2.2.2.2.2.2.1==1)=true then ((IR b0.2.2.2.2.2.2.2.1 b0.2.2.2.2.2.2.2.2.2.2.2.2.1).bind fun y1=>(some (([(b0.2.2.2.2.2.2.2.2.2.2.1,b0.2.1,b0.2.2.2.2.2.2.2.2.2.2.2.1,b0.2.2.2.2.2.2.2.2.2.2.2.2.1)]:List AE),(b0.1,b0.2.1,b0.2.2.1,b0.2.2.2.1,b0.2.2.2.2.1,b0.2.2.2.2.2.1,b0.2.2.2.2.2.2.1,y1,b0.2.2.2.2.2.2.2.2.1,0,0,0,(ByteArray.empty,ByteArray.empty,0),([]:List Int))))) else ((NS b0.2.2.2.2.2.2.2.1 b0.2.2.2.2.2.2.2.2.2.2.2.2.1.1).bind fun y2=>(some (([(b0.2.2.2.2.2.2.2.2.2.2.1,b0.2.1,b0.2.2.2.2.2.2.2.2.2.2.2.1,y2)]:List AE),(b0.1,b0.2.1,b0.2.2.1,b0.2.2.2.1,b0.2.2.2.2.1,b0.2.2.2.2.2.1,b0.2.2.2.2.2.2.1,b0.2.2.2.2.2.2.2.1,b0.2.2.2.2.2.2.2.2.1,0,0,0,(ByteArray.empty,ByteArray.empty,0),([]:List Int))))))
theorem gW:PP Tm Gh:=cT In rfl ⟨rfl,rfl⟩ (by kernel_rfl)
def jk:=cG WD (AG Et) (AG Et) kx
def jl:=kE 0 [(7,1)] [7] 3 jk kx
def gX:St->Option (RT (BM.outs Et)):=lG WC [(7,1)] [0,1,2,7,8] 3 (AG Et) jl
def Gn (x0:List Int) (x1:List Y) (x2:Int) (x3:O) (x4:List Z) (x5:List Y):Option (List Z×O):=gX ⟨[(0,.ptr 0 0),(1,.lst (.int .i64) x0),(2,.lst AC x1),(7,.row 1),(8,.int .i64 x2)],[.var (U.enc x3),.rows 97 AF x4,.frz AC x5]⟩
def M6 (x0:List Int) (x1:List Y) (x2:Int) (x3:O) (x4:List Z) (x5:List Y):Option (List Z×O):=(if (decide (x2<(x0.length:Int)))=true then (if 0<=x2 then (if x2<(x0.length:Int) then (if ((x0.getD x2.toNat 0) != x3.1)=true then (if 0<=x2 then (if x2<(x0.length:Int) then (if ([]:List Y).length+x1.length<=68719476736 then (if x4.length+([(3,x3.1,(x0.getD x2.toNat 0),x3.2.1,0,(([]:List Y)++x1))]:List Z).length<=68719476736 then (Gn x0 x1 (i64.wrap (x2+1)) x3 (x4++([(3,x3.1,(x0.getD x2.toNat 0),x3.2.1,0,(([]:List Y)++x1))]:List Z)) x5) else none) else none) else none) else none) else (Gn x0 x1 (i64.wrap (x2+1)) x3 x4 x5)) else none) else none) else (some (x4,x3)))
def aG (x1:List Int) (x2:List Y) (b0:O):Option (List Z×O):=(if ([]:List Y).length+x2.length<=68719476736 then ((Gg x1 b0.1).bind fun y1=>(Gn x1 x2 0 (b0.1,b0.2.1,b0.2.2.1,true,b0.2.2.2.2.1,((y1.length:Int)==0),y1,(([]:List Y)++x2),b0.2.2.2.2.2.2.2.2) ([]:List Z) (([]:List Y)++x2))) else none)
theorem Tn:uC M6 Gn:=lS (by kernel_rfl)
theorem oD:Qw aG NT:=cT Et rfl ⟨rfl,rfl⟩ (by kernel_rfl)
def Yv:=cG YG (AG Ej) (AG Ej) kx
def my:=kB [] [1] 1 Yv
def mz:=kE 0 [] [1] 1 Yv kx
def Jt (x0:Int) (x1:Bool) (x2:Z):Option Bool:=cG YF my (AG Ej) mz ⟨[(1,.ptr 0 0),(38,.int .i64 x0),(39,.bool x1)],[.var (AF.enc x2)]⟩
def Od (x0:Bool) (x1:Z):Option Bool:=cG YH (AG Ej) (AG Ej) kx ⟨[(1,.ptr 0 0),(36,.bool x0)],[.var (AF.enc x1)]⟩
def W7 (x0:Int) (x1:Bool) (x2:Z):Option Bool:=(if x1=true then (some true) else (if (x0==5)=true then (some ((x2.2.2.2.2.2.length:Int)==1)) else (some ((x2.2.2.2.2.2.length:Int)==0))))
def W8 (x0:Bool) (x1:Z):Option Bool:=(if (x1.1==2)=true then (Jt x1.1 (x1.1==2) x1) else (Jt x1.1 (x1.1==3) x1))
def eC (x0:Z):Option Bool:=((AX x0.1 1 8).bind fun y1=>(if (!y1)=false then ((AX x0.2.1 1 6).bind fun y2=>(if (!y2)=false then ((AX x0.2.2.1 1 6).bind fun y3=>(if (!y3)=false then ((AX x0.2.2.2.1 1 9).bind fun y4=>(if (!y4)=false then ((AX x0.2.2.2.2.1 0 1000000000).bind fun y5=>(if (!y5)=false then ((DJ x0.2.2.2.2.2).bind fun y6=>(if (!y6)=true then (some false) else (Od (!y6) x0))) else (some false))) else (some false))) else (some false))) else (some false))) else (some false)))
theorem jm:Qw W7 Jt:=jS (by kernel_rfl)
theorem jn:Oi W8 Od:=jS (by kernel_rfl)
theorem qP:PP eC Uo:=cT Ej rfl ⟨rfl,rfl⟩ (by kernel_rfl)
def W9:=cG TI (AG CS) (AG CS) kx
def Fk:=kB [] [6,9,10,11] 4 W9
def Fl:=kE 0 [] [6,9,10,11] 4 W9 kx
def Ix (x0:List Int) (x1:List Z) (x2:List AE) (x3:Bool) (x4:O) (x5:Z) (x6 x7:O):Option (O×List Z×List AE):=cG WE Fk (AG CS) Fl ⟨[(1,.lst (.int .i64) x0),(5,.ptr 1 0),(6,.ptr 2 0),(9,.ptr 3 0),(10,.lst AF x1),(11,.lst Ar x2),(28,.bool x3)],[.var (U.enc x4),.var (AF.enc x5),.var (U.enc x6),.var (U.enc x7)]⟩
def Iy (x0:List Z) (x1:List AE) (x2:Bool) (x3:O) (x4:Z) (x5 x6:O):Option (O×List Z×List AE):=cG WF Fk (AG CS) Fl ⟨[(3,.ptr 0 0),(5,.ptr 1 0),(6,.ptr 2 0),(9,.ptr 3 0),(10,.lst AF x0),(11,.lst Ar x1),(60,.bool x2)],[.var (U.enc x3),.var (AF.enc x4),.var (U.enc x5),.var (U.enc x6)]⟩
def M7 (x0:List Z) (x1:List AE) (x2:Bool) (x3:O) (x4:Z) (x5 x6:O):Option (O×List Z×List AE):=cG WG Fk (AG CS) Fl ⟨[(3,.ptr 0 0),(5,.ptr 1 0),(6,.ptr 2 0),(9,.ptr 3 0),(10,.lst AF x0),(11,.lst Ar x1),(50,.bool x2)],[.var (U.enc x3),.var (AF.enc x4),.var (U.enc x5),.var (U.enc x6)]⟩
def M8 (x0:List Z) (x1:List AE) (x2:Bool) (x3:O) (x4:Z) (x5 x6:O):Option (O×List Z×List AE):=cG TF Fk (AG CS) Fl ⟨[(5,.ptr 1 0),(6,.ptr 2 0),(9,.ptr 3 0),(10,.lst AF x0),(11,.lst Ar x1),(145,.bool x2)],[.var (U.enc x3),.var (AF.enc x4),.var (U.enc x5),.var (U.enc x6)]⟩
def Iz (x0:List Z) (x1:List AE) (x2:Int) (x3:O) (x4:Z) (x5 x6:O):Option (O×List Z×List AE):=cG TG Fk (AG CS) Fl ⟨[(5,.ptr 1 0),(6,.ptr 2 0),(9,.ptr 3 0),(10,.lst AF x0),(11,.lst Ar x1),(13,.int .i64 x2)],[.var (U.enc x3),.var (AF.enc x4),.var (U.enc x5),.var (U.enc x6)]⟩
def I0 (x0:List Z) (x1:List AE) (x2:Bool) (x3:O) (x4:Z) (x5 x6:O):Option (O×List Z×List AE):=cG TH Fk (AG CS) Fl ⟨[(5,.ptr 1 0),(6,.ptr 2 0),(9,.ptr 3 0),(10,.lst AF x0),(11,.lst Ar x1),(127,.bool x2)],[.var (U.enc x3),.var (AF.enc x4),.var (U.enc x5),.var (U.enc x6)]⟩
def To (x0:List Int) (x1:List Z) (x2:List AE) (x3:Bool) (x4:O) (x5:Z) (x6 x7:O):Option (O×List Z×List AE):=(if x3=true then ((NT x0 x5.2.2.2.2.2 x7).bind fun y2=>(some (y2.2,y2.1,x2))) else (some (x7,x1,x2)))
def Tp (x0:List Z) (x1:List AE) (x2:Bool) (x3:O) (x4:Z) (x5 x6:O):Option (O×List Z×List AE):=(if (!x6.2.2.2.1)=true then ((Lf x3 x3.2.1).bind fun y4=>(if ([]:List Y).length+x4.2.2.2.2.2.length<=68719476736 then ((EK x3 x4 4).bind fun y5=>(some ((y4.1,y4.2.1,y4.2.2.1,true,y4.2.2.2.2.1,y4.2.2.2.2.2.1,y4.2.2.2.2.2.2.1,(([]:List Y)++x4.2.2.2.2.2),y4.2.2.2.2.2.2.2.2),y5,x1))) else none)) else ((EK x3 x4 4).bind fun y6=>(some (x6,y6,x1))))
def Tq (x0:List Z) (x1:List AE) (x2:Bool) (x3:O) (x4:Z) (x5 x6:O):Option (O×List Z×List AE):=(if (!x6.2.2.2.1)=true then (if x6.2.2.1=true then (some (x6,x0,x1)) else (Iy x0 x1 x6.2.2.1 x3 x4 x5 x6)) else (Iy x0 x1 false x3 x4 x5 x6))
def Tr (x0:List Z) (x1:List AE) (x2:Bool) (x3:O) (x4:Z) (x5 x6:O):Option (O×List Z×List AE):=((Hr x6.2.2.2.2.2.2.2.2.2.2.2.2.2 x4.2.1).bind fun y11=>(if ((y11.length:Int)==0)=true then ((Gh (x6.1,x6.2.1,x6.2.2.1,x6.2.2.2.1,x6.2.2.2.2.1,x6.2.2.2.2.2.1,x6.2.2.2.2.2.2.1,x6.2.2.2.2.2.2.2.1,x6.2.2.2.2.2.2.2.2.1,x6.2.2.2.2.2.2.2.2.2.1,x6.2.2.2.2.2.2.2.2.2.2.1,x6.2.2.2.2.2.2.2.2.2.2.2.1,x6.2.2.2.2.2.2.2.2.2.2.2.2.1,y11)).bind fun y12=>(some (y12.2,x0,y12.1))) else (some ((x6.1,x6.2.1,x6.2.2.1,x6.2.2.2.1,x6.2.2.2.2.1,x6.2.2.2.2.2.1,x6.2.2.2.2.2.2.1,x6.2.2.2.2.2.2.2.1,x6.2.2.2.2.2.2.2.2.1,x6.2.2.2.2.2.2.2.2.2.1,x6.2.2.2.2.2.2.2.2.2.2.1,x6.2.2.2.2.2.2.2.2.2.2.2.1,x6.2.2.2.2.2.2.2.2.2.2.2.2.1,y11),x0,x1))))
def Ts (x0:List Z) (x1:List AE) (x2:Int) (x3:O) (x4:Z) (x5 x6:O):Option (O×List Z×List AE):=(if (x6.2.2.2.2.2.2.2.2.2.1 != x2)=false then (if (x6.2.2.2.2.2.2.2.2.2.2.2.1 != x4.2.2.2.2.1)=true then (some (x6,x0,x1)) else (M8 x0 x1 (x6.2.2.2.2.2.2.2.2.2.2.2.1 != x4.2.2.2.2.1) x3 x4 x5 x6)) else (some (x6,x0,x1)))
def Tt (x0:List Z) (x1:List AE) (x2:Bool) (x3:O) (x4:Z) (x5 x6:O):Option (O×List Z×List AE):=(if x2=true then (if (x4.1==8)=true then (Iz x0 x1 2 x3 x4 x5 x6) else (Iz x0 x1 1 x3 x4 x5 x6)) else (some (x6,x0,x1)))
def aH (x0:O) (x1:List Int) (x2:Z):Option (O×List Z×List AE):=((D6 x0).bind fun y1=>(if (x2.1==2)=true then (if y1.2.2.2.2.1=true then (Ix x1 ([]:List Z) ([]:List AE) (!y1.2.2.2.1) x0 x2 (0,0,false,false,false,false,([]:List Int),([]:List Y),0,0,0,0,(ByteArray.empty,ByteArray.empty,0),([]:List Int)) y1) else (Ix x1 ([]:List Z) ([]:List AE) false x0 x2 (0,0,false,false,false,false,([]:List Int),([]:List Y),0,0,0,0,(ByteArray.empty,ByteArray.empty,0),([]:List Int)) y1)) else (if (x2.1==3)=true then ((Dt x1 x0.1).bind fun y3=>(if (!y3)=true then (some (y1,([]:List Z),([]:List AE))) else (if 0<=(0:Int) then (if 0<(x1.length:Int) then (if ((x1.getD (0:Int).toNat 0)==x0.1)=true then (some (y1,([]:List Z),([]:List AE))) else (M7 ([]:List Z) ([]:List AE) ((x1.getD (0:Int).toNat 0)==x0.1) x0 x2 (0,0,false,false,false,false,([]:List Int),([]:List Y),0,0,0,0,(ByteArray.empty,ByteArray.empty,0),([]:List Int)) y1)) else none) else none))) else (if (x2.1==4)=true then (if y1.2.2.2.2.1=true then ((Hr y1.2.2.2.2.2.2.1 x2.2.1).bind fun y7=>(if y1.2.2.2.1=true then (some ((y1.1,y1.2.1,y1.2.2.1,y1.2.2.2.1,y1.2.2.2.2.1,((y7.length:Int)==0),y7,y1.2.2.2.2.2.2.2),([]:List Z),([]:List AE))) else (some ((y1.1,y1.2.1,y1.2.2.1,y1.2.2.2.1,y1.2.2.2.2.1,false,y7,y1.2.2.2.2.2.2.2),([]:List Z),([]:List AE))))) else (some (y1,([]:List Z),([]:List AE)))) else (if (x2.1==5)=true then (if y1.2.2.2.1=true then (if 0<=(0:Int) then (if 0<(x2.2.2.2.2.2.length:Int) then ((IR y1.2.2.2.2.2.2.2.1 (x2.2.2.2.2.2.getD (0:Int).toNat (ByteArray.empty,ByteArray.empty,0))).bind fun y8=>((EK x0 x2 6).bind fun y9=>(some ((y1.1,y1.2.1,y1.2.2.1,y1.2.2.2.1,y1.2.2.2.2.1,y1.2.2.2.2.2.1,y1.2.2.2.2.2.2.1,y8,y1.2.2.2.2.2.2.2.2),y9,([]:List AE))))) else none) else none) else (some (y1,([]:List Z),([]:List AE)))) else (if (x2.1==7)=true then (if y1.2.2.2.1=true then ((EK x0 x2 8).bind fun y10=>(some (y1,y10,([]:List AE)))) else (some (y1,([]:List Z),([]:List AE)))) else (if (x2.1==6)=true then (I0 ([]:List Z) ([]:List AE) (x2.1==6) x0 x2 (0,0,false,false,false,false,([]:List Int),([]:List Y),0,0,0,0,(ByteArray.empty,ByteArray.empty,0),([]:List Int)) y1) else (I0 ([]:List Z) ([]:List AE) (x2.1==8) x0 x2 (0,0,false,false,false,false,([]:List Int),([]:List Y),0,0,0,0,(ByteArray.empty,ByteArray.empty,0),([]:List Int)) y1))))))))
theorem gY:s_ To Ix:=jS (by kernel_rfl)
theorem gZ:vu Tp Iy:=jS (by kernel_rfl)
theorem ga:vu Tq M7:=jS (by kernel_rfl)
theorem gd:vu Tr M8:=jS (by kernel_rfl)
theorem ge:vu Ts Iz:=jS (by kernel_rfl)
theorem gf:vu Tt I0:=jS (by kernel_rfl)
theorem oE:Qw aH SU:=cT CS rfl ⟨rfl,rfl⟩ (by kernel_rfl)

def Yw (x0:O) (x1:Int):Option O:=(if ([]:List Y).length+x0.2.2.2.2.2.2.2.1.length<=68719476736 then (some (x0.1,x1,false,false,false,false,([]:List Int),(([]:List Y)++x0.2.2.2.2.2.2.2.1),0,0,0,0,(ByteArray.empty,ByteArray.empty,0),([]:List Int))) else none)
theorem m3:Oi Yw Lf:=cT LX rfl ⟨rfl,rfl⟩ (by kernel_rfl)
def jo (x0:O) (x1:Z) (x2:Int):Option (List Z):=(some ([(x2,x0.1,x1.2.1,x1.2.2.2.1,x1.2.2.2.2.1,([]:List Y))]:List Z))
theorem jp:Qw jo EK:=cT Jj rfl ⟨rfl,rfl⟩ (by kernel_rfl)
def Mk (x0:Bool) (x1:O) (x2:Z):Option (List Z×O):=cG Ma (AG Di) (AG Di) kx ⟨[(0,.ptr 0 0),(5,.ptr 1 0),(37,.bool x0)],[.var (U.enc x1),.var (AF.enc x2)]⟩
def Ml (x0:Bool) (x1:O) (x2:Z):Option (List Z×O):=((Fy (x1.1,x2.2.2.2.1,x1.2.2.1,false,x1.2.2.2.2)).bind fun y2=>((Ai ([x2.2.1]:List Int) (2,0,0,0,0,y2.2.2.2.2.2.2.2.1) y2).bind fun y3=>(some (y3.1,y3.2))))
def Qb (x1:List (List Int)) (x2:Z) (b0:O):Option (List Z×O):=(if (x2.2.2.2.1 != (i64.wrap (b0.2.1+1)))=true then (some ([],b0)) else (if (!b0.2.2.2.1)=true then (some ([],b0)) else (if 0<=(i64.wrap (b0.2.1-1)) then (if (i64.wrap (b0.2.1-1))<(x1.length:Int) then ((Cd (x1.getD (i64.wrap (b0.2.1-1)).toNat ([]:List Int)) b0.1).bind fun y1=>(if (!y1)=true then (some ([],b0)) else (Mk (!y1) b0 x2))) else none) else none)))
theorem XU:Qw Ml Mk:=jS (by kernel_rfl)
theorem bV:Qw Qb J9:=cT Di rfl ⟨rfl,rfl⟩ (by kernel_rfl)
def Kh:=cG KW (AG BW) (AG BW) kx
def Tu:=kB [] [0,5] 2 Kh
def Tv:=kE 0 [] [0,5] 2 Kh kx
def Cp (x0:Bool) (x1:O) (x2:Z):Option (List Z×O):=cG KV Tu (AG BW) Tv ⟨[(0,.ptr 0 0),(5,.ptr 1 0),(24,.bool x0)],[.var (U.enc x1),.var (AF.enc x2)]⟩
def JV (x0:Bool) (x1:O) (x2:Z):Option (List Z×O):=cG KX (AG BW) (AG BW) kx ⟨[(0,.ptr 0 0),(5,.ptr 1 0),(23,.bool x0)],[.var (U.enc x1),.var (AF.enc x2)]⟩
def JW (x0:Bool) (x1:O) (x2:Z):Option (List Z×O):=(if x0=true then ((Ah x2.2.2.2.2.2).bind fun y2=>((Fy (x1.1,x2.2.2.2.1,false,true,x1.2.2.2.2.1,x1.2.2.2.2.2.1,x1.2.2.2.2.2.2.1,y2,x1.2.2.2.2.2.2.2.2)).bind fun y3=>((Ai ([x2.2.1]:List Int) (4,0,0,0,0,([]:List Y)) y3).bind fun y4=>(some (y4.1,y4.2))))) else (if (!x1.2.2.2.1)=true then (some ([],x1)) else ((Ai ([x2.2.1]:List Int) (4,0,0,0,0,([]:List Y)) x1).bind fun y5=>(some (y5.1,y5.2)))))
def JX (x0:Bool) (x1:O) (x2:Z):Option (List Z×O):=(if (decide (x2.2.2.2.1>x1.2.1))=true then (Cp true x1 x2) else (if (!x1.2.2.2.1)=true then (Cp (!x1.2.2.1) x1 x2) else (Cp false x1 x2)))
def Mm (x1:List Int) (x2:Z) (b0:O):Option (List Z×O):=((Cd x1 b0.1).bind fun y1=>(if (!y1)=true then (some ([],b0)) else (if 0<=(0:Int) then (if 0<(x1.length:Int) then (if ((x1.getD (0:Int).toNat 0)==b0.1)=true then (some ([],b0)) else (JV ((x1.getD (0:Int).toNat 0)==b0.1) b0 x2)) else none) else none)))
theorem SZ:Qw JW Cp:=jS (by kernel_rfl)
theorem Sa:Qw JX JV:=jS (by kernel_rfl)
theorem XV:Qw Mm Hd:=cT BW rfl ⟨rfl,rfl⟩ (by kernel_rfl)
def Yx (x0:List Int) (x1:Int):Option (List Int):=((Bh x0).bind fun y1=>((El y1 x1).bind fun y2=>(some y2)))
theorem m4:Oi Yx Lg:=cT LY rfl ⟨rfl,rfl⟩ (by kernel_rfl)
def MI (x0:Bool) (x1:O) (x2:Z):Option (List Z×O):=cG Mb (AG DQ) (AG DQ) kx ⟨[(0,.ptr 0 0),(3,.ptr 1 0),(18,.bool x0)],[.var (U.enc x1),.var (AF.enc x2)]⟩
def MJ (x0:Bool) (x1:O) (x2:Z):Option (List Z×O):=(if (x2.1==7)=true then ((Ai ([x2.2.1]:List Int) (8,0,0,0,x2.2.2.2.2.1,([]:List Y)) x1).bind fun y1=>(some (y1.1,y1.2))) else (if 0<=(0:Int) then (if 0<(x2.2.2.2.2.2.length:Int) then ((Lh x1.2.2.2.2.2.2.2.1 (x2.2.2.2.2.2.getD (0:Int).toNat (ByteArray.empty,ByteArray.empty,0))).bind fun y2=>((Ai ([x2.2.1]:List Int) (6,0,0,0,x2.2.2.2.2.1,([]:List Y)) (x1.1,x1.2.1,x1.2.2.1,x1.2.2.2.1,x1.2.2.2.2.1,x1.2.2.2.2.2.1,x1.2.2.2.2.2.2.1,y2,x1.2.2.2.2.2.2.2.2)).bind fun y3=>(some (y3.1,y3.2)))) else none) else none))
def PF (x1:Z) (b0:O):Option (List Z×O):=(if (x1.2.2.2.1 != b0.2.1)=true then (some ([],b0)) else (if (!b0.2.2.2.1)=true then (some ([],b0)) else (MI (!b0.2.2.2.1) b0 x1)))
theorem U0:Qw MJ MI:=jS (by kernel_rfl)
theorem Zu:Oi PF JC:=cT DQ rfl ⟨rfl,rfl⟩ (by kernel_rfl)
def Ki (x0:Bool) (x1:O) (x2:Z):Option (List AE×O):=cG KY (AG C6) (AG C6) kx ⟨[(0,.ptr 0 0),(5,.ptr 1 0),(32,.bool x0)],[.var (U.enc x1),.var (AF.enc x2)]⟩
def Kj (x0:Bool) (x1:O) (x2:Z):Option (List AE×O):=((Lg x1.2.2.2.2.2.2.2.2.2.2.2.2.2 x2.2.1).bind fun y1=>(if (decide ((y1.length:Int)>0))=true then (some ([],(x1.1,x1.2.1,x1.2.2.1,x1.2.2.2.1,x1.2.2.2.2.1,x1.2.2.2.2.2.1,x1.2.2.2.2.2.2.1,x1.2.2.2.2.2.2.2.1,x1.2.2.2.2.2.2.2.2.1,x1.2.2.2.2.2.2.2.2.2.1,x1.2.2.2.2.2.2.2.2.2.2.1,x1.2.2.2.2.2.2.2.2.2.2.2.1,x1.2.2.2.2.2.2.2.2.2.2.2.2.1,y1))) else ((HA (x1.1,x1.2.1,x1.2.2.1,x1.2.2.2.1,x1.2.2.2.2.1,x1.2.2.2.2.2.1,x1.2.2.2.2.2.2.1,x1.2.2.2.2.2.2.2.1,x1.2.2.2.2.2.2.2.2.1,x1.2.2.2.2.2.2.2.2.2.1,x1.2.2.2.2.2.2.2.2.2.2.1,x1.2.2.2.2.2.2.2.2.2.2.2.1,x1.2.2.2.2.2.2.2.2.2.2.2.2.1,y1)).bind fun y2=>(some (y2.1,y2.2)))))
def Nw (x1:Int) (x2:Z) (b0:O):Option (List AE×O):=(if (x2.2.2.2.1 != b0.2.1)=true then (some ([],b0)) else (if (b0.2.2.2.2.2.2.2.2.2.1 != x1)=true then (some ([],b0)) else (if (b0.2.2.2.2.2.2.2.2.2.2.2.1 != x2.2.2.2.2.1)=true then (some ([],b0)) else (Ki (b0.2.2.2.2.2.2.2.2.2.2.2.1 != x2.2.2.2.2.1) b0 x2))))
theorem Tw:Qw Kj Ki:=jS (by kernel_rfl)
theorem Yy:Qw Nw Fz:=cT C6 rfl ⟨rfl,rfl⟩ (by kernel_rfl)
def Gw:=kE 0 [] [] 1 (AG AW) kx
def Gp:St->Option (RT (BM.outs AW)):=lG Ge [(0,0)] [0,1,2,3,8,9] 1 (AG AW) Gw
def Gx:=kB [(0,0)] [0,1,2,3,8,9] 1 Gp
def B4:=kB [(0,0)] [0,1,2,3,8,9] 1 Gx
def BY:=kE 1 [(0,0)] [0,1,2,3,8,9] 1 Gx Gw
def Nx:=cG Dj B4 (AG AW) BY
def Gq (x0 x1 x2:Int) (x3 x4:Bool) (x5 x6:Int) (x7:Bool) (x8:List Int):Option (List Int):=cG Dj B4 (AG AW) BY ⟨[(0,.row 0),(1,.int .i64 x0),(2,.int .i64 x1),(3,.int .i64 x2),(8,.bool x3),(9,.bool x4),(10,.int .i64 x5),(11,.int .i64 x6),(87,.bool x7)],[.mrow 3 (.int .i64) x8]⟩
def Dl (x0 x1 x2:Int) (x3 x4:Bool) (x5 x6:Int) (x7:Bool) (x8:List Int):Option (List Int):=cG Ga Nx (AG AW) BY ⟨[(0,.row 0),(1,.int .i64 x0),(2,.int .i64 x1),(3,.int .i64 x2),(8,.bool x3),(9,.bool x4),(10,.int .i64 x5),(11,.int .i64 x6),(87,.bool x7)],[.mrow 3 (.int .i64) x8]⟩
def Bx (x0 x1 x2:Int) (x3 x4:Bool) (x5 x6:Int) (x7:List Int):Option (List Int):=cG Gb B4 (AG AW) BY ⟨[(0,.row 0),(1,.int .i64 x0),(2,.int .i64 x1),(3,.int .i64 x2),(8,.bool x3),(9,.bool x4),(10,.int .i64 x5),(11,.int .i64 x6)],[.mrow 3 (.int .i64) x7]⟩
def Dm (x0 x1 x2:Int) (x3 x4:Bool) (x5 x6 x7:Int) (x8:List Int):Option (List Int):=cG Gc B4 (AG AW) BY ⟨[(0,.row 0),(1,.int .i64 x0),(2,.int .i64 x1),(3,.int .i64 x2),(8,.bool x3),(9,.bool x4),(10,.int .i64 x5),(11,.int .i64 x6),(12,.int .i64 x7)],[.mrow 3 (.int .i64) x8]⟩
def Dn (x0 x1 x2:Int) (x3 x4:Bool) (x5:Int) (x6:List Int):Option (List Int):=cG Gd B4 (AG AW) BY ⟨[(0,.row 0),(1,.int .i64 x0),(2,.int .i64 x1),(3,.int .i64 x2),(8,.bool x3),(9,.bool x4),(10,.int .i64 x5)],[.mrow 3 (.int .i64) x6]⟩
def By (x0 x1 x2:Int) (x3 x4:Bool) (x5:List Int):Option (List Int):=Gp ⟨[(0,.row 0),(1,.int .i64 x0),(2,.int .i64 x1),(3,.int .i64 x2),(8,.bool x3),(9,.bool x4)],[.mrow 3 (.int .i64) x5]⟩
def M9 (x0 x1 x2:Int) (x3 x4:Bool) (x5 x6:Int) (x7:Bool) (x8:List Int):Option (List Int):=((Nl x0 x1 x6 x8).bind fun y9=>(if 8=0 then none else (if (decide ((i64.wrap (y9.1-x0))<(i64.wrap (x1-y9.1))))=true then ((CL x0 y9.1 x2 y9.2.2).bind fun y10=>(By (i64.wrap (y9.1+1)) x1 x2 (decide ((i64.wrap (y9.1-x0))>=(i64.wrap (Int.tdiv x5 8)))) y9.2.1 y10)) else ((CL (i64.wrap (y9.1+1)) x1 x2 y9.2.2).bind fun y11=>(By x0 y9.1 x2 (decide ((i64.wrap (x1-y9.1))>=(i64.wrap (Int.tdiv x5 8)))) y9.2.1 y11)))))
def M_ (x0 x1 x2:Int) (x3 x4:Bool) (x5 x6:Int) (x7:Bool) (x8:List Int):Option (List Int):=(if x7=true then ((J_ x0 x1 x6 x8).bind fun y8=>(By y8.1 x1 x2 x3 x4 y8.2)) else (Gq x0 x1 x2 x3 x4 x5 x6 x7 x8))
def NA (x0 x1 x2:Int) (x3 x4:Bool) (x5 x6:Int) (x7:List Int):Option (List Int):=(if (decide (x0>0))=true then (if 0<=(i64.wrap (x0-1)) then (if (i64.wrap (x0-1))<(x7.length:Int) then (if 0<=x6 then (if x6<(x7.length:Int) then ((Li (x7.getD ((i64.wrap (x0-1)).toNat) 0) (x7.getD x6.toNat 0)).bind fun y7=>(Dl x0 x1 x2 x3 x4 x5 x6 (!y7) x7)) else none) else none) else none) else none) else (Dl x0 x1 x2 x3 x4 x5 x6 false x7))
def NB (x0 x1 x2:Int) (x3 x4:Bool) (x5 x6 x7:Int) (x8:List Int):Option (List Int):=(if x3=true then (if x4=true then (if (x7==1)=true then ((He x0 x1 x8).bind fun y6=>(if y6.1=true then (some y6.2) else (Bx x0 x1 x2 x3 x4 x5 x6 y6.2))) else (Bx x0 x1 x2 x3 x4 x5 x6 x8)) else (Bx x0 x1 x2 x3 x4 x5 x6 x8)) else (Bx x0 x1 x2 x3 x4 x5 x6 x8))
def NC (x0 x1 x2:Int) (x3 x4:Bool) (x5:Int) (x6:List Int):Option (List Int):=((MR x0 x1 x6).bind fun y4=>(if (y4.2.1==2)=true then ((Lk x0 x1 y4.2.2).bind fun y5=>(Dm x0 x1 x2 x3 x4 x5 (i64.wrap ((i64.wrap (x1-1))-(i64.wrap (y4.1-x0)))) 1 y5)) else (Dm x0 x1 x2 x3 x4 x5 y4.1 y4.2.1 y4.2.2)))
def Gr (x0 x1 x2:Int) (x3 x4:Bool) (x5:List Int):Option (List Int):=(if (decide ((i64.wrap (x1-x0))<=12))=true then ((C_ x0 x1 x5).bind fun y1=>(some y1)) else (if (x2==0)=true then ((OI x0 x1 x5).bind fun y2=>(some y2)) else (if (!x3)=true then ((Kt x0 x1 x5).bind fun y3=>(Dn x0 x1 (i64.wrap (x2-1)) x3 x4 (i64.wrap (x1-x0)) y3)) else (Dn x0 x1 x2 x3 x4 (i64.wrap (x1-x0)) x5))))
def H7 (x1 x2 x3:Int) (b0:List Int):Option (List Int):=(By x1 x2 x3 true true b0)
theorem gh:yP M9 Gq:=jS (by kernel_rfl)
theorem gj:yP M_ Dl:=jS (by kernel_rfl)
theorem gm:s_ NA Bx:=jS (by kernel_rfl)
theorem gp:yP NB Dm:=jS (by kernel_rfl)
theorem gq:vu NC Dn:=jS (by kernel_rfl)
theorem ND:uC Gr By:=lS (by kernel_rfl)
theorem Pd:bl H7 CL:=cT AW rfl ⟨rfl,rfl⟩ (by kernel_rfl)
def W_ (x0:Int):Option Int:=((Lj x0).bind fun y1=>(some y1))
theorem jq:PP W_ OH:=cT Jk rfl ⟨rfl,rfl⟩ (by kernel_rfl)
def H8 (x0:List Y) (x1:Y) (x2:List Y):Option (List Y):=cG TK (AG D2) (AG D2) kx ⟨[(0,.lst AC x0),(5,.row 1)],[.var (AC.enc x1),.rows 38 AC x2]⟩
def H9 (x0:List Y) (x1:Int) (x2 x3:Bool) (x4:Y) (x5:List Y):Option (List Y):=cG TL (AG D2) (AG D2) kx ⟨[(0,.lst AC x0),(3,.ptr 0 0),(5,.row 1),(6,.int .i64 x1),(7,.bool x2),(32,.bool x3)],[.var (AC.enc x4),.rows 38 AC x5]⟩
def SB (x0:List Y) (x1:Y) (x2:List Y):Option (List Y):=((FD x2).bind fun y5=>(if (!y5)=true then ((Ah x0).bind fun y6=>(some y6)) else (some x2)))
def SC (x0:List Y) (x1:Int) (x2 x3:Bool) (x4:Y) (x5:List Y):Option (List Y):=(if x2=true then (if 0<=x1 then (if x1<(x5.length:Int) then (let z4:List Y:=x5.set x1.toNat x4; (H8 x0 x4 z4)) else none) else none) else ((Co x5 x1 ([x4]:List Y)).bind fun y7=>(H8 x0 x4 y7)))
def Yz (x0:List Y) (x1:Y):Option (List Y):=((Ah x0).bind fun y1=>((BO x0 x1.1 ()).bind fun y2=>((FD x0).bind fun y3=>(if (!y3)=true then (some y1) else (if y2.2=true then (if 0<=y2.1 then (if y2.1<(x0.length:Int) then (if (decide ((((x0.getD y2.1.toNat (ByteArray.empty,ByteArray.empty,0)).2).2)>=x1.2.2))=true then (some y1) else (H9 x0 y2.1 y2.2 (decide ((((x0.getD y2.1.toNat (ByteArray.empty,ByteArray.empty,0)).2).2)>=x1.2.2)) x1 y1)) else none) else none) else (H9 x0 y2.1 y2.2 false x1 y1))))))
theorem eD:Qw SB H8:=jS (by kernel_rfl)
theorem eE:uC SC H9:=jS (by kernel_rfl)
theorem m5:Oi Yz Lh:=cT D2 rfl ⟨rfl,rfl⟩ (by kernel_rfl)
def jr:=cG WJ (AG Eu) (AG Eu) kx
def jt:=kE 0 [] [] 0 jr kx
def gu:St->Option (RT (BM.outs Eu)):=lG WI [] [0,3] 0 (AG Eu) jt
def Gs (x0:List Int) (x1:Int):Option Bool:=gu ⟨[(0,.lst (.int .i64) x0),(3,.int .i64 x1)],[]⟩
def NE (x0:List Int) (x1:Int):Option Bool:=(if (decide (x1<(x0.length:Int)))=true then (if 0<=x1 then (if x1<(x0.length:Int) then ((AX (x0.getD x1.toNat 0) 1 6).bind fun y1=>(if (!y1)=true then (some false) else (if (decide (x1>0))=true then (if 0<=(i64.wrap (x1-1)) then (if (i64.wrap (x1-1))<(x0.length:Int) then (if 0<=x1 then (if x1<(x0.length:Int) then (if (decide ((x0.getD (i64.wrap (x1-1)).toNat 0)>=(x0.getD x1.toNat 0)))=true then (some false) else (Gs x0 (i64.wrap (x1+1)))) else none) else none) else none) else none) else (Gs x0 (i64.wrap (x1+1)))))) else none) else none) else (some true))
def aI (x0:List Int):Option Bool:=(Gs x0 0)
theorem Tx:Oi NE Gs:=lS (by kernel_rfl)
theorem oF:PP aI DB:=cT Eu rfl ⟨rfl,rfl⟩ (by kernel_rfl)
def gw:=cG Rb (AG D3) (AG D3) kx
def gx:=kE 0 [] [0] 0 gw kx
def eF:St->Option (RT (BM.outs D3)):=lG Ra [] [0,3] 0 (AG D3) gx
def F8 (x0:List Y) (x1:Int):Option Bool:=eF ⟨[(0,.lst AC x0),(3,.int .i64 x1)],[]⟩
def MK (x0:List Y) (x1:Int):Option Bool:=(if (decide (x1<(x0.length:Int)))=true then (if 0<=x1 then (if x1<(x0.length:Int) then ((AX (((x0.getD x1.toNat (ByteArray.empty,ByteArray.empty,0)).1).size:Int) 1 12).bind fun y1=>(if (!y1)=true then (some false) else (if (decide (((((x0.getD x1.toNat (ByteArray.empty,ByteArray.empty,0)).2).1).size:Int)>20))=true then (some false) else ((AX (((x0.getD x1.toNat (ByteArray.empty,ByteArray.empty,0)).2).2) 1 1000000000).bind fun y2=>(if (!y2)=true then (some false) else (if (decide (x1>0))=true then (if 0<=(i64.wrap (x1-1)) then (if (i64.wrap (x1-1))<(x0.length:Int) then (if (!(Op.bytesLess ((x0.getD (i64.wrap (x1-1)).toNat (ByteArray.empty,ByteArray.empty,0)).1).toList ((x0.getD x1.toNat (ByteArray.empty,ByteArray.empty,0)).1).toList))=true then (some false) else (F8 x0 (i64.wrap (x1+1)))) else none) else none) else (F8 x0 (i64.wrap (x1+1))))))))) else none) else none) else (some (decide ((x0.length:Int)<=12))))
def Y0 (x0:List Y):Option Bool:=(F8 x0 0)
theorem SD:Oi MK F8:=lS (by kernel_rfl)
theorem m6:PP Y0 DJ:=cT D3 rfl ⟨rfl,rfl⟩ (by kernel_rfl)
def Ty (x0:pL):Option Bool:=(if (x0.1==0)=true then (if (x0.2.1==0)=true then (if (x0.2.2.1==0)=true then (if (false != XZ AC x0.2.2.2.1 (ByteArray.empty,ByteArray.empty,0))=true then (some ((x0.2.2.2.2.length:Int)==0)) else (some false)) else (some false)) else (some false)) else (some false))
theorem gy:PP Ty My:=cT Io rfl ⟨rfl,rfl⟩ (by kernel_rfl)
def Zv:=cG Ov (AG Cj) (AG Cj) kx
def Zw:=kE 0 [(5,0)] [5] 1 Zv kx
def Y1:St->Option (RT (BM.outs Cj)):=lG Ou [(5,0)] [0,1,5,6] 1 (AG Cj) Zw
def D8 (x0:List Int) (x1 x2:Int) (x3:List Int):Option (List Int):=Y1 ⟨[(0,.lst (.int .i64) x0),(1,.int .i64 x1),(5,.row 0),(6,.int .i64 x2)],[.rows 3 (.int .i64) x3]⟩
def IX (x0:List Int) (x1 x2:Int) (x3:List Int):Option (List Int):=(if (decide (x2<(x0.length:Int)))=true then (if 0<=x2 then (if x2<(x0.length:Int) then (if ((x0.getD x2.toNat 0) != x1)=true then (if 0<=x2 then (if x2<(x0.length:Int) then (if x3.length+([(x0.getD x2.toNat 0)]:List Int).length<=68719476736 then (D8 x0 x1 (i64.wrap (x2+1)) (x3++([(x0.getD x2.toNat 0)]:List Int))) else none) else none) else none) else (D8 x0 x1 (i64.wrap (x2+1)) x3)) else none) else none) else (some x3))
def SE (x0:List Int) (x1:Int):Option (List Int):=(D8 x0 x1 0 ([]:List Int))
theorem Ny:bl IX D8:=lS (by kernel_rfl)
theorem eG:Oi SE Hr:=cT Cj rfl ⟨rfl,rfl⟩ (by kernel_rfl)
def Cq:=kE 0 [] [] 1 (AG AS) kx
def EX:St->Option (RT (BM.outs AS)):=lG Ez [(0,0)] [0,1,2,6] 1 (AG AS) Cq
def JY:=kB [(0,0)] [0,1,2,6] 1 EX
def E0:=cG Ey JY (AG AS) Cq
def JZ:=kB [(0,0)] [0,1,2,6] 1 E0
def Ja:=kE 1 [(0,0)] [0,1,2,6] 1 E0 Cq
def E1:=kE 2 [(0,0)] [0,1,2,6] 1 JZ Ja
def EY:St->Option (RT (BM.outs AS)):=lG Ex [(0,0)] [0,1,2,6,7] 1 (AG AS) E1
def Jb:=kB [(0,0)] [0,1,2,6,7] 1 EY
def EZ (x0 x1 x2 x3:Int) (x4:Bool) (x5:List Int):Option (List Int):=cG Ew Jb (AG AS) E1 ⟨[(0,.row 0),(1,.int .i64 x0),(2,.int .i64 x1),(6,.int .i64 x2),(7,.int .i64 x3),(30,.bool x4)],[.mrow 3 (.int .i64) x5]⟩
def Bq (x0 x1 x2 x3:Int) (x4:List Int):Option (List Int):=EY ⟨[(0,.row 0),(1,.int .i64 x0),(2,.int .i64 x1),(6,.int .i64 x2),(7,.int .i64 x3)],[.mrow 3 (.int .i64) x4]⟩
def Au (x0 x1 x2:Int) (x3:List Int):Option (List Int):=EX ⟨[(0,.row 0),(1,.int .i64 x0),(2,.int .i64 x1),(6,.int .i64 x2)],[.mrow 3 (.int .i64) x3]⟩
def Ea (x0 x1 x2 x3:Int) (x4:Bool) (x5:List Int):Option (List Int):=(if 0<=(i64.wrap (x3-1)) then (if (i64.wrap (x3-1))<(x5.length:Int) then (if 0<=x3 then (if x3<(x5.length:Int) then (if 0<=x3 then (if x3<(x5.length:Int) then (let z2:List Int:=x5.set x3.toNat (x5.getD ((i64.wrap (x3-1)).toNat) 0); (if 0<=(i64.wrap (x3-1)) then (if (i64.wrap (x3-1))<(z2.length:Int) then (let z3:List Int:=z2.set ((i64.wrap (x3-1)).toNat) (x5.getD x3.toNat 0); (Bq x0 x1 x2 (i64.wrap (x3-1)) z3)) else none) else none)) else none) else none) else none) else none) else none) else none)
def Ch (x0 x1 x2 x3:Int) (x4:List Int):Option (List Int):=(if (decide (x3>x0))=true then (if 0<=x3 then (if x3<(x4.length:Int) then (if 0<=(i64.wrap (x3-1)) then (if (i64.wrap (x3-1))<(x4.length:Int) then ((Li (x4.getD x3.toNat 0) (x4.getD ((i64.wrap (x3-1)).toNat) 0)).bind fun y1=>(if y1=true then (EZ x0 x1 x2 x3 y1 x4) else (Au x0 x1 (i64.wrap (x2+1)) x4))) else none) else none) else none) else none) else (Au x0 x1 (i64.wrap (x2+1)) x4))
def Br (x0 x1 x2:Int) (x3:List Int):Option (List Int):=(if (decide (x2<x1))=true then (Bq x0 x1 x2 x2 x3) else (some x3))
def DA (x1 x2:Int) (b0:List Int):Option (List Int):=(Au x1 x2 (i64.wrap (x1+1)) b0)
theorem JJ:uC Ea EZ:=jS (by kernel_rfl)
theorem Eb:sL Ch Bq:=lS (by kernel_rfl)
theorem Ci:bl Br Au:=lS (by kernel_rfl)
theorem Fa:Qw DA C_:=cT AS rfl ⟨rfl,rfl⟩ (by kernel_rfl)
def Y2 (x0 x1:Int):Option Bool:=((Jm x0).bind fun y1=>(if y1=true then ((Jm x1).bind fun y2=>(if (!y2)=false then (some (decide (x0<x1))) else (some true))) else (some (decide (x0<x1)))))
theorem m7:Oi Y2 Li:=cT La rfl ⟨rfl,rfl⟩ (by kernel_rfl)
def F9 (x0 x1:Int):Option Int:=cG Ow (AG Ck) (AG Ck) kx ⟨[(0,.int .u64 x0),(2,.int .i64 x1)],[]⟩
def IY (x0 x1:Int):Option Int:=cG Ox (AG Ck) (AG Ck) kx ⟨[(0,.int .u64 x0),(2,.int .i64 x1)],[]⟩
def Ia (x0 x1:Int):Option Int:=(if (decide (x0>=256))=true then (if 8<0 then none else (if 0<=(IntKind.u8.wrap (Int.fdiv x0 (2^(min (8:Int).toNat (IntKind.bits .u64))))) then (if (IntKind.u8.wrap (Int.fdiv x0 (2^(min (8:Int).toNat (IntKind.bits .u64)))))<((⟨#[0,1,2,2,3,3,3,3,4,4,4,4,4,4,4,4,5,5,5,5,5,5,5,5,5,5,5,5,5,5,5,5,6,6,6,6,6,6,6,6,6,6,6,6,6,6,6,6,6,6,6,6,6,6,6,6,6,6,6,6,6,6,6,6,7,7,7,7,7,7,7,7,7,7,7,7,7,7,7,7,7,7,7,7,7,7,7,7,7,7,7,7,7,7,7,7,7,7,7,7,7,7,7,7,7,7,7,7,7,7,7,7,7,7,7,7,7,7,7,7,7,7,7,7,7,7,7,7,8,8,8,8,8,8,8,8,8,8,8,8,8,8,8,8,8,8,8,8,8,8,8,8,8,8,8,8,8,8,8,8,8,8,8,8,8,8,8,8,8,8,8,8,8,8,8,8,8,8,8,8,8,8,8,8,8,8,8,8,8,8,8,8,8,8,8,8,8,8,8,8,8,8,8,8,8,8,8,8,8,8,8,8,8,8,8,8,8,8,8,8,8,8,8,8,8,8,8,8,8,8,8,8,8,8,8,8,8,8,8,8,8,8,8,8,8,8,8,8,8,8,8,8,8,8,8,8]⟩:ByteArray).size:Int) then (some (i64.wrap ((i64.wrap (x1+8))+(i64.wrap (((⟨#[0,1,2,2,3,3,3,3,4,4,4,4,4,4,4,4,5,5,5,5,5,5,5,5,5,5,5,5,5,5,5,5,6,6,6,6,6,6,6,6,6,6,6,6,6,6,6,6,6,6,6,6,6,6,6,6,6,6,6,6,6,6,6,6,7,7,7,7,7,7,7,7,7,7,7,7,7,7,7,7,7,7,7,7,7,7,7,7,7,7,7,7,7,7,7,7,7,7,7,7,7,7,7,7,7,7,7,7,7,7,7,7,7,7,7,7,7,7,7,7,7,7,7,7,7,7,7,7,8,8,8,8,8,8,8,8,8,8,8,8,8,8,8,8,8,8,8,8,8,8,8,8,8,8,8,8,8,8,8,8,8,8,8,8,8,8,8,8,8,8,8,8,8,8,8,8,8,8,8,8,8,8,8,8,8,8,8,8,8,8,8,8,8,8,8,8,8,8,8,8,8,8,8,8,8,8,8,8,8,8,8,8,8,8,8,8,8,8,8,8,8,8,8,8,8,8,8,8,8,8,8,8,8,8,8,8,8,8,8,8,8,8,8,8,8,8,8,8,8,8,8,8,8,8,8,8]⟩:ByteArray).data.toList.getD (IntKind.u8.wrap (Int.fdiv x0 (2^(min (8:Int).toNat (IntKind.bits .u64))))).toNat 0).toNat:Int))))) else none) else none)) else (if 0<=(IntKind.u8.wrap x0) then (if (IntKind.u8.wrap x0)<((⟨#[0,1,2,2,3,3,3,3,4,4,4,4,4,4,4,4,5,5,5,5,5,5,5,5,5,5,5,5,5,5,5,5,6,6,6,6,6,6,6,6,6,6,6,6,6,6,6,6,6,6,6,6,6,6,6,6,6,6,6,6,6,6,6,6,7,7,7,7,7,7,7,7,7,7,7,7,7,7,7,7,7,7,7,7,7,7,7,7,7,7,7,7,7,7,7,7,7,7,7,7,7,7,7,7,7,7,7,7,7,7,7,7,7,7,7,7,7,7,7,7,7,7,7,7,7,7,7,7,8,8,8,8,8,8,8,8,8,8,8,8,8,8,8,8,8,8,8,8,8,8,8,8,8,8,8,8,8,8,8,8,8,8,8,8,8,8,8,8,8,8,8,8,8,8,8,8,8,8,8,8,8,8,8,8,8,8,8,8,8,8,8,8,8,8,8,8,8,8,8,8,8,8,8,8,8,8,8,8,8,8,8,8,8,8,8,8,8,8,8,8,8,8,8,8,8,8,8,8,8,8,8,8,8,8,8,8,8,8,8,8,8,8,8,8,8,8,8,8,8,8,8,8,8,8,8,8]⟩:ByteArray).size:Int) then (some (i64.wrap (x1+(i64.wrap (((⟨#[0,1,2,2,3,3,3,3,4,4,4,4,4,4,4,4,5,5,5,5,5,5,5,5,5,5,5,5,5,5,5,5,6,6,6,6,6,6,6,6,6,6,6,6,6,6,6,6,6,6,6,6,6,6,6,6,6,6,6,6,6,6,6,6,7,7,7,7,7,7,7,7,7,7,7,7,7,7,7,7,7,7,7,7,7,7,7,7,7,7,7,7,7,7,7,7,7,7,7,7,7,7,7,7,7,7,7,7,7,7,7,7,7,7,7,7,7,7,7,7,7,7,7,7,7,7,7,7,8,8,8,8,8,8,8,8,8,8,8,8,8,8,8,8,8,8,8,8,8,8,8,8,8,8,8,8,8,8,8,8,8,8,8,8,8,8,8,8,8,8,8,8,8,8,8,8,8,8,8,8,8,8,8,8,8,8,8,8,8,8,8,8,8,8,8,8,8,8,8,8,8,8,8,8,8,8,8,8,8,8,8,8,8,8,8,8,8,8,8,8,8,8,8,8,8,8,8,8,8,8,8,8,8,8,8,8,8,8,8,8,8,8,8,8,8,8,8,8,8,8,8,8,8,8,8,8]⟩:ByteArray).data.toList.getD (IntKind.u8.wrap x0).toNat 0).toNat:Int))))) else none) else none))
def Nz (x0 x1:Int):Option Int:=(if (decide (x0>=65536))=true then (if 16<0 then none else (F9 (Int.fdiv x0 (2^(min (16:Int).toNat (IntKind.bits .u64)))) (i64.wrap (x1+16)))) else (F9 x0 x1))
def SF (x0:Int):Option Int:=(if (decide (x0>=4294967296))=true then (if 32<0 then none else (IY (Int.fdiv x0 (2^(min (32:Int).toNat (IntKind.bits .u64)))) 32)) else (IY x0 0))
theorem Y3:Oi Ia F9:=jS (by kernel_rfl)
theorem Y4:Oi Nz IY:=jS (by kernel_rfl)
theorem eH:PP SF Lj:=cT Ck rfl ⟨rfl,rfl⟩ (by kernel_rfl)
def EP:=cG BJ (AG AI) (AG AI) kx
def EQ:=kE 0 [] [0,1,2,8,9] 0 EP kx
def EA:St->Option (RT (BM.outs AI)):=lG CD [] [0,1,2,8,9,10] 0 (AG AI) EQ
def CA (x0:List Y) (x1:ByteArray) (x2 x3:Int):Option (Int×Bool):=cG BJ (AG AI) (AG AI) kx ⟨[(0,.lst AC x0),(1,.str x1),(2,.fn 160 []),(8,.int .i64 x2),(9,.int .i64 x3)],[]⟩
def AL (x0:List Y) (x1:ByteArray) (x2 x3 x4:Int):Option (Int×Bool):=EA ⟨[(0,.lst AC x0),(1,.str x1),(2,.fn 160 []),(8,.int .i64 x2),(9,.int .i64 x3),(10,.int .i64 x4)],[]⟩
def CB (x0:List Y) (x1:ByteArray) (x2 x3:Int):Option (Int×Bool):=(if (decide (x3<x2))=true then (if 0<=x3 then (if x3<(x0.length:Int) then ((Is (x0.getD x3.toNat (ByteArray.empty,ByteArray.empty,0)) x1).bind fun y2=>(some (x3,(y2==0)))) else none) else none) else (some (x3,false)))
def BG (x0:List Y) (x1:ByteArray) (x2 x3 x4:Int):Option (Int×Bool):=(if (decide (x3<x4))=true then (if 1<0 then none else (if 0<=(i64.wrap (Int.fdiv (IntKind.u64.wrap (i64.wrap (x3+x4))) (2^(min (1:Int).toNat (IntKind.bits .u64))))) then (if (i64.wrap (Int.fdiv (IntKind.u64.wrap (i64.wrap (x3+x4))) (2^(min (1:Int).toNat (IntKind.bits .u64)))))<(x0.length:Int) then ((Is (x0.getD (i64.wrap (Int.fdiv (IntKind.u64.wrap (i64.wrap (x3+x4))) (2^(min (1:Int).toNat (IntKind.bits .u64))))).toNat (ByteArray.empty,ByteArray.empty,0)) x1).bind fun y1=>(if (decide (y1<0))=true then (AL x0 x1 x2 (i64.wrap ((i64.wrap (Int.fdiv (IntKind.u64.wrap (i64.wrap (x3+x4))) (2^(min (1:Int).toNat (IntKind.bits .u64)))))+1)) x4) else (AL x0 x1 x2 x3 (i64.wrap (Int.fdiv (IntKind.u64.wrap (i64.wrap (x3+x4))) (2^(min (1:Int).toNat (IntKind.bits .u64)))))))) else none) else none)) else (CA x0 x1 x2 x3))
def CM (x0:List Y) (x1:ByteArray) (x2:Unit):Option (Int×Bool):=(AL x0 x1 (x0.length:Int) 0 (x0.length:Int))
theorem EB:bl CB CA:=jS (by kernel_rfl)
theorem CC:sL BG AL:=lS (by kernel_rfl)
theorem En:Qw CM BO:=cT AI rfl ⟨rfl,rfl⟩ (by kernel_rfl)
def Tz (x0:Y) (x1:ByteArray):Option Int:=((Ll x0.1 x1).bind fun y1=>(some y1))
theorem gz:Oi Tz Is:=cT Ip rfl ⟨rfl,rfl⟩ (by kernel_rfl)
def XA (x0:Int):Option Bool:=(some (x0 != x0))
theorem ju:PP XA Jm:=cT Jl rfl ⟨rfl,rfl⟩ (by kernel_rfl)
end
end Go.Proofs.YtokiohnjegbnpaaGreat.Core


namespace Go.Proofs.YtokiohnjegbnpaaGreat.Core
open Go
theorem AZ {n:Int} (h:-9223372036854775808<=n/\n<=9223372036854775807):IntKind.i64.wrap n=n:=IntWalk.i64_in n h
theorem AO {i:Nat} (h:i<9223372036854775807):IntKind.i64.wrap ((i:Int)+1)=((i+1:Nat):Int):=by
 rw [AZ (by omega)]
 omega
theorem GJ {P:Nat->Prop} {n:Nat} (h0:P n) (h:∀ i,i<n->P (i+1)->P i):∀ i,i<=n->P i:=by
 intro i hi
 induction hk:n-i generalizing i with
 | zero =>
  have:i=n:=by omega
  subst this
  exact h0
 | succ k ih=>exact h i (by omega) (ih (i+1) (by omega) (by omega))
theorem AR {α:Type} {xs:List α} {i:Nat} {d:α} (h:i<xs.length):xs.getD i d=xs[i]:=by
 simp [List.getD,h]

theorem BK (a b c:Int):AX a b c=some (decide (b<=a)&&decide (a<=c)):=qH (by
 unfold dO
 by_cases h:b<=a<;>simp [h])
theorem Ao (a b c:Int):Af a b c=some (decide (b<=a)&&decide (a<=c)):=mV (by
 unfold YV
 by_cases h:b<=a<;>simp [h])
def Kk (x:Int×ByteArray×ByteArray×Int×Int×Int×Int×Int×ByteArray):Int :=
 if (decide ((0:Int)<=x.2.2.2.2.2.2.1)&&decide (x.2.2.2.2.2.2.1<=9))&&(decide ((0:Int)<=x.2.2.2.2.2.2.2.1)&&decide (x.2.2.2.2.2.2.2.1<=999)) then IntKind.i64.wrap (IntKind.i64.wrap (1000*x.2.2.2.2.2.2.1)+x.2.2.2.2.2.2.2.1) else 0
theorem XB x:Lb x=some (Kk x):=qF (by
 unfold dM Kk
 simp only [BK,X]
 generalize (decide ((0:Int)<=x.2.2.2.2.2.2.1)&&decide (x.2.2.2.2.2.2.1<=9))=a
 generalize (decide ((0:Int)<=x.2.2.2.2.2.2.2.1)&&decide (x.2.2.2.2.2.2.2.1<=999))=b
 cases a<;>cases b<;>simp)
theorem XC x:G7 x=some (Kk x):=p_ (by
 unfold c_ Kk
 simp only [Ao,X]
 generalize (decide ((0:Int)<=x.2.2.2.2.2.2.1)&&decide (x.2.2.2.2.2.2.1<=9))=a
 generalize (decide ((0:Int)<=x.2.2.2.2.2.2.2.1)&&decide (x.2.2.2.2.2.2.2.1<=999))=b
 cases a<;>cases b<;>simp)

def BD (x:List (ByteArray×ByteArray×Int)) (k:ByteArray):ByteArray×ByteArray×Int :=
 (x.find? fun a=>a.1.toList==k.toList).getD (ByteArray.empty,ByteArray.empty,0)
theorem BZ {α:Type} {x:List α} {i:Nat} (h:i<x.length):x.drop i=x[i]::x.drop (i+1):=List.drop_eq_getElem_cons h
theorem T0 (x k) (h:x.length<=maxLen):NS x k=some (BD x k):=oC (by
 have hm:x.length<=9223372036854775807:=h
 unfold aF
 exact GJ (n:=x.length) (P:=fun i=>∀ z,Iw x k (i:Int) z=some (BD (x.drop i) k)) (fun z=>Tj (by
  unfold M4
  rw [if_neg (by simp),List.drop_length]
  rfl)) (fun i hi ih z=>Tj (by
  unfold M4
  simp only [show ((i:Int)<(x.length:Int)) from by omega,decide_true,if_true,show (0:Int)<=(i:Int) from by omega,Int.toNat_natCast,AR hi,AO (show i<9223372036854775807 by omega)]
  rw [BZ hi]
  by_cases hk:(x[i].1.toList==k.toList)=true
  ·rw [if_pos hk]
   unfold BD
   rw [List.find?_cons,hk]
   rfl
  ·rw [if_neg hk,ih]
   unfold BD
   rw [List.find?_cons,Bool.eq_false_iff.2 hk])) 0 (by omega) _)
theorem T1 (x k) (h:x.length<=maxLen):NR x k=some (BD x k):=oB (by
 have hm:x.length<=9223372036854775807:=h
 unfold aE
 exact GJ (n:=x.length) (P:=fun i=>∀ z,Iv k x (x.length:Int) (i:Int) z=some (BD (x.drop i) k)) (fun z=>Tf (by
  unfold M3
  rw [if_neg (by simp),List.drop_length]
  rfl)) (fun i hi ih z=>Tf (by
  unfold M3
  simp only [show ((i:Int)<(x.length:Int)) from by omega,decide_true,if_true,show (0:Int)<=(i:Int) from by omega,Int.toNat_natCast,AR hi,AO (show i<9223372036854775807 by omega)]
  rw [BZ hi]
  by_cases hk:(x[i].1.toList==k.toList)=true
  ·rw [if_pos hk]
   unfold BD
   rw [List.find?_cons,hk]
   rfl
  ·rw [if_neg hk,ih]
   unfold BD
   rw [List.find?_cons,Bool.eq_false_iff.2 hk])) 0 (by omega) _)

theorem Oe k:PZ k=some (decide (1<=(k.size:Int))&&decide ((k.size:Int)<=12)):=qJ (by simp [dg,Ao])
theorem E8 n:Ds n=some (decide (1<=n)&&decide (n<=6)):=n7 (by simp [aC,Ao])
def rm (v:ByteArray):Bool:=v.toList==(⟨#[]⟩:ByteArray).toList
theorem m8 (v:ByteArray):(v.toList==(⟨#[]⟩:ByteArray).toList)=rm v:=rfl
def m9 (op:Int) (k v:ByteArray):Bool :=
 (decide (op=1)||decide (op=2))&&(decide (1<=(k.size:Int))&&decide ((k.size:Int)<=12))&&decide ((v.size:Int)<=20)&&(decide (op=1)||rm v)
def MS (x:Int×Int×Int×Int×ByteArray×ByteArray):Bool :=
 decide (1<=x.1)&&decide (x.1<=6)&&(decide (1<=x.2.1)&&decide (x.2.1<=6))&&decide (0<=x.2.2.1) &&
  (if x.1=1 then m9 x.2.2.2.1 x.2.2.2.2.1 x.2.2.2.2.2 else decide (x.2.2.2.1=0)&&rm x.2.2.2.2.1&&rm x.2.2.2.2.2)
theorem jv a k v:Lc a 0 k v=some (m9 a k v):=da (by
 have w:∀ b,Jp a v b=some (decide (a=1)||rm v):=fun b=>Wi (by
  unfold OV
  rw [m8]
  by_cases h:a=1<;>simp [h])
 unfold Ut m9
 have uH:decide ((v.size:Int)>20)=!decide ((v.size:Int)<=20):=by
  by_cases h:(v.size:Int)<=20<;>simp [h]
  omega
 simp only [uH,Ao,Oe,X,w]
 by_cases h1:a=1
 ·by_cases h2:1<=(k.size:Int)<;>by_cases h3:(k.size:Int)<=12<;>by_cases h4:(v.size:Int)<=20<;>simp [h1,h2,h3,h4]
 ·by_cases h1b:a=2
  ·by_cases h2:1<=(k.size:Int)<;>by_cases h3:(k.size:Int)<=12<;>by_cases h4:(v.size:Int)<=20<;>simp [h1b,h2,h3,h4]
  ·have:¬ (1<=a/\a<=2):=by omega
   by_cases h5:1<=a
   ·have:¬ a<=2:=by omega
    simp [h1,h1b,this]
   ·simp [h1,h1b,h5])
theorem eI x:P6 x=some (MS x):=mU (by
 have w:∀ b,Lt b x=some (if x.1=1 then m9 x.2.2.2.1 x.2.2.2.2.1 x.2.2.2.2.2 else decide (x.2.2.2.1=0)&&rm x.2.2.2.2.1&&rm x.2.2.2.2.2):=fun b=>dH (by
  unfold Rm
  simp only [m8]
  by_cases h:x.1=1
  ·simp [h,jv]
  ·by_cases h2:x.2.2.2.1=0<;>rcases Bool.eq_false_or_eq_true (rm x.2.2.2.2.1) with h3 | h3<;>simp [h,h2,h3])
 unfold YU MS
 simp only [Ao,E8,X,w]
 by_cases h1:1<=x.1<;>by_cases h2:x.1<=6<;>by_cases h3:1<=x.2.1<;>by_cases h4:x.2.1<=6<;>by_cases h5:0<=x.2.2.1<;>simp [h1,h2,h3,h4,h5]<;>omega)

def I1 (a:ByteArray×ByteArray×Int):Bool:=(decide (1<=(a.1.size:Int))&&decide ((a.1.size:Int)<=12))&&decide ((a.2.1.size:Int)<=20)&&(decide (1<=a.2.2)&&decide (a.2.2<=1000000000))
def B7 (x:List (ByteArray×ByteArray×Int)) (i:Nat):Nat->Bool
 | 0=>decide ((x.length:Int)<=12)
 | k+1=>I1 (x.getD i (ByteArray.empty,ByteArray.empty,0))&&(decide (i=0)||Op.bytesLess (x.getD (i-1) (ByteArray.empty,ByteArray.empty,0)).1.toList (x.getD i (ByteArray.empty,ByteArray.empty,0)).1.toList)&&B7 x (i+1) k
theorem uH (n:Int):decide (n>20)=!decide (n<=20):=by
 by_cases h:n<=20<;>simp [h]
 omega
theorem ZS {i:Nat} (h:i<9223372036854775807) (h0:0<i):IntKind.i64.wrap ((i:Int)-1)=((i-1:Nat):Int):=by
 rw [AZ (by omega)]
 omega
theorem H_ (x) (h:x.length<=maxLen):DJ x=some (B7 x 0 x.length):=m6 (by
 have hm:x.length<=9223372036854775807:=h
 unfold Y0
 have:=GJ (n:=x.length) (P:=fun i=>F8 x (i:Int)=some (B7 x i (x.length-i))) (SD (by
  unfold MK
  rw [if_neg (by simp),Nat.sub_self]
  rfl)) (fun i hi ih=>SD (by
  unfold MK
  have e:x.length-i=(x.length-(i+1))+1:=by omega
  simp only [show ((i:Int)<(x.length:Int)) from by omega,decide_true,if_true,show (0:Int)<=(i:Int) from by omega,Int.toNat_natCast,AO (show i<9223372036854775807 by omega),ih,BK,X,uH]
  rw [e,B7,I1]
  generalize (decide (1<=((x.getD i (ByteArray.empty,ByteArray.empty,0)).1.size:Int))&&decide (((x.getD i (ByteArray.empty,ByteArray.empty,0)).1.size:Int)<=12))=a
  generalize decide (((x.getD i (ByteArray.empty,ByteArray.empty,0)).2.1.size:Int)<=20)=b
  generalize (decide (1<=(x.getD i (ByteArray.empty,ByteArray.empty,0)).2.2)&&decide ((x.getD i (ByteArray.empty,ByteArray.empty,0)).2.2<=1000000000))=c
  cases a
  ·simp
  cases b
  ·simp
  cases c
  ·simp
  by_cases h0:0<i
  ·rw [ZS (by omega) h0]
   simp only [Int.toNat_natCast,show ((0:Int)<=((i-1:Nat):Int)) from by omega,show (((i-1:Nat):Int)<(x.length:Int)) from by omega,if_true]
   rcases Bool.eq_false_or_eq_true (Op.bytesLess (x.getD (i-1) (ByteArray.empty,ByteArray.empty,0)).1.toList (x.getD i (ByteArray.empty,ByteArray.empty,0)).1.toList) with hb | hb<;>simp only [hb]<;>simp [h0,show i≠0 by omega]
  ·have:i=0:=by omega
   subst this
   simp)) 0 (by omega)
 simpa using this)
theorem ML (x) (h:x.length<=maxLen) (hl:∀ a b:List UInt8,(Op.bytesLess a b||a==b)=!Op.bytesLess b a):FD x=some (B7 x 0 x.length):=mW (by
 have hm:x.length<=9223372036854775807:=h
 unfold YY
 have:=GJ (n:=x.length) (P:=fun i=>F0 x x (x.length:Int) (i:Int)=some (B7 x i (x.length-i))) (Rn (by
  unfold Lv
  rw [if_neg (by simp),Nat.sub_self]
  rfl)) (fun i hi ih=>Rn (by
  unfold Lv
  have e:x.length-i=(x.length-(i+1))+1:=by omega
  simp only [show ((i:Int)<(x.length:Int)) from by omega,decide_true,if_true,show (0:Int)<=(i:Int) from by omega,Int.toNat_natCast,AO (show i<9223372036854775807 by omega),ih,Ao,Oe,X,uH,hl]
  rw [e,B7,I1]
  generalize (decide (1<=((x.getD i (ByteArray.empty,ByteArray.empty,0)).1.size:Int))&&decide (((x.getD i (ByteArray.empty,ByteArray.empty,0)).1.size:Int)<=12))=a
  generalize decide (((x.getD i (ByteArray.empty,ByteArray.empty,0)).2.1.size:Int)<=20)=b
  generalize (decide (1<=(x.getD i (ByteArray.empty,ByteArray.empty,0)).2.2)&&decide ((x.getD i (ByteArray.empty,ByteArray.empty,0)).2.2<=1000000000))=c
  cases a
  ·simp
  cases b
  ·simp
  cases c
  ·simp
  by_cases h0:0<i
  ·rw [ZS (by omega) h0]
   simp only [Int.toNat_natCast,show ((0:Int)<=((i-1:Nat):Int)) from by omega,show (((i-1:Nat):Int)<(x.length:Int)) from by omega,if_true]
   rcases Bool.eq_false_or_eq_true (Op.bytesLess (x.getD (i-1) (ByteArray.empty,ByteArray.empty,0)).1.toList (x.getD i (ByteArray.empty,ByteArray.empty,0)).1.toList) with hb | hb<;>simp only [hb]<;>simp [h0,show i≠0 by omega]
  ·have:i=0:=by omega
   subst this
   simp)) 0 (by omega)
 simpa using this)
theorem N0:∀ a b:List UInt8,(Op.bytesLess a b||a==b)=!Op.bytesLess b a
 | [],[]=>rfl
 | [],_::_=>rfl
 | _::_,[]=>rfl
 | a::l,b::m=>by
  have ih:=N0 l m
  simp only [Op.bytesLess]
  by_cases h1:a<b
  ·have h2:¬ b<a:=by exact UInt8.not_lt.2 (UInt8.le_of_lt h1)
   have h3:¬ b=a:=fun h=>by subst h; exact absurd h1 (UInt8.lt_irrefl _)
   simp [h1,h2,h3]
  ·by_cases h2:b<a
   ·have h3:¬ a=b:=fun h=>by subst h; exact absurd h2 (UInt8.lt_irrefl _)
    simp [h1,h2,h3]
   ·have h3:a=b:=UInt8.le_antisymm (UInt8.not_lt.1 h2) (UInt8.not_lt.1 h1)
    subst h3
    simpa [h1] using ih

abbrev AM:Type:=ByteArray×ByteArray×Int
abbrev m_:AM:=(ByteArray.empty,ByteArray.empty,(0:Int))
theorem ZT:∀ a:List UInt8,Op.bytesLess a a=false
 | []=>rfl
 | a::l=>by simp [Op.bytesLess,ZT l,UInt8.lt_irrefl]
theorem Y5:∀ {a b c:List UInt8},Op.bytesLess a b=true->Op.bytesLess b c=true->Op.bytesLess a c=true
 | _,[],_,h,_=>by cases ‹List UInt8› <;> simp [Op.bytesLess] at h
 | _,_::_,[],_,h=>by simp [Op.bytesLess] at h
 | [],_::_,_::_,_,_=>rfl
 | a::x,b::y,c::z,h,g=>by
  simp only [Op.bytesLess,Bool.or_eq_true,decide_eq_true_eq,Bool.and_eq_true,beq_iff_eq] at h g ⊢
  rcases h with h | ⟨rfl,h⟩
  ·rcases g with g | ⟨rfl,g⟩
   ·exact .inl (UInt8.lt_trans h g)
   ·exact .inl h
  ·rcases g with g | ⟨rfl,g⟩
   ·exact .inl g
   ·exact .inr ⟨rfl,Y5 h g⟩
theorem nA:∀ a b:List UInt8,decide (Lib.compareBytes a b<0)=Op.bytesLess a b/\(Lib.compareBytes a b==0)=(a==b)
 | [],[]=>⟨rfl,rfl⟩
 | [],_::_=>⟨rfl,rfl⟩
 | _::_,[]=>⟨rfl,rfl⟩
 | a::l,b::m=>by
  have ih:=nA l m
  simp only [Lib.compareBytes,Op.bytesLess]
  by_cases h1:a<b
  ·have h3:¬ a=b:=fun h=>by subst h; exact absurd h1 (UInt8.lt_irrefl _)
   simp [h1,h3]
  ·by_cases h2:b<a
   ·have h3:¬ a=b:=fun h=>by subst h; exact absurd h2 (UInt8.lt_irrefl _)
    simp [h1,h2,h3]
   ·have h3:a=b:=UInt8.le_antisymm (UInt8.not_lt.1 h2) (UInt8.not_lt.1 h1)
    subst h3
    simpa [h1] using ih
theorem PH (a:AM) (k:ByteArray):Is a k=some (Lib.compareBytes a.1.toList k.toList):=gz (by
 unfold Tz
 rw [cn,ByteArray.toList_eq,ByteArray.toList_eq]
 rfl)
def T2 (x:List AM) (i:Nat) (k:ByteArray):Bool:=match x[i]? with
 | some b=>b.1.toList==k.toList
 | none=>false
def Sf (k:ByteArray) (b:AM):Bool:=Op.bytesLess b.1.toList k.toList
def Ju (x:List AM):Prop:=∀ a b (ha:a<x.length) (hb:b<x.length),a<b->Op.bytesLess x[a].1.toList x[b].1.toList=true
def iS (x:List AM) (k:ByteArray) (i j:Nat):Prop:=∀ a (ha:a<x.length),(a<i->Sf k x[a]=true)/\(j<=a->Sf k x[a]=false)
theorem yH {i j:Nat} (h:i+j<=137438953472):IntKind.i64.wrap (Int.fdiv (IntKind.u64.wrap (IntKind.i64.wrap ((i:Int)+(j:Int)))) (2^(min (1:Int).toNat (IntKind.bits .u64))))=(((i+j) / 2:Nat):Int):=by
 have e1:IntKind.i64.wrap ((i:Int)+(j:Int))=((i+j:Nat):Int):=by rw [AZ (by omega)]; omega
 have e2:IntKind.u64.wrap ((i+j:Nat):Int)=((i+j:Nat):Int):=by
  simp only [IntKind.wrap,IntKind.bits,IntKind.signed]
  simp
  omega
 have e3:(2:Int)^(min (1:Int).toNat (IntKind.bits .u64))=2:=by decide
 rw [e1,e2,e3,Int.fdiv_eq_ediv_of_nonneg _ (by omega)]
 rw [AZ (by omega)]
 omega
theorem rT (x:List AM) (k:ByteArray) (hx:x.length<=68719476736):∀ (m i j:Nat),j-i<=m->i<=j->j<=x.length ->
  ∃ r:Nat,i<=r/\r<=j/\AL x k (x.length:Int) (i:Int) (j:Int)=some ((r:Int),T2 x r k)/\(Ju x->iS x k i j->iS x k r r):=by
 intro m
 induction m with
 | zero =>
  intro i j hm hij hj
  have:i=j:=by omega
  subst this
  refine ⟨i,Nat.le_refl _,Nat.le_refl _,CC ?_,fun _ h=>h⟩
  unfold BG
  rw [if_neg (by simp)]
  refine EB ?_
  unfold CB T2
  by_cases h:i<x.length
  ·simp only [show ((i:Int)<(x.length:Int)) from by omega,decide_true,if_true,show (0:Int)<=(i:Int) from by omega,Int.toNat_natCast,AR h,PH,X,(nA _ _).2,List.getElem?_eq_getElem h]
  ·rw [if_neg (by simp; omega),List.getElem?_eq_none (by omega)]
 | succ m ih =>
  intro i j hm hij hj
  by_cases hlt:i<j
  ·have hmid:i<=(i+j) / 2/\(i+j) / 2<j:=by omega
   generalize hh:(i+j) / 2=h at hmid
   have hb:h<x.length:=by omega
   have step:∀ r,(if Sf k x[h]=true then AL x k (x.length:Int) ((h+1:Nat):Int) (j:Int) else AL x k (x.length:Int) (i:Int) (h:Int))=some r->AL x k (x.length:Int) (i:Int) (j:Int)=some r:=fun r hr=>CC (by
    unfold BG
    simp only [show ((i:Int)<(j:Int)) from by omega,decide_true,if_true,yH (show i+j<=137438953472 by omega),hh,show ¬ ((1:Int)<0) from by decide,if_false,show ((0:Int)<=(h:Int)) from by omega,show ((h:Int)<(x.length:Int)) from by omega,Int.toNat_natCast,AR hb,PH,X,(nA _ _).1,AO (show h<9223372036854775807 by omega)]
    exact hr)
   cases hl:Sf k x[h] with
   | true =>
    obtain ⟨r,h1,h2,h3,h4⟩:=ih (h+1) j (by omega) (by omega) hj
    refine ⟨r,by omega,h2,step _ (by rw [hl]; exact h3),fun ho hc=>h4 ho fun a ha=>⟨fun hlt=>?_,(hc a ha).2⟩⟩
    by_cases e:a=h
    ·subst e; exact hl
    ·exact Y5 (ho a h ha hb (by omega)) hl
   | false =>
    obtain ⟨r,h1,h2,h3,h4⟩:=ih i h (by omega) hmid.1 (by omega)
    refine ⟨r,h1,by omega,step _ (by rw [hl]; exact h3),fun ho hc=>h4 ho fun a ha=>⟨(hc a ha).1,fun hle=>?_⟩⟩
    by_cases e:a=h
    ·subst e; exact hl
    ·cases q:Sf k x[a] with
     | false=>rfl
     | true =>
      have:=Y5 (ho h a hb ha (by omega)) q
      rw [show Op.bytesLess x[h].1.toList k.toList=false from hl] at this
      cases this
  ·have:i=j:=by omega
   subst this
   exact ih i i (by omega) (Nat.le_refl _) hj
theorem uI (x:List AM) (k:ByteArray) (hx:x.length<=68719476736):∃ r:Nat,r<=x.length/\BO x k ()=some ((r:Int),T2 x r k)/\(Ju x->iS x k r r):=by
 obtain ⟨r,_,h2,h3,h4⟩:=rT x k hx x.length 0 x.length (by omega) (by omega) (Nat.le_refl _)
 refine ⟨r,h2,En (by unfold CM; exact h3),fun ho=>h4 ho fun a ha=>⟨fun h=>by omega,fun h=>by omega⟩⟩
theorem Y6 {x:List AM}:∀ (m i:Nat),B7 x i m=true->∀ a,i<=a->a<i+m->a≠0->Op.bytesLess (x.getD (a-1) m_).1.toList (x.getD a m_).1.toList=true
 | 0,i,_,a,h1,h2,_=>by omega
 | m+1,i,h,a,h1,h2,h0=>by
  simp only [B7,Bool.and_eq_true,Bool.or_eq_true,decide_eq_true_eq] at h
  obtain ⟨⟨_,h3⟩,h4⟩:=h
  by_cases e:a=i
  ·subst e
   exact h3.resolve_left h0
  ·exact Y6 m (i+1) h4 a (by omega) (by omega) h0
theorem Y7 {x:List AM} (h:B7 x 0 x.length=true):Ju x:=by
 have st:=Y6 _ _ h
 have:∀ d a (ha:a+d+1<x.length),Op.bytesLess (x.getD a m_).1.toList (x.getD (a+d+1) m_).1.toList=true:=by
  intro d
  induction d with
  | zero=>intro a ha; exact st (a+1) (by omega) (by omega) (by omega)
  | succ d ih =>
   intro a ha
   exact Y5 (ih a (by omega)) (st (a+(d+1)+1) (by omega) (by omega) (by omega))
 intro a b ha hb hab
 have:=this (b-a-1) a (by omega)
 rw [show a+(b-a-1)+1=b by omega,AR ha,AR hb] at this
 exact this
theorem rU {x:List AM} {k:ByteArray} {r:Nat} (hr:r<=x.length) (h:iS x k r r):x.take r=x.filter (Sf k)/\x.drop r=x.filter (fun b=>!Sf k b):=by
 have e1:(x.take r).filter (Sf k)=x.take r:=List.filter_eq_self.2 fun b hb=>by
  obtain ⟨a,ha,rfl⟩:=List.getElem_of_mem hb
  rw [List.length_take] at ha
  rw [List.getElem_take]
  exact (h a (by omega)).1 (by omega)
 have e2:(x.drop r).filter (Sf k)=[]:=List.filter_eq_nil_iff.2 fun b hb=>by
  obtain ⟨a,ha,rfl⟩:=List.getElem_of_mem hb
  rw [List.length_drop] at ha
  rw [List.getElem_drop]
  have:=(h (r+a) (by omega)).2 (by omega)
  simp [this]
 have e3:(x.take r).filter (fun b=>!Sf k b)=[]:=List.filter_eq_nil_iff.2 fun b hb=>by
  obtain ⟨a,ha,rfl⟩:=List.getElem_of_mem hb
  rw [List.length_take] at ha
  rw [List.getElem_take]
  have:=(h a (by omega)).1 (by omega)
  simp [this]
 have e4:(x.drop r).filter (fun b=>!Sf k b)=x.drop r:=List.filter_eq_self.2 fun b hb=>by
  obtain ⟨a,ha,rfl⟩:=List.getElem_of_mem hb
  rw [List.length_drop] at ha
  rw [List.getElem_drop]
  have:=(h (r+a) (by omega)).2 (by omega)
  simp [this]
 have f1:x.filter (Sf k)=(x.take r).filter (Sf k)++(x.drop r).filter (Sf k):=by rw [<- List.filter_append,List.take_append_drop]
 have f2:x.filter (fun b=>!Sf k b)=(x.take r).filter (fun b=>!Sf k b)++(x.drop r).filter (fun b=>!Sf k b):=by rw [<- List.filter_append,List.take_append_drop]
 rw [f1,f2,e1,e2,e3,e4]
 simp
theorem sR {x:List AM} {k:ByteArray} {r:Nat} (ho:Ju x) (h:iS x k r r) (j:Nat) (hj:j<x.length) (e:x[j].1.toList=k.toList):j=r:=by
 rcases Nat.lt_trichotomy j r with g | g | g
 ·have:=(h j hj).1 g
  simp only [Sf,e,ZT] at this
  cases this
 ·exact g
 ·have h1:=ho r j (by omega) hj g
  have h2:=(h r (by omega)).2 (Nat.le_refl _)
  rw [e] at h1
  rw [show Sf k x[r]=true from h1] at h2
  cases h2
def XD (x:List AM) (a:AM):Bool:=x.any fun b=>(b.1.toList==a.1.toList)&&decide (b.2.2>=a.2.2)
def Of (k:ByteArray) (b:AM):Bool:=!(Op.bytesLess b.1.toList k.toList||(b.1.toList==k.toList))
def Ql (x:List AM) (a:AM):List AM:=x.filter (Sf a.1)++[a]++x.filter (Of a.1)
def Ap (x:List AM):Bool:=B7 x 0 x.length
def Aj (x:List AM) (a:AM):List AM:=if XD x a=true then x else if Ap x=true then (if Ap (Ql x a)=true then Ql x a else x) else x
theorem sS {x:List AM} {k:ByteArray} {r:Nat} (hr:r<=x.length) (h:iS x k r r):x.filter (Of k)=(x.drop r).filter fun b=>!(b.1.toList==k.toList):=by
 rw [(rU hr h).2,List.filter_filter]
 congr 1
 funext b
 simp only [Of,Sf,Bool.not_or]
 exact Bool.and_comm _ _
theorem MM (x:List AM) (a:AM) (hx:x.length<=34359738367):IR x a=some (Aj x a):=mx (by
 have J4:∀ same out:List AM,out.length<=maxLen->ME x a same out=some (if Ap x=true then (if Ap out=true then out else same) else same):=fun same out ho=>eA (by
  unfold R8 Ap
  rw [H_ x (by unfold maxLen; omega),H_ out ho]
  cases B7 x 0 x.length<;>cases B7 out 0 out.length<;>simp)
 have L3:∀ same out:List AM,out.length<=x.length+1->EH x ((0:Nat):Int) a same out=some (if Ap x=true then (if Ap (out++(x.drop 0).filter (Of a.1))=true then out++(x.drop 0).filter (Of a.1) else same) else same):=by
  intro same out ho
  refine GJ (n:=x.length) (P:=fun i=>∀ out:List AM,out.length<=x.length+1+i->EH x (i:Int) a same out=some (if Ap x=true then (if Ap (out++(x.drop i).filter (Of a.1))=true then out++(x.drop i).filter (Of a.1) else same) else same)) (fun out ho=>R_ ?_) (fun i hi ih out ho=>R_ ?_) 0 (by omega) out ho
  ·unfold MG
   rw [if_neg (by simp),J4 same out (by unfold maxLen; omega)]
   simp
  ·unfold MG
   simp only [show ((i:Int)<(x.length:Int)) from by omega,decide_true,if_true,show (0:Int)<=(i:Int) from by omega,Int.toNat_natCast,AR hi,AO (show i<9223372036854775807 by omega)]
   rw [BZ hi,List.filter_cons]
   change (if Of a.1 x[i]=true then _ else _)=_
   by_cases hh:Of a.1 x[i]=true
   ·rw [if_pos hh,if_pos (by simp; omega),ih _ (by simp; omega),if_pos hh,List.append_assoc]
    rfl
   ·rw [if_neg hh,ih _ (by omega),if_neg hh]
 have J2:∀ same out:List AM,out.length<=x.length->MF x a same out=some (if Ap x=true then (if Ap (out++[a]++x.filter (Of a.1))=true then out++[a]++x.filter (Of a.1) else same) else same):=fun same out ho=>eB (by
  unfold R9
  rw [if_pos (by simp; omega)]
  have:=L3 same (out++[a]) (by simp; omega)
  simpa using this)
 have L0:∀ same:List AM,EI x ((0:Nat):Int) a same []=some (if XD (x.drop 0) a=true then same else if Ap x=true then (if Ap (([]++(x.drop 0).filter (Sf a.1))++[a]++x.filter (Of a.1))=true then ([]++(x.drop 0).filter (Sf a.1))++[a]++x.filter (Of a.1) else same) else same):=by
  intro same
  refine GJ (n:=x.length) (P:=fun i=>∀ out:List AM,out.length<=i->EI x (i:Int) a same out=some (if XD (x.drop i) a=true then same else if Ap x=true then (if Ap ((out++(x.drop i).filter (Sf a.1))++[a]++x.filter (Of a.1))=true then (out++(x.drop i).filter (Sf a.1))++[a]++x.filter (Of a.1) else same) else same)) (fun out ho=>SA ?_) (fun i hi ih out ho=>SA ?_) 0 (by omega) [] (by simp)
  ·unfold MH
   rw [if_neg (by simp),J2 same out ho]
   simp [XD]
  ·unfold MH
   simp only [show ((i:Int)<(x.length:Int)) from by omega,decide_true,if_true,show (0:Int)<=(i:Int) from by omega,Int.toNat_natCast,AR hi]
   have J1:∀ out:List AM,out.length<=i+1->H6 x (i:Int) a same out=some (if XD (x.drop i) a=true then same else if Ap x=true then (if Ap ((out++(x.drop (i+1)).filter (Sf a.1))++[a]++x.filter (Of a.1))=true then (out++(x.drop (i+1)).filter (Sf a.1))++[a]++x.filter (Of a.1) else same) else same):=fun out ho=>d_ (by
    unfold R7
    simp only [show ((i:Int)<(x.length:Int)) from by omega,decide_true,if_true,show (0:Int)<=(i:Int) from by omega,Int.toNat_natCast,AR hi,AO (show i<9223372036854775807 by omega),ih out ho]
    rw [BZ hi]
    rw [show XD (x[i]::x.drop (i+1)) a=(((x[i].1.toList==a.1.toList)&&decide (x[i].2.2>=a.2.2))||XD (x.drop (i+1)) a) from List.any_cons]
    generalize (x[i].1.toList==a.1.toList)=p
    generalize decide (x[i].2.2>=a.2.2)=q
    cases p<;>cases q<;>simp)
   rw [BZ hi,List.filter_cons]
   change (if Sf a.1 x[i]=true then _ else _)=_
   rw [BZ hi] at J1
   by_cases hh:Sf a.1 x[i]=true
   ·rw [if_pos hh,if_pos (by simp; omega),J1 _ (by simp; omega),if_pos hh]
    simp only [List.append_assoc,List.cons_append,List.nil_append]
   ·rw [if_neg hh,J1 _ (by omega),if_neg hh]
 unfold Yu
 rw [if_pos (by simp; omega)]
 have:=L0 ([]++x)
 simpa [Aj,Ql] using this)
theorem vT {x:List AM} {a:AM} {r:Nat} (hr:r<=x.length) (ho:Ju x) (h:iS x a.1 r r):XD x a=(T2 x r a.1&&decide ((x.getD r m_).2.2>=a.2.2)):=by
 unfold XD T2
 by_cases hl:r<x.length
 ·rw [List.getElem?_eq_getElem hl,AR hl]
  rw [Bool.eq_iff_iff,List.any_eq_true]
  simp only [Bool.and_eq_true,beq_iff_eq,decide_eq_true_eq]
  refine ⟨fun ⟨b,hb,e,hv⟩=>?_,fun ⟨e,hv⟩=>⟨_,List.getElem_mem hl,e,hv⟩⟩
  obtain ⟨j,hj,rfl⟩:=List.getElem_of_mem hb
  have:=sR ho h j hj e
  subst this
  exact ⟨e,hv⟩
 ·rw [List.getElem?_eq_none (by omega),Bool.false_and,List.any_eq_false]
  intro b hb
  obtain ⟨j,hj,rfl⟩:=List.getElem_of_mem hb
  intro hc
  simp only [Bool.and_eq_true,beq_iff_eq] at hc
  have:=sR ho h j hj hc.1
  omega
theorem xI {x:List AM} {a:AM} {r:Nat} (hr:r<=x.length) (ho:Ju x) (h:iS x a.1 r r):Ql x a=if T2 x r a.1=true then x.set r a else x.take r++[a]++x.drop r:=by
 unfold Ql
 rw [sS hr h,<- (rU hr h).1]
 have hk:∀ (j:Nat) (hj:j<x.length),j≠r->(x[j].1.toList==a.1.toList)=false:=fun j hj hne=>by
  cases q:(x[j].1.toList==a.1.toList) with
  | false=>rfl
  | true=>exact absurd (sR ho h j hj (by simpa using q)) hne
 have tail:(x.drop (r+1)).filter (fun b=>!(b.1.toList==a.1.toList))=x.drop (r+1):=List.filter_eq_self.2 fun b hb=>by
  obtain ⟨j,hj,rfl⟩:=List.getElem_of_mem hb
  rw [List.length_drop] at hj
  rw [List.getElem_drop,hk (r+1+j) (by omega) (by omega)]
  rfl
 by_cases hl:r<x.length
 ·rw [BZ hl,List.filter_cons,tail]
  unfold T2
  rw [List.getElem?_eq_getElem hl]
  cases q:(x[r].1.toList==a.1.toList) with
  | true=>simp [q,List.set_eq_take_append_cons_drop,hl]
  | false=>simp [q]
 ·have:x.drop r=[]:=List.drop_eq_nil_of_le (by omega)
  rw [this]
  unfold T2
  rw [List.getElem?_eq_none (by omega)]
  simp
theorem SG (x:List AM) (a:AM) (hx:x.length<=34359738367):Lh x a=some (Aj x a):=m5 (by
 obtain ⟨r,hr,hs,hc⟩:=uI x a.1 (by omega)
 have ok:∀ y:List AM,y.length<=68719476736->FD y=some (Ap y):=fun y hy=>ML y (by unfold maxLen; omega) N0
 have J1:∀ y:List AM,y.length<=68719476736->H8 x a y=some (if Ap y=true then y else x):=fun y hy=>eD (by
  unfold SB
  rw [ok y hy,A_ (by omega)]
  cases Ap y<;>simp)
 have hl:T2 x r a.1=true->r<x.length:=fun h=>by
  by_cases hl:r<x.length
  ·exact hl
  ·unfold T2 at h
   rw [List.getElem?_eq_none (by omega)] at h
   cases h
 have J0:∀ b,Ap x=true->H9 x (r:Int) (T2 x r a.1) b a x=some (if Ap (Ql x a)=true then Ql x a else x):=fun b hok=>eE (by
  unfold SC
  rw [xI hr (Y7 hok) (hc (Y7 hok))]
  cases hh:T2 x r a.1 with
  | true =>
   have:=hl hh
   simp only [if_true,show (0:Int)<=(r:Int) from by omega,show ((r:Int)<(x.length:Int)) from by omega,Int.toNat_natCast]
   rw [J1 _ (by simp; omega)]
  | false =>
   rw [if_neg (by simp),JT (by simp; omega) hr (by simp),X,J1 _ (by simp; omega)]
   simp)
 unfold Yz
 rw [A_ (by omega),X,hs,X,ok x (by omega),X]
 cases hok:Ap x with
 | false=>simp [Aj,hok]
 | true =>
  have hst:=vT hr (Y7 hok) (hc (Y7 hok))
  have j0:=J0
  unfold Aj
  rw [hst,hok]
  cases hh:T2 x r a.1 with
  | false =>
   have:=J0 false hok
   rw [hh] at this
   simp [this]
  | true =>
   have hlr:=hl hh
   have:=J0 false hok
   rw [hh] at this
   simp only [if_true,show (0:Int)<=(r:Int) from by omega,show ((r:Int)<(x.length:Int)) from by omega,Int.toNat_natCast,Bool.true_and]
   cases q:decide ((x.getD r m_).2.2>=a.2.2) with
   | true=>simp
   | false=>simp [this])

abbrev N1:Type:=List Int×Int×Int
def XE (d:N1):Prop:=0<=d.2.1/\d.1.length<=maxLen
theorem iT (a:Int):0<=Kv .i64 a 255/\Kv .i64 a 255<=255:=by
 unfold Kv
 have h:(BitVec.ofInt (IntKind.bits .i64) a &&& BitVec.ofInt (IntKind.bits .i64) 255).toNat<=255:=by
  rw [BitVec.toNat_and]
  refine Nat.le_trans Nat.and_le_right ?_
  decide
 rw [AZ (by omega)]
 omega
theorem F_ (d:N1) (h:XE d):∃ b d',FE d=some (b,d')/\XE d'/\0<=b/\b<=255:=by
 have hm:d.1.length<=9223372036854775807:=h.2
 have hp:=h.1
 suffices g:∃ b d',QT d=some (b,d')/\XE d'/\0<=b/\b<=255 from g.imp fun b g=>g.imp fun d' g=>⟨mZ g.1,g.2⟩
 unfold QT
 rw [if_neg (by omega),if_neg (by omega)]
 by_cases h1:d.2.1<(d.1.length:Int)
 ·rw [if_pos (by simpa using h1),if_pos hp,if_pos h1]
  refine ⟨_,_,rfl,⟨?_,h.2⟩,iT _⟩
  show 0<=IntKind.i64.wrap (d.2.1+1)
  rw [AZ (by omega)]
  omega
 ·rw [if_neg (by simpa using h1)]
  exact ⟨_,_,rfl,h,iT _⟩
theorem Bj (n:Int) (d:N1) (h:XE d):∃ v d',CT n d=some (v,d')/\XE d'/\0<=v/\(0<n->v<n):=by
 suffices g:∃ b d',OU n d=some (b,d')/\XE d'/\0<=b/\(0<n->b<n) from g.imp fun b g=>g.imp fun d' g=>⟨jM g.1,g.2⟩
 unfold OU
 by_cases h1:n<=0
 ·exact ⟨0,d,by rw [if_pos (by simpa using h1)],h,by omega,by omega⟩
 ·rw [if_neg (by simpa using h1)]
  by_cases h2:n<=256
  ·obtain ⟨b,d1,e1,k1,b0,b1⟩:=F_ d h
   refine ⟨_,_,by rw [if_pos (by simpa using h2),e1,X,if_neg (by omega)],k1,Int.tmod_nonneg _ b0,fun _=>Int.tmod_lt_of_pos _ (by omega)⟩
  ·obtain ⟨b1,d1,e1,k1,b10,b11⟩:=F_ d h
   obtain ⟨b2,d2,e2,k2,b20,b21⟩:=F_ d1 k1
   obtain ⟨b3,d3,e3,k3,b30,b31⟩:=F_ d2 k2
   obtain ⟨b4,d4,e4,k4,b40,b41⟩:=F_ d3 k3
   refine ⟨_,_,by rw [if_neg (by simpa using h2),e1,X,e2,X,e3,X,e4,X,if_neg (by omega)],k4,Int.tmod_nonneg _ ?_,fun _=>Int.tmod_lt_of_pos _ (by omega)⟩
   rw [AZ (n:=b1*16777216) (by omega),AZ (n:=b2*65536) (by omega),AZ (n:=b3*256) (by omega),AZ (n:=b1*16777216+b2*65536) (by omega),AZ (n:=b1*16777216+b2*65536+b3*256) (by omega),AZ (by omega)]
   omega
theorem IC (n:Int) (d:N1) (h:XE d):∃ v d',DH n d=some (v,d')/\XE d':=by
 obtain ⟨v,d',e,k,_⟩:=Bj n d h
 exact ⟨_,_,mh (by unfold Yn; rw [e,X]),k⟩
theorem N2 (x:List Int) (hx:0<x.length) (d:N1) (h:XE d):∃ v d',Hq x d=some (v,d')/\XE d'/\v∈x:=by
 obtain ⟨v,d',e,k,v0,v1⟩:=Bj (x.length:Int) d h
 have v1:=v1 (by omega)
 have hv:v.toNat<x.length:=by omega
 exact ⟨_,_,dj (by unfold Rz; rw [e,X,if_pos v0,if_pos v1]),k,by rw [AR hv]; exact List.getElem_mem hv⟩
theorem g7 (x:List Int) (h:x.length<=maxLen):∃ d,SP x=some d/\XE d:=by
 have hm:x.length<=9223372036854775807:=h
 have key:=GJ (n:=x.length) (P:=fun i=>∀ a,∃ d,It x a (i:Int)=some d/\XE d) (fun a=>⟨(x,0,a),M0 (by
  unfold Iu
  rw [if_neg (by simp)]),⟨Int.le_refl _,h⟩⟩) (fun i hi ih a=>by
  by_cases h4:(i:Int)<4000
  ·obtain ⟨d,e,k⟩:=ih (Kv .i64 (IntKind.i64.wrap ((IntKind.i64.wrap ((IntKind.i64.wrap (a*(131:Int)))+(IntKind.i64.wrap (x.getD (i:Int).toNat (0:Int)))))+(7:Int))) (1073741823:Int))
   refine ⟨d,M0 ?_,k⟩
   unfold Iu
   rw [if_pos (by simpa using hi),if_pos (by simpa using h4)]
   refine fq ?_
   unfold TP
   rw [if_pos (by omega),if_pos (by omega),AO (show i<9223372036854775807 by omega)]
   exact e
  ·refine ⟨(x,0,a),M0 ?_,⟨Int.le_refl _,h⟩⟩
   unfold Iu
   rw [if_pos (by simpa using hi),if_neg (by simpa using h4)]) 0 (by omega)
 obtain ⟨d,e,k⟩:=key (IntKind.i64.wrap ((14301:Int)+(x.length:Int)))
 exact ⟨d,n5 e,k⟩

theorem Sb {x:List AM}:∀ (m i:Nat),i+m=x.length->(B7 x i m=true↔(∀ a (ha:a<x.length),i<=a->I1 x[a]=true/\(a≠0->Op.bytesLess (x.getD (a-1) m_).1.toList x[a].1.toList=true))/\x.length<=12)
 | 0,i,h=>by
  simp only [B7,decide_eq_true_eq]
  refine ⟨fun h2=>⟨fun a ha hi=>by omega,by omega⟩,fun h2=>by have:=h2.2; omega⟩
 | m+1,i,h=>by
  have hi:i<x.length:=by omega
  rw [B7,Bool.and_eq_true,Bool.and_eq_true,Sb m (i+1) (by omega),AR hi]
  simp only [Bool.or_eq_true,decide_eq_true_eq]
  constructor
  ·rintro ⟨⟨h1,h2⟩,h3,h4⟩
   refine ⟨fun a ha hia=>?_,h4⟩
   by_cases e:a=i
   ·subst e
    exact ⟨h1,fun h0=>h2.resolve_left h0⟩
   ·exact h3 a ha (by omega)
  ·rintro ⟨h3,h4⟩
   refine ⟨⟨(h3 i hi (Nat.le_refl _)).1,?_⟩,fun a ha hia=>h3 a ha (by omega),h4⟩
   by_cases e:i=0
   ·exact .inl e
   ·exact .inr ((h3 i hi (Nat.le_refl _)).2 e)
theorem Cm {x:List AM}:Ap x=true↔(∀ b∈x,I1 b=true)/\Ju x/\x.length<=12:=by
 constructor
 ·intro h
  have h1:=(Sb x.length 0 (by omega)).1 h
  refine ⟨fun b hb=>?_,Y7 h,h1.2⟩
  obtain ⟨a,ha,rfl⟩:=List.getElem_of_mem hb
  exact (h1.1 a ha (Nat.zero_le _)).1
 ·rintro ⟨h1,h2,h3⟩
  refine (Sb x.length 0 (by omega)).2 ⟨fun a ha _=>⟨h1 _ (List.getElem_mem ha),fun h0=>?_⟩,h3⟩
  rw [AR (show a-1<x.length by omega)]
  exact h2 (a-1) a (by omega) ha (by omega)
theorem ol {x:List AM}:Ju x↔x.Pairwise fun b c=>Op.bytesLess b.1.toList c.1.toList=true:=by
 rw [List.pairwise_iff_getElem]
 rfl
theorem bW {x:List AM} (a:AM) (h:Ju x):Ju (Ql x a):=by
 rw [ol] at h ⊢
 have lo:∀ b∈x.filter (Sf a.1),Op.bytesLess b.1.toList a.1.toList=true:=fun b hb=>(List.mem_filter.1 hb).2
 have hg:∀ b∈x.filter (Of a.1),Op.bytesLess a.1.toList b.1.toList=true:=fun b hb=>by
  have:=(List.mem_filter.1 hb).2
  rw [Of,N0] at this
  simpa using this
 unfold Ql
 rw [List.pairwise_append,List.pairwise_append]
 refine ⟨⟨h.filter _,List.pairwise_singleton _ _,fun b hb c hc=>?_⟩,h.filter _,fun b hb c hc=>?_⟩
 ·rw [List.mem_singleton] at hc
  subst hc
  exact lo b hb
 ·rcases List.mem_append.1 hb with hb | hb
  ·exact Y5 (lo b hb) (hg c hc)
  ·rw [List.mem_singleton] at hb
   subst hb
   exact hg c hc
theorem vU (x:List AM) (a:AM):(Ql x a).length<=x.length+1:=by
 have h1:(x.filter (Of a.1)).length<=(x.filter fun b=>!Sf a.1 b).length:=by
  rw [<- List.countP_eq_length_filter,<- List.countP_eq_length_filter]
  refine List.countP_mono_left fun b _ hb=>?_
  simp only [Of,Sf,Bool.not_eq_true',Bool.or_eq_false_iff] at hb ⊢
  exact hb.1
 have h2:(x.filter (Sf a.1)).length+(x.filter fun b=>!Sf a.1 b).length=x.length:=by
  rw [<- List.countP_eq_length_filter,<- List.countP_eq_length_filter]
  have:=List.length_eq_countP_add_countP (Sf a.1) (l:=x)
  rw [this]
  congr 2
  funext b
  cases Sf a.1 b<;>rfl
 simp only [Ql,List.length_append,List.length_cons,List.length_nil]
 omega
theorem nB {x:List AM} {a:AM}:a∈Ql x a:=by simp [Ql]
theorem rV {x:List AM} {a b:AM} (h:b∈Ql x a):b=a\/b∈x:=by
 simp only [Ql,List.mem_append,List.mem_filter,List.mem_singleton] at h
 rcases h with (h | h) | h
 ·exact .inr h.1
 ·exact .inl h
 ·exact .inr h.1
theorem sU {x:List AM} {a b:AM} (h:b∈x) (hk:(b.1.toList==a.1.toList)=false):b∈Ql x a:=by
 simp only [Ql,List.mem_append,List.mem_filter,List.mem_singleton]
 cases q:Sf a.1 b with
 | true=>exact .inl (.inl ⟨h,rfl⟩)
 | false =>
  refine .inr ⟨h,?_⟩
  unfold Of
  rw [show Op.bytesLess b.1.toList a.1.toList=false from q,hk]
  rfl
theorem NF {x:List AM} (ho:Ju x) {b:AM} (hb:b∈x):BD x b.1=b:=by
 obtain ⟨j,hj,rfl⟩:=List.getElem_of_mem hb
 have:x.find? (fun a=>a.1.toList==x[j].1.toList)=some x[j]:=by
  rw [List.find?_eq_some_iff_getElem]
  refine ⟨by simp,j,hj,rfl,fun i hi=>?_⟩
  have:=ho i j (by omega) hj hi
  cases q:(x[i].1.toList==x[j].1.toList) with
  | false=>rfl
  | true =>
   rw [beq_iff_eq] at q
   rw [q,ZT] at this
   cases this
 unfold BD
 rw [this]
 rfl
theorem uJ {x:List AM} (ho:Ju x) {a:AM} (h1:1<=a.2.2):(BD x a.1).2.2>=a.2.2↔XD x a=true:=by
 constructor
 ·intro h
  unfold BD at h
  cases q:x.find? (fun b=>b.1.toList==a.1.toList) with
  | none=>rw [q] at h; simp at h; omega
  | some b =>
   rw [q] at h
   exact List.any_eq_true.2 ⟨b,List.mem_of_find?_eq_some q,by simpa [List.find?_some q] using h⟩
 ·intro h
  obtain ⟨b,hb,hc⟩:=List.any_eq_true.1 h
  simp only [Bool.and_eq_true,beq_iff_eq,decide_eq_true_eq] at hc
  have e:BD x a.1=BD x b.1:=by unfold BD; rw [hc.1]
  rw [e,NF ho hb]
  exact hc.2
theorem rW (a:AM):XZ (.pair .str (.pair .str (.int .i64))) a a=true:=by simp [XZ]
theorem SH (x:List ByteArray) (hx:0<x.length) (d:N1) (h:XE d):∃ v d',Le x d=some (v,d')/\XE d'/\v∈x:=by
 obtain ⟨v,d',e,k,v0,v1⟩:=Bj (x.length:Int) d h
 have v1:=v1 (by omega)
 have hv:v.toNat<x.length:=by omega
 exact ⟨_,_,mi (by unfold Yo; rw [e,X,if_pos v0,if_pos v1]),k,by rw [AR hv]; exact List.getElem_mem hv⟩
theorem Ib {x:List AM} {a:AM} (h:Ap x=true):Ap (Aj x a)=true:=by
 unfold Aj
 rw [if_pos h]
 split
 ·exact h
 ·split
  ·assumption
  ·exact h
theorem rX (x:List AM) (a:AM):(Aj x a).length<=x.length+1:=by
 have:=vU x a
 unfold Aj
 (repeat' split)<;>omega



theorem Cv (x:List Int) (n:Int) (h:x.length<=maxLen):Dt x n=some (x.contains n):=qI (by
 have hm:x.length<=9223372036854775807:=h
 unfold dP
 have:=GJ (n:=x.length) (P:=fun i=>Jo x n (i:Int)=some ((x.drop i).contains n)) (Wg (by
  unfold OT
  rw [if_neg (by simp),List.drop_length]
  rfl)) (fun i hi ih=>Wg (by
  unfold OT
  simp only [show ((i:Int)<(x.length:Int)) from by omega,decide_true,if_true,show (0:Int)<=(i:Int) from by omega,Int.toNat_natCast,AR hi,AO (show i<9223372036854775807 by omega)]
  rw [BZ hi,List.contains_cons,ih]
  by_cases e:x[i]=n
  ·subst e
   simp
  ·simp [e,Ne.symm e])) 0 (by omega)
 simpa using this)
theorem yI (x:List Int) (i:Nat) (hi:i<x.length) (h:x.length<=maxLen):∃ r,DG x x[i]=some r/\((r=(i:Int))↔x[i]∉x.take i):=by
 have hm:x.length<=9223372036854775807:=h
 have key:=GJ (n:=i) (P:=fun k=>∃ r,Ce x x[i] (x.length:Int) (k:Int)=some r/\(k:Int)<=r/\((r=(i:Int))↔∀ m (hm:m<i),k<=m->x[m]≠x[i])) ⟨i,B6 (by
  unfold Bc
  simp only [show ((i:Int)<(x.length:Int)) from by omega,decide_true,if_true,show (0:Int)<=(i:Int) from by omega,Int.toNat_natCast,AR hi]
  simp),by omega,⟨fun _ m hm hk=>by omega,fun _=>rfl⟩⟩ (fun k hk ⟨r,hr,hkr,hiff⟩=>by
  have hk2:k<x.length:=by omega
  by_cases e:x[i]=x[k]
  ·refine ⟨k,B6 ?_,by omega,⟨fun he=>by omega,fun hall=>absurd e.symm (hall k hk (by omega))⟩⟩
   unfold Bc
   simp only [show ((k:Int)<(x.length:Int)) from by omega,decide_true,if_true,show (0:Int)<=(k:Int) from by omega,Int.toNat_natCast,AR hk2]
   rw [if_pos (by simpa using e)]
  ·refine ⟨r,B6 ?_,by omega,hiff.trans ⟨fun hall m hm hkm=>?_,fun hall m hm hkm=>hall m hm (by omega)⟩⟩
   ·unfold Bc
    simp only [show ((k:Int)<(x.length:Int)) from by omega,decide_true,if_true,show (0:Int)<=(k:Int) from by omega,Int.toNat_natCast,AR hk2,AO (show k<9223372036854775807 by omega)]
    rw [if_neg (by simpa using e)]
    exact hr
   ·rcases Nat.lt_or_ge k m with h1 | h1
    ·exact hall m hm h1
    ·have:m=k:=by omega
     subst this
     exact fun h=>e h.symm) 0 (by omega)
 obtain ⟨r,hr,_,hiff⟩:=key
 refine ⟨r,L_ hr,hiff.trans ⟨fun hall hmem=>?_,fun hn m hm _ he=>hn ?_⟩⟩
 ·obtain ⟨m,hm,he⟩:=List.mem_take_iff_getElem.1 hmem
  exact hall m (by omega) (by omega) he
 ·exact List.mem_take_iff_getElem.2 ⟨m,by omega,he⟩
def HY (v:List Int) (i:Nat):Nat->Bool
 | 0=>true
 | k+1=>(decide (1<=v.getD i 0)&&decide (v.getD i 0<=6))&&!(v.take i).contains (v.getD i 0)&&HY v (i+1) k
def U1 (v:List Int):Bool:=(decide (1<=(v.length:Int))&&decide ((v.length:Int)<=4))&&HY v 0 v.length
def E9 (x:List (List Int)) (n:Nat):List (List Int)->Bool
 | []=>decide (1<=(n:Int))&&decide ((n:Int)<=9)
 | v::r=>U1 v&&E9 x n r
theorem eJ (v:List Int) (h:v.length<=maxLen):P9 v=some (U1 v):=mj (by
 have hm:v.length<=9223372036854775807:=h
 unfold Yp U1
 simp only [BK,X]
 have:=GJ (n:=v.length) (P:=fun i=>H5 v (i:Int)=some (HY v i (v.length-i))) (R0 (by
  unfold MA
  rw [if_neg (by simp),Nat.sub_self]
  rfl)) (fun i hi ih=>R0 (by
  unfold MA
  have e:v.length-i=(v.length-(i+1))+1:=by omega
  rw [e,HY]
  simp only [show ((i:Int)<(v.length:Int)) from by omega,show ((i:Int)<=(v.length:Int)) from by omega,decide_true,if_true,show (0:Int)<=(i:Int) from by omega,Int.toNat_natCast,BK,X,AO (show i<9223372036854775807 by omega),ih,Int.toNat_zero,List.drop_zero,Int.le_refl,
   Cv (v.take i) _ (by rw [List.length_take]; omega)]
  generalize (decide (1<=v.getD i 0)&&decide (v.getD i 0<=6))=a
  generalize (v.take i).contains (v.getD i 0)=b
  cases a<;>cases b<;>simp)) 0 (by omega)
 simp only [Int.ofNat_zero,Nat.sub_zero] at this
 generalize (decide (1<=(v.length:Int))&&decide ((v.length:Int)<=4))=a
 cases a
 ·simp
 ·simpa using this)
theorem eK (x:List (List Int)) (h:x.length<=maxLen) (ho:∀ a∈x,a.length<=maxLen):D5 x=some (E9 x x.length x):=md (by
 have hm:x.length<=9223372036854775807:=h
 unfold Yi
 exact GJ (n:=x.length) (P:=fun i=>Hz x (i:Int)=some (E9 x x.length (x.drop i))) (Rv (by
  unfold L8
  rw [if_neg (by simp),List.drop_length,BK]
  rfl)) (fun i hi ih=>Rv (by
  unfold L8
  simp only [show ((i:Int)<(x.length:Int)) from by omega,decide_true,if_true,show (0:Int)<=(i:Int) from by omega,Int.toNat_natCast,AR hi,eJ x[i] (ho _ (List.getElem_mem _)),X,AO (show i<9223372036854775807 by omega),ih]
  rw [BZ hi,E9]
  generalize U1 x[i]=a
  cases a<;>simp)) 0 (by omega))
theorem eL (x:List (List Int)) (h:x.length<=maxLen) (ho:∀ a∈x,a.length<=maxLen):DF x=some (E9 x x.length x):=mb (by
 have hm:x.length<=9223372036854775807:=h
 unfold Yd
 exact GJ (n:=x.length) (P:=fun i=>Hy x x (x.length:Int) (i:Int)=some (E9 x x.length (x.drop i))) (Rt (by
  unfold L7
  rw [if_neg (by simp),List.drop_length,Ao]
  rfl)) (fun i hi ih=>Rt (by
  unfold L7
  simp only [show ((i:Int)<(x.length:Int)) from by omega,decide_true,if_true,show (0:Int)<=(i:Int) from by omega,Int.toNat_natCast,AR hi]
  rw [BZ hi,E9]
  have hv:=ho x[i] (List.getElem_mem _)
  generalize x[i]=v at hv
  have hvm:v.length<=9223372036854775807:=hv
  have wj:L5 x v x (x.length:Int) (i:Int)=some ((decide (1<=(v.length:Int))&&decide ((v.length:Int)<=4))&&E9 x x.length (x.drop (i+1))):=dZ (by
   unfold Rr
   rw [Ao,X,AO (show i<9223372036854775807 by omega),ih]
   generalize (decide (1<=(v.length:Int))&&decide ((v.length:Int)<=4))=a
   cases a<;>simp)
  have:=GJ (n:=v.length) (P:=fun j=>Hx x v x (x.length:Int) (i:Int) v (v.length:Int) (j:Int)=some (HY v j (v.length-j)&&((decide (1<=(v.length:Int))&&decide ((v.length:Int)<=4))&&E9 x x.length (x.drop (i+1))))) (Rs (by
   unfold L6
   rw [if_neg (by simp),Nat.sub_self,wj]
   rfl)) (fun j hj ihj=>Rs (by
   unfold L6
   have e:v.length-j=(v.length-(j+1))+1:=by omega
   obtain ⟨r,hr,hiff⟩:=yI v j hj hv
   rw [e,HY]
   simp only [show ((j:Int)<(v.length:Int)) from by omega,decide_true,if_true,show (0:Int)<=(j:Int) from by omega,Int.toNat_natCast,E8,X,AO (show j<9223372036854775807 by omega),ihj,AR hj,hr]
   have hb:(r != (j:Int))=(v.take j).contains v[j]:=by
    by_cases e2:r=(j:Int)
    ·have:=hiff.1 e2
     simp [e2,this]
    ·have:v[j]∈v.take j:=Classical.byContradiction fun hn=>e2 (hiff.2 hn)
     simp [e2,this]
   rw [hb]
   generalize (decide (1<=v[j])&&decide (v[j]<=6))=a
   generalize (v.take j).contains v[j]=b
   cases a<;>cases b<;>simp)) 0 (by omega)
  simp only [Int.ofNat_zero,Nat.sub_zero] at this
  unfold U1
  refine Eq.trans this ?_
  congr 1
  generalize HY v 0 v.length=a
  generalize (decide (1<=(v.length:Int))&&decide ((v.length:Int)<=4))=b
  cases a<;>cases b<;>simp)) 0 (by omega))

abbrev tA:Type:=Int×Int×Int×(ByteArray×ByteArray×Int)×List Int
abbrev AA:Type:=Int×Int×Bool×Bool×Bool×Bool×List Int×List (ByteArray×ByteArray×Int)×Int×tA
def FO (v:List Int) (i:Nat):Nat->Bool
 | 0=>true
 | k+1=>(decide (1<=v.getD i 0)&&decide (v.getD i 0<=6))&&(decide (i=0)||decide (v.getD (i-1) 0<v.getD i 0))&&FO v (i+1) k
theorem T3 (x:List Int) (h:x.length<=maxLen):DB x=some (FO x 0 x.length):=oF (by
 have hm:x.length<=9223372036854775807:=h
 unfold aI
 have:=GJ (n:=x.length) (P:=fun i=>Gs x (i:Int)=some (FO x i (x.length-i))) (Tx (by
  unfold NE
  rw [if_neg (by simp),Nat.sub_self]
  rfl)) (fun i hi ih=>Tx (by
  unfold NE
  have e:x.length-i=(x.length-(i+1))+1:=by omega
  simp only [show ((i:Int)<(x.length:Int)) from by omega,decide_true,if_true,show (0:Int)<=(i:Int) from by omega,Int.toNat_natCast,AO (show i<9223372036854775807 by omega),ih,BK,X]
  rw [e,FO]
  generalize (decide (1<=x.getD i 0)&&decide (x.getD i 0<=6))=a
  cases a
  ·simp
  by_cases h0:0<i
  ·rw [ZS (by omega) h0]
   simp only [Int.toNat_natCast,show ((0:Int)<=((i-1:Nat):Int)) from by omega,show (((i-1:Nat):Int)<(x.length:Int)) from by omega,if_true]
   rcases Int.lt_or_le (x.getD (i-1) 0) (x.getD i 0) with hb | hb
   ·have d1:decide (x.getD (i-1) 0>=x.getD i 0)=false:=decide_eq_false (by omega)
    have d2:decide (x.getD (i-1) 0<x.getD i 0)=true:=decide_eq_true hb
    simp only [d1,d2]
    simp [h0,show i≠0 by omega]
   ·have d1:decide (x.getD (i-1) 0>=x.getD i 0)=true:=decide_eq_true (by omega)
    have d2:decide (x.getD (i-1) 0<x.getD i 0)=false:=decide_eq_false (by omega)
    simp only [d1,d2]
    simp [h0,show i≠0 by omega]
  ·have:i=0:=by omega
   subst this
   simp)) 0 (by omega)
 simpa using this)
theorem Mn (x:List Int) (h:x.length<=maxLen):G9 x 1 6=some (FO x 0 x.length):=bG (by
 have hm:x.length<=9223372036854775807:=h
 unfold QS
 have:=GJ (n:=x.length) (P:=fun i=>Dc x 1 6 x (x.length:Int) (i:Int)=some (FO x i (x.length-i))) (Mc (by
  unfold Hf
  rw [if_neg (by simp),Nat.sub_self]
  rfl)) (fun i hi ih=>Mc (by
  unfold Hf
  have e:x.length-i=(x.length-(i+1))+1:=by omega
  simp only [show ((i:Int)<(x.length:Int)) from by omega,decide_true,if_true,show (0:Int)<=(i:Int) from by omega,Int.toNat_natCast,AO (show i<9223372036854775807 by omega),ih,Ao,X]
  rw [e,FO]
  generalize (decide (1<=x.getD i 0)&&decide (x.getD i 0<=6))=a
  cases a
  ·simp
  by_cases h0:0<i
  ·rw [ZS (by omega) h0]
   simp only [Int.toNat_natCast,show ((0:Int)<=((i-1:Nat):Int)) from by omega,show (((i-1:Nat):Int)<(x.length:Int)) from by omega,if_true]
   rcases Int.lt_or_le (x.getD (i-1) 0) (x.getD i 0) with hb | hb
   ·have d1:decide (x.getD i 0<=x.getD (i-1) 0)=false:=decide_eq_false (by omega)
    have d2:decide (x.getD (i-1) 0<x.getD i 0)=true:=decide_eq_true hb
    simp only [d1,d2]
    simp [h0,show i≠0 by omega]
   ·have d1:decide (x.getD i 0<=x.getD (i-1) 0)=true:=decide_eq_true (by omega)
    have d2:decide (x.getD (i-1) 0<x.getD i 0)=false:=decide_eq_false (by omega)
    simp only [d1,d2]
    simp [h0,show i≠0 by omega]
  ·have:i=0:=by omega
   subst this
   simp)) 0 (by omega)
 simpa using this)
def JK (t:tA):Bool:=(t.1==0)&&(t.2.1==0)&&(t.2.2.1==0)&&XZ (.pair .str (.pair .str (.int .i64))) t.2.2.2.1 (ByteArray.empty,ByteArray.empty,(0:Int))&&((t.2.2.2.2.length:Int)==0)
def FP (t:tA) (serves:Bool):Bool:=(t.1==1||t.1==2)&&serves&&(decide (0<=t.2.1)&&decide (t.2.1<=1000))&&(decide (1<=t.2.2.1)&&decide (t.2.2.1<=900))
def T4 (x:AA):Bool :=
 (decide (1<=x.1)&&decide (x.1<=6))&&(decide (1<=x.2.1)&&decide (x.2.1<=9))&&(!x.2.2.2.2.2.1||(x.2.2.2.1&&x.2.2.2.2.1&&!decide ((x.2.2.2.2.2.2.1.length:Int)>0)))&&(!x.2.2.1||(!x.2.2.2.1&&!x.2.2.2.2.1)) &&
  FO x.2.2.2.2.2.2.1 0 x.2.2.2.2.2.2.1.length&&FO x.2.2.2.2.2.2.2.2.2.2.2.2.2 0 x.2.2.2.2.2.2.2.2.2.2.2.2.2.length&&B7 x.2.2.2.2.2.2.2.1 0 x.2.2.2.2.2.2.2.1.length&&(decide (0<=x.2.2.2.2.2.2.2.2.1)&&decide (x.2.2.2.2.2.2.2.2.1<=900)) &&
  (JK x.2.2.2.2.2.2.2.2.2||FP x.2.2.2.2.2.2.2.2.2 x.2.2.2.2.2.1)
theorem Zx (t:tA):My t=some (JK t):=gy (by
 unfold Ty JK
 generalize (t.1==0)=a
 generalize (t.2.1==0)=b
 generalize (t.2.2.1==0)=c
 generalize XZ (.pair .str (.pair .str (.int .i64))) t.2.2.2.1 (ByteArray.empty,ByteArray.empty,(0:Int))=d
 cases a<;>cases b<;>cases c<;>cases d<;>simp)
theorem bX (x:AA) (h1:x.2.2.2.2.2.2.1.length<=maxLen) (h2:x.2.2.2.2.2.2.2.1.length<=maxLen) (h3:x.2.2.2.2.2.2.2.2.2.2.2.2.2.length<=maxLen):Fg x=some (T4 x):=jh (by
 have w0:∀ b,Dk b x=some (JK x.2.2.2.2.2.2.2.2.2||FP x.2.2.2.2.2.2.2.2.2 x.2.2.2.2.2.1):=fun b=>bS (by
  unfold Qa FP
  simp only [BK,Zx,X]
  generalize JK x.2.2.2.2.2.2.2.2.2=a
  generalize (x.2.2.2.2.2.2.2.2.2.1==1)=b
  generalize (x.2.2.2.2.2.2.2.2.2.1==2)=c
  generalize x.2.2.2.2.2.1=d
  generalize (decide (0<=x.2.2.2.2.2.2.2.2.2.2.1)&&decide (x.2.2.2.2.2.2.2.2.2.2.1<=1000))=e
  generalize (decide (1<=x.2.2.2.2.2.2.2.2.2.2.2.1)&&decide (x.2.2.2.2.2.2.2.2.2.2.2.1<=900))=f
  cases a<;>cases b<;>cases c<;>cases d<;>cases e<;>simp)
 unfold W6 T4
 simp only [BK,T3 _ h1,T3 _ h3,H_ _ h2,X,w0]
 generalize (decide (1<=x.1)&&decide (x.1<=6))=a
 generalize (decide (1<=x.2.1)&&decide (x.2.1<=9))=b
 generalize decide ((x.2.2.2.2.2.2.1.length:Int)>0)=c
 generalize FO x.2.2.2.2.2.2.1 0 x.2.2.2.2.2.2.1.length=d
 generalize FO x.2.2.2.2.2.2.2.2.2.2.2.2.2 0 x.2.2.2.2.2.2.2.2.2.2.2.2.2.length=e
 generalize B7 x.2.2.2.2.2.2.2.1 0 x.2.2.2.2.2.2.2.1.length=f
 generalize (decide (0<=x.2.2.2.2.2.2.2.2.1)&&decide (x.2.2.2.2.2.2.2.2.1<=900))=g
 generalize (JK x.2.2.2.2.2.2.2.2.2||FP x.2.2.2.2.2.2.2.2.2 x.2.2.2.2.2.1)=t
 generalize x.2.2.2.2.2.1=s
 generalize x.2.2.2.2.1=l
 generalize x.2.2.2.1=m
 generalize x.2.2.1=n
 cases a
 ·simp
 cases b
 ·simp
 cases d<;>cases e<;>cases f<;>cases g<;>cases s<;>cases n<;>cases m<;>cases l<;>cases c<;>simp)
theorem T5 (x:AA) (h3:x.2.2.2.2.2.2.2.2.2.2.2.2.2.length<=maxLen):C7 x=some (FO x.2.2.2.2.2.2.2.2.2.2.2.2.2 0 x.2.2.2.2.2.2.2.2.2.2.2.2.2.length&&(JK x.2.2.2.2.2.2.2.2.2||FP x.2.2.2.2.2.2.2.2.2 x.2.2.2.2.2.1),x):=YZ (by
 unfold Nm JK FP
 simp only [Ao,Mn _ h3,X]
 by_cases hk:x.2.2.2.2.2.2.2.2.2.1=0
 ·rw [if_pos (by simp [hk])]
  have k1:(x.2.2.2.2.2.2.2.2.2.1==1)=false:=by simp [hk]
  have k2:(x.2.2.2.2.2.2.2.2.2.1==2)=false:=by simp [hk]
  have k0:(x.2.2.2.2.2.2.2.2.2.1==0)=true:=by simp [hk]
  rw [k1,k2,k0]
  have hl:((x.2.2.2.2.2.2.2.2.2.2.2.2.2.length:Int)==0)=true->FO x.2.2.2.2.2.2.2.2.2.2.2.2.2 0 x.2.2.2.2.2.2.2.2.2.2.2.2.2.length=true:=by
   intro h
   have:x.2.2.2.2.2.2.2.2.2.2.2.2.2.length=0:=by simpa using h
   rw [this]
   rfl
  generalize ((x.2.2.2.2.2.2.2.2.2.2.2.2.2.length:Int)==0)=l at hl
  generalize FO x.2.2.2.2.2.2.2.2.2.2.2.2.2 0 x.2.2.2.2.2.2.2.2.2.2.2.2.2.length=u at hl
  generalize (x.2.2.2.2.2.2.2.2.2.2.1==0)=b
  generalize (x.2.2.2.2.2.2.2.2.2.2.2.1==0)=c
  generalize XZ (.pair .str (.pair .str (.int .i64))) x.2.2.2.2.2.2.2.2.2.2.2.2.1 (ByteArray.empty,ByteArray.empty,(0:Int))=d
  cases b<;>cases c<;>cases d<;>cases l<;>cases u<;>simp at hl ⊢
 ·rw [if_neg (by simp [hk])]
  have k0:(x.2.2.2.2.2.2.2.2.2.1==0)=false:=by simp [hk]
  have k12:(decide (1<=x.2.2.2.2.2.2.2.2.2.1)&&decide (x.2.2.2.2.2.2.2.2.2.1<=2))=(x.2.2.2.2.2.2.2.2.2.1==1||x.2.2.2.2.2.2.2.2.2.1==2):=by
   rw [Bool.eq_iff_iff]
   simp
   omega
  rw [k12,k0]
  generalize (x.2.2.2.2.2.2.2.2.2.1==1||x.2.2.2.2.2.2.2.2.2.1==2)=k
  generalize FO x.2.2.2.2.2.2.2.2.2.2.2.2.2 0 x.2.2.2.2.2.2.2.2.2.2.2.2.2.length=u
  generalize (decide (0<=x.2.2.2.2.2.2.2.2.2.2.1)&&decide (x.2.2.2.2.2.2.2.2.2.2.1<=1000))=e
  generalize (decide (1<=x.2.2.2.2.2.2.2.2.2.2.2.1)&&decide (x.2.2.2.2.2.2.2.2.2.2.2.1<=900))=f
  cases k<;>cases u<;>cases e<;>cases f<;>rcases Bool.eq_false_or_eq_true x.2.2.2.2.2.1 with hs | hs<;>simp [hs])
theorem bY (x:AA) (h1:x.2.2.2.2.2.2.1.length<=maxLen) (h2:x.2.2.2.2.2.2.2.1.length<=maxLen) (h3:x.2.2.2.2.2.2.2.2.2.2.2.2.2.length<=maxLen):Ff x=some (T4 x):=i_ (by
 have w0:∀ b,KD b x=some ((!x.2.2.2.2.2.1||(x.2.2.2.1&&x.2.2.2.2.1&&!decide ((x.2.2.2.2.2.2.1.length:Int)>0)))&&(!x.2.2.1||(!x.2.2.2.1&&!x.2.2.2.2.1))&&(FO x.2.2.2.2.2.2.2.2.2.2.2.2.2 0 x.2.2.2.2.2.2.2.2.2.2.2.2.2.length&&(JK x.2.2.2.2.2.2.2.2.2||FP x.2.2.2.2.2.2.2.2.2 x.2.2.2.2.2.1))):=fun b=>az (by
  unfold QG
  simp only [T5 x h3,X]
  generalize (FO x.2.2.2.2.2.2.2.2.2.2.2.2.2 0 x.2.2.2.2.2.2.2.2.2.2.2.2.2.length&&(JK x.2.2.2.2.2.2.2.2.2||FP x.2.2.2.2.2.2.2.2.2 x.2.2.2.2.2.1))=t
  generalize decide ((x.2.2.2.2.2.2.1.length:Int)>0)=c
  generalize x.2.2.2.2.2.1=s
  generalize x.2.2.2.2.1=l
  generalize x.2.2.2.1=m
  generalize x.2.2.1=n
  cases s<;>cases n<;>cases m<;>cases l<;>cases c<;>simp)
 unfold WM T4
 simp only [Ao,E8,Mn _ h1,ML _ h2 N0,X,w0]
 generalize (decide (1<=x.1)&&decide (x.1<=6))=a
 generalize (decide (1<=x.2.1)&&decide (x.2.1<=9))=b
 generalize FO x.2.2.2.2.2.2.1 0 x.2.2.2.2.2.2.1.length=d
 generalize FO x.2.2.2.2.2.2.2.2.2.2.2.2.2 0 x.2.2.2.2.2.2.2.2.2.2.2.2.2.length=e
 generalize B7 x.2.2.2.2.2.2.2.1 0 x.2.2.2.2.2.2.2.1.length=f
 generalize (decide (0<=x.2.2.2.2.2.2.2.2.1)&&decide (x.2.2.2.2.2.2.2.2.1<=900))=g
 generalize (JK x.2.2.2.2.2.2.2.2.2||FP x.2.2.2.2.2.2.2.2.2 x.2.2.2.2.2.1)=t
 generalize (!x.2.2.2.2.2.1||(x.2.2.2.1&&x.2.2.2.2.1&&!decide ((x.2.2.2.2.2.2.1.length:Int)>0)))=p
 generalize (!x.2.2.1||(!x.2.2.2.1&&!x.2.2.2.2.1))=q
 cases a
 ·simp
 cases b
 ·simp
 cases d<;>cases e<;>cases f<;>cases g<;>cases p<;>cases q<;>simp)

abbrev BN:Type:=Int×Int×Int×Int×Int×List (ByteArray×ByteArray×Int)
def T6 (x:BN):Bool :=
 (decide (1<=x.1)&&decide (x.1<=8))&&(decide (1<=x.2.1)&&decide (x.2.1<=6))&&(decide (1<=x.2.2.1)&&decide (x.2.2.1<=6))&&(decide (1<=x.2.2.2.1)&&decide (x.2.2.2.1<=9))&&(decide (0<=x.2.2.2.2.1)&&decide (x.2.2.2.2.1<=1000000000))&&B7 x.2.2.2.2.2 0 x.2.2.2.2.2.length &&
  (if x.1=2\/x.1=3 then true else if x.1=5 then ((x.2.2.2.2.2.length:Int)==1) else ((x.2.2.2.2.2.length:Int)==0))
theorem jw (x:BN) (h:x.2.2.2.2.2.length<=maxLen):Uo x=some (T6 x):=qP (by
 have w1:∀ a b,Jt a b x=some (if b=true then true else if a=5 then ((x.2.2.2.2.2.length:Int)==1) else ((x.2.2.2.2.2.length:Int)==0)):=fun a b=>jm (by
  unfold W7
  by_cases h1:b=true<;>by_cases h2:a=5<;>simp [h1,h2])
 have w0:∀ b,Od b x=some (if x.1=2\/x.1=3 then true else if x.1=5 then ((x.2.2.2.2.2.length:Int)==1) else ((x.2.2.2.2.2.length:Int)==0)):=fun b=>jn (by
  unfold W8
  by_cases h1:x.1=2<;>by_cases h2:x.1=3<;>simp [h1,h2,w1])
 unfold eC T6
 simp only [BK,H_ _ h,X,w0]
 generalize (decide (1<=x.1)&&decide (x.1<=8))=a
 generalize (decide (1<=x.2.1)&&decide (x.2.1<=6))=b
 generalize (decide (1<=x.2.2.1)&&decide (x.2.2.1<=6))=c
 generalize (decide (1<=x.2.2.2.1)&&decide (x.2.2.2.1<=9))=d
 generalize (decide (0<=x.2.2.2.2.1)&&decide (x.2.2.2.2.1<=1000000000))=e
 generalize B7 x.2.2.2.2.2 0 x.2.2.2.2.2.length=f
 cases a<;>cases b<;>cases c<;>cases d<;>cases e<;>cases f<;>simp)
theorem jx (x:BN) (h:x.2.2.2.2.2.length<=maxLen):Un x=some (T6 x):=qO (by
 have w1:∀ a b,Js a b x=some (if b=true then true else if a=5 then ((x.2.2.2.2.2.length:Int)==1) else ((x.2.2.2.2.2.length:Int)==0)):=fun a b=>jd (by
  unfold W4
  by_cases h1:b=true<;>by_cases h2:a=5<;>simp [h1,h2])
 have w0:∀ b,Oc b x=some (if x.1=2\/x.1=3 then true else if x.1=5 then ((x.2.2.2.2.2.length:Int)==1) else ((x.2.2.2.2.2.length:Int)==0)):=fun b=>je (by
  unfold W5
  by_cases h1:x.1=2<;>by_cases h2:x.1=3<;>simp [h1,h2,w1])
 unfold dy T6
 simp only [Ao,E8,ML _ h N0,X,w0]
 generalize (decide (1<=x.1)&&decide (x.1<=8))=a
 generalize (decide (1<=x.2.1)&&decide (x.2.1<=6))=b
 generalize (decide (1<=x.2.2.1)&&decide (x.2.2.1<=6))=c
 generalize (decide (1<=x.2.2.2.1)&&decide (x.2.2.2.1<=9))=d
 generalize (decide (0<=x.2.2.2.2.1)&&decide (x.2.2.2.2.1<=1000000000))=e
 generalize B7 x.2.2.2.2.2 0 x.2.2.2.2.2.length=f
 cases a<;>cases b<;>cases c<;>cases d<;>cases e<;>cases f<;>simp)

abbrev Cy:Type:=Int×Int×Int×AM
def yJ (v:List Int):Prop:=(∀ a∈v,1<=a/\a<=6)/\v.Pairwise (· < ·)
theorem nC {v:List Int}:∀ (m i:Nat),i+m=v.length->(FO v i m=true↔∀ a (ha:a<v.length),i<=a->(1<=v[a]/\v[a]<=6)/\(a≠0->v.getD (a-1) 0<v[a]))
 | 0,i,h=>by
  simp only [FO,true_iff]
  intro a ha hi
  omega
 | m+1,i,h=>by
  have hi:i<v.length:=by omega
  rw [FO,Bool.and_eq_true,Bool.and_eq_true,nC m (i+1) (by omega),AR hi]
  simp only [Bool.or_eq_true,Bool.and_eq_true,decide_eq_true_eq]
  constructor
  ·rintro ⟨⟨h1,h2⟩,h3⟩ a ha hia
   by_cases e:a=i
   ·subst e
    exact ⟨h1,fun h0=>h2.resolve_left h0⟩
   ·exact h3 a ha (by omega)
  ·intro h3
   refine ⟨⟨(h3 i hi (Nat.le_refl _)).1,?_⟩,fun a ha hia=>h3 a ha (by omega)⟩
   by_cases e:i=0
   ·exact .inl e
   ·exact .inr ((h3 i hi (Nat.le_refl _)).2 e)
theorem xJ {v:List Int}:FO v 0 v.length=true↔yJ v:=by
 rw [nC _ _ (by omega)]
 constructor
 ·intro h
  refine ⟨fun a ha=>?_,?_⟩
  ·obtain ⟨i,hi,rfl⟩:=List.getElem_of_mem ha
   exact (h i hi (Nat.zero_le _)).1
  ·have st:∀ d a (ha:a+d+1<v.length),v.getD a 0<v.getD (a+d+1) 0:=by
    intro d
    induction d with
    | zero =>
     intro a ha
     have:=(h (a+1) (by omega) (Nat.zero_le _)).2 (by omega)
     rw [AR (show a+0+1<v.length from ha)]
     simpa using this
    | succ d ih =>
     intro a ha
     have h1:=ih a (by omega)
     have h2:=(h (a+(d+1)+1) ha (Nat.zero_le _)).2 (by omega)
     rw [AR ha]
     simp only [Nat.add_sub_cancel] at h2
     have h3:v.getD (a+d+1) 0<v[a+(d+1)+1]:=h2
     omega
   rw [List.pairwise_iff_getElem]
   intro i j hi hj hij
   have:=st (j-i-1) i (by omega)
   rw [show i+(j-i-1)+1=j by omega,AR hi,AR hj] at this
   exact this
 ·rintro ⟨h1,h2⟩ a ha _
  refine ⟨h1 _ (List.getElem_mem ha),fun h0=>?_⟩
  rw [AR (show a-1<v.length by omega)]
  exact (List.pairwise_iff_getElem.1 h2) (a-1) a (by omega) ha (by omega)
theorem tB {v:List Int} (h:yJ v):v.length<=6:=by
 have hs:v.Sublist [1,2,3,4,5,6]:=by
  have key:∀ (l:List Int) (n:Nat),n<=6->(∀ a∈l,(6-n:Int)<a/\a<=6)->l.Pairwise (· < ·)->l.length<=n:=by
   intro l
   induction l with
   | nil=>intro n _ _ _; simp
   | cons a l ih =>
    intro n hn hb hp
    have ha:=hb a (by simp)
    have hp2:=List.pairwise_cons.1 hp
    have:=ih ((6-a).toNat) (by omega) (fun b hb'=>⟨by have:=hp2.1 b hb'; omega,(hb b (by simp [hb'])).2⟩) hp2.2
    simp only [List.length_cons]
    omega
  have hl:=key v 6 (by omega) (fun a ha=>by have:=h.1 a ha; omega) h.2
  exact List.Sublist.trans (List.Sublist.refl v) (by
   have:∀ (l:List Int) (s:List Int),s.Pairwise (· < ·)->l.Pairwise (· < ·)->(∀ a∈l,a∈s)->l.Sublist s:=by
    intro l s
    induction s generalizing l with
    | nil =>
     intro _ _ hm
     cases l with
     | nil=>exact List.Sublist.slnil
     | cons a l=>exact absurd (hm a (by simp)) (by simp)
    | cons b s ih =>
     intro hs hl hm
     cases l with
     | nil=>exact List.nil_sublist _
     | cons a l =>
      have hs2:=List.pairwise_cons.1 hs
      have hl2:=List.pairwise_cons.1 hl
      rcases List.mem_cons.1 (hm a (by simp)) with e | e
      ·subst e
       refine (ih l hs2.2 hl2.2 fun c hc=>?_).cons_cons _
       rcases List.mem_cons.1 (hm c (by simp [hc])) with e | e
       ·have:=hl2.1 c hc; omega
       ·exact e
      ·refine (ih (a::l) hs2.2 hl fun c hc=>?_).cons _
       rcases List.mem_cons.1 (hm c hc) with e2 | e2
       ·have h1:=hs2.1 a e
        rcases List.mem_cons.1 hc with e3 | e3
        ·omega
        ·have:=hl2.1 c e3; omega
       ·exact e2
   refine this v [1,2,3,4,5,6] (by decide) h.2 fun a ha=>?_
   have:=h.1 a ha
   have h5:a=1\/a=2\/a=3\/a=4\/a=5\/a=6:=by omega
   rcases h5 with h | h | h | h | h | h<;>simp [h])
 simpa using hs.length_le
structure I2 (m:AA):Prop where
 id:1<=m.1/\m.1<=6
 ep:1<=m.2.1/\m.2.1<=9
 serves:m.2.2.2.2.2.1=true->m.2.2.2.1=true/\m.2.2.2.2.1=true/\m.2.2.2.2.2.2.1=[]
 fell:m.2.2.1=true->m.2.2.2.1=false/\m.2.2.2.2.1=false
 waits:yJ m.2.2.2.2.2.2.1
 left:yJ m.2.2.2.2.2.2.2.2.2.2.2.2.2
 items:Ap m.2.2.2.2.2.2.2.1=true
 count:0<=m.2.2.2.2.2.2.2.2.1/\m.2.2.2.2.2.2.2.2.1<=900
 task:JK m.2.2.2.2.2.2.2.2.2=true\/FP m.2.2.2.2.2.2.2.2.2 m.2.2.2.2.2.1=true
theorem tC {m:AA}:T4 m=true↔I2 m:=by
 unfold T4
 simp only [Bool.and_eq_true,Bool.or_eq_true,Bool.not_eq_true',decide_eq_true_eq,xJ,decide_eq_false_iff_not]
 constructor
 ·rintro ⟨⟨⟨⟨⟨⟨⟨⟨h1,h2⟩,h3⟩,h4⟩,h5⟩,h6⟩,h7⟩,h8⟩,h9⟩
  refine ⟨h1,h2,fun h=>?_,fun h=>?_,h5,h6,h7,h8,h9⟩
  ·rcases h3 with h3 | ⟨⟨a,b⟩,c⟩
   ·rw [h] at h3; cases h3
   ·exact ⟨a,b,List.length_eq_zero_iff.1 (by omega)⟩
  ·rcases h4 with h4 | h4
   ·rw [h] at h4; cases h4
   ·exact h4
 ·rintro ⟨h1,h2,h3,h4,h5,h6,h7,h8,h9⟩
  refine ⟨⟨⟨⟨⟨⟨⟨⟨h1,h2⟩,?_⟩,?_⟩,h5⟩,h6⟩,h7⟩,h8⟩,h9⟩
  ·cases hs:m.2.2.2.2.2.1 with
   | false=>exact .inl rfl
   | true =>
    obtain ⟨a,b,c⟩:=h3 hs
    exact .inr ⟨⟨a,b⟩,by rw [c]; simp⟩
  ·cases hs:m.2.2.1 with
   | false=>exact .inl rfl
   | true=>exact .inr (h4 hs)
theorem NG {x:List AM} (h:Ap x=true):x.length<=12:=(Cm.1 h).2.2
theorem I2.lens {m:AA} (h:I2 m):m.2.2.2.2.2.2.1.length<=6/\m.2.2.2.2.2.2.2.1.length<=12/\m.2.2.2.2.2.2.2.2.2.2.2.2.2.length<=6:=⟨tB h.waits,NG h.items,tB h.left⟩
theorem eM (m:AA) (h1:m.2.2.2.2.2.2.1.length<=68719476736) (h2:m.2.2.2.2.2.2.2.1.length<=68719476736) (h3:m.2.2.2.2.2.2.2.2.2.2.2.2.2.length<=68719476736):D6 m=some m:=me (by
 unfold Yj
 rw [if_pos (by simpa using h1),if_pos (by simpa using h2),if_pos (by simpa using h3)]
 rfl)
theorem I2.copy {m:AA} (h:I2 m):D6 m=some m:=by
 obtain ⟨h1,h2,h3⟩:=h.lens
 exact eM m (by omega) (by omega) (by omega)
def DN (view:List Int) (id:Int):List Int:=[1,2,3,4,5,6].filter fun v=>v != id&&view.contains v
theorem U2 (view:List Int) (id:Int):yJ (DN view id):=by
 refine ⟨fun a ha=>?_,List.Pairwise.filter _ (by decide)⟩
 have:=(List.mem_filter.1 ha).1
 simp at this
 omega
theorem JL (view:List Int) (id:Int) (h:view.length<=maxLen):Gg view id=some (DN view id):=gV (by
 unfold Tl
 have step:∀ (v:Nat) (acc r:List Int),v<=6->1<=v->acc.length<=6->CI view id ((v+1:Nat):Int) (if ((v:Int) != id&&view.contains (v:Int))=true then acc++[(v:Int)] else acc)=some r->CI view id (v:Int) acc=some r:=by
  intro v acc r hv hv1 ha hr
  refine PE ?_
  unfold JI
  rw [if_pos (by simp; omega),AO (show v<9223372036854775807 by omega),Cv view _ h]
  by_cases h1:((v:Int) != id)=true
  ·rw [if_pos h1,X]
   by_cases h2:view.contains (v:Int)=true
   ·rw [if_pos h2,if_pos (by simp; omega)]
    rw [if_pos (by rw [h1,h2]; rfl)] at hr
    exact hr
   ·rw [if_neg h2]
    rw [if_neg (fun hc=>h2 (by simp only [Bool.and_eq_true] at hc; exact hc.2))] at hr
    exact hr
  ·rw [if_neg h1]
   rw [if_neg (fun hc=>h1 (by simp only [Bool.and_eq_true] at hc; exact hc.1))] at hr
   exact hr
 have fin:∀ acc,CI view id ((7:Nat):Int) acc=some acc:=fun acc=>PE (by
  unfold JI
  rw [if_neg (by decide)])
 have g:∀ (acc:List Int) (v:Int),(if (v != id&&view.contains v)=true then acc++[v] else acc).length<=acc.length+1:=by
  intro acc v; split<;>simp
 refine step 1 [] _ (by omega) (by omega) (by simp) ?_
 refine step 2 _ _ (by omega) (by omega) (by have:=g [] ((1:Nat):Int); simp only [List.length_nil] at this; omega) ?_
 have l2:=g [] ((1:Nat):Int)
 generalize e1:(if (((1:Nat):Int) != id&&view.contains ((1:Nat):Int))=true then ([]:List Int)++[((1:Nat):Int)] else [])=a1 at l2 ⊢
 have l3:=g a1 ((2:Nat):Int)
 generalize e2:(if (((2:Nat):Int) != id&&view.contains ((2:Nat):Int))=true then a1++[((2:Nat):Int)] else a1)=a2 at l3 ⊢
 have l4:=g a2 ((3:Nat):Int)
 simp only [List.length_nil] at l2
 refine step 3 _ _ (by omega) (by omega) (by omega) ?_
 generalize e3:(if (((3:Nat):Int) != id&&view.contains ((3:Nat):Int))=true then a2++[((3:Nat):Int)] else a2)=a3 at l4 ⊢
 have l5:=g a3 ((4:Nat):Int)
 refine step 4 _ _ (by omega) (by omega) (by omega) ?_
 generalize e4:(if (((4:Nat):Int) != id&&view.contains ((4:Nat):Int))=true then a3++[((4:Nat):Int)] else a3)=a4 at l5 ⊢
 have l6:=g a4 ((5:Nat):Int)
 refine step 5 _ _ (by omega) (by omega) (by omega) ?_
 generalize e5:(if (((5:Nat):Int) != id&&view.contains ((5:Nat):Int))=true then a4++[((5:Nat):Int)] else a4)=a5 at l6 ⊢
 refine step 6 _ _ (by omega) (by omega) (by omega) ?_
 rw [fin]
 congr 1
 unfold DN
 have fl:∀ (p:Int->Bool) (v:Int) (l:List Int),(v::l).filter p=(if p v=true then [v] else [])++l.filter p:=by
  intro p v l; rw [List.filter_cons]; split<;>simp
 have ap:∀ (c:Bool) (a:List Int) (v:Int),(if c=true then a++[v] else a)=a++(if c=true then [v] else []):=by
  intro c a v; split<;>simp
 rw [ap,<- e5,ap,<- e4,ap,<- e3,ap,<- e2,ap,<- e1,ap]
 simp only [fl,List.filter_nil,List.append_nil,List.nil_append,List.append_assoc]
 rfl)
theorem nD {v:List Int} (h:yJ v) (p:Int->Bool):yJ (v.filter p):=⟨fun a ha=>h.1 a (List.mem_filter.1 ha).1,h.2.filter p⟩
theorem N3 (v:List Int) (x:Int) (h:v.length<=68719476736):Hr v x=some (v.filter (· != x)):=eG (by
 unfold SE
 have key:=GJ (n:=v.length) (P:=fun i=>∀ acc:List Int,acc.length<=i->D8 v x (i:Int) acc=some (acc++(v.drop i).filter (· != x))) (fun acc ha=>Ny (by
  unfold IX
  rw [if_neg (by simp)]
  simp)) (fun i hi ih acc ha=>Ny (by
  unfold IX
  simp only [show ((i:Int)<(v.length:Int)) from by omega,decide_true,if_true,show (0:Int)<=(i:Int) from by omega,Int.toNat_natCast,AR hi,AO (show i<9223372036854775807 by omega)]
  rw [BZ hi,List.filter_cons]
  by_cases hh:(v[i] != x)=true
  ·rw [if_pos hh,if_pos (by simp; omega),ih _ (by simp; omega),if_pos hh,List.append_assoc]
   rfl
  ·rw [if_neg hh,ih _ (by omega),if_neg hh])) 0 (by omega) [] (by simp)
 simpa using key)

def Bz (view:List Int) (id:Int):List Int:=view.filter (· != id)
def Qm (m:AA) (view:List Int) (its:List AM):AA :=
 (m.1,m.2.1,m.2.2.1,true,m.2.2.2.2.1,(((DN view m.1).length:Int)==0),DN view m.1,its,m.2.2.2.2.2.2.2.2)
def T7 (m:AA) (e:Int):AA :=
 (m.1,e,false,false,false,false,([]:List Int),m.2.2.2.2.2.2.2.1,(0:Int),(0:Int),(0:Int),(0:Int),(ByteArray.empty,ByteArray.empty,(0:Int)),([]:List Int))
def ER (m:AA) (x:BN) (k:Int):List BN:=[(k,m.1,x.2.1,x.2.2.2.1,x.2.2.2.2.1,([]:List AM))]
def NH (m:AA) (its:List AM):AA :=
 (m.1,m.2.1,m.2.2.1,m.2.2.2.1,m.2.2.2.2.1,m.2.2.2.2.2.1,m.2.2.2.2.2.2.1,its,m.2.2.2.2.2.2.2.2.1,(0:Int),(0:Int),(0:Int),(ByteArray.empty,ByteArray.empty,(0:Int)),([]:List Int))
def Bs (m:AA):List Cy×AA :=
 if (m.2.2.2.2.2.2.2.2.2.1==1)=true then ([(m.2.2.2.2.2.2.2.2.2.2.1,m.2.1,m.2.2.2.2.2.2.2.2.2.2.2.1,m.2.2.2.2.2.2.2.2.2.2.2.2.1)],NH m (Aj m.2.2.2.2.2.2.2.1 m.2.2.2.2.2.2.2.2.2.2.2.2.1))
 else ([(m.2.2.2.2.2.2.2.2.2.2.1,m.2.1,m.2.2.2.2.2.2.2.2.2.2.2.1,BD m.2.2.2.2.2.2.2.1 m.2.2.2.2.2.2.2.2.2.2.2.2.1.1)],NH m m.2.2.2.2.2.2.2.1)
theorem T8 (view:List Int) (its:List AM) (m:AA) (h:view.length<=68719476736) (hi:its.length<=68719476736) :
  NT view its m=some ((Bz view m.1).map (fun v=>(3,m.1,v,m.2.1,0,its)),Qm m view its):=oD (by
 unfold aG
 rw [if_pos (by simpa using hi),JL view _ (by unfold maxLen; omega),X]
 have key:=GJ (n:=view.length) (P:=fun i=>∀ acc:List BN,acc.length<=i->Gn view its (i:Int) (Qm m view its) acc ([]++its)=some (acc++((view.drop i).filter (· != m.1)).map (fun v=>((3:Int),m.1,v,m.2.1,(0:Int),its)),Qm m view its)) (fun acc ha=>Tn (by
  unfold M6
  rw [if_neg (by simp)]
  simp)) (fun i hi2 ih acc ha=>Tn (by
  unfold M6
  simp only [show ((i:Int)<(view.length:Int)) from by omega,decide_true,if_true,show (0:Int)<=(i:Int) from by omega,Int.toNat_natCast,AR hi2,AO (show i<9223372036854775807 by omega)]
  rw [show (Qm m view its).1=m.1 from rfl,show (Qm m view its).2.1=m.2.1 from rfl,BZ hi2,List.filter_cons]
  by_cases hh:(view[i] != m.1)=true
  ·rw [if_pos hh,if_pos (by simpa using hi),if_pos (by simp; omega),ih _ (by simp; omega),if_pos hh,List.map_cons,List.append_assoc]
   rfl
  ·rw [if_neg hh,ih _ (by omega),if_neg hh])) 0 (by omega) [] (by simp)
 exact key)
theorem SI (m:AA) (e:Int) (h:m.2.2.2.2.2.2.2.1.length<=68719476736):Lf m e=some (T7 m e):=m3 (by
 unfold Yw
 rw [if_pos (by simpa using h)]
 rfl)
theorem HH (m:AA) (x:BN) (k:Int):EK m x k=some (ER m x k):=jp rfl
theorem JM (m:AA) (h:m.2.2.2.2.2.2.2.1.length<=34359738367):Gh m=some (Bs m):=gW (by
 unfold Tm Bs
 rw [MM _ _ h,T0 _ _ (by unfold maxLen; omega)]
 split<;>rfl)
def om (m:AA) (f:Int):AA :=
 (m.1,m.2.1,m.2.2.1,m.2.2.2.1,m.2.2.2.2.1,m.2.2.2.2.2.1,m.2.2.2.2.2.2.1,m.2.2.2.2.2.2.2.1,m.2.2.2.2.2.2.2.2.1,m.2.2.2.2.2.2.2.2.2.1,m.2.2.2.2.2.2.2.2.2.2.1,m.2.2.2.2.2.2.2.2.2.2.2.1,m.2.2.2.2.2.2.2.2.2.2.2.2.1,m.2.2.2.2.2.2.2.2.2.2.2.2.2.filter (· != f))
def GA (m:AA) (f:Int):AA×List BN×List Cy :=
 if (((m.2.2.2.2.2.2.2.2.2.2.2.2.2.filter (· != f)).length:Int)==0)=true then ((Bs (om m f)).2,[],(Bs (om m f)).1) else (om m f,[],[])
def Y8 (m:AA) (view:List Int) (x:BN):AA×List BN×List Cy :=
 if x.1=2 then (if (m.2.2.2.2.1&&!m.2.2.2.1)=true then (Qm m view x.2.2.2.2.2,(Bz view m.1).map (fun v=>(3,m.1,v,m.2.1,0,x.2.2.2.2.2)),[]) else (m,[],[]))
 else if x.1=3 then (if (!view.contains m.1||(view.getD 0 0==m.1))=true then (m,[],[]) else if (!m.2.2.2.1&&m.2.2.1)=true then (m,[],[])
  else if m.2.2.2.1=true then (m,ER m x 4,[]) else
   ((m.1,m.2.1,false,true,false,false,([]:List Int),x.2.2.2.2.2,(0:Int),(0:Int),(0:Int),(0:Int),(ByteArray.empty,ByteArray.empty,(0:Int)),([]:List Int)),ER m x 4,[]))
 else if x.1=4 then (if m.2.2.2.2.1=true then
   ((m.1,m.2.1,m.2.2.1,m.2.2.2.1,m.2.2.2.2.1,m.2.2.2.1&&(((m.2.2.2.2.2.2.1.filter (· != x.2.1)).length:Int)==0),m.2.2.2.2.2.2.1.filter (· != x.2.1),m.2.2.2.2.2.2.2),[],[]) else (m,[],[]))
 else if x.1=5 then (if m.2.2.2.1=true then
   ((m.1,m.2.1,m.2.2.1,m.2.2.2.1,m.2.2.2.2.1,m.2.2.2.2.2.1,m.2.2.2.2.2.2.1,Aj m.2.2.2.2.2.2.2.1 (x.2.2.2.2.2.getD 0 (ByteArray.empty,ByteArray.empty,(0:Int))),m.2.2.2.2.2.2.2.2),ER m x 6,[]) else (m,[],[]))
 else if x.1=7 then (if m.2.2.2.1=true then (m,ER m x 8,[]) else (m,[],[]))
 else if (x.1=6\/x.1=8)/\m.2.2.2.2.2.2.2.2.2.1=(if x.1=8 then 2 else 1)/\m.2.2.2.2.2.2.2.2.2.2.2.1=x.2.2.2.2.1 then
  (GA m x.2.1)
 else (m,[],[])
theorem g8 (m:AA) (view:List Int) (x:BN) (hm:I2 m) (hv:view.length<=68719476736) (hv0:0<view.length) (hx:x.2.2.2.2.2.length<=68719476736) (h5:x.1=5->0<x.2.2.2.2.2.length) :
  SU m view x=some (Y8 m view x):=oE (by
 obtain ⟨l1,l2,l3⟩:=hm.lens
 unfold aH
 rw [hm.copy,X]
 unfold Y8
 by_cases k2:x.1=2
 ·rw [if_pos (by simpa using k2),if_pos k2]
  have J:∀ b y,Ix view [] [] b m x y m=some (if b=true then (Qm m view x.2.2.2.2.2,(Bz view m.1).map (fun v=>(3,m.1,v,m.2.1,0,x.2.2.2.2.2)),[]) else (m,[],[])):=fun b y=>gY (by
   unfold To
   cases b
   ·rfl
   ·rw [if_pos rfl,T8 view _ m hv hx]
    rfl)
  rw [J,J]
  cases m.2.2.2.2.1<;>cases m.2.2.2.1<;>rfl
 ·rw [if_neg (by simpa using k2),if_neg k2]
  by_cases k3:x.1=3
  ·rw [if_pos (by simpa using k3),if_pos k3,Cv view _ (by unfold maxLen; omega),X]
   have J2:∀ b y,Iy [] [] b m x y m=some (if m.2.2.2.1=true then (m,ER m x 4,[]) else
     ((m.1,m.2.1,false,true,false,false,([]:List Int),x.2.2.2.2.2,(0:Int),(0:Int),(0:Int),(0:Int),(ByteArray.empty,ByteArray.empty,(0:Int)),([]:List Int)),ER m x 4,[])):=fun b y=>gZ (by
    unfold Tp
    rw [SI m _ (by omega),HH,X,X]
    have hx':([]:List AM).length+x.2.2.2.2.2.length<=68719476736:=by simpa using hx
    cases m.2.2.2.1
    ·rw [if_pos (show (!false)=true from rfl),if_pos hx']; rfl
    ·rfl)
   have J1:∀ b y,M7 [] [] b m x y m=some (if (!m.2.2.2.1&&m.2.2.1)=true then (m,[],[]) else if m.2.2.2.1=true then (m,ER m x 4,[]) else
     ((m.1,m.2.1,false,true,false,false,([]:List Int),x.2.2.2.2.2,(0:Int),(0:Int),(0:Int),(0:Int),(ByteArray.empty,ByteArray.empty,(0:Int)),([]:List Int)),ER m x 4,[])):=fun b y=>ga (by
    unfold Tq
    rw [J2,J2]
    cases m.2.2.2.1<;>cases m.2.2.1<;>rfl)
   rw [show view.getD (0:Int).toNat 0=view.getD 0 0 from rfl]
   cases view.contains m.1
   ·rfl
   ·rw [if_neg (by simp),if_pos (by omega),if_pos (by omega),J1]
    cases (view.getD 0 0==m.1)<;>rfl
  ·rw [if_neg (by simpa using k3),if_neg k3]
   by_cases k4:x.1=4
   ·rw [if_pos (by simpa using k4),if_pos k4,N3 _ _ (by omega),X]
    cases m.2.2.2.2.1<;>cases m.2.2.2.1<;>rfl
   ·rw [if_neg (by simpa using k4),if_neg k4]
    by_cases k5:x.1=5
    ·have:=h5 k5
     rw [if_pos (by simpa using k5),if_pos k5,MM _ _ (by omega),X,HH,X,show x.2.2.2.2.2.getD (0:Int).toNat (ByteArray.empty,ByteArray.empty,(0:Int))=x.2.2.2.2.2.getD 0 (ByteArray.empty,ByteArray.empty,(0:Int)) from rfl]
     cases m.2.2.2.1
     ·rfl
     ·rw [if_pos rfl,if_pos rfl,if_pos (by omega),if_pos (by omega)]
    ·rw [if_neg (by simpa using k5),if_neg k5]
     by_cases k7:x.1=7
     ·rw [if_pos (by simpa using k7),if_pos k7,HH,X]
      cases m.2.2.2.1<;>rfl
     ·rw [if_neg (by simpa using k7),if_neg k7]
      have J5:∀ b y,M8 [] [] b m x y m=some (GA m x.2.1):=fun b y=>gd (by
       unfold Tr
       rw [N3 _ _ (by omega),X,JM _ (by simp only; omega),X]
       unfold GA
       split<;>rfl)
      have J4:∀ op y,Iz [] [] op m x y m=some (if m.2.2.2.2.2.2.2.2.2.1=op/\m.2.2.2.2.2.2.2.2.2.2.2.1=x.2.2.2.2.1 then (GA m x.2.1) else (m,[],[])):=fun op y=>ge (by
       unfold Ts
       rw [J5]
       by_cases h1:m.2.2.2.2.2.2.2.2.2.1=op
       ·rw [if_pos (by simp [h1])]
        by_cases h2:m.2.2.2.2.2.2.2.2.2.2.2.1=x.2.2.2.2.1
        ·rw [if_neg (by simp [h2]),if_pos (show _/\_ from ⟨h1,h2⟩)]
        ·rw [if_pos (by simp [h2]),if_neg (show ¬(_/\_) from fun h=>h2 h.2)]
       ·rw [if_neg (by simp [h1]),if_neg (fun h=>h1 h.1)])
      have J3:∀ b y,I0 [] [] b m x y m=some (if b=true/\m.2.2.2.2.2.2.2.2.2.1=(if x.1=8 then 2 else 1)/\m.2.2.2.2.2.2.2.2.2.2.2.1=x.2.2.2.2.1 then (GA m x.2.1) else (m,[],[])):=fun b y=>gf (by
       unfold Tt
       rw [J4,J4]
       cases b
       ·rw [if_neg (by simp),if_neg (by simp)]
       ·rw [if_pos rfl]
        by_cases k8:x.1=8
        ·simp only [k8,beq_self_eq_true,if_true,true_and]
        ·rw [if_neg (by simpa using k8)]
         simp only [k8,if_false,true_and])
      rw [J3,J3]
      by_cases k6:x.1=6
      ·simp only [k6,beq_self_eq_true,if_true,true_and,true_or]
      ·rw [if_neg (by simpa using k6)]
       simp only [k6,false_or,beq_iff_eq])
structure Qg (views:List (List Int)):Prop where
 ok:E9 views views.length views=true
theorem Jc {n:Nat}:∀ {l:List (List Int)} {x:List (List Int)},E9 x n l=true↔(∀ v∈l,U1 v=true)/\1<=n/\n<=9
 | [],x=>by simp [E9]; omega
 | v::l,x=>by
  rw [E9,Bool.and_eq_true,Jc]
  simp [and_assoc]
theorem Qg.len {views:List (List Int)} (h:Qg views):1<=views.length/\views.length<=9:=(Jc.1 h.ok).2
theorem Qg.view {views:List (List Int)} (h:Qg views) {v:List Int} (hv:v∈views):1<=v.length/\v.length<=4:=by
 have:=(Jc.1 h.ok).1 v hv
 unfold U1 at this
 simp only [Bool.and_eq_true,decide_eq_true_eq] at this
 omega
theorem Qg.get {views:List (List Int)} (h:Qg views) {i:Nat} (hi:i<views.length):1<=(views.getD i []).length/\(views.getD i []).length<=4:=by
 rw [AR hi]
 exact h.view (List.getElem_mem hi)
theorem GB {views:List (List Int)} (h:Qg views):D5 views=some true:=by
 rw [eK views (by have:=h.len; unfold maxLen; omega) (fun a ha=>by have:=h.view ha; unfold maxLen; omega),h.ok]
theorem KJ {m:AA} (h:I2 m):Fg m=some true:=by
 obtain ⟨h1,h2,h3⟩:=h.lens
 rw [bX m (by unfold maxLen; omega) (by unfold maxLen; omega) (by unfold maxLen; omega),tC.2 h]
def DO (m:AA) (views:List (List Int)) (x:BN):AA×List BN×List Cy :=
 if (T6 x&&(x.2.2.1==m.1)&&decide (m.2.1<=x.2.2.2.1)&&decide (x.2.2.2.1<=(views.length:Int)))=true then
  if x.2.2.2.1=m.2.1 then Y8 m (views.getD (m.2.1-1).toNat []) x
  else if (x.1==1&&(x.2.2.2.1==m.2.1+1)&&m.2.2.2.1&&(views.getD (m.2.1-1).toNat []).contains m.1)=true then (T7 m x.2.2.2.1,[(2,m.1,x.2.1,x.2.2.2.1,0,m.2.2.2.2.2.2.2.1)],[])
  else if (x.1==3&&(views.getD (x.2.2.2.1-1).toNat []).contains m.1&&((views.getD (x.2.2.2.1-1).toNat []).getD 0 0 != m.1))=true then
   ((m.1,x.2.2.2.1,false,true,false,false,([]:List Int),x.2.2.2.2.2,(0:Int),(0:Int),(0:Int),(0:Int),(ByteArray.empty,ByteArray.empty,(0:Int)),([]:List Int)),ER m x 4,[])
  else (m,[],[])
 else (m,[],[])
theorem xK {x:BN} (h:T6 x=true):x.2.2.2.2.2.length<=12/\(x.1=5->x.2.2.2.2.2.length=1):=by
 unfold T6 at h
 simp only [Bool.and_eq_true] at h
 refine ⟨NG (x:=x.2.2.2.2.2) h.1.2,fun h5=>?_⟩
 have:=h.2
 rw [if_neg (by omega),if_pos h5] at this
 simp only [beq_iff_eq] at this
 omega
theorem eN (m:AA) (views:List (List Int)) (x:BN) (hm:I2 m) (hv:Qg views) (hx:x.2.2.2.2.2.length<=68719476736) :
  P_ m views x=some (DO m views x):=mr (by
 have hvl:=hv.len
 have hep:=hm.ep
 unfold Yr DO
 rw [hm.copy,X,KJ hm,X,if_pos (by rfl),GB hv,X,if_pos (by rfl),jw x (by unfold maxLen; omega),X]
 cases hmo:T6 x with
 | false=>rfl
 | true =>
  obtain ⟨xl,x5⟩:=xK hmo
  rw [if_pos (by rfl)]
  by_cases h1:x.2.2.1=m.1
  ·rw [if_pos (by simp [h1])]
   by_cases h2:x.2.2.2.1<m.2.1
   ·rw [if_neg (by simpa using h2),if_neg (by simp; omega)]
   ·rw [if_pos (by simpa using h2)]
    by_cases h3:x.2.2.2.1>(views.length:Int)
    ·rw [if_neg (by simpa using h3),if_neg (by simp; omega)]
    ·rw [if_pos (by simpa using h3),if_neg (by simp; omega),if_pos (by simp [h1]; omega)]
     have wm:IntKind.i64.wrap (m.2.1-1)=m.2.1-1:=AZ (by omega)
     have wp:IntKind.i64.wrap (m.2.1+1)=m.2.1+1:=AZ (by omega)
     have wx:IntKind.i64.wrap (x.2.2.2.1-1)=x.2.2.2.1-1:=AZ (by omega)
     have g1:=hv.get (i:=(m.2.1-1).toNat) (by omega)
     have g2:=hv.get (i:=(x.2.2.2.1-1).toNat) (by omega)
     have J3:∀ b y,F7 [] [] b m x y m=some (if b=true then ((m.1,x.2.2.2.1,false,true,false,false,([]:List Int),x.2.2.2.2.2,(0:Int),(0:Int),(0:Int),(0:Int),(ByteArray.empty,ByteArray.empty,(0:Int)),([]:List Int)),ER m x 4,[]) else (m,[],[])):=fun b y=>du (by
      unfold R2
      cases b
      ·rfl
      ·rw [if_pos rfl,if_pos (by simpa using hx),HH]
       rfl)
     have J2:∀ b y,MB views [] [] b m x y m=some (if (x.1==3&&(views.getD (x.2.2.2.1-1).toNat []).contains m.1&&((views.getD (x.2.2.2.1-1).toNat []).getD 0 0 != m.1))=true then
       ((m.1,x.2.2.2.1,false,true,false,false,([]:List Int),x.2.2.2.2.2,(0:Int),(0:Int),(0:Int),(0:Int),(ByteArray.empty,ByteArray.empty,(0:Int)),([]:List Int)),ER m x 4,[]) else (m,[],[])):=fun b y=>dv (by
      unfold R3
      rw [wx,if_pos (by omega),if_pos (by omega),Cv _ _ (by unfold maxLen; omega),X,show (views.getD (x.2.2.2.1-1).toNat ([]:List Int)).getD (0:Int).toNat 0=(views.getD (x.2.2.2.1-1).toNat []).getD 0 0 from rfl]
      simp only [J3]
      rw [if_pos (show (0:Int)<=0 by omega),if_pos (show (0:Int)<((views.getD (x.2.2.2.1-1).toNat ([]:List Int)).length:Int) by omega)]
      cases (x.1==3)<;>cases (views.getD (x.2.2.2.1-1).toNat ([]:List Int)).contains m.1<;>rfl)
     have J1:∀ b y,EG views [] [] b m x y m=some (if b=true then (T7 m x.2.2.2.1,[(2,m.1,x.2.1,x.2.2.2.1,0,m.2.2.2.2.2.2.2.1)],[]) else
       if (x.1==3&&(views.getD (x.2.2.2.1-1).toNat []).contains m.1&&((views.getD (x.2.2.2.1-1).toNat []).getD 0 0 != m.1))=true then
       ((m.1,x.2.2.2.1,false,true,false,false,([]:List Int),x.2.2.2.2.2,(0:Int),(0:Int),(0:Int),(0:Int),(ByteArray.empty,ByteArray.empty,(0:Int)),([]:List Int)),ER m x 4,[]) else (m,[],[])):=fun b y=>dw (by
      unfold R4
      have hl:([]:List AM).length+m.2.2.2.2.2.2.2.1.length<=68719476736:=by have:=hm.lens; simp; omega
      rw [J2,SI m _ (by have:=hm.lens; omega),X,if_pos hl]
      cases b<;>rfl)
     refine dx ?_
     unfold R5
     rw [wm,wp]
     by_cases h4:x.2.2.2.1=m.2.1
     ·rw [if_pos (by simpa using h4),if_pos (by omega),if_pos (by omega),if_pos h4,g8 m _ x hm (by omega) (by omega) hx (fun h=>by have:=x5 h; omega)]
      rfl
     ·rw [if_neg (by simpa using h4),if_neg h4,Cv _ _ (by unfold maxLen; omega),X]
      simp only [J1]
      rw [if_pos (show (0:Int)<=m.2.1-1 by omega),if_pos (show m.2.1-1<(views.length:Int) by omega)]
      cases (x.1==1)<;>cases (x.2.2.2.1==m.2.1+1)<;>cases m.2.2.2.1<;>cases (views.getD (m.2.1-1).toNat ([]:List Int)).contains m.1<;>rfl
  ·rw [if_neg (by simp [h1]),if_neg (by simp [h1])])

theorem aJ {v:List Int}:∀ (m i:Nat),i+m=v.length->(HY v i m=true↔∀ a (ha:a<v.length),i<=a->(1<=v[a]/\v[a]<=6)/\v[a]∉v.take a)
 | 0,i,h=>by
  simp only [HY,true_iff]
  intro a ha hi
  omega
 | m+1,i,h=>by
  have hi:i<v.length:=by omega
  rw [HY,Bool.and_eq_true,Bool.and_eq_true,aJ m (i+1) (by omega),AR hi]
  simp only [Bool.and_eq_true,decide_eq_true_eq,Bool.not_eq_true',List.contains_eq_mem,decide_eq_false_iff_not]
  constructor
  ·rintro ⟨⟨h1,h2⟩,h3⟩ a ha hia
   by_cases e:a=i
   ·subst e
    exact ⟨h1,h2⟩
   ·exact h3 a ha (by omega)
  ·intro h3
   exact ⟨⟨(h3 i hi (Nat.le_refl _)).1,(h3 i hi (Nat.le_refl _)).2⟩,fun a ha hia=>h3 a ha (by omega)⟩
structure uP (v:List Int):Prop where
 len:1<=v.length/\v.length<=4
 mem:∀ a∈v,1<=a/\a<=6
 nd:v.Nodup
theorem tD {v:List Int}:U1 v=true↔uP v:=by
 unfold U1
 simp only [Bool.and_eq_true,decide_eq_true_eq]
 rw [aJ _ _ (by omega)]
 constructor
 ·rintro ⟨h1,h2⟩
  refine ⟨by omega,fun a ha=>?_,?_⟩
  ·obtain ⟨i,hi,rfl⟩:=List.getElem_of_mem ha
   exact (h2 i hi (Nat.zero_le _)).1
  ·rw [List.nodup_iff_pairwise_ne,List.pairwise_iff_getElem]
   intro i j hi hj hij e
   have:=(h2 j hj (Nat.zero_le _)).2
   apply this
   rw [<- e]
   exact List.mem_iff_getElem.2 ⟨i,by rw [List.length_take]; omega,by rw [List.getElem_take]⟩
 ·rintro ⟨h1,h2,h3⟩
  refine ⟨by omega,fun a ha _=>⟨h2 _ (List.getElem_mem ha),fun hm=>?_⟩⟩
  obtain ⟨i,hi,e⟩:=List.getElem_of_mem hm
  rw [List.length_take] at hi
  rw [List.getElem_take] at e
  have:=(List.getElem_inj h3).1 e
  omega
theorem Qg.wok {views:List (List Int)} (h:Qg views) {i:Nat} (hi:i<views.length):uP (views.getD i []):=by
 rw [AR hi]
 exact tD.1 ((Jc.1 h.ok).1 _ (List.getElem_mem hi))
structure uK (x:BN):Prop where
 kind:1<=x.1/\x.1<=8
 frm:1<=x.2.1/\x.2.1<=6
 to:1<=x.2.2.1/\x.2.2.1<=6
 ep:1<=x.2.2.2.1/\x.2.2.2.1<=9
 num:0<=x.2.2.2.2.1/\x.2.2.2.2.1<=1000000000
 items:Ap x.2.2.2.2.2=true
 shape:if x.1=2\/x.1=3 then True else if x.1=5 then x.2.2.2.2.2.length=1 else x.2.2.2.2.2=[]
theorem ZU {x:BN}:T6 x=true↔uK x:=by
 unfold T6
 simp only [Bool.and_eq_true,decide_eq_true_eq]
 constructor
 ·rintro ⟨⟨⟨⟨⟨⟨h1,h2⟩,h3⟩,h4⟩,h5⟩,h6⟩,h7⟩
  refine ⟨h1,h2,h3,h4,h5,h6,?_⟩
  split at h7
  ·rename_i e; rw [if_pos e]; trivial
  ·rename_i e
   rw [if_neg e]
   split at h7
   ·rename_i e2; rw [if_pos e2]; simp only [beq_iff_eq] at h7; omega
   ·rename_i e2; rw [if_neg e2]; simp only [beq_iff_eq] at h7; exact List.length_eq_zero_iff.1 (by omega)
 ·rintro ⟨h1,h2,h3,h4,h5,h6,h7⟩
  refine ⟨⟨⟨⟨⟨⟨h1,h2⟩,h3⟩,h4⟩,h5⟩,h6⟩,?_⟩
  split
  ·rfl
  ·rename_i e
   rw [if_neg e] at h7
   split
   ·rename_i e2; rw [if_pos e2] at h7; simp; omega
   ·rename_i e2; rw [if_neg e2] at h7; simp [h7]
theorem Ph:Ap []=true:=rfl
def bZ (m n:AA) (l:List BN):Prop:=∀ y∈l,uK y/\y.2.1=m.1/\y.2.2.2.1=n.2.1
theorem eO {m n:AA} {view:List Int} {k num:Int} {its:List AM} (hm:1<=m.1/\m.1<=6) (he:1<=n.2.1/\n.2.1<=9) (hv:∀ a∈view,1<=a/\a<=6) (hk:1<=k/\k<=8) (hn:0<=num/\num<=1000000000) (hi:Ap its=true)
  (hs:if k=2\/k=3 then True else if k=5 then its.length=1 else its=[]):bZ m n ((Bz view m.1).map fun v=>(k,m.1,v,n.2.1,num,its)):=by
 intro y hy
 obtain ⟨v,hv2,rfl⟩:=List.mem_map.1 hy
 exact ⟨⟨hk,hm,hv v (List.mem_filter.1 hv2).1,he,hn,hi,hs⟩,rfl,rfl⟩
theorem Qc {m n:AA} {x:BN} {k:Int} (hm:1<=m.1/\m.1<=6) (hx:uK x) (he:x.2.2.2.1=n.2.1) (hk:k=4\/k=6\/k=8):bZ m n (ER m x k):=by
 intro y hy
 simp only [ER,List.mem_singleton] at hy
 subst hy
 refine ⟨⟨by show 1<=k/\k<=8; omega,hm,hx.frm,hx.ep,hx.num,Ph,?_⟩,rfl,he⟩
 show if k=2\/k=3 then True else if k=5 then ([]:List AM).length=1 else ([]:List AM)=[]
 rw [if_neg (by omega),if_neg (by omega)]
theorem Y9 {m n:AA}:bZ m n []:=fun y hy=>by cases hy
theorem ZV:JK ((0:Int),(0:Int),(0:Int),(ByteArray.empty,ByteArray.empty,(0:Int)),([]:List Int))=true:=by simp [JK,XZ]
theorem I2.has {m:AA} {view:List Int} {its:List AM} (h:I2 m) (hl:m.2.2.2.2.1=true) (hb:m.2.2.2.1=false) (hi:Ap its=true):I2 (Qm m view its):=by
 have hns:m.2.2.2.2.2.1=false:=by
  cases hs:m.2.2.2.2.2.1 with
  | false=>rfl
  | true=>have:=(h.serves hs).1; rw [hb] at this; cases this
 refine ⟨h.id,h.ep,fun hs=>⟨rfl,hl,?_⟩,fun hf=>?_,U2 _ _,h.left,hi,h.count,?_⟩
 ·simp only [Qm,beq_iff_eq] at hs ⊢
  exact List.length_eq_zero_iff.1 (by omega)
 ·have:=(h.fell hf).2; rw [hl] at this; cases this
 ·rcases h.task with h1 | h1
  ·exact .inl h1
  ·unfold FP at h1
   rw [hns] at h1
   simp at h1
theorem I2.bare {m:AA} (h:I2 m) {e:Int} (he:1<=e/\e<=9):I2 (T7 m e) :=
 ⟨h.id,he,fun hs=>(by cases hs),fun hf=>(by cases hf),⟨by simp [T7],by simp [T7]⟩,⟨by simp [T7],by simp [T7]⟩,h.items,⟨by simp [T7],by simp [T7]⟩,.inl ZV⟩
theorem I2.install {m:AA} (h:I2 m) {e:Int} {its:List AM} (he:1<=e/\e<=9) (hi:Ap its=true) :
  I2 (m.1,e,false,true,false,false,([]:List Int),its,(0:Int),(0:Int),(0:Int),(0:Int),(ByteArray.empty,ByteArray.empty,(0:Int)),([]:List Int)) :=
 ⟨h.id,he,fun hs=>(by cases hs),fun hf=>(by cases hf),⟨by simp,by simp⟩,⟨by simp,by simp⟩,hi,⟨by simp,by simp⟩,.inl ZV⟩
theorem I2.clear {m:AA} (h:I2 m) {its:List AM} (hi:Ap its=true):I2 (NH m its) :=
 ⟨h.id,h.ep,h.serves,h.fell,h.waits,⟨by simp [NH],by simp [NH]⟩,hi,h.count,.inl ZV⟩
theorem I2.finish {m:AA} (h:I2 m):I2 (Bs m).2:=by
 unfold Bs
 split
 ·exact h.clear (Ib h.items)
 ·exact h.clear h.items
theorem xL {m:AA} (h:I2 m) (h0:m.2.2.2.2.2.2.2.2.2.1≠0):FP m.2.2.2.2.2.2.2.2.2 m.2.2.2.2.2.1=true:=by
 rcases h.task with h1 | h1
 ·unfold JK at h1
  simp only [Bool.and_eq_true,beq_iff_eq] at h1
  exact absurd h1.1.1.1.1 h0
 ·exact h1
def g9 (l:List Cy):Prop:=l.length<=1/\∀ s∈l,0<=s.1/\s.1<=1000
theorem FQ:g9 []:=⟨by simp,fun s hs=>by cases hs⟩
theorem iU {m:AA} (h:I2 m) (h0:m.2.2.2.2.2.2.2.2.2.1≠0):g9 (Bs m).1:=by
 have h1:=xL h h0
 unfold FP at h1
 simp only [Bool.and_eq_true,decide_eq_true_eq] at h1
 unfold Bs
 split
 ·exact ⟨by simp,fun s hs=>by simp at hs; subst hs; exact h1.1.2⟩
 ·exact ⟨by simp,fun s hs=>by simp at hs; subst hs; exact h1.1.2⟩
structure qQ (m:AA) (r:AA×List BN×List Cy):Prop where
 mok:I2 r.1
 id:r.1.1=m.1
 ep:m.2.1<=r.1.2.1
 told:bZ m r.1 r.2.1
 tlen:r.2.1.length<=4
 said:g9 r.2.2
theorem HI {m:AA} (h:I2 m):qQ m (m,[],[]):=⟨h,rfl,Int.le_refl _,Y9,by simp,FQ⟩
theorem HJ (view:List Int) (id:Int):(Bz view id).length<=view.length:=List.length_filter_le _ _
theorem I2.left_filter {m:AA} (h:I2 m) (f:Int):I2 (om m f):=by
 refine ⟨h.id,h.ep,h.serves,h.fell,h.waits,nD h.left _,h.items,h.count,?_⟩
 rcases h.task with h1 | h1
 ·left
  unfold JK at h1 ⊢
  simp only [Bool.and_eq_true,beq_iff_eq] at h1 ⊢
  refine ⟨h1.1,?_⟩
  have h2:=List.length_filter_le (· != f) m.2.2.2.2.2.2.2.2.2.2.2.2.2
  have h3:=h1.2
  show (((m.2.2.2.2.2.2.2.2.2.2.2.2.2.filter (· != f)).length:Nat):Int)=0
  omega
 ·exact .inr h1
theorem xM {m:AA} {view:List Int} {x:BN} (hm:I2 m) (hv:uP view) (hx:uK x) (he:x.2.2.2.1=m.2.1):qQ m (Y8 m view x):=by
 unfold Y8
 split
 ·split
  ·rename_i h1 h2
   simp only [Bool.and_eq_true,Bool.not_eq_true'] at h2
   refine ⟨hm.has h2.1 h2.2 hx.items,rfl,Int.le_refl _,?_,by simp only [List.length_map]; have:=HJ view m.1; have:=hv.len; omega,FQ⟩
   exact eO (n:=Qm m view x.2.2.2.2.2) hm.id hm.ep hv.mem (by omega) (by omega) hx.items (by simp)
  ·exact HI hm
 ·split
  ·split
   ·exact HI hm
   ·split
    ·exact HI hm
    ·split
     ·exact ⟨hm,rfl,Int.le_refl _,Qc hm.id hx he (by omega),by simp [ER],FQ⟩
     ·exact ⟨hm.install hm.ep hx.items,rfl,Int.le_refl _,Qc hm.id hx he (by omega),by simp [ER],FQ⟩
  ·split
   ·split
    ·rename_i hl
     refine ⟨⟨hm.id,hm.ep,fun hs=>?_,hm.fell,nD hm.waits _,hm.left,hm.items,hm.count,?_⟩,rfl,Int.le_refl _,Y9,by simp,FQ⟩
     ·simp only [Bool.and_eq_true,beq_iff_eq] at hs
      exact ⟨hs.1,hl,List.length_eq_zero_iff.1 (show (List.filter (· != x.2.1) m.2.2.2.2.2.2.1).length=0 by have h:((List.filter (· != x.2.1) m.2.2.2.2.2.2.1).length:Int)=0:=hs.2; omega)⟩
     ·rcases hm.task with h1 | h1
      ·exact .inl h1
      ·right
       have hs:m.2.2.2.2.2.1=true:=by
        unfold FP at h1
        simp only [Bool.and_eq_true] at h1
        exact h1.1.1.2
       obtain ⟨a,b,c⟩:=hm.serves hs
       rw [hs] at h1
       simp only [c,List.filter_nil,List.length_nil,a,Bool.true_and]
       exact h1
    ·exact HI hm
   ·split
    ·split
     ·exact ⟨⟨hm.id,hm.ep,hm.serves,hm.fell,hm.waits,hm.left,Ib hm.items,hm.count,hm.task⟩,rfl,Int.le_refl _,Qc hm.id hx he (by omega),by simp [ER],FQ⟩
     ·exact HI hm
    ·split
     ·split
      ·exact ⟨hm,rfl,Int.le_refl _,Qc hm.id hx he (by omega),by simp [ER],FQ⟩
      ·exact HI hm
     ·by_cases hc:(x.1=6\/x.1=8)/\m.2.2.2.2.2.2.2.2.2.1=(if x.1=8 then 2 else 1)/\m.2.2.2.2.2.2.2.2.2.2.2.1=x.2.2.2.2.1
      ·rw [if_pos hc]
       have hn:=hm.left_filter x.2.1
       unfold GA
       split
       ·refine ⟨hn.finish,?_,?_,Y9,by simp,iU hn ?_⟩
        ·unfold Bs; split<;>rfl
        ·unfold Bs; split<;>exact Int.le_refl _
        ·have:=hc.2.1
         show m.2.2.2.2.2.2.2.2.2.1≠0
         rw [this]
         split<;>omega
       ·exact ⟨hn,rfl,Int.le_refl _,Y9,by simp,FQ⟩
      ·rw [if_neg hc]
       exact HI hm
theorem N4 {m:AA} {views:List (List Int)} {x:BN} (hm:I2 m) (hv:Qg views):qQ m (DO m views x):=by
 unfold DO
 split
 ·rename_i hc
  simp only [Bool.and_eq_true,decide_eq_true_eq,beq_iff_eq] at hc
  obtain ⟨⟨⟨h1,h2⟩,h3⟩,h4⟩:=hc
  have hx:=ZU.1 h1
  have hvl:=hv.len
  have he:=hm.ep
  split
  ·rename_i e
   exact xM hm (hv.wok (by omega)) hx e
  ·split
   ·refine ⟨hm.bare hx.ep,rfl,h3,fun y hy=>?_,by simp,FQ⟩
    simp only [List.mem_singleton] at hy
    subst hy
    exact ⟨⟨by simp,hm.id,hx.frm,hx.ep,by simp,hm.items,by simp⟩,rfl,rfl⟩
   ·split
    ·exact ⟨hm.install hx.ep hx.items,rfl,h3,Qc hm.id hx rfl (by omega),by simp [ER],FQ⟩
    ·exact HI hm
 ·exact HI hm
end Go.Proofs.YtokiohnjegbnpaaGreat.Core
