/- Texts of the proof, packed: part 4. -/
import Derived.Test.YtokiohnjegbnpaaGreatP2
import Derived.IntWalk
set_option linter.unusedVariables false
set_option linter.unusedSimpArgs false
namespace Go.Proofs.YtokiohnjegbnpaaGreat.Core
open Go IntKind
set_option linter.unusedVariables false
set_option maxRecDepth 100000
noncomputable section
def ye:List (Nat×BL):=[(5,BT),(9,UZ),(10,Ja),(11,A_),(13,Fb),(17,PP),(18,Gu),(19,Dp),(20,CI),(21,CX),(22,DD),(32,Dy),(33,Dq),(34,DU),(35,GW),(36,G1),(37,NM),(38,BG),(39,DV),(41,PQ),(43,NN),(44,LF),(45,CN),(46,Dz),(47,Fq),(48,NO),(49,PR),(50,Ac),(51,Fs),(52,PS),(53,NP),(56,PT),(57,Da),(59,Ft),(61,LH),(62,Jb),(63,Bs),(64,BK),(65,Bu),(66,C0),(67,E2),(68,Ij),(69,G2),(70,CO),(71,GP),(72,RL),(73,Fu),(75,Hn),(76,LI),(77,D0),(78,CF),(79,E3),(80,Jc),(81,DW),(82,CY),(83,RN),(84,NQ),(86,LJ),(87,PU),(89,GZ),(90,CJ),(91,BQ),(92,LK),(95,Be),(96,Ho),(97,LL),(98,LN),(100,Dr),(101,Fv),(102,AS),(103,FP),(105,D1),(106,Bn),(107,Cq),(108,Bf),(109,Ee),(110,B6),(111,Aa),(113,CZ),(114,En),(115,B0),(116,FQ),(117,Di),(118,Bl),(119,Hp),(120,Ef),(121,Fc),(122,Eo),(123,Aw),(124,C3),(125,Ik),(126,Ep),(127,Eg),(128,CR),(129,LU),(130,Jd),(131,Dj),(132,BW),(133,LV),(134,DP),(135,C4),(137,AU),(138,Je),(139,D2),(140,Er),(141,D3),(142,Il),(143,Ci),(148,AQ),(154,LX),(158,Cj),(159,AH),(160,Im),(169,Jf)]
def fns (f:Nat):Option BL:=wr f ye
theorem yx:uw Tryz.prog fns:=t8 (.cons lO <| .cons sK <| .cons im <| .cons ip <| .cons iq <| .cons pX <| .cons rC <| .cons pY <| .cons pZ <| .cons pa <| .cons pb <| .cons lP <| .cons nh <| .cons ir <| .cons lQ <| .cons af <| .cons ni <| .cons fR <| .cons iu <| .cons pd <| .cons nj <| .cons lR <| .cons ag <| .cons lT <| .cons Xz <| .cons nl <| .cons pe <| .cons X0 <| .cons X1 <| .cons pf <| .cons nn <| .cons ph <| .cons Qi <| .cons pj <| .cons lU <| .cons iv <| .cons iw <| .cons lV <| .cons lW <| .cons fS <| .cons fT <| .cons pl <| .cons ah <| .cons ak <| .cons Ze <| .cons rD <| .cons X5 <| .cons cZ <| .cons lX <| .cons lY <| .cons Zf <| .cons fU <| .cons ix <| .cons iy <| .cons fV <| .cons rE <| .cons no <| .cons lZ <| .cons pn <| .cons la <| .cons ca <| .cons HJ <| .cons lc <| .cons Ua <| .cons cc <| .cons ld <| .cons lg <| .cons po <| .cons pp <| .cons G3 <| .cons XF <| .cons lh <| .cons pq <| .cons pr <| .cons ln <| .cons pu <| .cons am <| .cons IN <| .cons Ub <| .cons np <| .cons YD <| .cons XG <| .cons an <| .cons XH <| .cons cd <| .cons Uc <| .cons iz <| .cons nq <| .cons lq <| .cons fW <| .cons fX <| .cons ns <| .cons pw <| .cons nt <| .cons lr <| .cons i4 <| .cons aq <| .cons XI <| .cons lu <| .cons Zg <| .cons YH <| .cons PV <| .cons i5 <| .cons lw <| .cons nu <| .cons lx <| .cons fY <| .cons cf <| .cons Km <| .cons ly <| .cons cg <| .cons Eh <| .cons fZ <| .cons i6 .nil)
def prims:GJ:=fun f args bs=>if f=74 then l7 47 AI args bs else if f=88 then vK 97 AE args bs else if f=99 then l7 3 (.int .i64) args bs else if f=104 then l7 38 AB args bs else if f=144 then rJ 3 145 args bs else if f=161 then xy args bs else if f=162 then vH 38 AB args bs else none
theorem xE:I6 Tryz.prog prims:=fun f args bs rs h=>by
 unfold prims at h
 split at h
 ·rename_i e; subst e; exact l9 w8 yZ h
 split at h
 ·rename_i e; subst e; exact w7 w9 yc h
 split at h
 ·rename_i e; subst e; exact l9 w_ yd h
 split at h
 ·rename_i e; subst e; exact l9 vL yC h
 split at h
 ·rename_i e; subst e; exact vJ vM Tryz.zeroValue3 vN h
 split at h
 ·rename_i e; subst e; exact w5 vO h
 split at h
 ·rename_i e; subst e; exact w4 vP yD h
 cases h
abbrev cP:GJ:=pJ fns prims
def cG {ρ:Type} (c:AG) (kn kr:St→Option ρ) (ke:Nat→St→Option ρ):St→Option ρ:=GU cP KL c kn kr ke
def lG {ρ:Type} (c:AG) (hs:List (Nat×Nat)) (l:List Nat) (n:Nat) (kr:St→Option ρ) (ke:Nat→St→Option ρ):St→Option ρ:=KL fun go s'=>GU cP KL c (fun s''=>go (s''.cutH hs l n)) kr ke s'
def kJ {ρ:Type} (c:AG) (hs:List (Nat×Nat)) (l:List Nat) (n:Nat) (kn kr:St→Option ρ) (ke:Nat→St→Option ρ):St→Option ρ:=fun s=>cG c kn kr ke (s.cutH hs l n)
def kB {ρ:Type} (hs:List (Nat×Nat)) (l:List Nat) (n:Nat) (kn:St→Option ρ):St→Option ρ:=fun s=>kn (s.cutH hs l n)
def kE {ρ:Type} (b:Nat) (hs:List (Nat×Nat)) (l:List Nat) (n:Nat) (kn:St→Option ρ) (ke:Nat→St→Option ρ):Nat→St→Option ρ:=fun i s=>if i=b then kn (s.cutH hs l n) else ke i s
def kx {ρ:Type}:Nat→St→Option ρ:=fun _ _=>none
def cF (f:Nat) (a:BL) (x b:List AV):Option (RT a.outs):=(cP f x b).bind (Ce a.outs)
theorem cT (a:BL) {f:Nat} {x b:List AV} {t:Option (RT a.outs)} {r:RT a.outs} (hf:fns f=some a) (hl:x.length=a.params.length∧b.length=(Dv a.params 0).length) (e:vC cP a x b=t) (h:t=some r):cF f a x b=some r:=sG hf hl (e.trans h)
theorem jS {ρ:Type} {t w:Option ρ} {r:ρ} (e:w=t) (h:t=some r):w=some r:=e.trans h
theorem lS {ρ:Type} {c:AG} {hs:List (Nat×Nat)} {l:List Nat} {n:Nat} {kr:St→Option ρ} {ke:Nat→St→Option ρ} {s:St} {t:Option ρ} {r:ρ} (e:GU cP KL c (fun s=>lG c hs l n kr ke (s.cutH hs l n)) kr ke s=t) (h:t=some r):lG c hs l n kr ke s=some r:=tx (e.trans h)
def YI (x0:List Int):Option Bool:=cF 5 BT [.lst (.int .u8) x0] []
def ar (x0:List Int):Option Bool:=cF 9 UZ [.lst (.int .u8) x0] []
def N_ (x0:List Int):Option (List (List Int)×List AX):=cF 10 Ja [.lst (.int .u8) x0] []
def OA (x0:List (List Int)) (x1:List AX):Option (AA×List Int×Bool):=cF 11 A_ [.lst (.slice (.int .i64)) x0,.lst Ad x1] []
def Fd (x0:O):Option Bool:=cF 13 Fb [.agg (U.enc x0)] []
def G4 (x0:AC):Option Int:=cF 17 PP [.agg (AI.enc x0)] []
def YJ (x0:AA) (x1:Int):Option AA:=cF 18 Gu [.agg (Af.enc x0),.int .i64 x1] []
def Ue (x0:List AC):Option Bool:=cF 19 Dp [.lst AI x0] []
def Uf (x0:List AC):Option Bool:=cF 20 CI [.lst AI x0] []
def Ug (x0:List AC):Option Bool:=cF 21 CX [.lst AI x0] []
def Uh (x0:List AC):Option Bool:=cF 22 DD [.lst AI x0] []
def P5 (x1:List Int) (b0:AO):Option (UV×AO):=cF 32 Dy [.ptr 0 0,.lst (.int .u8) x1] [.agg (BB.enc b0)]
def SP (x0:List Int):Option AO:=cF 33 Dq [.lst (.int .u8) x0] []
def OB (x0:List (List Int)):Option (AA×Bool):=cF 34 DU [.lst (.slice (.int .i64)) x0] []
def P6 (x0:AX):Option Bool:=cF 35 GW [.agg (Ad.enc x0)] []
def G5 (x1:AX) (x2:Int) (b0:AA):Option (Bool×AA):=cF 36 G1 [.ptr 0 0,.agg (Ad.enc x1),.int .i64 x2] [.agg (AZ.enc b0)]
def SQ (x0:Bool):Option Int:=cF 37 NM [.bool x0] []
def Ca (x0:AA):Option AA:=cF 38 BG [.agg (Af.enc x0)] []
def OC (x0:List (List Int)):Option (AA×Bool):=cF 39 DV [.lst (.slice (.int .i64)) x0] []
def Ui (x1:Int) (x2:AX) (b0:AA):Option (Int×AA):=cF 41 PQ [.ptr 0 0,.int .i64 x1,.agg (Ad.enc x2)] [.agg (Af.enc b0)]
def Ds (x0:Int):Option Bool:=cF 43 NN [.int .i64 x0] []
def Ae (x0 x1 x2:Int):Option Bool:=cF 44 LF [.int .i64 x0,.int .i64 x1,.int .i64 x2] []
def G6 (x0:List Int) (x1 x2:Int):Option Bool:=cF 45 CN [.lst (.int .i64) x0,.int .i64 x1,.int .i64 x2] []
def FA (x0:List X):Option Bool:=cF 46 Dz [.lst AB x0] []
def C5 (b0:O):Option (Bool×O):=cF 47 Fq [.ptr 0 0] [.agg (U.enc b0)]
def GG (x0:AC):Option Bool:=cF 48 NO [.agg (AI.enc x0)] []
def LY (x0:AC):Option Int:=cF 49 PR [.agg (AI.enc x0)] []
def IP (b0:AA):Option (Bool×AA):=cF 50 Ac [.ptr 0 0] [.agg (Af.enc b0)]
def D4 (x1 x2:Int) (b0:AA):Option AA:=cF 51 Fs [.ptr 0 0,.int .i64 x1,.int .i64 x2] [.agg (AZ.enc b0)]
def Uj (x0:List AC) (x1:AC):Option Bool:=cF 52 PS [.lst AI x0,.agg (AI.enc x1)] []
def SS (x0 x1:AC):Option Bool:=cF 53 NP [.agg (AI.enc x0),.agg (AI.enc x1)] []
def AW (x0 x1 x2:Int):Option Bool:=cF 56 PT [.int .i64 x0,.int .i64 x1,.int .i64 x2] []
def Cc (x0:List Int) (x1:Int):Option Bool:=cF 57 Da [.lst (.int .i64) x0,.int .i64 x1] []
def Dt (x0:List Int) (x1:Int):Option Bool:=cF 59 Ft [.lst (.int .i64) x0,.int .i64 x1] []
def FB (b0:AO):Option (Int×AO):=cF 61 LH [.ptr 0 0] [.agg (BB.enc b0)]
def CS (x1:Int) (b0:AO):Option (Int×AO):=cF 62 Jb [.ptr 0 0,.int .i64 x1] [.agg (BB.enc b0)]
def OD (b0:AO):Option (List (List Int)×AO):=cF 63 Bs [.ptr 0 0] [.agg (BB.enc b0)]
def P7 (b0:AO) (b1:AA):Option (AX×AO×AA):=cF 64 BK [.ptr 0 0,.ptr 1 0] [.agg (BB.enc b0),.agg (Af.enc b1)]
def DE (x0:List (List Int)):Option Bool:=cF 65 Bu [.lst (.slice (.int .i64)) x0] []
def Io (x0:List (List Int)):Option (List (List Int)):=cF 66 C0 [.lst (.slice (.int .i64)) x0] []
def Mv (x0:Int) (x1:List (List Int)):Option (O×Bool):=cF 67 E2 [.int .i64 x0,.lst (.slice (.int .i64)) x1] []
def LZ (x0 x1:Int) (x2 x3:ByteArray):Option Bool:=cF 68 Ij [.int .i64 x0,.int .i64 x1,.str x2,.str x3] []
def Ju (x1:AX) (x2:Int) (b0:AA):Option (Bool×AA):=cF 69 G2 [.ptr 0 0,.agg (Ad.enc x1),.int .i64 x2] [.agg (AZ.enc b0)]
def Jv (x1:AX) (x2:Int) (b0:AA):Option (Bool×AA):=cF 70 CO [.ptr 0 0,.agg (Ad.enc x1),.int .i64 x2] [.agg (AZ.enc b0)]
def Bo (x1:Int) (b0:AA):Option (Int×AA):=cF 71 GP [.ptr 0 0,.int .i64 x1] [.agg (AZ.enc b0)]
def Rd (x0:O):Option O:=cF 72 RL [.agg (U.enc x0)] []
def IQ (x1:AX) (x2:Int) (b0:AA):Option (Bool×AA):=cF 73 Fu [.ptr 0 0,.agg (Ad.enc x1),.int .i64 x2] [.agg (AZ.enc b0)]
def Ck (x0:O):Option O:=cF 75 Hn [.agg (U.enc x0)] []
def Gf (x0:Y):Option Y:=cF 76 LI [.agg (AE.enc x0)] []
def D5 (x0:List (List Int)):Option Bool:=cF 77 D0 [.lst (.slice (.int .i64)) x0] []
def I8 (x0:List (List Int)):Option (List (List Int)):=cF 78 CF [.lst (.slice (.int .i64)) x0] []
def Mw (x0:Int) (x1:List (List Int)):Option (O×Bool):=cF 79 E3 [.int .i64 x0,.lst (.slice (.int .i64)) x1] []
def OE (x1:Int) (x2:AX) (b0:AA):Option (Int×AA):=cF 80 Jc [.ptr 0 0,.int .i64 x1,.agg (Ad.enc x2)] [.agg (Af.enc b0)]
def OF (x1 x2:Int) (b0:AA):Option (Int×AA):=cF 81 DW [.ptr 0 0,.int .i64 x1,.int .i64 x2] [.agg (Af.enc b0)]
def E4 (x1:O) (x2:List Y) (x3:List AD) (x4:Int) (b0:AA):Option AA:=cF 82 CY [.ptr 0 0,.agg (U.enc x1),.lst AE x2,.lst Aq x3,.int .i64 x4] [.agg (Af.enc b0)]
def YK (x0:O):Option O:=cF 83 RN [.agg (U.enc x0)] []
def ST (x1:Int) (x2:AX) (b0:AA):Option (Int×AA):=cF 84 NQ [.ptr 0 0,.int .i64 x1,.agg (Ad.enc x2)] [.agg (Af.enc b0)]
def D6 (x0:O):Option O:=cF 86 LJ [.agg (U.enc x0)] []
def PY (x0:ByteArray):Option Bool:=cF 87 PU [.str x0] []
def La (x0:O) (x1:List (List Int)) (x2:Y):Option (O×List Y×List AD):=cF 89 GZ [.agg (U.enc x0),.lst (.slice (.int .i64)) x1,.agg (AE.enc x2)] []
def Fw (x1:List Y) (x2:List AD) (x3:Int) (b0:AA):Option AA:=cF 90 CJ [.ptr 0 0,.lst AE x1,.lst Aq x2,.int .i64 x3] [.agg (AZ.enc b0)]
def CC (x0:List AC) (x1:AC):Option Bool:=cF 91 BQ [.lst AI x0,.clo 92 AI x1] []
def P8 (x0 x1:AC):Option Bool:=cF 92 LK [.agg (AI.enc x0),.fptr [.int .i64 x1.1,.str x1.2.1,.str x1.2.2.1,.int .i64 x1.2.2.2.1,.int .i64 x1.2.2.2.2.1,.int .i64 x1.2.2.2.2.2.1,.int .i64 x1.2.2.2.2.2.2.1,.int .i64 x1.2.2.2.2.2.2.2.1,.str x1.2.2.2.2.2.2.2.2] 0] []
def DF (x0:List Int) (x1:Int):Option Int:=cF 95 Be [.lst (.int .i64) x0,.int .i64 x1] []
def Hq (x1:List Int) (b0:AO):Option (Int×AO):=cF 96 Ho [.ptr 0 0,.lst (.int .i64) x1] [.agg (BB.enc b0)]
def DG (x1:Int) (b0:AO):Option (Bool×AO):=cF 97 LL [.ptr 0 0,.int .i64 x1] [.agg (BB.enc b0)]
def Lb (x1:List ByteArray) (b0:AO):Option (ByteArray×AO):=cF 98 LN [.ptr 0 0,.lst .str x1] [.agg (BB.enc b0)]
def PZ (x0:O) (x1:List (List Int)) (x2 x3:Int) (x4 x5:ByteArray):Option (O×List Y×List AD×Bool):=cF 100 Dr [.agg (U.enc x0),.lst (.slice (.int .i64)) x1,.int .i64 x2,.int .i64 x3,.str x4,.str x5] []
def Pa (x0:O) (x1:List (List Int)) (x2:Int):Option (O×List Y×Bool):=cF 101 Fv [.agg (U.enc x0),.lst (.slice (.int .i64)) x1,.int .i64 x2] []
def B7 (x0:List O) (x1:Int):Option Int:=cF 102 AS [.lst U x0,.clo 103 (.int .i64) x1] []
def HZ (x0:O) (x1:Int):Option Bool:=cF 103 FP [.agg (U.enc x0),.fptr [.int .i64 x1] 0] []
def P9 (x0:List Int):Option Bool:=cF 105 D1 [.lst (.int .i64) x0] []
def Uk (x0:O) (x1:List (List Int)) (x2 x3:Int) (x4 x5:ByteArray):Option (O×List Y×List AD×Bool):=cF 106 Bn [.agg (U.enc x0),.lst (.slice (.int .i64)) x1,.int .i64 x2,.int .i64 x3,.str x4,.str x5] []
def Ul (x0:O) (x1:List (List Int)) (x2:Int):Option (O×List Y×Bool):=cF 107 Cq [.agg (U.enc x0),.lst (.slice (.int .i64)) x1,.int .i64 x2] []
def P_ (x0:O) (x1:List (List Int)) (x2:Y):Option (O×List Y×List AD):=cF 108 Bf [.agg (U.enc x0),.lst (.slice (.int .i64)) x1,.agg (AE.enc x2)] []
def Um (x0:Y):Option Bool:=cF 109 Ee [.agg (AE.enc x0)] []
def Jw (x1:List (List Int)) (x2:Y) (b0:O):Option (List Y×List AD×O):=cF 110 B6 [.ptr 0 0,.lst (.slice (.int .i64)) x1,.agg (AE.enc x2)] [.agg (U.enc b0)]
def CP (x0:List AC) (x1:AC):Option Int:=cF 111 Aa [.lst AI x0,.clo 92 AI x1] []
def G7 (x1:List (List Int)) (b0:O):Option (Bool×O):=cF 113 CZ [.ptr 0 0,.lst (.slice (.int .i64)) x1] [.agg (U.enc b0)]
def NR (x0:List X) (x1:ByteArray):Option X:=cF 114 En [.lst AB x0,.str x1] []
def B1 (x1:List Int) (b0:O):Option (List Int×O):=cF 115 B0 [.ptr 0 0,.lst (.int .i64) x1] [.agg (U.enc b0)]
def Cm (b0:List Int):Option (List Int):=cF 116 FQ [.row 0] [.new 3 (.int .i64) b0]
def G8 (b0:O):Option (List AD×O):=cF 117 Di [.ptr 0 0] [.agg (U.enc b0)]
def Ah (x1:List Int) (x2:Y) (b0:O):Option (List Y×O):=cF 118 Bl [.ptr 0 0,.lst (.int .i64) x1,.agg (AE.enc x2)] [.agg (U.enc b0)]
def Fx (b0:O):Option O:=cF 119 Hp [.ptr 0 0] [.agg (U.enc b0)]
def DH (x1:List Int) (x2:List X) (b0:O):Option (List Y×O):=cF 120 Ef [.ptr 0 0,.lst (.int .i64) x1,.lst AB x2] [.agg (U.enc b0)]
def Fe (x0:O):Option Bool:=cF 121 Fc [.agg (U.enc x0)] []
def NS (x0:List X) (x1:ByteArray):Option X:=cF 122 Eo [.lst AB x0,.str x1] []
def IR (x0:List X) (x1:X):Option (List X):=cF 123 Aw [.lst AB x0,.agg (AB.enc x1)] []
def Gg (x0:List Int) (x1:Int):Option (List Int):=cF 124 C3 [.lst (.int .i64) x0,.int .i64 x1] []
def Gh (b0:O):Option (List AD×O):=cF 125 Ik [.ptr 0 0] [.agg (U.enc b0)]
def NT (x1:List Int) (x2:List X) (b0:O):Option (List Y×O):=cF 126 Ep [.ptr 0 0,.lst (.int .i64) x1,.lst AB x2] [.agg (U.enc b0)]
def Un (x0:Y):Option Bool:=cF 127 Eg [.agg (AE.enc x0)] []
def SU (x0:O) (x1:List Int) (x2:Y):Option (O×List Y×List AD):=cF 128 CR [.agg (U.enc x0),.lst (.int .i64) x1,.agg (AE.enc x2)] []
def Lc (x0:O) (x1:Int):Option O:=cF 129 LU [.agg (U.enc x0),.int .i64 x1] []
def EJ (x0:O) (x1:Y) (x2:Int):Option (List Y):=cF 130 Jd [.agg (U.enc x0),.agg (AE.enc x1),.int .i64 x2] []
def Jx (x1:List (List Int)) (x2:Y) (b0:O):Option (List Y×O):=cF 131 Dj [.ptr 0 0,.lst (.slice (.int .i64)) x1,.agg (AE.enc x2)] [.agg (U.enc b0)]
def Ha (x1:List Int) (x2:Y) (b0:O):Option (List Y×O):=cF 132 BW [.ptr 0 0,.lst (.int .i64) x1,.agg (AE.enc x2)] [.agg (U.enc b0)]
def Ld (x0:List Int) (x1:Int):Option (List Int):=cF 133 LV [.lst (.int .i64) x0,.int .i64 x1] []
def I9 (x1:Y) (b0:O):Option (List Y×O):=cF 134 DP [.ptr 0 0,.agg (AE.enc x1)] [.agg (U.enc b0)]
def Fy (x1:Int) (x2:Y) (b0:O):Option (List AD×O):=cF 135 C4 [.ptr 0 0,.int .i64 x1,.agg (AE.enc x2)] [.agg (U.enc b0)]
def CK (x1 x2 x3:Int) (b0:List Int):Option (List Int):=cF 137 AU [.row 0,.int .i64 x1,.int .i64 x2,.int .i64 x3] [.new 3 (.int .i64) b0]
def OG (x0:Int):Option Int:=cF 138 Je [.int .u64 x0] []
def Le (x0:List X) (x1:X):Option (List X):=cF 139 D2 [.lst AB x0,.agg (AB.enc x1)] []
def DA (x0:List Int):Option Bool:=cF 140 Er [.lst (.int .i64) x0] []
def DI (x0:List X):Option Bool:=cF 141 D3 [.lst AB x0] []
def Mx (x0:pK):Option Bool:=cF 142 Il [.agg (K6.enc x0)] []
def Hr (x0:List Int) (x1:Int):Option (List Int):=cF 143 Ci [.lst (.int .i64) x0,.int .i64 x1] []
def C8 (x1 x2:Int) (b0:List Int):Option (List Int):=cF 148 AQ [.row 0,.int .i64 x1,.int .i64 x2] [.new 3 (.int .i64) b0]
def Lf (x0 x1:Int):Option Bool:=cF 154 LX [.int .i64 x0,.int .i64 x1] []
def Lg (x0:Int):Option Int:=cF 158 Cj [.int .u64 x0] []
def BO (x0:List X) (x1:ByteArray) (x2:Unit):Option (Int×Bool):=cF 159 AH [.lst AB x0,.str x1,.fn 160 []] []
def Ip (x0:X) (x1:ByteArray):Option Int:=cF 160 Im [.agg (AB.enc x0),.str x1] []
def Jg (x0:Int):Option Bool:=cF 169 Jf [.int .i64 x0] []
def Cx (q0:List AC):Option (List AC):=(cP 74 [.lst AI q0] []).bind (Ce [(.own 47 AI)])
def BZ (q0:List Y) (q1 q2:Int):Option (List Y):=(cP 88 [.new 97 AE q0,.int .i64 q1,.int .i64 q2] []).bind (Ce [(.own 97 AE)])
def Bg (q0:List Int):Option (List Int):=(cP 99 [.lst (.int .i64) q0] []).bind (Ce [(.own 3 (.int .i64))])
def Ag (q0:List X):Option (List X):=(cP 104 [.lst AB q0] []).bind (Ce [(.own 38 AB)])
def Ei (q0:List Int) (q1:Int):Option (List Int):=(cP 144 [.new 3 (.int .i64) q0,.clo 145 (.int .i64) q1] []).bind (Ce [(.own 3 (.int .i64))])
def OH (q0 q1:Int) (q2:List Int):Option (List Int):=(cP 149 [.row 0,.int .i64 q0,.int .i64 q1] [.new 3 (.int .i64) q2]).bind (Ce [(.own 3 (.int .i64))])
def Kn (q0 q1:Int) (q2:List Int):Option (List Int):=(cP 150 [.row 0,.int .i64 q0,.int .i64 q1] [.new 3 (.int .i64) q2]).bind (Ce [(.own 3 (.int .i64))])
def MP (q0 q1:Int) (q2:List Int):Option (Int×Int×List Int):=(cP 151 [.row 0,.int .i64 q0,.int .i64 q1] [.new 3 (.int .i64) q2]).bind (Ce [(.int .i64),(.int .i64),(.own 3 (.int .i64))])
def Lh (q0 q1:Int) (q2:List Int):Option (List Int):=(cP 152 [.row 0,.int .i64 q0,.int .i64 q1] [.new 3 (.int .i64) q2]).bind (Ce [(.own 3 (.int .i64))])
def Hc (q0 q1:Int) (q2:List Int):Option (Bool×List Int):=(cP 153 [.row 0,.int .i64 q0,.int .i64 q1] [.new 3 (.int .i64) q2]).bind (Ce [.bool,(.own 3 (.int .i64))])
def Jy (q0 q1 q2:Int) (q3:List Int):Option (Int×List Int):=(cP 155 [.row 0,.int .i64 q0,.int .i64 q1,.int .i64 q2] [.new 3 (.int .i64) q3]).bind (Ce [(.int .i64),(.own 3 (.int .i64))])
def Nl (q0 q1 q2:Int) (q3:List Int):Option (Int×Bool×List Int):=(cP 156 [.row 0,.int .i64 q0,.int .i64 q1,.int .i64 q2] [.new 3 (.int .i64) q3]).bind (Ce [(.int .i64),.bool,(.own 3 (.int .i64))])
def Cn (q0:List X) (q1:Int) (q2:List X):Option (List X):=(cP 162 [.new 38 AB q0,.int .i64 q1,.new 38 AB q2] []).bind (Ce [(.own 38 AB)])
def Li (q0 q1:ByteArray):Option Int:=(cP 161 [.str q0,.str q1] []).bind (Ce [(.int .i64)])
theorem Jz {x0:List AC} (h:x0.length≤68719476736):Cx x0=some x0:=by
 unfold Cx cP
 rw [Mq (r:=[.new 47 AI x0]) rfl (l8 (t:=47) (K:=AI) (xs:=x0) h)]
 rfl
theorem FX {x0:List Y} {i j:Nat} (hi:i≤j) (hj:j≤x0.length):BZ x0 (i:Int) (j:Int)=some (x0.take i++x0.drop j):=by
 unfold BZ cP
 rw [Mq (r:=[.new 97 AE (x0.take i++x0.drop j)]) rfl (w6 (t:=97) (K:=AE) (xs:=x0) hi hj)]
 rfl
theorem Cb {x0:List Int} (h:x0.length≤68719476736):Bg x0=some x0:=by
 unfold Bg cP
 rw [Mq (r:=[.new 3 (.int .i64) x0]) rfl (l8 (t:=3) (K:=(.int .i64)) (xs:=x0) h)]
 rfl
theorem Az {x0:List X} (h:x0.length≤68719476736):Ag x0=some x0:=by
 unfold Ag cP
 rw [Mq (r:=[.new 38 AB x0]) rfl (l8 (t:=38) (K:=AB) (xs:=x0) h)]
 rfl
theorem Pb {x0:List Int} {x1:Int}:Ei x0 x1=some (x0.filter fun x=>!(x==x1)):=by
 unfold Ei cP
 rw [Mq (fns:=fns) (prims:=prims) (f:=144) (args:=[.new 3 (.int .i64) x0,.clo 145 (.int .i64) x1]) (bs:=[]) (r:=[.new 3 (.int .i64) (x0.filter fun x=>!(x==x1))]) rfl (vI (t:=3) (g:=145) (xs:=x0) (n:=x1))]
 rfl
theorem cn {x0 x1:ByteArray}:Li x0 x1=some (Go.Lib.compareBytes x0.data.toList x1.data.toList):=by
 unfold Li cP
 rw [Mq (r:=[.int .i64 (Go.Lib.compareBytes x0.data.toList x1.data.toList)]) rfl rfl]
 rfl
theorem JO {x0:List X} {i:Nat} {x2:List X} (h:x0.length+x2.length≤68719476736) (hi:i≤x0.length) (hv:x2.length≠0):Cn x0 (i:Int) x2=some (x0.take i++x2++x0.drop i):=by
 unfold Cn cP
 rw [Mq (r:=[.new 38 AB (x0.take i++x2++x0.drop i)]) rfl (wu (t:=38) (K:=AB) (xs:=x0) (vs:=x2) (i:=i) h hi hv)]
 rfl
end
end Go.Proofs.YtokiohnjegbnpaaGreat.Core

namespace Go.Proofs.YtokiohnjegbnpaaGreat.Core
open Go IntKind
set_option linter.unusedVariables false
set_option maxRecDepth 100000
noncomputable section
def ff:=cG LE (AF BT) (AF BT) kx
def My:=kE 0 [] [5,8] 2 ff kx
def Re:St→Option (RT (BL.outs BT)):=lG Qy [] [5,8,9] 2 (AF BT) My
def fg:=kB [] [5,8,9] 2 Re
def TL:=cG Qx fg (AF BT) My
def fh:=kB [] [5,8,9] 2 TL
def fi:=kE 1 [] [5,8,9] 2 TL My
def fj:=kE 2 [] [5,8,9] 3 fh fi
def cp:St→Option (RT (BL.outs BT)):=lG Sv [] [5,8,9,10,11] 3 (AF BT) fj
def Bh (x0 x1:Int) (x2 x3:AA) (x4:AC):Option Bool:=cp ⟨[(5,.ptr 0 0),(8,.ptr 1 0),(9,.int .i64 x0),(10,.ptr 2 0),(11,.int .i64 x1)],[.var (Af.enc x2),.var (Af.enc x3),.var (AI.enc x4)]⟩
def Rf (x0 x1:AA):Option Bool:=cG LE (AF BT) (AF BT) kx ⟨[(5,.ptr 0 0),(8,.ptr 1 0)],[.var (Af.enc x0),.var (Af.enc x1)]⟩
def Hs (x0:Int) (x1 x2:AA):Option Bool:=Re ⟨[(5,.ptr 0 0),(8,.ptr 1 0),(9,.int .i64 x0)],[.var (Af.enc x1),.var (Af.enc x2)]⟩
def Rg (x0:Bool) (x1:AA):Option Bool:=cG Qz (AF BT) (AF BT) kx ⟨[(5,.ptr 0 0),(36,.bool x0)],[.var (Af.enc x1)]⟩
def Lj (x0 x1:Int) (x2 x3:AA) (x4:AC):Option Bool:=(if (decide (x1<(x3.2.2.2.length:Int)))=true then (if 0≤x1 then (if x1<(x3.2.2.2.length:Int) then (if (x4.1==2)=true then (if (decide (x4.2.2.2.2.1≥0))=true then (if (((x3.2.2.2.getD x1.toNat (0,ByteArray.empty,ByteArray.empty,0,0,0,0,0,ByteArray.empty)).1)==1)=true then (if (decide (((((((x3.2.2.2.getD x1.toNat (0,ByteArray.empty,ByteArray.empty,0,0,0,0,0,ByteArray.empty)).2).2).2).2).1)≥0))=true then (if ((((x3.2.2.2.getD x1.toNat (0,ByteArray.empty,ByteArray.empty,0,0,0,0,0,ByteArray.empty)).2).1).toList==x4.2.1.toList)=true then (if (decide (((((((x3.2.2.2.getD x1.toNat (0,ByteArray.empty,ByteArray.empty,0,0,0,0,0,ByteArray.empty)).2).2).2).2).1)<x4.2.2.2.1))=true then (if (decide (x4.2.2.2.2.2.1<(((((((x3.2.2.2.getD x1.toNat (0,ByteArray.empty,ByteArray.empty,0,0,0,0,0,ByteArray.empty)).2).2).2).2).2).1)))=false then (if (x4.2.2.2.2.2.1==(((((((x3.2.2.2.getD x1.toNat (0,ByteArray.empty,ByteArray.empty,0,0,0,0,0,ByteArray.empty)).2).2).2).2).2).1))=true then (if (!(x4.2.2.2.2.2.2.2.2.toList==((((x3.2.2.2.getD x1.toNat (0,ByteArray.empty,ByteArray.empty,0,0,0,0,0,ByteArray.empty)).2).2).1).toList))=true then (some false) else (Bh x0 (i64.wrap (x1+1)) x2 x3 x4)) else (Bh x0 (i64.wrap (x1+1)) x2 x3 x4)) else (some false)) else (Bh x0 (i64.wrap (x1+1)) x2 x3 x4)) else (Bh x0 (i64.wrap (x1+1)) x2 x3 x4)) else (Bh x0 (i64.wrap (x1+1)) x2 x3 x4)) else (Bh x0 (i64.wrap (x1+1)) x2 x3 x4)) else (Bh x0 (i64.wrap (x1+1)) x2 x3 x4)) else (Bh x0 (i64.wrap (x1+1)) x2 x3 x4)) else none) else none) else (Hs (i64.wrap (x0+1)) x2 x3))
def Rh (x0 x1:AA):Option Bool:=((Ue x1.2.2.2).bind fun y5=>(if y5=true then ((Uf x1.2.2.2).bind fun y6=>(if y6=true then ((Ug x1.2.2.2).bind fun y7=>(if y7=true then ((Uh x1.2.2.2).bind fun y8=>(if y8=true then (some ((x1.2.2.2.length:Int)==(x0.2.2.2.length:Int))) else (some false))) else (some false))) else (some false))) else (some false)))
def Lk (x0:Int) (x1 x2:AA):Option Bool:=(if (decide (x0<(x2.2.2.2.length:Int)))=true then (if 0≤x0 then (if x0<(x2.2.2.2.length:Int) then (Bh x0 0 x1 x2 (x2.2.2.2.getD x0.toNat (0,ByteArray.empty,ByteArray.empty,0,0,0,0,0,ByteArray.empty))) else none) else none) else (Rf x1 x2))
def Ri (x0:Bool) (x1:AA):Option Bool:=((YJ x1 1000).bind fun y4=>(Hs 0 x1 y4))
def YL (x0:List Int):Option Bool:=((ar x0).bind fun y1=>(if y1=true then (some true) else ((N_ x0).bind fun y2=>((OA y2.1 y2.2).bind fun y3=>(if (!y3.2.2)=false then (if ((y3.1.1.length:Int) != (y2.1.length:Int))=true then (some false) else (Rg ((y3.1.1.length:Int) != (y2.1.length:Int)) y3.1)) else (some false))))))
theorem Rj:sJ Lj Bh:=lS (by kernel_rfl)
theorem cq:Oh Rh Rf:=jS (by kernel_rfl)
theorem Rk:Qw Lk Hs:=lS (by kernel_rfl)
theorem cr:Oh Ri Rg:=jS (by kernel_rfl)
theorem l_:PO YL YI:=cT BT rfl ⟨rfl,rfl⟩ (by kernel_rfl)
def sN (x0:List Int):Option Bool:=(some (decide ((x0.length:Int)>1048576)))
theorem sO:PO sN ar:=cT UZ rfl ⟨rfl,rfl⟩ (by kernel_rfl)
def WJ (x0:List Int):Option (List (List Int)×List AX):=((SP x0).bind fun y1=>((P5 x0 y1).bind fun y2=>(some (y2.1.1,y2.1.2))))
theorem i7:PO WJ N_:=cT Ja rfl ⟨rfl,rfl⟩ (by kernel_rfl)
def ct:=cG Ps (AF A_) (AF A_) kx
def cv:=kE 2 [(11,11)] [4,7,11] 12 ct kx
def au:St→Option (RT (BL.outs A_)):=lG Pr [(11,11)] [4,7,11,39,40,41] 12 (AF A_) cv
def cw:=cG Jt (AF A_) (AF A_) kx
def cz:=kE 0 [] [1,4,7] 11 cw kx
def ax:St→Option (RT (BL.outs A_)):=lG Q0 [] [1,4,7,28,29,30] 11 (AF A_) cz
def FC (x0:List AX) (x1 x2:Int) (x3:List O) (x4:List Y) (x5:List AC) (x6:List (List Int)) (x7:List O) (x8:List Y) (x9:List AC) (x10:List (List Int)) (x11:List Int):Option (AA×List Int×Bool):=au ⟨[(4,.ptr 3 0),(7,.ptr 10 0),(11,.row 11),(39,.lst Ad x0),(40,.int .i64 x1),(41,.int .i64 x2)],[.rows 42 U x3,.rows 97 AE x4,.rows 47 AI x5,.var [.lst (.slice (.int .i64)) x6,.row 0,.row 1,.row 2],.dead,.dead,.dead,.rows 42 U x7,.rows 97 AE x8,.rows 47 AI x9,.var [.lst (.slice (.int .i64)) x10,.row 7,.row 8,.row 9],.rows 3 (.int .i64) x11]⟩
def QA (x0:List AX) (x1:List O) (x2:List Y) (x3:List AC) (x4:List (List Int)) (x5:List O) (x6:List Y) (x7:List AC) (x8:List (List Int)):Option (AA×List Int×Bool):=cG Jt (AF A_) (AF A_) kx ⟨[(1,.lst Ad x0),(4,.ptr 3 0),(7,.ptr 10 0)],[.rows 42 U x1,.rows 97 AE x2,.rows 47 AI x3,.var [.lst (.slice (.int .i64)) x4,.row 0,.row 1,.row 2],.dead,.dead,.dead,.rows 42 U x5,.rows 97 AE x6,.rows 47 AI x7,.var [.lst (.slice (.int .i64)) x8,.row 7,.row 8,.row 9]]⟩
def FD (x0 x1:List AX) (x2 x3:Int) (x4:List O) (x5:List Y) (x6:List AC) (x7:List (List Int)) (x8:List O) (x9:List Y) (x10:List AC) (x11:List (List Int)):Option (AA×List Int×Bool):=ax ⟨[(1,.lst Ad x0),(4,.ptr 3 0),(7,.ptr 10 0),(28,.lst Ad x1),(29,.int .i64 x2),(30,.int .i64 x3)],[.rows 42 U x4,.rows 97 AE x5,.rows 47 AI x6,.var [.lst (.slice (.int .i64)) x7,.row 0,.row 1,.row 2],.dead,.dead,.dead,.rows 42 U x8,.rows 97 AE x9,.rows 47 AI x10,.var [.lst (.slice (.int .i64)) x11,.row 7,.row 8,.row 9]]⟩
def QB (x0:List AX) (x1:Bool) (x2:List O) (x3:List Y) (x4:List AC) (x5:List (List Int)) (x6:List O) (x7:List Y) (x8:List AC) (x9:List (List Int)):Option (AA×List Int×Bool):=cG Pt (AF A_) (AF A_) kx ⟨[(1,.lst Ad x0),(4,.ptr 3 0),(7,.ptr 10 0),(26,.bool x1)],[.rows 42 U x2,.rows 97 AE x3,.rows 47 AI x4,.var [.lst (.slice (.int .i64)) x5,.row 0,.row 1,.row 2],.dead,.dead,.dead,.rows 42 U x6,.rows 97 AE x7,.rows 47 AI x8,.var [.lst (.slice (.int .i64)) x9,.row 7,.row 8,.row 9]]⟩
def J6 (x0:List AX) (x1 x2:Int) (x3:List O) (x4:List Y) (x5:List AC) (x6:List (List Int)) (x7:List O) (x8:List Y) (x9:List AC) (x10:List (List Int)) (x11:List Int):Option (AA×List Int×Bool):=(if (decide (x2<x1))=true then (if 0≤x2 then (if x2<(x0.length:Int) then ((G5 (x0.getD x2.toNat (0,0,0,0,ByteArray.empty,ByteArray.empty)) x2 (x10,x7,x8,x9)).bind fun y3=>((SQ y3.1).bind fun y4=>(if x11.length+([y4]:List Int).length≤68719476736 then (FC x0 x1 (i64.wrap (x2+1)) x3 x4 x5 x6 y3.2.2.1 y3.2.2.2.1 y3.2.2.2.2 y3.2.1 (x11++([y4]:List Int))) else none))) else none) else none) else ((Ca (x10,x7,x8,x9)).bind fun y5=>(some (y5,x11,true))))
def QC (x0:List AX) (x1:List O) (x2:List Y) (x3:List AC) (x4:List (List Int)) (x5:List O) (x6:List Y) (x7:List AC) (x8:List (List Int)):Option (AA×List Int×Bool):=(FC x0 (x0.length:Int) 0 x1 x2 x3 x4 x5 x6 x7 x8 ([]:List Int))
def J7 (x0 x1:List AX) (x2 x3:Int) (x4:List O) (x5:List Y) (x6:List AC) (x7:List (List Int)) (x8:List O) (x9:List Y) (x10:List AC) (x11:List (List Int)):Option (AA×List Int×Bool):=(if (decide (x3<x2))=true then (if 0≤x3 then (if x3<(x1.length:Int) then ((P6 (x1.getD x3.toNat (0,0,0,0,ByteArray.empty,ByteArray.empty))).bind fun y2=>(if (!y2)=true then (some (([],([]:List O),([]:List Y),([]:List AC)),[],false)) else (FD x0 x1 x2 (i64.wrap (x3+1)) x4 x5 x6 x7 x8 x9 x10 x11))) else none) else none) else (QA x0 x4 x5 x6 x7 x8 x9 x10 x11))
def QD (x0:List AX) (x1:Bool) (x2:List O) (x3:List Y) (x4:List AC) (x5:List (List Int)) (x6:List O) (x7:List Y) (x8:List AC) (x9:List (List Int)):Option (AA×List Int×Bool):=(FD x0 x0 (x0.length:Int) 0 x2 x3 x4 x5 x6 x7 x8 x9)
def WK (x0:List (List Int)) (x1:List AX):Option (AA×List Int×Bool):=((OB x0).bind fun y1=>(if (!y1.2)=false then (if (decide ((x1.length:Int)>70))=true then (some (([],([]:List O),([]:List Y),([]:List AC)),[],false)) else (QB x1 (decide ((x1.length:Int)>70)) ([]:List O) ([]:List Y) ([]:List AC) ([]:List (List Int)) y1.1.2.1 y1.1.2.2.1 y1.1.2.2.2 y1.1.1)) else (some (([],([]:List O),([]:List Y),([]:List AC)),[],false))))
theorem QE:xx J6 FC:=lS (by kernel_rfl)
theorem ay:yM QC QA:=jS (by kernel_rfl)
theorem QF:xx J7 FD:=lS (by kernel_rfl)
theorem az:rB QD QB:=jS (by kernel_rfl)
theorem i8:Oh WK OA:=cT A_ rfl ⟨rfl,rfl⟩ (by kernel_rfl)
def J8 (x0:Bool) (x1:O):Option Bool:=cG Q1 (AF Fb) (AF Fb) kx ⟨[(1,.ptr 0 0),(30,.bool x0)],[.var (U.enc x1)]⟩
def QG (x0:Bool) (x1:O):Option Bool:=(if x1.2.2.2.2.2.1=true then (if (!x1.2.2.2.1)=false then (if (!x1.2.2.2.2.1)=false then (if (decide ((x1.2.2.2.2.2.2.1.length:Int)>0))=false then (if x1.2.2.1=true then (if x1.2.2.2.1=false then (if x1.2.2.2.2.1=true then (some false) else ((C5 x1).bind fun y6=>(some y6.1))) else (some false)) else ((C5 x1).bind fun y7=>(some y7.1))) else (some false)) else (some false)) else (some false)) else (if x1.2.2.1=true then (if x1.2.2.2.1=false then (if x1.2.2.2.2.1=true then (some false) else ((C5 x1).bind fun y8=>(some y8.1))) else (some false)) else ((C5 x1).bind fun y9=>(some y9.1))))
def WL (x0:O):Option Bool:=((Ds x0.1).bind fun y1=>(if (!y1)=false then ((Ae x0.2.1 1 9).bind fun y2=>(if (!y2)=false then ((G6 x0.2.2.2.2.2.2.1 1 6).bind fun y3=>(if (!y3)=false then ((FA x0.2.2.2.2.2.2.2.1).bind fun y4=>(if (!y4)=false then ((Ae x0.2.2.2.2.2.2.2.2.1 0 900).bind fun y5=>(if (!y5)=true then (some false) else (J8 (!y5) x0))) else (some false))) else (some false))) else (some false))) else (some false)))
theorem a_:Oh QG J8:=jS (by kernel_rfl)
theorem i9:PO WL Fd:=cT Fb rfl ⟨rfl,rfl⟩ (by kernel_rfl)
def c_ (x0:AC):Option Int:=((Ae x0.2.2.2.2.2.2.1 0 9).bind fun y1=>(if (!y1)=false then ((Ae x0.2.2.2.2.2.2.2.1 0 999).bind fun y2=>(if (!y2)=true then (some 0) else (some (i64.wrap ((i64.wrap (1000*x0.2.2.2.2.2.2.1))+x0.2.2.2.2.2.2.2.1))))) else (some 0)))
theorem p9:PO c_ G4:=cT PP rfl ⟨rfl,rfl⟩ (by kernel_rfl)
def nw:=cG aA (AF Gu) (AF Gu) kx
def nx:=kE 0 [] [4,5] 12 nw kx
def mA:St→Option (RT (BL.outs Gu)):=lG Z_ [] [4,5,6] 12 (AF Gu) nx
def Ll (x0:Int) (x1:AA) (x2:List O) (x3:List Y) (x4:List AC) (x5:List (List Int)) (x6:List O) (x7:List Y) (x8:List AC) (x9:List (List Int)):Option AA:=mA ⟨[(4,.ptr 4 0),(5,.ptr 11 0),(6,.int .i64 x0)],[.var (Af.enc x1),.rows 42 U x2,.rows 97 AE x3,.rows 47 AI x4,.var [.lst (.slice (.int .i64)) x5,.row 1,.row 2,.row 3],.dead,.dead,.dead,.rows 42 U x6,.rows 97 AE x7,.rows 47 AI x8,.var [.lst (.slice (.int .i64)) x9,.row 8,.row 9,.row 10]]⟩
def QH (x0:Int) (x1:AA) (x2:List O) (x3:List Y) (x4:List AC) (x5:List (List Int)) (x6:List O) (x7:List Y) (x8:List AC) (x9:List (List Int)):Option AA:=(if (decide (x0>0))=true then (if (decide ((x7.length:Int)>0))=true then ((D4 0 70 (x9,x6,x7,x8)).bind fun y3=>(Ll (i64.wrap (x0-1)) x1 x2 x3 x4 x5 y3.2.1 y3.2.2.1 y3.2.2.2 y3.1)) else ((Ca (x9,x6,x7,x8)).bind fun y4=>(some y4))) else ((Ca (x9,x6,x7,x8)).bind fun y5=>(some y5)))
def iQ (x0:AA) (x1:Int):Option AA:=((Ca x0).bind fun y1=>((IP x0).bind fun y2=>(if (!y2.1)=true then (some y1) else (Ll (min x1 1000) y2.2 ([]:List O) ([]:List Y) ([]:List AC) ([]:List (List Int)) y1.2.1 y1.2.2.1 y1.2.2.2 y1.1))))
theorem YM:rB QH Ll:=lS (by kernel_rfl)
theorem rM:Oh iQ YJ:=cT Gu rfl ⟨rfl,rfl⟩ (by kernel_rfl)
def mB:=cG VG (AF Dp) (AF Dp) kx
def QI:=kE 0 [] [] 0 mB kx
def WM:St→Option (RT (BL.outs Dp)):=lG VD [] [0,5,6,7] 0 (AF Dp) QI
def mC:=kB [] [0,5,6,7] 0 WM
def YN:=cG Xw mC (AF Dp) QI
def mD:=kB [] [0,5,6,7] 0 YN
def mE:=kE 1 [] [0,5,6,7] 0 YN QI
def OI (x0 x1:List AC) (x2 x3:Int) (x4:Bool) (x5:AC):Option Bool:=cG Xv mD (AF Dp) mE ⟨[(0,.lst AI x0),(4,.ptr 0 0),(5,.lst AI x1),(6,.int .i64 x2),(7,.int .i64 x3),(18,.bool x4)],[.var (AI.enc x5)]⟩
def EK (x0 x1:List AC) (x2 x3:Int):Option Bool:=WM ⟨[(0,.lst AI x0),(5,.lst AI x1),(6,.int .i64 x2),(7,.int .i64 x3)],[]⟩
def WN (x0 x1:List AC) (x2 x3:Int) (x4:Bool) (x5:AC):Option Bool:=(if (x5.2.2.2.2.2.1==0)=true then (if (!(x5.2.2.2.2.2.2.2.2.toList==(⟨#[]⟩:ByteArray).toList))=true then (some false) else (EK x0 x1 x2 (i64.wrap (x3+1)))) else ((Uj x0 x5).bind fun y2=>(if (!y2)=true then (some false) else ((G4 x5).bind fun y3=>(if (decide (x5.2.2.2.2.2.1>y3))=true then (some false) else (EK x0 x1 x2 (i64.wrap (x3+1))))))))
def OJ (x0 x1:List AC) (x2 x3:Int):Option Bool:=(if (decide (x3<x2))=true then (if 0≤x3 then (if x3<(x1.length:Int) then (if (((x1.getD x3.toNat (0,ByteArray.empty,ByteArray.empty,0,0,0,0,0,ByteArray.empty)).1) != 2)=false then ((GG (x1.getD x3.toNat (0,ByteArray.empty,ByteArray.empty,0,0,0,0,0,ByteArray.empty))).bind fun y1=>(if (!y1)=true then (EK x0 x1 x2 (i64.wrap (x3+1))) else (OI x0 x1 x2 x3 (!y1) (x1.getD x3.toNat (0,ByteArray.empty,ByteArray.empty,0,0,0,0,0,ByteArray.empty))))) else (EK x0 x1 x2 (i64.wrap (x3+1)))) else none) else none) else (some true))
def dA (x0:List AC):Option Bool:=(EK x0 x0 (x0.length:Int) 0)
theorem i_:t_ WN OI:=jS (by kernel_rfl)
theorem WO:bl OJ EK:=lS (by kernel_rfl)
theorem p_:PO dA Ue:=cT Dp rfl ⟨rfl,rfl⟩ (by kernel_rfl)
def mF:=cG VK (AF CI) (AF CI) kx
def QJ:=kE 0 [] [] 0 mF kx
def WP:St→Option (RT (BL.outs CI)):=lG VJ [] [0,3] 0 (AF CI) QJ
def mG:=kB [] [0,3] 0 WP
def YO:=cG VI mG (AF CI) QJ
def QK:=kB [] [0,3] 0 YO
def Ln:=kE 1 [] [0,3] 0 YO QJ
def mH:=cG N9 QK (AF CI) Ln
def mI:=kE 2 [] [0,3,4,5] 1 mH Ln
def jA:St→Option (RT (BL.outs CI)):=lG Xx [] [0,3,4,5,6] 1 (AF CI) mI
def OK (x0:List AC) (x1:Int) (x2:Bool) (x3:AC):Option Bool:=cG N9 QK (AF CI) Ln ⟨[(0,.lst AI x0),(3,.int .i64 x1),(4,.ptr 0 0),(5,.bool x2)],[.var (AI.enc x3)]⟩
def Ff (x0:List AC) (x1:Int) (x2:Bool) (x3:Int) (x4:AC):Option Bool:=jA ⟨[(0,.lst AI x0),(3,.int .i64 x1),(4,.ptr 0 0),(5,.bool x2),(6,.int .i64 x3)],[.var (AI.enc x4)]⟩
def OL (x0:List AC) (x1:Int) (x2:Bool) (x3:AC):Option Bool:=cG VH QK (AF CI) Ln ⟨[(0,.lst AI x0),(3,.int .i64 x1),(4,.ptr 0 0),(24,.bool x2)],[.var (AI.enc x3)]⟩
def EL (x0:List AC) (x1:Int):Option Bool:=WP ⟨[(0,.lst AI x0),(3,.int .i64 x1)],[]⟩
def WQ (x0:List AC) (x1:Int) (x2:Bool) (x3:AC):Option Bool:=(if (!x2)=true then (some false) else ((LY x3).bind fun y2=>(if (decide (x3.2.2.2.2.2.1>y2))=true then (some false) else (EL x0 (i64.wrap (x1+1))))))
def OM (x0:List AC) (x1:Int) (x2:Bool) (x3:Int) (x4:AC):Option Bool:=(if (decide (x3<(x0.length:Int)))=true then (if x2=true then (Ff x0 x1 true (i64.wrap (x3+1)) x4) else (if 0≤x3 then (if x3<(x0.length:Int) then ((SS x4 (x0.getD x3.toNat (0,ByteArray.empty,ByteArray.empty,0,0,0,0,0,ByteArray.empty))).bind fun y1=>(Ff x0 x1 y1 (i64.wrap (x3+1)) x4)) else none) else none)) else (OK x0 x1 x2 x4))
def WR (x0:List AC) (x1:Int) (x2:Bool) (x3:AC):Option Bool:=(if (x3.2.2.2.2.2.1==0)=true then (if (!(x3.2.2.2.2.2.2.2.2.toList==(⟨#[]⟩:ByteArray).toList))=true then (some false) else (EL x0 (i64.wrap (x1+1)))) else (Ff x0 x1 false 0 x3))
def ON (x0:List AC) (x1:Int):Option Bool:=(if (decide (x1<(x0.length:Int)))=true then (if 0≤x1 then (if x1<(x0.length:Int) then (if (((x0.getD x1.toNat (0,ByteArray.empty,ByteArray.empty,0,0,0,0,0,ByteArray.empty)).1) != 2)=false then (if (decide (((((((x0.getD x1.toNat (0,ByteArray.empty,ByteArray.empty,0,0,0,0,0,ByteArray.empty)).2).2).2).2).1)<0))=true then (EL x0 (i64.wrap (x1+1))) else (OL x0 x1 (decide (((((((x0.getD x1.toNat (0,ByteArray.empty,ByteArray.empty,0,0,0,0,0,ByteArray.empty)).2).2).2).2).1)<0)) (x0.getD x1.toNat (0,ByteArray.empty,ByteArray.empty,0,0,0,0,0,ByteArray.empty)))) else (EL x0 (i64.wrap (x1+1)))) else none) else none) else (some true))
def dB (x0:List AC):Option Bool:=(EL x0 0)
theorem jB:bl WQ OK:=jS (by kernel_rfl)
theorem WS:sJ OM Ff:=lS (by kernel_rfl)
theorem jC:bl WR OL:=jS (by kernel_rfl)
theorem WT:Oh ON EL:=lS (by kernel_rfl)
theorem qA:PO dB Uf:=cT CI rfl ⟨rfl,rfl⟩ (by kernel_rfl)
def mJ:=cG VT (AF CX) (AF CX) kx
def QL:=kE 0 [] [] 0 mJ kx
def WU:St→Option (RT (BL.outs CX)):=lG VS [] [0,8,9,10] 0 (AF CX) QL
def mK:=kB [] [0,8,9,10] 0 WU
def YP:=cG VR mK (AF CX) QL
def mL:=kB [] [0,8,9,10] 0 YP
def mM:=kE 1 [] [0,8,9,10] 0 YP QL
def QM:=kE 2 [] [0,8,9,10] 1 mL mM
def WV:St→Option (RT (BL.outs CX)):=lG VQ [] [0,4,8,9,10,22,23,24] 1 (AF CX) QM
def mN:=kB [] [0,4,8,9,10,22,23,24] 1 WV
def YQ:=cG VP mN (AF CX) QM
def mO:=kB [] [0,4,8,9,10,22,23,24] 1 YQ
def jD:=kE 3 [] [0,4,8,9,10,22,23,24] 1 YQ QM
def CT (x0:List AC) (x1:Bool) (x2:List AC) (x3 x4:Int) (x5:List AC) (x6 x7:Int) (x8 x9:AC):Option Bool:=cG VO mO (AF CX) jD ⟨[(0,.lst AI x0),(4,.ptr 0 0),(6,.ptr 1 0),(7,.bool x1),(8,.lst AI x2),(9,.int .i64 x3),(10,.int .i64 x4),(22,.lst AI x5),(23,.int .i64 x6),(24,.int .i64 x7)],[.var (AI.enc x8),.var (AI.enc x9)]⟩
def HK (x0 x1:List AC) (x2 x3:Int) (x4:List AC) (x5 x6:Int) (x7:AC):Option Bool:=WV ⟨[(0,.lst AI x0),(4,.ptr 0 0),(8,.lst AI x1),(9,.int .i64 x2),(10,.int .i64 x3),(22,.lst AI x4),(23,.int .i64 x5),(24,.int .i64 x6)],[.var (AI.enc x7)]⟩
def Fg (x0 x1:List AC) (x2 x3:Int):Option Bool:=WU ⟨[(0,.lst AI x0),(8,.lst AI x1),(9,.int .i64 x2),(10,.int .i64 x3)],[]⟩
def WW (x0:List AC) (x1:Bool) (x2:List AC) (x3 x4:Int) (x5:List AC) (x6 x7:Int) (x8 x9:AC):Option Bool:=(if x1=true then (if (decide (x8.2.2.2.2.2.1<x9.2.2.2.2.2.1))=true then (some false) else (HK x0 x2 x3 x4 x5 x6 (i64.wrap (x7+1)) x8)) else (HK x0 x2 x3 x4 x5 x6 (i64.wrap (x7+1)) x8))
def OO (x0 x1:List AC) (x2 x3:Int) (x4:List AC) (x5 x6:Int) (x7:AC):Option Bool:=(if (decide (x6<x5))=true then (if 0≤x6 then (if x6<(x4.length:Int) then (if (((x4.getD x6.toNat (0,ByteArray.empty,ByteArray.empty,0,0,0,0,0,ByteArray.empty)).1)==1)=true then (if ((((x4.getD x6.toNat (0,ByteArray.empty,ByteArray.empty,0,0,0,0,0,ByteArray.empty)).2).1).toList==x7.2.1.toList)=true then ((GG (x4.getD x6.toNat (0,ByteArray.empty,ByteArray.empty,0,0,0,0,0,ByteArray.empty))).bind fun y2=>(if y2=true then ((G4 (x4.getD x6.toNat (0,ByteArray.empty,ByteArray.empty,0,0,0,0,0,ByteArray.empty))).bind fun y3=>((G4 x7).bind fun y4=>(CT x0 (decide (y3<y4)) x1 x2 x3 x4 x5 x6 x7 (x4.getD x6.toNat (0,ByteArray.empty,ByteArray.empty,0,0,0,0,0,ByteArray.empty))))) else (CT x0 false x1 x2 x3 x4 x5 x6 x7 (x4.getD x6.toNat (0,ByteArray.empty,ByteArray.empty,0,0,0,0,0,ByteArray.empty))))) else (CT x0 false x1 x2 x3 x4 x5 x6 x7 (x4.getD x6.toNat (0,ByteArray.empty,ByteArray.empty,0,0,0,0,0,ByteArray.empty)))) else (if (((x4.getD x6.toNat (0,ByteArray.empty,ByteArray.empty,0,0,0,0,0,ByteArray.empty)).1)==2)=true then (if ((((x4.getD x6.toNat (0,ByteArray.empty,ByteArray.empty,0,0,0,0,0,ByteArray.empty)).2).1).toList==x7.2.1.toList)=true then ((GG (x4.getD x6.toNat (0,ByteArray.empty,ByteArray.empty,0,0,0,0,0,ByteArray.empty))).bind fun y5=>(if y5=true then ((G4 (x4.getD x6.toNat (0,ByteArray.empty,ByteArray.empty,0,0,0,0,0,ByteArray.empty))).bind fun y6=>((G4 x7).bind fun y7=>(CT x0 (decide (y6<y7)) x1 x2 x3 x4 x5 x6 x7 (x4.getD x6.toNat (0,ByteArray.empty,ByteArray.empty,0,0,0,0,0,ByteArray.empty))))) else (CT x0 false x1 x2 x3 x4 x5 x6 x7 (x4.getD x6.toNat (0,ByteArray.empty,ByteArray.empty,0,0,0,0,0,ByteArray.empty))))) else (CT x0 false x1 x2 x3 x4 x5 x6 x7 (x4.getD x6.toNat (0,ByteArray.empty,ByteArray.empty,0,0,0,0,0,ByteArray.empty)))) else (CT x0 false x1 x2 x3 x4 x5 x6 x7 (x4.getD x6.toNat (0,ByteArray.empty,ByteArray.empty,0,0,0,0,0,ByteArray.empty))))) else none) else none) else (Fg x0 x1 x2 (i64.wrap (x3+1))))
def OP (x0 x1:List AC) (x2 x3:Int):Option Bool:=(if (decide (x3<x2))=true then (if 0≤x3 then (if x3<(x1.length:Int) then (if (((x1.getD x3.toNat (0,ByteArray.empty,ByteArray.empty,0,0,0,0,0,ByteArray.empty)).1) != 2)=false then ((GG (x1.getD x3.toNat (0,ByteArray.empty,ByteArray.empty,0,0,0,0,0,ByteArray.empty))).bind fun y1=>(if (!y1)=true then (Fg x0 x1 x2 (i64.wrap (x3+1))) else (HK x0 x1 x2 x3 x0 (x0.length:Int) 0 (x1.getD x3.toNat (0,ByteArray.empty,ByteArray.empty,0,0,0,0,0,ByteArray.empty))))) else (Fg x0 x1 x2 (i64.wrap (x3+1)))) else none) else none) else (some true))
def dC (x0:List AC):Option Bool:=(Fg x0 x0 (x0.length:Int) 0)
theorem jE:rB WW CT:=jS (by kernel_rfl)
theorem WX:sx OO HK:=lS (by kernel_rfl)
theorem WY:bl OP Fg:=lS (by kernel_rfl)
theorem qB:PO dC Ug:=cT CX rfl ⟨rfl,rfl⟩ (by kernel_rfl)
def mP:=cG Vb (AF DD) (AF DD) kx
def QN:=kE 0 [] [] 0 mP kx
def WZ:St→Option (RT (BL.outs DD)):=lG Va [] [0,3] 0 (AF DD) QN
def mQ:=kB [] [0,3] 0 WZ
def YR:=cG VZ mQ (AF DD) QN
def mR:=kB [] [0,3] 0 YR
def mS:=kE 1 [] [0,3] 0 YR QN
def mT:=kE 2 [] [0,3] 0 mR mS
def jF:St→Option (RT (BL.outs DD)):=lG VY [] [0,3,4] 0 (AF DD) mT
def Cr (x0:List AC) (x1 x2:Int):Option Bool:=jF ⟨[(0,.lst AI x0),(3,.int .i64 x1),(4,.int .i64 x2)],[]⟩
def Jh (x0:List AC) (x1:Int):Option Bool:=WZ ⟨[(0,.lst AI x0),(3,.int .i64 x1)],[]⟩
def OQ (x0:List AC) (x1 x2:Int):Option Bool:=(if (decide (x2<(x0.length:Int)))=true then (if 0≤x1 then (if x1<(x0.length:Int) then (if 0≤x2 then (if x2<(x0.length:Int) then (if (((x0.getD x1.toNat (0,ByteArray.empty,ByteArray.empty,0,0,0,0,0,ByteArray.empty)).1)==2)=true then (if (decide (((((((x0.getD x1.toNat (0,ByteArray.empty,ByteArray.empty,0,0,0,0,0,ByteArray.empty)).2).2).2).2).1)≥0))=true then (if (decide (((((((x0.getD x2.toNat (0,ByteArray.empty,ByteArray.empty,0,0,0,0,0,ByteArray.empty)).2).2).2).2).1)≥0))=true then (if ((((x0.getD x2.toNat (0,ByteArray.empty,ByteArray.empty,0,0,0,0,0,ByteArray.empty)).2).1).toList==(((x0.getD x1.toNat (0,ByteArray.empty,ByteArray.empty,0,0,0,0,0,ByteArray.empty)).2).1).toList)=true then ((LY (x0.getD x2.toNat (0,ByteArray.empty,ByteArray.empty,0,0,0,0,0,ByteArray.empty))).bind fun y1=>((LY (x0.getD x1.toNat (0,ByteArray.empty,ByteArray.empty,0,0,0,0,0,ByteArray.empty))).bind fun y2=>(if (decide (y1<y2))=true then (if (decide ((((((((x0.getD x2.toNat (0,ByteArray.empty,ByteArray.empty,0,0,0,0,0,ByteArray.empty)).2).2).2).2).2).1)>(((((((x0.getD x1.toNat (0,ByteArray.empty,ByteArray.empty,0,0,0,0,0,ByteArray.empty)).2).2).2).2).2).1)))=true then (some false) else (Cr x0 x1 (i64.wrap (x2+1)))) else (Cr x0 x1 (i64.wrap (x2+1)))))) else (Cr x0 x1 (i64.wrap (x2+1)))) else (Cr x0 x1 (i64.wrap (x2+1)))) else (Cr x0 x1 (i64.wrap (x2+1)))) else (Cr x0 x1 (i64.wrap (x2+1)))) else none) else none) else none) else none) else (Jh x0 (i64.wrap (x1+1))))
def OR (x0:List AC) (x1:Int):Option Bool:=(if (decide (x1<(x0.length:Int)))=true then (Cr x0 x1 0) else (some true))
def dD (x0:List AC):Option Bool:=(Jh x0 0)
theorem Wa:Qw OQ Cr:=lS (by kernel_rfl)
theorem Wb:Oh OR Jh:=lS (by kernel_rfl)
theorem qC:PO dD Uh:=cT DD rfl ⟨rfl,rfl⟩ (by kernel_rfl)
def fk:=cG Sx (AF Dy) (AF Dy) kx
def fm:=kE 0 [] [4,5] 6 fk kx
def dE:St→Option (RT (BL.outs Dy)):=lG Sw [] [0,4,5,6,8,9] 6 (AF Dy) fm
def EB (x0 x1:Int) (x2:AO) (x3:List AX) (x4:List (List Int)) (x5:List AX) (x6:List (List Int)) (x7:AA):Option (UV×AO):=dE ⟨[(0,.ptr 0 0),(4,.ptr 2 0),(5,.ptr 4 0),(6,.ptr 5 0),(8,.int .i64 x0),(9,.int .i64 x1)],[.var (BB.enc x2),.rows 55 Ad x3,.var [.lst (.slice (.int .i64)) x4,.row 1],.rows 55 Ad x5,.var [.lst (.slice (.int .i64)) x6,.row 3],.var (Af.enc x7)]⟩
def Lo (x0 x1:Int) (x2:AO) (x3:List AX) (x4:List (List Int)) (x5:List AX) (x6:List (List Int)) (x7:AA):Option (UV×AO):=(if (decide (x1<x0))=true then ((P7 x2 x7).bind fun y3=>((Ui x1 y3.1 y3.2.2).bind fun y4=>(if x5.length+([y3.1]:List AX).length≤68719476736 then (EB x0 (i64.wrap (x1+1)) y3.2.1 x3 x4 (x5++([y3.1]:List AX)) x6 y4.2) else none))) else (some ((x6,x5),x2)))
def QO (x1:List Int) (b0:AO):Option (UV×AO):=((OD b0).bind fun y1=>((OC y1.1).bind fun y2=>(if 4=0 then none else (if (decide ((i64.wrap (20+(i64.wrap (Int.tdiv (x1.length:Int) 4))))>69))=true then (EB 69 0 y1.2 ([]:List AX) ([]:List (List Int)) ([]:List AX) y1.1 y2.1) else (EB (i64.wrap (20+(i64.wrap (Int.tdiv (x1.length:Int) 4)))) 0 y1.2 ([]:List AX) ([]:List (List Int)) ([]:List AX) y1.1 y2.1)))))
theorem Rl:sx Lo EB:=lS (by kernel_rfl)
theorem YS:Oh QO P5:=cT Dy rfl ⟨rfl,rfl⟩ (by kernel_rfl)
def jG:=cG Ve (AF Dq) (AF Dq) kx
def Wc:=kE 0 [] [0,3] 0 jG kx
def TM:St→Option (RT (BL.outs Dq)):=lG Vd [] [0,3,4] 0 (AF Dq) Wc
def jH:=kB [] [0,3,4] 0 TM
def TN (x0:List Int) (x1 x2:Int) (x3:Bool):Option AO:=cG Vc jH (AF Dq) Wc ⟨[(0,.lst (.int .u8) x0),(3,.int .i64 x1),(4,.int .i64 x2),(15,.bool x3)],[]⟩
def Iq (x0:List Int) (x1 x2:Int):Option AO:=TM ⟨[(0,.lst (.int .u8) x0),(3,.int .i64 x1),(4,.int .i64 x2)],[]⟩
def TO (x0:List Int) (x1 x2:Int) (x3:Bool):Option AO:=(if 0≤x2 then (if x2<(x0.length:Int) then (Iq x0 (Kp .i64 (i64.wrap ((i64.wrap ((i64.wrap (x1*131))+(i64.wrap (x0.getD x2.toNat 0))))+7)) 1073741823) (i64.wrap (x2+1))) else none) else none)
def Ir (x0:List Int) (x1 x2:Int):Option AO:=(if (decide (x2<(x0.length:Int)))=true then (if (decide (x2<4000))=true then (TN x0 x1 x2 (decide (x2<4000))) else (some (x0,0,x1))) else (some (x0,0,x1)))
def ny (x0:List Int):Option AO:=(Iq x0 (i64.wrap (14301+(x0.length:Int))) 0)
theorem fo:bl TO TN:=jS (by kernel_rfl)
theorem Mz:Qw Ir Iq:=lS (by kernel_rfl)
theorem nz:PO ny SP:=cT Dq rfl ⟨rfl,rfl⟩ (by kernel_rfl)
def dF:=cG Q3 (AF DU) (AF DU) kx
def dG:=kE 0 [] [2,4] 8 dF kx
def bA:St→Option (RT (BL.outs DU)):=lG Q2 [] [0,2,4,5] 8 (AF DU) dG
def FE (x0:List (List Int)) (x1:Int) (x2:List O) (x3:List Y) (x4:List AC) (x5:List (List Int)) (x6:List O) (x7:List Y) (x8:List AC) (x9:List (List Int)):Option (AA×Bool):=bA ⟨[(0,.lst (.slice (.int .i64)) x0),(2,.ptr 3 0),(4,.ptr 7 0),(5,.int .i64 x1)],[.rows 42 U x2,.rows 97 AE x3,.rows 47 AI x4,.var [.lst (.slice (.int .i64)) x5,.row 0,.row 1,.row 2],.rows 42 U x6,.rows 97 AE x7,.rows 47 AI x8,.var [.lst (.slice (.int .i64)) x9,.row 4,.row 5,.row 6]]⟩
def J9 (x0:List (List Int)) (x1:Int) (x2:List O) (x3:List Y) (x4:List AC) (x5:List (List Int)) (x6:List O) (x7:List Y) (x8:List AC) (x9:List (List Int)):Option (AA×Bool):=(if (decide (x1≤6))=true then ((Mv x1 x0).bind fun y3=>(if x6.length+([y3.1]:List O).length≤68719476736 then (FE x0 (i64.wrap (x1+1)) x2 x3 x4 x5 (x6++([y3.1]:List O)) x7 x8 x9) else none)) else (some ((x9,x6,x7,x8),true)))
def Wd (x0:List (List Int)):Option (AA×Bool):=((DE x0).bind fun y1=>(if (!y1)=true then (some (([],([]:List O),([]:List Y),([]:List AC)),false)) else ((Io x0).bind fun y2=>(FE x0 1 ([]:List O) ([]:List Y) ([]:List AC) ([]:List (List Int)) ([]:List O) ([]:List Y) ([]:List AC) y2))))
theorem QP:rB J9 FE:=lS (by kernel_rfl)
theorem jI:PO Wd OB:=cT DU rfl ⟨rfl,rfl⟩ (by kernel_rfl)
def Lq (x0:Bool) (x1:AX):Option Bool:=cG Sy (AF GW) (AF GW) kx ⟨[(1,.ptr 0 0),(17,.bool x0)],[.var (Ad.enc x1)]⟩
def Rm (x0:Bool) (x1:AX):Option Bool:=(if (x1.1==1)=true then ((LZ x1.2.2.2.1 0 x1.2.2.2.2.1 x1.2.2.2.2.2).bind fun y3=>(some y3)) else (if (x1.2.2.2.1==0)=true then (if (x1.2.2.2.2.1.toList==(⟨#[]⟩:ByteArray).toList)=true then (some (x1.2.2.2.2.2.toList==(⟨#[]⟩:ByteArray).toList)) else (some false)) else (some false)))
def YT (x0:AX):Option Bool:=((Ae x0.1 1 6).bind fun y1=>(if (!y1)=false then ((Ds x0.2.1).bind fun y2=>(if (!y2)=false then (if (decide (x0.2.2.1<0))=true then (some false) else (Lq (decide (x0.2.2.1<0)) x0)) else (some false))) else (some false)))
theorem dH:Oh Rm Lq:=jS (by kernel_rfl)
theorem mU:PO YT P6:=cT GW rfl ⟨rfl,rfl⟩ (by kernel_rfl)
def QQ (x1:AX) (x2:Int) (b0:AA):Option (Bool×AA):=(if (x1.1==1)=true then ((Ju x1 x2 b0).bind fun y1=>(some (y1.1,y1.2))) else (if (x1.1==5)=true then ((Jv x1 x2 b0).bind fun y2=>(some (y2.1,y2.2))) else (if (x1.1==6)=true then ((Bo x1.2.1 b0).bind fun y3=>(if 0≤y3.1 then (if y3.1<(y3.2.2.1.length:Int) then ((Rd (y3.2.2.1.getD y3.1.toNat (0,0,false,false,false,false,([]:List Int),([]:List X),0,0,0,0,(ByteArray.empty,ByteArray.empty,0),([]:List Int)))).bind fun y4=>(if 0≤y3.1 then (if y3.1<(y3.2.2.1.length:Int) then (let z5:List O:=y3.2.2.1.set y3.1.toNat y4; (some (true,(y3.2.1,z5,y3.2.2.2)))) else none) else none)) else none) else none)) else ((IQ x1 x2 b0).bind fun y6=>(some (y6.1,y6.2))))))
theorem bB:Qw QQ G5:=cT G1 rfl ⟨rfl,rfl⟩ (by kernel_rfl)
def aB (x0:Bool):Option Int:=(if x0=true then (some 0) else (some 1))
theorem n5:PO aB SQ:=cT NM rfl ⟨rfl,rfl⟩ (by kernel_rfl)
def bC:=cG Oj (AF BG) (AF BG) kx
def bD:=kE 2 [] [2,3] 10 bC kx
def Zh:St→Option (RT (BL.outs BG)):=lG Oi [] [2,3,31,32,33] 10 (AF BG) bD
def bE:=cG I7 (AF BG) (AF BG) kx
def bF:=kE 0 [] [1,2,3] 10 bE kx
def Zi:St→Option (RT (BL.outs BG)):=lG Pu [] [1,2,3,16,17,18] 10 (AF BG) bF
def DQ (x0:List Y) (x1 x2:Int) (x3:List (List Int)) (x4:List O) (x5:List Y) (x6:List AC) (x7:List O) (x8:List Y) (x9:List AC) (x10:List (List Int)) (x11:List O) (x12:List Y) (x13:List AC) (x14:List (List Int)):Option AA:=Zh ⟨[(2,.ptr 4 0),(3,.ptr 9 0),(31,.lst AE x0),(32,.int .i64 x1),(33,.int .i64 x2)],[.var [.lst (.slice (.int .i64)) x3,.lst U x4,.lst AE x5,.lst AI x6],.rows 42 U x7,.rows 97 AE x8,.rows 47 AI x9,.var [.lst (.slice (.int .i64)) x10,.row 1,.row 2,.row 3],.dead,.rows 42 U x11,.rows 97 AE x12,.rows 47 AI x13,.var [.lst (.slice (.int .i64)) x14,.row 6,.row 7,.row 8]]⟩
def Ox (x0:List (List Int)) (x1:List O) (x2:List Y) (x3:List AC) (x4:List O) (x5:List Y) (x6:List AC) (x7:List (List Int)) (x8:List O) (x9:List Y) (x10:List AC) (x11:List (List Int)):Option AA:=cG I7 (AF BG) (AF BG) kx ⟨[(1,.ptr 0 0),(2,.ptr 4 0),(3,.ptr 9 0)],[.var [.lst (.slice (.int .i64)) x0,.lst U x1,.lst AE x2,.lst AI x3],.rows 42 U x4,.rows 97 AE x5,.rows 47 AI x6,.var [.lst (.slice (.int .i64)) x7,.row 1,.row 2,.row 3],.dead,.rows 42 U x8,.rows 97 AE x9,.rows 47 AI x10,.var [.lst (.slice (.int .i64)) x11,.row 6,.row 7,.row 8]]⟩
def DR (x0:List O) (x1 x2:Int) (x3:List (List Int)) (x4:List O) (x5:List Y) (x6:List AC) (x7:List O) (x8:List Y) (x9:List AC) (x10:List (List Int)) (x11:List O) (x12:List Y) (x13:List AC) (x14:List (List Int)):Option AA:=Zi ⟨[(1,.ptr 0 0),(2,.ptr 4 0),(3,.ptr 9 0),(16,.lst U x0),(17,.int .i64 x1),(18,.int .i64 x2)],[.var [.lst (.slice (.int .i64)) x3,.lst U x4,.lst AE x5,.lst AI x6],.rows 42 U x7,.rows 97 AE x8,.rows 47 AI x9,.var [.lst (.slice (.int .i64)) x10,.row 1,.row 2,.row 3],.dead,.rows 42 U x11,.rows 97 AE x12,.rows 47 AI x13,.var [.lst (.slice (.int .i64)) x14,.row 6,.row 7,.row 8]]⟩
def I_ (x0:List Y) (x1 x2:Int) (x3:List (List Int)) (x4:List O) (x5:List Y) (x6:List AC) (x7:List O) (x8:List Y) (x9:List AC) (x10:List (List Int)) (x11:List O) (x12:List Y) (x13:List AC) (x14:List (List Int)):Option AA:=(if (decide (x2<x1))=true then (if 0≤x2 then (if x2<(x0.length:Int) then ((Gf (x0.getD x2.toNat (0,0,0,0,0,([]:List X)))).bind fun y4=>(if x12.length+([y4]:List Y).length≤68719476736 then (DQ x0 x1 (i64.wrap (x2+1)) x3 x4 x5 x6 x7 x8 x9 x10 x11 (x12++([y4]:List Y)) x13 x14) else none)) else none) else none) else (some (x14,x11,x12,x13)))
def Oy (x0:List (List Int)) (x1:List O) (x2:List Y) (x3:List AC) (x4:List O) (x5:List Y) (x6:List AC) (x7:List (List Int)) (x8:List O) (x9:List Y) (x10:List AC) (x11:List (List Int)):Option AA:=(DQ x2 (x2.length:Int) 0 x0 x1 x2 x3 x4 x5 x6 x7 x8 x9 x10 x11)
def JA (x0:List O) (x1 x2:Int) (x3:List (List Int)) (x4:List O) (x5:List Y) (x6:List AC) (x7:List O) (x8:List Y) (x9:List AC) (x10:List (List Int)) (x11:List O) (x12:List Y) (x13:List AC) (x14:List (List Int)):Option AA:=(if (decide (x2<x1))=true then (if 0≤x2 then (if x2<(x0.length:Int) then ((Ck (x0.getD x2.toNat (0,0,false,false,false,false,([]:List Int),([]:List X),0,0,0,0,(ByteArray.empty,ByteArray.empty,0),([]:List Int)))).bind fun y3=>(if x11.length+([y3]:List O).length≤68719476736 then (DR x0 x1 (i64.wrap (x2+1)) x3 x4 x5 x6 x7 x8 x9 x10 (x11++([y3]:List O)) x12 x13 x14) else none)) else none) else none) else (Ox x3 x4 x5 x6 x7 x8 x9 x10 x11 x12 x13 x14))
def TP (x0:AA):Option AA:=((Io x0.1).bind fun y1=>((Cx x0.2.2.2).bind fun y2=>(DR x0.2.1 (x0.2.1.length:Int) 0 x0.1 x0.2.1 x0.2.2.1 x0.2.2.2 ([]:List O) ([]:List Y) ([]:List AC) ([]:List (List Int)) ([]:List O) ([]:List Y) y2 y1)))
theorem Oz:yY I_ DQ:=lS (by kernel_rfl)
theorem Zj:xx Oy Ox:=jS (by kernel_rfl)
theorem O0:yY JA DR:=lS (by kernel_rfl)
theorem fp:PO TP Ca:=cT BG rfl ⟨rfl,rfl⟩ (by kernel_rfl)
def dI:=cG Q5 (AF DV) (AF DV) kx
def dJ:=kE 0 [] [2,4] 4 dI kx
def bG:St→Option (RT (BL.outs DV)):=lG Q4 [] [0,2,4,5] 4 (AF DV) dJ
def FF (x0:List (List Int)) (x1:Int) (x2:List O) (x3:List (List Int)) (x4:List Y) (x5:List AC) (x6:List O) (x7:List (List Int)):Option (AA×Bool):=bG ⟨[(0,.lst (.slice (.int .i64)) x0),(2,.ptr 1 0),(4,.ptr 3 0),(5,.int .i64 x1)],[.rows 42 U x2,.var [.lst (.slice (.int .i64)) x3,.row 0,.lst AE x4,.lst AI x5],.rows 42 U x6,.var [.lst (.slice (.int .i64)) x7,.row 2,.nil,.nil]]⟩
def J_ (x0:List (List Int)) (x1:Int) (x2:List O) (x3:List (List Int)) (x4:List Y) (x5:List AC) (x6:List O) (x7:List (List Int)):Option (AA×Bool):=(if (decide (x1≤6))=true then ((Mw x1 x0).bind fun y3=>(if x6.length+([y3.1]:List O).length≤68719476736 then (FF x0 (i64.wrap (x1+1)) x2 x3 x4 x5 (x6++([y3.1]:List O)) x7) else none)) else (some ((x7,x6,[],[]),true)))
def We (x0:List (List Int)):Option (AA×Bool):=((D5 x0).bind fun y1=>(if (!y1)=true then (some (([],([]:List O),[],[]),false)) else ((I8 x0).bind fun y2=>(FF x0 1 ([]:List O) ([]:List (List Int)) ([]:List Y) ([]:List AC) ([]:List O) y2))))
theorem QR:sx J_ FF:=lS (by kernel_rfl)
theorem jJ:PO We OC:=cT DV rfl ⟨rfl,rfl⟩ (by kernel_rfl)
def Lr (x1:Int) (x2:AX) (b0:AA):Option (Int×AA):=(if (x2.1==1)=true then ((OE x1 x2 b0).bind fun y1=>(some (y1.1,y1.2))) else (if (x2.1==5)=true then ((OF x1 x2.2.1 b0).bind fun y2=>(some (y2.1,y2.2))) else (if (x2.1==6)=true then (if 0≤(i64.wrap (x2.2.1-1)) then (if (i64.wrap (x2.2.1-1))<(b0.2.1.length:Int) then ((YK (b0.2.1.getD (i64.wrap (x2.2.1-1)).toNat (0,0,false,false,false,false,([]:List Int),([]:List X),0,0,0,0,(ByteArray.empty,ByteArray.empty,0),([]:List Int)))).bind fun y3=>((E4 y3 ([]:List Y) ([]:List AD) x1 b0).bind fun y4=>(some (0,y4)))) else none) else none) else ((ST x1 x2 b0).bind fun y5=>(some (y5.1,y5.2))))))
theorem Pc:Qw Lr Ui:=cT PQ rfl ⟨rfl,rfl⟩ (by kernel_rfl)
def aC (x0:Int):Option Bool:=((Ae x0 1 6).bind fun y1=>(some y1))
theorem n6:PO aC Ds:=cT NN rfl ⟨rfl,rfl⟩ (by kernel_rfl)
def YU (x0 x1 x2:Int):Option Bool:=(if (decide (x0≥x1))=true then (some (decide (x0≤x2))) else (some false))
theorem mV:Qw YU Ae:=cT LF rfl ⟨rfl,rfl⟩ (by kernel_rfl)
def YV:=cG Nf (AF CN) (AF CN) kx
def YW:=kE 0 [] [] 0 YV kx
def XJ:St→Option (RT (BL.outs CN)):=lG Nd [] [0,1,2,9,10,11] 0 (AF CN) YW
def Dd (x0:List Int) (x1 x2:Int) (x3:List Int) (x4 x5:Int):Option Bool:=XJ ⟨[(0,.lst (.int .i64) x0),(1,.int .i64 x1),(2,.int .i64 x2),(9,.lst (.int .i64) x3),(10,.int .i64 x4),(11,.int .i64 x5)],[]⟩
def Hd (x0:List Int) (x1 x2:Int) (x3:List Int) (x4 x5:Int):Option Bool:=(if (decide (x5<x4))=true then (if 0≤x5 then (if x5<(x3.length:Int) then ((Ae (x3.getD x5.toNat 0) x1 x2).bind fun y1=>(if (!y1)=false then (if (decide (x5>0))=true then (if 0≤(i64.wrap (x5-1)) then (if (i64.wrap (x5-1))<(x0.length:Int) then (if (decide ((x3.getD x5.toNat 0)≤(x0.getD (i64.wrap (x5-1)).toNat 0)))=true then (some false) else (Dd x0 x1 x2 x3 x4 (i64.wrap (x5+1)))) else none) else none) else (Dd x0 x1 x2 x3 x4 (i64.wrap (x5+1)))) else (some false))) else none) else none) else (some true))
def QS (x0:List Int) (x1 x2:Int):Option Bool:=(Dd x0 x1 x2 x0 (x0.length:Int) 0)
theorem Ma:t_ Hd Dd:=lS (by kernel_rfl)
theorem bH:Qw QS G6:=cT CN rfl ⟨rfl,rfl⟩ (by kernel_rfl)
def fq:=cG Q_ (AF Dz) (AF Dz) kx
def fu:=kE 0 [] [0] 0 fq kx
def dL:St→Option (RT (BL.outs Dz)):=lG Q9 [] [0,5,6,7] 0 (AF Dz) fu
def Fz (x0 x1:List X) (x2 x3:Int):Option Bool:=dL ⟨[(0,.lst AB x0),(5,.lst AB x1),(6,.int .i64 x2),(7,.int .i64 x3)],[]⟩
def Ls (x0 x1:List X) (x2 x3:Int):Option Bool:=(if (decide (x3<x2))=true then (if 0≤x3 then (if x3<(x1.length:Int) then ((PY ((x1.getD x3.toNat (ByteArray.empty,ByteArray.empty,0)).1)).bind fun y1=>(if (!y1)=true then (some false) else (if (decide (((((x1.getD x3.toNat (ByteArray.empty,ByteArray.empty,0)).2).1).size:Int)>20))=true then (some false) else ((Ae (((x1.getD x3.toNat (ByteArray.empty,ByteArray.empty,0)).2).2) 1 1000000000).bind fun y2=>(if (!y2)=true then (some false) else (if (decide (x3>0))=true then (if 0≤(i64.wrap (x3-1)) then (if (i64.wrap (x3-1))<(x0.length:Int) then (if ((Op.bytesLess ((x1.getD x3.toNat (ByteArray.empty,ByteArray.empty,0)).1).toList ((x0.getD (i64.wrap (x3-1)).toNat (ByteArray.empty,ByteArray.empty,0)).1).toList)||(((x1.getD x3.toNat (ByteArray.empty,ByteArray.empty,0)).1).toList==((x0.getD (i64.wrap (x3-1)).toNat (ByteArray.empty,ByteArray.empty,0)).1).toList))=true then (some false) else (Fz x0 x1 x2 (i64.wrap (x3+1)))) else none) else none) else (Fz x0 x1 x2 (i64.wrap (x3+1))))))))) else none) else none) else (some (decide ((x0.length:Int)≤12))))
def YX (x0:List X):Option Bool:=(Fz x0 x0 (x0.length:Int) 0)
theorem Rn:bl Ls Fz:=lS (by kernel_rfl)
theorem mW:PO YX FA:=cT Dz rfl ⟨rfl,rfl⟩ (by kernel_rfl)
def Nm (b0:O):Option (Bool×O):=(if (b0.2.2.2.2.2.2.2.2.2.1==0)=true then (if (b0.2.2.2.2.2.2.2.2.2.2.1==0)=true then (if (b0.2.2.2.2.2.2.2.2.2.2.2.1==0)=true then (if (false != XY AB b0.2.2.2.2.2.2.2.2.2.2.2.2.1 (ByteArray.empty,ByteArray.empty,0))=true then (some (((b0.2.2.2.2.2.2.2.2.2.2.2.2.2.length:Int)==0),b0)) else (some (false,b0))) else (some (false,b0))) else (some (false,b0))) else ((Ae b0.2.2.2.2.2.2.2.2.2.1 1 2).bind fun y1=>(if y1=true then (if b0.2.2.2.2.2.1=true then ((Ae b0.2.2.2.2.2.2.2.2.2.2.1 0 1000).bind fun y2=>(if y2=true then ((Ae b0.2.2.2.2.2.2.2.2.2.2.2.1 1 900).bind fun y3=>(if y3=true then ((G6 b0.2.2.2.2.2.2.2.2.2.2.2.2.2 1 6).bind fun y4=>(some (y4,b0))) else (some (false,b0)))) else (some (false,b0)))) else (some (false,b0))) else (some (false,b0)))))
theorem YY:PO Nm C5:=cT Fq rfl ⟨rfl,rfl⟩ (by kernel_rfl)
def n7 (x0:AC):Option Bool:=(some (decide (x0.2.2.2.2.1≥0)))
theorem n8:PO n7 GG:=cT NO rfl ⟨rfl,rfl⟩ (by kernel_rfl)
def dM (x0:AC):Option Int:=((AW x0.2.2.2.2.2.2.1 0 9).bind fun y1=>(if (!y1)=false then ((AW x0.2.2.2.2.2.2.2.1 0 999).bind fun y2=>(if (!y2)=true then (some 0) else (some (i64.wrap ((i64.wrap (1000*x0.2.2.2.2.2.2.1))+x0.2.2.2.2.2.2.2.1))))) else (some 0)))
theorem qD:PO dM LY:=cT PR rfl ⟨rfl,rfl⟩ (by kernel_rfl)
end
end Go.Proofs.YtokiohnjegbnpaaGreat.Core

namespace Go.Proofs.YtokiohnjegbnpaaGreat.Core
open Go IntKind
set_option linter.unusedVariables false
set_option maxRecDepth 100000
noncomputable section
def Uo:=cG GX (AF Ac) (AF Ac) kx
def Up:=kE 2 [] [0] 1 Uo kx
def TQ:St→Option (RT (BL.outs Ac)):=lG KM [] [0,26,27,28] 1 (AF Ac) Up
def Uq:=cG GY (AF Ac) (AF Ac) kx
def Ur:=kE 0 [] [0] 1 Uq kx
def TR:St→Option (RT (BL.outs Ac)):=lG LG [] [0,10,11,12] 1 (AF Ac) Ur
def KU (x0:AA):Option (Bool×AA):=cG GX (AF Ac) (AF Ac) kx ⟨[(0,.ptr 0 0)],[.var (Af.enc x0)]⟩
def EC (x0:List Y) (x1 x2:Int) (x3:AA):Option (Bool×AA):=TQ ⟨[(0,.ptr 0 0),(26,.lst AE x0),(27,.int .i64 x1),(28,.int .i64 x2)],[.var (Af.enc x3)]⟩
def KV (x0:AA):Option (Bool×AA):=cG GY (AF Ac) (AF Ac) kx ⟨[(0,.ptr 0 0)],[.var (Af.enc x0)]⟩
def ED (x0:List O) (x1 x2:Int) (x3:AA):Option (Bool×AA):=TR ⟨[(0,.ptr 0 0),(10,.lst U x0),(11,.int .i64 x1),(12,.int .i64 x2)],[.var (Af.enc x3)]⟩
def KW (x0:AA):Option (Bool×AA):=(if ((x0.2.1.length:Int)==6)=true then ((DE x0.1).bind fun y2=>(some (y2,x0))) else (some (false,x0)))
def Gi (x0:List Y) (x1 x2:Int) (x3:AA):Option (Bool×AA):=(if (decide (x2<x1))=true then (if 0≤x2 then (if x2<(x0.length:Int) then ((Ds ((((x0.getD x2.toNat (0,0,0,0,0,([]:List X))).2).2).1)).bind fun y1=>(if (!y1)=true then (some (false,x3)) else (EC x0 x1 (i64.wrap (x2+1)) x3))) else none) else none) else (KU x3))
def KX (x0:AA):Option (Bool×AA):=(EC x0.2.2.1 (x0.2.2.1.length:Int) 0 x0)
def Gj (x0:List O) (x1 x2:Int) (x3:AA):Option (Bool×AA):=(if (decide (x2<x1))=true then (if 0≤x2 then (if x2<(x0.length:Int) then (if (((x0.getD x2.toNat (0,0,false,false,false,false,([]:List Int),([]:List X),0,0,0,0,(ByteArray.empty,ByteArray.empty,0),([]:List Int))).1) != (i64.wrap (x2+1)))=true then (some (false,x3)) else (ED x0 x1 (i64.wrap (x2+1)) x3)) else none) else none) else (KV x3))
def Nn (b0:AA):Option (Bool×AA):=(ED b0.2.1 (b0.2.1.length:Int) 0 b0)
theorem TS:PO KW KU:=jS (by kernel_rfl)
theorem KY:bl Gi EC:=lS (by kernel_rfl)
theorem TU:PO KX KV:=jS (by kernel_rfl)
theorem KZ:bl Gj ED:=lS (by kernel_rfl)
theorem YZ:PO Nn IP:=cT Ac rfl ⟨rfl,rfl⟩ (by kernel_rfl)
def No (x1 x2:Int) (b0:AA):Option AA:=(if 0≤x1 then (if x1<(b0.2.2.1.length:Int) then ((BZ b0.2.2.1 x1 (i64.wrap (x1+1))).bind fun y1=>((Bo ((((b0.2.2.1.getD x1.toNat (0,0,0,0,0,([]:List X))).2).2).1) (b0.1,b0.2.1,y1,b0.2.2.2)).bind fun y2=>(if (decide (y2.1≥0))=true then (if 0≤y2.1 then (if y2.1<(y2.2.2.1.length:Int) then ((La (y2.2.2.1.getD y2.1.toNat (0,0,false,false,false,false,([]:List Int),([]:List X),0,0,0,0,(ByteArray.empty,ByteArray.empty,0),([]:List Int))) y2.2.1 (b0.2.2.1.getD x1.toNat (0,0,0,0,0,([]:List X)))).bind fun y3=>(if 0≤y2.1 then (if y2.1<(y2.2.2.1.length:Int) then (let z4:List O:=y2.2.2.1.set y2.1.toNat y3.1; ((Fw y3.2.1 y3.2.2 x2 (y2.2.1,z4,y2.2.2.2)).bind fun y5=>(some y5))) else none) else none)) else none) else none) else (some y2.2)))) else none) else none)
theorem Ya:Qw No D4:=cT Fs rfl ⟨rfl,rfl⟩ (by kernel_rfl)
def dN (x0:List AC) (x1:AC):Option Bool:=((CC x0 x1).bind fun y1=>(some y1))
theorem qE:Oh dN Uj:=cT PS rfl ⟨rfl,rfl⟩ (by kernel_rfl)
def aD (x0 x1:AC):Option Bool:=(if (x1.1==1)=true then (if (x1.2.1.toList==x0.2.1.toList)=true then (if (x1.2.2.1.toList==x0.2.2.2.2.2.2.2.2.toList)=true then (if (decide (x1.2.2.2.2.1<0))=false then (some (x1.2.2.2.2.2.1==x0.2.2.2.2.2.1)) else (some true)) else (some false)) else (some false)) else (some false))
theorem n9:Oh aD SS:=cT NP rfl ⟨rfl,rfl⟩ (by kernel_rfl)
def dO (x0 x1 x2:Int):Option Bool:=(if (decide (x0≥x1))=true then (some (decide (x0≤x2))) else (some false))
theorem qF:Qw dO AW:=cT PT rfl ⟨rfl,rfl⟩ (by kernel_rfl)
def I1 (x0:List Int) (x1:Int):Option Bool:=((DF x0 x1).bind fun y1=>(some (decide (y1≥0))))
theorem Qj:Oh I1 Cc:=cT Da rfl ⟨rfl,rfl⟩ (by kernel_rfl)
def mX:=cG X3 (AF Ft) (AF Ft) kx
def mY:=kE 0 [] [] 0 mX kx
def jK:St→Option (RT (BL.outs Ft)):=lG X2 [] [0,1,5] 0 (AF Ft) mY
def Ji (x0:List Int) (x1 x2:Int):Option Bool:=jK ⟨[(0,.lst (.int .i64) x0),(1,.int .i64 x1),(5,.int .i64 x2)],[]⟩
def OS (x0:List Int) (x1 x2:Int):Option Bool:=(if (decide (x2<(x0.length:Int)))=true then (if 0≤x2 then (if x2<(x0.length:Int) then (if ((x0.getD x2.toNat 0)==x1)=true then (some true) else (Ji x0 x1 (i64.wrap (x2+1)))) else none) else none) else (some false))
def dP (x0:List Int) (x1:Int):Option Bool:=(Ji x0 x1 0)
theorem Wf:Qw OS Ji:=lS (by kernel_rfl)
theorem qG:Oh dP Dt:=cT Ft rfl ⟨rfl,rfl⟩ (by kernel_rfl)
def QT (b0:AO):Option (Int×AO):=(if 33<0 then none else (if 45<0 then none else (if (decide (b0.2.1<(b0.1.length:Int)))=true then (if 0≤b0.2.1 then (if b0.2.1<(b0.1.length:Int) then (some ((Kp .i64 (i64.wrap ((Kp .i64 (bm .i64 (Int.fdiv (i64.wrap ((i64.wrap (b0.2.2*6364136223846793005))+1442695040888963407)) (2^(min (33:Int).toNat (IntKind.bits .i64)))) (Int.fdiv (i64.wrap ((i64.wrap (b0.2.2*6364136223846793005))+1442695040888963407)) (2^(min (45:Int).toNat (IntKind.bits .i64))))) 255)+(i64.wrap (b0.1.getD b0.2.1.toNat 0)))) 255),(b0.1,(i64.wrap (b0.2.1+1)),(i64.wrap ((i64.wrap (b0.2.2*6364136223846793005))+1442695040888963407))))) else none) else none) else (some ((Kp .i64 (bm .i64 (Int.fdiv (i64.wrap ((i64.wrap (b0.2.2*6364136223846793005))+1442695040888963407)) (2^(min (33:Int).toNat (IntKind.bits .i64)))) (Int.fdiv (i64.wrap ((i64.wrap (b0.2.2*6364136223846793005))+1442695040888963407)) (2^(min (45:Int).toNat (IntKind.bits .i64))))) 255),(b0.1,b0.2.1,(i64.wrap ((i64.wrap (b0.2.2*6364136223846793005))+1442695040888963407))))))))
theorem mZ:PO QT FB:=cT LH rfl ⟨rfl,rfl⟩ (by kernel_rfl)
def OT (x1:Int) (b0:AO):Option (Int×AO):=(if (decide (x1≤0))=true then (some (0,b0)) else (if (decide (x1≤256))=true then ((FB b0).bind fun y1=>(if x1=0 then none else (some ((Int.tmod y1.1 x1),y1.2)))) else ((FB b0).bind fun y2=>((FB y2.2).bind fun y3=>((FB y3.2).bind fun y4=>((FB y4.2).bind fun y5=>(if x1=0 then none else (some ((Int.tmod (i64.wrap ((i64.wrap ((i64.wrap ((i64.wrap (y2.1*16777216))+(i64.wrap (y3.1*65536))))+(i64.wrap (y4.1*256))))+y5.1)) x1),y5.2)))))))))
theorem jL:Oh OT CS:=cT Jb rfl ⟨rfl,rfl⟩ (by kernel_rfl)
def dQ:=cG Px (AF Bs) (AF Bs) kx
def Lt:=kE 0 [(3,1)] [3] 2 dQ kx
def QU:St→Option (RT (BL.outs Bs)):=lG Pw [(3,1)] [0,3,4] 2 (AF Bs) Lt
def dR:=kB [(3,1)] [0,3,4] 2 QU
def Ro:=cG Pv dR (AF Bs) Lt
def dS:=kB [(3,1)] [0,3,4] 2 Ro
def Rp:=kE 1 [(3,1)] [0,3,4] 2 Ro Lt
def dU:=cG RB dS (AF Bs) Rp
def dV:=kE 2 [(3,1),(5,2)] [0,3,4,5] 3 dU Rp
def bI:St→Option (RT (BL.outs Bs)):=lG RA [(3,1),(5,2)] [0,3,4,5,6] 3 (AF Bs) dV
def FH (x0 x1:Int) (x2:AO) (x3:List (List Int)) (x4:List Int):Option (List (List Int)×AO):=bI ⟨[(0,.ptr 0 0),(3,.row 1),(4,.int .i64 x0),(5,.row 2),(6,.int .i64 x1)],[.var (BB.enc x2),.rows 33 (.slice (.int .i64)) x3,.rows 3 (.int .i64) x4]⟩
def FI (x0:Int) (x1:AO) (x2:List (List Int)):Option (List (List Int)×AO):=QU ⟨[(0,.ptr 0 0),(3,.row 1),(4,.int .i64 x0)],[.var (BB.enc x1),.rows 33 (.slice (.int .i64)) x2]⟩
def FJ (x0 x1:Int) (x2:AO) (x3:List (List Int)) (x4:List Int):Option (List (List Int)×AO):=((CS 3 x2).bind fun y2=>(if (decide (x1<(i64.wrap (1+y2.1))))=true then ((CS 4 y2.2).bind fun y3=>((Dt x4 (i64.wrap (1+y3.1))).bind fun y4=>(if (!y4)=true then (if x4.length+([(i64.wrap (1+y3.1))]:List Int).length≤68719476736 then (FH x0 (i64.wrap (x1+1)) y3.2 x3 (x4++([(i64.wrap (1+y3.1))]:List Int))) else none) else (FH x0 (i64.wrap (x1+1)) y3.2 x3 x4)))) else (if x3.length+([x4]:List (List Int)).length≤68719476736 then (FI (i64.wrap (x0+1)) y2.2 (x3++([x4]:List (List Int)))) else none)))
def G9 (x0:Int) (x1:AO) (x2:List (List Int)):Option (List (List Int)×AO):=((CS 5 x1).bind fun y1=>(if (decide (x0<(i64.wrap (1+y1.1))))=true then (FH x0 0 y1.2 x2 ([]:List Int)) else (some (x2,y1.2))))
def Wg (b0:AO):Option (List (List Int)×AO):=(FI 0 b0 ([]:List (List Int)))
theorem G_:sJ FJ FH:=lS (by kernel_rfl)
theorem KA:Qw G9 FI:=lS (by kernel_rfl)
theorem jM:PO Wg OD:=cT Bs rfl ⟨rfl,rfl⟩ (by kernel_rfl)
def TV:=cG RE (AF BK) (AF BK) kx
def TW:=kB [] [4,5] 4 TV
def TX:=kE 0 [] [4,5] 4 TV kx
def fw:=kE 1 [] [4,5] 6 TW TX
def dW:St→Option (RT (BL.outs BK)):=lG Sz [] [0,1,4,5,6] 6 (AF BK) fw
def f4:=kE 3 [] [4,5] 4 TW TX
def dX:St→Option (RT (BL.outs BK)):=lG RD [] [0,1,4,5,7] 4 (AF BK) f4
def DJ (x0:Int) (x1:AO) (x2:AA) (x3 x4:AX) (x5:List Int) (x6:List ByteArray):Option (AX×AO×AA):=dW ⟨[(0,.ptr 0 0),(1,.ptr 1 0),(4,.ptr 2 0),(5,.ptr 3 0),(6,.int .i64 x0)],[.var (BB.enc x1),.var (Af.enc x2),.var (Ad.enc x3),.var (Ad.enc x4),.frz (.int .i64) x5,.frz .str x6]⟩
def DK (x0:Int) (x1:AO) (x2:AA) (x3 x4:AX):Option (AX×AO×AA):=dX ⟨[(0,.ptr 0 0),(1,.ptr 1 0),(4,.ptr 2 0),(5,.ptr 3 0),(7,.int .i64 x0)],[.var (BB.enc x1),.var (Af.enc x2),.var (Ad.enc x3),.var (Ad.enc x4)]⟩
def F0 (x0:AO) (x1:AA) (x2 x3:AX):Option (AX×AO×AA):=cG RF (AF BK) (AF BK) kx ⟨[(0,.ptr 0 0),(1,.ptr 1 0),(4,.ptr 2 0),(5,.ptr 3 0)],[.var (BB.enc x0),.var (Af.enc x1),.var (Ad.enc x2),.var (Ad.enc x3)]⟩
def Ax (x0:AO) (x1:AA) (x2 x3:AX):Option (AX×AO×AA):=cG RG (AF BK) (AF BK) kx ⟨[(0,.ptr 0 0),(1,.ptr 1 0),(4,.ptr 2 0),(5,.ptr 3 0)],[.var (BB.enc x0),.var (Af.enc x1),.var (Ad.enc x2),.var (Ad.enc x3)]⟩
def Lu (x0:AO) (x1:AA) (x2 x3:AX):Option (AX×AO×AA):=cG RH (AF BK) (AF BK) kx ⟨[(0,.ptr 0 0),(1,.ptr 1 0),(4,.ptr 2 0),(5,.ptr 3 0)],[.var (BB.enc x0),.var (Af.enc x1),.var (Ad.enc x2),.var (Ad.enc x3)]⟩
def F3 (x0:Int) (x1:AO) (x2:AA) (x3 x4:AX) (x5:List Int) (x6:List ByteArray):Option (AX×AO×AA):=(if (decide (x0<(x2.2.1.length:Int)))=true then (if 0≤x0 then (if x0<(x2.2.1.length:Int) then (if (((((((x2.2.1.getD x0.toNat (0,0,false,false,false,false,([]:List Int),([]:List X),0,0,0,0,(ByteArray.empty,ByteArray.empty,0),([]:List Int))).2).2).2).2).2).1)=true then ((DG 4 x1).bind fun y10=>(if (!y10.1)=true then (DJ (i64.wrap (x0+1)) y10.2 x2 x3 (x4.1,(i64.wrap (x0+1)),x4.2.2) x5 x6) else (DJ (i64.wrap (x0+1)) y10.2 x2 x3 x4 x5 x6))) else (DJ (i64.wrap (x0+1)) x1 x2 x3 x4 x5 x6)) else none) else none) else (some (x4,x1,x2)))
def EE (x0:Int) (x1:AO) (x2:AA) (x3 x4:AX):Option (AX×AO×AA):=(if (decide (x0<(x2.2.1.length:Int)))=true then (if 0≤x0 then (if x0<(x2.2.1.length:Int) then (if (decide ((((x2.2.1.getD x0.toNat (0,0,false,false,false,false,([]:List Int),([]:List X),0,0,0,0,(ByteArray.empty,ByteArray.empty,0),([]:List Int))).2).1)<(x2.1.length:Int)))=true then (if 0≤(((x2.2.1.getD x0.toNat (0,0,false,false,false,false,([]:List Int),([]:List X),0,0,0,0,(ByteArray.empty,ByteArray.empty,0),([]:List Int))).2).1) then (if (((x2.2.1.getD x0.toNat (0,0,false,false,false,false,([]:List Int),([]:List X),0,0,0,0,(ByteArray.empty,ByteArray.empty,0),([]:List Int))).2).1)<(x2.1.length:Int) then (if 0≤(0:Int) then (if 0<((x2.1.getD (((x2.2.1.getD x0.toNat (0,0,false,false,false,false,([]:List Int),([]:List X),0,0,0,0,(ByteArray.empty,ByteArray.empty,0),([]:List Int))).2).1).toNat ([]:List Int)).length:Int) then (if (((x2.1.getD (((x2.2.1.getD x0.toNat (0,0,false,false,false,false,([]:List Int),([]:List X),0,0,0,0,(ByteArray.empty,ByteArray.empty,0),([]:List Int))).2).1).toNat ([]:List Int)).getD (0:Int).toNat 0)==((x2.2.1.getD x0.toNat (0,0,false,false,false,false,([]:List Int),([]:List X),0,0,0,0,(ByteArray.empty,ByteArray.empty,0),([]:List Int))).1))=true then ((DG 3 x1).bind fun y11=>(if (!y11.1)=true then (DK (i64.wrap (x0+1)) y11.2 x2 x3 (x4.1,(x2.2.1.getD x0.toNat (0,0,false,false,false,false,([]:List Int),([]:List X),0,0,0,0,(ByteArray.empty,ByteArray.empty,0),([]:List Int))).1,x4.2.2)) else (DK (i64.wrap (x0+1)) y11.2 x2 x3 x4))) else (DK (i64.wrap (x0+1)) x1 x2 x3 x4)) else none) else none) else none) else none) else (DK (i64.wrap (x0+1)) x1 x2 x3 x4)) else none) else none) else (some (x4,x1,x2)))
def F4 (x0:AO) (x1:AA) (x2 x3:AX):Option (AX×AO×AA):=(if (x3.1==1)=true then ((Hq ([1,1,2]:List Int) x0).bind fun y7=>((Lb ([(⟨#[97]⟩:ByteArray),(⟨#[98]⟩:ByteArray),(⟨#[99]⟩:ByteArray)]:List ByteArray) y7.2).bind fun y8=>(if (y7.1==1)=true then ((Lb ([(⟨#[118]⟩:ByteArray),(⟨#[119]⟩:ByteArray),(⟨#[120]⟩:ByteArray),(⟨#[121]⟩:ByteArray)]:List ByteArray) y8.2).bind fun y9=>(DJ 0 y9.2 x1 x2 (x3.1,x3.2.1,x3.2.2.1,y7.1,y8.1,y9.1) ([1,1,2]:List Int) ([(⟨#[97]⟩:ByteArray),(⟨#[98]⟩:ByteArray),(⟨#[99]⟩:ByteArray)]:List ByteArray))) else (DJ 0 y8.2 x1 x2 (x3.1,x3.2.1,x3.2.2.1,y7.1,y8.1,x3.2.2.2.2.2) ([1,1,2]:List Int) ([(⟨#[97]⟩:ByteArray),(⟨#[98]⟩:ByteArray),(⟨#[99]⟩:ByteArray)]:List ByteArray))))) else (if (x3.1==5)=true then (DK 0 x0 x1 x2 x3) else (some (x3,x0,x1))))
def Ht (x0:AO) (x1:AA) (x2 x3:AX):Option (AX×AO×AA):=(if (x3.1==2)=true then ((DG 2 x0).bind fun y6=>(if y6.1=true then (F0 y6.2 x1 x2 (x3.1,x3.2.1,0,x3.2.2.2)) else (F0 y6.2 x1 x2 x3))) else (F0 x0 x1 x2 x3))
def Hu (x0:AO) (x1:AA) (x2 x3:AX):Option (AX×AO×AA):=(if ((x1.2.2.1.length:Int)==0)=true then ((AW x3.1 2 4).bind fun y4=>(if y4=true then (if ((1:Int)==6)=true then ((DG 4 x0).bind fun y5=>(if (!y5.1)=true then (Ax y5.2 x1 x2 (1,x3.2)) else (Ax y5.2 x1 x2 (1,x3.2)))) else (Ax x0 x1 x2 (1,x3.2))) else (if (x3.1==6)=true then ((DG 4 x0).bind fun y12=>(if (!y12.1)=true then (Ax y12.2 x1 x2 (1,x3.2)) else (Ax y12.2 x1 x2 x3))) else (Ax x0 x1 x2 x3)))) else (if (x3.1==6)=true then ((DG 4 x0).bind fun y13=>(if (!y13.1)=true then (Ax y13.2 x1 x2 (1,x3.2)) else (Ax y13.2 x1 x2 x3))) else (Ax x0 x1 x2 x3)))
def Yb (b0:AO) (b1:AA):Option (AX×AO×AA):=((Hq ([1,1,1,2,2,2,2,2,2,2,2,3,4,5,6]:List Int) b0).bind fun y1=>((CS 4 y1.2).bind fun y2=>((CS 20 y2.2).bind fun y3=>(Lu y3.2 b1 (0,0,0,0,ByteArray.empty,ByteArray.empty) (y1.1,(i64.wrap (1+y2.1)),y3.1,0,ByteArray.empty,ByteArray.empty)))))
theorem Hv:vp F3 DJ:=lS (by kernel_rfl)
theorem F5:sJ EE DK:=lS (by kernel_rfl)
theorem Hw:bl F4 F0:=jS (by kernel_rfl)
theorem Lv:bl Ht Ax:=jS (by kernel_rfl)
theorem Lw:bl Hu Lu:=jS (by kernel_rfl)
theorem ma:Oh Yb P7:=cT BK rfl ⟨rfl,rfl⟩ (by kernel_rfl)
def f7:=cG RK (AF Bu) (AF Bu) kx
def M0:=kE 0 [] [0] 0 f7 kx
def Rq:St→Option (RT (BL.outs Bu)):=lG RJ [] [0,7,8,9] 0 (AF Bu) M0
def f8:=kB [] [0,7,8,9] 0 Rq
def TY:=cG RI f8 (AF Bu) M0
def TZ:=kB [] [0,7,8,9] 0 TY
def M1:=kE 1 [] [0,7,8,9] 0 TY M0
def f9:=cG Ms TZ (AF Bu) M1
def f_:=kE 2 [] [0,4,7,8,9] 0 f9 M1
def dY:St→Option (RT (BL.outs Bu)):=lG S0 [] [0,4,7,8,9,13,14,15] 0 (AF Bu) f_
def Lx (x0:List (List Int)) (x1:List Int) (x2:List (List Int)) (x3 x4:Int):Option Bool:=cG Ms TZ (AF Bu) M1 ⟨[(0,.lst (.slice (.int .i64)) x0),(4,.lst (.int .i64) x1),(7,.lst (.slice (.int .i64)) x2),(8,.int .i64 x3),(9,.int .i64 x4)],[]⟩
def Hx (x0:List (List Int)) (x1:List Int) (x2:List (List Int)) (x3 x4:Int) (x5:List Int) (x6 x7:Int):Option Bool:=dY ⟨[(0,.lst (.slice (.int .i64)) x0),(4,.lst (.int .i64) x1),(7,.lst (.slice (.int .i64)) x2),(8,.int .i64 x3),(9,.int .i64 x4),(13,.lst (.int .i64) x5),(14,.int .i64 x6),(15,.int .i64 x7)],[]⟩
def Hy (x0 x1:List (List Int)) (x2 x3:Int):Option Bool:=Rq ⟨[(0,.lst (.slice (.int .i64)) x0),(7,.lst (.slice (.int .i64)) x1),(8,.int .i64 x2),(9,.int .i64 x3)],[]⟩
def Rr (x0:List (List Int)) (x1:List Int) (x2:List (List Int)) (x3 x4:Int):Option Bool:=((Ae (x1.length:Int) 1 4).bind fun y3=>(if (!y3)=true then (some false) else (Hy x0 x2 x3 (i64.wrap (x4+1)))))
def Ly (x0:List (List Int)) (x1:List Int) (x2:List (List Int)) (x3 x4:Int) (x5:List Int) (x6 x7:Int):Option Bool:=(if (decide (x7<x6))=true then (if 0≤x7 then (if x7<(x5.length:Int) then ((Ds (x5.getD x7.toNat 0)).bind fun y1=>(if (!y1)=false then ((DF x1 (x5.getD x7.toNat 0)).bind fun y2=>(if (y2 != x7)=true then (some false) else (Hx x0 x1 x2 x3 x4 x5 x6 (i64.wrap (x7+1))))) else (some false))) else none) else none) else (Lx x0 x1 x2 x3 x4))
def Lz (x0 x1:List (List Int)) (x2 x3:Int):Option Bool:=(if (decide (x3<x2))=true then (if 0≤x3 then (if x3<(x1.length:Int) then (Hx x0 (x1.getD x3.toNat ([]:List Int)) x1 x2 x3 (x1.getD x3.toNat ([]:List Int)) ((x1.getD x3.toNat ([]:List Int)).length:Int) 0) else none) else none) else ((Ae (x0.length:Int) 1 9).bind fun y4=>(some y4)))
def Yc (x0:List (List Int)):Option Bool:=(Hy x0 x0 (x0.length:Int) 0)
theorem dZ:sJ Rr Lx:=jS (by kernel_rfl)
theorem Rs:sx Ly Hx:=lS (by kernel_rfl)
theorem Rt:bl Lz Hy:=lS (by kernel_rfl)
theorem mb:PO Yc DE:=cT Bu rfl ⟨rfl,rfl⟩ (by kernel_rfl)
def bJ:=cG Pz (AF C0) (AF C0) kx
def bK:=kE 0 [(3,0)] [3] 1 bJ kx
def Zk:St→Option (RT (BL.outs C0)):=lG Py [(3,0)] [3,6,7,8] 1 (AF C0) bK
def GQ (x0:List (List Int)) (x1 x2:Int) (x3:List (List Int)):Option (List (List Int)):=Zk ⟨[(3,.row 0),(6,.lst (.slice (.int .i64)) x0),(7,.int .i64 x1),(8,.int .i64 x2)],[.rows 33 (.slice (.int .i64)) x3]⟩
def JB (x0:List (List Int)) (x1 x2:Int) (x3:List (List Int)):Option (List (List Int)):=(if (decide (x2<x1))=true then (if 0≤x2 then (if x2<(x0.length:Int) then ((Bg (x0.getD x2.toNat ([]:List Int))).bind fun y1=>(if x3.length+([y1]:List (List Int)).length≤68719476736 then (GQ x0 x1 (i64.wrap (x2+1)) (x3++([y1]:List (List Int)))) else none)) else none) else none) else (some x3))
def Ta (x0:List (List Int)):Option (List (List Int)):=(GQ x0 (x0.length:Int) 0 ([]:List (List Int)))
theorem O1:bl JB GQ:=lS (by kernel_rfl)
theorem gA:PO Ta Io:=cT C0 rfl ⟨rfl,rfl⟩ (by kernel_rfl)
def O2 (x0:Int) (x1:List (List Int)) (x2:Bool) (x3:O):Option (O×Bool):=cG P0 (AF E2) (AF E2) kx ⟨[(0,.int .i64 x0),(1,.lst (.slice (.int .i64)) x1),(4,.ptr 0 0),(14,.bool x2)],[.var (U.enc x3)]⟩
def O3 (x0:Int) (x1:List (List Int)) (x2:Bool) (x3:O):Option (O×Bool):=(if 0≤(0:Int) then (if 0<(x1.length:Int) then (if 0≤(0:Int) then (if 0<((x1.getD (0:Int).toNat ([]:List Int)).length:Int) then (if 0≤(0:Int) then (if 0<(x1.length:Int) then ((Cc (x1.getD (0:Int).toNat ([]:List Int)) x0).bind fun y3=>(some ((x0,1,false,y3,(((x1.getD (0:Int).toNat ([]:List Int)).getD (0:Int).toNat 0)==x0),(((x1.getD (0:Int).toNat ([]:List Int)).getD (0:Int).toNat 0)==x0),([]:List Int),([]:List X),0,0,0,0,(ByteArray.empty,ByteArray.empty,0),([]:List Int)),true))) else none) else none) else none) else none) else none) else none)
def Tb (x0:Int) (x1:List (List Int)):Option (O×Bool):=((Ds x0).bind fun y1=>(if (!y1)=false then ((DE x1).bind fun y2=>(if (!y2)=true then (some ((0,0,false,false,false,false,([]:List Int),([]:List X),0,0,0,0,(ByteArray.empty,ByteArray.empty,0),([]:List Int)),false)) else (O2 x0 x1 (!y2) (0,0,false,false,false,false,([]:List Int),([]:List X),0,0,0,0,(ByteArray.empty,ByteArray.empty,0),([]:List Int))))) else (some ((0,0,false,false,false,false,([]:List Int),([]:List X),0,0,0,0,(ByteArray.empty,ByteArray.empty,0),([]:List Int)),false))))
theorem Zl:bl O3 O2:=jS (by kernel_rfl)
theorem gC:Oh Tb Mv:=cT E2 rfl ⟨rfl,rfl⟩ (by kernel_rfl)
def Jj (x0:Int) (x1:ByteArray) (x2:Bool):Option Bool:=cG X4 (AF Ij) (AF Ij) kx ⟨[(0,.int .i64 x0),(3,.str x1),(26,.bool x2)],[]⟩
def OU (x0:Int) (x1:ByteArray) (x2:Bool):Option Bool:=(if (x0==1)=false then (some (x1.toList==(⟨#[]⟩:ByteArray).toList)) else (some true))
def Us (x0 x1:Int) (x2 x3:ByteArray):Option Bool:=((Ae x0 1 2).bind fun y1=>(if (!y1)=false then ((Ae x1 0 1000).bind fun y2=>(if (!y2)=false then ((PY x2).bind fun y3=>(if (!y3)=false then (if (decide ((x3.size:Int)>20))=true then (some false) else (Jj x0 x3 (decide ((x3.size:Int)>20)))) else (some false))) else (some false))) else (some false)))
theorem Wh:Qw OU Jj:=jS (by kernel_rfl)
theorem da:bl Us LZ:=cT Ij rfl ⟨rfl,rfl⟩ (by kernel_rfl)
def QV (x1:AX) (x2:Int) (b0:AA):Option (Bool×AA):=(if b0.2.2.2.length+([(x1.2.2.2.1,x1.2.2.2.2.1,x1.2.2.2.2.2,x2,(-1:Int),0,0,0,ByteArray.empty)]:List AC).length≤68719476736 then ((Bo x1.2.1 (b0.1,b0.2.1,b0.2.2.1,(b0.2.2.2++([(x1.2.2.2.1,x1.2.2.2.2.1,x1.2.2.2.2.2,x2,(-1:Int),0,0,0,ByteArray.empty)]:List AC)))).bind fun y1=>(if 0≤y1.1 then (if y1.1<(y1.2.2.1.length:Int) then ((PZ (y1.2.2.1.getD y1.1.toNat (0,0,false,false,false,false,([]:List Int),([]:List X),0,0,0,0,(ByteArray.empty,ByteArray.empty,0),([]:List Int))) y1.2.1 x1.2.2.2.1 (b0.2.2.2.length:Int) x1.2.2.2.2.1 x1.2.2.2.2.2).bind fun y2=>(if (!y2.2.2.2)=true then (some (false,y1.2)) else (if 0≤y1.1 then (if y1.1<(y1.2.2.1.length:Int) then (let z3:List O:=y1.2.2.1.set y1.1.toNat y2.1; ((Fw y2.2.1 y2.2.2.1 x2 (y1.2.1,z3,y1.2.2.2)).bind fun y4=>(some (true,y4)))) else none) else none))) else none) else none)) else none)
theorem bL:Qw QV Ju:=cT G2 rfl ⟨rfl,rfl⟩ (by kernel_rfl)
def Yd:=cG MS (AF CO) (AF CO) kx
def Ye:=kE 0 [] [] 5 Yd kx
def XK:St→Option (RT (BL.outs CO)):=lG Ng [] [0,2,4,7,8] 5 (AF CO) Ye
def De (x0 x1 x2:Int) (x3:List (List Int)) (x4:List O) (x5:List Y) (x6:List AC) (x7:AX):Option (Bool×AA):=XK ⟨[(0,.ptr 0 0),(2,.int .i64 x0),(4,.ptr 4 0),(7,.int .i64 x1),(8,.int .i64 x2)],[.var [.lst (.slice (.int .i64)) x3,.row 1,.row 2,.row 3],.rows 42 U x4,.rows 97 AE x5,.rows 47 AI x6,.var (Ad.enc x7)]⟩
def FR (x0 x1 x2:Int) (x3:List (List Int)) (x4:List O) (x5:List Y) (x6:List AC) (x7:AX):Option (Bool×AA):=(if (decide (x2≤(x3.length:Int)))=true then (if 0≤(i64.wrap (x2-1)) then (if (i64.wrap (x2-1))<(x3.length:Int) then (if 0≤(0:Int) then (if 0<((x3.getD (i64.wrap (x2-1)).toNat ([]:List Int)).length:Int) then (if (((x3.getD (i64.wrap (x2-1)).toNat ([]:List Int)).getD (0:Int).toNat 0) != x7.2.1)=true then (De x0 x1 (i64.wrap (x2+1)) x3 x4 x5 x6 x7) else (if 0≤x1 then (if x1<(x4.length:Int) then ((Pa (x4.getD x1.toNat (0,0,false,false,false,false,([]:List Int),([]:List X),0,0,0,0,(ByteArray.empty,ByteArray.empty,0),([]:List Int))) x3 x2).bind fun y2=>(if y2.2.2=true then (if 0≤x1 then (if x1<(x4.length:Int) then (let z3:List O:=x4.set x1.toNat y2.1; ((Fw y2.2.1 ([]) x0 (x3,z3,x5,x6)).bind fun y4=>(some (y2.2.2,y4)))) else none) else none) else (some (y2.2.2,(x3,x4,x5,x6))))) else none) else none)) else none) else none) else none) else none) else (some (false,(x3,x4,x5,x6))))
def QW (x1:AX) (x2:Int) (b0:AA):Option (Bool×AA):=((Bo x1.2.1 b0).bind fun y1=>(if 0≤y1.1 then (if y1.1<(y1.2.2.1.length:Int) then (De x2 y1.1 (i64.wrap ((((y1.2.2.1.getD y1.1.toNat (0,0,false,false,false,false,([]:List Int),([]:List X),0,0,0,0,(ByteArray.empty,ByteArray.empty,0),([]:List Int))).2).1)+1)) y1.2.1 y1.2.2.1 y1.2.2.2.1 y1.2.2.2.2 x1) else none) else none))
theorem He:sx FR De:=lS (by kernel_rfl)
theorem bM:Qw QW Jv:=cT CO rfl ⟨rfl,rfl⟩ (by kernel_rfl)
def O4 (x1:Int) (b0:AA):Option (Int×AA):=((B7 b0.2.1 x1).bind fun y1=>(some (y1,b0)))
theorem Zm:Oh O4 Bo:=cT GP rfl ⟨rfl,rfl⟩ (by kernel_rfl)
def rN (x0:O):Option O:=(some (x0.1,x0.2.1,true,false,false,false,([]:List Int),([]:List X),0,0,0,0,(ByteArray.empty,ByteArray.empty,0),([]:List Int)))
theorem rO:PO rN Rd:=cT RL rfl ⟨rfl,rfl⟩ (by kernel_rfl)
def Np (x1:AX) (x2:Int) (b0:AA):Option (Bool×AA):=(if ((b0.2.2.1.length:Int)==0)=true then (some (false,b0)) else (if (b0.2.2.1.length:Int)=0 then none else (if (x1.1==2)=true then ((D4 (Int.tmod x1.2.2.1 (b0.2.2.1.length:Int)) x2 b0).bind fun y1=>(some (true,y1))) else (if (x1.1==3)=true then ((BZ b0.2.2.1 (Int.tmod x1.2.2.1 (b0.2.2.1.length:Int)) (i64.wrap ((Int.tmod x1.2.2.1 (b0.2.2.1.length:Int))+1))).bind fun y2=>(some (true,(b0.1,b0.2.1,y2,b0.2.2.2)))) else (if (x1.1==4)=true then (if 0≤(Int.tmod x1.2.2.1 (b0.2.2.1.length:Int)) then (if (Int.tmod x1.2.2.1 (b0.2.2.1.length:Int))<(b0.2.2.1.length:Int) then ((Gf (b0.2.2.1.getD ((Int.tmod x1.2.2.1 (b0.2.2.1.length:Int)).toNat) (0,0,0,0,0,([]:List X)))).bind fun y3=>(if b0.2.2.1.length+([y3]:List Y).length≤68719476736 then (some (true,(b0.1,b0.2.1,(b0.2.2.1++([y3]:List Y)),b0.2.2.2))) else none)) else none) else none) else (some (true,b0)))))))
theorem Yf:Qw Np IQ:=cT Fu rfl ⟨rfl,rfl⟩ (by kernel_rfl)
def Ru (x0:O):Option O:=((Bg x0.2.2.2.2.2.2.1).bind fun y1=>((Ag x0.2.2.2.2.2.2.2.1).bind fun y2=>((Bg x0.2.2.2.2.2.2.2.2.2.2.2.2.2).bind fun y3=>(some (x0.1,x0.2.1,x0.2.2.1,x0.2.2.2.1,x0.2.2.2.2.1,x0.2.2.2.2.2.1,y1,y2,x0.2.2.2.2.2.2.2.2.1,x0.2.2.2.2.2.2.2.2.2.1,x0.2.2.2.2.2.2.2.2.2.2.1,x0.2.2.2.2.2.2.2.2.2.2.2.1,x0.2.2.2.2.2.2.2.2.2.2.2.2.1,y3)))))
theorem db:PO Ru Ck:=cT Hn rfl ⟨rfl,rfl⟩ (by kernel_rfl)
def Yg (x0:Y):Option Y:=((Ag x0.2.2.2.2.2).bind fun y1=>(some (x0.1,x0.2.1,x0.2.2.1,x0.2.2.2.1,x0.2.2.2.2.1,y1)))
theorem mc:PO Yg Gf:=cT LI rfl ⟨rfl,rfl⟩ (by kernel_rfl)
def gD:=cG S4 (AF D0) (AF D0) kx
def gE:=kE 0 [] [0] 0 gD kx
def dd:St→Option (RT (BL.outs D0)):=lG S3 [] [0,3] 0 (AF D0) gE
def Hz (x0:List (List Int)) (x1:Int):Option Bool:=dd ⟨[(0,.lst (.slice (.int .i64)) x0),(3,.int .i64 x1)],[]⟩
def L5 (x0:List (List Int)) (x1:Int):Option Bool:=(if (decide (x1<(x0.length:Int)))=true then (if 0≤x1 then (if x1<(x0.length:Int) then ((P9 (x0.getD x1.toNat ([]:List Int))).bind fun y1=>(if (!y1)=true then (some false) else (Hz x0 (i64.wrap (x1+1))))) else none) else none) else ((AW (x0.length:Int) 1 9).bind fun y2=>(some y2)))
def Yh (x0:List (List Int)):Option Bool:=(Hz x0 0)
theorem Rv:Oh L5 Hz:=lS (by kernel_rfl)
theorem md:PO Yh D5:=cT D0 rfl ⟨rfl,rfl⟩ (by kernel_rfl)
def XL:=cG MU (AF CF) (AF CF) kx
def XM:=kE 0 [(3,0)] [3] 1 XL kx
def Ut:St→Option (RT (BL.outs CF)):=lG MT [(3,0)] [0,3,4] 1 (AF CF) XM
def Ej (x0:List (List Int)) (x1:Int) (x2:List (List Int)):Option (List (List Int)):=Ut ⟨[(0,.lst (.slice (.int .i64)) x0),(3,.row 0),(4,.int .i64 x1)],[.rows 33 (.slice (.int .i64)) x2]⟩
def HA (x0:List (List Int)) (x1:Int) (x2:List (List Int)):Option (List (List Int)):=(if (decide (x1<(x0.length:Int)))=true then (if 0≤x1 then (if x1<(x0.length:Int) then (if ([]:List Int).length+(x0.getD x1.toNat ([]:List Int)).length≤68719476736 then (if x2.length+([(([]:List Int)++(x0.getD x1.toNat ([]:List Int)))]:List (List Int)).length≤68719476736 then (Ej x0 (i64.wrap (x1+1)) (x2++([(([]:List Int)++(x0.getD x1.toNat ([]:List Int)))]:List (List Int)))) else none) else none) else none) else none) else (some x2))
def O5 (x0:List (List Int)):Option (List (List Int)):=(Ej x0 0 ([]:List (List Int)))
theorem L6:Qw HA Ej:=lS (by kernel_rfl)
theorem Zn:PO O5 I8:=cT CF rfl ⟨rfl,rfl⟩ (by kernel_rfl)
def O6 (x0:Int) (x1:List (List Int)) (x2:Bool) (x3:O):Option (O×Bool):=cG P1 (AF E3) (AF E3) kx ⟨[(0,.int .i64 x0),(1,.lst (.slice (.int .i64)) x1),(4,.ptr 0 0),(14,.bool x2)],[.var (U.enc x3)]⟩
def O7 (x0:Int) (x1:List (List Int)) (x2:Bool) (x3:O):Option (O×Bool):=(if 0≤(0:Int) then (if 0<(x1.length:Int) then ((Dt (x1.getD (0:Int).toNat ([]:List Int)) x0).bind fun y3=>(if 0≤(0:Int) then (if 0<(x1.length:Int) then (if 0≤(0:Int) then (if 0<((x1.getD (0:Int).toNat ([]:List Int)).length:Int) then (some ((x0,1,false,y3,(((x1.getD (0:Int).toNat ([]:List Int)).getD (0:Int).toNat 0)==x0),(((x1.getD (0:Int).toNat ([]:List Int)).getD (0:Int).toNat 0)==x0),([]:List Int),([]:List X),0,0,0,0,(ByteArray.empty,ByteArray.empty,0),([]:List Int)),true)) else none) else none) else none) else none)) else none) else none)
def Tc (x0:Int) (x1:List (List Int)):Option (O×Bool):=((D5 x1).bind fun y1=>(if (!y1)=false then ((AW x0 1 6).bind fun y2=>(if (!y2)=true then (some ((0,0,false,false,false,false,([]:List Int),([]:List X),0,0,0,0,(ByteArray.empty,ByteArray.empty,0),([]:List Int)),false)) else (O6 x0 x1 (!y2) (0,0,false,false,false,false,([]:List Int),([]:List X),0,0,0,0,(ByteArray.empty,ByteArray.empty,0),([]:List Int))))) else (some ((0,0,false,false,false,false,([]:List Int),([]:List X),0,0,0,0,(ByteArray.empty,ByteArray.empty,0),([]:List Int)),false))))
theorem Zo:bl O7 O6:=jS (by kernel_rfl)
theorem gF:Oh Tc Mw:=cT E3 rfl ⟨rfl,rfl⟩ (by kernel_rfl)
def Wi (x1:Int) (x2:AX) (b0:AA):Option (Int×AA):=(if ([]:List AC).length+b0.2.2.2.length≤68719476736 then (if (([]:List AC)++b0.2.2.2).length+([(x2.2.2.2.1,x2.2.2.2.2.1,x2.2.2.2.2.2,x1,(-1:Int),0,0,0,ByteArray.empty)]:List AC).length≤68719476736 then (if 0≤(i64.wrap (x2.2.1-1)) then (if (i64.wrap (x2.2.1-1))<(b0.2.1.length:Int) then ((Uk (b0.2.1.getD (i64.wrap (x2.2.1-1)).toNat (0,0,false,false,false,false,([]:List Int),([]:List X),0,0,0,0,(ByteArray.empty,ByteArray.empty,0),([]:List Int))) b0.1 x2.2.2.2.1 (i64.wrap ((((([]:List AC)++b0.2.2.2)++([(x2.2.2.2.1,x2.2.2.2.2.1,x2.2.2.2.2.2,x1,(-1:Int),0,0,0,ByteArray.empty)]:List AC)).length:Int)-1)) x2.2.2.2.2.1 x2.2.2.2.2.2).bind fun y1=>(if (!y1.2.2.2)=true then (some (1,(b0.1,b0.2.1,b0.2.2.1,((([]:List AC)++b0.2.2.2)++([(x2.2.2.2.1,x2.2.2.2.2.1,x2.2.2.2.2.2,x1,(-1:Int),0,0,0,ByteArray.empty)]:List AC))))) else ((E4 y1.1 y1.2.1 y1.2.2.1 x1 (b0.1,b0.2.1,b0.2.2.1,((([]:List AC)++b0.2.2.2)++([(x2.2.2.2.1,x2.2.2.2.2.1,x2.2.2.2.2.2,x1,(-1:Int),0,0,0,ByteArray.empty)]:List AC)))).bind fun y2=>(some (0,y2))))) else none) else none) else none) else none)
theorem jN:Qw Wi OE:=cT Jc rfl ⟨rfl,rfl⟩ (by kernel_rfl)
def de:=cG P2 (AF DW) (AF DW) kx
def df:=kE 0 [] [] 2 de kx
def bN:St→Option (RT (BL.outs DW)):=lG RM [] [0,1,2,7,8] 2 (AF DW) df
def HB (x0 x1 x2:Int) (x3:AA) (x4:O):Option (Int×AA):=bN ⟨[(0,.ptr 0 0),(1,.int .i64 x0),(2,.int .i64 x1),(7,.ptr 1 0),(8,.int .i64 x2)],[.var (Af.enc x3),.var (U.enc x4)]⟩
def HC (x0 x1 x2:Int) (x3:AA) (x4:O):Option (Int×AA):=(if (decide (x2≤(x3.1.length:Int)))=true then (if 0≤(i64.wrap (x2-1)) then (if (i64.wrap (x2-1))<(x3.1.length:Int) then (if 0≤(0:Int) then (if 0<((x3.1.getD (i64.wrap (x2-1)).toNat ([]:List Int)).length:Int) then (if (((x3.1.getD (i64.wrap (x2-1)).toNat ([]:List Int)).getD (0:Int).toNat 0) != x1)=true then (HB x0 x1 (i64.wrap (x2+1)) x3 x4) else ((Ul x4 x3.1 x2).bind fun y1=>(if (!y1.2.2)=true then (some (1,x3)) else ((E4 y1.1 y1.2.1 ([]:List AD) x0 x3).bind fun y2=>(some (0,y2)))))) else none) else none) else none) else none) else (some (1,x3)))
def OV (x1 x2:Int) (b0:AA):Option (Int×AA):=(if 0≤(i64.wrap (x2-1)) then (if (i64.wrap (x2-1))<(b0.2.1.length:Int) then (HB x1 x2 (i64.wrap ((((b0.2.1.getD (i64.wrap (x2-1)).toNat (0,0,false,false,false,false,([]:List Int),([]:List X),0,0,0,0,(ByteArray.empty,ByteArray.empty,0),([]:List Int))).2).1)+1)) b0 (b0.2.1.getD (i64.wrap (x2-1)).toNat (0,0,false,false,false,false,([]:List Int),([]:List X),0,0,0,0,(ByteArray.empty,ByteArray.empty,0),([]:List Int)))) else none) else none)
theorem KB:sJ HC HB:=lS (by kernel_rfl)
theorem Wj:Qw OV OF:=cT DW rfl ⟨rfl,rfl⟩ (by kernel_rfl)
def KC:=kE 0 [] [] 4 (AF CY) kx
def O8:St→Option (RT (BL.outs CY)):=lG Om [] [0,3,4,11] 4 (AF CY) KC
def bO:=kB [] [0,3,4,11] 4 O8
def QX:=cG Ol bO (AF CY) KC
def bP:=kB [] [0,3,4,11] 4 QX
def bQ:=kE 1 [] [0,3,4,11] 4 QX KC
def O9 (x0:List AD) (x1 x2:Int) (x3:Bool) (x4:AA) (x5:O) (x6:List O) (x7:List Y) (x8:AD):Option AA:=cG Ok bP (AF CY) bQ ⟨[(0,.ptr 0 0),(3,.lst Aq x0),(4,.int .i64 x1),(11,.int .i64 x2),(12,.ptr 4 0),(71,.bool x3)],[.var (Af.enc x4),.var (U.enc x5),.frz U x6,.frz AE x7,.var (Aq.enc x8)]⟩
def Cf (x0:List AD) (x1 x2:Int) (x3:AA) (x4:O) (x5:List O) (x6:List Y):Option AA:=O8 ⟨[(0,.ptr 0 0),(3,.lst Aq x0),(4,.int .i64 x1),(11,.int .i64 x2)],[.var (Af.enc x3),.var (U.enc x4),.frz U x5,.frz AE x6]⟩
def O_ (x0:List AD) (x1 x2:Int) (x3:Bool) (x4:AA) (x5:O) (x6:List O) (x7:List Y) (x8:AD):Option AA:=(if ([]:List AC).length+x4.2.2.2.length≤68719476736 then (if 0≤x8.1 then (if x8.1<((([]:List AC)++x4.2.2.2).length:Int) then (let z2:List AC:=(([]:List AC)++x4.2.2.2).set x8.1.toNat (((([]:List AC)++x4.2.2.2).getD x8.1.toNat (0,ByteArray.empty,ByteArray.empty,0,0,0,0,0,ByteArray.empty)).1,(((([]:List AC)++x4.2.2.2).getD x8.1.toNat (0,ByteArray.empty,ByteArray.empty,0,0,0,0,0,ByteArray.empty)).2).1,((((([]:List AC)++x4.2.2.2).getD x8.1.toNat (0,ByteArray.empty,ByteArray.empty,0,0,0,0,0,ByteArray.empty)).2).2).1,(((((([]:List AC)++x4.2.2.2).getD x8.1.toNat (0,ByteArray.empty,ByteArray.empty,0,0,0,0,0,ByteArray.empty)).2).2).2).1,x1,((((((([]:List AC)++x4.2.2.2).getD x8.1.toNat (0,ByteArray.empty,ByteArray.empty,0,0,0,0,0,ByteArray.empty)).2).2).2).2).2); (let z3:List AC:=z2.set x8.1.toNat ((z2.getD x8.1.toNat (0,ByteArray.empty,ByteArray.empty,0,0,0,0,0,ByteArray.empty)).1,((z2.getD x8.1.toNat (0,ByteArray.empty,ByteArray.empty,0,0,0,0,0,ByteArray.empty)).2).1,(((z2.getD x8.1.toNat (0,ByteArray.empty,ByteArray.empty,0,0,0,0,0,ByteArray.empty)).2).2).1,((((z2.getD x8.1.toNat (0,ByteArray.empty,ByteArray.empty,0,0,0,0,0,ByteArray.empty)).2).2).2).1,(((((z2.getD x8.1.toNat (0,ByteArray.empty,ByteArray.empty,0,0,0,0,0,ByteArray.empty)).2).2).2).2).1,x8.2.2.2.2.2,((((((z2.getD x8.1.toNat (0,ByteArray.empty,ByteArray.empty,0,0,0,0,0,ByteArray.empty)).2).2).2).2).2).2); (let z4:List AC:=z3.set x8.1.toNat ((z3.getD x8.1.toNat (0,ByteArray.empty,ByteArray.empty,0,0,0,0,0,ByteArray.empty)).1,((z3.getD x8.1.toNat (0,ByteArray.empty,ByteArray.empty,0,0,0,0,0,ByteArray.empty)).2).1,(((z3.getD x8.1.toNat (0,ByteArray.empty,ByteArray.empty,0,0,0,0,0,ByteArray.empty)).2).2).1,((((z3.getD x8.1.toNat (0,ByteArray.empty,ByteArray.empty,0,0,0,0,0,ByteArray.empty)).2).2).2).1,(((((z3.getD x8.1.toNat (0,ByteArray.empty,ByteArray.empty,0,0,0,0,0,ByteArray.empty)).2).2).2).2).1,((((((z3.getD x8.1.toNat (0,ByteArray.empty,ByteArray.empty,0,0,0,0,0,ByteArray.empty)).2).2).2).2).2).1,x8.2.1,(((((((z3.getD x8.1.toNat (0,ByteArray.empty,ByteArray.empty,0,0,0,0,0,ByteArray.empty)).2).2).2).2).2).2).2); (let z5:List AC:=z4.set x8.1.toNat ((z4.getD x8.1.toNat (0,ByteArray.empty,ByteArray.empty,0,0,0,0,0,ByteArray.empty)).1,((z4.getD x8.1.toNat (0,ByteArray.empty,ByteArray.empty,0,0,0,0,0,ByteArray.empty)).2).1,(((z4.getD x8.1.toNat (0,ByteArray.empty,ByteArray.empty,0,0,0,0,0,ByteArray.empty)).2).2).1,((((z4.getD x8.1.toNat (0,ByteArray.empty,ByteArray.empty,0,0,0,0,0,ByteArray.empty)).2).2).2).1,(((((z4.getD x8.1.toNat (0,ByteArray.empty,ByteArray.empty,0,0,0,0,0,ByteArray.empty)).2).2).2).2).1,((((((z4.getD x8.1.toNat (0,ByteArray.empty,ByteArray.empty,0,0,0,0,0,ByteArray.empty)).2).2).2).2).2).1,(((((((z4.getD x8.1.toNat (0,ByteArray.empty,ByteArray.empty,0,0,0,0,0,ByteArray.empty)).2).2).2).2).2).2).1,x8.2.2.1,((((((((z4.getD x8.1.toNat (0,ByteArray.empty,ByteArray.empty,0,0,0,0,0,ByteArray.empty)).2).2).2).2).2).2).2).2); (if (((z5.getD x8.1.toNat (0,ByteArray.empty,ByteArray.empty,0,0,0,0,0,ByteArray.empty)).1)==2)=true then (let z6:List AC:=z5.set x8.1.toNat ((z5.getD x8.1.toNat (0,ByteArray.empty,ByteArray.empty,0,0,0,0,0,ByteArray.empty)).1,((z5.getD x8.1.toNat (0,ByteArray.empty,ByteArray.empty,0,0,0,0,0,ByteArray.empty)).2).1,(((z5.getD x8.1.toNat (0,ByteArray.empty,ByteArray.empty,0,0,0,0,0,ByteArray.empty)).2).2).1,((((z5.getD x8.1.toNat (0,ByteArray.empty,ByteArray.empty,0,0,0,0,0,ByteArray.empty)).2).2).2).1,(((((z5.getD x8.1.toNat (0,ByteArray.empty,ByteArray.empty,0,0,0,0,0,ByteArray.empty)).2).2).2).2).1,((((((z5.getD x8.1.toNat (0,ByteArray.empty,ByteArray.empty,0,0,0,0,0,ByteArray.empty)).2).2).2).2).2).1,(((((((z5.getD x8.1.toNat (0,ByteArray.empty,ByteArray.empty,0,0,0,0,0,ByteArray.empty)).2).2).2).2).2).2).1,((((((((z5.getD x8.1.toNat (0,ByteArray.empty,ByteArray.empty,0,0,0,0,0,ByteArray.empty)).2).2).2).2).2).2).2).1,x8.2.2.2.2.1); (Cf x0 x1 (i64.wrap (x2+1)) (x4.1,x4.2.1,x4.2.2.1,z6) x5 x6 x7)) else (Cf x0 x1 (i64.wrap (x2+1)) (x4.1,x4.2.1,x4.2.2.1,z5) x5 x6 x7)))))) else none) else none) else none)
def JC (x0:List AD) (x1 x2:Int) (x3:AA) (x4:O) (x5:List O) (x6:List Y):Option AA:=(if (decide (x2<(x0.length:Int)))=true then (if 0≤x2 then (if x2<(x0.length:Int) then (if (decide (((x0.getD x2.toNat (0,0,0,ByteArray.empty,ByteArray.empty,0)).1)≥(x3.2.2.2.length:Int)))=true then (Cf x0 x1 (i64.wrap (x2+1)) x3 x4 x5 x6) else (if 0≤((x0.getD x2.toNat (0,0,0,ByteArray.empty,ByteArray.empty,0)).1) then (if ((x0.getD x2.toNat (0,0,0,ByteArray.empty,ByteArray.empty,0)).1)<(x3.2.2.2.length:Int) then (if (decide (((((((x3.2.2.2.getD ((x0.getD x2.toNat (0,0,0,ByteArray.empty,ByteArray.empty,0)).1).toNat (0,ByteArray.empty,ByteArray.empty,0,0,0,0,0,ByteArray.empty)).2).2).2).2).1)≥0))=true then (Cf x0 x1 (i64.wrap (x2+1)) x3 x4 x5 x6) else (O9 x0 x1 x2 (decide (((((((x3.2.2.2.getD ((x0.getD x2.toNat (0,0,0,ByteArray.empty,ByteArray.empty,0)).1).toNat (0,ByteArray.empty,ByteArray.empty,0,0,0,0,0,ByteArray.empty)).2).2).2).2).1)≥0)) x3 x4 x5 x6 (x0.getD x2.toNat (0,0,0,ByteArray.empty,ByteArray.empty,0)))) else none) else none)) else none) else none) else (some x3))
def Td (x1:O) (x2:List Y) (x3:List AD) (x4:Int) (b0:AA):Option AA:=(if ([]:List O).length+b0.2.1.length≤68719476736 then (if 0≤(i64.wrap (x1.1-1)) then (if (i64.wrap (x1.1-1))<((([]:List O)++b0.2.1).length:Int) then (let z1:List O:=(([]:List O)++b0.2.1).set ((i64.wrap (x1.1-1)).toNat) x1; (if ([]:List Y).length+b0.2.2.1.length≤68719476736 then (if (([]:List Y)++b0.2.2.1).length+x2.length≤68719476736 then (Cf x3 x4 0 (b0.1,z1,((([]:List Y)++b0.2.2.1)++x2),b0.2.2.2) x1 z1 ((([]:List Y)++b0.2.2.1)++x2)) else none) else none)) else none) else none) else none)
theorem Zp:yM O_ O9:=jS (by kernel_rfl)
theorem PA:vp JC Cf:=lS (by kernel_rfl)
theorem gG:sJ Td E4:=cT CY rfl ⟨rfl,rfl⟩ (by kernel_rfl)
def rP (x0:O):Option O:=(some (x0.1,x0.2.1,true,false,false,false,([]:List Int),([]:List X),0,0,0,0,(ByteArray.empty,ByteArray.empty,0),([]:List Int)))
theorem rQ:PO rP YK:=cT RN rfl ⟨rfl,rfl⟩ (by kernel_rfl)
end
end Go.Proofs.YtokiohnjegbnpaaGreat.Core

namespace Go.Proofs.YtokiohnjegbnpaaGreat.Core
open Go IntKind
set_option linter.unusedVariables false
set_option maxRecDepth 100000
noncomputable section
def SV (x1:Int) (x2:AX) (b0:AA):Option (Int×AA):=(if ((b0.2.2.1.length:Int)==0)=true then (some (1,b0)) else (if (b0.2.2.1.length:Int)=0 then none else (if 0≤(Int.tmod x2.2.2.1 (b0.2.2.1.length:Int)) then (if (Int.tmod x2.2.2.1 (b0.2.2.1.length:Int))<(b0.2.2.1.length:Int) then (if (x2.1==4)=true then (if ([]:List Y).length+b0.2.2.1.length≤68719476736 then (if (([]:List Y)++b0.2.2.1).length+([b0.2.2.1.getD (Int.tmod x2.2.2.1 (b0.2.2.1.length:Int)).toNat (0,0,0,0,0,([]:List X))]:List Y).length≤68719476736 then (some (0,(b0.1,b0.2.1,((([]:List Y)++b0.2.2.1)++([b0.2.2.1.getD (Int.tmod x2.2.2.1 (b0.2.2.1.length:Int)).toNat (0,0,0,0,0,([]:List X))]:List Y)),b0.2.2.2))) else none) else none) else (if 0≤(0:Int) then (if 0≤(Int.tmod x2.2.2.1 (b0.2.2.1.length:Int)) then (if (Int.tmod x2.2.2.1 (b0.2.2.1.length:Int))≤(b0.2.2.1.length:Int) then (if 0≤(i64.wrap ((Int.tmod x2.2.2.1 (b0.2.2.1.length:Int))+1)) then (if (i64.wrap ((Int.tmod x2.2.2.1 (b0.2.2.1.length:Int))+1))≤(b0.2.2.1.length:Int) then (if (b0.2.2.1.length:Int)≤(b0.2.2.1.length:Int) then (if ([]:List Y).length+((b0.2.2.1.take (Int.tmod x2.2.2.1 (b0.2.2.1.length:Int)).toNat).drop (0:Int).toNat).length≤68719476736 then (if (([]:List Y)++((b0.2.2.1.take (Int.tmod x2.2.2.1 (b0.2.2.1.length:Int)).toNat).drop (0:Int).toNat)).length+((b0.2.2.1.take (b0.2.2.1.length:Int).toNat).drop (i64.wrap ((Int.tmod x2.2.2.1 (b0.2.2.1.length:Int))+1)).toNat).length≤68719476736 then (if (x2.1==3)=true then (some (0,(b0.1,b0.2.1,((([]:List Y)++((b0.2.2.1.take (Int.tmod x2.2.2.1 (b0.2.2.1.length:Int)).toNat).drop (0:Int).toNat))++((b0.2.2.1.take (b0.2.2.1.length:Int).toNat).drop (i64.wrap ((Int.tmod x2.2.2.1 (b0.2.2.1.length:Int))+1)).toNat)),b0.2.2.2))) else (if 0≤(i64.wrap (((((b0.2.2.1.getD (Int.tmod x2.2.2.1 (b0.2.2.1.length:Int)).toNat (0,0,0,0,0,([]:List X))).2).2).1)-1)) then (if (i64.wrap (((((b0.2.2.1.getD (Int.tmod x2.2.2.1 (b0.2.2.1.length:Int)).toNat (0,0,0,0,0,([]:List X))).2).2).1)-1))<(b0.2.1.length:Int) then ((P_ (b0.2.1.getD (i64.wrap (((((b0.2.2.1.getD (Int.tmod x2.2.2.1 (b0.2.2.1.length:Int)).toNat (0,0,0,0,0,([]:List X))).2).2).1)-1)).toNat (0,0,false,false,false,false,([]:List Int),([]:List X),0,0,0,0,(ByteArray.empty,ByteArray.empty,0),([]:List Int))) b0.1 (b0.2.2.1.getD (Int.tmod x2.2.2.1 (b0.2.2.1.length:Int)).toNat (0,0,0,0,0,([]:List X)))).bind fun y1=>((E4 y1.1 y1.2.1 y1.2.2 x1 (b0.1,b0.2.1,((([]:List Y)++((b0.2.2.1.take (Int.tmod x2.2.2.1 (b0.2.2.1.length:Int)).toNat).drop (0:Int).toNat))++((b0.2.2.1.take (b0.2.2.1.length:Int).toNat).drop (i64.wrap ((Int.tmod x2.2.2.1 (b0.2.2.1.length:Int))+1)).toNat)),b0.2.2.2)).bind fun y2=>(some (0,y2)))) else none) else none)) else none) else none) else none) else none) else none) else none) else none) else none)) else none) else none)))
theorem aE:Qw SV ST:=cT NQ rfl ⟨rfl,rfl⟩ (by kernel_rfl)
def Yi (x0:O):Option O:=(if ([]:List Int).length+x0.2.2.2.2.2.2.1.length≤68719476736 then (if ([]:List X).length+x0.2.2.2.2.2.2.2.1.length≤68719476736 then (if ([]:List Int).length+x0.2.2.2.2.2.2.2.2.2.2.2.2.2.length≤68719476736 then (some (x0.1,x0.2.1,x0.2.2.1,x0.2.2.2.1,x0.2.2.2.2.1,x0.2.2.2.2.2.1,(([]:List Int)++x0.2.2.2.2.2.2.1),(([]:List X)++x0.2.2.2.2.2.2.2.1),x0.2.2.2.2.2.2.2.2.1,x0.2.2.2.2.2.2.2.2.2.1,x0.2.2.2.2.2.2.2.2.2.2.1,x0.2.2.2.2.2.2.2.2.2.2.2.1,x0.2.2.2.2.2.2.2.2.2.2.2.2.1,(([]:List Int)++x0.2.2.2.2.2.2.2.2.2.2.2.2.2))) else none) else none) else none)
theorem me:PO Yi D6:=cT LJ rfl ⟨rfl,rfl⟩ (by kernel_rfl)
def dg (x0:ByteArray):Option Bool:=((Ae (x0.size:Int) 1 12).bind fun y1=>(some y1))
theorem qH:PO dg PY:=cT PU rfl ⟨rfl,rfl⟩ (by kernel_rfl)
def Rw (x0:List (List Int)) (x1:Bool) (x2:O) (x3:Y) (x4 x5:O):Option (O×List Y×List AD):=cG S5 (AF GZ) (AF GZ) kx ⟨[(1,.lst (.slice (.int .i64)) x0),(5,.ptr 1 0),(6,.ptr 2 0),(9,.ptr 3 0),(47,.bool x1)],[.var (U.enc x2),.var (AE.enc x3),.var (U.enc x4),.var (U.enc x5)]⟩
def Rx (x0:List (List Int)) (x1:Bool) (x2:O) (x3:Y) (x4 x5:O):Option (O×List Y×List AD):=((Jw x0 x3 x5).bind fun y5=>((Ck y5.2.2).bind fun y6=>(some (y6,y5.1,y5.2.1))))
def Yj (x0:O) (x1:List (List Int)) (x2:Y):Option (O×List Y×List AD):=((Ck x0).bind fun y1=>(if (x2.2.2.1 != x0.1)=false then (if (decide (x2.2.2.2.1<x0.2.1))=false then (if (decide (x2.2.2.2.1>(x1.length:Int)))=false then ((Fd x0).bind fun y2=>(if (!y2)=false then ((DE x1).bind fun y3=>(if (!y3)=false then ((Um x2).bind fun y4=>(if (!y4)=true then (some (y1,[],[])) else (Rw x1 (!y4) x0 x2 (0,0,false,false,false,false,([]:List Int),([]:List X),0,0,0,0,(ByteArray.empty,ByteArray.empty,0),([]:List Int)) y1))) else (some (y1,[],[])))) else (some (y1,[],[])))) else (some (y1,[],[]))) else (some (y1,[],[]))) else (some (y1,[],[]))))
theorem dh:t_ Rx Rw:=jS (by kernel_rfl)
theorem mf:Qw Yj La:=cT GZ rfl ⟨rfl,rfl⟩ (by kernel_rfl)
def JD:=kE 0 [] [] 4 (AF CJ) kx
def Nq:St→Option (RT (BL.outs CJ)):=lG Oq [] [0,3,20,21,22] 4 (AF CJ) JD
def Zq:=kB [] [0,3,20,21,22] 4 Nq
def PB:=cG Oo Zq (AF CJ) JD
def Zr:=kB [] [0,3,20,21,22] 4 PB
def Zs:=kE 1 [] [0,3,20,21,22] 4 PB JD
def Nr (x0:Int) (x1:List AD) (x2 x3:Int) (x4:Bool) (x5:List (List Int)) (x6:List O) (x7:List Y) (x8:List AC) (x9:AD):Option AA:=cG On Zr (AF CJ) Zs ⟨[(0,.ptr 0 0),(3,.int .i64 x0),(9,.ptr 4 0),(20,.lst Aq x1),(21,.int .i64 x2),(22,.int .i64 x3),(47,.bool x4)],[.var [.lst (.slice (.int .i64)) x5,.row 1,.row 2,.row 3],.rows 42 U x6,.rows 97 AE x7,.rows 47 AI x8,.var (Aq.enc x9)]⟩
def CQ (x0:Int) (x1:List AD) (x2 x3:Int) (x4:List (List Int)) (x5:List O) (x6:List Y) (x7:List AC):Option AA:=Nq ⟨[(0,.ptr 0 0),(3,.int .i64 x0),(20,.lst Aq x1),(21,.int .i64 x2),(22,.int .i64 x3)],[.var [.lst (.slice (.int .i64)) x4,.row 1,.row 2,.row 3],.rows 42 U x5,.rows 97 AE x6,.rows 47 AI x7]⟩
def Ns (x0:Int) (x1:List AD) (x2 x3:Int) (x4:Bool) (x5:List (List Int)) (x6:List O) (x7:List Y) (x8:List AC) (x9:AD):Option AA:=(if 0≤x9.1 then (if x9.1<(x8.length:Int) then (let z2:List AC:=x8.set x9.1.toNat ((x8.getD x9.1.toNat (0,ByteArray.empty,ByteArray.empty,0,0,0,0,0,ByteArray.empty)).1,((x8.getD x9.1.toNat (0,ByteArray.empty,ByteArray.empty,0,0,0,0,0,ByteArray.empty)).2).1,(((x8.getD x9.1.toNat (0,ByteArray.empty,ByteArray.empty,0,0,0,0,0,ByteArray.empty)).2).2).1,((((x8.getD x9.1.toNat (0,ByteArray.empty,ByteArray.empty,0,0,0,0,0,ByteArray.empty)).2).2).2).1,x0,(((((x8.getD x9.1.toNat (0,ByteArray.empty,ByteArray.empty,0,0,0,0,0,ByteArray.empty)).2).2).2).2).2); (let z3:List AC:=z2.set x9.1.toNat ((z2.getD x9.1.toNat (0,ByteArray.empty,ByteArray.empty,0,0,0,0,0,ByteArray.empty)).1,((z2.getD x9.1.toNat (0,ByteArray.empty,ByteArray.empty,0,0,0,0,0,ByteArray.empty)).2).1,(((z2.getD x9.1.toNat (0,ByteArray.empty,ByteArray.empty,0,0,0,0,0,ByteArray.empty)).2).2).1,((((z2.getD x9.1.toNat (0,ByteArray.empty,ByteArray.empty,0,0,0,0,0,ByteArray.empty)).2).2).2).1,(((((z2.getD x9.1.toNat (0,ByteArray.empty,ByteArray.empty,0,0,0,0,0,ByteArray.empty)).2).2).2).2).1,x9.2.2.2.2.2,((((((z2.getD x9.1.toNat (0,ByteArray.empty,ByteArray.empty,0,0,0,0,0,ByteArray.empty)).2).2).2).2).2).2); (let z4:List AC:=z3.set x9.1.toNat ((z3.getD x9.1.toNat (0,ByteArray.empty,ByteArray.empty,0,0,0,0,0,ByteArray.empty)).1,((z3.getD x9.1.toNat (0,ByteArray.empty,ByteArray.empty,0,0,0,0,0,ByteArray.empty)).2).1,(((z3.getD x9.1.toNat (0,ByteArray.empty,ByteArray.empty,0,0,0,0,0,ByteArray.empty)).2).2).1,((((z3.getD x9.1.toNat (0,ByteArray.empty,ByteArray.empty,0,0,0,0,0,ByteArray.empty)).2).2).2).1,(((((z3.getD x9.1.toNat (0,ByteArray.empty,ByteArray.empty,0,0,0,0,0,ByteArray.empty)).2).2).2).2).1,((((((z3.getD x9.1.toNat (0,ByteArray.empty,ByteArray.empty,0,0,0,0,0,ByteArray.empty)).2).2).2).2).2).1,x9.2.1,(((((((z3.getD x9.1.toNat (0,ByteArray.empty,ByteArray.empty,0,0,0,0,0,ByteArray.empty)).2).2).2).2).2).2).2); (let z5:List AC:=z4.set x9.1.toNat ((z4.getD x9.1.toNat (0,ByteArray.empty,ByteArray.empty,0,0,0,0,0,ByteArray.empty)).1,((z4.getD x9.1.toNat (0,ByteArray.empty,ByteArray.empty,0,0,0,0,0,ByteArray.empty)).2).1,(((z4.getD x9.1.toNat (0,ByteArray.empty,ByteArray.empty,0,0,0,0,0,ByteArray.empty)).2).2).1,((((z4.getD x9.1.toNat (0,ByteArray.empty,ByteArray.empty,0,0,0,0,0,ByteArray.empty)).2).2).2).1,(((((z4.getD x9.1.toNat (0,ByteArray.empty,ByteArray.empty,0,0,0,0,0,ByteArray.empty)).2).2).2).2).1,((((((z4.getD x9.1.toNat (0,ByteArray.empty,ByteArray.empty,0,0,0,0,0,ByteArray.empty)).2).2).2).2).2).1,(((((((z4.getD x9.1.toNat (0,ByteArray.empty,ByteArray.empty,0,0,0,0,0,ByteArray.empty)).2).2).2).2).2).2).1,x9.2.2.1,((((((((z4.getD x9.1.toNat (0,ByteArray.empty,ByteArray.empty,0,0,0,0,0,ByteArray.empty)).2).2).2).2).2).2).2).2); (if (((z5.getD x9.1.toNat (0,ByteArray.empty,ByteArray.empty,0,0,0,0,0,ByteArray.empty)).1)==2)=true then (let z6:List AC:=z5.set x9.1.toNat ((z5.getD x9.1.toNat (0,ByteArray.empty,ByteArray.empty,0,0,0,0,0,ByteArray.empty)).1,((z5.getD x9.1.toNat (0,ByteArray.empty,ByteArray.empty,0,0,0,0,0,ByteArray.empty)).2).1,(((z5.getD x9.1.toNat (0,ByteArray.empty,ByteArray.empty,0,0,0,0,0,ByteArray.empty)).2).2).1,((((z5.getD x9.1.toNat (0,ByteArray.empty,ByteArray.empty,0,0,0,0,0,ByteArray.empty)).2).2).2).1,(((((z5.getD x9.1.toNat (0,ByteArray.empty,ByteArray.empty,0,0,0,0,0,ByteArray.empty)).2).2).2).2).1,((((((z5.getD x9.1.toNat (0,ByteArray.empty,ByteArray.empty,0,0,0,0,0,ByteArray.empty)).2).2).2).2).2).1,(((((((z5.getD x9.1.toNat (0,ByteArray.empty,ByteArray.empty,0,0,0,0,0,ByteArray.empty)).2).2).2).2).2).2).1,((((((((z5.getD x9.1.toNat (0,ByteArray.empty,ByteArray.empty,0,0,0,0,0,ByteArray.empty)).2).2).2).2).2).2).2).1,x9.2.2.2.2.1); (CQ x0 x1 x2 (i64.wrap (x3+1)) x5 x6 x7 z6)) else (CQ x0 x1 x2 (i64.wrap (x3+1)) x5 x6 x7 z5)))))) else none) else none)
def IS (x0:Int) (x1:List AD) (x2 x3:Int) (x4:List (List Int)) (x5:List O) (x6:List Y) (x7:List AC):Option AA:=(if (decide (x3<x2))=true then (if 0≤x3 then (if x3<(x1.length:Int) then ((Ae ((x1.getD x3.toNat (0,0,0,ByteArray.empty,ByteArray.empty,0)).1) 0 (i64.wrap ((x7.length:Int)-1))).bind fun y1=>(if (!y1)=true then (CQ x0 x1 x2 (i64.wrap (x3+1)) x4 x5 x6 x7) else (if 0≤((x1.getD x3.toNat (0,0,0,ByteArray.empty,ByteArray.empty,0)).1) then (if ((x1.getD x3.toNat (0,0,0,ByteArray.empty,ByteArray.empty,0)).1)<(x7.length:Int) then (if (((((((x7.getD (((x1.getD x3.toNat (0,0,0,ByteArray.empty,ByteArray.empty,0)).1).toNat) (0,ByteArray.empty,ByteArray.empty,0,0,0,0,0,ByteArray.empty)).2).2).2).2).1) != (-1:Int))=true then (CQ x0 x1 x2 (i64.wrap (x3+1)) x4 x5 x6 x7) else (Nr x0 x1 x2 x3 (((((((x7.getD (((x1.getD x3.toNat (0,0,0,ByteArray.empty,ByteArray.empty,0)).1).toNat) (0,ByteArray.empty,ByteArray.empty,0,0,0,0,0,ByteArray.empty)).2).2).2).2).1) != (-1:Int)) x4 x5 x6 x7 (x1.getD x3.toNat (0,0,0,ByteArray.empty,ByteArray.empty,0)))) else none) else none))) else none) else none) else (some (x4,x5,x6,x7)))
def Ry (x1:List Y) (x2:List AD) (x3:Int) (b0:AA):Option AA:=(if b0.2.2.1.length+x1.length≤68719476736 then (CQ x3 x2 (x2.length:Int) 0 b0.1 b0.2.1 (b0.2.2.1++x1) b0.2.2.2) else none)
theorem Yk:rB Ns Nr:=jS (by kernel_rfl)
theorem Nt:sx IS CQ:=lS (by kernel_rfl)
theorem di:bl Ry Fw:=cT CJ rfl ⟨rfl,rfl⟩ (by kernel_rfl)
def DX (x0:List AC) (x1:AC):Option Bool:=((CP x0 x1).bind fun y1=>(some (decide (y1≥0))))
theorem HL:Oh DX CC:=cT BQ rfl ⟨rfl,rfl⟩ (by kernel_rfl)
def Yl (x0 x1:AC):Option Bool:=(if (x0.1==1)=true then (if (x0.2.1.toList==x1.2.1.toList)=true then (if (x0.2.2.1.toList==x1.2.2.2.2.2.2.2.2.toList)=true then ((GG x0).bind fun y1=>(if (!y1)=false then (some (x0.2.2.2.2.2.1==x1.2.2.2.2.2.1)) else (some true))) else (some false)) else (some false)) else (some false))
theorem mg:Oh Yl P8:=cT LK rfl ⟨rfl,rfl⟩ (by kernel_rfl)
def SW:=cG JM (AF Be) (AF Be) kx
def SX:=kE 0 [] [] 0 SW kx
def Qk:St→Option (RT (BL.outs Be)):=lG JL [] [0,1,7,8] 0 (AF Be) SX
def Cd (x0:List Int) (x1 x2 x3:Int):Option Int:=Qk ⟨[(0,.lst (.int .i64) x0),(1,.int .i64 x1),(7,.int .i64 x2),(8,.int .i64 x3)],[]⟩
def Bb (x0:List Int) (x1 x2 x3:Int):Option Int:=(if (decide (x3<x2))=true then (if 0≤x3 then (if x3<(x0.length:Int) then (if (x1==(x0.getD x3.toNat 0))=true then (some x3) else (Cd x0 x1 x2 (i64.wrap (x3+1)))) else none) else none) else (some (-1:Int)))
def Uu (x0:List Int) (x1:Int):Option Int:=(Cd x0 x1 (x0.length:Int) 0)
theorem B3:bl Bb Cd:=lS (by kernel_rfl)
theorem L7:Oh Uu DF:=cT Be rfl ⟨rfl,rfl⟩ (by kernel_rfl)
def Rz (x1:List Int) (b0:AO):Option (Int×AO):=((CS (x1.length:Int) b0).bind fun y1=>(if 0≤y1.1 then (if y1.1<(x1.length:Int) then (some ((x1.getD y1.1.toNat 0),y1.2)) else none) else none))
theorem dj:Oh Rz Hq:=cT Ho rfl ⟨rfl,rfl⟩ (by kernel_rfl)
def Ym (x1:Int) (b0:AO):Option (Bool×AO):=((CS x1 b0).bind fun y1=>(some ((y1.1==0),y1.2)))
theorem mh:Oh Ym DG:=cT LL rfl ⟨rfl,rfl⟩ (by kernel_rfl)
def Yn (x1:List ByteArray) (b0:AO):Option (ByteArray×AO):=((CS (x1.length:Int) b0).bind fun y1=>(if 0≤y1.1 then (if y1.1<(x1.length:Int) then (some ((x1.getD y1.1.toNat ByteArray.empty),y1.2)) else none) else none))
theorem mi:Oh Yn Lb:=cT LN rfl ⟨rfl,rfl⟩ (by kernel_rfl)
def Jk (x0:List Int) (x1 x2 x3:O) (x4:X) (x5:List Int) (x6:Y):Option (O×List Y×List AD×Bool):=cG X7 (AF Dr) (AF Dr) kx ⟨[(12,.ptr 1 0),(16,.ptr 2 0),(18,.lst (.int .i64) x0),(20,.ptr 5 0)],[.var (U.enc x1),.var (U.enc x2),.var (U.enc x3),.var (AB.enc x4),.frz (.int .i64) x5,.var (AE.enc x6)]⟩
def HM (x0:List (List Int)) (x1 x2:Int) (x3:Bool) (x4 x5 x6:O) (x7:X):Option (O×List Y×List AD×Bool):=cG Vf (AF Dr) (AF Dr) kx ⟨[(1,.lst (.slice (.int .i64)) x0),(2,.int .i64 x1),(3,.int .i64 x2),(6,.ptr 0 0),(12,.ptr 1 0),(16,.ptr 2 0),(17,.ptr 3 0),(69,.bool x3)],[.var (U.enc x4),.var (U.enc x5),.var (U.enc x6),.var (AB.enc x7)]⟩
def Wk (x0:List (List Int)) (x1 x2:Int) (x3 x4:ByteArray) (x5:Bool) (x6 x7:O):Option (O×List Y×List AD×Bool):=cG Vg (AF Dr) (AF Dr) kx ⟨[(1,.lst (.slice (.int .i64)) x0),(2,.int .i64 x1),(3,.int .i64 x2),(4,.str x3),(5,.str x4),(6,.ptr 0 0),(12,.ptr 1 0),(37,.bool x5)],[.var (U.enc x6),.var (U.enc x7)]⟩
def Wl (x0:List Int) (x1 x2 x3:O) (x4:X) (x5:List Int) (x6:Y):Option (O×List Y×List AD×Bool):=(if ((x0.length:Int)==0)=true then ((G8 x3).bind fun y9=>(some (y9.2,[],y9.1,true))) else (qc ((Ah x0 x6 x3).bind fun y10=>(some (x3,y10.1,[],true))) ((Ah x0 x6 x3).bind fun y11=>(some (y11.2,y11.1,[],true)))))
def Wm (x0:List (List Int)) (x1 x2:Int) (x3:Bool) (x4 x5 x6:O) (x7:X):Option (O×List Y×List AD×Bool):=(if 0≤(i64.wrap (x4.2.1-1)) then (if (i64.wrap (x4.2.1-1))<(x0.length:Int) then ((B1 (x0.getD (i64.wrap (x4.2.1-1)).toNat ([]:List Int)) x6).bind fun y6=>((Bg y6.1).bind fun y7=>((Cm y7).bind fun y8=>(if (x1==1)=true then (Jk y6.1 x4 x5 (y6.2.1,y6.2.2.1,y6.2.2.2.1,y6.2.2.2.2.1,y6.2.2.2.2.2.1,y6.2.2.2.2.2.2.1,y6.2.2.2.2.2.2.2.1,y6.2.2.2.2.2.2.2.2.1,y6.2.2.2.2.2.2.2.2.2.1,x1,x2,y6.2.2.2.2.2.2.2.2.2.1,x7,y8) x7 y8 (5,0,0,0,y6.2.2.2.2.2.2.2.2.2.1,([x7]:List X))) else (Jk y6.1 x4 x5 (y6.2.1,y6.2.2.1,y6.2.2.2.1,y6.2.2.2.2.1,y6.2.2.2.2.2.1,y6.2.2.2.2.2.2.1,y6.2.2.2.2.2.2.2.1,y6.2.2.2.2.2.2.2.2.1,y6.2.2.2.2.2.2.2.2.2.1,x1,x2,y6.2.2.2.2.2.2.2.2.2.1,x7,y8) x7 y8 (7,0,0,0,y6.2.2.2.2.2.2.2.2.2.1,([]:List X))))))) else none) else none)
def Wn (x0:List (List Int)) (x1 x2:Int) (x3 x4:ByteArray) (x5:Bool) (x6 x7:O):Option (O×List Y×List AD×Bool):=((Ck x6).bind fun y4=>(if (x1==1)=true then (if ((x6.2.2.2.2.2.2.2.1.length:Int)==12)=true then ((NR x6.2.2.2.2.2.2.2.1 x3).bind fun y5=>(if (false != XY AB y5 (ByteArray.empty,ByteArray.empty,0))=true then (some ((0,0,false,false,false,false,([]:List Int),([]:List X),0,0,0,0,(ByteArray.empty,ByteArray.empty,0),([]:List Int)),[],[],false)) else (HM x0 x1 x2 (false != XY AB y5 (ByteArray.empty,ByteArray.empty,0)) x6 x7 (y4.1,y4.2.1,y4.2.2.1,y4.2.2.2.1,y4.2.2.2.2.1,y4.2.2.2.2.2.1,y4.2.2.2.2.2.2.1,y4.2.2.2.2.2.2.2.1,(i64.wrap (y4.2.2.2.2.2.2.2.2.1+1)),y4.2.2.2.2.2.2.2.2.2) (x3,x4,(i64.wrap ((i64.wrap (1000*x6.2.1))+(i64.wrap (y4.2.2.2.2.2.2.2.2.1+1)))))))) else (HM x0 x1 x2 false x6 x7 (y4.1,y4.2.1,y4.2.2.1,y4.2.2.2.1,y4.2.2.2.2.1,y4.2.2.2.2.2.1,y4.2.2.2.2.2.2.1,y4.2.2.2.2.2.2.2.1,(i64.wrap (y4.2.2.2.2.2.2.2.2.1+1)),y4.2.2.2.2.2.2.2.2.2) (x3,x4,(i64.wrap ((i64.wrap (1000*x6.2.1))+(i64.wrap (y4.2.2.2.2.2.2.2.2.1+1))))))) else (HM x0 x1 x2 false x6 x7 (y4.1,y4.2.1,y4.2.2.1,y4.2.2.2.1,y4.2.2.2.2.1,y4.2.2.2.2.2.1,y4.2.2.2.2.2.2.1,y4.2.2.2.2.2.2.2.1,(i64.wrap (y4.2.2.2.2.2.2.2.2.1+1)),y4.2.2.2.2.2.2.2.2.2) (x3,x4,(i64.wrap ((i64.wrap (1000*x6.2.1))+(i64.wrap (y4.2.2.2.2.2.2.2.2.1+1))))))))
def dl (x0:O) (x1:List (List Int)) (x2 x3:Int) (x4 x5:ByteArray):Option (O×List Y×List AD×Bool):=((Fd x0).bind fun y1=>(if (!y1)=false then ((G7 x1 x0).bind fun y2=>(if (!y2.1)=false then ((LZ x2 x3 x4 x5).bind fun y3=>(if (!y3)=true then (some ((0,0,false,false,false,false,([]:List Int),([]:List X),0,0,0,0,(ByteArray.empty,ByteArray.empty,0),([]:List Int)),[],[],false)) else (Wk x1 x2 x3 x4 x5 (!y3) y2.2 (0,0,false,false,false,false,([]:List Int),([]:List X),0,0,0,0,(ByteArray.empty,ByteArray.empty,0),([]:List Int))))) else (some ((0,0,false,false,false,false,([]:List Int),([]:List X),0,0,0,0,(ByteArray.empty,ByteArray.empty,0),([]:List Int)),[],[],false)))) else (some ((0,0,false,false,false,false,([]:List Int),([]:List X),0,0,0,0,(ByteArray.empty,ByteArray.empty,0),([]:List Int)),[],[],false))))
theorem jO:vp Wl Jk:=jS (by kernel_rfl)
theorem jP:sx Wm HM:=jS (by kernel_rfl)
theorem jQ:sx Wn Wk:=jS (by kernel_rfl)
theorem qI:t_ dl PZ:=cT Dr rfl ⟨rfl,rfl⟩ (by kernel_rfl)
def Jl (x0:List (List Int)) (x1:Int) (x2:Bool) (x3 x4 x5:O):Option (O×List Y×Bool):=cG Vl (AF Fv) (AF Fv) kx ⟨[(1,.lst (.slice (.int .i64)) x0),(2,.int .i64 x1),(6,.ptr 1 0),(9,.ptr 2 0),(10,.bool x2)],[.var (U.enc x3),.var (U.enc x4),.var (U.enc x5)]⟩
def Wo (x0:List (List Int)) (x1:Int) (x2:Bool) (x3 x4:O):Option (O×List Y×Bool):=cG Vm (AF Fv) (AF Fv) kx ⟨[(1,.lst (.slice (.int .i64)) x0),(2,.int .i64 x1),(3,.ptr 0 0),(6,.ptr 1 0),(44,.bool x2)],[.var (U.enc x3),.var (U.enc x4)]⟩
def Wp (x0:List (List Int)) (x1:Int) (x2:Bool) (x3 x4 x5:O):Option (O×List Y×Bool):=((Fx x5).bind fun y5=>(if x2=true then (if 0≤(i64.wrap (x1-1)) then (if (i64.wrap (x1-1))<(x0.length:Int) then ((DH (x0.getD (i64.wrap (x1-1)).toNat ([]:List Int)) y5.2.2.2.2.2.2.2.1 (y5.1,x1,false,false,true,y5.2.2.2.2.2)).bind fun y6=>(some (y6.2,y6.1,true))) else none) else none) else (if 0≤(i64.wrap (x1-2)) then (if (i64.wrap (x1-2))<(x0.length:Int) then (qc ((B1 (x0.getD (i64.wrap (x1-2)).toNat ([]:List Int)) (y5.1,x1,false,false,true,y5.2.2.2.2.2)).bind fun y7=>((Ah y7.1 (1,0,0,0,0,([]:List X)) y7.2).bind fun y8=>(some ((y5.1,x1,false,false,true,y5.2.2.2.2.2),y8.1,true)))) ((B1 (x0.getD (i64.wrap (x1-2)).toNat ([]:List Int)) (y5.1,x1,false,false,true,y5.2.2.2.2.2)).bind fun y9=>(qc ((Ah y9.1 (1,0,0,0,0,([]:List X)) y9.2).bind fun y10=>(some (y9.2,y10.1,true))) ((Ah y9.1 (1,0,0,0,0,([]:List X)) y9.2).bind fun y11=>(some (y11.2,y11.1,true)))))) else none) else none)))
def Wq (x0:List (List Int)) (x1:Int) (x2:Bool) (x3 x4:O):Option (O×List Y×Bool):=((Ck x3).bind fun y4=>(if x3.2.2.2.1=true then (Jl x0 x1 (x3.2.1==(i64.wrap (x1-1))) x3 x4 y4) else (Jl x0 x1 false x3 x4 y4)))
def dp (x0:O) (x1:List (List Int)) (x2:Int):Option (O×List Y×Bool):=((Fd x0).bind fun y1=>(if (!y1)=true then (some ((0,0,false,false,false,false,([]:List Int),([]:List X),0,0,0,0,(ByteArray.empty,ByteArray.empty,0),([]:List Int)),[],false)) else ((DE x1).bind fun y2=>(if (!y2)=true then (some ((0,0,false,false,false,false,([]:List Int),([]:List X),0,0,0,0,(ByteArray.empty,ByteArray.empty,0),([]:List Int)),[],false)) else ((Ae x2 2 (x1.length:Int)).bind fun y3=>(if (!y3)=true then (some ((0,0,false,false,false,false,([]:List Int),([]:List X),0,0,0,0,(ByteArray.empty,ByteArray.empty,0),([]:List Int)),[],false)) else (if (decide (x2≤x0.2.1))=true then (some ((0,0,false,false,false,false,([]:List Int),([]:List X),0,0,0,0,(ByteArray.empty,ByteArray.empty,0),([]:List Int)),[],false)) else (if 0≤(i64.wrap (x2-1)) then (if (i64.wrap (x2-1))<(x1.length:Int) then (if 0≤(0:Int) then (if 0<((x1.getD (i64.wrap (x2-1)).toNat ([]:List Int)).length:Int) then (if (((x1.getD (i64.wrap (x2-1)).toNat ([]:List Int)).getD (0:Int).toNat 0) != x0.1)=true then (some ((0,0,false,false,false,false,([]:List Int),([]:List X),0,0,0,0,(ByteArray.empty,ByteArray.empty,0),([]:List Int)),[],false)) else (Wo x1 x2 (((x1.getD (i64.wrap (x2-1)).toNat ([]:List Int)).getD (0:Int).toNat 0) != x0.1) x0 (0,0,false,false,false,false,([]:List Int),([]:List X),0,0,0,0,(ByteArray.empty,ByteArray.empty,0),([]:List Int)))) else none) else none) else none) else none))))))))
theorem jR:t_ Wp Jl:=jS (by kernel_rfl)
theorem jT:sJ Wq Wo:=jS (by kernel_rfl)
theorem qJ:Qw dp Pa:=cT Fv rfl ⟨rfl,rfl⟩ (by kernel_rfl)
def Gk:=cG C2 (AF AS) (AF AS) kx
def Gl:=kE 0 [] [] 0 Gk kx
def GN:St→Option (RT (BL.outs AS)):=lG C1 [] [0,1,7,8] 0 (AF AS) Gl
def BD (x0:List O) (x1 x2 x3:Int):Option Int:=GN ⟨[(0,.lst U x0),(1,.clo 103 (.int .i64) x1),(7,.int .i64 x2),(8,.int .i64 x3)],[]⟩
def Bk (x0:List O) (x1 x2 x3:Int):Option Int:=(if (decide (x3<x2))=true then (if 0≤x3 then (if x3<(x0.length:Int) then ((HZ (x0.getD x3.toNat (0,0,false,false,false,false,([]:List Int),([]:List X),0,0,0,0,(ByteArray.empty,ByteArray.empty,0),([]:List Int))) x1).bind fun y1=>(if y1=true then (some x3) else (BD x0 x1 x2 (i64.wrap (x3+1))))) else none) else none) else (some (-1:Int)))
def DL (x0:List O) (x1:Int):Option Int:=(BD x0 x1 (x0.length:Int) 0)
theorem Cv:bl Bk BD:=lS (by kernel_rfl)
theorem HD:Oh DL B7:=cT AS rfl ⟨rfl,rfl⟩ (by kernel_rfl)
def Mb (x0:O) (x1:Int):Option Bool:=(some (x0.1==x1))
theorem XN:Oh Mb HZ:=cT FP rfl ⟨rfl,rfl⟩ (by kernel_rfl)
def gH:=cG S7 (AF D1) (AF D1) kx
def gI:=kE 0 [] [] 0 gH kx
def dq:St→Option (RT (BL.outs D1)):=lG S6 [] [0,3] 0 (AF D1) gI
def H5 (x0:List Int) (x1:Int):Option Bool:=dq ⟨[(0,.lst (.int .i64) x0),(3,.int .i64 x1)],[]⟩
def L8 (x0:List Int) (x1:Int):Option Bool:=(if (decide (x1<(x0.length:Int)))=true then (if 0≤x1 then (if x1<(x0.length:Int) then ((AW (x0.getD x1.toNat 0) 1 6).bind fun y2=>(if (!y2)=true then (some false) else (if 0≤(0:Int) then (if 0≤x1 then (if x1≤(x0.length:Int) then (if 0≤x1 then (if x1<(x0.length:Int) then ((Dt ((x0.take x1.toNat).drop (0:Int).toNat) (x0.getD x1.toNat 0)).bind fun y3=>(if y3=true then (some false) else (H5 x0 (i64.wrap (x1+1))))) else none) else none) else none) else none) else none))) else none) else none) else (some true))
def Yo (x0:List Int):Option Bool:=((AW (x0.length:Int) 1 4).bind fun y1=>(if (!y1)=true then (some false) else (H5 x0 0)))
theorem R0:Oh L8 H5:=lS (by kernel_rfl)
theorem mj:PO Yo P9:=cT D1 rfl ⟨rfl,rfl⟩ (by kernel_rfl)
def Yp:=cG S9 (AF Bn) (AF Bn) kx
def mm:=kE 0 [(16,2)] [12,16,17,18] 6 Yp kx
def jU:St→Option (RT (BL.outs Bn)):=lG Mt [(16,2)] [2,6,12,16,17,18,19,20,21] 6 (AF Bn) mm
def mn:=kE 0 [(16,2)] [12,16,17,18] 5 Yp kx
def jV:St→Option (RT (BL.outs Bn)):=lG Mt [(16,2)] [2,6,12,16,17,18,19,20,21] 5 (AF Bn) mn
def EM (x0:Int) (x1:List AD) (x2:List Int) (x3:Int) (x4 x5:O) (x6:List Y) (x7:O) (x8:X) (x9:List X):Option (O×List Y×List AD×Bool):=jU ⟨[(2,.int .i64 x0),(6,.ptr 0 0),(12,.ptr 1 0),(16,.row 2),(17,.lst Aq x1),(18,.ptr 3 0),(19,.ptr 4 0),(20,.lst (.int .i64) x2),(21,.int .i64 x3)],[.var (U.enc x4),.var (U.enc x5),.rows 97 AE x6,.var (U.enc x7),.var (AB.enc x8),.rows 38 AB x9]⟩
def OW (x0:List (List Int)) (x1 x2:Int) (x3:List AD) (x4:Bool) (x5 x6:O) (x7:List Y) (x8:O) (x9:X) (x10:List X):Option (O×List Y×List AD×Bool):=cG Mu (AF Bn) (AF Bn) kx ⟨[(1,.lst (.slice (.int .i64)) x0),(2,.int .i64 x1),(3,.int .i64 x2),(6,.ptr 0 0),(12,.ptr 1 0),(16,.row 2),(17,.lst Aq x3),(18,.ptr 3 0),(19,.ptr 4 0),(130,.bool x4)],[.var (U.enc x5),.var (U.enc x6),.rows 97 AE x7,.var (U.enc x8),.var (AB.enc x9),.rows 38 AB x10]⟩
def EN (x0:Int) (x1:List AD) (x2:List Int) (x3:Int) (x4 x5:O) (x6:List Y) (x7:O) (x8:X):Option (O×List Y×List AD×Bool):=jV ⟨[(2,.int .i64 x0),(6,.ptr 0 0),(12,.ptr 1 0),(16,.row 2),(17,.lst Aq x1),(18,.ptr 3 0),(19,.ptr 4 0),(20,.lst (.int .i64) x2),(21,.int .i64 x3)],[.var (U.enc x4),.var (U.enc x5),.rows 97 AE x6,.var (U.enc x7),.var (AB.enc x8)]⟩
def OX (x0:List (List Int)) (x1 x2:Int) (x3:List AD) (x4:Bool) (x5 x6:O) (x7:List Y) (x8:O) (x9:X):Option (O×List Y×List AD×Bool):=cG Mu (AF Bn) (AF Bn) kx ⟨[(1,.lst (.slice (.int .i64)) x0),(2,.int .i64 x1),(3,.int .i64 x2),(6,.ptr 0 0),(12,.ptr 1 0),(16,.row 2),(17,.lst Aq x3),(18,.ptr 3 0),(19,.ptr 4 0),(130,.bool x4)],[.var (U.enc x5),.var (U.enc x6),.rows 97 AE x7,.var (U.enc x8),.var (AB.enc x9)]⟩
def Cs (x0:List (List Int)) (x1 x2:Int) (x3 x4:ByteArray) (x5:List AD) (x6:Bool) (x7 x8:O) (x9:List Y):Option (O×List Y×List AD×Bool):=cG S_ (AF Bn) (AF Bn) kx ⟨[(1,.lst (.slice (.int .i64)) x0),(2,.int .i64 x1),(3,.int .i64 x2),(4,.str x3),(5,.str x4),(6,.ptr 0 0),(12,.ptr 1 0),(16,.row 2),(17,.lst Aq x5),(100,.bool x6)],[.var (U.enc x7),.var (U.enc x8),.rows 97 AE x9]⟩
def OY (x0:Int) (x1:List AD) (x2:List Int) (x3:Int) (x4 x5:O) (x6:List Y) (x7:O) (x8:X) (x9:List X):Option (O×List Y×List AD×Bool):=(if (decide (x3<(x2.length:Int)))=true then (if 0≤x3 then (if x3<(x2.length:Int) then (if ((x2.getD x3.toNat 0)==x4.1)=true then (EM x0 x1 x2 (i64.wrap (x3+1)) x4 x5 x6 x7 x8 x9) else (if 0≤x3 then (if x3<(x2.length:Int) then (if (x0==1)=true then (if x6.length+([(5,x4.1,(x2.getD x3.toNat 0),x4.2.1,x7.2.2.2.2.2.2.2.2.1,([x8]:List X))]:List Y).length≤68719476736 then (EM x0 x1 x2 (i64.wrap (x3+1)) x4 x5 (x6++([(5,x4.1,(x2.getD x3.toNat 0),x4.2.1,x7.2.2.2.2.2.2.2.2.1,([x8]:List X))]:List Y)) x7 x8 x9) else none) else (if x6.length+([(7,x4.1,(x2.getD x3.toNat 0),x4.2.1,x7.2.2.2.2.2.2.2.2.1,([]:List X))]:List Y).length≤68719476736 then (EM x0 x1 x2 (i64.wrap (x3+1)) x4 x5 (x6++([(7,x4.1,(x2.getD x3.toNat 0),x4.2.1,x7.2.2.2.2.2.2.2.2.1,([]:List X))]:List Y)) x7 x8 x9) else none)) else none) else none)) else none) else none) else (some (x7,x6,x1,true)))
def Wr (x0:List (List Int)) (x1 x2:Int) (x3:List AD) (x4:Bool) (x5 x6:O) (x7:List Y) (x8:O) (x9:X) (x10:List X):Option (O×List Y×List AD×Bool):=(if 0≤(i64.wrap (x5.2.1-1)) then (if (i64.wrap (x5.2.1-1))<(x0.length:Int) then ((Gg (x0.getD (i64.wrap (x5.2.1-1)).toNat ([]:List Int)) x5.1).bind fun y8=>(if ((y8.length:Int)==0)=true then ((Gh (x8.1,x8.2.1,x8.2.2.1,x8.2.2.2.1,x8.2.2.2.2.1,x8.2.2.2.2.2.1,x8.2.2.2.2.2.2.1,x8.2.2.2.2.2.2.2.1,x8.2.2.2.2.2.2.2.2.1,x1,x2,x8.2.2.2.2.2.2.2.2.1,x9,y8)).bind fun y9=>(some (y9.2,x7,y9.1,true))) else (EM x1 x3 (x0.getD (i64.wrap (x5.2.1-1)).toNat ([]:List Int)) 0 x5 x6 x7 (x8.1,x8.2.1,x8.2.2.1,x8.2.2.2.1,x8.2.2.2.2.1,x8.2.2.2.2.2.1,x8.2.2.2.2.2.2.1,x8.2.2.2.2.2.2.2.1,x8.2.2.2.2.2.2.2.2.1,x1,x2,x8.2.2.2.2.2.2.2.2.1,x9,y8) x9 x10))) else none) else none)
def OZ (x0:Int) (x1:List AD) (x2:List Int) (x3:Int) (x4 x5:O) (x6:List Y) (x7:O) (x8:X):Option (O×List Y×List AD×Bool):=(if (decide (x3<(x2.length:Int)))=true then (if 0≤x3 then (if x3<(x2.length:Int) then (if ((x2.getD x3.toNat 0)==x4.1)=true then (EN x0 x1 x2 (i64.wrap (x3+1)) x4 x5 x6 x7 x8) else (if 0≤x3 then (if x3<(x2.length:Int) then (if (x0==1)=true then (if x6.length+([(5,x4.1,(x2.getD x3.toNat 0),x4.2.1,x7.2.2.2.2.2.2.2.2.1,([x8]:List X))]:List Y).length≤68719476736 then (EN x0 x1 x2 (i64.wrap (x3+1)) x4 x5 (x6++([(5,x4.1,(x2.getD x3.toNat 0),x4.2.1,x7.2.2.2.2.2.2.2.2.1,([x8]:List X))]:List Y)) x7 x8) else none) else (if x6.length+([(7,x4.1,(x2.getD x3.toNat 0),x4.2.1,x7.2.2.2.2.2.2.2.2.1,([]:List X))]:List Y).length≤68719476736 then (EN x0 x1 x2 (i64.wrap (x3+1)) x4 x5 (x6++([(7,x4.1,(x2.getD x3.toNat 0),x4.2.1,x7.2.2.2.2.2.2.2.2.1,([]:List X))]:List Y)) x7 x8) else none)) else none) else none)) else none) else none) else (some (x7,x6,x1,true)))
def Ws (x0:List (List Int)) (x1 x2:Int) (x3:List AD) (x4:Bool) (x5 x6:O) (x7:List Y) (x8:O) (x9:X):Option (O×List Y×List AD×Bool):=(if 0≤(i64.wrap (x5.2.1-1)) then (if (i64.wrap (x5.2.1-1))<(x0.length:Int) then ((Gg (x0.getD (i64.wrap (x5.2.1-1)).toNat ([]:List Int)) x5.1).bind fun y10=>(if ((y10.length:Int)==0)=true then ((Gh (x8.1,x8.2.1,x8.2.2.1,x8.2.2.2.1,x8.2.2.2.2.1,x8.2.2.2.2.2.1,x8.2.2.2.2.2.2.1,x8.2.2.2.2.2.2.2.1,x8.2.2.2.2.2.2.2.2.1,x1,x2,x8.2.2.2.2.2.2.2.2.1,x9,y10)).bind fun y11=>(some (y11.2,x7,y11.1,true))) else (EN x1 x3 (x0.getD (i64.wrap (x5.2.1-1)).toNat ([]:List Int)) 0 x5 x6 x7 (x8.1,x8.2.1,x8.2.2.1,x8.2.2.2.1,x8.2.2.2.2.1,x8.2.2.2.2.2.1,x8.2.2.2.2.2.2.1,x8.2.2.2.2.2.2.2.1,x8.2.2.2.2.2.2.2.2.1,x1,x2,x8.2.2.2.2.2.2.2.2.1,x9,y10) x9))) else none) else none)
def Wt (x0:List (List Int)) (x1 x2:Int) (x3 x4:ByteArray) (x5:List AD) (x6:Bool) (x7 x8:O) (x9:List Y):Option (O×List Y×List AD×Bool):=((D6 x7).bind fun y5=>(if (x1==1)=true then ((IR x7.2.2.2.2.2.2.2.1 (x3,x4,(i64.wrap ((i64.wrap (1000*x7.2.1))+(i64.wrap (x7.2.2.2.2.2.2.2.2.1+1)))))).bind fun y6=>((NS y6 x3).bind fun y7=>(if (true != XY AB y7 (x3,x4,(i64.wrap ((i64.wrap (1000*x7.2.1))+(i64.wrap (x7.2.2.2.2.2.2.2.2.1+1))))))=true then (some ((0,0,false,false,false,false,([]:List Int),([]:List X),0,0,0,0,(ByteArray.empty,ByteArray.empty,0),([]:List Int)),x9,x5,false)) else (OW x0 x1 x2 x5 (true != XY AB y7 (x3,x4,(i64.wrap ((i64.wrap (1000*x7.2.1))+(i64.wrap (x7.2.2.2.2.2.2.2.2.1+1)))))) x7 x8 x9 (y5.1,y5.2.1,y5.2.2.1,y5.2.2.2.1,y5.2.2.2.2.1,y5.2.2.2.2.2.1,y5.2.2.2.2.2.2.1,y5.2.2.2.2.2.2.2.1,(i64.wrap (x7.2.2.2.2.2.2.2.2.1+1)),y5.2.2.2.2.2.2.2.2.2) (x3,x4,(i64.wrap ((i64.wrap (1000*x7.2.1))+(i64.wrap (x7.2.2.2.2.2.2.2.2.1+1))))) y6)))) else (OX x0 x1 x2 x5 false x7 x8 x9 (y5.1,y5.2.1,y5.2.2.1,y5.2.2.2.1,y5.2.2.2.2.1,y5.2.2.2.2.2.1,y5.2.2.2.2.2.2.1,y5.2.2.2.2.2.2.2.1,(i64.wrap (x7.2.2.2.2.2.2.2.2.1+1)),y5.2.2.2.2.2.2.2.2.2) (x3,x4,(i64.wrap ((i64.wrap (1000*x7.2.1))+(i64.wrap (x7.2.2.2.2.2.2.2.2.1+1))))))))
def dr (x0:O) (x1:List (List Int)) (x2 x3:Int) (x4 x5:ByteArray):Option (O×List Y×List AD×Bool):=((Fe x0).bind fun y1=>(if (!y1)=true then (some ((0,0,false,false,false,false,([]:List Int),([]:List X),0,0,0,0,(ByteArray.empty,ByteArray.empty,0),([]:List Int)),([]:List Y),([]:List AD),false)) else ((D5 x1).bind fun y2=>(if (!y2)=true then (some ((0,0,false,false,false,false,([]:List Int),([]:List X),0,0,0,0,(ByteArray.empty,ByteArray.empty,0),([]:List Int)),([]:List Y),([]:List AD),false)) else (if (!x0.2.2.2.2.2.1)=true then (some ((0,0,false,false,false,false,([]:List Int),([]:List X),0,0,0,0,(ByteArray.empty,ByteArray.empty,0),([]:List Int)),([]:List Y),([]:List AD),false)) else (if (x0.2.2.2.2.2.2.2.2.2.1 != 0)=true then (some ((0,0,false,false,false,false,([]:List Int),([]:List X),0,0,0,0,(ByteArray.empty,ByteArray.empty,0),([]:List Int)),([]:List Y),([]:List AD),false)) else (if (decide (x0.2.2.2.2.2.2.2.2.1≥900))=true then (some ((0,0,false,false,false,false,([]:List Int),([]:List X),0,0,0,0,(ByteArray.empty,ByteArray.empty,0),([]:List Int)),([]:List Y),([]:List AD),false)) else (if (x2 != 1)=true then (if (x2 != 2)=true then (some ((0,0,false,false,false,false,([]:List Int),([]:List X),0,0,0,0,(ByteArray.empty,ByteArray.empty,0),([]:List Int)),([]:List Y),([]:List AD),false)) else ((AW x3 0 1000).bind fun y3=>(if (!y3)=true then (some ((0,0,false,false,false,false,([]:List Int),([]:List X),0,0,0,0,(ByteArray.empty,ByteArray.empty,0),([]:List Int)),([]:List Y),([]:List AD),false)) else ((AW (x4.size:Int) 1 12).bind fun y4=>(if (!y4)=true then (some ((0,0,false,false,false,false,([]:List Int),([]:List X),0,0,0,0,(ByteArray.empty,ByteArray.empty,0),([]:List Int)),([]:List Y),([]:List AD),false)) else (if (decide ((x5.size:Int)>20))=true then (some ((0,0,false,false,false,false,([]:List Int),([]:List X),0,0,0,0,(ByteArray.empty,ByteArray.empty,0),([]:List Int)),([]:List Y),([]:List AD),false)) else (if (x2==2)=true then (if (!(x5.toList==(⟨#[]⟩:ByteArray).toList))=true then (some ((0,0,false,false,false,false,([]:List Int),([]:List X),0,0,0,0,(ByteArray.empty,ByteArray.empty,0),([]:List Int)),([]:List Y),([]:List AD),false)) else (if (decide (x0.2.1>(x1.length:Int)))=true then (some ((0,0,false,false,false,false,([]:List Int),([]:List X),0,0,0,0,(ByteArray.empty,ByteArray.empty,0),([]:List Int)),([]:List Y),([]:List AD),false)) else (if 0≤(i64.wrap (x0.2.1-1)) then (if (i64.wrap (x0.2.1-1))<(x1.length:Int) then (if 0≤(0:Int) then (if 0<((x1.getD (i64.wrap (x0.2.1-1)).toNat ([]:List Int)).length:Int) then (if (((x1.getD (i64.wrap (x0.2.1-1)).toNat ([]:List Int)).getD (0:Int).toNat 0) != x0.1)=true then (some ((0,0,false,false,false,false,([]:List Int),([]:List X),0,0,0,0,(ByteArray.empty,ByteArray.empty,0),([]:List Int)),([]:List Y),([]:List AD),false)) else (Cs x1 x2 x3 x4 x5 ([]:List AD) (((x1.getD (i64.wrap (x0.2.1-1)).toNat ([]:List Int)).getD (0:Int).toNat 0) != x0.1) x0 (0,0,false,false,false,false,([]:List Int),([]:List X),0,0,0,0,(ByteArray.empty,ByteArray.empty,0),([]:List Int)) ([]:List Y))) else none) else none) else none) else none))) else (if (decide (x0.2.1>(x1.length:Int)))=true then (some ((0,0,false,false,false,false,([]:List Int),([]:List X),0,0,0,0,(ByteArray.empty,ByteArray.empty,0),([]:List Int)),([]:List Y),([]:List AD),false)) else (if 0≤(i64.wrap (x0.2.1-1)) then (if (i64.wrap (x0.2.1-1))<(x1.length:Int) then (if 0≤(0:Int) then (if 0<((x1.getD (i64.wrap (x0.2.1-1)).toNat ([]:List Int)).length:Int) then (if (((x1.getD (i64.wrap (x0.2.1-1)).toNat ([]:List Int)).getD (0:Int).toNat 0) != x0.1)=true then (some ((0,0,false,false,false,false,([]:List Int),([]:List X),0,0,0,0,(ByteArray.empty,ByteArray.empty,0),([]:List Int)),([]:List Y),([]:List AD),false)) else (Cs x1 x2 x3 x4 x5 ([]:List AD) (((x1.getD (i64.wrap (x0.2.1-1)).toNat ([]:List Int)).getD (0:Int).toNat 0) != x0.1) x0 (0,0,false,false,false,false,([]:List Int),([]:List X),0,0,0,0,(ByteArray.empty,ByteArray.empty,0),([]:List Int)) ([]:List Y))) else none) else none) else none) else none))))))))) else ((AW x3 0 1000).bind fun y12=>(if (!y12)=true then (some ((0,0,false,false,false,false,([]:List Int),([]:List X),0,0,0,0,(ByteArray.empty,ByteArray.empty,0),([]:List Int)),([]:List Y),([]:List AD),false)) else ((AW (x4.size:Int) 1 12).bind fun y13=>(if (!y13)=true then (some ((0,0,false,false,false,false,([]:List Int),([]:List X),0,0,0,0,(ByteArray.empty,ByteArray.empty,0),([]:List Int)),([]:List Y),([]:List AD),false)) else (if (decide ((x5.size:Int)>20))=true then (some ((0,0,false,false,false,false,([]:List Int),([]:List X),0,0,0,0,(ByteArray.empty,ByteArray.empty,0),([]:List Int)),([]:List Y),([]:List AD),false)) else (if (x2==2)=true then (if (!(x5.toList==(⟨#[]⟩:ByteArray).toList))=true then (some ((0,0,false,false,false,false,([]:List Int),([]:List X),0,0,0,0,(ByteArray.empty,ByteArray.empty,0),([]:List Int)),([]:List Y),([]:List AD),false)) else (if (decide (x0.2.1>(x1.length:Int)))=true then (some ((0,0,false,false,false,false,([]:List Int),([]:List X),0,0,0,0,(ByteArray.empty,ByteArray.empty,0),([]:List Int)),([]:List Y),([]:List AD),false)) else (if 0≤(i64.wrap (x0.2.1-1)) then (if (i64.wrap (x0.2.1-1))<(x1.length:Int) then (if 0≤(0:Int) then (if 0<((x1.getD (i64.wrap (x0.2.1-1)).toNat ([]:List Int)).length:Int) then (if (((x1.getD (i64.wrap (x0.2.1-1)).toNat ([]:List Int)).getD (0:Int).toNat 0) != x0.1)=true then (some ((0,0,false,false,false,false,([]:List Int),([]:List X),0,0,0,0,(ByteArray.empty,ByteArray.empty,0),([]:List Int)),([]:List Y),([]:List AD),false)) else (Cs x1 x2 x3 x4 x5 ([]:List AD) (((x1.getD (i64.wrap (x0.2.1-1)).toNat ([]:List Int)).getD (0:Int).toNat 0) != x0.1) x0 (0,0,false,false,false,false,([]:List Int),([]:List X),0,0,0,0,(ByteArray.empty,ByteArray.empty,0),([]:List Int)) ([]:List Y))) else none) else none) else none) else none))) else (if (decide (x0.2.1>(x1.length:Int)))=true then (some ((0,0,false,false,false,false,([]:List Int),([]:List X),0,0,0,0,(ByteArray.empty,ByteArray.empty,0),([]:List Int)),([]:List Y),([]:List AD),false)) else (if 0≤(i64.wrap (x0.2.1-1)) then (if (i64.wrap (x0.2.1-1))<(x1.length:Int) then (if 0≤(0:Int) then (if 0<((x1.getD (i64.wrap (x0.2.1-1)).toNat ([]:List Int)).length:Int) then (if (((x1.getD (i64.wrap (x0.2.1-1)).toNat ([]:List Int)).getD (0:Int).toNat 0) != x0.1)=true then (some ((0,0,false,false,false,false,([]:List Int),([]:List X),0,0,0,0,(ByteArray.empty,ByteArray.empty,0),([]:List Int)),([]:List Y),([]:List AD),false)) else (Cs x1 x2 x3 x4 x5 ([]:List AD) (((x1.getD (i64.wrap (x0.2.1-1)).toNat ([]:List Int)).getD (0:Int).toNat 0) != x0.1) x0 (0,0,false,false,false,false,([]:List Int),([]:List X),0,0,0,0,(ByteArray.empty,ByteArray.empty,0),([]:List Int)) ([]:List Y))) else none) else none) else none) else none))))))))))))))))
theorem Wu:rB OY EM:=lS (by kernel_rfl)
theorem jW:yw Wr OW:=jS (by kernel_rfl)
theorem Ww:yM OZ EN:=lS (by kernel_rfl)
theorem jX:rB Ws OX:=jS (by kernel_rfl)
theorem jY:rB Wt Cs:=jS (by kernel_rfl)
theorem qK:t_ dr Uk:=cT Bn rfl ⟨rfl,rfl⟩ (by kernel_rfl)
end
end Go.Proofs.YtokiohnjegbnpaaGreat.Core

namespace Go.Proofs.YtokiohnjegbnpaaGreat.Core
open Go IntKind
set_option linter.unusedVariables false
set_option maxRecDepth 100000
noncomputable section
def mo:=cG V5 (AF Cq) (AF Cq) kx
def mq:=kE 0 [(9,2)] [6,9,11] 5 mo kx
def jZ:St→Option (RT (BL.outs Cq)):=lG V0 [(9,2)] [1,2,3,6,9,11,13] 5 (AF Cq) mq
def Fh (x0:List (List Int)) (x1 x2:Int) (x3 x4:O) (x5:List Y) (x6:List X) (x7:O):Option (O×List Y×Bool):=jZ ⟨[(1,.lst (.slice (.int .i64)) x0),(2,.int .i64 x1),(3,.ptr 0 0),(6,.ptr 1 0),(9,.row 2),(11,.ptr 4 0),(13,.int .i64 x2)],[.var (U.enc x3),.var (U.enc x4),.rows 97 AE x5,.frz AB x6,.var (U.enc x7)]⟩
def HN (x0:List (List Int)) (x1:Int) (x2:Bool) (x3 x4:O) (x5:List Y):Option (O×List Y×Bool):=cG V6 (AF Cq) (AF Cq) kx ⟨[(1,.lst (.slice (.int .i64)) x0),(2,.int .i64 x1),(3,.ptr 0 0),(6,.ptr 1 0),(9,.row 2),(10,.bool x2)],[.var (U.enc x3),.var (U.enc x4),.rows 97 AE x5]⟩
def Wx (x0:List (List Int)) (x1:Int) (x2:Bool) (x3 x4:O) (x5:List Y):Option (O×List Y×Bool):=cG V7 (AF Cq) (AF Cq) kx ⟨[(1,.lst (.slice (.int .i64)) x0),(2,.int .i64 x1),(3,.ptr 0 0),(6,.ptr 1 0),(9,.row 2),(48,.bool x2)],[.var (U.enc x3),.var (U.enc x4),.rows 97 AE x5]⟩
def Oa (x0:List (List Int)) (x1 x2:Int) (x3 x4:O) (x5:List Y) (x6:List X) (x7:O):Option (O×List Y×Bool):=(if 0≤(i64.wrap (x1-2)) then (if (i64.wrap (x1-2))<(x0.length:Int) then (if (decide (x2<((x0.getD (i64.wrap (x1-2)).toNat ([]:List Int)).length:Int)))=true then (if 0≤(i64.wrap (x1-2)) then (if (i64.wrap (x1-2))<(x0.length:Int) then (if 0≤x2 then (if x2<((x0.getD (i64.wrap (x1-2)).toNat ([]:List Int)).length:Int) then (if (((x0.getD (i64.wrap (x1-2)).toNat ([]:List Int)).getD x2.toNat 0) != x3.1)=true then (if x5.length+([(1,x3.1,((x0.getD (i64.wrap (x1-2)).toNat ([]:List Int)).getD x2.toNat 0),x1,0,([]:List X))]:List Y).length≤68719476736 then (Fh x0 x1 (i64.wrap (x2+1)) x3 x4 (x5++([(1,x3.1,((x0.getD (i64.wrap (x1-2)).toNat ([]:List Int)).getD x2.toNat 0),x1,0,([]:List X))]:List Y)) x6 x7) else none) else (Fh x0 x1 (i64.wrap (x2+1)) x3 x4 x5 x6 x7)) else none) else none) else none) else none) else ((D6 x7).bind fun y7=>(some (y7,x5,true)))) else none) else none)
def Wy (x0:List (List Int)) (x1:Int) (x2:Bool) (x3 x4:O) (x5:List Y):Option (O×List Y×Bool):=(if ([]:List X).length+x3.2.2.2.2.2.2.2.1.length≤68719476736 then (if x2=true then (if 0≤(i64.wrap (x1-1)) then (if (i64.wrap (x1-1))<(x0.length:Int) then ((NT (x0.getD (i64.wrap (x1-1)).toNat ([]:List Int)) x3.2.2.2.2.2.2.2.1 (x3.1,x1,false,false,true,false,([]:List Int),(([]:List X)++x3.2.2.2.2.2.2.2.1),0,0,0,0,(ByteArray.empty,ByteArray.empty,0),([]:List Int))).bind fun y5=>((D6 y5.2).bind fun y6=>(some (y6,y5.1,true)))) else none) else none) else (Fh x0 x1 0 x3 x4 x5 (([]:List X)++x3.2.2.2.2.2.2.2.1) (x3.1,x1,false,false,true,false,([]:List Int),(([]:List X)++x3.2.2.2.2.2.2.2.1),0,0,0,0,(ByteArray.empty,ByteArray.empty,0),([]:List Int)))) else none)
def Wz (x0:List (List Int)) (x1:Int) (x2:Bool) (x3 x4:O) (x5:List Y):Option (O×List Y×Bool):=(if x3.2.2.2.1=true then (if (x3.2.1==(i64.wrap (x1-1)))=true then (if 0≤(i64.wrap (x1-2)) then (if (i64.wrap (x1-2))<(x0.length:Int) then ((Dt (x0.getD (i64.wrap (x1-2)).toNat ([]:List Int)) x3.1).bind fun y4=>(HN x0 x1 y4 x3 x4 x5)) else none) else none) else (HN x0 x1 false x3 x4 x5)) else (HN x0 x1 false x3 x4 x5))
def dt (x0:O) (x1:List (List Int)) (x2:Int):Option (O×List Y×Bool):=((Fe x0).bind fun y1=>(if (!y1)=true then (some ((0,0,false,false,false,false,([]:List Int),([]:List X),0,0,0,0,(ByteArray.empty,ByteArray.empty,0),([]:List Int)),([]:List Y),false)) else ((D5 x1).bind fun y2=>(if (!y2)=true then (some ((0,0,false,false,false,false,([]:List Int),([]:List X),0,0,0,0,(ByteArray.empty,ByteArray.empty,0),([]:List Int)),([]:List Y),false)) else ((AW x2 2 (x1.length:Int)).bind fun y3=>(if (!y3)=true then (some ((0,0,false,false,false,false,([]:List Int),([]:List X),0,0,0,0,(ByteArray.empty,ByteArray.empty,0),([]:List Int)),([]:List Y),false)) else (if (decide (x2≤x0.2.1))=true then (some ((0,0,false,false,false,false,([]:List Int),([]:List X),0,0,0,0,(ByteArray.empty,ByteArray.empty,0),([]:List Int)),([]:List Y),false)) else (if 0≤(i64.wrap (x2-1)) then (if (i64.wrap (x2-1))<(x1.length:Int) then (if 0≤(0:Int) then (if 0<((x1.getD (i64.wrap (x2-1)).toNat ([]:List Int)).length:Int) then (if (((x1.getD (i64.wrap (x2-1)).toNat ([]:List Int)).getD (0:Int).toNat 0) != x0.1)=true then (some ((0,0,false,false,false,false,([]:List Int),([]:List X),0,0,0,0,(ByteArray.empty,ByteArray.empty,0),([]:List Int)),([]:List Y),false)) else (Wx x1 x2 (((x1.getD (i64.wrap (x2-1)).toNat ([]:List Int)).getD (0:Int).toNat 0) != x0.1) x0 (0,0,false,false,false,false,([]:List Int),([]:List X),0,0,0,0,(ByteArray.empty,ByteArray.empty,0),([]:List Int)) ([]:List Y))) else none) else none) else none) else none))))))))
theorem W0:sx Oa Fh:=lS (by kernel_rfl)
theorem ja:t_ Wy HN:=jS (by kernel_rfl)
theorem jb:t_ Wz Wx:=jS (by kernel_rfl)
theorem qL:Qw dt Ul:=cT Cq rfl ⟨rfl,rfl⟩ (by kernel_rfl)
def gJ:=cG RS (AF Bf) (AF Bf) kx
def gK:=cG LO (AF Bf) (AF Bf) kx
def F6 (x0:List Y) (x1:List AD) (x2:Bool) (x3:O) (x4:Y) (x5 x6:O):Option (O×List Y×List AD):=cG RR gJ (AF Bf) kx ⟨[(3,.ptr 0 0),(5,.ptr 1 0),(6,.ptr 2 0),(9,.ptr 3 0),(10,.lst AE x0),(11,.lst Aq x1),(146,.bool x2)],[.var (U.enc x3),.var (AE.enc x4),.var (U.enc x5),.var (U.enc x6)]⟩
def L9 (x0:List (List Int)) (x1:List Y) (x2:List AD) (x3:Bool) (x4:O) (x5:Y) (x6 x7:O):Option (O×List Y×List AD):=cG LO (AF Bf) (AF Bf) kx ⟨[(1,.lst (.slice (.int .i64)) x0),(3,.ptr 0 0),(5,.ptr 1 0),(6,.ptr 2 0),(9,.ptr 3 0),(10,.lst AE x1),(11,.lst Aq x2),(105,.bool x3)],[.var (U.enc x4),.var (AE.enc x5),.var (U.enc x6),.var (U.enc x7)]⟩
def EF (x0:List (List Int)) (x1:List Y) (x2:List AD) (x3:Bool) (x4:O) (x5:Y) (x6 x7:O):Option (O×List Y×List AD):=cG RP gK (AF Bf) kx ⟨[(1,.lst (.slice (.int .i64)) x0),(3,.ptr 0 0),(5,.ptr 1 0),(6,.ptr 2 0),(9,.ptr 3 0),(10,.lst AE x1),(11,.lst Aq x2),(105,.bool x3)],[.var (U.enc x4),.var (AE.enc x5),.var (U.enc x6),.var (U.enc x7)]⟩
def R1 (x0:List (List Int)) (x1:List Y) (x2:List AD) (x3:Bool) (x4:O) (x5:Y) (x6 x7:O):Option (O×List Y×List AD):=cG RU (AF Bf) (AF Bf) kx ⟨[(1,.lst (.slice (.int .i64)) x0),(3,.ptr 0 0),(5,.ptr 1 0),(6,.ptr 2 0),(9,.ptr 3 0),(10,.lst AE x1),(11,.lst Aq x2),(59,.bool x3)],[.var (U.enc x4),.var (AE.enc x5),.var (U.enc x6),.var (U.enc x7)]⟩
def R2 (x0:List Y) (x1:List AD) (x2:Bool) (x3:O) (x4:Y) (x5 x6:O):Option (O×List Y×List AD):=(if x2=true then (if ([]:List X).length+x4.2.2.2.2.2.length≤68719476736 then ((EJ x3 x4 4).bind fun y9=>(some ((x3.1,x4.2.2.2.1,false,true,false,false,([]:List Int),(([]:List X)++x4.2.2.2.2.2),0,0,0,0,(ByteArray.empty,ByteArray.empty,0),([]:List Int)),y9,x1))) else none) else (some (x6,x0,x1)))
def R3 (x0:List (List Int)) (x1:List Y) (x2:List AD) (x3:Bool) (x4:O) (x5:Y) (x6 x7:O):Option (O×List Y×List AD):=(if 0≤(i64.wrap (x5.2.2.2.1-1)) then (if (i64.wrap (x5.2.2.2.1-1))<(x0.length:Int) then (if (x5.1==3)=true then ((Dt (x0.getD (i64.wrap (x5.2.2.2.1-1)).toNat ([]:List Int)) x4.1).bind fun y8=>(if y8=true then (if 0≤(0:Int) then (if 0<((x0.getD (i64.wrap (x5.2.2.2.1-1)).toNat ([]:List Int)).length:Int) then (F6 x1 x2 (((x0.getD (i64.wrap (x5.2.2.2.1-1)).toNat ([]:List Int)).getD (0:Int).toNat 0) != x4.1) x4 x5 x6 x7) else none) else none) else (F6 x1 x2 false x4 x5 x6 x7))) else (F6 x1 x2 false x4 x5 x6 x7)) else none) else none)
def R4 (x0:List (List Int)) (x1:List Y) (x2:List AD) (x3:Bool) (x4:O) (x5:Y) (x6 x7:O):Option (O×List Y×List AD):=(if x3=true then ((Lc x4 x5.2.2.2.1).bind fun y7=>(if ([]:List X).length+x4.2.2.2.2.2.2.2.1.length≤68719476736 then (some (y7,([(2,x4.1,x5.2.1,x5.2.2.2.1,0,(([]:List X)++x4.2.2.2.2.2.2.2.1))]:List Y),x2)) else none)) else (L9 x0 x1 x2 x3 x4 x5 x6 x7))
def R5 (x0:List (List Int)) (x1:List Y) (x2:List AD) (x3:Bool) (x4:O) (x5:Y) (x6 x7:O):Option (O×List Y×List AD):=(if (x5.2.2.2.1==x4.2.1)=true then (if 0≤(i64.wrap (x4.2.1-1)) then (if (i64.wrap (x4.2.1-1))<(x0.length:Int) then ((SU x4 (x0.getD (i64.wrap (x4.2.1-1)).toNat ([]:List Int)) x5).bind fun y5=>(some (y5.1,y5.2.1,y5.2.2))) else none) else none) else (if (x5.1==1)=true then (if (x5.2.2.2.1==(i64.wrap (x4.2.1+1)))=true then (if x4.2.2.2.1=true then (if 0≤(i64.wrap (x4.2.1-1)) then (if (i64.wrap (x4.2.1-1))<(x0.length:Int) then ((Dt (x0.getD (i64.wrap (x4.2.1-1)).toNat ([]:List Int)) x4.1).bind fun y6=>(EF x0 x1 x2 y6 x4 x5 x6 x7)) else none) else none) else (EF x0 x1 x2 false x4 x5 x6 x7)) else (EF x0 x1 x2 false x4 x5 x6 x7)) else (EF x0 x1 x2 false x4 x5 x6 x7)))
def Yq (x0:O) (x1:List (List Int)) (x2:Y):Option (O×List Y×List AD):=((D6 x0).bind fun y1=>((Fe x0).bind fun y2=>(if (!y2)=false then ((D5 x1).bind fun y3=>(if (!y3)=false then ((Un x2).bind fun y4=>(if (!y4)=false then (if (x2.2.2.1 != x0.1)=false then (if (decide (x2.2.2.2.1<x0.2.1))=false then (if (decide (x2.2.2.2.1>(x1.length:Int)))=false then (if (decide (x0.2.1>(x1.length:Int)))=true then (some (y1,([]:List Y),([]:List AD))) else (R1 x1 ([]:List Y) ([]:List AD) (decide (x0.2.1>(x1.length:Int))) x0 x2 (0,0,false,false,false,false,([]:List Int),([]:List X),0,0,0,0,(ByteArray.empty,ByteArray.empty,0),([]:List Int)) y1)) else (some (y1,([]:List Y),([]:List AD)))) else (some (y1,([]:List Y),([]:List AD)))) else (some (y1,([]:List Y),([]:List AD)))) else (some (y1,([]:List Y),([]:List AD))))) else (some (y1,([]:List Y),([]:List AD))))) else (some (y1,([]:List Y),([]:List AD))))))
theorem du:vp R2 F6:=jS (by kernel_rfl)
theorem dv:sx R3 L9:=jS (by kernel_rfl)
theorem dw:sx R4 EF:=jS (by kernel_rfl)
theorem dx:sx R5 R1:=jS (by kernel_rfl)
theorem mr:Qw Yq P_:=cT Bf rfl ⟨rfl,rfl⟩ (by kernel_rfl)
def Yr:=cG YB (AF Ee) (AF Ee) kx
def mt:=kB [] [1] 1 Yr
def mw:=kE 0 [] [1] 1 Yr kx
def Jm (x0:Int) (x1:Bool) (x2:Y):Option Bool:=cG YA mt (AF Ee) mw ⟨[(1,.ptr 0 0),(38,.int .i64 x0),(39,.bool x1)],[.var (AE.enc x2)]⟩
def Ob (x0:Bool) (x1:Y):Option Bool:=cG YC (AF Ee) (AF Ee) kx ⟨[(1,.ptr 0 0),(36,.bool x0)],[.var (AE.enc x1)]⟩
def W3 (x0:Int) (x1:Bool) (x2:Y):Option Bool:=(if x1=true then (some true) else (if (x0==5)=true then (some ((x2.2.2.2.2.2.length:Int)==1)) else (some ((x2.2.2.2.2.2.length:Int)==0))))
def W4 (x0:Bool) (x1:Y):Option Bool:=(if (x1.1==2)=true then (Jm x1.1 (x1.1==2) x1) else (Jm x1.1 (x1.1==3) x1))
def dy (x0:Y):Option Bool:=((Ae x0.1 1 8).bind fun y1=>(if (!y1)=false then ((Ds x0.2.1).bind fun y2=>(if (!y2)=false then ((Ds x0.2.2.1).bind fun y3=>(if (!y3)=false then ((Ae x0.2.2.2.1 1 9).bind fun y4=>(if (!y4)=false then ((Ae x0.2.2.2.2.1 0 1000000000).bind fun y5=>(if (!y5)=false then ((FA x0.2.2.2.2.2).bind fun y6=>(if (!y6)=true then (some false) else (Ob (!y6) x0))) else (some false))) else (some false))) else (some false))) else (some false))) else (some false)))
theorem jc:Qw W3 Jm:=jS (by kernel_rfl)
theorem jd:Oh W4 Ob:=jS (by kernel_rfl)
theorem qM:PO dy Um:=cT Ee rfl ⟨rfl,rfl⟩ (by kernel_rfl)
def Nu:=cG MW (AF B6) (AF B6) kx
def IU:=kB [] [] 2 Nu
def IV:=kE 0 [] [] 2 Nu kx
def Df (x0:List (List Int)) (x1:Bool) (x2:O) (x3:Y):Option (List Y×List AD×O):=cG Ni IU (AF B6) IV ⟨[(0,.ptr 0 0),(1,.lst (.slice (.int .i64)) x0),(5,.ptr 1 0),(37,.bool x1)],[.var (U.enc x2),.var (AE.enc x3)]⟩
def FS (x0:Bool) (x1:O) (x2:Y):Option (List Y×List AD×O):=cG Nj IU (AF B6) IV ⟨[(0,.ptr 0 0),(5,.ptr 1 0),(75,.bool x0)],[.var (U.enc x1),.var (AE.enc x2)]⟩
def FT (x0:Int) (x1:Bool) (x2:O) (x3:Y):Option (List Y×List AD×O):=cG MV IU (AF B6) IV ⟨[(0,.ptr 0 0),(5,.ptr 1 0),(9,.int .i64 x0),(107,.bool x1)],[.var (U.enc x2),.var (AE.enc x3)]⟩
def Mc (x0:List (List Int)) (x1:Bool) (x2:O) (x3:Y):Option (List Y×List AD×O):=(if x1=true then (if 0≤(i64.wrap (x2.2.1-1)) then (if (i64.wrap (x2.2.1-1))<(x0.length:Int) then ((DH (x0.getD (i64.wrap (x2.2.1-1)).toNat ([]:List Int)) x3.2.2.2.2.2 x2).bind fun y2=>(some (y2.1,[],y2.2))) else none) else none) else (some ([],[],x2)))
def Md (x0:Bool) (x1:O) (x2:Y):Option (List Y×List AD×O):=(if x0=true then ((Ld x1.2.2.2.2.2.2.1 x2.2.1).bind fun y4=>(if x1.2.2.2.2.2.1=false then (if ((y4.length:Int)==0)=true then (some ([],[],(x1.1,x1.2.1,x1.2.2.1,x1.2.2.2.1,x1.2.2.2.2.1,x1.2.2.2.1,y4,x1.2.2.2.2.2.2.2))) else (some ([],[],(x1.1,x1.2.1,x1.2.2.1,x1.2.2.2.1,x1.2.2.2.2.1,false,y4,x1.2.2.2.2.2.2.2)))) else (some ([],[],(x1.1,x1.2.1,x1.2.2.1,x1.2.2.2.1,x1.2.2.2.2.1,true,y4,x1.2.2.2.2.2.2.2))))) else (some ([],[],x1)))
def Me (x0:Int) (x1:Bool) (x2:O) (x3:Y):Option (List Y×List AD×O):=(if x1=true then ((I9 x3 x2).bind fun y5=>(some (y5.1,[],y5.2))) else (if (x0==6)=true then ((Fy 1 x3 x2).bind fun y6=>(some ([],y6.1,y6.2))) else (if (x0==8)=true then ((Fy 2 x3 x2).bind fun y7=>(some ([],y7.1,y7.2))) else (some ([],[],x2)))))
def QY (x1:List (List Int)) (x2:Y) (b0:O):Option (List Y×List AD×O):=(if (x2.1==1)=true then ((Jx x1 x2 b0).bind fun y1=>(some (y1.1,[],y1.2))) else (if (x2.1==2)=true then (if (x2.2.2.2.1==b0.2.1)=true then (if b0.2.2.2.2.1=true then (Df x1 (!b0.2.2.2.1) b0 x2) else (Df x1 false b0 x2)) else (Df x1 false b0 x2)) else (if (x2.1==3)=true then (if 0≤(i64.wrap (x2.2.2.2.1-1)) then (if (i64.wrap (x2.2.2.2.1-1))<(x1.length:Int) then ((Ha (x1.getD (i64.wrap (x2.2.2.2.1-1)).toNat ([]:List Int)) x2 b0).bind fun y3=>(some (y3.1,[],y3.2))) else none) else none) else (if (x2.1==4)=true then (if (x2.2.2.2.1==b0.2.1)=true then (FS b0.2.2.2.2.1 b0 x2) else (FS false b0 x2)) else (if (x2.1==5)=true then (FT x2.1 (x2.1==5) b0 x2) else (FT x2.1 (x2.1==7) b0 x2))))))
theorem XO:bl Mc Df:=jS (by kernel_rfl)
theorem XP:Qw Md FS:=jS (by kernel_rfl)
theorem XQ:bl Me FT:=jS (by kernel_rfl)
theorem bR:Qw QY Jw:=cT B6 rfl ⟨rfl,rfl⟩ (by kernel_rfl)
def Hf:=cG Dc (AF Aa) (AF Aa) kx
def Hg:=kE 0 [] [] 0 Hf kx
def HO:St→Option (RT (BL.outs Aa)):=lG Db [] [0,1,7,8] 0 (AF Aa) Hg
def Av (x0:List AC) (x1:AC) (x2 x3:Int):Option Int:=HO ⟨[(0,.lst AI x0),(1,.clo 92 AI x1),(7,.int .i64 x2),(8,.int .i64 x3)],[]⟩
def BR (x0:List AC) (x1:AC) (x2 x3:Int):Option Int:=(if (decide (x3<x2))=true then (if 0≤x3 then (if x3<(x0.length:Int) then ((P8 (x0.getD x3.toNat (0,ByteArray.empty,ByteArray.empty,0,0,0,0,0,ByteArray.empty)) x1).bind fun y1=>(if y1=true then (some x3) else (Av x0 x1 x2 (i64.wrap (x3+1))))) else none) else none) else (some (-1:Int)))
def D7 (x0:List AC) (x1:AC):Option Int:=(Av x0 x1 (x0.length:Int) 0)
theorem CD:bl BR Av:=lS (by kernel_rfl)
theorem IW:Oh D7 CP:=cT Aa rfl ⟨rfl,rfl⟩ (by kernel_rfl)
def I2 (x0:List (List Int)) (x1:Bool) (x2:O):Option (Bool×O):=cG JN (AF CZ) (AF CZ) kx ⟨[(0,.ptr 0 0),(1,.lst (.slice (.int .i64)) x0),(33,.bool x1)],[.var (U.enc x2)]⟩
def I3 (x0:List (List Int)) (x1:Bool) (x2:O):Option (Bool×O):=((DE x0).bind fun y1=>(if y1=true then (if 0≤(i64.wrap (x2.2.1-1)) then (if (i64.wrap (x2.2.1-1))<(x0.length:Int) then (if 0≤(0:Int) then (if 0<((x0.getD (i64.wrap (x2.2.1-1)).toNat ([]:List Int)).length:Int) then (some ((((x0.getD (i64.wrap (x2.2.1-1)).toNat ([]:List Int)).getD (0:Int).toNat 0)==x2.1),x2)) else none) else none) else none) else none) else (some (false,x2))))
def L_ (x1:List (List Int)) (b0:O):Option (Bool×O):=(if (!b0.2.2.2.2.2.1)=false then (if (b0.2.2.2.2.2.2.2.2.2.1 != 0)=false then (if (b0.2.2.2.2.2.2.2.2.1==900)=false then (if (decide (b0.2.1>(x1.length:Int)))=true then (some (false,b0)) else (I2 x1 (decide (b0.2.1>(x1.length:Int))) b0)) else (some (false,b0))) else (some (false,b0))) else (some (false,b0)))
theorem Ql:Qw I3 I2:=jS (by kernel_rfl)
theorem Uv:Oh L_ G7:=cT CZ rfl ⟨rfl,rfl⟩ (by kernel_rfl)
def je:=cG V9 (AF En) (AF En) kx
def jf:=kE 0 [] [4] 1 je kx
def gL:St→Option (RT (BL.outs En)):=lG V8 [] [1,4,7,8,9] 1 (AF En) jf
def Is (x0:ByteArray) (x1:List X) (x2 x3:Int) (x4:X):Option X:=gL ⟨[(1,.str x0),(4,.ptr 0 0),(7,.lst AB x1),(8,.int .i64 x2),(9,.int .i64 x3)],[.var (AB.enc x4)]⟩
def M2 (x0:ByteArray) (x1:List X) (x2 x3:Int) (x4:X):Option X:=(if (decide (x3<x2))=true then (if 0≤x3 then (if x3<(x1.length:Int) then (if (((x1.getD x3.toNat (ByteArray.empty,ByteArray.empty,0)).1).toList==x0.toList)=true then (some (x1.getD x3.toNat (ByteArray.empty,ByteArray.empty,0))) else (Is x0 x1 x2 (i64.wrap (x3+1)) x4)) else none) else none) else (some (ByteArray.empty,ByteArray.empty,0)))
def aF (x0:List X) (x1:ByteArray):Option X:=(Is x1 x0 (x0.length:Int) 0 (ByteArray.empty,ByteArray.empty,0))
theorem Te:sJ M2 Is:=lS (by kernel_rfl)
theorem n_:Oh aF NR:=cT En rfl ⟨rfl,rfl⟩ (by kernel_rfl)
def Uw:=cG LQ (AF B0) (AF B0) kx
def Ux:=kE 0 [(5,1)] [5] 2 Uw kx
def Tf:St→Option (RT (BL.outs B0)):=lG LP [(5,1)] [0,5,8,9,10] 2 (AF B0) Ux
def C6 (x0:List Int) (x1 x2:Int) (x3:O) (x4:List Int):Option (List Int×O):=Tf ⟨[(0,.ptr 0 0),(5,.row 1),(8,.lst (.int .i64) x0),(9,.int .i64 x1),(10,.int .i64 x2)],[.var (U.enc x3),.rows 3 (.int .i64) x4]⟩
def Gm (x0:List Int) (x1 x2:Int) (x3:O) (x4:List Int):Option (List Int×O):=(if (decide (x2<x1))=true then (if 0≤x2 then (if x2<(x0.length:Int) then (if ((x0.getD x2.toNat 0) != x3.1)=true then (if x4.length+([(x0.getD x2.toNat 0)]:List Int).length≤68719476736 then (C6 x0 x1 (i64.wrap (x2+1)) x3 (x4++([(x0.getD x2.toNat 0)]:List Int))) else none) else (C6 x0 x1 (i64.wrap (x2+1)) x3 x4)) else none) else none) else (some (x4,x3)))
def Nv (x1:List Int) (b0:O):Option (List Int×O):=(C6 x1 (x1.length:Int) 0 b0 ([]:List Int))
theorem Ka:sJ Gm C6:=lS (by kernel_rfl)
theorem Ys:Oh Nv B1:=cT B0 rfl ⟨rfl,rfl⟩ (by kernel_rfl)
def Mf (b0:List Int):Option (List Int):=((OG (IntKind.u64.wrap (b0.length:Int))).bind fun y1=>((CK 0 (b0.length:Int) y1 b0).bind fun y2=>(some y2)))
theorem XR:PO Mf Cm:=cT FQ rfl ⟨rfl,rfl⟩ (by kernel_rfl)
def Hh (x0:O) (x1:pK):Option (List AD×O):=cG Nk (AF Di) (AF Di) kx ⟨[(0,.ptr 0 0),(3,.ptr 1 0)],[.var (U.enc x0),.var (K6.enc x1)]⟩
def Hi (x0:O) (x1:pK):Option (List AD×O):=(some (([(x1.2.1,x0.2.1,x1.2.2.1,x1.2.2.2.1)]:List AD),(x0.1,x0.2.1,x0.2.2.1,x0.2.2.2.1,x0.2.2.2.2.1,x0.2.2.2.2.2.1,x0.2.2.2.2.2.2.1,x0.2.2.2.2.2.2.2.1,x0.2.2.2.2.2.2.2.2.1,0,0,0,(ByteArray.empty,ByteArray.empty,0),([]:List Int))))
def QZ (b0:O):Option (List AD×O):=(if (b0.2.2.2.2.2.2.2.2.2.1==1)=true then ((Le b0.2.2.2.2.2.2.2.1 b0.2.2.2.2.2.2.2.2.2.2.2.2.1).bind fun y1=>(Hh (b0.1,b0.2.1,b0.2.2.1,b0.2.2.2.1,b0.2.2.2.2.1,b0.2.2.2.2.2.1,b0.2.2.2.2.2.2.1,y1,b0.2.2.2.2.2.2.2.2) b0.2.2.2.2.2.2.2.2.2)) else ((NR b0.2.2.2.2.2.2.2.1 b0.2.2.2.2.2.2.2.2.2.2.2.2.1.1).bind fun y2=>(Hh b0 (b0.2.2.2.2.2.2.2.2.2.1,b0.2.2.2.2.2.2.2.2.2.2.1,b0.2.2.2.2.2.2.2.2.2.2.2.1,y2,b0.2.2.2.2.2.2.2.2.2.2.2.2.2))))
theorem Mg:Oh Hi Hh:=jS (by kernel_rfl)
theorem bS:PO QZ G8:=cT Di rfl ⟨rfl,rfl⟩ (by kernel_rfl)
def Tg:=cG KO (AF Bl) (AF Bl) kx
def Th:=kE 0 [(7,2)] [7] 3 Tg kx
def SY:St→Option (RT (BL.outs Bl)):=lG KN [(7,2)] [0,5,7,11,12,13] 3 (AF Bl) Th
def Du (x0:List Int) (x1 x2:Int) (x3:O) (x4:Y) (x5:List Y):Option (List Y×O):=SY ⟨[(0,.ptr 0 0),(5,.ptr 1 0),(7,.row 2),(11,.lst (.int .i64) x0),(12,.int .i64 x1),(13,.int .i64 x2)],[.var (U.enc x3),.var (AE.enc x4),.rows 97 AE x5]⟩
def GH (x0:List Int) (x1 x2:Int) (x3:O) (x4:Y) (x5:List Y):Option (List Y×O):=(if (decide (x2<x1))=true then (if 0≤x2 then (if x2<(x0.length:Int) then ((Gf x4).bind fun y1=>(if x5.length+([(y1.1,x3.1,(x0.getD x2.toNat 0),x3.2.1,y1.2.2.2.2)]:List Y).length≤68719476736 then (Du x0 x1 (i64.wrap (x2+1)) x3 x4 (x5++([(y1.1,x3.1,(x0.getD x2.toNat 0),x3.2.1,y1.2.2.2.2)]:List Y))) else none)) else none) else none) else (some (x5,x3)))
def Mh (x1:List Int) (x2:Y) (b0:O):Option (List Y×O):=(Du x1 (x1.length:Int) 0 b0 x2 ([]:List Y))
theorem JP:t_ GH Du:=lS (by kernel_rfl)
theorem XS:Qw Mh Ah:=cT Bl rfl ⟨rfl,rfl⟩ (by kernel_rfl)
def dz (b0:O):Option O:=(some (b0.1,b0.2.1,b0.2.2.1,b0.2.2.2.1,false,false,[],b0.2.2.2.2.2.2.2.1,0,0,0,0,(ByteArray.empty,ByteArray.empty,0),([]:List Int)))
theorem d8:PO dz Fx:=cT Hp rfl ⟨rfl,rfl⟩ (by kernel_rfl)
def MA (x1:List Int) (x2:List X) (b0:O):Option (List Y×O):=((B1 x1 b0).bind fun y1=>((Ag x2).bind fun y2=>((Bg y1.1).bind fun y3=>((Cm y3).bind fun y4=>(if ((y1.1.length:Int)==0)=true then ((Ah y1.1 (3,0,0,0,0,x2) (y1.2.1,y1.2.2.1,y1.2.2.2.1,true,y1.2.2.2.2.2.1,true,y4,y2,y1.2.2.2.2.2.2.2.2.2)).bind fun y5=>(some (y5.1,y5.2))) else ((Ah y1.1 (3,0,0,0,0,x2) (y1.2.1,y1.2.2.1,y1.2.2.2.1,true,y1.2.2.2.2.2.1,y1.2.2.2.2.2.2.1,y4,y2,y1.2.2.2.2.2.2.2.2.2)).bind fun y6=>(some (y6.1,y6.2))))))))
theorem Uy:Qw MA DH:=cT Ef rfl ⟨rfl,rfl⟩ (by kernel_rfl)
def Dl (x0:Bool) (x1:O):Option Bool:=cG RV (AF Fc) (AF Fc) kx ⟨[(1,.ptr 0 0),(70,.bool x0)],[.var (U.enc x1)]⟩
def Qa (x0:Bool) (x1:O):Option Bool:=((Mx x1.2.2.2.2.2.2.2.2.2).bind fun y7=>(if y7=false then (if (x1.2.2.2.2.2.2.2.2.2.1==1)=false then (if (x1.2.2.2.2.2.2.2.2.2.1==2)=true then (if x1.2.2.2.2.2.1=true then ((AW x1.2.2.2.2.2.2.2.2.2.2.1 0 1000).bind fun y8=>(if y8=true then ((AW x1.2.2.2.2.2.2.2.2.2.2.2.1 1 900).bind fun y9=>(some y9)) else (some false))) else (some false)) else (some false)) else (if x1.2.2.2.2.2.1=true then ((AW x1.2.2.2.2.2.2.2.2.2.2.1 0 1000).bind fun y10=>(if y10=true then ((AW x1.2.2.2.2.2.2.2.2.2.2.2.1 1 900).bind fun y11=>(some y11)) else (some false))) else (some false))) else (some true)))
def W5 (x0:O):Option Bool:=((AW x0.1 1 6).bind fun y1=>(if (!y1)=false then ((AW x0.2.1 1 9).bind fun y2=>(if (!y2)=false then (if x0.2.2.2.2.2.1=true then (if (!x0.2.2.2.1)=false then (if (!x0.2.2.2.2.1)=false then (if (decide ((x0.2.2.2.2.2.2.1.length:Int)>0))=false then (if x0.2.2.1=true then (if x0.2.2.2.1=false then (if x0.2.2.2.2.1=false then ((DA x0.2.2.2.2.2.2.1).bind fun y3=>(if (!y3)=false then ((DA x0.2.2.2.2.2.2.2.2.2.2.2.2.2).bind fun y4=>(if (!y4)=false then ((DI x0.2.2.2.2.2.2.2.1).bind fun y5=>(if (!y5)=false then ((AW x0.2.2.2.2.2.2.2.2.1 0 900).bind fun y6=>(if (!y6)=true then (some false) else (Dl (!y6) x0))) else (some false))) else (some false))) else (some false))) else (some false)) else (some false)) else ((DA x0.2.2.2.2.2.2.1).bind fun y12=>(if (!y12)=false then ((DA x0.2.2.2.2.2.2.2.2.2.2.2.2.2).bind fun y13=>(if (!y13)=false then ((DI x0.2.2.2.2.2.2.2.1).bind fun y14=>(if (!y14)=false then ((AW x0.2.2.2.2.2.2.2.2.1 0 900).bind fun y15=>(if (!y15)=true then (some false) else (Dl (!y15) x0))) else (some false))) else (some false))) else (some false)))) else (some false)) else (some false)) else (some false)) else (if x0.2.2.1=true then (if x0.2.2.2.1=false then (if x0.2.2.2.2.1=false then ((DA x0.2.2.2.2.2.2.1).bind fun y16=>(if (!y16)=false then ((DA x0.2.2.2.2.2.2.2.2.2.2.2.2.2).bind fun y17=>(if (!y17)=false then ((DI x0.2.2.2.2.2.2.2.1).bind fun y18=>(if (!y18)=false then ((AW x0.2.2.2.2.2.2.2.2.1 0 900).bind fun y19=>(if (!y19)=true then (some false) else (Dl (!y19) x0))) else (some false))) else (some false))) else (some false))) else (some false)) else (some false)) else ((DA x0.2.2.2.2.2.2.1).bind fun y20=>(if (!y20)=false then ((DA x0.2.2.2.2.2.2.2.2.2.2.2.2.2).bind fun y21=>(if (!y21)=false then ((DI x0.2.2.2.2.2.2.2.1).bind fun y22=>(if (!y22)=false then ((AW x0.2.2.2.2.2.2.2.2.1 0 900).bind fun y23=>(if (!y23)=true then (some false) else (Dl (!y23) x0))) else (some false))) else (some false))) else (some false))))) else (some false))) else (some false)))
theorem bT:Oh Qa Dl:=jS (by kernel_rfl)
theorem jg:PO W5 Fe:=cT Fc rfl ⟨rfl,rfl⟩ (by kernel_rfl)
def jh:=cG WA (AF Eo) (AF Eo) kx
def ji:=kE 0 [] [4] 1 jh kx
def gM:St→Option (RT (BL.outs Eo)):=lG V_ [] [0,1,4,5] 1 (AF Eo) ji
def It (x0:List X) (x1:ByteArray) (x2:Int) (x3:X):Option X:=gM ⟨[(0,.lst AB x0),(1,.str x1),(4,.ptr 0 0),(5,.int .i64 x2)],[.var (AB.enc x3)]⟩
def M3 (x0:List X) (x1:ByteArray) (x2:Int) (x3:X):Option X:=(if (decide (x2<(x0.length:Int)))=true then (if 0≤x2 then (if x2<(x0.length:Int) then (if (((x0.getD x2.toNat (ByteArray.empty,ByteArray.empty,0)).1).toList==x1.toList)=true then (if 0≤x2 then (if x2<(x0.length:Int) then (some (x0.getD x2.toNat (ByteArray.empty,ByteArray.empty,0))) else none) else none) else (It x0 x1 (i64.wrap (x2+1)) x3)) else none) else none) else (some (ByteArray.empty,ByteArray.empty,0)))
def aG (x0:List X) (x1:ByteArray):Option X:=(It x0 x1 0 (ByteArray.empty,ByteArray.empty,0))
theorem Ti:bl M3 It:=lS (by kernel_rfl)
theorem oA:Oh aG NS:=cT Eo rfl ⟨rfl,rfl⟩ (by kernel_rfl)
def gN:=cG LR (AF Aw) (AF Aw) kx
def gO:=kE 2 [(5,1),(6,2)] [0,5,6] 3 gN kx
def d9:St→Option (RT (BL.outs Aw)):=lG RW [(5,1),(6,2)] [0,3,5,6,8] 3 (AF Aw) gO
def gP:=cG LT (AF Aw) (AF Aw) kx
def M4:=kE 0 [(5,1),(6,2)] [0,3,5,6] 3 gP kx
def R6:St→Option (RT (BL.outs Aw)):=lG TD [(5,1),(6,2)] [0,3,5,6,7] 3 (AF Aw) M4
def gQ:=kB [(5,1),(6,2)] [0,3,5,6,7] 3 R6
def Tj:=cG TC gQ (AF Aw) M4
def gR:=kB [(5,1),(6,2)] [0,3,5,6,7] 3 Tj
def gS:=kE 1 [(5,1),(6,2)] [0,3,5,6,7] 3 Tj M4
def H6 (x0:List X) (x1:Int) (x2:X) (x3 x4:List X):Option (List X):=cG TB gR (AF Aw) gS ⟨[(0,.lst AB x0),(3,.ptr 0 0),(5,.row 1),(6,.row 2),(7,.int .i64 x1)],[.var (AB.enc x2),.rows 38 AB x3,.rows 38 AB x4]⟩
def MB (x0:List X) (x1:X) (x2 x3:List X):Option (List X):=cG LR (AF Aw) (AF Aw) kx ⟨[(0,.lst AB x0),(5,.row 1),(6,.row 2)],[.var (AB.enc x1),.rows 38 AB x2,.rows 38 AB x3]⟩
def EG (x0:List X) (x1:Int) (x2:X) (x3 x4:List X):Option (List X):=d9 ⟨[(0,.lst AB x0),(3,.ptr 0 0),(5,.row 1),(6,.row 2),(8,.int .i64 x1)],[.var (AB.enc x2),.rows 38 AB x3,.rows 38 AB x4]⟩
def MC (x0:List X) (x1:X) (x2 x3:List X):Option (List X):=cG LT (AF Aw) (AF Aw) kx ⟨[(0,.lst AB x0),(3,.ptr 0 0),(5,.row 1),(6,.row 2)],[.var (AB.enc x1),.rows 38 AB x2,.rows 38 AB x3]⟩
def EH (x0:List X) (x1:Int) (x2:X) (x3 x4:List X):Option (List X):=R6 ⟨[(0,.lst AB x0),(3,.ptr 0 0),(5,.row 1),(6,.row 2),(7,.int .i64 x1)],[.var (AB.enc x2),.rows 38 AB x3,.rows 38 AB x4]⟩
def R7 (x0:List X) (x1:Int) (x2:X) (x3 x4:List X):Option (List X):=(if 0≤x1 then (if x1<(x0.length:Int) then (if (((x0.getD x1.toNat (ByteArray.empty,ByteArray.empty,0)).1).toList==x2.1.toList)=true then (if 0≤x1 then (if x1<(x0.length:Int) then (if (decide ((((x0.getD x1.toNat (ByteArray.empty,ByteArray.empty,0)).2).2)≥x2.2.2))=true then (some x3) else (EH x0 (i64.wrap (x1+1)) x2 x3 x4)) else none) else none) else (EH x0 (i64.wrap (x1+1)) x2 x3 x4)) else none) else none)
def R8 (x0:List X) (x1:X) (x2 x3:List X):Option (List X):=((DI x0).bind fun y1=>(if (!y1)=false then ((DI x3).bind fun y2=>(if (!y2)=true then (some x2) else (some x3))) else (some x2)))
def MD (x0:List X) (x1:Int) (x2:X) (x3 x4:List X):Option (List X):=(if (decide (x1<(x0.length:Int)))=true then (if 0≤x1 then (if x1<(x0.length:Int) then (if (!((Op.bytesLess ((x0.getD x1.toNat (ByteArray.empty,ByteArray.empty,0)).1).toList x2.1.toList)||(((x0.getD x1.toNat (ByteArray.empty,ByteArray.empty,0)).1).toList==x2.1.toList)))=true then (if 0≤x1 then (if x1<(x0.length:Int) then (if x4.length+([x0.getD x1.toNat (ByteArray.empty,ByteArray.empty,0)]:List X).length≤68719476736 then (EG x0 (i64.wrap (x1+1)) x2 x3 (x4++([x0.getD x1.toNat (ByteArray.empty,ByteArray.empty,0)]:List X))) else none) else none) else none) else (EG x0 (i64.wrap (x1+1)) x2 x3 x4)) else none) else none) else (MB x0 x2 x3 x4))
def R9 (x0:List X) (x1:X) (x2 x3:List X):Option (List X):=(if x3.length+([x1]:List X).length≤68719476736 then (EG x0 0 x1 x2 (x3++([x1]:List X))) else none)
def ME (x0:List X) (x1:Int) (x2:X) (x3 x4:List X):Option (List X):=(if (decide (x1<(x0.length:Int)))=true then (if 0≤x1 then (if x1<(x0.length:Int) then (if (Op.bytesLess ((x0.getD x1.toNat (ByteArray.empty,ByteArray.empty,0)).1).toList x2.1.toList)=true then (if 0≤x1 then (if x1<(x0.length:Int) then (if x4.length+([x0.getD x1.toNat (ByteArray.empty,ByteArray.empty,0)]:List X).length≤68719476736 then (H6 x0 x1 x2 x3 (x4++([x0.getD x1.toNat (ByteArray.empty,ByteArray.empty,0)]:List X))) else none) else none) else none) else (H6 x0 x1 x2 x3 x4)) else none) else none) else (MC x0 x2 x3 x4))
def Yt (x0:List X) (x1:X):Option (List X):=(if ([]:List X).length+x0.length≤68719476736 then (EH x0 0 x1 (([]:List X)++x0) ([]:List X)) else none)
theorem d_:sJ R7 H6:=jS (by kernel_rfl)
theorem eA:bl R8 MB:=jS (by kernel_rfl)
theorem R_:sJ MD EG:=lS (by kernel_rfl)
theorem eB:bl R9 MC:=jS (by kernel_rfl)
theorem SA:sJ ME EH:=lS (by kernel_rfl)
theorem mx:Oh Yt IR:=cT Aw rfl ⟨rfl,rfl⟩ (by kernel_rfl)
def bU:=cG P4 (AF C3) (AF C3) kx
def bV:=kE 0 [(5,0)] [5] 1 bU kx
def Zt:St→Option (RT (BL.outs C3)):=lG P3 [(5,0)] [0,1,5,6] 1 (AF C3) bV
def CG (x0:List Int) (x1 x2:Int) (x3:List Int):Option (List Int):=Zt ⟨[(0,.lst (.int .i64) x0),(1,.int .i64 x1),(5,.row 0),(6,.int .i64 x2)],[.rows 3 (.int .i64) x3]⟩
def JE (x0:List Int) (x1 x2:Int) (x3:List Int):Option (List Int):=(if (decide (x2≤6))=true then (if (x2 != x1)=true then ((Dt x0 x2).bind fun y1=>(if y1=true then (if x3.length+([x2]:List Int).length≤68719476736 then (CG x0 x1 (i64.wrap (x2+1)) (x3++([x2]:List Int))) else none) else (CG x0 x1 (i64.wrap (x2+1)) x3))) else (CG x0 x1 (i64.wrap (x2+1)) x3)) else (some x3))
def Tk (x0:List Int) (x1:Int):Option (List Int):=(CG x0 x1 1 ([]:List Int))
theorem PD:bl JE CG:=lS (by kernel_rfl)
theorem gT:Oh Tk Gg:=cT C3 rfl ⟨rfl,rfl⟩ (by kernel_rfl)
def Tl (b0:O):Option (List AD×O):=(if (b0.2.2.2.2.2.2.2.2.2.1==1)=true then ((IR b0.2.2.2.2.2.2.2.1 b0.2.2.2.2.2.2.2.2.2.2.2.2.1).bind fun y1=>(some (([(b0.2.2.2.2.2.2.2.2.2.2.1,b0.2.1,b0.2.2.2.2.2.2.2.2.2.2.2.1,b0.2.2.2.2.2.2.2.2.2.2.2.2.1)]:List AD),(b0.1,b0.2.1,b0.2.2.1,b0.2.2.2.1,b0.2.2.2.2.1,b0.2.2.2.2.2.1,b0.2.2.2.2.2.2.1,y1,b0.2.2.2.2.2.2.2.2.1,0,0,0,(ByteArray.empty,ByteArray.empty,0),([]:List Int))))) else ((NS b0.2.2.2.2.2.2.2.1 b0.2.2.2.2.2.2.2.2.2.2.2.2.1.1).bind fun y2=>(some (([(b0.2.2.2.2.2.2.2.2.2.2.1,b0.2.1,b0.2.2.2.2.2.2.2.2.2.2.2.1,y2)]:List AD),(b0.1,b0.2.1,b0.2.2.1,b0.2.2.2.1,b0.2.2.2.2.1,b0.2.2.2.2.2.1,b0.2.2.2.2.2.2.1,b0.2.2.2.2.2.2.2.1,b0.2.2.2.2.2.2.2.2.1,0,0,0,(ByteArray.empty,ByteArray.empty,0),([]:List Int))))))
theorem gU:PO Tl Gh:=cT Ik rfl ⟨rfl,rfl⟩ (by kernel_rfl)
def jj:=cG WC (AF Ep) (AF Ep) kx
def jk:=kE 0 [(7,1)] [7] 3 jj kx
def gV:St→Option (RT (BL.outs Ep)):=lG WB [(7,1)] [0,1,2,7,8] 3 (AF Ep) jk
def Gn (x0:List Int) (x1:List X) (x2:Int) (x3:O) (x4:List Y) (x5:List X):Option (List Y×O):=gV ⟨[(0,.ptr 0 0),(1,.lst (.int .i64) x0),(2,.lst AB x1),(7,.row 1),(8,.int .i64 x2)],[.var (U.enc x3),.rows 97 AE x4,.frz AB x5]⟩
def M5 (x0:List Int) (x1:List X) (x2:Int) (x3:O) (x4:List Y) (x5:List X):Option (List Y×O):=(if (decide (x2<(x0.length:Int)))=true then (if 0≤x2 then (if x2<(x0.length:Int) then (if ((x0.getD x2.toNat 0) != x3.1)=true then (if 0≤x2 then (if x2<(x0.length:Int) then (if ([]:List X).length+x1.length≤68719476736 then (if x4.length+([(3,x3.1,(x0.getD x2.toNat 0),x3.2.1,0,(([]:List X)++x1))]:List Y).length≤68719476736 then (Gn x0 x1 (i64.wrap (x2+1)) x3 (x4++([(3,x3.1,(x0.getD x2.toNat 0),x3.2.1,0,(([]:List X)++x1))]:List Y)) x5) else none) else none) else none) else none) else (Gn x0 x1 (i64.wrap (x2+1)) x3 x4 x5)) else none) else none) else (some (x4,x3)))
def aH (x1:List Int) (x2:List X) (b0:O):Option (List Y×O):=(if ([]:List X).length+x2.length≤68719476736 then ((Gg x1 b0.1).bind fun y1=>(Gn x1 x2 0 (b0.1,b0.2.1,b0.2.2.1,true,b0.2.2.2.2.1,((y1.length:Int)==0),y1,(([]:List X)++x2),b0.2.2.2.2.2.2.2.2) ([]:List Y) (([]:List X)++x2))) else none)
theorem Tm:t_ M5 Gn:=lS (by kernel_rfl)
theorem oB:Qw aH NT:=cT Ep rfl ⟨rfl,rfl⟩ (by kernel_rfl)
def Yu:=cG YF (AF Eg) (AF Eg) kx
def my:=kB [] [1] 1 Yu
def mz:=kE 0 [] [1] 1 Yu kx
def Jn (x0:Int) (x1:Bool) (x2:Y):Option Bool:=cG YE my (AF Eg) mz ⟨[(1,.ptr 0 0),(38,.int .i64 x0),(39,.bool x1)],[.var (AE.enc x2)]⟩
def Oc (x0:Bool) (x1:Y):Option Bool:=cG YG (AF Eg) (AF Eg) kx ⟨[(1,.ptr 0 0),(36,.bool x0)],[.var (AE.enc x1)]⟩
def W6 (x0:Int) (x1:Bool) (x2:Y):Option Bool:=(if x1=true then (some true) else (if (x0==5)=true then (some ((x2.2.2.2.2.2.length:Int)==1)) else (some ((x2.2.2.2.2.2.length:Int)==0))))
def W7 (x0:Bool) (x1:Y):Option Bool:=(if (x1.1==2)=true then (Jn x1.1 (x1.1==2) x1) else (Jn x1.1 (x1.1==3) x1))
def eC (x0:Y):Option Bool:=((AW x0.1 1 8).bind fun y1=>(if (!y1)=false then ((AW x0.2.1 1 6).bind fun y2=>(if (!y2)=false then ((AW x0.2.2.1 1 6).bind fun y3=>(if (!y3)=false then ((AW x0.2.2.2.1 1 9).bind fun y4=>(if (!y4)=false then ((AW x0.2.2.2.2.1 0 1000000000).bind fun y5=>(if (!y5)=false then ((DI x0.2.2.2.2.2).bind fun y6=>(if (!y6)=true then (some false) else (Oc (!y6) x0))) else (some false))) else (some false))) else (some false))) else (some false))) else (some false)))
theorem jl:Qw W6 Jn:=jS (by kernel_rfl)
theorem jm:Oh W7 Oc:=jS (by kernel_rfl)
theorem qN:PO eC Un:=cT Eg rfl ⟨rfl,rfl⟩ (by kernel_rfl)
def W8:=cG TH (AF CR) (AF CR) kx
def Fi:=kB [] [6,9,10,11] 4 W8
def Fj:=kE 0 [] [6,9,10,11] 4 W8 kx
def Iu (x0:List Int) (x1:List Y) (x2:List AD) (x3:Bool) (x4:O) (x5:Y) (x6 x7:O):Option (O×List Y×List AD):=cG WD Fi (AF CR) Fj ⟨[(1,.lst (.int .i64) x0),(5,.ptr 1 0),(6,.ptr 2 0),(9,.ptr 3 0),(10,.lst AE x1),(11,.lst Aq x2),(28,.bool x3)],[.var (U.enc x4),.var (AE.enc x5),.var (U.enc x6),.var (U.enc x7)]⟩
def Iv (x0:List Y) (x1:List AD) (x2:Bool) (x3:O) (x4:Y) (x5 x6:O):Option (O×List Y×List AD):=cG WE Fi (AF CR) Fj ⟨[(3,.ptr 0 0),(5,.ptr 1 0),(6,.ptr 2 0),(9,.ptr 3 0),(10,.lst AE x0),(11,.lst Aq x1),(60,.bool x2)],[.var (U.enc x3),.var (AE.enc x4),.var (U.enc x5),.var (U.enc x6)]⟩
def M6 (x0:List Y) (x1:List AD) (x2:Bool) (x3:O) (x4:Y) (x5 x6:O):Option (O×List Y×List AD):=cG WF Fi (AF CR) Fj ⟨[(3,.ptr 0 0),(5,.ptr 1 0),(6,.ptr 2 0),(9,.ptr 3 0),(10,.lst AE x0),(11,.lst Aq x1),(50,.bool x2)],[.var (U.enc x3),.var (AE.enc x4),.var (U.enc x5),.var (U.enc x6)]⟩
def M7 (x0:List Y) (x1:List AD) (x2:Bool) (x3:O) (x4:Y) (x5 x6:O):Option (O×List Y×List AD):=cG TE Fi (AF CR) Fj ⟨[(5,.ptr 1 0),(6,.ptr 2 0),(9,.ptr 3 0),(10,.lst AE x0),(11,.lst Aq x1),(145,.bool x2)],[.var (U.enc x3),.var (AE.enc x4),.var (U.enc x5),.var (U.enc x6)]⟩
def Iw (x0:List Y) (x1:List AD) (x2:Int) (x3:O) (x4:Y) (x5 x6:O):Option (O×List Y×List AD):=cG TF Fi (AF CR) Fj ⟨[(5,.ptr 1 0),(6,.ptr 2 0),(9,.ptr 3 0),(10,.lst AE x0),(11,.lst Aq x1),(13,.int .i64 x2)],[.var (U.enc x3),.var (AE.enc x4),.var (U.enc x5),.var (U.enc x6)]⟩
def Ix (x0:List Y) (x1:List AD) (x2:Bool) (x3:O) (x4:Y) (x5 x6:O):Option (O×List Y×List AD):=cG TG Fi (AF CR) Fj ⟨[(5,.ptr 1 0),(6,.ptr 2 0),(9,.ptr 3 0),(10,.lst AE x0),(11,.lst Aq x1),(127,.bool x2)],[.var (U.enc x3),.var (AE.enc x4),.var (U.enc x5),.var (U.enc x6)]⟩
def Tn (x0:List Int) (x1:List Y) (x2:List AD) (x3:Bool) (x4:O) (x5:Y) (x6 x7:O):Option (O×List Y×List AD):=(if x3=true then ((NT x0 x5.2.2.2.2.2 x7).bind fun y2=>(some (y2.2,y2.1,x2))) else (some (x7,x1,x2)))
def To (x0:List Y) (x1:List AD) (x2:Bool) (x3:O) (x4:Y) (x5 x6:O):Option (O×List Y×List AD):=(if (!x6.2.2.2.1)=true then ((Lc x3 x3.2.1).bind fun y4=>(if ([]:List X).length+x4.2.2.2.2.2.length≤68719476736 then ((EJ x3 x4 4).bind fun y5=>(some ((y4.1,y4.2.1,y4.2.2.1,true,y4.2.2.2.2.1,y4.2.2.2.2.2.1,y4.2.2.2.2.2.2.1,(([]:List X)++x4.2.2.2.2.2),y4.2.2.2.2.2.2.2.2),y5,x1))) else none)) else ((EJ x3 x4 4).bind fun y6=>(some (x6,y6,x1))))
def Tp (x0:List Y) (x1:List AD) (x2:Bool) (x3:O) (x4:Y) (x5 x6:O):Option (O×List Y×List AD):=(if (!x6.2.2.2.1)=true then (if x6.2.2.1=true then (some (x6,x0,x1)) else (Iv x0 x1 x6.2.2.1 x3 x4 x5 x6)) else (Iv x0 x1 false x3 x4 x5 x6))
def Tq (x0:List Y) (x1:List AD) (x2:Bool) (x3:O) (x4:Y) (x5 x6:O):Option (O×List Y×List AD):=((Hr x6.2.2.2.2.2.2.2.2.2.2.2.2.2 x4.2.1).bind fun y11=>(if ((y11.length:Int)==0)=true then ((Gh (x6.1,x6.2.1,x6.2.2.1,x6.2.2.2.1,x6.2.2.2.2.1,x6.2.2.2.2.2.1,x6.2.2.2.2.2.2.1,x6.2.2.2.2.2.2.2.1,x6.2.2.2.2.2.2.2.2.1,x6.2.2.2.2.2.2.2.2.2.1,x6.2.2.2.2.2.2.2.2.2.2.1,x6.2.2.2.2.2.2.2.2.2.2.2.1,x6.2.2.2.2.2.2.2.2.2.2.2.2.1,y11)).bind fun y12=>(some (y12.2,x0,y12.1))) else (some ((x6.1,x6.2.1,x6.2.2.1,x6.2.2.2.1,x6.2.2.2.2.1,x6.2.2.2.2.2.1,x6.2.2.2.2.2.2.1,x6.2.2.2.2.2.2.2.1,x6.2.2.2.2.2.2.2.2.1,x6.2.2.2.2.2.2.2.2.2.1,x6.2.2.2.2.2.2.2.2.2.2.1,x6.2.2.2.2.2.2.2.2.2.2.2.1,x6.2.2.2.2.2.2.2.2.2.2.2.2.1,y11),x0,x1))))
def Tr (x0:List Y) (x1:List AD) (x2:Int) (x3:O) (x4:Y) (x5 x6:O):Option (O×List Y×List AD):=(if (x6.2.2.2.2.2.2.2.2.2.1 != x2)=false then (if (x6.2.2.2.2.2.2.2.2.2.2.2.1 != x4.2.2.2.2.1)=true then (some (x6,x0,x1)) else (M7 x0 x1 (x6.2.2.2.2.2.2.2.2.2.2.2.1 != x4.2.2.2.2.1) x3 x4 x5 x6)) else (some (x6,x0,x1)))
def Ts (x0:List Y) (x1:List AD) (x2:Bool) (x3:O) (x4:Y) (x5 x6:O):Option (O×List Y×List AD):=(if x2=true then (if (x4.1==8)=true then (Iw x0 x1 2 x3 x4 x5 x6) else (Iw x0 x1 1 x3 x4 x5 x6)) else (some (x6,x0,x1)))
def aI (x0:O) (x1:List Int) (x2:Y):Option (O×List Y×List AD):=((D6 x0).bind fun y1=>(if (x2.1==2)=true then (if y1.2.2.2.2.1=true then (Iu x1 ([]:List Y) ([]:List AD) (!y1.2.2.2.1) x0 x2 (0,0,false,false,false,false,([]:List Int),([]:List X),0,0,0,0,(ByteArray.empty,ByteArray.empty,0),([]:List Int)) y1) else (Iu x1 ([]:List Y) ([]:List AD) false x0 x2 (0,0,false,false,false,false,([]:List Int),([]:List X),0,0,0,0,(ByteArray.empty,ByteArray.empty,0),([]:List Int)) y1)) else (if (x2.1==3)=true then ((Dt x1 x0.1).bind fun y3=>(if (!y3)=true then (some (y1,([]:List Y),([]:List AD))) else (if 0≤(0:Int) then (if 0<(x1.length:Int) then (if ((x1.getD (0:Int).toNat 0)==x0.1)=true then (some (y1,([]:List Y),([]:List AD))) else (M6 ([]:List Y) ([]:List AD) ((x1.getD (0:Int).toNat 0)==x0.1) x0 x2 (0,0,false,false,false,false,([]:List Int),([]:List X),0,0,0,0,(ByteArray.empty,ByteArray.empty,0),([]:List Int)) y1)) else none) else none))) else (if (x2.1==4)=true then (if y1.2.2.2.2.1=true then ((Hr y1.2.2.2.2.2.2.1 x2.2.1).bind fun y7=>(if y1.2.2.2.1=true then (some ((y1.1,y1.2.1,y1.2.2.1,y1.2.2.2.1,y1.2.2.2.2.1,((y7.length:Int)==0),y7,y1.2.2.2.2.2.2.2),([]:List Y),([]:List AD))) else (some ((y1.1,y1.2.1,y1.2.2.1,y1.2.2.2.1,y1.2.2.2.2.1,false,y7,y1.2.2.2.2.2.2.2),([]:List Y),([]:List AD))))) else (some (y1,([]:List Y),([]:List AD)))) else (if (x2.1==5)=true then (if y1.2.2.2.1=true then (if 0≤(0:Int) then (if 0<(x2.2.2.2.2.2.length:Int) then ((IR y1.2.2.2.2.2.2.2.1 (x2.2.2.2.2.2.getD (0:Int).toNat (ByteArray.empty,ByteArray.empty,0))).bind fun y8=>((EJ x0 x2 6).bind fun y9=>(some ((y1.1,y1.2.1,y1.2.2.1,y1.2.2.2.1,y1.2.2.2.2.1,y1.2.2.2.2.2.1,y1.2.2.2.2.2.2.1,y8,y1.2.2.2.2.2.2.2.2),y9,([]:List AD))))) else none) else none) else (some (y1,([]:List Y),([]:List AD)))) else (if (x2.1==7)=true then (if y1.2.2.2.1=true then ((EJ x0 x2 8).bind fun y10=>(some (y1,y10,([]:List AD)))) else (some (y1,([]:List Y),([]:List AD)))) else (if (x2.1==6)=true then (Ix ([]:List Y) ([]:List AD) (x2.1==6) x0 x2 (0,0,false,false,false,false,([]:List Int),([]:List X),0,0,0,0,(ByteArray.empty,ByteArray.empty,0),([]:List Int)) y1) else (Ix ([]:List Y) ([]:List AD) (x2.1==8) x0 x2 (0,0,false,false,false,false,([]:List Int),([]:List X),0,0,0,0,(ByteArray.empty,ByteArray.empty,0),([]:List Int)) y1))))))))
theorem gW:sx Tn Iu:=jS (by kernel_rfl)
theorem gX:vp To Iv:=jS (by kernel_rfl)
theorem gY:vp Tp M6:=jS (by kernel_rfl)
theorem gZ:vp Tq M7:=jS (by kernel_rfl)
theorem ga:vp Tr Iw:=jS (by kernel_rfl)
theorem gd:vp Ts Ix:=jS (by kernel_rfl)
theorem oC:Qw aI SU:=cT CR rfl ⟨rfl,rfl⟩ (by kernel_rfl)
end
end Go.Proofs.YtokiohnjegbnpaaGreat.Core

namespace Go.Proofs.YtokiohnjegbnpaaGreat.Core
open Go IntKind
set_option linter.unusedVariables false
set_option maxRecDepth 100000
noncomputable section
def Yv (x0:O) (x1:Int):Option O:=(if ([]:List X).length+x0.2.2.2.2.2.2.2.1.length≤68719476736 then (some (x0.1,x1,false,false,false,false,([]:List Int),(([]:List X)++x0.2.2.2.2.2.2.2.1),0,0,0,0,(ByteArray.empty,ByteArray.empty,0),([]:List Int))) else none)
theorem m3:Oh Yv Lc:=cT LU rfl ⟨rfl,rfl⟩ (by kernel_rfl)
def jn (x0:O) (x1:Y) (x2:Int):Option (List Y):=(some ([(x2,x0.1,x1.2.1,x1.2.2.2.1,x1.2.2.2.2.1,([]:List X))]:List Y))
theorem jo:Qw jn EJ:=cT Jd rfl ⟨rfl,rfl⟩ (by kernel_rfl)
def Mi (x0:Bool) (x1:O) (x2:Y):Option (List Y×O):=cG MY (AF Dj) (AF Dj) kx ⟨[(0,.ptr 0 0),(5,.ptr 1 0),(37,.bool x0)],[.var (U.enc x1),.var (AE.enc x2)]⟩
def Mj (x0:Bool) (x1:O) (x2:Y):Option (List Y×O):=((Fx (x1.1,x2.2.2.2.1,x1.2.2.1,false,x1.2.2.2.2)).bind fun y2=>((Ah ([x2.2.1]:List Int) (2,0,0,0,0,y2.2.2.2.2.2.2.2.1) y2).bind fun y3=>(some (y3.1,y3.2))))
def Qb (x1:List (List Int)) (x2:Y) (b0:O):Option (List Y×O):=(if (x2.2.2.2.1 != (i64.wrap (b0.2.1+1)))=true then (some ([],b0)) else (if (!b0.2.2.2.1)=true then (some ([],b0)) else (if 0≤(i64.wrap (b0.2.1-1)) then (if (i64.wrap (b0.2.1-1))<(x1.length:Int) then ((Cc (x1.getD (i64.wrap (b0.2.1-1)).toNat ([]:List Int)) b0.1).bind fun y1=>(if (!y1)=true then (some ([],b0)) else (Mi (!y1) b0 x2))) else none) else none)))
theorem XT:Qw Mj Mi:=jS (by kernel_rfl)
theorem bW:Qw Qb Jx:=cT Dj rfl ⟨rfl,rfl⟩ (by kernel_rfl)
def Kb:=cG KR (AF BW) (AF BW) kx
def Tt:=kB [] [0,5] 2 Kb
def Tu:=kE 0 [] [0,5] 2 Kb kx
def Co (x0:Bool) (x1:O) (x2:Y):Option (List Y×O):=cG KQ Tt (AF BW) Tu ⟨[(0,.ptr 0 0),(5,.ptr 1 0),(24,.bool x0)],[.var (U.enc x1),.var (AE.enc x2)]⟩
def JQ (x0:Bool) (x1:O) (x2:Y):Option (List Y×O):=cG KS (AF BW) (AF BW) kx ⟨[(0,.ptr 0 0),(5,.ptr 1 0),(23,.bool x0)],[.var (U.enc x1),.var (AE.enc x2)]⟩
def JR (x0:Bool) (x1:O) (x2:Y):Option (List Y×O):=(if x0=true then ((Ag x2.2.2.2.2.2).bind fun y2=>((Fx (x1.1,x2.2.2.2.1,false,true,x1.2.2.2.2.1,x1.2.2.2.2.2.1,x1.2.2.2.2.2.2.1,y2,x1.2.2.2.2.2.2.2.2)).bind fun y3=>((Ah ([x2.2.1]:List Int) (4,0,0,0,0,([]:List X)) y3).bind fun y4=>(some (y4.1,y4.2))))) else (if (!x1.2.2.2.1)=true then (some ([],x1)) else ((Ah ([x2.2.1]:List Int) (4,0,0,0,0,([]:List X)) x1).bind fun y5=>(some (y5.1,y5.2)))))
def JS (x0:Bool) (x1:O) (x2:Y):Option (List Y×O):=(if (decide (x2.2.2.2.1>x1.2.1))=true then (Co true x1 x2) else (if (!x1.2.2.2.1)=true then (Co (!x1.2.2.1) x1 x2) else (Co false x1 x2)))
def Mk (x1:List Int) (x2:Y) (b0:O):Option (List Y×O):=((Cc x1 b0.1).bind fun y1=>(if (!y1)=true then (some ([],b0)) else (if 0≤(0:Int) then (if 0<(x1.length:Int) then (if ((x1.getD (0:Int).toNat 0)==b0.1)=true then (some ([],b0)) else (JQ ((x1.getD (0:Int).toNat 0)==b0.1) b0 x2)) else none) else none)))
theorem SZ:Qw JR Co:=jS (by kernel_rfl)
theorem Sa:Qw JS JQ:=jS (by kernel_rfl)
theorem XU:Qw Mk Ha:=cT BW rfl ⟨rfl,rfl⟩ (by kernel_rfl)
def Yw (x0:List Int) (x1:Int):Option (List Int):=((Bg x0).bind fun y1=>((Ei y1 x1).bind fun y2=>(some y2)))
theorem m4:Oh Yw Ld:=cT LV rfl ⟨rfl,rfl⟩ (by kernel_rfl)
def MF (x0:Bool) (x1:O) (x2:Y):Option (List Y×O):=cG MZ (AF DP) (AF DP) kx ⟨[(0,.ptr 0 0),(3,.ptr 1 0),(18,.bool x0)],[.var (U.enc x1),.var (AE.enc x2)]⟩
def MG (x0:Bool) (x1:O) (x2:Y):Option (List Y×O):=(if (x2.1==7)=true then ((Ah ([x2.2.1]:List Int) (8,0,0,0,x2.2.2.2.2.1,([]:List X)) x1).bind fun y1=>(some (y1.1,y1.2))) else (if 0≤(0:Int) then (if 0<(x2.2.2.2.2.2.length:Int) then ((Le x1.2.2.2.2.2.2.2.1 (x2.2.2.2.2.2.getD (0:Int).toNat (ByteArray.empty,ByteArray.empty,0))).bind fun y2=>((Ah ([x2.2.1]:List Int) (6,0,0,0,x2.2.2.2.2.1,([]:List X)) (x1.1,x1.2.1,x1.2.2.1,x1.2.2.2.1,x1.2.2.2.2.1,x1.2.2.2.2.2.1,x1.2.2.2.2.2.2.1,y2,x1.2.2.2.2.2.2.2.2)).bind fun y3=>(some (y3.1,y3.2)))) else none) else none))
def PE (x1:Y) (b0:O):Option (List Y×O):=(if (x1.2.2.2.1 != b0.2.1)=true then (some ([],b0)) else (if (!b0.2.2.2.1)=true then (some ([],b0)) else (MF (!b0.2.2.2.1) b0 x1)))
theorem Uz:Qw MG MF:=jS (by kernel_rfl)
theorem Zu:Oh PE I9:=cT DP rfl ⟨rfl,rfl⟩ (by kernel_rfl)
def Kc (x0:Bool) (x1:O) (x2:Y):Option (List AD×O):=cG KT (AF C4) (AF C4) kx ⟨[(0,.ptr 0 0),(5,.ptr 1 0),(32,.bool x0)],[.var (U.enc x1),.var (AE.enc x2)]⟩
def Ke (x0:Bool) (x1:O) (x2:Y):Option (List AD×O):=((Ld x1.2.2.2.2.2.2.2.2.2.2.2.2.2 x2.2.1).bind fun y1=>(if (decide ((y1.length:Int)>0))=true then (some ([],(x1.1,x1.2.1,x1.2.2.1,x1.2.2.2.1,x1.2.2.2.2.1,x1.2.2.2.2.2.1,x1.2.2.2.2.2.2.1,x1.2.2.2.2.2.2.2.1,x1.2.2.2.2.2.2.2.2.1,x1.2.2.2.2.2.2.2.2.2.1,x1.2.2.2.2.2.2.2.2.2.2.1,x1.2.2.2.2.2.2.2.2.2.2.2.1,x1.2.2.2.2.2.2.2.2.2.2.2.2.1,y1))) else ((G8 (x1.1,x1.2.1,x1.2.2.1,x1.2.2.2.1,x1.2.2.2.2.1,x1.2.2.2.2.2.1,x1.2.2.2.2.2.2.1,x1.2.2.2.2.2.2.2.1,x1.2.2.2.2.2.2.2.2.1,x1.2.2.2.2.2.2.2.2.2.1,x1.2.2.2.2.2.2.2.2.2.2.1,x1.2.2.2.2.2.2.2.2.2.2.2.1,x1.2.2.2.2.2.2.2.2.2.2.2.2.1,y1)).bind fun y2=>(some (y2.1,y2.2)))))
def Nw (x1:Int) (x2:Y) (b0:O):Option (List AD×O):=(if (x2.2.2.2.1 != b0.2.1)=true then (some ([],b0)) else (if (b0.2.2.2.2.2.2.2.2.2.1 != x1)=true then (some ([],b0)) else (if (b0.2.2.2.2.2.2.2.2.2.2.2.1 != x2.2.2.2.2.1)=true then (some ([],b0)) else (Kc (b0.2.2.2.2.2.2.2.2.2.2.2.1 != x2.2.2.2.2.1) b0 x2))))
theorem Tv:Qw Ke Kc:=jS (by kernel_rfl)
theorem Yx:Qw Nw Fy:=cT C4 rfl ⟨rfl,rfl⟩ (by kernel_rfl)
def Gv:=kE 0 [] [] 1 (AF AU) kx
def Gp:St→Option (RT (BL.outs AU)):=lG Ge [(0,0)] [0,1,2,3,8,9] 1 (AF AU) Gv
def Gw:=kB [(0,0)] [0,1,2,3,8,9] 1 Gp
def B2:=kB [(0,0)] [0,1,2,3,8,9] 1 Gw
def BX:=kE 1 [(0,0)] [0,1,2,3,8,9] 1 Gw Gv
def Nx:=cG Dk B2 (AF AU) BX
def Gq (x0 x1 x2:Int) (x3 x4:Bool) (x5 x6:Int) (x7:Bool) (x8:List Int):Option (List Int):=cG Dk B2 (AF AU) BX ⟨[(0,.row 0),(1,.int .i64 x0),(2,.int .i64 x1),(3,.int .i64 x2),(8,.bool x3),(9,.bool x4),(10,.int .i64 x5),(11,.int .i64 x6),(87,.bool x7)],[.mrow 3 (.int .i64) x8]⟩
def Dm (x0 x1 x2:Int) (x3 x4:Bool) (x5 x6:Int) (x7:Bool) (x8:List Int):Option (List Int):=cG Ga Nx (AF AU) BX ⟨[(0,.row 0),(1,.int .i64 x0),(2,.int .i64 x1),(3,.int .i64 x2),(8,.bool x3),(9,.bool x4),(10,.int .i64 x5),(11,.int .i64 x6),(87,.bool x7)],[.mrow 3 (.int .i64) x8]⟩
def Bv (x0 x1 x2:Int) (x3 x4:Bool) (x5 x6:Int) (x7:List Int):Option (List Int):=cG Gb B2 (AF AU) BX ⟨[(0,.row 0),(1,.int .i64 x0),(2,.int .i64 x1),(3,.int .i64 x2),(8,.bool x3),(9,.bool x4),(10,.int .i64 x5),(11,.int .i64 x6)],[.mrow 3 (.int .i64) x7]⟩
def Dn (x0 x1 x2:Int) (x3 x4:Bool) (x5 x6 x7:Int) (x8:List Int):Option (List Int):=cG Gc B2 (AF AU) BX ⟨[(0,.row 0),(1,.int .i64 x0),(2,.int .i64 x1),(3,.int .i64 x2),(8,.bool x3),(9,.bool x4),(10,.int .i64 x5),(11,.int .i64 x6),(12,.int .i64 x7)],[.mrow 3 (.int .i64) x8]⟩
def Do (x0 x1 x2:Int) (x3 x4:Bool) (x5:Int) (x6:List Int):Option (List Int):=cG Gd B2 (AF AU) BX ⟨[(0,.row 0),(1,.int .i64 x0),(2,.int .i64 x1),(3,.int .i64 x2),(8,.bool x3),(9,.bool x4),(10,.int .i64 x5)],[.mrow 3 (.int .i64) x6]⟩
def Bw (x0 x1 x2:Int) (x3 x4:Bool) (x5:List Int):Option (List Int):=Gp ⟨[(0,.row 0),(1,.int .i64 x0),(2,.int .i64 x1),(3,.int .i64 x2),(8,.bool x3),(9,.bool x4)],[.mrow 3 (.int .i64) x5]⟩
def M8 (x0 x1 x2:Int) (x3 x4:Bool) (x5 x6:Int) (x7:Bool) (x8:List Int):Option (List Int):=((Nl x0 x1 x6 x8).bind fun y9=>(if 8=0 then none else (if (decide ((i64.wrap (y9.1-x0))<(i64.wrap (x1-y9.1))))=true then ((CK x0 y9.1 x2 y9.2.2).bind fun y10=>(Bw (i64.wrap (y9.1+1)) x1 x2 (decide ((i64.wrap (y9.1-x0))≥(i64.wrap (Int.tdiv x5 8)))) y9.2.1 y10)) else ((CK (i64.wrap (y9.1+1)) x1 x2 y9.2.2).bind fun y11=>(Bw x0 y9.1 x2 (decide ((i64.wrap (x1-y9.1))≥(i64.wrap (Int.tdiv x5 8)))) y9.2.1 y11)))))
def M9 (x0 x1 x2:Int) (x3 x4:Bool) (x5 x6:Int) (x7:Bool) (x8:List Int):Option (List Int):=(if x7=true then ((Jy x0 x1 x6 x8).bind fun y8=>(Bw y8.1 x1 x2 x3 x4 y8.2)) else (Gq x0 x1 x2 x3 x4 x5 x6 x7 x8))
def M_ (x0 x1 x2:Int) (x3 x4:Bool) (x5 x6:Int) (x7:List Int):Option (List Int):=(if (decide (x0>0))=true then (if 0≤(i64.wrap (x0-1)) then (if (i64.wrap (x0-1))<(x7.length:Int) then (if 0≤x6 then (if x6<(x7.length:Int) then ((Lf (x7.getD ((i64.wrap (x0-1)).toNat) 0) (x7.getD x6.toNat 0)).bind fun y7=>(Dm x0 x1 x2 x3 x4 x5 x6 (!y7) x7)) else none) else none) else none) else none) else (Dm x0 x1 x2 x3 x4 x5 x6 false x7))
def NA (x0 x1 x2:Int) (x3 x4:Bool) (x5 x6 x7:Int) (x8:List Int):Option (List Int):=(if x3=true then (if x4=true then (if (x7==1)=true then ((Hc x0 x1 x8).bind fun y6=>(if y6.1=true then (some y6.2) else (Bv x0 x1 x2 x3 x4 x5 x6 y6.2))) else (Bv x0 x1 x2 x3 x4 x5 x6 x8)) else (Bv x0 x1 x2 x3 x4 x5 x6 x8)) else (Bv x0 x1 x2 x3 x4 x5 x6 x8))
def NB (x0 x1 x2:Int) (x3 x4:Bool) (x5:Int) (x6:List Int):Option (List Int):=((MP x0 x1 x6).bind fun y4=>(if (y4.2.1==2)=true then ((Lh x0 x1 y4.2.2).bind fun y5=>(Dn x0 x1 x2 x3 x4 x5 (i64.wrap ((i64.wrap (x1-1))-(i64.wrap (y4.1-x0)))) 1 y5)) else (Dn x0 x1 x2 x3 x4 x5 y4.1 y4.2.1 y4.2.2)))
def Gr (x0 x1 x2:Int) (x3 x4:Bool) (x5:List Int):Option (List Int):=(if (decide ((i64.wrap (x1-x0))≤12))=true then ((C8 x0 x1 x5).bind fun y1=>(some y1)) else (if (x2==0)=true then ((OH x0 x1 x5).bind fun y2=>(some y2)) else (if (!x3)=true then ((Kn x0 x1 x5).bind fun y3=>(Do x0 x1 (i64.wrap (x2-1)) x3 x4 (i64.wrap (x1-x0)) y3)) else (Do x0 x1 x2 x3 x4 (i64.wrap (x1-x0)) x5))))
def H7 (x1 x2 x3:Int) (b0:List Int):Option (List Int):=(Bw x1 x2 x3 true true b0)
theorem ge:yM M8 Gq:=jS (by kernel_rfl)
theorem gf:yM M9 Dm:=jS (by kernel_rfl)
theorem gh:sx M_ Bv:=jS (by kernel_rfl)
theorem gj:yM NA Dn:=jS (by kernel_rfl)
theorem gm:vp NB Do:=jS (by kernel_rfl)
theorem NC:t_ Gr Bw:=lS (by kernel_rfl)
theorem Pd:bl H7 CK:=cT AU rfl ⟨rfl,rfl⟩ (by kernel_rfl)
def W9 (x0:Int):Option Int:=((Lg x0).bind fun y1=>(some y1))
theorem jp:PO W9 OG:=cT Je rfl ⟨rfl,rfl⟩ (by kernel_rfl)
def H8 (x0:List X) (x1:X) (x2:List X):Option (List X):=cG TJ (AF D2) (AF D2) kx ⟨[(0,.lst AB x0),(5,.row 1)],[.var (AB.enc x1),.rows 38 AB x2]⟩
def H9 (x0:List X) (x1:Int) (x2 x3:Bool) (x4:X) (x5:List X):Option (List X):=cG TK (AF D2) (AF D2) kx ⟨[(0,.lst AB x0),(3,.ptr 0 0),(5,.row 1),(6,.int .i64 x1),(7,.bool x2),(32,.bool x3)],[.var (AB.enc x4),.rows 38 AB x5]⟩
def SB (x0:List X) (x1:X) (x2:List X):Option (List X):=((FA x2).bind fun y5=>(if (!y5)=true then ((Ag x0).bind fun y6=>(some y6)) else (some x2)))
def SC (x0:List X) (x1:Int) (x2 x3:Bool) (x4:X) (x5:List X):Option (List X):=(if x2=true then (if 0≤x1 then (if x1<(x5.length:Int) then (let z4:List X:=x5.set x1.toNat x4; (H8 x0 x4 z4)) else none) else none) else ((Cn x5 x1 ([x4]:List X)).bind fun y7=>(H8 x0 x4 y7)))
def Yy (x0:List X) (x1:X):Option (List X):=((Ag x0).bind fun y1=>((BO x0 x1.1 ()).bind fun y2=>((FA x0).bind fun y3=>(if (!y3)=true then (some y1) else (if y2.2=true then (if 0≤y2.1 then (if y2.1<(x0.length:Int) then (if (decide ((((x0.getD y2.1.toNat (ByteArray.empty,ByteArray.empty,0)).2).2)≥x1.2.2))=true then (some y1) else (H9 x0 y2.1 y2.2 (decide ((((x0.getD y2.1.toNat (ByteArray.empty,ByteArray.empty,0)).2).2)≥x1.2.2)) x1 y1)) else none) else none) else (H9 x0 y2.1 y2.2 false x1 y1))))))
theorem eD:Qw SB H8:=jS (by kernel_rfl)
theorem eE:t_ SC H9:=jS (by kernel_rfl)
theorem m5:Oh Yy Le:=cT D2 rfl ⟨rfl,rfl⟩ (by kernel_rfl)
def jq:=cG WI (AF Er) (AF Er) kx
def jr:=kE 0 [] [] 0 jq kx
def gp:St→Option (RT (BL.outs Er)):=lG WH [] [0,3] 0 (AF Er) jr
def Gs (x0:List Int) (x1:Int):Option Bool:=gp ⟨[(0,.lst (.int .i64) x0),(3,.int .i64 x1)],[]⟩
def ND (x0:List Int) (x1:Int):Option Bool:=(if (decide (x1<(x0.length:Int)))=true then (if 0≤x1 then (if x1<(x0.length:Int) then ((AW (x0.getD x1.toNat 0) 1 6).bind fun y1=>(if (!y1)=true then (some false) else (if (decide (x1>0))=true then (if 0≤(i64.wrap (x1-1)) then (if (i64.wrap (x1-1))<(x0.length:Int) then (if 0≤x1 then (if x1<(x0.length:Int) then (if (decide ((x0.getD (i64.wrap (x1-1)).toNat 0)≥(x0.getD x1.toNat 0)))=true then (some false) else (Gs x0 (i64.wrap (x1+1)))) else none) else none) else none) else none) else (Gs x0 (i64.wrap (x1+1)))))) else none) else none) else (some true))
def aJ (x0:List Int):Option Bool:=(Gs x0 0)
theorem Tw:Oh ND Gs:=lS (by kernel_rfl)
theorem oD:PO aJ DA:=cT Er rfl ⟨rfl,rfl⟩ (by kernel_rfl)
def gq:=cG Rb (AF D3) (AF D3) kx
def gu:=kE 0 [] [0] 0 gq kx
def eF:St→Option (RT (BL.outs D3)):=lG Ra [] [0,3] 0 (AF D3) gu
def F7 (x0:List X) (x1:Int):Option Bool:=eF ⟨[(0,.lst AB x0),(3,.int .i64 x1)],[]⟩
def MH (x0:List X) (x1:Int):Option Bool:=(if (decide (x1<(x0.length:Int)))=true then (if 0≤x1 then (if x1<(x0.length:Int) then ((AW (((x0.getD x1.toNat (ByteArray.empty,ByteArray.empty,0)).1).size:Int) 1 12).bind fun y1=>(if (!y1)=true then (some false) else (if (decide (((((x0.getD x1.toNat (ByteArray.empty,ByteArray.empty,0)).2).1).size:Int)>20))=true then (some false) else ((AW (((x0.getD x1.toNat (ByteArray.empty,ByteArray.empty,0)).2).2) 1 1000000000).bind fun y2=>(if (!y2)=true then (some false) else (if (decide (x1>0))=true then (if 0≤(i64.wrap (x1-1)) then (if (i64.wrap (x1-1))<(x0.length:Int) then (if (!(Op.bytesLess ((x0.getD (i64.wrap (x1-1)).toNat (ByteArray.empty,ByteArray.empty,0)).1).toList ((x0.getD x1.toNat (ByteArray.empty,ByteArray.empty,0)).1).toList))=true then (some false) else (F7 x0 (i64.wrap (x1+1)))) else none) else none) else (F7 x0 (i64.wrap (x1+1))))))))) else none) else none) else (some (decide ((x0.length:Int)≤12))))
def Yz (x0:List X):Option Bool:=(F7 x0 0)
theorem SD:Oh MH F7:=lS (by kernel_rfl)
theorem m6:PO Yz DI:=cT D3 rfl ⟨rfl,rfl⟩ (by kernel_rfl)
def Tx (x0:pK):Option Bool:=(if (x0.1==0)=true then (if (x0.2.1==0)=true then (if (x0.2.2.1==0)=true then (if (false != XY AB x0.2.2.2.1 (ByteArray.empty,ByteArray.empty,0))=true then (some ((x0.2.2.2.2.length:Int)==0)) else (some false)) else (some false)) else (some false)) else (some false))
theorem gw:PO Tx Mx:=cT Il rfl ⟨rfl,rfl⟩ (by kernel_rfl)
def Zv:=cG Ou (AF Ci) (AF Ci) kx
def Zw:=kE 0 [(5,0)] [5] 1 Zv kx
def Y0:St→Option (RT (BL.outs Ci)):=lG Ot [(5,0)] [0,1,5,6] 1 (AF Ci) Zw
def D8 (x0:List Int) (x1 x2:Int) (x3:List Int):Option (List Int):=Y0 ⟨[(0,.lst (.int .i64) x0),(1,.int .i64 x1),(5,.row 0),(6,.int .i64 x2)],[.rows 3 (.int .i64) x3]⟩
def IX (x0:List Int) (x1 x2:Int) (x3:List Int):Option (List Int):=(if (decide (x2<(x0.length:Int)))=true then (if 0≤x2 then (if x2<(x0.length:Int) then (if ((x0.getD x2.toNat 0) != x1)=true then (if 0≤x2 then (if x2<(x0.length:Int) then (if x3.length+([(x0.getD x2.toNat 0)]:List Int).length≤68719476736 then (D8 x0 x1 (i64.wrap (x2+1)) (x3++([(x0.getD x2.toNat 0)]:List Int))) else none) else none) else none) else (D8 x0 x1 (i64.wrap (x2+1)) x3)) else none) else none) else (some x3))
def SE (x0:List Int) (x1:Int):Option (List Int):=(D8 x0 x1 0 ([]:List Int))
theorem Ny:bl IX D8:=lS (by kernel_rfl)
theorem eG:Oh SE Hr:=cT Ci rfl ⟨rfl,rfl⟩ (by kernel_rfl)
def Cp:=kE 0 [] [] 1 (AF AQ) kx
def EU:St→Option (RT (BL.outs AQ)):=lG Ew [(0,0)] [0,1,2,6] 1 (AF AQ) Cp
def JT:=kB [(0,0)] [0,1,2,6] 1 EU
def Ex:=cG Eu JT (AF AQ) Cp
def JU:=kB [(0,0)] [0,1,2,6] 1 Ex
def JV:=kE 1 [(0,0)] [0,1,2,6] 1 Ex Cp
def Ey:=kE 2 [(0,0)] [0,1,2,6] 1 JU JV
def EV:St→Option (RT (BL.outs AQ)):=lG Et [(0,0)] [0,1,2,6,7] 1 (AF AQ) Ey
def JW:=kB [(0,0)] [0,1,2,6,7] 1 EV
def EW (x0 x1 x2 x3:Int) (x4:Bool) (x5:List Int):Option (List Int):=cG Es JW (AF AQ) Ey ⟨[(0,.row 0),(1,.int .i64 x0),(2,.int .i64 x1),(6,.int .i64 x2),(7,.int .i64 x3),(30,.bool x4)],[.mrow 3 (.int .i64) x5]⟩
def Bp (x0 x1 x2 x3:Int) (x4:List Int):Option (List Int):=EV ⟨[(0,.row 0),(1,.int .i64 x0),(2,.int .i64 x1),(6,.int .i64 x2),(7,.int .i64 x3)],[.mrow 3 (.int .i64) x4]⟩
def At (x0 x1 x2:Int) (x3:List Int):Option (List Int):=EU ⟨[(0,.row 0),(1,.int .i64 x0),(2,.int .i64 x1),(6,.int .i64 x2)],[.mrow 3 (.int .i64) x3]⟩
def EX (x0 x1 x2 x3:Int) (x4:Bool) (x5:List Int):Option (List Int):=(if 0≤(i64.wrap (x3-1)) then (if (i64.wrap (x3-1))<(x5.length:Int) then (if 0≤x3 then (if x3<(x5.length:Int) then (if 0≤x3 then (if x3<(x5.length:Int) then (let z2:List Int:=x5.set x3.toNat (x5.getD ((i64.wrap (x3-1)).toNat) 0); (if 0≤(i64.wrap (x3-1)) then (if (i64.wrap (x3-1))<(z2.length:Int) then (let z3:List Int:=z2.set ((i64.wrap (x3-1)).toNat) (x5.getD x3.toNat 0); (Bp x0 x1 x2 (i64.wrap (x3-1)) z3)) else none) else none)) else none) else none) else none) else none) else none) else none)
def Cg (x0 x1 x2 x3:Int) (x4:List Int):Option (List Int):=(if (decide (x3>x0))=true then (if 0≤x3 then (if x3<(x4.length:Int) then (if 0≤(i64.wrap (x3-1)) then (if (i64.wrap (x3-1))<(x4.length:Int) then ((Lf (x4.getD x3.toNat 0) (x4.getD ((i64.wrap (x3-1)).toNat) 0)).bind fun y1=>(if y1=true then (EW x0 x1 x2 x3 y1 x4) else (At x0 x1 (i64.wrap (x2+1)) x4))) else none) else none) else none) else none) else (At x0 x1 (i64.wrap (x2+1)) x4))
def Bq (x0 x1 x2:Int) (x3:List Int):Option (List Int):=(if (decide (x2<x1))=true then (Bp x0 x1 x2 x2 x3) else (some x3))
def C9 (x1 x2:Int) (b0:List Int):Option (List Int):=(At x1 x2 (i64.wrap (x1+1)) b0)
theorem JF:t_ EX EW:=jS (by kernel_rfl)
theorem EY:sJ Cg Bp:=lS (by kernel_rfl)
theorem Ch:bl Bq At:=lS (by kernel_rfl)
theorem FY:Qw C9 C8:=cT AQ rfl ⟨rfl,rfl⟩ (by kernel_rfl)
def Y1 (x0 x1:Int):Option Bool:=((Jg x0).bind fun y1=>(if y1=true then ((Jg x1).bind fun y2=>(if (!y2)=false then (some (decide (x0<x1))) else (some true))) else (some (decide (x0<x1)))))
theorem m7:Oh Y1 Lf:=cT LX rfl ⟨rfl,rfl⟩ (by kernel_rfl)
def F8 (x0 x1:Int):Option Int:=cG Ov (AF Cj) (AF Cj) kx ⟨[(0,.int .u64 x0),(2,.int .i64 x1)],[]⟩
def IY (x0 x1:Int):Option Int:=cG Ow (AF Cj) (AF Cj) kx ⟨[(0,.int .u64 x0),(2,.int .i64 x1)],[]⟩
def Ia (x0 x1:Int):Option Int:=(if (decide (x0≥256))=true then (if 8<0 then none else (if 0≤(IntKind.u8.wrap (Int.fdiv x0 (2^(min (8:Int).toNat (IntKind.bits .u64))))) then (if (IntKind.u8.wrap (Int.fdiv x0 (2^(min (8:Int).toNat (IntKind.bits .u64)))))<((⟨#[0,1,2,2,3,3,3,3,4,4,4,4,4,4,4,4,5,5,5,5,5,5,5,5,5,5,5,5,5,5,5,5,6,6,6,6,6,6,6,6,6,6,6,6,6,6,6,6,6,6,6,6,6,6,6,6,6,6,6,6,6,6,6,6,7,7,7,7,7,7,7,7,7,7,7,7,7,7,7,7,7,7,7,7,7,7,7,7,7,7,7,7,7,7,7,7,7,7,7,7,7,7,7,7,7,7,7,7,7,7,7,7,7,7,7,7,7,7,7,7,7,7,7,7,7,7,7,7,8,8,8,8,8,8,8,8,8,8,8,8,8,8,8,8,8,8,8,8,8,8,8,8,8,8,8,8,8,8,8,8,8,8,8,8,8,8,8,8,8,8,8,8,8,8,8,8,8,8,8,8,8,8,8,8,8,8,8,8,8,8,8,8,8,8,8,8,8,8,8,8,8,8,8,8,8,8,8,8,8,8,8,8,8,8,8,8,8,8,8,8,8,8,8,8,8,8,8,8,8,8,8,8,8,8,8,8,8,8,8,8,8,8,8,8,8,8,8,8,8,8,8,8,8,8,8,8]⟩:ByteArray).size:Int) then (some (i64.wrap ((i64.wrap (x1+8))+(i64.wrap (((⟨#[0,1,2,2,3,3,3,3,4,4,4,4,4,4,4,4,5,5,5,5,5,5,5,5,5,5,5,5,5,5,5,5,6,6,6,6,6,6,6,6,6,6,6,6,6,6,6,6,6,6,6,6,6,6,6,6,6,6,6,6,6,6,6,6,7,7,7,7,7,7,7,7,7,7,7,7,7,7,7,7,7,7,7,7,7,7,7,7,7,7,7,7,7,7,7,7,7,7,7,7,7,7,7,7,7,7,7,7,7,7,7,7,7,7,7,7,7,7,7,7,7,7,7,7,7,7,7,7,8,8,8,8,8,8,8,8,8,8,8,8,8,8,8,8,8,8,8,8,8,8,8,8,8,8,8,8,8,8,8,8,8,8,8,8,8,8,8,8,8,8,8,8,8,8,8,8,8,8,8,8,8,8,8,8,8,8,8,8,8,8,8,8,8,8,8,8,8,8,8,8,8,8,8,8,8,8,8,8,8,8,8,8,8,8,8,8,8,8,8,8,8,8,8,8,8,8,8,8,8,8,8,8,8,8,8,8,8,8,8,8,8,8,8,8,8,8,8,8,8,8,8,8,8,8,8,8]⟩:ByteArray).data.toList.getD (IntKind.u8.wrap (Int.fdiv x0 (2^(min (8:Int).toNat (IntKind.bits .u64))))).toNat 0).toNat:Int))))) else none) else none)) else (if 0≤(IntKind.u8.wrap x0) then (if (IntKind.u8.wrap x0)<((⟨#[0,1,2,2,3,3,3,3,4,4,4,4,4,4,4,4,5,5,5,5,5,5,5,5,5,5,5,5,5,5,5,5,6,6,6,6,6,6,6,6,6,6,6,6,6,6,6,6,6,6,6,6,6,6,6,6,6,6,6,6,6,6,6,6,7,7,7,7,7,7,7,7,7,7,7,7,7,7,7,7,7,7,7,7,7,7,7,7,7,7,7,7,7,7,7,7,7,7,7,7,7,7,7,7,7,7,7,7,7,7,7,7,7,7,7,7,7,7,7,7,7,7,7,7,7,7,7,7,8,8,8,8,8,8,8,8,8,8,8,8,8,8,8,8,8,8,8,8,8,8,8,8,8,8,8,8,8,8,8,8,8,8,8,8,8,8,8,8,8,8,8,8,8,8,8,8,8,8,8,8,8,8,8,8,8,8,8,8,8,8,8,8,8,8,8,8,8,8,8,8,8,8,8,8,8,8,8,8,8,8,8,8,8,8,8,8,8,8,8,8,8,8,8,8,8,8,8,8,8,8,8,8,8,8,8,8,8,8,8,8,8,8,8,8,8,8,8,8,8,8,8,8,8,8,8,8]⟩:ByteArray).size:Int) then (some (i64.wrap (x1+(i64.wrap (((⟨#[0,1,2,2,3,3,3,3,4,4,4,4,4,4,4,4,5,5,5,5,5,5,5,5,5,5,5,5,5,5,5,5,6,6,6,6,6,6,6,6,6,6,6,6,6,6,6,6,6,6,6,6,6,6,6,6,6,6,6,6,6,6,6,6,7,7,7,7,7,7,7,7,7,7,7,7,7,7,7,7,7,7,7,7,7,7,7,7,7,7,7,7,7,7,7,7,7,7,7,7,7,7,7,7,7,7,7,7,7,7,7,7,7,7,7,7,7,7,7,7,7,7,7,7,7,7,7,7,8,8,8,8,8,8,8,8,8,8,8,8,8,8,8,8,8,8,8,8,8,8,8,8,8,8,8,8,8,8,8,8,8,8,8,8,8,8,8,8,8,8,8,8,8,8,8,8,8,8,8,8,8,8,8,8,8,8,8,8,8,8,8,8,8,8,8,8,8,8,8,8,8,8,8,8,8,8,8,8,8,8,8,8,8,8,8,8,8,8,8,8,8,8,8,8,8,8,8,8,8,8,8,8,8,8,8,8,8,8,8,8,8,8,8,8,8,8,8,8,8,8,8,8,8,8,8,8]⟩:ByteArray).data.toList.getD (IntKind.u8.wrap x0).toNat 0).toNat:Int))))) else none) else none))
def Nz (x0 x1:Int):Option Int:=(if (decide (x0≥65536))=true then (if 16<0 then none else (F8 (Int.fdiv x0 (2^(min (16:Int).toNat (IntKind.bits .u64)))) (i64.wrap (x1+16)))) else (F8 x0 x1))
def SF (x0:Int):Option Int:=(if (decide (x0≥4294967296))=true then (if 32<0 then none else (IY (Int.fdiv x0 (2^(min (32:Int).toNat (IntKind.bits .u64)))) 32)) else (IY x0 0))
theorem Y2:Oh Ia F8:=jS (by kernel_rfl)
theorem Y3:Oh Nz IY:=jS (by kernel_rfl)
theorem eH:PO SF Lg:=cT Cj rfl ⟨rfl,rfl⟩ (by kernel_rfl)
def EO:=cG BH (AF AH) (AF AH) kx
def EP:=kE 0 [] [0,1,2,8,9] 0 EO kx
def D_:St→Option (RT (BL.outs AH)):=lG CB [] [0,1,2,8,9,10] 0 (AF AH) EP
def B8 (x0:List X) (x1:ByteArray) (x2 x3:Int):Option (Int×Bool):=cG BH (AF AH) (AF AH) kx ⟨[(0,.lst AB x0),(1,.str x1),(2,.fn 160 []),(8,.int .i64 x2),(9,.int .i64 x3)],[]⟩
def AK (x0:List X) (x1:ByteArray) (x2 x3 x4:Int):Option (Int×Bool):=D_ ⟨[(0,.lst AB x0),(1,.str x1),(2,.fn 160 []),(8,.int .i64 x2),(9,.int .i64 x3),(10,.int .i64 x4)],[]⟩
def B9 (x0:List X) (x1:ByteArray) (x2 x3:Int):Option (Int×Bool):=(if (decide (x3<x2))=true then (if 0≤x3 then (if x3<(x0.length:Int) then ((Ip (x0.getD x3.toNat (ByteArray.empty,ByteArray.empty,0)) x1).bind fun y2=>(some (x3,(y2==0)))) else none) else none) else (some (x3,false)))
def BF (x0:List X) (x1:ByteArray) (x2 x3 x4:Int):Option (Int×Bool):=(if (decide (x3<x4))=true then (if 1<0 then none else (if 0≤(i64.wrap (Int.fdiv (IntKind.u64.wrap (i64.wrap (x3+x4))) (2^(min (1:Int).toNat (IntKind.bits .u64))))) then (if (i64.wrap (Int.fdiv (IntKind.u64.wrap (i64.wrap (x3+x4))) (2^(min (1:Int).toNat (IntKind.bits .u64)))))<(x0.length:Int) then ((Ip (x0.getD (i64.wrap (Int.fdiv (IntKind.u64.wrap (i64.wrap (x3+x4))) (2^(min (1:Int).toNat (IntKind.bits .u64))))).toNat (ByteArray.empty,ByteArray.empty,0)) x1).bind fun y1=>(if (decide (y1<0))=true then (AK x0 x1 x2 (i64.wrap ((i64.wrap (Int.fdiv (IntKind.u64.wrap (i64.wrap (x3+x4))) (2^(min (1:Int).toNat (IntKind.bits .u64)))))+1)) x4) else (AK x0 x1 x2 x3 (i64.wrap (Int.fdiv (IntKind.u64.wrap (i64.wrap (x3+x4))) (2^(min (1:Int).toNat (IntKind.bits .u64)))))))) else none) else none)) else (B8 x0 x1 x2 x3))
def CL (x0:List X) (x1:ByteArray) (x2:Unit):Option (Int×Bool):=(AK x0 x1 (x0.length:Int) 0 (x0.length:Int))
theorem EA:bl B9 B8:=jS (by kernel_rfl)
theorem B_:sJ BF AK:=lS (by kernel_rfl)
theorem Ek:Qw CL BO:=cT AH rfl ⟨rfl,rfl⟩ (by kernel_rfl)
def Ty (x0:X) (x1:ByteArray):Option Int:=((Li x0.1 x1).bind fun y1=>(some y1))
theorem gx:Oh Ty Ip:=cT Im rfl ⟨rfl,rfl⟩ (by kernel_rfl)
def W_ (x0:Int):Option Bool:=(some (x0 != x0))
theorem jt:PO W_ Jg:=cT Jf rfl ⟨rfl,rfl⟩ (by kernel_rfl)
end
end Go.Proofs.YtokiohnjegbnpaaGreat.Core


namespace Go.Proofs.YtokiohnjegbnpaaGreat.Core
open Go
set_option linter.unusedVariables false
theorem AY {n:Int} (h:-9223372036854775808≤n∧n≤9223372036854775807):IntKind.i64.wrap n=n:=IntWalk.i64_in n h
theorem AN {i:Nat} (h:i<9223372036854775807):IntKind.i64.wrap ((i:Int)+1)=((i+1:Nat):Int):=by
 rw [AY (by omega)]
 omega
theorem GI {P:Nat→Prop} {n:Nat} (h0:P n) (h:∀ i,i<n→P (i+1)→P i):∀ i,i≤n→P i:=by
 intro i hi
 induction hk:n-i generalizing i with
 | zero =>
  have:i=n:=by omega
  subst this
  exact h0
 | succ k ih=>exact h i (by omega) (ih (i+1) (by omega) (by omega))
theorem AR {α:Type} {xs:List α} {i:Nat} {d:α} (h:i<xs.length):xs.getD i d=xs[i]:=by
 simp [List.getD,h]
end Go.Proofs.YtokiohnjegbnpaaGreat.Core

namespace Go.Proofs.YtokiohnjegbnpaaGreat.Core
open Go
set_option linter.unusedVariables false
theorem BI (a b c:Int):AW a b c=some (decide (b≤a)&&decide (a≤c)):=qF (by
 unfold dO
 by_cases h:b≤a<;>simp [h])
theorem An (a b c:Int):Ae a b c=some (decide (b≤a)&&decide (a≤c)):=mV (by
 unfold YU
 by_cases h:b≤a<;>simp [h])
def Kf (x:Int×ByteArray×ByteArray×Int×Int×Int×Int×Int×ByteArray):Int :=
 if (decide ((0:Int)≤x.2.2.2.2.2.2.1)&&decide (x.2.2.2.2.2.2.1≤9))&&(decide ((0:Int)≤x.2.2.2.2.2.2.2.1)&&decide (x.2.2.2.2.2.2.2.1≤999)) then IntKind.i64.wrap (IntKind.i64.wrap (1000*x.2.2.2.2.2.2.1)+x.2.2.2.2.2.2.2.1) else 0
theorem XA x:LY x=some (Kf x):=qD (by
 unfold dM Kf
 simp only [BI,Option.bind_some]
 generalize (decide ((0:Int)≤x.2.2.2.2.2.2.1)&&decide (x.2.2.2.2.2.2.1≤9))=a
 generalize (decide ((0:Int)≤x.2.2.2.2.2.2.2.1)&&decide (x.2.2.2.2.2.2.2.1≤999))=b
 cases a<;>cases b<;>simp)
theorem XB x:G4 x=some (Kf x):=p9 (by
 unfold c_ Kf
 simp only [An,Option.bind_some]
 generalize (decide ((0:Int)≤x.2.2.2.2.2.2.1)&&decide (x.2.2.2.2.2.2.1≤9))=a
 generalize (decide ((0:Int)≤x.2.2.2.2.2.2.2.1)&&decide (x.2.2.2.2.2.2.2.1≤999))=b
 cases a<;>cases b<;>simp)
end Go.Proofs.YtokiohnjegbnpaaGreat.Core

namespace Go.Proofs.YtokiohnjegbnpaaGreat.Core
open Go
set_option linter.unusedVariables false
def BC (x:List (ByteArray×ByteArray×Int)) (k:ByteArray):ByteArray×ByteArray×Int :=
 (x.find? fun a=>a.1.toList==k.toList).getD (ByteArray.empty,ByteArray.empty,0)
theorem BY {α:Type} {x:List α} {i:Nat} (h:i<x.length):x.drop i=x[i]::x.drop (i+1):=List.drop_eq_getElem_cons h
theorem Tz (x k) (h:x.length≤maxLen):NS x k=some (BC x k):=oA (by
 have hm:x.length≤9223372036854775807:=h
 unfold aG
 exact GI (n:=x.length) (P:=fun i=>∀ z,It x k (i:Int) z=some (BC (x.drop i) k)) (fun z=>Ti (by
  unfold M3
  rw [if_neg (by simp),List.drop_length]
  rfl)) (fun i hi ih z=>Ti (by
  unfold M3
  simp only [show ((i:Int)<(x.length:Int)) from by omega,decide_true,if_true,show (0:Int)≤(i:Int) from by omega,Int.toNat_natCast,AR hi,AN (show i<9223372036854775807 by omega)]
  rw [BY hi]
  by_cases hk:(x[i].1.toList==k.toList)=true
  ·rw [if_pos hk]
   unfold BC
   rw [List.find?_cons,hk]
   rfl
  ·rw [if_neg hk,ih]
   unfold BC
   rw [List.find?_cons,Bool.eq_false_iff.2 hk])) 0 (by omega) _)
theorem T0 (x k) (h:x.length≤maxLen):NR x k=some (BC x k):=n_ (by
 have hm:x.length≤9223372036854775807:=h
 unfold aF
 exact GI (n:=x.length) (P:=fun i=>∀ z,Is k x (x.length:Int) (i:Int) z=some (BC (x.drop i) k)) (fun z=>Te (by
  unfold M2
  rw [if_neg (by simp),List.drop_length]
  rfl)) (fun i hi ih z=>Te (by
  unfold M2
  simp only [show ((i:Int)<(x.length:Int)) from by omega,decide_true,if_true,show (0:Int)≤(i:Int) from by omega,Int.toNat_natCast,AR hi,AN (show i<9223372036854775807 by omega)]
  rw [BY hi]
  by_cases hk:(x[i].1.toList==k.toList)=true
  ·rw [if_pos hk]
   unfold BC
   rw [List.find?_cons,hk]
   rfl
  ·rw [if_neg hk,ih]
   unfold BC
   rw [List.find?_cons,Bool.eq_false_iff.2 hk])) 0 (by omega) _)
end Go.Proofs.YtokiohnjegbnpaaGreat.Core

namespace Go.Proofs.YtokiohnjegbnpaaGreat.Core
open Go
set_option linter.unusedVariables false
theorem Od k:PY k=some (decide (1≤(k.size:Int))&&decide ((k.size:Int)≤12)):=qH (by simp [dg,An])
theorem E5 n:Ds n=some (decide (1≤n)&&decide (n≤6)):=n6 (by simp [aC,An])
def rk (v:ByteArray):Bool:=v.toList==(⟨#[]⟩:ByteArray).toList
theorem m8 (v:ByteArray):(v.toList==(⟨#[]⟩:ByteArray).toList)=rk v:=rfl
def m9 (op:Int) (k v:ByteArray):Bool :=
 (decide (op=1)||decide (op=2))&&(decide (1≤(k.size:Int))&&decide ((k.size:Int)≤12))&&decide ((v.size:Int)≤20)&&(decide (op=1)||rk v)
def NE (x:Int×Int×Int×Int×ByteArray×ByteArray):Bool :=
 decide (1≤x.1)&&decide (x.1≤6)&&(decide (1≤x.2.1)&&decide (x.2.1≤6))&&decide (0≤x.2.2.1) &&
  (if x.1=1 then m9 x.2.2.2.1 x.2.2.2.2.1 x.2.2.2.2.2 else decide (x.2.2.2.1=0)&&rk x.2.2.2.2.1&&rk x.2.2.2.2.2)
theorem ju a k v:LZ a 0 k v=some (m9 a k v):=da (by
 have w:∀ b,Jj a v b=some (decide (a=1)||rk v):=fun b=>Wh (by
  unfold OU
  rw [m8]
  by_cases h:a=1<;>simp [h])
 unfold Us m9
 have uE:decide ((v.size:Int)>20)=!decide ((v.size:Int)≤20):=by
  by_cases h:(v.size:Int)≤20<;>simp [h]
  omega
 simp only [uE,An,Od,Option.bind_some,w]
 by_cases h1:a=1
 ·by_cases h2:1≤(k.size:Int)<;>by_cases h3:(k.size:Int)≤12<;>by_cases h4:(v.size:Int)≤20<;>simp [h1,h2,h3,h4]
 ·by_cases h1b:a=2
  ·by_cases h2:1≤(k.size:Int)<;>by_cases h3:(k.size:Int)≤12<;>by_cases h4:(v.size:Int)≤20<;>simp [h1b,h2,h3,h4]
  ·have:¬ (1≤a∧a≤2):=by omega
   by_cases h5:1≤a
   ·have:¬ a≤2:=by omega
    simp [h1,h1b,this]
   ·simp [h1,h1b,h5])
theorem eI x:P6 x=some (NE x):=mU (by
 have w:∀ b,Lq b x=some (if x.1=1 then m9 x.2.2.2.1 x.2.2.2.2.1 x.2.2.2.2.2 else decide (x.2.2.2.1=0)&&rk x.2.2.2.2.1&&rk x.2.2.2.2.2):=fun b=>dH (by
  unfold Rm
  simp only [m8]
  by_cases h:x.1=1
  ·simp [h,ju]
  ·by_cases h2:x.2.2.2.1=0<;>rcases Bool.eq_false_or_eq_true (rk x.2.2.2.2.1) with h3 | h3<;>simp [h,h2,h3])
 unfold YT NE
 simp only [An,E5,Option.bind_some,w]
 by_cases h1:1≤x.1<;>by_cases h2:x.1≤6<;>by_cases h3:1≤x.2.1<;>by_cases h4:x.2.1≤6<;>by_cases h5:0≤x.2.2.1<;>simp [h1,h2,h3,h4,h5]<;>omega)
end Go.Proofs.YtokiohnjegbnpaaGreat.Core

namespace Go.Proofs.YtokiohnjegbnpaaGreat.Core
open Go
set_option linter.unusedVariables false
def Iy (a:ByteArray×ByteArray×Int):Bool:=(decide (1≤(a.1.size:Int))&&decide ((a.1.size:Int)≤12))&&decide ((a.2.1.size:Int)≤20)&&(decide (1≤a.2.2)&&decide (a.2.2≤1000000000))
def B4 (x:List (ByteArray×ByteArray×Int)) (i:Nat):Nat→Bool
 | 0=>decide ((x.length:Int)≤12)
 | k+1=>Iy (x.getD i (ByteArray.empty,ByteArray.empty,0))&&(decide (i=0)||Op.bytesLess (x.getD (i-1) (ByteArray.empty,ByteArray.empty,0)).1.toList (x.getD i (ByteArray.empty,ByteArray.empty,0)).1.toList)&&B4 x (i+1) k
theorem uE (n:Int):decide (n>20)=!decide (n≤20):=by
 by_cases h:n≤20<;>simp [h]
 omega
theorem ZS {i:Nat} (h:i<9223372036854775807) (h0:0<i):IntKind.i64.wrap ((i:Int)-1)=((i-1:Nat):Int):=by
 rw [AY (by omega)]
 omega
theorem H_ (x) (h:x.length≤maxLen):DI x=some (B4 x 0 x.length):=m6 (by
 have hm:x.length≤9223372036854775807:=h
 unfold Yz
 have:=GI (n:=x.length) (P:=fun i=>F7 x (i:Int)=some (B4 x i (x.length-i))) (SD (by
  unfold MH
  rw [if_neg (by simp),Nat.sub_self]
  rfl)) (fun i hi ih=>SD (by
  unfold MH
  have e:x.length-i=(x.length-(i+1))+1:=by omega
  simp only [show ((i:Int)<(x.length:Int)) from by omega,decide_true,if_true,show (0:Int)≤(i:Int) from by omega,Int.toNat_natCast,AN (show i<9223372036854775807 by omega),ih,BI,Option.bind_some,uE]
  rw [e,B4,Iy]
  generalize (decide (1≤((x.getD i (ByteArray.empty,ByteArray.empty,0)).1.size:Int))&&decide (((x.getD i (ByteArray.empty,ByteArray.empty,0)).1.size:Int)≤12))=a
  generalize decide (((x.getD i (ByteArray.empty,ByteArray.empty,0)).2.1.size:Int)≤20)=b
  generalize (decide (1≤(x.getD i (ByteArray.empty,ByteArray.empty,0)).2.2)&&decide ((x.getD i (ByteArray.empty,ByteArray.empty,0)).2.2≤1000000000))=c
  cases a
  ·simp
  cases b
  ·simp
  cases c
  ·simp
  by_cases h0:0<i
  ·rw [ZS (by omega) h0]
   simp only [Int.toNat_natCast,show ((0:Int)≤((i-1:Nat):Int)) from by omega,show (((i-1:Nat):Int)<(x.length:Int)) from by omega,if_true]
   rcases Bool.eq_false_or_eq_true (Op.bytesLess (x.getD (i-1) (ByteArray.empty,ByteArray.empty,0)).1.toList (x.getD i (ByteArray.empty,ByteArray.empty,0)).1.toList) with hb | hb<;>simp only [hb]<;>simp [h0,show i≠0 by omega]
  ·have:i=0:=by omega
   subst this
   simp)) 0 (by omega)
 simpa using this)
theorem MI (x) (h:x.length≤maxLen) (hl:∀ a b:List UInt8,(Op.bytesLess a b||a==b)=!Op.bytesLess b a):FA x=some (B4 x 0 x.length):=mW (by
 have hm:x.length≤9223372036854775807:=h
 unfold YX
 have:=GI (n:=x.length) (P:=fun i=>Fz x x (x.length:Int) (i:Int)=some (B4 x i (x.length-i))) (Rn (by
  unfold Ls
  rw [if_neg (by simp),Nat.sub_self]
  rfl)) (fun i hi ih=>Rn (by
  unfold Ls
  have e:x.length-i=(x.length-(i+1))+1:=by omega
  simp only [show ((i:Int)<(x.length:Int)) from by omega,decide_true,if_true,show (0:Int)≤(i:Int) from by omega,Int.toNat_natCast,AN (show i<9223372036854775807 by omega),ih,An,Od,Option.bind_some,uE,hl]
  rw [e,B4,Iy]
  generalize (decide (1≤((x.getD i (ByteArray.empty,ByteArray.empty,0)).1.size:Int))&&decide (((x.getD i (ByteArray.empty,ByteArray.empty,0)).1.size:Int)≤12))=a
  generalize decide (((x.getD i (ByteArray.empty,ByteArray.empty,0)).2.1.size:Int)≤20)=b
  generalize (decide (1≤(x.getD i (ByteArray.empty,ByteArray.empty,0)).2.2)&&decide ((x.getD i (ByteArray.empty,ByteArray.empty,0)).2.2≤1000000000))=c
  cases a
  ·simp
  cases b
  ·simp
  cases c
  ·simp
  by_cases h0:0<i
  ·rw [ZS (by omega) h0]
   simp only [Int.toNat_natCast,show ((0:Int)≤((i-1:Nat):Int)) from by omega,show (((i-1:Nat):Int)<(x.length:Int)) from by omega,if_true]
   rcases Bool.eq_false_or_eq_true (Op.bytesLess (x.getD (i-1) (ByteArray.empty,ByteArray.empty,0)).1.toList (x.getD i (ByteArray.empty,ByteArray.empty,0)).1.toList) with hb | hb<;>simp only [hb]<;>simp [h0,show i≠0 by omega]
  ·have:i=0:=by omega
   subst this
   simp)) 0 (by omega)
 simpa using this)
theorem N0:∀ a b:List UInt8,(Op.bytesLess a b||a==b)=!Op.bytesLess b a
 | [],[]=>rfl
 | [],_::_=>rfl
 | _::_,[]=>rfl
 | a::l,b::m=>by
  have ih:=N0 l m
  simp only [Op.bytesLess]
  by_cases h1:a<b
  ·have h2:¬ b<a:=by exact UInt8.not_lt.2 (UInt8.le_of_lt h1)
   have h3:¬ b=a:=fun h=>by subst h; exact absurd h1 (UInt8.lt_irrefl _)
   simp [h1,h2,h3]
  ·by_cases h2:b<a
   ·have h3:¬ a=b:=fun h=>by subst h; exact absurd h2 (UInt8.lt_irrefl _)
    simp [h1,h2,h3]
   ·have h3:a=b:=UInt8.le_antisymm (UInt8.not_lt.1 h2) (UInt8.not_lt.1 h1)
    subst h3
    simpa [h1] using ih
end Go.Proofs.YtokiohnjegbnpaaGreat.Core

namespace Go.Proofs.YtokiohnjegbnpaaGreat.Core
open Go
set_option linter.unusedVariables false
abbrev AL:Type:=ByteArray×ByteArray×Int
abbrev m_:AL:=(ByteArray.empty,ByteArray.empty,(0:Int))
theorem ZT:∀ a:List UInt8,Op.bytesLess a a=false
 | []=>rfl
 | a::l=>by simp [Op.bytesLess,ZT l,UInt8.lt_irrefl]
theorem Y4:∀ {a b c:List UInt8},Op.bytesLess a b=true→Op.bytesLess b c=true→Op.bytesLess a c=true
 | _,[],_,h,_=>by cases ‹List UInt8› <;> simp [Op.bytesLess] at h
 | _,_::_,[],_,h=>by simp [Op.bytesLess] at h
 | [],_::_,_::_,_,_=>rfl
 | a::x,b::y,c::z,h,g=>by
  simp only [Op.bytesLess,Bool.or_eq_true,decide_eq_true_eq,Bool.and_eq_true,beq_iff_eq] at h g ⊢
  rcases h with h | ⟨rfl,h⟩
  ·rcases g with g | ⟨rfl,g⟩
   ·exact .inl (UInt8.lt_trans h g)
   ·exact .inl h
  ·rcases g with g | ⟨rfl,g⟩
   ·exact .inl g
   ·exact .inr ⟨rfl,Y4 h g⟩
theorem nA:∀ a b:List UInt8,decide (Lib.compareBytes a b<0)=Op.bytesLess a b∧(Lib.compareBytes a b==0)=(a==b)
 | [],[]=>⟨rfl,rfl⟩
 | [],_::_=>⟨rfl,rfl⟩
 | _::_,[]=>⟨rfl,rfl⟩
 | a::l,b::m=>by
  have ih:=nA l m
  simp only [Lib.compareBytes,Op.bytesLess]
  by_cases h1:a<b
  ·have h3:¬ a=b:=fun h=>by subst h; exact absurd h1 (UInt8.lt_irrefl _)
   simp [h1,h3]
  ·by_cases h2:b<a
   ·have h3:¬ a=b:=fun h=>by subst h; exact absurd h2 (UInt8.lt_irrefl _)
    simp [h1,h2,h3]
   ·have h3:a=b:=UInt8.le_antisymm (UInt8.not_lt.1 h2) (UInt8.not_lt.1 h1)
    subst h3
    simpa [h1] using ih
theorem PF (a:AL) (k:ByteArray):Ip a k=some (Lib.compareBytes a.1.toList k.toList):=gx (by
 unfold Ty
 rw [cn,ByteArray.toList_eq,ByteArray.toList_eq]
 rfl)
def T1 (x:List AL) (i:Nat) (k:ByteArray):Bool:=match x[i]? with
 | some b=>b.1.toList==k.toList
 | none=>false
def Sf (k:ByteArray) (b:AL):Bool:=Op.bytesLess b.1.toList k.toList
def Jo (x:List AL):Prop:=∀ a b (ha:a<x.length) (hb:b<x.length),a<b→Op.bytesLess x[a].1.toList x[b].1.toList=true
def iR (x:List AL) (k:ByteArray) (i j:Nat):Prop:=∀ a (ha:a<x.length),(a<i→Sf k x[a]=true)∧(j≤a→Sf k x[a]=false)
theorem yE {i j:Nat} (h:i+j≤137438953472):IntKind.i64.wrap (Int.fdiv (IntKind.u64.wrap (IntKind.i64.wrap ((i:Int)+(j:Int)))) (2^(min (1:Int).toNat (IntKind.bits .u64))))=(((i+j) / 2:Nat):Int):=by
 have e1:IntKind.i64.wrap ((i:Int)+(j:Int))=((i+j:Nat):Int):=by rw [AY (by omega)]; omega
 have e2:IntKind.u64.wrap ((i+j:Nat):Int)=((i+j:Nat):Int):=by
  simp only [IntKind.wrap,IntKind.bits,IntKind.signed]
  simp
  omega
 have e3:(2:Int)^(min (1:Int).toNat (IntKind.bits .u64))=2:=by decide
 rw [e1,e2,e3,Int.fdiv_eq_ediv_of_nonneg _ (by omega)]
 rw [AY (by omega)]
 omega
theorem rR (x:List AL) (k:ByteArray) (hx:x.length≤68719476736):∀ (m i j:Nat),j-i≤m→i≤j→j≤x.length →
  ∃ r:Nat,i≤r∧r≤j∧AK x k (x.length:Int) (i:Int) (j:Int)=some ((r:Int),T1 x r k)∧(Jo x→iR x k i j→iR x k r r):=by
 intro m
 induction m with
 | zero =>
  intro i j hm hij hj
  have:i=j:=by omega
  subst this
  refine ⟨i,Nat.le_refl _,Nat.le_refl _,B_ ?_,fun _ h=>h⟩
  unfold BF
  rw [if_neg (by simp)]
  refine EA ?_
  unfold B9 T1
  by_cases h:i<x.length
  ·simp only [show ((i:Int)<(x.length:Int)) from by omega,decide_true,if_true,show (0:Int)≤(i:Int) from by omega,Int.toNat_natCast,AR h,PF,Option.bind_some,(nA _ _).2,List.getElem?_eq_getElem h]
  ·rw [if_neg (by simp; omega),List.getElem?_eq_none (by omega)]
 | succ m ih =>
  intro i j hm hij hj
  by_cases hlt:i<j
  ·have hmid:i≤(i+j) / 2∧(i+j) / 2<j:=by omega
   generalize hh:(i+j) / 2=h at hmid
   have hb:h<x.length:=by omega
   have step:∀ r,(if Sf k x[h]=true then AK x k (x.length:Int) ((h+1:Nat):Int) (j:Int) else AK x k (x.length:Int) (i:Int) (h:Int))=some r→AK x k (x.length:Int) (i:Int) (j:Int)=some r:=fun r hr=>B_ (by
    unfold BF
    simp only [show ((i:Int)<(j:Int)) from by omega,decide_true,if_true,yE (show i+j≤137438953472 by omega),hh,show ¬ ((1:Int)<0) from by decide,if_false,show ((0:Int)≤(h:Int)) from by omega,show ((h:Int)<(x.length:Int)) from by omega,Int.toNat_natCast,AR hb,PF,Option.bind_some,(nA _ _).1,AN (show h<9223372036854775807 by omega)]
    exact hr)
   cases hl:Sf k x[h] with
   | true =>
    obtain ⟨r,h1,h2,h3,h4⟩:=ih (h+1) j (by omega) (by omega) hj
    refine ⟨r,by omega,h2,step _ (by rw [hl]; exact h3),fun ho hc=>h4 ho fun a ha=>⟨fun hlt=>?_,(hc a ha).2⟩⟩
    by_cases e:a=h
    ·subst e; exact hl
    ·exact Y4 (ho a h ha hb (by omega)) hl
   | false =>
    obtain ⟨r,h1,h2,h3,h4⟩:=ih i h (by omega) hmid.1 (by omega)
    refine ⟨r,h1,by omega,step _ (by rw [hl]; exact h3),fun ho hc=>h4 ho fun a ha=>⟨(hc a ha).1,fun hle=>?_⟩⟩
    by_cases e:a=h
    ·subst e; exact hl
    ·cases q:Sf k x[a] with
     | false=>rfl
     | true =>
      have:=Y4 (ho h a hb ha (by omega)) q
      rw [show Op.bytesLess x[h].1.toList k.toList=false from hl] at this
      cases this
  ·have:i=j:=by omega
   subst this
   exact ih i i (by omega) (Nat.le_refl _) hj
theorem uF (x:List AL) (k:ByteArray) (hx:x.length≤68719476736):∃ r:Nat,r≤x.length∧BO x k ()=some ((r:Int),T1 x r k)∧(Jo x→iR x k r r):=by
 obtain ⟨r,_,h2,h3,h4⟩:=rR x k hx x.length 0 x.length (by omega) (by omega) (Nat.le_refl _)
 refine ⟨r,h2,Ek (by unfold CL; exact h3),fun ho=>h4 ho fun a ha=>⟨fun h=>by omega,fun h=>by omega⟩⟩
theorem Y5 {x:List AL}:∀ (m i:Nat),B4 x i m=true→∀ a,i≤a→a<i+m→a≠0→Op.bytesLess (x.getD (a-1) m_).1.toList (x.getD a m_).1.toList=true
 | 0,i,_,a,h1,h2,_=>by omega
 | m+1,i,h,a,h1,h2,h0=>by
  simp only [B4,Bool.and_eq_true,Bool.or_eq_true,decide_eq_true_eq] at h
  obtain ⟨⟨_,h3⟩,h4⟩:=h
  by_cases e:a=i
  ·subst e
   exact h3.resolve_left h0
  ·exact Y5 m (i+1) h4 a (by omega) (by omega) h0
theorem Y6 {x:List AL} (h:B4 x 0 x.length=true):Jo x:=by
 have st:=Y5 _ _ h
 have:∀ d a (ha:a+d+1<x.length),Op.bytesLess (x.getD a m_).1.toList (x.getD (a+d+1) m_).1.toList=true:=by
  intro d
  induction d with
  | zero=>intro a ha; exact st (a+1) (by omega) (by omega) (by omega)
  | succ d ih =>
   intro a ha
   exact Y4 (ih a (by omega)) (st (a+(d+1)+1) (by omega) (by omega) (by omega))
 intro a b ha hb hab
 have:=this (b-a-1) a (by omega)
 rw [show a+(b-a-1)+1=b by omega,AR ha,AR hb] at this
 exact this
theorem rS {x:List AL} {k:ByteArray} {r:Nat} (hr:r≤x.length) (h:iR x k r r):x.take r=x.filter (Sf k)∧x.drop r=x.filter (fun b=>!Sf k b):=by
 have e1:(x.take r).filter (Sf k)=x.take r:=List.filter_eq_self.2 fun b hb=>by
  obtain ⟨a,ha,rfl⟩:=List.getElem_of_mem hb
  rw [List.length_take] at ha
  rw [List.getElem_take]
  exact (h a (by omega)).1 (by omega)
 have e2:(x.drop r).filter (Sf k)=[]:=List.filter_eq_nil_iff.2 fun b hb=>by
  obtain ⟨a,ha,rfl⟩:=List.getElem_of_mem hb
  rw [List.length_drop] at ha
  rw [List.getElem_drop]
  have:=(h (r+a) (by omega)).2 (by omega)
  simp [this]
 have e3:(x.take r).filter (fun b=>!Sf k b)=[]:=List.filter_eq_nil_iff.2 fun b hb=>by
  obtain ⟨a,ha,rfl⟩:=List.getElem_of_mem hb
  rw [List.length_take] at ha
  rw [List.getElem_take]
  have:=(h a (by omega)).1 (by omega)
  simp [this]
 have e4:(x.drop r).filter (fun b=>!Sf k b)=x.drop r:=List.filter_eq_self.2 fun b hb=>by
  obtain ⟨a,ha,rfl⟩:=List.getElem_of_mem hb
  rw [List.length_drop] at ha
  rw [List.getElem_drop]
  have:=(h (r+a) (by omega)).2 (by omega)
  simp [this]
 have f1:x.filter (Sf k)=(x.take r).filter (Sf k)++(x.drop r).filter (Sf k):=by rw [← List.filter_append,List.take_append_drop]
 have f2:x.filter (fun b=>!Sf k b)=(x.take r).filter (fun b=>!Sf k b)++(x.drop r).filter (fun b=>!Sf k b):=by rw [← List.filter_append,List.take_append_drop]
 rw [f1,f2,e1,e2,e3,e4]
 simp
theorem sP {x:List AL} {k:ByteArray} {r:Nat} (ho:Jo x) (h:iR x k r r) (j:Nat) (hj:j<x.length) (e:x[j].1.toList=k.toList):j=r:=by
 rcases Nat.lt_trichotomy j r with g | g | g
 ·have:=(h j hj).1 g
  simp only [Sf,e,ZT] at this
  cases this
 ·exact g
 ·have h1:=ho r j (by omega) hj g
  have h2:=(h r (by omega)).2 (Nat.le_refl _)
  rw [e] at h1
  rw [show Sf k x[r]=true from h1] at h2
  cases h2
def XC (x:List AL) (a:AL):Bool:=x.any fun b=>(b.1.toList==a.1.toList)&&decide (b.2.2≥a.2.2)
def Oe (k:ByteArray) (b:AL):Bool:=!(Op.bytesLess b.1.toList k.toList||(b.1.toList==k.toList))
def Qm (x:List AL) (a:AL):List AL:=x.filter (Sf a.1)++[a]++x.filter (Oe a.1)
def Ao (x:List AL):Bool:=B4 x 0 x.length
def Ai (x:List AL) (a:AL):List AL:=if XC x a=true then x else if Ao x=true then (if Ao (Qm x a)=true then Qm x a else x) else x
theorem sQ {x:List AL} {k:ByteArray} {r:Nat} (hr:r≤x.length) (h:iR x k r r):x.filter (Oe k)=(x.drop r).filter fun b=>!(b.1.toList==k.toList):=by
 rw [(rS hr h).2,List.filter_filter]
 congr 1
 funext b
 simp only [Oe,Sf,Bool.not_or]
 exact Bool.and_comm _ _
theorem MJ (x:List AL) (a:AL) (hx:x.length≤34359738367):IR x a=some (Ai x a):=mx (by
 have J4:∀ same out:List AL,out.length≤maxLen→MB x a same out=some (if Ao x=true then (if Ao out=true then out else same) else same):=fun same out ho=>eA (by
  unfold R8 Ao
  rw [H_ x (by unfold maxLen; omega),H_ out ho]
  cases B4 x 0 x.length<;>cases B4 out 0 out.length<;>simp)
 have L3:∀ same out:List AL,out.length≤x.length+1→EG x ((0:Nat):Int) a same out=some (if Ao x=true then (if Ao (out++(x.drop 0).filter (Oe a.1))=true then out++(x.drop 0).filter (Oe a.1) else same) else same):=by
  intro same out ho
  refine GI (n:=x.length) (P:=fun i=>∀ out:List AL,out.length≤x.length+1+i→EG x (i:Int) a same out=some (if Ao x=true then (if Ao (out++(x.drop i).filter (Oe a.1))=true then out++(x.drop i).filter (Oe a.1) else same) else same)) (fun out ho=>R_ ?_) (fun i hi ih out ho=>R_ ?_) 0 (by omega) out ho
  ·unfold MD
   rw [if_neg (by simp),J4 same out (by unfold maxLen; omega)]
   simp
  ·unfold MD
   simp only [show ((i:Int)<(x.length:Int)) from by omega,decide_true,if_true,show (0:Int)≤(i:Int) from by omega,Int.toNat_natCast,AR hi,AN (show i<9223372036854775807 by omega)]
   rw [BY hi,List.filter_cons]
   change (if Oe a.1 x[i]=true then _ else _)=_
   by_cases hh:Oe a.1 x[i]=true
   ·rw [if_pos hh,if_pos (by simp; omega),ih _ (by simp; omega),if_pos hh,List.append_assoc]
    rfl
   ·rw [if_neg hh,ih _ (by omega),if_neg hh]
 have J2:∀ same out:List AL,out.length≤x.length→MC x a same out=some (if Ao x=true then (if Ao (out++[a]++x.filter (Oe a.1))=true then out++[a]++x.filter (Oe a.1) else same) else same):=fun same out ho=>eB (by
  unfold R9
  rw [if_pos (by simp; omega)]
  have:=L3 same (out++[a]) (by simp; omega)
  simpa using this)
 have L0:∀ same:List AL,EH x ((0:Nat):Int) a same []=some (if XC (x.drop 0) a=true then same else if Ao x=true then (if Ao (([]++(x.drop 0).filter (Sf a.1))++[a]++x.filter (Oe a.1))=true then ([]++(x.drop 0).filter (Sf a.1))++[a]++x.filter (Oe a.1) else same) else same):=by
  intro same
  refine GI (n:=x.length) (P:=fun i=>∀ out:List AL,out.length≤i→EH x (i:Int) a same out=some (if XC (x.drop i) a=true then same else if Ao x=true then (if Ao ((out++(x.drop i).filter (Sf a.1))++[a]++x.filter (Oe a.1))=true then (out++(x.drop i).filter (Sf a.1))++[a]++x.filter (Oe a.1) else same) else same)) (fun out ho=>SA ?_) (fun i hi ih out ho=>SA ?_) 0 (by omega) [] (by simp)
  ·unfold ME
   rw [if_neg (by simp),J2 same out ho]
   simp [XC]
  ·unfold ME
   simp only [show ((i:Int)<(x.length:Int)) from by omega,decide_true,if_true,show (0:Int)≤(i:Int) from by omega,Int.toNat_natCast,AR hi]
   have J1:∀ out:List AL,out.length≤i+1→H6 x (i:Int) a same out=some (if XC (x.drop i) a=true then same else if Ao x=true then (if Ao ((out++(x.drop (i+1)).filter (Sf a.1))++[a]++x.filter (Oe a.1))=true then (out++(x.drop (i+1)).filter (Sf a.1))++[a]++x.filter (Oe a.1) else same) else same):=fun out ho=>d_ (by
    unfold R7
    simp only [show ((i:Int)<(x.length:Int)) from by omega,decide_true,if_true,show (0:Int)≤(i:Int) from by omega,Int.toNat_natCast,AR hi,AN (show i<9223372036854775807 by omega),ih out ho]
    rw [BY hi]
    rw [show XC (x[i]::x.drop (i+1)) a=(((x[i].1.toList==a.1.toList)&&decide (x[i].2.2≥a.2.2))||XC (x.drop (i+1)) a) from List.any_cons]
    generalize (x[i].1.toList==a.1.toList)=p
    generalize decide (x[i].2.2≥a.2.2)=q
    cases p<;>cases q<;>simp)
   rw [BY hi,List.filter_cons]
   change (if Sf a.1 x[i]=true then _ else _)=_
   rw [BY hi] at J1
   by_cases hh:Sf a.1 x[i]=true
   ·rw [if_pos hh,if_pos (by simp; omega),J1 _ (by simp; omega),if_pos hh]
    simp only [List.append_assoc,List.cons_append,List.nil_append]
   ·rw [if_neg hh,J1 _ (by omega),if_neg hh]
 unfold Yt
 rw [if_pos (by simp; omega)]
 have:=L0 ([]++x)
 simpa [Ai,Qm] using this)
theorem vQ {x:List AL} {a:AL} {r:Nat} (hr:r≤x.length) (ho:Jo x) (h:iR x a.1 r r):XC x a=(T1 x r a.1&&decide ((x.getD r m_).2.2≥a.2.2)):=by
 unfold XC T1
 by_cases hl:r<x.length
 ·rw [List.getElem?_eq_getElem hl,AR hl]
  rw [Bool.eq_iff_iff,List.any_eq_true]
  simp only [Bool.and_eq_true,beq_iff_eq,decide_eq_true_eq]
  refine ⟨fun ⟨b,hb,e,hv⟩=>?_,fun ⟨e,hv⟩=>⟨_,List.getElem_mem hl,e,hv⟩⟩
  obtain ⟨j,hj,rfl⟩:=List.getElem_of_mem hb
  have:=sP ho h j hj e
  subst this
  exact ⟨e,hv⟩
 ·rw [List.getElem?_eq_none (by omega),Bool.false_and,List.any_eq_false]
  intro b hb
  obtain ⟨j,hj,rfl⟩:=List.getElem_of_mem hb
  intro hc
  simp only [Bool.and_eq_true,beq_iff_eq] at hc
  have:=sP ho h j hj hc.1
  omega
theorem xF {x:List AL} {a:AL} {r:Nat} (hr:r≤x.length) (ho:Jo x) (h:iR x a.1 r r):Qm x a=if T1 x r a.1=true then x.set r a else x.take r++[a]++x.drop r:=by
 unfold Qm
 rw [sQ hr h,← (rS hr h).1]
 have hk:∀ (j:Nat) (hj:j<x.length),j≠r→(x[j].1.toList==a.1.toList)=false:=fun j hj hne=>by
  cases q:(x[j].1.toList==a.1.toList) with
  | false=>rfl
  | true=>exact absurd (sP ho h j hj (by simpa using q)) hne
 have tail:(x.drop (r+1)).filter (fun b=>!(b.1.toList==a.1.toList))=x.drop (r+1):=List.filter_eq_self.2 fun b hb=>by
  obtain ⟨j,hj,rfl⟩:=List.getElem_of_mem hb
  rw [List.length_drop] at hj
  rw [List.getElem_drop,hk (r+1+j) (by omega) (by omega)]
  rfl
 by_cases hl:r<x.length
 ·rw [BY hl,List.filter_cons,tail]
  unfold T1
  rw [List.getElem?_eq_getElem hl]
  cases q:(x[r].1.toList==a.1.toList) with
  | true=>simp [q,List.set_eq_take_append_cons_drop,hl]
  | false=>simp [q]
 ·have:x.drop r=[]:=List.drop_eq_nil_of_le (by omega)
  rw [this]
  unfold T1
  rw [List.getElem?_eq_none (by omega)]
  simp
theorem SG (x:List AL) (a:AL) (hx:x.length≤34359738367):Le x a=some (Ai x a):=m5 (by
 obtain ⟨r,hr,hs,hc⟩:=uF x a.1 (by omega)
 have ok:∀ y:List AL,y.length≤68719476736→FA y=some (Ao y):=fun y hy=>MI y (by unfold maxLen; omega) N0
 have J1:∀ y:List AL,y.length≤68719476736→H8 x a y=some (if Ao y=true then y else x):=fun y hy=>eD (by
  unfold SB
  rw [ok y hy,Az (by omega)]
  cases Ao y<;>simp)
 have hl:T1 x r a.1=true→r<x.length:=fun h=>by
  by_cases hl:r<x.length
  ·exact hl
  ·unfold T1 at h
   rw [List.getElem?_eq_none (by omega)] at h
   cases h
 have J0:∀ b,Ao x=true→H9 x (r:Int) (T1 x r a.1) b a x=some (if Ao (Qm x a)=true then Qm x a else x):=fun b hok=>eE (by
  unfold SC
  rw [xF hr (Y6 hok) (hc (Y6 hok))]
  cases hh:T1 x r a.1 with
  | true =>
   have:=hl hh
   simp only [if_true,show (0:Int)≤(r:Int) from by omega,show ((r:Int)<(x.length:Int)) from by omega,Int.toNat_natCast]
   rw [J1 _ (by simp; omega)]
  | false =>
   rw [if_neg (by simp),JO (by simp; omega) hr (by simp),Option.bind_some,J1 _ (by simp; omega)]
   simp)
 unfold Yy
 rw [Az (by omega),Option.bind_some,hs,Option.bind_some,ok x (by omega),Option.bind_some]
 cases hok:Ao x with
 | false=>simp [Ai,hok]
 | true =>
  have hst:=vQ hr (Y6 hok) (hc (Y6 hok))
  have j0:=J0
  unfold Ai
  rw [hst,hok]
  cases hh:T1 x r a.1 with
  | false =>
   have:=J0 false hok
   rw [hh] at this
   simp [this]
  | true =>
   have hlr:=hl hh
   have:=J0 false hok
   rw [hh] at this
   simp only [if_true,show (0:Int)≤(r:Int) from by omega,show ((r:Int)<(x.length:Int)) from by omega,Int.toNat_natCast,Bool.true_and]
   cases q:decide ((x.getD r m_).2.2≥a.2.2) with
   | true=>simp
   | false=>simp [this])
end Go.Proofs.YtokiohnjegbnpaaGreat.Core

namespace Go.Proofs.YtokiohnjegbnpaaGreat.Core
open Go
set_option linter.unusedVariables false
abbrev N1:Type:=List Int×Int×Int
def XD (d:N1):Prop:=0≤d.2.1∧d.1.length≤maxLen
theorem iS (a:Int):0≤Kp .i64 a 255∧Kp .i64 a 255≤255:=by
 unfold Kp
 have h:(BitVec.ofInt (IntKind.bits .i64) a &&& BitVec.ofInt (IntKind.bits .i64) 255).toNat≤255:=by
  rw [BitVec.toNat_and]
  refine Nat.le_trans Nat.and_le_right ?_
  decide
 rw [AY (by omega)]
 omega
theorem F9 (d:N1) (h:XD d):∃ b d',FB d=some (b,d')∧XD d'∧0≤b∧b≤255:=by
 have hm:d.1.length≤9223372036854775807:=h.2
 have hp:=h.1
 suffices g:∃ b d',QT d=some (b,d')∧XD d'∧0≤b∧b≤255 from g.imp fun b g=>g.imp fun d' g=>⟨mZ g.1,g.2⟩
 unfold QT
 rw [if_neg (by omega),if_neg (by omega)]
 by_cases h1:d.2.1<(d.1.length:Int)
 ·rw [if_pos (by simpa using h1),if_pos hp,if_pos h1]
  refine ⟨_,_,rfl,⟨?_,h.2⟩,iS _⟩
  show 0≤IntKind.i64.wrap (d.2.1+1)
  rw [AY (by omega)]
  omega
 ·rw [if_neg (by simpa using h1)]
  exact ⟨_,_,rfl,h,iS _⟩
theorem Bi (n:Int) (d:N1) (h:XD d):∃ v d',CS n d=some (v,d')∧XD d'∧0≤v∧(0<n→v<n):=by
 suffices g:∃ b d',OT n d=some (b,d')∧XD d'∧0≤b∧(0<n→b<n) from g.imp fun b g=>g.imp fun d' g=>⟨jL g.1,g.2⟩
 unfold OT
 by_cases h1:n≤0
 ·exact ⟨0,d,by rw [if_pos (by simpa using h1)],h,by omega,by omega⟩
 ·rw [if_neg (by simpa using h1)]
  by_cases h2:n≤256
  ·obtain ⟨b,d1,e1,k1,b0,b1⟩:=F9 d h
   refine ⟨_,_,by rw [if_pos (by simpa using h2),e1,Option.bind_some,if_neg (by omega)],k1,Int.tmod_nonneg _ b0,fun _=>Int.tmod_lt_of_pos _ (by omega)⟩
  ·obtain ⟨b1,d1,e1,k1,b10,b11⟩:=F9 d h
   obtain ⟨b2,d2,e2,k2,b20,b21⟩:=F9 d1 k1
   obtain ⟨b3,d3,e3,k3,b30,b31⟩:=F9 d2 k2
   obtain ⟨b4,d4,e4,k4,b40,b41⟩:=F9 d3 k3
   refine ⟨_,_,by rw [if_neg (by simpa using h2),e1,Option.bind_some,e2,Option.bind_some,e3,Option.bind_some,e4,Option.bind_some,if_neg (by omega)],k4,Int.tmod_nonneg _ ?_,fun _=>Int.tmod_lt_of_pos _ (by omega)⟩
   rw [AY (n:=b1*16777216) (by omega),AY (n:=b2*65536) (by omega),AY (n:=b3*256) (by omega),AY (n:=b1*16777216+b2*65536) (by omega),AY (n:=b1*16777216+b2*65536+b3*256) (by omega),AY (by omega)]
   omega
theorem IC (n:Int) (d:N1) (h:XD d):∃ v d',DG n d=some (v,d')∧XD d':=by
 obtain ⟨v,d',e,k,_⟩:=Bi n d h
 exact ⟨_,_,mh (by unfold Ym; rw [e,Option.bind_some]),k⟩
theorem N2 (x:List Int) (hx:0<x.length) (d:N1) (h:XD d):∃ v d',Hq x d=some (v,d')∧XD d'∧v∈x:=by
 obtain ⟨v,d',e,k,v0,v1⟩:=Bi (x.length:Int) d h
 have v1:=v1 (by omega)
 have hv:v.toNat<x.length:=by omega
 exact ⟨_,_,dj (by unfold Rz; rw [e,Option.bind_some,if_pos v0,if_pos v1]),k,by rw [AR hv]; exact List.getElem_mem hv⟩
theorem gy (x:List Int) (h:x.length≤maxLen):∃ d,SP x=some d∧XD d:=by
 have hm:x.length≤9223372036854775807:=h
 have key:=GI (n:=x.length) (P:=fun i=>∀ a,∃ d,Iq x a (i:Int)=some d∧XD d) (fun a=>⟨(x,0,a),Mz (by
  unfold Ir
  rw [if_neg (by simp)]),⟨Int.le_refl _,h⟩⟩) (fun i hi ih a=>by
  by_cases h4:(i:Int)<4000
  ·obtain ⟨d,e,k⟩:=ih (Kp .i64 (IntKind.i64.wrap ((IntKind.i64.wrap ((IntKind.i64.wrap (a*(131:Int)))+(IntKind.i64.wrap (x.getD (i:Int).toNat (0:Int)))))+(7:Int))) (1073741823:Int))
   refine ⟨d,Mz ?_,k⟩
   unfold Ir
   rw [if_pos (by simpa using hi),if_pos (by simpa using h4)]
   refine fo ?_
   unfold TO
   rw [if_pos (by omega),if_pos (by omega),AN (show i<9223372036854775807 by omega)]
   exact e
  ·refine ⟨(x,0,a),Mz ?_,⟨Int.le_refl _,h⟩⟩
   unfold Ir
   rw [if_pos (by simpa using hi),if_neg (by simpa using h4)]) 0 (by omega)
 obtain ⟨d,e,k⟩:=key (IntKind.i64.wrap ((14301:Int)+(x.length:Int)))
 exact ⟨d,nz e,k⟩
end Go.Proofs.YtokiohnjegbnpaaGreat.Core

namespace Go.Proofs.YtokiohnjegbnpaaGreat.Core
open Go
set_option linter.unusedVariables false
theorem Sb {x:List AL}:∀ (m i:Nat),i+m=x.length→(B4 x i m=true↔(∀ a (ha:a<x.length),i≤a→Iy x[a]=true∧(a≠0→Op.bytesLess (x.getD (a-1) m_).1.toList x[a].1.toList=true))∧x.length≤12)
 | 0,i,h=>by
  simp only [B4,decide_eq_true_eq]
  refine ⟨fun h2=>⟨fun a ha hi=>by omega,by omega⟩,fun h2=>by have:=h2.2; omega⟩
 | m+1,i,h=>by
  have hi:i<x.length:=by omega
  rw [B4,Bool.and_eq_true,Bool.and_eq_true,Sb m (i+1) (by omega),AR hi]
  simp only [Bool.or_eq_true,decide_eq_true_eq]
  constructor
  ·rintro ⟨⟨h1,h2⟩,h3,h4⟩
   refine ⟨fun a ha hia=>?_,h4⟩
   by_cases e:a=i
   ·subst e
    exact ⟨h1,fun h0=>h2.resolve_left h0⟩
   ·exact h3 a ha (by omega)
  ·rintro ⟨h3,h4⟩
   refine ⟨⟨(h3 i hi (Nat.le_refl _)).1,?_⟩,fun a ha hia=>h3 a ha (by omega),h4⟩
   by_cases e:i=0
   ·exact .inl e
   ·exact .inr ((h3 i hi (Nat.le_refl _)).2 e)
theorem Cl {x:List AL}:Ao x=true↔(∀ b∈x,Iy b=true)∧Jo x∧x.length≤12:=by
 constructor
 ·intro h
  have h1:=(Sb x.length 0 (by omega)).1 h
  refine ⟨fun b hb=>?_,Y6 h,h1.2⟩
  obtain ⟨a,ha,rfl⟩:=List.getElem_of_mem hb
  exact (h1.1 a ha (Nat.zero_le _)).1
 ·rintro ⟨h1,h2,h3⟩
  refine (Sb x.length 0 (by omega)).2 ⟨fun a ha _=>⟨h1 _ (List.getElem_mem ha),fun h0=>?_⟩,h3⟩
  rw [AR (show a-1<x.length by omega)]
  exact h2 (a-1) a (by omega) ha (by omega)
theorem og {x:List AL}:Jo x↔x.Pairwise fun b c=>Op.bytesLess b.1.toList c.1.toList=true:=by
 rw [List.pairwise_iff_getElem]
 rfl
theorem bX {x:List AL} (a:AL) (h:Jo x):Jo (Qm x a):=by
 rw [og] at h ⊢
 have lo:∀ b∈x.filter (Sf a.1),Op.bytesLess b.1.toList a.1.toList=true:=fun b hb=>(List.mem_filter.1 hb).2
 have hg:∀ b∈x.filter (Oe a.1),Op.bytesLess a.1.toList b.1.toList=true:=fun b hb=>by
  have:=(List.mem_filter.1 hb).2
  rw [Oe,N0] at this
  simpa using this
 unfold Qm
 rw [List.pairwise_append,List.pairwise_append]
 refine ⟨⟨h.filter _,List.pairwise_singleton _ _,fun b hb c hc=>?_⟩,h.filter _,fun b hb c hc=>?_⟩
 ·rw [List.mem_singleton] at hc
  subst hc
  exact lo b hb
 ·rcases List.mem_append.1 hb with hb | hb
  ·exact Y4 (lo b hb) (hg c hc)
  ·rw [List.mem_singleton] at hb
   subst hb
   exact hg c hc
theorem vR (x:List AL) (a:AL):(Qm x a).length≤x.length+1:=by
 have h1:(x.filter (Oe a.1)).length≤(x.filter fun b=>!Sf a.1 b).length:=by
  rw [← List.countP_eq_length_filter,← List.countP_eq_length_filter]
  refine List.countP_mono_left fun b _ hb=>?_
  simp only [Oe,Sf,Bool.not_eq_true',Bool.or_eq_false_iff] at hb ⊢
  exact hb.1
 have h2:(x.filter (Sf a.1)).length+(x.filter fun b=>!Sf a.1 b).length=x.length:=by
  rw [← List.countP_eq_length_filter,← List.countP_eq_length_filter]
  have:=List.length_eq_countP_add_countP (Sf a.1) (l:=x)
  rw [this]
  congr 2
  funext b
  cases Sf a.1 b<;>rfl
 simp only [Qm,List.length_append,List.length_cons,List.length_nil]
 omega
theorem nB {x:List AL} {a:AL}:a∈Qm x a:=by simp [Qm]
theorem rT {x:List AL} {a b:AL} (h:b∈Qm x a):b=a∨b∈x:=by
 simp only [Qm,List.mem_append,List.mem_filter,List.mem_singleton] at h
 rcases h with (h | h) | h
 ·exact .inr h.1
 ·exact .inl h
 ·exact .inr h.1
theorem sR {x:List AL} {a b:AL} (h:b∈x) (hk:(b.1.toList==a.1.toList)=false):b∈Qm x a:=by
 simp only [Qm,List.mem_append,List.mem_filter,List.mem_singleton]
 cases q:Sf a.1 b with
 | true=>exact .inl (.inl ⟨h,rfl⟩)
 | false =>
  refine .inr ⟨h,?_⟩
  unfold Oe
  rw [show Op.bytesLess b.1.toList a.1.toList=false from q,hk]
  rfl
theorem NF {x:List AL} (ho:Jo x) {b:AL} (hb:b∈x):BC x b.1=b:=by
 obtain ⟨j,hj,rfl⟩:=List.getElem_of_mem hb
 have:x.find? (fun a=>a.1.toList==x[j].1.toList)=some x[j]:=by
  rw [List.find?_eq_some_iff_getElem]
  refine ⟨by simp,j,hj,rfl,fun i hi=>?_⟩
  have:=ho i j (by omega) hj hi
  cases q:(x[i].1.toList==x[j].1.toList) with
  | false=>rfl
  | true =>
   rw [beq_iff_eq] at q
   rw [q,ZT] at this
   cases this
 unfold BC
 rw [this]
 rfl
theorem uG {x:List AL} (ho:Jo x) {a:AL} (h1:1≤a.2.2):(BC x a.1).2.2≥a.2.2↔XC x a=true:=by
 constructor
 ·intro h
  unfold BC at h
  cases q:x.find? (fun b=>b.1.toList==a.1.toList) with
  | none=>rw [q] at h; simp at h; omega
  | some b =>
   rw [q] at h
   exact List.any_eq_true.2 ⟨b,List.mem_of_find?_eq_some q,by simpa [List.find?_some q] using h⟩
 ·intro h
  obtain ⟨b,hb,hc⟩:=List.any_eq_true.1 h
  simp only [Bool.and_eq_true,beq_iff_eq,decide_eq_true_eq] at hc
  have e:BC x a.1=BC x b.1:=by unfold BC; rw [hc.1]
  rw [e,NF ho hb]
  exact hc.2
theorem rU (a:AL):XY (.pair .str (.pair .str (.int .i64))) a a=true:=by simp [XY]
theorem SH (x:List ByteArray) (hx:0<x.length) (d:N1) (h:XD d):∃ v d',Lb x d=some (v,d')∧XD d'∧v∈x:=by
 obtain ⟨v,d',e,k,v0,v1⟩:=Bi (x.length:Int) d h
 have v1:=v1 (by omega)
 have hv:v.toNat<x.length:=by omega
 exact ⟨_,_,mi (by unfold Yn; rw [e,Option.bind_some,if_pos v0,if_pos v1]),k,by rw [AR hv]; exact List.getElem_mem hv⟩
theorem Ib {x:List AL} {a:AL} (h:Ao x=true):Ao (Ai x a)=true:=by
 unfold Ai
 rw [if_pos h]
 split
 ·exact h
 ·split
  ·assumption
  ·exact h
theorem rV (x:List AL) (a:AL):(Ai x a).length≤x.length+1:=by
 have:=vR x a
 unfold Ai
 (repeat' split)<;>omega
end Go.Proofs.YtokiohnjegbnpaaGreat.Core

namespace Go.Proofs.YtokiohnjegbnpaaGreat.Core
open Go
set_option linter.unusedVariables false
end Go.Proofs.YtokiohnjegbnpaaGreat.Core

namespace Go.Proofs.YtokiohnjegbnpaaGreat.Core
open Go
set_option linter.unusedVariables false
theorem Ct (x:List Int) (n:Int) (h:x.length≤maxLen):Dt x n=some (x.contains n):=qG (by
 have hm:x.length≤9223372036854775807:=h
 unfold dP
 have:=GI (n:=x.length) (P:=fun i=>Ji x n (i:Int)=some ((x.drop i).contains n)) (Wf (by
  unfold OS
  rw [if_neg (by simp),List.drop_length]
  rfl)) (fun i hi ih=>Wf (by
  unfold OS
  simp only [show ((i:Int)<(x.length:Int)) from by omega,decide_true,if_true,show (0:Int)≤(i:Int) from by omega,Int.toNat_natCast,AR hi,AN (show i<9223372036854775807 by omega)]
  rw [BY hi,List.contains_cons,ih]
  by_cases e:x[i]=n
  ·subst e
   simp
  ·simp [e,Ne.symm e])) 0 (by omega)
 simpa using this)
theorem yF (x:List Int) (i:Nat) (hi:i<x.length) (h:x.length≤maxLen):∃ r,DF x x[i]=some r∧((r=(i:Int))↔x[i]∉x.take i):=by
 have hm:x.length≤9223372036854775807:=h
 have key:=GI (n:=i) (P:=fun k=>∃ r,Cd x x[i] (x.length:Int) (k:Int)=some r∧(k:Int)≤r∧((r=(i:Int))↔∀ m (hm:m<i),k≤m→x[m]≠x[i])) ⟨i,B3 (by
  unfold Bb
  simp only [show ((i:Int)<(x.length:Int)) from by omega,decide_true,if_true,show (0:Int)≤(i:Int) from by omega,Int.toNat_natCast,AR hi]
  simp),by omega,⟨fun _ m hm hk=>by omega,fun _=>rfl⟩⟩ (fun k hk ⟨r,hr,hkr,hiff⟩=>by
  have hk2:k<x.length:=by omega
  by_cases e:x[i]=x[k]
  ·refine ⟨k,B3 ?_,by omega,⟨fun he=>by omega,fun hall=>absurd e.symm (hall k hk (by omega))⟩⟩
   unfold Bb
   simp only [show ((k:Int)<(x.length:Int)) from by omega,decide_true,if_true,show (0:Int)≤(k:Int) from by omega,Int.toNat_natCast,AR hk2]
   rw [if_pos (by simpa using e)]
  ·refine ⟨r,B3 ?_,by omega,hiff.trans ⟨fun hall m hm hkm=>?_,fun hall m hm hkm=>hall m hm (by omega)⟩⟩
   ·unfold Bb
    simp only [show ((k:Int)<(x.length:Int)) from by omega,decide_true,if_true,show (0:Int)≤(k:Int) from by omega,Int.toNat_natCast,AR hk2,AN (show k<9223372036854775807 by omega)]
    rw [if_neg (by simpa using e)]
    exact hr
   ·rcases Nat.lt_or_ge k m with h1 | h1
    ·exact hall m hm h1
    ·have:m=k:=by omega
     subst this
     exact fun h=>e h.symm) 0 (by omega)
 obtain ⟨r,hr,_,hiff⟩:=key
 refine ⟨r,L7 hr,hiff.trans ⟨fun hall hmem=>?_,fun hn m hm _ he=>hn ?_⟩⟩
 ·obtain ⟨m,hm,he⟩:=List.mem_take_iff_getElem.1 hmem
  exact hall m (by omega) (by omega) he
 ·exact List.mem_take_iff_getElem.2 ⟨m,by omega,he⟩
def HW (v:List Int) (i:Nat):Nat→Bool
 | 0=>true
 | k+1=>(decide (1≤v.getD i 0)&&decide (v.getD i 0≤6))&&!(v.take i).contains (v.getD i 0)&&HW v (i+1) k
def U0 (v:List Int):Bool:=(decide (1≤(v.length:Int))&&decide ((v.length:Int)≤4))&&HW v 0 v.length
def E6 (x:List (List Int)) (n:Nat):List (List Int)→Bool
 | []=>decide (1≤(n:Int))&&decide ((n:Int)≤9)
 | v::r=>U0 v&&E6 x n r
theorem eJ (v:List Int) (h:v.length≤maxLen):P9 v=some (U0 v):=mj (by
 have hm:v.length≤9223372036854775807:=h
 unfold Yo U0
 simp only [BI,Option.bind_some]
 have:=GI (n:=v.length) (P:=fun i=>H5 v (i:Int)=some (HW v i (v.length-i))) (R0 (by
  unfold L8
  rw [if_neg (by simp),Nat.sub_self]
  rfl)) (fun i hi ih=>R0 (by
  unfold L8
  have e:v.length-i=(v.length-(i+1))+1:=by omega
  rw [e,HW]
  simp only [show ((i:Int)<(v.length:Int)) from by omega,show ((i:Int)≤(v.length:Int)) from by omega,decide_true,if_true,show (0:Int)≤(i:Int) from by omega,Int.toNat_natCast,BI,Option.bind_some,AN (show i<9223372036854775807 by omega),ih,Int.toNat_zero,List.drop_zero,Int.le_refl,
   Ct (v.take i) _ (by rw [List.length_take]; omega)]
  generalize (decide (1≤v.getD i 0)&&decide (v.getD i 0≤6))=a
  generalize (v.take i).contains (v.getD i 0)=b
  cases a<;>cases b<;>simp)) 0 (by omega)
 simp only [Int.ofNat_zero,Nat.sub_zero] at this
 generalize (decide (1≤(v.length:Int))&&decide ((v.length:Int)≤4))=a
 cases a
 ·simp
 ·simpa using this)
theorem eK (x:List (List Int)) (h:x.length≤maxLen) (ho:∀ a∈x,a.length≤maxLen):D5 x=some (E6 x x.length x):=md (by
 have hm:x.length≤9223372036854775807:=h
 unfold Yh
 exact GI (n:=x.length) (P:=fun i=>Hz x (i:Int)=some (E6 x x.length (x.drop i))) (Rv (by
  unfold L5
  rw [if_neg (by simp),List.drop_length,BI]
  rfl)) (fun i hi ih=>Rv (by
  unfold L5
  simp only [show ((i:Int)<(x.length:Int)) from by omega,decide_true,if_true,show (0:Int)≤(i:Int) from by omega,Int.toNat_natCast,AR hi,eJ x[i] (ho _ (List.getElem_mem _)),Option.bind_some,AN (show i<9223372036854775807 by omega),ih]
  rw [BY hi,E6]
  generalize U0 x[i]=a
  cases a<;>simp)) 0 (by omega))
theorem eL (x:List (List Int)) (h:x.length≤maxLen) (ho:∀ a∈x,a.length≤maxLen):DE x=some (E6 x x.length x):=mb (by
 have hm:x.length≤9223372036854775807:=h
 unfold Yc
 exact GI (n:=x.length) (P:=fun i=>Hy x x (x.length:Int) (i:Int)=some (E6 x x.length (x.drop i))) (Rt (by
  unfold Lz
  rw [if_neg (by simp),List.drop_length,An]
  rfl)) (fun i hi ih=>Rt (by
  unfold Lz
  simp only [show ((i:Int)<(x.length:Int)) from by omega,decide_true,if_true,show (0:Int)≤(i:Int) from by omega,Int.toNat_natCast,AR hi]
  rw [BY hi,E6]
  have hv:=ho x[i] (List.getElem_mem _)
  generalize x[i]=v at hv
  have hvm:v.length≤9223372036854775807:=hv
  have wj:Lx x v x (x.length:Int) (i:Int)=some ((decide (1≤(v.length:Int))&&decide ((v.length:Int)≤4))&&E6 x x.length (x.drop (i+1))):=dZ (by
   unfold Rr
   rw [An,Option.bind_some,AN (show i<9223372036854775807 by omega),ih]
   generalize (decide (1≤(v.length:Int))&&decide ((v.length:Int)≤4))=a
   cases a<;>simp)
  have:=GI (n:=v.length) (P:=fun j=>Hx x v x (x.length:Int) (i:Int) v (v.length:Int) (j:Int)=some (HW v j (v.length-j)&&((decide (1≤(v.length:Int))&&decide ((v.length:Int)≤4))&&E6 x x.length (x.drop (i+1))))) (Rs (by
   unfold Ly
   rw [if_neg (by simp),Nat.sub_self,wj]
   rfl)) (fun j hj ihj=>Rs (by
   unfold Ly
   have e:v.length-j=(v.length-(j+1))+1:=by omega
   obtain ⟨r,hr,hiff⟩:=yF v j hj hv
   rw [e,HW]
   simp only [show ((j:Int)<(v.length:Int)) from by omega,decide_true,if_true,show (0:Int)≤(j:Int) from by omega,Int.toNat_natCast,E5,Option.bind_some,AN (show j<9223372036854775807 by omega),ihj,AR hj,hr]
   have hb:(r != (j:Int))=(v.take j).contains v[j]:=by
    by_cases e2:r=(j:Int)
    ·have:=hiff.1 e2
     simp [e2,this]
    ·have:v[j]∈v.take j:=Classical.byContradiction fun hn=>e2 (hiff.2 hn)
     simp [e2,this]
   rw [hb]
   generalize (decide (1≤v[j])&&decide (v[j]≤6))=a
   generalize (v.take j).contains v[j]=b
   cases a<;>cases b<;>simp)) 0 (by omega)
  simp only [Int.ofNat_zero,Nat.sub_zero] at this
  unfold U0
  refine Eq.trans this ?_
  congr 1
  generalize HW v 0 v.length=a
  generalize (decide (1≤(v.length:Int))&&decide ((v.length:Int)≤4))=b
  cases a<;>cases b<;>simp)) 0 (by omega))
end Go.Proofs.YtokiohnjegbnpaaGreat.Core

namespace Go.Proofs.YtokiohnjegbnpaaGreat.Core
open Go
set_option linter.unusedVariables false
abbrev sy:Type:=Int×Int×Int×(ByteArray×ByteArray×Int)×List Int
abbrev Z:Type:=Int×Int×Bool×Bool×Bool×Bool×List Int×List (ByteArray×ByteArray×Int)×Int×sy
def FK (v:List Int) (i:Nat):Nat→Bool
 | 0=>true
 | k+1=>(decide (1≤v.getD i 0)&&decide (v.getD i 0≤6))&&(decide (i=0)||decide (v.getD (i-1) 0<v.getD i 0))&&FK v (i+1) k
theorem T2 (x:List Int) (h:x.length≤maxLen):DA x=some (FK x 0 x.length):=oD (by
 have hm:x.length≤9223372036854775807:=h
 unfold aJ
 have:=GI (n:=x.length) (P:=fun i=>Gs x (i:Int)=some (FK x i (x.length-i))) (Tw (by
  unfold ND
  rw [if_neg (by simp),Nat.sub_self]
  rfl)) (fun i hi ih=>Tw (by
  unfold ND
  have e:x.length-i=(x.length-(i+1))+1:=by omega
  simp only [show ((i:Int)<(x.length:Int)) from by omega,decide_true,if_true,show (0:Int)≤(i:Int) from by omega,Int.toNat_natCast,AN (show i<9223372036854775807 by omega),ih,BI,Option.bind_some]
  rw [e,FK]
  generalize (decide (1≤x.getD i 0)&&decide (x.getD i 0≤6))=a
  cases a
  ·simp
  by_cases h0:0<i
  ·rw [ZS (by omega) h0]
   simp only [Int.toNat_natCast,show ((0:Int)≤((i-1:Nat):Int)) from by omega,show (((i-1:Nat):Int)<(x.length:Int)) from by omega,if_true]
   rcases Int.lt_or_le (x.getD (i-1) 0) (x.getD i 0) with hb | hb
   ·have d1:decide (x.getD (i-1) 0≥x.getD i 0)=false:=decide_eq_false (by omega)
    have d2:decide (x.getD (i-1) 0<x.getD i 0)=true:=decide_eq_true hb
    simp only [d1,d2]
    simp [h0,show i≠0 by omega]
   ·have d1:decide (x.getD (i-1) 0≥x.getD i 0)=true:=decide_eq_true (by omega)
    have d2:decide (x.getD (i-1) 0<x.getD i 0)=false:=decide_eq_false (by omega)
    simp only [d1,d2]
    simp [h0,show i≠0 by omega]
  ·have:i=0:=by omega
   subst this
   simp)) 0 (by omega)
 simpa using this)
theorem Ml (x:List Int) (h:x.length≤maxLen):G6 x 1 6=some (FK x 0 x.length):=bH (by
 have hm:x.length≤9223372036854775807:=h
 unfold QS
 have:=GI (n:=x.length) (P:=fun i=>Dd x 1 6 x (x.length:Int) (i:Int)=some (FK x i (x.length-i))) (Ma (by
  unfold Hd
  rw [if_neg (by simp),Nat.sub_self]
  rfl)) (fun i hi ih=>Ma (by
  unfold Hd
  have e:x.length-i=(x.length-(i+1))+1:=by omega
  simp only [show ((i:Int)<(x.length:Int)) from by omega,decide_true,if_true,show (0:Int)≤(i:Int) from by omega,Int.toNat_natCast,AN (show i<9223372036854775807 by omega),ih,An,Option.bind_some]
  rw [e,FK]
  generalize (decide (1≤x.getD i 0)&&decide (x.getD i 0≤6))=a
  cases a
  ·simp
  by_cases h0:0<i
  ·rw [ZS (by omega) h0]
   simp only [Int.toNat_natCast,show ((0:Int)≤((i-1:Nat):Int)) from by omega,show (((i-1:Nat):Int)<(x.length:Int)) from by omega,if_true]
   rcases Int.lt_or_le (x.getD (i-1) 0) (x.getD i 0) with hb | hb
   ·have d1:decide (x.getD i 0≤x.getD (i-1) 0)=false:=decide_eq_false (by omega)
    have d2:decide (x.getD (i-1) 0<x.getD i 0)=true:=decide_eq_true hb
    simp only [d1,d2]
    simp [h0,show i≠0 by omega]
   ·have d1:decide (x.getD i 0≤x.getD (i-1) 0)=true:=decide_eq_true (by omega)
    have d2:decide (x.getD (i-1) 0<x.getD i 0)=false:=decide_eq_false (by omega)
    simp only [d1,d2]
    simp [h0,show i≠0 by omega]
  ·have:i=0:=by omega
   subst this
   simp)) 0 (by omega)
 simpa using this)
def JG (t:sy):Bool:=(t.1==0)&&(t.2.1==0)&&(t.2.2.1==0)&&XY (.pair .str (.pair .str (.int .i64))) t.2.2.2.1 (ByteArray.empty,ByteArray.empty,(0:Int))&&((t.2.2.2.2.length:Int)==0)
def FM (t:sy) (serves:Bool):Bool:=(t.1==1||t.1==2)&&serves&&(decide (0≤t.2.1)&&decide (t.2.1≤1000))&&(decide (1≤t.2.2.1)&&decide (t.2.2.1≤900))
def T3 (x:Z):Bool :=
 (decide (1≤x.1)&&decide (x.1≤6))&&(decide (1≤x.2.1)&&decide (x.2.1≤9))&&(!x.2.2.2.2.2.1||(x.2.2.2.1&&x.2.2.2.2.1&&!decide ((x.2.2.2.2.2.2.1.length:Int)>0)))&&(!x.2.2.1||(!x.2.2.2.1&&!x.2.2.2.2.1)) &&
  FK x.2.2.2.2.2.2.1 0 x.2.2.2.2.2.2.1.length&&FK x.2.2.2.2.2.2.2.2.2.2.2.2.2 0 x.2.2.2.2.2.2.2.2.2.2.2.2.2.length&&B4 x.2.2.2.2.2.2.2.1 0 x.2.2.2.2.2.2.2.1.length&&(decide (0≤x.2.2.2.2.2.2.2.2.1)&&decide (x.2.2.2.2.2.2.2.2.1≤900)) &&
  (JG x.2.2.2.2.2.2.2.2.2||FM x.2.2.2.2.2.2.2.2.2 x.2.2.2.2.2.1)
theorem Zx (t:sy):Mx t=some (JG t):=gw (by
 unfold Tx JG
 generalize (t.1==0)=a
 generalize (t.2.1==0)=b
 generalize (t.2.2.1==0)=c
 generalize XY (.pair .str (.pair .str (.int .i64))) t.2.2.2.1 (ByteArray.empty,ByteArray.empty,(0:Int))=d
 cases a<;>cases b<;>cases c<;>cases d<;>simp)
theorem bY (x:Z) (h1:x.2.2.2.2.2.2.1.length≤maxLen) (h2:x.2.2.2.2.2.2.2.1.length≤maxLen) (h3:x.2.2.2.2.2.2.2.2.2.2.2.2.2.length≤maxLen):Fe x=some (T3 x):=jg (by
 have w0:∀ b,Dl b x=some (JG x.2.2.2.2.2.2.2.2.2||FM x.2.2.2.2.2.2.2.2.2 x.2.2.2.2.2.1):=fun b=>bT (by
  unfold Qa FM
  simp only [BI,Zx,Option.bind_some]
  generalize JG x.2.2.2.2.2.2.2.2.2=a
  generalize (x.2.2.2.2.2.2.2.2.2.1==1)=b
  generalize (x.2.2.2.2.2.2.2.2.2.1==2)=c
  generalize x.2.2.2.2.2.1=d
  generalize (decide (0≤x.2.2.2.2.2.2.2.2.2.2.1)&&decide (x.2.2.2.2.2.2.2.2.2.2.1≤1000))=e
  generalize (decide (1≤x.2.2.2.2.2.2.2.2.2.2.2.1)&&decide (x.2.2.2.2.2.2.2.2.2.2.2.1≤900))=f
  cases a<;>cases b<;>cases c<;>cases d<;>cases e<;>simp)
 unfold W5 T3
 simp only [BI,T2 _ h1,T2 _ h3,H_ _ h2,Option.bind_some,w0]
 generalize (decide (1≤x.1)&&decide (x.1≤6))=a
 generalize (decide (1≤x.2.1)&&decide (x.2.1≤9))=b
 generalize decide ((x.2.2.2.2.2.2.1.length:Int)>0)=c
 generalize FK x.2.2.2.2.2.2.1 0 x.2.2.2.2.2.2.1.length=d
 generalize FK x.2.2.2.2.2.2.2.2.2.2.2.2.2 0 x.2.2.2.2.2.2.2.2.2.2.2.2.2.length=e
 generalize B4 x.2.2.2.2.2.2.2.1 0 x.2.2.2.2.2.2.2.1.length=f
 generalize (decide (0≤x.2.2.2.2.2.2.2.2.1)&&decide (x.2.2.2.2.2.2.2.2.1≤900))=g
 generalize (JG x.2.2.2.2.2.2.2.2.2||FM x.2.2.2.2.2.2.2.2.2 x.2.2.2.2.2.1)=t
 generalize x.2.2.2.2.2.1=s
 generalize x.2.2.2.2.1=l
 generalize x.2.2.2.1=m
 generalize x.2.2.1=n
 cases a
 ·simp
 cases b
 ·simp
 cases d<;>cases e<;>cases f<;>cases g<;>cases s<;>cases n<;>cases m<;>cases l<;>cases c<;>simp)
theorem T4 (x:Z) (h3:x.2.2.2.2.2.2.2.2.2.2.2.2.2.length≤maxLen):C5 x=some (FK x.2.2.2.2.2.2.2.2.2.2.2.2.2 0 x.2.2.2.2.2.2.2.2.2.2.2.2.2.length&&(JG x.2.2.2.2.2.2.2.2.2||FM x.2.2.2.2.2.2.2.2.2 x.2.2.2.2.2.1),x):=YY (by
 unfold Nm JG FM
 simp only [An,Ml _ h3,Option.bind_some]
 by_cases hk:x.2.2.2.2.2.2.2.2.2.1=0
 ·rw [if_pos (by simp [hk])]
  have k1:(x.2.2.2.2.2.2.2.2.2.1==1)=false:=by simp [hk]
  have k2:(x.2.2.2.2.2.2.2.2.2.1==2)=false:=by simp [hk]
  have k0:(x.2.2.2.2.2.2.2.2.2.1==0)=true:=by simp [hk]
  rw [k1,k2,k0]
  have hl:((x.2.2.2.2.2.2.2.2.2.2.2.2.2.length:Int)==0)=true→FK x.2.2.2.2.2.2.2.2.2.2.2.2.2 0 x.2.2.2.2.2.2.2.2.2.2.2.2.2.length=true:=by
   intro h
   have:x.2.2.2.2.2.2.2.2.2.2.2.2.2.length=0:=by simpa using h
   rw [this]
   rfl
  generalize ((x.2.2.2.2.2.2.2.2.2.2.2.2.2.length:Int)==0)=l at hl
  generalize FK x.2.2.2.2.2.2.2.2.2.2.2.2.2 0 x.2.2.2.2.2.2.2.2.2.2.2.2.2.length=u at hl
  generalize (x.2.2.2.2.2.2.2.2.2.2.1==0)=b
  generalize (x.2.2.2.2.2.2.2.2.2.2.2.1==0)=c
  generalize XY (.pair .str (.pair .str (.int .i64))) x.2.2.2.2.2.2.2.2.2.2.2.2.1 (ByteArray.empty,ByteArray.empty,(0:Int))=d
  cases b<;>cases c<;>cases d<;>cases l<;>cases u<;>simp at hl ⊢
 ·rw [if_neg (by simp [hk])]
  have k0:(x.2.2.2.2.2.2.2.2.2.1==0)=false:=by simp [hk]
  have k12:(decide (1≤x.2.2.2.2.2.2.2.2.2.1)&&decide (x.2.2.2.2.2.2.2.2.2.1≤2))=(x.2.2.2.2.2.2.2.2.2.1==1||x.2.2.2.2.2.2.2.2.2.1==2):=by
   rw [Bool.eq_iff_iff]
   simp
   omega
  rw [k12,k0]
  generalize (x.2.2.2.2.2.2.2.2.2.1==1||x.2.2.2.2.2.2.2.2.2.1==2)=k
  generalize FK x.2.2.2.2.2.2.2.2.2.2.2.2.2 0 x.2.2.2.2.2.2.2.2.2.2.2.2.2.length=u
  generalize (decide (0≤x.2.2.2.2.2.2.2.2.2.2.1)&&decide (x.2.2.2.2.2.2.2.2.2.2.1≤1000))=e
  generalize (decide (1≤x.2.2.2.2.2.2.2.2.2.2.2.1)&&decide (x.2.2.2.2.2.2.2.2.2.2.2.1≤900))=f
  cases k<;>cases u<;>cases e<;>cases f<;>rcases Bool.eq_false_or_eq_true x.2.2.2.2.2.1 with hs | hs<;>simp [hs])
theorem bZ (x:Z) (h1:x.2.2.2.2.2.2.1.length≤maxLen) (h2:x.2.2.2.2.2.2.2.1.length≤maxLen) (h3:x.2.2.2.2.2.2.2.2.2.2.2.2.2.length≤maxLen):Fd x=some (T3 x):=i9 (by
 have w0:∀ b,J8 b x=some ((!x.2.2.2.2.2.1||(x.2.2.2.1&&x.2.2.2.2.1&&!decide ((x.2.2.2.2.2.2.1.length:Int)>0)))&&(!x.2.2.1||(!x.2.2.2.1&&!x.2.2.2.2.1))&&(FK x.2.2.2.2.2.2.2.2.2.2.2.2.2 0 x.2.2.2.2.2.2.2.2.2.2.2.2.2.length&&(JG x.2.2.2.2.2.2.2.2.2||FM x.2.2.2.2.2.2.2.2.2 x.2.2.2.2.2.1))):=fun b=>a_ (by
  unfold QG
  simp only [T4 x h3,Option.bind_some]
  generalize (FK x.2.2.2.2.2.2.2.2.2.2.2.2.2 0 x.2.2.2.2.2.2.2.2.2.2.2.2.2.length&&(JG x.2.2.2.2.2.2.2.2.2||FM x.2.2.2.2.2.2.2.2.2 x.2.2.2.2.2.1))=t
  generalize decide ((x.2.2.2.2.2.2.1.length:Int)>0)=c
  generalize x.2.2.2.2.2.1=s
  generalize x.2.2.2.2.1=l
  generalize x.2.2.2.1=m
  generalize x.2.2.1=n
  cases s<;>cases n<;>cases m<;>cases l<;>cases c<;>simp)
 unfold WL T3
 simp only [An,E5,Ml _ h1,MI _ h2 N0,Option.bind_some,w0]
 generalize (decide (1≤x.1)&&decide (x.1≤6))=a
 generalize (decide (1≤x.2.1)&&decide (x.2.1≤9))=b
 generalize FK x.2.2.2.2.2.2.1 0 x.2.2.2.2.2.2.1.length=d
 generalize FK x.2.2.2.2.2.2.2.2.2.2.2.2.2 0 x.2.2.2.2.2.2.2.2.2.2.2.2.2.length=e
 generalize B4 x.2.2.2.2.2.2.2.1 0 x.2.2.2.2.2.2.2.1.length=f
 generalize (decide (0≤x.2.2.2.2.2.2.2.2.1)&&decide (x.2.2.2.2.2.2.2.2.1≤900))=g
 generalize (JG x.2.2.2.2.2.2.2.2.2||FM x.2.2.2.2.2.2.2.2.2 x.2.2.2.2.2.1)=t
 generalize (!x.2.2.2.2.2.1||(x.2.2.2.1&&x.2.2.2.2.1&&!decide ((x.2.2.2.2.2.2.1.length:Int)>0)))=p
 generalize (!x.2.2.1||(!x.2.2.2.1&&!x.2.2.2.2.1))=q
 cases a
 ·simp
 cases b
 ·simp
 cases d<;>cases e<;>cases f<;>cases g<;>cases p<;>cases q<;>simp)
end Go.Proofs.YtokiohnjegbnpaaGreat.Core

namespace Go.Proofs.YtokiohnjegbnpaaGreat.Core
open Go
set_option linter.unusedVariables false
abbrev BM:Type:=Int×Int×Int×Int×Int×List (ByteArray×ByteArray×Int)
def T5 (x:BM):Bool :=
 (decide (1≤x.1)&&decide (x.1≤8))&&(decide (1≤x.2.1)&&decide (x.2.1≤6))&&(decide (1≤x.2.2.1)&&decide (x.2.2.1≤6))&&(decide (1≤x.2.2.2.1)&&decide (x.2.2.2.1≤9))&&(decide (0≤x.2.2.2.2.1)&&decide (x.2.2.2.2.1≤1000000000))&&B4 x.2.2.2.2.2 0 x.2.2.2.2.2.length &&
  (if x.1=2∨x.1=3 then true else if x.1=5 then ((x.2.2.2.2.2.length:Int)==1) else ((x.2.2.2.2.2.length:Int)==0))
theorem jv (x:BM) (h:x.2.2.2.2.2.length≤maxLen):Un x=some (T5 x):=qN (by
 have w1:∀ a b,Jn a b x=some (if b=true then true else if a=5 then ((x.2.2.2.2.2.length:Int)==1) else ((x.2.2.2.2.2.length:Int)==0)):=fun a b=>jl (by
  unfold W6
  by_cases h1:b=true<;>by_cases h2:a=5<;>simp [h1,h2])
 have w0:∀ b,Oc b x=some (if x.1=2∨x.1=3 then true else if x.1=5 then ((x.2.2.2.2.2.length:Int)==1) else ((x.2.2.2.2.2.length:Int)==0)):=fun b=>jm (by
  unfold W7
  by_cases h1:x.1=2<;>by_cases h2:x.1=3<;>simp [h1,h2,w1])
 unfold eC T5
 simp only [BI,H_ _ h,Option.bind_some,w0]
 generalize (decide (1≤x.1)&&decide (x.1≤8))=a
 generalize (decide (1≤x.2.1)&&decide (x.2.1≤6))=b
 generalize (decide (1≤x.2.2.1)&&decide (x.2.2.1≤6))=c
 generalize (decide (1≤x.2.2.2.1)&&decide (x.2.2.2.1≤9))=d
 generalize (decide (0≤x.2.2.2.2.1)&&decide (x.2.2.2.2.1≤1000000000))=e
 generalize B4 x.2.2.2.2.2 0 x.2.2.2.2.2.length=f
 cases a<;>cases b<;>cases c<;>cases d<;>cases e<;>cases f<;>simp)
theorem jw (x:BM) (h:x.2.2.2.2.2.length≤maxLen):Um x=some (T5 x):=qM (by
 have w1:∀ a b,Jm a b x=some (if b=true then true else if a=5 then ((x.2.2.2.2.2.length:Int)==1) else ((x.2.2.2.2.2.length:Int)==0)):=fun a b=>jc (by
  unfold W3
  by_cases h1:b=true<;>by_cases h2:a=5<;>simp [h1,h2])
 have w0:∀ b,Ob b x=some (if x.1=2∨x.1=3 then true else if x.1=5 then ((x.2.2.2.2.2.length:Int)==1) else ((x.2.2.2.2.2.length:Int)==0)):=fun b=>jd (by
  unfold W4
  by_cases h1:x.1=2<;>by_cases h2:x.1=3<;>simp [h1,h2,w1])
 unfold dy T5
 simp only [An,E5,MI _ h N0,Option.bind_some,w0]
 generalize (decide (1≤x.1)&&decide (x.1≤8))=a
 generalize (decide (1≤x.2.1)&&decide (x.2.1≤6))=b
 generalize (decide (1≤x.2.2.1)&&decide (x.2.2.1≤6))=c
 generalize (decide (1≤x.2.2.2.1)&&decide (x.2.2.2.1≤9))=d
 generalize (decide (0≤x.2.2.2.2.1)&&decide (x.2.2.2.2.1≤1000000000))=e
 generalize B4 x.2.2.2.2.2 0 x.2.2.2.2.2.length=f
 cases a<;>cases b<;>cases c<;>cases d<;>cases e<;>cases f<;>simp)
end Go.Proofs.YtokiohnjegbnpaaGreat.Core

namespace Go.Proofs.YtokiohnjegbnpaaGreat.Core
open Go
set_option linter.unusedVariables false
set_option linter.unusedSimpArgs false
abbrev Cw:Type:=Int×Int×Int×AL
def yG (v:List Int):Prop:=(∀ a∈v,1≤a∧a≤6)∧v.Pairwise (· < ·)
theorem nC {v:List Int}:∀ (m i:Nat),i+m=v.length→(FK v i m=true↔∀ a (ha:a<v.length),i≤a→(1≤v[a]∧v[a]≤6)∧(a≠0→v.getD (a-1) 0<v[a]))
 | 0,i,h=>by
  simp only [FK,true_iff]
  intro a ha hi
  omega
 | m+1,i,h=>by
  have hi:i<v.length:=by omega
  rw [FK,Bool.and_eq_true,Bool.and_eq_true,nC m (i+1) (by omega),AR hi]
  simp only [Bool.or_eq_true,Bool.and_eq_true,decide_eq_true_eq]
  constructor
  ·rintro ⟨⟨h1,h2⟩,h3⟩ a ha hia
   by_cases e:a=i
   ·subst e
    exact ⟨h1,fun h0=>h2.resolve_left h0⟩
   ·exact h3 a ha (by omega)
  ·intro h3
   refine ⟨⟨(h3 i hi (Nat.le_refl _)).1,?_⟩,fun a ha hia=>h3 a ha (by omega)⟩
   by_cases e:i=0
   ·exact .inl e
   ·exact .inr ((h3 i hi (Nat.le_refl _)).2 e)
theorem xG {v:List Int}:FK v 0 v.length=true↔yG v:=by
 rw [nC _ _ (by omega)]
 constructor
 ·intro h
  refine ⟨fun a ha=>?_,?_⟩
  ·obtain ⟨i,hi,rfl⟩:=List.getElem_of_mem ha
   exact (h i hi (Nat.zero_le _)).1
  ·have st:∀ d a (ha:a+d+1<v.length),v.getD a 0<v.getD (a+d+1) 0:=by
    intro d
    induction d with
    | zero =>
     intro a ha
     have:=(h (a+1) (by omega) (Nat.zero_le _)).2 (by omega)
     rw [AR (show a+0+1<v.length from ha)]
     simpa using this
    | succ d ih =>
     intro a ha
     have h1:=ih a (by omega)
     have h2:=(h (a+(d+1)+1) ha (Nat.zero_le _)).2 (by omega)
     rw [AR ha]
     simp only [Nat.add_sub_cancel] at h2
     have h3:v.getD (a+d+1) 0<v[a+(d+1)+1]:=h2
     omega
   rw [List.pairwise_iff_getElem]
   intro i j hi hj hij
   have:=st (j-i-1) i (by omega)
   rw [show i+(j-i-1)+1=j by omega,AR hi,AR hj] at this
   exact this
 ·rintro ⟨h1,h2⟩ a ha _
  refine ⟨h1 _ (List.getElem_mem ha),fun h0=>?_⟩
  rw [AR (show a-1<v.length by omega)]
  exact (List.pairwise_iff_getElem.1 h2) (a-1) a (by omega) ha (by omega)
theorem s0 {v:List Int} (h:yG v):v.length≤6:=by
 have hs:v.Sublist [1,2,3,4,5,6]:=by
  have key:∀ (l:List Int) (n:Nat),n≤6→(∀ a∈l,(6-n:Int)<a∧a≤6)→l.Pairwise (· < ·)→l.length≤n:=by
   intro l
   induction l with
   | nil=>intro n _ _ _; simp
   | cons a l ih =>
    intro n hn hb hp
    have ha:=hb a (by simp)
    have hp2:=List.pairwise_cons.1 hp
    have:=ih ((6-a).toNat) (by omega) (fun b hb'=>⟨by have:=hp2.1 b hb'; omega,(hb b (by simp [hb'])).2⟩) hp2.2
    simp only [List.length_cons]
    omega
  have hl:=key v 6 (by omega) (fun a ha=>by have:=h.1 a ha; omega) h.2
  exact List.Sublist.trans (List.Sublist.refl v) (by
   have:∀ (l:List Int) (s:List Int),s.Pairwise (· < ·)→l.Pairwise (· < ·)→(∀ a∈l,a∈s)→l.Sublist s:=by
    intro l s
    induction s generalizing l with
    | nil =>
     intro _ _ hm
     cases l with
     | nil=>exact List.Sublist.slnil
     | cons a l=>exact absurd (hm a (by simp)) (by simp)
    | cons b s ih =>
     intro hs hl hm
     cases l with
     | nil=>exact List.nil_sublist _
     | cons a l =>
      have hs2:=List.pairwise_cons.1 hs
      have hl2:=List.pairwise_cons.1 hl
      rcases List.mem_cons.1 (hm a (by simp)) with e | e
      ·subst e
       refine (ih l hs2.2 hl2.2 fun c hc=>?_).cons_cons _
       rcases List.mem_cons.1 (hm c (by simp [hc])) with e | e
       ·have:=hl2.1 c hc; omega
       ·exact e
      ·refine (ih (a::l) hs2.2 hl fun c hc=>?_).cons _
       rcases List.mem_cons.1 (hm c hc) with e2 | e2
       ·have h1:=hs2.1 a e
        rcases List.mem_cons.1 hc with e3 | e3
        ·omega
        ·have:=hl2.1 c e3; omega
       ·exact e2
   refine this v [1,2,3,4,5,6] (by decide) h.2 fun a ha=>?_
   have:=h.1 a ha
   have h5:a=1∨a=2∨a=3∨a=4∨a=5∨a=6:=by omega
   rcases h5 with h | h | h | h | h | h<;>simp [h])
 simpa using hs.length_le
structure Iz (m:Z):Prop where
 id:1≤m.1∧m.1≤6
 ep:1≤m.2.1∧m.2.1≤9
 serves:m.2.2.2.2.2.1=true→m.2.2.2.1=true∧m.2.2.2.2.1=true∧m.2.2.2.2.2.2.1=[]
 fell:m.2.2.1=true→m.2.2.2.1=false∧m.2.2.2.2.1=false
 waits:yG m.2.2.2.2.2.2.1
 left:yG m.2.2.2.2.2.2.2.2.2.2.2.2.2
 items:Ao m.2.2.2.2.2.2.2.1=true
 count:0≤m.2.2.2.2.2.2.2.2.1∧m.2.2.2.2.2.2.2.2.1≤900
 task:JG m.2.2.2.2.2.2.2.2.2=true∨FM m.2.2.2.2.2.2.2.2.2 m.2.2.2.2.2.1=true
theorem s_ {m:Z}:T3 m=true↔Iz m:=by
 unfold T3
 simp only [Bool.and_eq_true,Bool.or_eq_true,Bool.not_eq_true',decide_eq_true_eq,xG,decide_eq_false_iff_not]
 constructor
 ·rintro ⟨⟨⟨⟨⟨⟨⟨⟨h1,h2⟩,h3⟩,h4⟩,h5⟩,h6⟩,h7⟩,h8⟩,h9⟩
  refine ⟨h1,h2,fun h=>?_,fun h=>?_,h5,h6,h7,h8,h9⟩
  ·rcases h3 with h3 | ⟨⟨a,b⟩,c⟩
   ·rw [h] at h3; cases h3
   ·exact ⟨a,b,List.length_eq_zero_iff.1 (by omega)⟩
  ·rcases h4 with h4 | h4
   ·rw [h] at h4; cases h4
   ·exact h4
 ·rintro ⟨h1,h2,h3,h4,h5,h6,h7,h8,h9⟩
  refine ⟨⟨⟨⟨⟨⟨⟨⟨h1,h2⟩,?_⟩,?_⟩,h5⟩,h6⟩,h7⟩,h8⟩,h9⟩
  ·cases hs:m.2.2.2.2.2.1 with
   | false=>exact .inl rfl
   | true =>
    obtain ⟨a,b,c⟩:=h3 hs
    exact .inr ⟨⟨a,b⟩,by rw [c]; simp⟩
  ·cases hs:m.2.2.1 with
   | false=>exact .inl rfl
   | true=>exact .inr (h4 hs)
theorem NG {x:List AL} (h:Ao x=true):x.length≤12:=(Cl.1 h).2.2
theorem Iz.lens {m:Z} (h:Iz m):m.2.2.2.2.2.2.1.length≤6∧m.2.2.2.2.2.2.2.1.length≤12∧m.2.2.2.2.2.2.2.2.2.2.2.2.2.length≤6:=⟨s0 h.waits,NG h.items,s0 h.left⟩
theorem eM (m:Z) (h1:m.2.2.2.2.2.2.1.length≤68719476736) (h2:m.2.2.2.2.2.2.2.1.length≤68719476736) (h3:m.2.2.2.2.2.2.2.2.2.2.2.2.2.length≤68719476736):D6 m=some m:=me (by
 unfold Yi
 rw [if_pos (by simpa using h1),if_pos (by simpa using h2),if_pos (by simpa using h3)]
 rfl)
theorem Iz.copy {m:Z} (h:Iz m):D6 m=some m:=by
 obtain ⟨h1,h2,h3⟩:=h.lens
 exact eM m (by omega) (by omega) (by omega)
def DM (view:List Int) (id:Int):List Int:=[1,2,3,4,5,6].filter fun v=>v != id&&view.contains v
theorem U1 (view:List Int) (id:Int):yG (DM view id):=by
 refine ⟨fun a ha=>?_,List.Pairwise.filter _ (by decide)⟩
 have:=(List.mem_filter.1 ha).1
 simp at this
 omega
theorem JH (view:List Int) (id:Int) (h:view.length≤maxLen):Gg view id=some (DM view id):=gT (by
 unfold Tk
 have step:∀ (v:Nat) (acc r:List Int),v≤6→1≤v→acc.length≤6→CG view id ((v+1:Nat):Int) (if ((v:Int) != id&&view.contains (v:Int))=true then acc++[(v:Int)] else acc)=some r→CG view id (v:Int) acc=some r:=by
  intro v acc r hv hv1 ha hr
  refine PD ?_
  unfold JE
  rw [if_pos (by simp; omega),AN (show v<9223372036854775807 by omega),Ct view _ h]
  by_cases h1:((v:Int) != id)=true
  ·rw [if_pos h1,Option.bind_some]
   by_cases h2:view.contains (v:Int)=true
   ·rw [if_pos h2,if_pos (by simp; omega)]
    rw [if_pos (by rw [h1,h2]; rfl)] at hr
    exact hr
   ·rw [if_neg h2]
    rw [if_neg (fun hc=>h2 (by simp only [Bool.and_eq_true] at hc; exact hc.2))] at hr
    exact hr
  ·rw [if_neg h1]
   rw [if_neg (fun hc=>h1 (by simp only [Bool.and_eq_true] at hc; exact hc.1))] at hr
   exact hr
 have fin:∀ acc,CG view id ((7:Nat):Int) acc=some acc:=fun acc=>PD (by
  unfold JE
  rw [if_neg (by decide)])
 have g:∀ (acc:List Int) (v:Int),(if (v != id&&view.contains v)=true then acc++[v] else acc).length≤acc.length+1:=by
  intro acc v; split<;>simp
 refine step 1 [] _ (by omega) (by omega) (by simp) ?_
 refine step 2 _ _ (by omega) (by omega) (by have:=g [] ((1:Nat):Int); simp only [List.length_nil] at this; omega) ?_
 have l2:=g [] ((1:Nat):Int)
 generalize e1:(if (((1:Nat):Int) != id&&view.contains ((1:Nat):Int))=true then ([]:List Int)++[((1:Nat):Int)] else [])=a1 at l2 ⊢
 have l3:=g a1 ((2:Nat):Int)
 generalize e2:(if (((2:Nat):Int) != id&&view.contains ((2:Nat):Int))=true then a1++[((2:Nat):Int)] else a1)=a2 at l3 ⊢
 have l4:=g a2 ((3:Nat):Int)
 simp only [List.length_nil] at l2
 refine step 3 _ _ (by omega) (by omega) (by omega) ?_
 generalize e3:(if (((3:Nat):Int) != id&&view.contains ((3:Nat):Int))=true then a2++[((3:Nat):Int)] else a2)=a3 at l4 ⊢
 have l5:=g a3 ((4:Nat):Int)
 refine step 4 _ _ (by omega) (by omega) (by omega) ?_
 generalize e4:(if (((4:Nat):Int) != id&&view.contains ((4:Nat):Int))=true then a3++[((4:Nat):Int)] else a3)=a4 at l5 ⊢
 have l6:=g a4 ((5:Nat):Int)
 refine step 5 _ _ (by omega) (by omega) (by omega) ?_
 generalize e5:(if (((5:Nat):Int) != id&&view.contains ((5:Nat):Int))=true then a4++[((5:Nat):Int)] else a4)=a5 at l6 ⊢
 refine step 6 _ _ (by omega) (by omega) (by omega) ?_
 rw [fin]
 congr 1
 unfold DM
 have fl:∀ (p:Int→Bool) (v:Int) (l:List Int),(v::l).filter p=(if p v=true then [v] else [])++l.filter p:=by
  intro p v l; rw [List.filter_cons]; split<;>simp
 have ap:∀ (c:Bool) (a:List Int) (v:Int),(if c=true then a++[v] else a)=a++(if c=true then [v] else []):=by
  intro c a v; split<;>simp
 rw [ap,← e5,ap,← e4,ap,← e3,ap,← e2,ap,← e1,ap]
 simp only [fl,List.filter_nil,List.append_nil,List.nil_append,List.append_assoc]
 rfl)
theorem nD {v:List Int} (h:yG v) (p:Int→Bool):yG (v.filter p):=⟨fun a ha=>h.1 a (List.mem_filter.1 ha).1,h.2.filter p⟩
theorem N3 (v:List Int) (x:Int) (h:v.length≤68719476736):Hr v x=some (v.filter (· != x)):=eG (by
 unfold SE
 have key:=GI (n:=v.length) (P:=fun i=>∀ acc:List Int,acc.length≤i→D8 v x (i:Int) acc=some (acc++(v.drop i).filter (· != x))) (fun acc ha=>Ny (by
  unfold IX
  rw [if_neg (by simp)]
  simp)) (fun i hi ih acc ha=>Ny (by
  unfold IX
  simp only [show ((i:Int)<(v.length:Int)) from by omega,decide_true,if_true,show (0:Int)≤(i:Int) from by omega,Int.toNat_natCast,AR hi,AN (show i<9223372036854775807 by omega)]
  rw [BY hi,List.filter_cons]
  by_cases hh:(v[i] != x)=true
  ·rw [if_pos hh,if_pos (by simp; omega),ih _ (by simp; omega),if_pos hh,List.append_assoc]
   rfl
  ·rw [if_neg hh,ih _ (by omega),if_neg hh])) 0 (by omega) [] (by simp)
 simpa using key)
end Go.Proofs.YtokiohnjegbnpaaGreat.Core

namespace Go.Proofs.YtokiohnjegbnpaaGreat.Core
open Go
set_option linter.unusedVariables false
set_option linter.unusedSimpArgs false
def Bx (view:List Int) (id:Int):List Int:=view.filter (· != id)
def Qn (m:Z) (view:List Int) (its:List AL):Z :=
 (m.1,m.2.1,m.2.2.1,true,m.2.2.2.2.1,(((DM view m.1).length:Int)==0),DM view m.1,its,m.2.2.2.2.2.2.2.2)
def T6 (m:Z) (e:Int):Z :=
 (m.1,e,false,false,false,false,([]:List Int),m.2.2.2.2.2.2.2.1,(0:Int),(0:Int),(0:Int),(0:Int),(ByteArray.empty,ByteArray.empty,(0:Int)),([]:List Int))
def EQ (m:Z) (x:BM) (k:Int):List BM:=[(k,m.1,x.2.1,x.2.2.2.1,x.2.2.2.2.1,([]:List AL))]
def NH (m:Z) (its:List AL):Z :=
 (m.1,m.2.1,m.2.2.1,m.2.2.2.1,m.2.2.2.2.1,m.2.2.2.2.2.1,m.2.2.2.2.2.2.1,its,m.2.2.2.2.2.2.2.2.1,(0:Int),(0:Int),(0:Int),(ByteArray.empty,ByteArray.empty,(0:Int)),([]:List Int))
def Br (m:Z):List Cw×Z :=
 if (m.2.2.2.2.2.2.2.2.2.1==1)=true then ([(m.2.2.2.2.2.2.2.2.2.2.1,m.2.1,m.2.2.2.2.2.2.2.2.2.2.2.1,m.2.2.2.2.2.2.2.2.2.2.2.2.1)],NH m (Ai m.2.2.2.2.2.2.2.1 m.2.2.2.2.2.2.2.2.2.2.2.2.1))
 else ([(m.2.2.2.2.2.2.2.2.2.2.1,m.2.1,m.2.2.2.2.2.2.2.2.2.2.2.1,BC m.2.2.2.2.2.2.2.1 m.2.2.2.2.2.2.2.2.2.2.2.2.1.1)],NH m m.2.2.2.2.2.2.2.1)
theorem T7 (view:List Int) (its:List AL) (m:Z) (h:view.length≤68719476736) (hi:its.length≤68719476736) :
  NT view its m=some ((Bx view m.1).map (fun v=>(3,m.1,v,m.2.1,0,its)),Qn m view its):=oB (by
 unfold aH
 rw [if_pos (by simpa using hi),JH view _ (by unfold maxLen; omega),Option.bind_some]
 have key:=GI (n:=view.length) (P:=fun i=>∀ acc:List BM,acc.length≤i→Gn view its (i:Int) (Qn m view its) acc ([]++its)=some (acc++((view.drop i).filter (· != m.1)).map (fun v=>((3:Int),m.1,v,m.2.1,(0:Int),its)),Qn m view its)) (fun acc ha=>Tm (by
  unfold M5
  rw [if_neg (by simp)]
  simp)) (fun i hi2 ih acc ha=>Tm (by
  unfold M5
  simp only [show ((i:Int)<(view.length:Int)) from by omega,decide_true,if_true,show (0:Int)≤(i:Int) from by omega,Int.toNat_natCast,AR hi2,AN (show i<9223372036854775807 by omega)]
  rw [show (Qn m view its).1=m.1 from rfl,show (Qn m view its).2.1=m.2.1 from rfl,BY hi2,List.filter_cons]
  by_cases hh:(view[i] != m.1)=true
  ·rw [if_pos hh,if_pos (by simpa using hi),if_pos (by simp; omega),ih _ (by simp; omega),if_pos hh,List.map_cons,List.append_assoc]
   rfl
  ·rw [if_neg hh,ih _ (by omega),if_neg hh])) 0 (by omega) [] (by simp)
 exact key)
theorem SI (m:Z) (e:Int) (h:m.2.2.2.2.2.2.2.1.length≤68719476736):Lc m e=some (T6 m e):=m3 (by
 unfold Yv
 rw [if_pos (by simpa using h)]
 rfl)
theorem HE (m:Z) (x:BM) (k:Int):EJ m x k=some (EQ m x k):=jo rfl
theorem JI (m:Z) (h:m.2.2.2.2.2.2.2.1.length≤34359738367):Gh m=some (Br m):=gU (by
 unfold Tl Br
 rw [MJ _ _ h,Tz _ _ (by unfold maxLen; omega)]
 split<;>rfl)
def oh (m:Z) (f:Int):Z :=
 (m.1,m.2.1,m.2.2.1,m.2.2.2.1,m.2.2.2.2.1,m.2.2.2.2.2.1,m.2.2.2.2.2.2.1,m.2.2.2.2.2.2.2.1,m.2.2.2.2.2.2.2.2.1,m.2.2.2.2.2.2.2.2.2.1,m.2.2.2.2.2.2.2.2.2.2.1,m.2.2.2.2.2.2.2.2.2.2.2.1,m.2.2.2.2.2.2.2.2.2.2.2.2.1,m.2.2.2.2.2.2.2.2.2.2.2.2.2.filter (· != f))
def F_ (m:Z) (f:Int):Z×List BM×List Cw :=
 if (((m.2.2.2.2.2.2.2.2.2.2.2.2.2.filter (· != f)).length:Int)==0)=true then ((Br (oh m f)).2,[],(Br (oh m f)).1) else (oh m f,[],[])
def Y7 (m:Z) (view:List Int) (x:BM):Z×List BM×List Cw :=
 if x.1=2 then (if (m.2.2.2.2.1&&!m.2.2.2.1)=true then (Qn m view x.2.2.2.2.2,(Bx view m.1).map (fun v=>(3,m.1,v,m.2.1,0,x.2.2.2.2.2)),[]) else (m,[],[]))
 else if x.1=3 then (if (!view.contains m.1||(view.getD 0 0==m.1))=true then (m,[],[]) else if (!m.2.2.2.1&&m.2.2.1)=true then (m,[],[])
  else if m.2.2.2.1=true then (m,EQ m x 4,[]) else
   ((m.1,m.2.1,false,true,false,false,([]:List Int),x.2.2.2.2.2,(0:Int),(0:Int),(0:Int),(0:Int),(ByteArray.empty,ByteArray.empty,(0:Int)),([]:List Int)),EQ m x 4,[]))
 else if x.1=4 then (if m.2.2.2.2.1=true then
   ((m.1,m.2.1,m.2.2.1,m.2.2.2.1,m.2.2.2.2.1,m.2.2.2.1&&(((m.2.2.2.2.2.2.1.filter (· != x.2.1)).length:Int)==0),m.2.2.2.2.2.2.1.filter (· != x.2.1),m.2.2.2.2.2.2.2),[],[]) else (m,[],[]))
 else if x.1=5 then (if m.2.2.2.1=true then
   ((m.1,m.2.1,m.2.2.1,m.2.2.2.1,m.2.2.2.2.1,m.2.2.2.2.2.1,m.2.2.2.2.2.2.1,Ai m.2.2.2.2.2.2.2.1 (x.2.2.2.2.2.getD 0 (ByteArray.empty,ByteArray.empty,(0:Int))),m.2.2.2.2.2.2.2.2),EQ m x 6,[]) else (m,[],[]))
 else if x.1=7 then (if m.2.2.2.1=true then (m,EQ m x 8,[]) else (m,[],[]))
 else if (x.1=6∨x.1=8)∧m.2.2.2.2.2.2.2.2.2.1=(if x.1=8 then 2 else 1)∧m.2.2.2.2.2.2.2.2.2.2.2.1=x.2.2.2.2.1 then
  (F_ m x.2.1)
 else (m,[],[])
theorem gz (m:Z) (view:List Int) (x:BM) (hm:Iz m) (hv:view.length≤68719476736) (hv0:0<view.length) (hx:x.2.2.2.2.2.length≤68719476736) (h5:x.1=5→0<x.2.2.2.2.2.length) :
  SU m view x=some (Y7 m view x):=oC (by
 obtain ⟨l1,l2,l3⟩:=hm.lens
 unfold aI
 rw [hm.copy,Option.bind_some]
 unfold Y7
 by_cases k2:x.1=2
 ·rw [if_pos (by simpa using k2),if_pos k2]
  have J:∀ b y,Iu view [] [] b m x y m=some (if b=true then (Qn m view x.2.2.2.2.2,(Bx view m.1).map (fun v=>(3,m.1,v,m.2.1,0,x.2.2.2.2.2)),[]) else (m,[],[])):=fun b y=>gW (by
   unfold Tn
   cases b
   ·rfl
   ·rw [if_pos rfl,T7 view _ m hv hx]
    rfl)
  rw [J,J]
  cases m.2.2.2.2.1<;>cases m.2.2.2.1<;>rfl
 ·rw [if_neg (by simpa using k2),if_neg k2]
  by_cases k3:x.1=3
  ·rw [if_pos (by simpa using k3),if_pos k3,Ct view _ (by unfold maxLen; omega),Option.bind_some]
   have J2:∀ b y,Iv [] [] b m x y m=some (if m.2.2.2.1=true then (m,EQ m x 4,[]) else
     ((m.1,m.2.1,false,true,false,false,([]:List Int),x.2.2.2.2.2,(0:Int),(0:Int),(0:Int),(0:Int),(ByteArray.empty,ByteArray.empty,(0:Int)),([]:List Int)),EQ m x 4,[])):=fun b y=>gX (by
    unfold To
    rw [SI m _ (by omega),HE,Option.bind_some,Option.bind_some]
    have hx':([]:List AL).length+x.2.2.2.2.2.length≤68719476736:=by simpa using hx
    cases m.2.2.2.1
    ·rw [if_pos (show (!false)=true from rfl),if_pos hx']; rfl
    ·rfl)
   have J1:∀ b y,M6 [] [] b m x y m=some (if (!m.2.2.2.1&&m.2.2.1)=true then (m,[],[]) else if m.2.2.2.1=true then (m,EQ m x 4,[]) else
     ((m.1,m.2.1,false,true,false,false,([]:List Int),x.2.2.2.2.2,(0:Int),(0:Int),(0:Int),(0:Int),(ByteArray.empty,ByteArray.empty,(0:Int)),([]:List Int)),EQ m x 4,[])):=fun b y=>gY (by
    unfold Tp
    rw [J2,J2]
    cases m.2.2.2.1<;>cases m.2.2.1<;>rfl)
   rw [show view.getD (0:Int).toNat 0=view.getD 0 0 from rfl]
   cases view.contains m.1
   ·rfl
   ·rw [if_neg (by simp),if_pos (by omega),if_pos (by omega),J1]
    cases (view.getD 0 0==m.1)<;>rfl
  ·rw [if_neg (by simpa using k3),if_neg k3]
   by_cases k4:x.1=4
   ·rw [if_pos (by simpa using k4),if_pos k4,N3 _ _ (by omega),Option.bind_some]
    cases m.2.2.2.2.1<;>cases m.2.2.2.1<;>rfl
   ·rw [if_neg (by simpa using k4),if_neg k4]
    by_cases k5:x.1=5
    ·have:=h5 k5
     rw [if_pos (by simpa using k5),if_pos k5,MJ _ _ (by omega),Option.bind_some,HE,Option.bind_some,show x.2.2.2.2.2.getD (0:Int).toNat (ByteArray.empty,ByteArray.empty,(0:Int))=x.2.2.2.2.2.getD 0 (ByteArray.empty,ByteArray.empty,(0:Int)) from rfl]
     cases m.2.2.2.1
     ·rfl
     ·rw [if_pos rfl,if_pos rfl,if_pos (by omega),if_pos (by omega)]
    ·rw [if_neg (by simpa using k5),if_neg k5]
     by_cases k7:x.1=7
     ·rw [if_pos (by simpa using k7),if_pos k7,HE,Option.bind_some]
      cases m.2.2.2.1<;>rfl
     ·rw [if_neg (by simpa using k7),if_neg k7]
      have J5:∀ b y,M7 [] [] b m x y m=some (F_ m x.2.1):=fun b y=>gZ (by
       unfold Tq
       rw [N3 _ _ (by omega),Option.bind_some,JI _ (by simp only; omega),Option.bind_some]
       unfold F_
       split<;>rfl)
      have J4:∀ op y,Iw [] [] op m x y m=some (if m.2.2.2.2.2.2.2.2.2.1=op∧m.2.2.2.2.2.2.2.2.2.2.2.1=x.2.2.2.2.1 then (F_ m x.2.1) else (m,[],[])):=fun op y=>ga (by
       unfold Tr
       rw [J5]
       by_cases h1:m.2.2.2.2.2.2.2.2.2.1=op
       ·rw [if_pos (by simp [h1])]
        by_cases h2:m.2.2.2.2.2.2.2.2.2.2.2.1=x.2.2.2.2.1
        ·rw [if_neg (by simp [h2]),if_pos (show _∧_ from ⟨h1,h2⟩)]
        ·rw [if_pos (by simp [h2]),if_neg (show ¬(_∧_) from fun h=>h2 h.2)]
       ·rw [if_neg (by simp [h1]),if_neg (fun h=>h1 h.1)])
      have J3:∀ b y,Ix [] [] b m x y m=some (if b=true∧m.2.2.2.2.2.2.2.2.2.1=(if x.1=8 then 2 else 1)∧m.2.2.2.2.2.2.2.2.2.2.2.1=x.2.2.2.2.1 then (F_ m x.2.1) else (m,[],[])):=fun b y=>gd (by
       unfold Ts
       rw [J4,J4]
       cases b
       ·rw [if_neg (by simp),if_neg (by simp)]
       ·rw [if_pos rfl]
        by_cases k8:x.1=8
        ·simp only [k8,beq_self_eq_true,if_true,true_and]
        ·rw [if_neg (by simpa using k8)]
         simp only [k8,if_false,true_and])
      rw [J3,J3]
      by_cases k6:x.1=6
      ·simp only [k6,beq_self_eq_true,if_true,true_and,true_or]
      ·rw [if_neg (by simpa using k6)]
       simp only [k6,false_or,beq_iff_eq])
structure Qh (views:List (List Int)):Prop where
 ok:E6 views views.length views=true
theorem JX {n:Nat}:∀ {l:List (List Int)} {x:List (List Int)},E6 x n l=true↔(∀ v∈l,U0 v=true)∧1≤n∧n≤9
 | [],x=>by simp [E6]; omega
 | v::l,x=>by
  rw [E6,Bool.and_eq_true,JX]
  simp [and_assoc]
theorem Qh.len {views:List (List Int)} (h:Qh views):1≤views.length∧views.length≤9:=(JX.1 h.ok).2
theorem Qh.view {views:List (List Int)} (h:Qh views) {v:List Int} (hv:v∈views):1≤v.length∧v.length≤4:=by
 have:=(JX.1 h.ok).1 v hv
 unfold U0 at this
 simp only [Bool.and_eq_true,decide_eq_true_eq] at this
 omega
theorem Qh.get {views:List (List Int)} (h:Qh views) {i:Nat} (hi:i<views.length):1≤(views.getD i []).length∧(views.getD i []).length≤4:=by
 rw [AR hi]
 exact h.view (List.getElem_mem hi)
theorem GA {views:List (List Int)} (h:Qh views):D5 views=some true:=by
 rw [eK views (by have:=h.len; unfold maxLen; omega) (fun a ha=>by have:=h.view ha; unfold maxLen; omega),h.ok]
theorem KD {m:Z} (h:Iz m):Fe m=some true:=by
 obtain ⟨h1,h2,h3⟩:=h.lens
 rw [bY m (by unfold maxLen; omega) (by unfold maxLen; omega) (by unfold maxLen; omega),s_.2 h]
def DN (m:Z) (views:List (List Int)) (x:BM):Z×List BM×List Cw :=
 if (T5 x&&(x.2.2.1==m.1)&&decide (m.2.1≤x.2.2.2.1)&&decide (x.2.2.2.1≤(views.length:Int)))=true then
  if x.2.2.2.1=m.2.1 then Y7 m (views.getD (m.2.1-1).toNat []) x
  else if (x.1==1&&(x.2.2.2.1==m.2.1+1)&&m.2.2.2.1&&(views.getD (m.2.1-1).toNat []).contains m.1)=true then (T6 m x.2.2.2.1,[(2,m.1,x.2.1,x.2.2.2.1,0,m.2.2.2.2.2.2.2.1)],[])
  else if (x.1==3&&(views.getD (x.2.2.2.1-1).toNat []).contains m.1&&((views.getD (x.2.2.2.1-1).toNat []).getD 0 0 != m.1))=true then
   ((m.1,x.2.2.2.1,false,true,false,false,([]:List Int),x.2.2.2.2.2,(0:Int),(0:Int),(0:Int),(0:Int),(ByteArray.empty,ByteArray.empty,(0:Int)),([]:List Int)),EQ m x 4,[])
  else (m,[],[])
 else (m,[],[])
theorem xH {x:BM} (h:T5 x=true):x.2.2.2.2.2.length≤12∧(x.1=5→x.2.2.2.2.2.length=1):=by
 unfold T5 at h
 simp only [Bool.and_eq_true] at h
 refine ⟨NG (x:=x.2.2.2.2.2) h.1.2,fun h5=>?_⟩
 have:=h.2
 rw [if_neg (by omega),if_pos h5] at this
 simp only [beq_iff_eq] at this
 omega
theorem eN (m:Z) (views:List (List Int)) (x:BM) (hm:Iz m) (hv:Qh views) (hx:x.2.2.2.2.2.length≤68719476736) :
  P_ m views x=some (DN m views x):=mr (by
 have hvl:=hv.len
 have hep:=hm.ep
 unfold Yq DN
 rw [hm.copy,Option.bind_some,KD hm,Option.bind_some,if_pos (by rfl),GA hv,Option.bind_some,if_pos (by rfl),jv x (by unfold maxLen; omega),Option.bind_some]
 cases hmo:T5 x with
 | false=>rfl
 | true =>
  obtain ⟨xl,x5⟩:=xH hmo
  rw [if_pos (by rfl)]
  by_cases h1:x.2.2.1=m.1
  ·rw [if_pos (by simp [h1])]
   by_cases h2:x.2.2.2.1<m.2.1
   ·rw [if_neg (by simpa using h2),if_neg (by simp; omega)]
   ·rw [if_pos (by simpa using h2)]
    by_cases h3:x.2.2.2.1>(views.length:Int)
    ·rw [if_neg (by simpa using h3),if_neg (by simp; omega)]
    ·rw [if_pos (by simpa using h3),if_neg (by simp; omega),if_pos (by simp [h1]; omega)]
     have wm:IntKind.i64.wrap (m.2.1-1)=m.2.1-1:=AY (by omega)
     have wp:IntKind.i64.wrap (m.2.1+1)=m.2.1+1:=AY (by omega)
     have wx:IntKind.i64.wrap (x.2.2.2.1-1)=x.2.2.2.1-1:=AY (by omega)
     have g1:=hv.get (i:=(m.2.1-1).toNat) (by omega)
     have g2:=hv.get (i:=(x.2.2.2.1-1).toNat) (by omega)
     have J3:∀ b y,F6 [] [] b m x y m=some (if b=true then ((m.1,x.2.2.2.1,false,true,false,false,([]:List Int),x.2.2.2.2.2,(0:Int),(0:Int),(0:Int),(0:Int),(ByteArray.empty,ByteArray.empty,(0:Int)),([]:List Int)),EQ m x 4,[]) else (m,[],[])):=fun b y=>du (by
      unfold R2
      cases b
      ·rfl
      ·rw [if_pos rfl,if_pos (by simpa using hx),HE]
       rfl)
     have J2:∀ b y,L9 views [] [] b m x y m=some (if (x.1==3&&(views.getD (x.2.2.2.1-1).toNat []).contains m.1&&((views.getD (x.2.2.2.1-1).toNat []).getD 0 0 != m.1))=true then
       ((m.1,x.2.2.2.1,false,true,false,false,([]:List Int),x.2.2.2.2.2,(0:Int),(0:Int),(0:Int),(0:Int),(ByteArray.empty,ByteArray.empty,(0:Int)),([]:List Int)),EQ m x 4,[]) else (m,[],[])):=fun b y=>dv (by
      unfold R3
      rw [wx,if_pos (by omega),if_pos (by omega),Ct _ _ (by unfold maxLen; omega),Option.bind_some,show (views.getD (x.2.2.2.1-1).toNat ([]:List Int)).getD (0:Int).toNat 0=(views.getD (x.2.2.2.1-1).toNat []).getD 0 0 from rfl]
      simp only [J3]
      rw [if_pos (show (0:Int)≤0 by omega),if_pos (show (0:Int)<((views.getD (x.2.2.2.1-1).toNat ([]:List Int)).length:Int) by omega)]
      cases (x.1==3)<;>cases (views.getD (x.2.2.2.1-1).toNat ([]:List Int)).contains m.1<;>rfl)
     have J1:∀ b y,EF views [] [] b m x y m=some (if b=true then (T6 m x.2.2.2.1,[(2,m.1,x.2.1,x.2.2.2.1,0,m.2.2.2.2.2.2.2.1)],[]) else
       if (x.1==3&&(views.getD (x.2.2.2.1-1).toNat []).contains m.1&&((views.getD (x.2.2.2.1-1).toNat []).getD 0 0 != m.1))=true then
       ((m.1,x.2.2.2.1,false,true,false,false,([]:List Int),x.2.2.2.2.2,(0:Int),(0:Int),(0:Int),(0:Int),(ByteArray.empty,ByteArray.empty,(0:Int)),([]:List Int)),EQ m x 4,[]) else (m,[],[])):=fun b y=>dw (by
      unfold R4
      have hl:([]:List AL).length+m.2.2.2.2.2.2.2.1.length≤68719476736:=by have:=hm.lens; simp; omega
      rw [J2,SI m _ (by have:=hm.lens; omega),Option.bind_some,if_pos hl]
      cases b<;>rfl)
     refine dx ?_
     unfold R5
     rw [wm,wp]
     by_cases h4:x.2.2.2.1=m.2.1
     ·rw [if_pos (by simpa using h4),if_pos (by omega),if_pos (by omega),if_pos h4,gz m _ x hm (by omega) (by omega) hx (fun h=>by have:=x5 h; omega)]
      rfl
     ·rw [if_neg (by simpa using h4),if_neg h4,Ct _ _ (by unfold maxLen; omega),Option.bind_some]
      simp only [J1]
      rw [if_pos (show (0:Int)≤m.2.1-1 by omega),if_pos (show m.2.1-1<(views.length:Int) by omega)]
      cases (x.1==1)<;>cases (x.2.2.2.1==m.2.1+1)<;>cases m.2.2.2.1<;>cases (views.getD (m.2.1-1).toNat ([]:List Int)).contains m.1<;>rfl
  ·rw [if_neg (by simp [h1]),if_neg (by simp [h1])])
end Go.Proofs.YtokiohnjegbnpaaGreat.Core

namespace Go.Proofs.YtokiohnjegbnpaaGreat.Core
open Go
set_option linter.unusedVariables false
set_option linter.unusedSimpArgs false
theorem aK {v:List Int}:∀ (m i:Nat),i+m=v.length→(HW v i m=true↔∀ a (ha:a<v.length),i≤a→(1≤v[a]∧v[a]≤6)∧v[a]∉v.take a)
 | 0,i,h=>by
  simp only [HW,true_iff]
  intro a ha hi
  omega
 | m+1,i,h=>by
  have hi:i<v.length:=by omega
  rw [HW,Bool.and_eq_true,Bool.and_eq_true,aK m (i+1) (by omega),AR hi]
  simp only [Bool.and_eq_true,decide_eq_true_eq,Bool.not_eq_true',List.contains_eq_mem,decide_eq_false_iff_not]
  constructor
  ·rintro ⟨⟨h1,h2⟩,h3⟩ a ha hia
   by_cases e:a=i
   ·subst e
    exact ⟨h1,h2⟩
   ·exact h3 a ha (by omega)
  ·intro h3
   exact ⟨⟨(h3 i hi (Nat.le_refl _)).1,(h3 i hi (Nat.le_refl _)).2⟩,fun a ha hia=>h3 a ha (by omega)⟩
structure uM (v:List Int):Prop where
 len:1≤v.length∧v.length≤4
 mem:∀ a∈v,1≤a∧a≤6
 nd:v.Nodup
theorem tA {v:List Int}:U0 v=true↔uM v:=by
 unfold U0
 simp only [Bool.and_eq_true,decide_eq_true_eq]
 rw [aK _ _ (by omega)]
 constructor
 ·rintro ⟨h1,h2⟩
  refine ⟨by omega,fun a ha=>?_,?_⟩
  ·obtain ⟨i,hi,rfl⟩:=List.getElem_of_mem ha
   exact (h2 i hi (Nat.zero_le _)).1
  ·rw [List.nodup_iff_pairwise_ne,List.pairwise_iff_getElem]
   intro i j hi hj hij e
   have:=(h2 j hj (Nat.zero_le _)).2
   apply this
   rw [← e]
   exact List.mem_iff_getElem.2 ⟨i,by rw [List.length_take]; omega,by rw [List.getElem_take]⟩
 ·rintro ⟨h1,h2,h3⟩
  refine ⟨by omega,fun a ha _=>⟨h2 _ (List.getElem_mem ha),fun hm=>?_⟩⟩
  obtain ⟨i,hi,e⟩:=List.getElem_of_mem hm
  rw [List.length_take] at hi
  rw [List.getElem_take] at e
  have:=(List.getElem_inj h3).1 e
  omega
theorem Qh.wok {views:List (List Int)} (h:Qh views) {i:Nat} (hi:i<views.length):uM (views.getD i []):=by
 rw [AR hi]
 exact tA.1 ((JX.1 h.ok).1 _ (List.getElem_mem hi))
structure uH (x:BM):Prop where
 kind:1≤x.1∧x.1≤8
 frm:1≤x.2.1∧x.2.1≤6
 to:1≤x.2.2.1∧x.2.2.1≤6
 ep:1≤x.2.2.2.1∧x.2.2.2.1≤9
 num:0≤x.2.2.2.2.1∧x.2.2.2.2.1≤1000000000
 items:Ao x.2.2.2.2.2=true
 shape:if x.1=2∨x.1=3 then True else if x.1=5 then x.2.2.2.2.2.length=1 else x.2.2.2.2.2=[]
theorem ZU {x:BM}:T5 x=true↔uH x:=by
 unfold T5
 simp only [Bool.and_eq_true,decide_eq_true_eq]
 constructor
 ·rintro ⟨⟨⟨⟨⟨⟨h1,h2⟩,h3⟩,h4⟩,h5⟩,h6⟩,h7⟩
  refine ⟨h1,h2,h3,h4,h5,h6,?_⟩
  split at h7
  ·rename_i e; rw [if_pos e]; trivial
  ·rename_i e
   rw [if_neg e]
   split at h7
   ·rename_i e2; rw [if_pos e2]; simp only [beq_iff_eq] at h7; omega
   ·rename_i e2; rw [if_neg e2]; simp only [beq_iff_eq] at h7; exact List.length_eq_zero_iff.1 (by omega)
 ·rintro ⟨h1,h2,h3,h4,h5,h6,h7⟩
  refine ⟨⟨⟨⟨⟨⟨h1,h2⟩,h3⟩,h4⟩,h5⟩,h6⟩,?_⟩
  split
  ·rfl
  ·rename_i e
   rw [if_neg e] at h7
   split
   ·rename_i e2; rw [if_pos e2] at h7; simp; omega
   ·rename_i e2; rw [if_neg e2] at h7; simp [h7]
theorem Ph:Ao []=true:=rfl
def ba (m n:Z) (l:List BM):Prop:=∀ y∈l,uH y∧y.2.1=m.1∧y.2.2.2.1=n.2.1
theorem eO {m n:Z} {view:List Int} {k num:Int} {its:List AL} (hm:1≤m.1∧m.1≤6) (he:1≤n.2.1∧n.2.1≤9) (hv:∀ a∈view,1≤a∧a≤6) (hk:1≤k∧k≤8) (hn:0≤num∧num≤1000000000) (hi:Ao its=true)
  (hs:if k=2∨k=3 then True else if k=5 then its.length=1 else its=[]):ba m n ((Bx view m.1).map fun v=>(k,m.1,v,n.2.1,num,its)):=by
 intro y hy
 obtain ⟨v,hv2,rfl⟩:=List.mem_map.1 hy
 exact ⟨⟨hk,hm,hv v (List.mem_filter.1 hv2).1,he,hn,hi,hs⟩,rfl,rfl⟩
theorem Qc {m n:Z} {x:BM} {k:Int} (hm:1≤m.1∧m.1≤6) (hx:uH x) (he:x.2.2.2.1=n.2.1) (hk:k=4∨k=6∨k=8):ba m n (EQ m x k):=by
 intro y hy
 simp only [EQ,List.mem_singleton] at hy
 subst hy
 refine ⟨⟨by show 1≤k∧k≤8; omega,hm,hx.frm,hx.ep,hx.num,Ph,?_⟩,rfl,he⟩
 show if k=2∨k=3 then True else if k=5 then ([]:List AL).length=1 else ([]:List AL)=[]
 rw [if_neg (by omega),if_neg (by omega)]
theorem Y8 {m n:Z}:ba m n []:=fun y hy=>by cases hy
theorem ZV:JG ((0:Int),(0:Int),(0:Int),(ByteArray.empty,ByteArray.empty,(0:Int)),([]:List Int))=true:=by simp [JG,XY]
theorem Iz.has {m:Z} {view:List Int} {its:List AL} (h:Iz m) (hl:m.2.2.2.2.1=true) (hb:m.2.2.2.1=false) (hi:Ao its=true):Iz (Qn m view its):=by
 have hns:m.2.2.2.2.2.1=false:=by
  cases hs:m.2.2.2.2.2.1 with
  | false=>rfl
  | true=>have:=(h.serves hs).1; rw [hb] at this; cases this
 refine ⟨h.id,h.ep,fun hs=>⟨rfl,hl,?_⟩,fun hf=>?_,U1 _ _,h.left,hi,h.count,?_⟩
 ·simp only [Qn,beq_iff_eq] at hs ⊢
  exact List.length_eq_zero_iff.1 (by omega)
 ·have:=(h.fell hf).2; rw [hl] at this; cases this
 ·rcases h.task with h1 | h1
  ·exact .inl h1
  ·unfold FM at h1
   rw [hns] at h1
   simp at h1
theorem Iz.bare {m:Z} (h:Iz m) {e:Int} (he:1≤e∧e≤9):Iz (T6 m e) :=
 ⟨h.id,he,fun hs=>(by cases hs),fun hf=>(by cases hf),⟨by simp [T6],by simp [T6]⟩,⟨by simp [T6],by simp [T6]⟩,h.items,⟨by simp [T6],by simp [T6]⟩,.inl ZV⟩
theorem Iz.install {m:Z} (h:Iz m) {e:Int} {its:List AL} (he:1≤e∧e≤9) (hi:Ao its=true) :
  Iz (m.1,e,false,true,false,false,([]:List Int),its,(0:Int),(0:Int),(0:Int),(0:Int),(ByteArray.empty,ByteArray.empty,(0:Int)),([]:List Int)) :=
 ⟨h.id,he,fun hs=>(by cases hs),fun hf=>(by cases hf),⟨by simp,by simp⟩,⟨by simp,by simp⟩,hi,⟨by simp,by simp⟩,.inl ZV⟩
theorem Iz.clear {m:Z} (h:Iz m) {its:List AL} (hi:Ao its=true):Iz (NH m its) :=
 ⟨h.id,h.ep,h.serves,h.fell,h.waits,⟨by simp [NH],by simp [NH]⟩,hi,h.count,.inl ZV⟩
theorem Iz.finish {m:Z} (h:Iz m):Iz (Br m).2:=by
 unfold Br
 split
 ·exact h.clear (Ib h.items)
 ·exact h.clear h.items
theorem xI {m:Z} (h:Iz m) (h0:m.2.2.2.2.2.2.2.2.2.1≠0):FM m.2.2.2.2.2.2.2.2.2 m.2.2.2.2.2.1=true:=by
 rcases h.task with h1 | h1
 ·unfold JG at h1
  simp only [Bool.and_eq_true,beq_iff_eq] at h1
  exact absurd h1.1.1.1.1 h0
 ·exact h1
def g7 (l:List Cw):Prop:=l.length≤1∧∀ s∈l,0≤s.1∧s.1≤1000
theorem FN:g7 []:=⟨by simp,fun s hs=>by cases hs⟩
theorem iT {m:Z} (h:Iz m) (h0:m.2.2.2.2.2.2.2.2.2.1≠0):g7 (Br m).1:=by
 have h1:=xI h h0
 unfold FM at h1
 simp only [Bool.and_eq_true,decide_eq_true_eq] at h1
 unfold Br
 split
 ·exact ⟨by simp,fun s hs=>by simp at hs; subst hs; exact h1.1.2⟩
 ·exact ⟨by simp,fun s hs=>by simp at hs; subst hs; exact h1.1.2⟩
structure qO (m:Z) (r:Z×List BM×List Cw):Prop where
 mok:Iz r.1
 id:r.1.1=m.1
 ep:m.2.1≤r.1.2.1
 told:ba m r.1 r.2.1
 tlen:r.2.1.length≤4
 said:g7 r.2.2
theorem HF {m:Z} (h:Iz m):qO m (m,[],[]):=⟨h,rfl,Int.le_refl _,Y8,by simp,FN⟩
theorem HG (view:List Int) (id:Int):(Bx view id).length≤view.length:=List.length_filter_le _ _
theorem Iz.left_filter {m:Z} (h:Iz m) (f:Int):Iz (oh m f):=by
 refine ⟨h.id,h.ep,h.serves,h.fell,h.waits,nD h.left _,h.items,h.count,?_⟩
 rcases h.task with h1 | h1
 ·left
  unfold JG at h1 ⊢
  simp only [Bool.and_eq_true,beq_iff_eq] at h1 ⊢
  refine ⟨h1.1,?_⟩
  have h2:=List.length_filter_le (· != f) m.2.2.2.2.2.2.2.2.2.2.2.2.2
  have h3:=h1.2
  show (((m.2.2.2.2.2.2.2.2.2.2.2.2.2.filter (· != f)).length:Nat):Int)=0
  omega
 ·exact .inr h1
theorem xJ {m:Z} {view:List Int} {x:BM} (hm:Iz m) (hv:uM view) (hx:uH x) (he:x.2.2.2.1=m.2.1):qO m (Y7 m view x):=by
 unfold Y7
 split
 ·split
  ·rename_i h1 h2
   simp only [Bool.and_eq_true,Bool.not_eq_true'] at h2
   refine ⟨hm.has h2.1 h2.2 hx.items,rfl,Int.le_refl _,?_,by simp only [List.length_map]; have:=HG view m.1; have:=hv.len; omega,FN⟩
   exact eO (n:=Qn m view x.2.2.2.2.2) hm.id hm.ep hv.mem (by omega) (by omega) hx.items (by simp)
  ·exact HF hm
 ·split
  ·split
   ·exact HF hm
   ·split
    ·exact HF hm
    ·split
     ·exact ⟨hm,rfl,Int.le_refl _,Qc hm.id hx he (by omega),by simp [EQ],FN⟩
     ·exact ⟨hm.install hm.ep hx.items,rfl,Int.le_refl _,Qc hm.id hx he (by omega),by simp [EQ],FN⟩
  ·split
   ·split
    ·rename_i hl
     refine ⟨⟨hm.id,hm.ep,fun hs=>?_,hm.fell,nD hm.waits _,hm.left,hm.items,hm.count,?_⟩,rfl,Int.le_refl _,Y8,by simp,FN⟩
     ·simp only [Bool.and_eq_true,beq_iff_eq] at hs
      exact ⟨hs.1,hl,List.length_eq_zero_iff.1 (show (List.filter (· != x.2.1) m.2.2.2.2.2.2.1).length=0 by have h:((List.filter (· != x.2.1) m.2.2.2.2.2.2.1).length:Int)=0:=hs.2; omega)⟩
     ·rcases hm.task with h1 | h1
      ·exact .inl h1
      ·right
       have hs:m.2.2.2.2.2.1=true:=by
        unfold FM at h1
        simp only [Bool.and_eq_true] at h1
        exact h1.1.1.2
       obtain ⟨a,b,c⟩:=hm.serves hs
       rw [hs] at h1
       simp only [c,List.filter_nil,List.length_nil,a,Bool.true_and]
       exact h1
    ·exact HF hm
   ·split
    ·split
     ·exact ⟨⟨hm.id,hm.ep,hm.serves,hm.fell,hm.waits,hm.left,Ib hm.items,hm.count,hm.task⟩,rfl,Int.le_refl _,Qc hm.id hx he (by omega),by simp [EQ],FN⟩
     ·exact HF hm
    ·split
     ·split
      ·exact ⟨hm,rfl,Int.le_refl _,Qc hm.id hx he (by omega),by simp [EQ],FN⟩
      ·exact HF hm
     ·by_cases hc:(x.1=6∨x.1=8)∧m.2.2.2.2.2.2.2.2.2.1=(if x.1=8 then 2 else 1)∧m.2.2.2.2.2.2.2.2.2.2.2.1=x.2.2.2.2.1
      ·rw [if_pos hc]
       have hn:=hm.left_filter x.2.1
       unfold F_
       split
       ·refine ⟨hn.finish,?_,?_,Y8,by simp,iT hn ?_⟩
        ·unfold Br; split<;>rfl
        ·unfold Br; split<;>exact Int.le_refl _
        ·have:=hc.2.1
         show m.2.2.2.2.2.2.2.2.2.1≠0
         rw [this]
         split<;>omega
       ·exact ⟨hn,rfl,Int.le_refl _,Y8,by simp,FN⟩
      ·rw [if_neg hc]
       exact HF hm
theorem Qd {m:Z} {views:List (List Int)} {x:BM} (hm:Iz m) (hv:Qh views):qO m (DN m views x):=by
 unfold DN
 split
 ·rename_i hc
  simp only [Bool.and_eq_true,decide_eq_true_eq,beq_iff_eq] at hc
  obtain ⟨⟨⟨h1,h2⟩,h3⟩,h4⟩:=hc
  have hx:=ZU.1 h1
  have hvl:=hv.len
  have he:=hm.ep
  split
  ·rename_i e
   exact xJ hm (hv.wok (by omega)) hx e
  ·split
   ·refine ⟨hm.bare hx.ep,rfl,h3,fun y hy=>?_,by simp,FN⟩
    simp only [List.mem_singleton] at hy
    subst hy
    exact ⟨⟨by simp,hm.id,hx.frm,hx.ep,by simp,hm.items,by simp⟩,rfl,rfl⟩
   ·split
    ·exact ⟨hm.install hx.ep hx.items,rfl,h3,Qc hm.id hx rfl (by omega),by simp [EQ],FN⟩
    ·exact HF hm
 ·exact HF hm
end Go.Proofs.YtokiohnjegbnpaaGreat.Core
