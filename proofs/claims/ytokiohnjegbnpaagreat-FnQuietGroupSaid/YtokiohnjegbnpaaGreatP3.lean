/- Texts of the proof, packed: part 4. -/
import Derived.Test.YtokiohnjegbnpaaGreatP2
import Derived.IntWalk
set_option linter.unusedVariables false
set_option linter.unusedSimpArgs false
namespace Go.Proofs.YtokiohnjegbnpaaGreat.Core
open Go IntKind
set_option maxRecDepth 100000
noncomputable section
def UM:=cG Lz (AK Aw) (AK Aw) kx
def UN:=kE 2 [] [2,3] 10 UM kx
def TP:St->Option (RT (CC.outs Aw)):=lG Ly [] [2,3,31,32,33] 10 (AK Aw) UN
def UO:=cG HN (AK Aw) (AK Aw) kx
def UP:=kE 0 [] [1,2,3] 10 UO kx
def TQ:St->Option (RT (CC.outs Aw)):=lG My [] [1,2,3,16,17,18] 10 (AK Aw) UP
def Dl (x0:List AB) (x1 x2:Int) (x3:List (List Int)) (x4:List O) (x5:List AB) (x6:List Z) (x7:List O) (x8:List AB) (x9:List Z) (x10:List (List Int)) (x11:List O) (x12:List AB) (x13:List Z) (x14:List (List Int)):Option AM:=TP ⟨[(2,.ptr 4 0),(3,.ptr 9 0),(31,.lst AO x0),(32,.int .i64 x1),(33,.int .i64 x2)],[.var [.lst (.slice (.int .i64)) x3,.lst U x4,.lst AO x5,.lst AF x6],.rows 42 U x7,.rows 97 AO x8,.rows 47 AF x9,.var [.lst (.slice (.int .i64)) x10,.row 1,.row 2,.row 3],.dead,.rows 42 U x11,.rows 97 AO x12,.rows 47 AF x13,.var [.lst (.slice (.int .i64)) x14,.row 6,.row 7,.row 8]]⟩
def MC (x0:List (List Int)) (x1:List O) (x2:List AB) (x3:List Z) (x4:List O) (x5:List AB) (x6:List Z) (x7:List (List Int)) (x8:List O) (x9:List AB) (x10:List Z) (x11:List (List Int)):Option AM:=cG HN (AK Aw) (AK Aw) kx ⟨[(1,.ptr 0 0),(2,.ptr 4 0),(3,.ptr 9 0)],[.var [.lst (.slice (.int .i64)) x0,.lst U x1,.lst AO x2,.lst AF x3],.rows 42 U x4,.rows 97 AO x5,.rows 47 AF x6,.var [.lst (.slice (.int .i64)) x7,.row 1,.row 2,.row 3],.dead,.rows 42 U x8,.rows 97 AO x9,.rows 47 AF x10,.var [.lst (.slice (.int .i64)) x11,.row 6,.row 7,.row 8]]⟩
def Dm (x0:List O) (x1 x2:Int) (x3:List (List Int)) (x4:List O) (x5:List AB) (x6:List Z) (x7:List O) (x8:List AB) (x9:List Z) (x10:List (List Int)) (x11:List O) (x12:List AB) (x13:List Z) (x14:List (List Int)):Option AM:=TQ ⟨[(1,.ptr 0 0),(2,.ptr 4 0),(3,.ptr 9 0),(16,.lst U x0),(17,.int .i64 x1),(18,.int .i64 x2)],[.var [.lst (.slice (.int .i64)) x3,.lst U x4,.lst AO x5,.lst AF x6],.rows 42 U x7,.rows 97 AO x8,.rows 47 AF x9,.var [.lst (.slice (.int .i64)) x10,.row 1,.row 2,.row 3],.dead,.rows 42 U x11,.rows 97 AO x12,.rows 47 AF x13,.var [.lst (.slice (.int .i64)) x14,.row 6,.row 7,.row 8]]⟩
def HT (x0:List AB) (x1 x2:Int) (x3:List (List Int)) (x4:List O) (x5:List AB) (x6:List Z) (x7:List O) (x8:List AB) (x9:List Z) (x10:List (List Int)) (x11:List O) (x12:List AB) (x13:List Z) (x14:List (List Int)):Option AM:=(if (decide (x2<x1))=true then (if 0<=x2 then (if x2<(x0.length:Int) then ((FM (x0.getD x2.toNat (0,0,0,0,0,([]:List AD)))).bind fun y4=>(if x12.length+([y4]:List AB).length<=68719476736 then (Dl x0 x1 (i64.wrap (x2+1)) x3 x4 x5 x6 x7 x8 x9 x10 x11 (x12++([y4]:List AB)) x13 x14) else none)) else none) else none) else (some (x14,x11,x12,x13)))
def MD (x0:List (List Int)) (x1:List O) (x2:List AB) (x3:List Z) (x4:List O) (x5:List AB) (x6:List Z) (x7:List (List Int)) (x8:List O) (x9:List AB) (x10:List Z) (x11:List (List Int)):Option AM:=(Dl x2 (x2.length:Int) 0 x0 x1 x2 x3 x4 x5 x6 x7 x8 x9 x10 x11)
def HU (x0:List O) (x1 x2:Int) (x3:List (List Int)) (x4:List O) (x5:List AB) (x6:List Z) (x7:List O) (x8:List AB) (x9:List Z) (x10:List (List Int)) (x11:List O) (x12:List AB) (x13:List Z) (x14:List (List Int)):Option AM:=(if (decide (x2<x1))=true then (if 0<=x2 then (if x2<(x0.length:Int) then ((CS (x0.getD x2.toNat (0,0,false,false,false,false,([]:List Int),([]:List AD),0,0,0,0,(ByteArray.empty,ByteArray.empty,0),([]:List Int)))).bind fun y3=>(if x11.length+([y3]:List O).length<=68719476736 then (Dm x0 x1 (i64.wrap (x2+1)) x3 x4 x5 x6 x7 x8 x9 x10 (x11++([y3]:List O)) x12 x13 x14) else none)) else none) else none) else (MC x3 x4 x5 x6 x7 x8 x9 x10 x11 x12 x13 x14))
def O3 (x0:AM):Option AM:=((G8 x0.1).bind fun y1=>((Cd x0.2.2.2).bind fun y2=>(Dm x0.2.1 (x0.2.1.length:Int) 0 x0.1 x0.2.1 x0.2.2.1 x0.2.2.2 ([]:List O) ([]:List AB) ([]:List Z) ([]:List (List Int)) ([]:List O) ([]:List AB) y2 y1)))
theorem ME:mU HT Dl:=lS (by kernel_rfl)
theorem TR:lu MD MC:=jS (by kernel_rfl)
theorem MF:mU HU Dm:=lS (by kernel_rfl)
theorem Wx:S6 O3 G7:=cT Aw rfl ⟨rfl,rfl⟩ (by kernel_rfl)
def Tl (x0:Int):Option Bool:=((AW x0 1 6).bind fun y1=>(some y1))
theorem an:S6 Tl D_:=cT Km rfl ⟨rfl,rfl⟩ (by kernel_rfl)
def SK (x0 x1 x2:Int):Option Bool:=(if (decide (x0>=x1))=true then (some (decide (x0<=x2))) else (some false))
theorem Zq:VL SK AW:=cT JE rfl ⟨rfl,rfl⟩ (by kernel_rfl)
def SL:=cG K3 (AK B9) (AK B9) kx
def SM:=kE 0 [] [] 0 SL kx
def RP:St->Option (RT (CC.outs B9)):=lG Kz [] [0,1,2,9,10,11] 0 (AK B9) SM
def C6 (x0:List Int) (x1 x2:Int) (x3:List Int) (x4 x5:Int):Option Bool:=RP ⟨[(0,.lst (.int .i64) x0),(1,.int .i64 x1),(2,.int .i64 x2),(9,.lst (.int .i64) x3),(10,.int .i64 x4),(11,.int .i64 x5)],[]⟩
def GL (x0:List Int) (x1 x2:Int) (x3:List Int) (x4 x5:Int):Option Bool:=(if (decide (x5<x4))=true then (if 0<=x5 then (if x5<(x3.length:Int) then ((AW (x3.getD x5.toNat 0) x1 x2).bind fun y1=>(if (!y1)=false then (if (decide (x5>0))=true then (if 0<=(i64.wrap (x5-1)) then (if (i64.wrap (x5-1))<(x0.length:Int) then (if (decide ((x3.getD x5.toNat 0)<=(x0.getD (i64.wrap (x5-1)).toNat 0)))=true then (some false) else (C6 x0 x1 x2 x3 x4 (i64.wrap (x5+1)))) else none) else none) else (C6 x0 x1 x2 x3 x4 (i64.wrap (x5+1)))) else (some false))) else none) else none) else (some true))
def NJ (x0:List Int) (x1 x2:Int):Option Bool:=(C6 x0 x1 x2 x0 (x0.length:Int) 0)
theorem J7:ja GL C6:=lS (by kernel_rfl)
theorem UQ:VL NJ Fo:=cT B9 rfl ⟨rfl,rfl⟩ (by kernel_rfl)
def Wy:=cG Ns (AK DR) (AK DR) kx
def Wz:=kE 0 [] [0] 0 Wy kx
def Vk:St->Option (RT (CC.outs DR)):=lG Nr [] [0,5,6,7] 0 (AK DR) Wz
def Ew (x0 x1:List AD) (x2 x3:Int):Option Bool:=Vk ⟨[(0,.lst AL x0),(5,.lst AL x1),(6,.int .i64 x2),(7,.int .i64 x3)],[]⟩
def Jd (x0 x1:List AD) (x2 x3:Int):Option Bool:=(if (decide (x3<x2))=true then (if 0<=x3 then (if x3<(x1.length:Int) then ((Ma ((x1.getD x3.toNat (ByteArray.empty,ByteArray.empty,0)).1)).bind fun y1=>(if (!y1)=true then (some false) else (if (decide (((((x1.getD x3.toNat (ByteArray.empty,ByteArray.empty,0)).2).1).size:Int)>20))=true then (some false) else ((AW (((x1.getD x3.toNat (ByteArray.empty,ByteArray.empty,0)).2).2) 1 1000000000).bind fun y2=>(if (!y2)=true then (some false) else (if (decide (x3>0))=true then (if 0<=(i64.wrap (x3-1)) then (if (i64.wrap (x3-1))<(x0.length:Int) then (if ((Op.bytesLess ((x1.getD x3.toNat (ByteArray.empty,ByteArray.empty,0)).1).toList ((x0.getD (i64.wrap (x3-1)).toNat (ByteArray.empty,ByteArray.empty,0)).1).toList)||(((x1.getD x3.toNat (ByteArray.empty,ByteArray.empty,0)).1).toList==((x0.getD (i64.wrap (x3-1)).toNat (ByteArray.empty,ByteArray.empty,0)).1).toList))=true then (some false) else (Ew x0 x1 x2 (i64.wrap (x3+1)))) else none) else none) else (Ew x0 x1 x2 (i64.wrap (x3+1))))))))) else none) else none) else (some (decide ((x0.length:Int)<=12))))
def SN (x0:List AD):Option Bool:=(Ew x0 x0 (x0.length:Int) 0)
theorem N1:aW Jd Ew:=lS (by kernel_rfl)
theorem Zr:S6 SN EK:=cT DR rfl ⟨rfl,rfl⟩ (by kernel_rfl)
def LA (b0:O):Option (Bool×O):=(if (b0.2.2.2.2.2.2.2.2.2.1==0)=true then (if (b0.2.2.2.2.2.2.2.2.2.2.1==0)=true then (if (b0.2.2.2.2.2.2.2.2.2.2.2.1==0)=true then (if (false != RD AL b0.2.2.2.2.2.2.2.2.2.2.2.2.1 (ByteArray.empty,ByteArray.empty,0))=true then (some (((b0.2.2.2.2.2.2.2.2.2.2.2.2.2.length:Int)==0),b0)) else (some (false,b0))) else (some (false,b0))) else (some (false,b0))) else ((AW b0.2.2.2.2.2.2.2.2.2.1 1 2).bind fun y1=>(if y1=true then (if b0.2.2.2.2.2.1=true then ((AW b0.2.2.2.2.2.2.2.2.2.2.1 0 1000).bind fun y2=>(if y2=true then ((AW b0.2.2.2.2.2.2.2.2.2.2.2.1 1 900).bind fun y3=>(if y3=true then ((Fo b0.2.2.2.2.2.2.2.2.2.2.2.2.2 1 6).bind fun y4=>(some (y4,b0))) else (some (false,b0)))) else (some (false,b0)))) else (some (false,b0))) else (some (false,b0)))))
theorem SO:S6 LA Ck:=cT Em rfl ⟨rfl,rfl⟩ (by kernel_rfl)
def ap (x0:Z):Option Bool:=(some (decide (x0.2.2.2.2.1>=0)))
theorem aq:S6 ap DM:=cT Kn rfl ⟨rfl,rfl⟩ (by kernel_rfl)
def LB (x1 x2:Int) (b0:AM):Option AM:=(if 0<=x1 then (if x1<(b0.2.2.1.length:Int) then ((BK b0.2.2.1 x1 (i64.wrap (x1+1))).bind fun y1=>((BY ((((b0.2.2.1.getD x1.toNat (0,0,0,0,0,([]:List AD))).2).2).1) (b0.1,b0.2.1,y1,b0.2.2.2)).bind fun y2=>(if (decide (y2.1>=0))=true then (if 0<=y2.1 then (if y2.1<(y2.2.2.1.length:Int) then ((JP (y2.2.2.1.getD y2.1.toNat (0,0,false,false,false,false,([]:List Int),([]:List AD),0,0,0,0,(ByteArray.empty,ByteArray.empty,0),([]:List Int))) y2.2.1 (b0.2.2.1.getD x1.toNat (0,0,0,0,0,([]:List AD)))).bind fun y3=>(if 0<=y2.1 then (if y2.1<(y2.2.2.1.length:Int) then (let z4:List O:=y2.2.2.1.set y2.1.toNat y3.1; ((Er y3.2.1 y3.2.2 x2 (y2.2.1,z4,y2.2.2.2)).bind fun y5=>(some y5))) else none) else none)) else none) else none) else (some y2.2)))) else none) else none)
theorem SP:VL LB Gj:=cT En rfl ⟨rfl,rfl⟩ (by kernel_rfl)
def Vl (x0:List Z) (x1:Z):Option Bool:=((By x0 x1).bind fun y1=>(some y1))
theorem cn:VK Vl Ps:=cT MW rfl ⟨rfl,rfl⟩ (by kernel_rfl)
def N2 (x1:Int) (b0:AM):Option (List Int×AM):=((AW x1 1 (b0.1.length:Int)).bind fun y1=>(if (!y1)=true then (some ([],b0)) else (if 0<=(i64.wrap (x1-1)) then (if (i64.wrap (x1-1))<(b0.1.length:Int) then (some ((b0.1.getD (i64.wrap (x1-1)).toNat ([]:List Int)),b0)) else none) else none)))
theorem Vm:VK N2 GX:=cT GU rfl ⟨rfl,rfl⟩ (by kernel_rfl)
def HG (x0:List Int) (x1:Int):Option Bool:=((Ct x0 x1).bind fun y1=>(some (decide (y1>=0))))
theorem NW:VK HG Bn:=cT C3 rfl ⟨rfl,rfl⟩ (by kernel_rfl)
def HV:=cG Di (AK Aa) (AK Aa) kx
def HW:=kE 0 [] [] 0 HV kx
def HC:St->Option (RT (CC.outs Aa)):=lG Dh [] [0,1,12,13] 0 (AK Aa) HW
def BT (x0 x1:List AD) (x2 x3:Int):Option Bool:=HC ⟨[(0,.lst AL x0),(1,.lst AL x1),(12,.int .i64 x2),(13,.int .i64 x3)],[]⟩
def CJ (x0 x1:List AD) (x2 x3:Int):Option Bool:=(if (decide (x3<x2))=true then (if 0<=x3 then (if x3<(x0.length:Int) then (if 0<=x3 then (if x3<(x1.length:Int) then (if (true != RD AL (x0.getD x3.toNat (ByteArray.empty,ByteArray.empty,0)) (x1.getD x3.toNat (ByteArray.empty,ByteArray.empty,0)))=true then (some false) else (BT x0 x1 x2 (i64.wrap (x3+1)))) else none) else none) else none) else none) else (some true))
def EO (x0 x1:List AD):Option Bool:=(if ((x0.length:Int) != (x1.length:Int))=true then (some false) else (BT x0 x1 (x0.length:Int) 0))
theorem DZ:aW CJ BT:=lS (by kernel_rfl)
theorem IS:VK EO Cc:=cT Aa rfl ⟨rfl,rfl⟩ (by kernel_rfl)
def NK (b0:Dg):Option (Int×Dg):=(if 33<0 then none else (if 45<0 then none else (if (decide (b0.2.1<(b0.1.length:Int)))=true then (if 0<=b0.2.1 then (if b0.2.1<(b0.1.length:Int) then (some ((Ix .i64 (i64.wrap ((Ix .i64 (Uk .i64 (Int.fdiv (i64.wrap ((i64.wrap (b0.2.2*6364136223846793005))+1442695040888963407)) (2^(min (33:Int).toNat (IntKind.bits .i64)))) (Int.fdiv (i64.wrap ((i64.wrap (b0.2.2*6364136223846793005))+1442695040888963407)) (2^(min (45:Int).toNat (IntKind.bits .i64))))) 255)+(i64.wrap (b0.1.getD b0.2.1.toNat 0)))) 255),(b0.1,(i64.wrap (b0.2.1+1)),(i64.wrap ((i64.wrap (b0.2.2*6364136223846793005))+1442695040888963407))))) else none) else none) else (some ((Ix .i64 (Uk .i64 (Int.fdiv (i64.wrap ((i64.wrap (b0.2.2*6364136223846793005))+1442695040888963407)) (2^(min (33:Int).toNat (IntKind.bits .i64)))) (Int.fdiv (i64.wrap ((i64.wrap (b0.2.2*6364136223846793005))+1442695040888963407)) (2^(min (45:Int).toNat (IntKind.bits .i64))))) 255),(b0.1,b0.2.1,(i64.wrap ((i64.wrap (b0.2.2*6364136223846793005))+1442695040888963407))))))))
theorem Zs:S6 NK DU:=cT JF rfl ⟨rfl,rfl⟩ (by kernel_rfl)
def Lj (x1:Int) (b0:Dg):Option (Int×Dg):=(if (decide (x1<=0))=true then (some (0,b0)) else (if (decide (x1<=256))=true then ((DU b0).bind fun y1=>(if x1=0 then none else (some ((Int.tmod y1.1 x1),y1.2)))) else ((DU b0).bind fun y2=>((DU y2.2).bind fun y3=>((DU y3.2).bind fun y4=>((DU y4.2).bind fun y5=>(if x1=0 then none else (some ((Int.tmod (i64.wrap ((i64.wrap ((i64.wrap ((i64.wrap (y2.1*16777216))+(i64.wrap (y3.1*65536))))+(i64.wrap (y4.1*256))))+y5.1)) x1),y5.2)))))))))
theorem YJ:VK Lj LX:=cT Hq rfl ⟨rfl,rfl⟩ (by kernel_rfl)
def W0:=cG Nv (AK Bd) (AK Bd) kx
def KU:=kE 0 [] [0] 0 W0 kx
def N3:St->Option (RT (CC.outs Bd)):=lG Nu [] [0,7,8,9] 0 (AK Bd) KU
def W3:=kB [] [0,7,8,9] 0 N3
def O4:=cG Nt W3 (AK Bd) KU
def O5:=kB [] [0,7,8,9] 0 O4
def KV:=kE 1 [] [0,7,8,9] 0 O4 KU
def W4:=cG KN O5 (AK Bd) KV
def W5:=kE 2 [] [0,4,7,8,9] 0 W4 KV
def Vn:St->Option (RT (CC.outs Bd)):=lG Om [] [0,4,7,8,9,13,14,15] 0 (AK Bd) W5
def Je (x0:List (List Int)) (x1:List Int) (x2:List (List Int)) (x3 x4:Int):Option Bool:=cG KN O5 (AK Bd) KV ⟨[(0,.lst (.slice (.int .i64)) x0),(4,.lst (.int .i64) x1),(7,.lst (.slice (.int .i64)) x2),(8,.int .i64 x3),(9,.int .i64 x4)],[]⟩
def GY (x0:List (List Int)) (x1:List Int) (x2:List (List Int)) (x3 x4:Int) (x5:List Int) (x6 x7:Int):Option Bool:=Vn ⟨[(0,.lst (.slice (.int .i64)) x0),(4,.lst (.int .i64) x1),(7,.lst (.slice (.int .i64)) x2),(8,.int .i64 x3),(9,.int .i64 x4),(13,.lst (.int .i64) x5),(14,.int .i64 x6),(15,.int .i64 x7)],[]⟩
def GZ (x0 x1:List (List Int)) (x2 x3:Int):Option Bool:=N3 ⟨[(0,.lst (.slice (.int .i64)) x0),(7,.lst (.slice (.int .i64)) x1),(8,.int .i64 x2),(9,.int .i64 x3)],[]⟩
def N4 (x0:List (List Int)) (x1:List Int) (x2:List (List Int)) (x3 x4:Int):Option Bool:=((AW (x1.length:Int) 1 4).bind fun y3=>(if (!y3)=true then (some false) else (GZ x0 x2 x3 (i64.wrap (x4+1)))))
def Jf (x0:List (List Int)) (x1:List Int) (x2:List (List Int)) (x3 x4:Int) (x5:List Int) (x6 x7:Int):Option Bool:=(if (decide (x7<x6))=true then (if 0<=x7 then (if x7<(x5.length:Int) then ((D_ (x5.getD x7.toNat 0)).bind fun y1=>(if (!y1)=false then ((Ct x1 (x5.getD x7.toNat 0)).bind fun y2=>(if (y2 != x7)=true then (some false) else (GY x0 x1 x2 x3 x4 x5 x6 (i64.wrap (x7+1))))) else (some false))) else none) else none) else (Je x0 x1 x2 x3 x4))
def Jg (x0 x1:List (List Int)) (x2 x3:Int):Option Bool:=(if (decide (x3<x2))=true then (if 0<=x3 then (if x3<(x1.length:Int) then (GY x0 (x1.getD x3.toNat ([]:List Int)) x1 x2 x3 (x1.getD x3.toNat ([]:List Int)) ((x1.getD x3.toNat ([]:List Int)).length:Int) 0) else none) else none) else ((AW (x0.length:Int) 1 9).bind fun y4=>(some y4)))
def SQ (x0:List (List Int)):Option Bool:=(GZ x0 x0 (x0.length:Int) 0)
theorem Vo:lr N4 Je:=jS (by kernel_rfl)
theorem N5:lE Jf GY:=lS (by kernel_rfl)
theorem N6:aW Jg GZ:=lS (by kernel_rfl)
theorem Zt:S6 SQ DV:=cT Bd rfl ⟨rfl,rfl⟩ (by kernel_rfl)
def UR:=cG M0 (AK Cg) (AK Cg) kx
def US:=kE 0 [(3,0)] [3] 1 UR kx
def TS:St->Option (RT (CC.outs Cg)):=lG Mz [(3,0)] [3,6,7,8] 1 (AK Cg) US
def E_ (x0:List (List Int)) (x1 x2:Int) (x3:List (List Int)):Option (List (List Int)):=TS ⟨[(3,.row 0),(6,.lst (.slice (.int .i64)) x0),(7,.int .i64 x1),(8,.int .i64 x2)],[.rows 33 (.slice (.int .i64)) x3]⟩
def HX (x0:List (List Int)) (x1 x2:Int) (x3:List (List Int)):Option (List (List Int)):=(if (decide (x2<x1))=true then (if 0<=x2 then (if x2<(x0.length:Int) then ((BR (x0.getD x2.toNat ([]:List Int))).bind fun y1=>(if x3.length+([y1]:List (List Int)).length<=68719476736 then (E_ x0 x1 (i64.wrap (x2+1)) (x3++([y1]:List (List Int)))) else none)) else none) else none) else (some x3))
def O6 (x0:List (List Int)):Option (List (List Int)):=(E_ x0 (x0.length:Int) 0 ([]:List (List Int)))
theorem MG:aW HX E_:=lS (by kernel_rfl)
theorem W6:S6 O6 G8:=cT Cg rfl ⟨rfl,rfl⟩ (by kernel_rfl)
def MH (x0:Int) (x1:List (List Int)) (x2:Bool) (x3:O):Option (O×Bool):=cG M1 (AK EE) (AK EE) kx ⟨[(0,.int .i64 x0),(1,.lst (.slice (.int .i64)) x1),(4,.ptr 0 0),(14,.bool x2)],[.var (U.enc x3)]⟩
def MI (x0:Int) (x1:List (List Int)) (x2:Bool) (x3:O):Option (O×Bool):=(if 0<=(0:Int) then (if 0<(x1.length:Int) then (if 0<=(0:Int) then (if 0<((x1.getD (0:Int).toNat ([]:List Int)).length:Int) then (if 0<=(0:Int) then (if 0<(x1.length:Int) then ((Bn (x1.getD (0:Int).toNat ([]:List Int)) x0).bind fun y3=>(some ((x0,1,false,y3,(((x1.getD (0:Int).toNat ([]:List Int)).getD (0:Int).toNat 0)==x0),(((x1.getD (0:Int).toNat ([]:List Int)).getD (0:Int).toNat 0)==x0),([]:List Int),([]:List AD),0,0,0,0,(ByteArray.empty,ByteArray.empty,0),([]:List Int)),true))) else none) else none) else none) else none) else none) else none)
def O7 (x0:Int) (x1:List (List Int)):Option (O×Bool):=((D_ x0).bind fun y1=>(if (!y1)=false then ((DV x1).bind fun y2=>(if (!y2)=true then (some ((0,0,false,false,false,false,([]:List Int),([]:List AD),0,0,0,0,(ByteArray.empty,ByteArray.empty,0),([]:List Int)),false)) else (MH x0 x1 (!y2) (0,0,false,false,false,false,([]:List Int),([]:List AD),0,0,0,0,(ByteArray.empty,ByteArray.empty,0),([]:List Int))))) else (some ((0,0,false,false,false,false,([]:List Int),([]:List AD),0,0,0,0,(ByteArray.empty,ByteArray.empty,0),([]:List Int)),false))))
theorem TU:aW MI MH:=jS (by kernel_rfl)
theorem W7:VK O7 KP:=cT EE rfl ⟨rfl,rfl⟩ (by kernel_rfl)
def Hv (x0:Int) (x1:ByteArray) (x2:Bool):Option Bool:=cG R3 (AK G4) (AK G4) kx ⟨[(0,.int .i64 x0),(3,.str x1),(26,.bool x2)],[]⟩
def Lk (x0:Int) (x1:ByteArray) (x2:Bool):Option Bool:=(if (x0==1)=false then (some (x1.toList==(⟨#[]⟩:ByteArray).toList)) else (some true))
def Py (x0 x1:Int) (x2 x3:ByteArray):Option Bool:=((AW x0 1 2).bind fun y1=>(if (!y1)=false then ((AW x1 0 1000).bind fun y2=>(if (!y2)=false then ((Ma x2).bind fun y3=>(if (!y3)=false then (if (decide ((x3.size:Int)>20))=true then (some false) else (Hv x0 x3 (decide ((x3.size:Int)>20)))) else (some false))) else (some false))) else (some false)))
theorem Q1:VL Lk Hv:=jS (by kernel_rfl)
theorem Vp:aW Py JO:=cT G4 rfl ⟨rfl,rfl⟩ (by kernel_rfl)
def NL (x1:Ay) (x2:Int) (b0:AM):Option (Bool×AM):=(if b0.2.2.2.length+([(x1.2.2.2.1,x1.2.2.2.2.1,x1.2.2.2.2.2,x2,(-1:Int),0,0,0,ByteArray.empty)]:List Z).length<=68719476736 then ((BY x1.2.1 (b0.1,b0.2.1,b0.2.2.1,(b0.2.2.2++([(x1.2.2.2.1,x1.2.2.2.2.1,x1.2.2.2.2.2,x2,(-1:Int),0,0,0,ByteArray.empty)]:List Z)))).bind fun y1=>(if 0<=y1.1 then (if y1.1<(y1.2.2.1.length:Int) then ((Mb (y1.2.2.1.getD y1.1.toNat (0,0,false,false,false,false,([]:List Int),([]:List AD),0,0,0,0,(ByteArray.empty,ByteArray.empty,0),([]:List Int))) y1.2.1 x1.2.2.2.1 (b0.2.2.2.length:Int) x1.2.2.2.2.1 x1.2.2.2.2.2).bind fun y2=>(if (!y2.2.2.2)=true then (some (false,y1.2)) else (if 0<=y1.1 then (if y1.1<(y1.2.2.1.length:Int) then (let z3:List O:=y1.2.2.1.set y1.1.toNat y2.1; ((Er y2.2.1 y2.2.2.1 x2 (y1.2.1,z3,y1.2.2.2)).bind fun y4=>(some (true,y4)))) else none) else none))) else none) else none)) else none)
theorem UT:VL NL IG:=cT Fl rfl ⟨rfl,rfl⟩ (by kernel_rfl)
def SS:=cG Jw (AK B_) (AK B_) kx
def ST:=kE 0 [] [] 5 SS kx
def RQ:St->Option (RT (CC.outs B_)):=lG K4 [] [0,2,4,7,8] 5 (AK B_) ST
def C7 (x0 x1 x2:Int) (x3:List (List Int)) (x4:List O) (x5:List AB) (x6:List Z) (x7:Ay):Option (Bool×AM):=RQ ⟨[(0,.ptr 0 0),(2,.int .i64 x0),(4,.ptr 4 0),(7,.int .i64 x1),(8,.int .i64 x2)],[.var [.lst (.slice (.int .i64)) x3,.row 1,.row 2,.row 3],.rows 42 U x4,.rows 97 AO x5,.rows 47 AF x6,.var (Am.enc x7)]⟩
def EV (x0 x1 x2:Int) (x3:List (List Int)) (x4:List O) (x5:List AB) (x6:List Z) (x7:Ay):Option (Bool×AM):=(if (decide (x2<=(x3.length:Int)))=true then (if 0<=(i64.wrap (x2-1)) then (if (i64.wrap (x2-1))<(x3.length:Int) then (if 0<=(0:Int) then (if 0<((x3.getD (i64.wrap (x2-1)).toNat ([]:List Int)).length:Int) then (if (((x3.getD (i64.wrap (x2-1)).toNat ([]:List Int)).getD (0:Int).toNat 0) != x7.2.1)=true then (C7 x0 x1 (i64.wrap (x2+1)) x3 x4 x5 x6 x7) else (if 0<=x1 then (if x1<(x4.length:Int) then ((Mc (x4.getD x1.toNat (0,0,false,false,false,false,([]:List Int),([]:List AD),0,0,0,0,(ByteArray.empty,ByteArray.empty,0),([]:List Int))) x3 x2).bind fun y2=>(if y2.2.2=true then (if 0<=x1 then (if x1<(x4.length:Int) then (let z3:List O:=x4.set x1.toNat y2.1; ((Er y2.2.1 ([]) x0 (x3,z3,x5,x6)).bind fun y4=>(some (y2.2.2,y4)))) else none) else none) else (some (y2.2.2,(x3,x4,x5,x6))))) else none) else none)) else none) else none) else none) else none) else (some (false,(x3,x4,x5,x6))))
def NM (x1:Ay) (x2:Int) (b0:AM):Option (Bool×AM):=((BY x1.2.1 b0).bind fun y1=>(if 0<=y1.1 then (if y1.1<(y1.2.2.1.length:Int) then (C7 x2 y1.1 (i64.wrap ((((y1.2.2.1.getD y1.1.toNat (0,0,false,false,false,false,([]:List Int),([]:List AD),0,0,0,0,(ByteArray.empty,ByteArray.empty,0),([]:List Int))).2).1)+1)) y1.2.1 y1.2.2.1 y1.2.2.2.1 y1.2.2.2.2 x1) else none) else none))
theorem GM:lE EV C7:=lS (by kernel_rfl)
theorem UU:VL NM IH:=cT B_ rfl ⟨rfl,rfl⟩ (by kernel_rfl)
def MJ (x1:Int) (b0:AM):Option (Int×AM):=((Br b0.2.1 x1).bind fun y1=>(some (y1,b0)))
theorem TV:VK MJ BY:=cT E9 rfl ⟨rfl,rfl⟩ (by kernel_rfl)
def dy (x0:O):Option O:=(some (x0.1,x0.2.1,true,false,false,false,([]:List Int),([]:List AD),0,0,0,0,(ByteArray.empty,ByteArray.empty,0),([]:List Int)))
theorem dz:S6 dy Ny:=cT Nw rfl ⟨rfl,rfl⟩ (by kernel_rfl)
def LC (x1:Ay) (x2:Int) (b0:AM):Option (Bool×AM):=(if ((b0.2.2.1.length:Int)==0)=true then (some (false,b0)) else (if (b0.2.2.1.length:Int)=0 then none else (if (x1.1==2)=true then ((Gj (Int.tmod x1.2.2.1 (b0.2.2.1.length:Int)) x2 b0).bind fun y1=>(some (true,y1))) else (if (x1.1==3)=true then ((BK b0.2.2.1 (Int.tmod x1.2.2.1 (b0.2.2.1.length:Int)) (i64.wrap ((Int.tmod x1.2.2.1 (b0.2.2.1.length:Int))+1))).bind fun y2=>(some (true,(b0.1,b0.2.1,y2,b0.2.2.2)))) else (if (x1.1==4)=true then (if 0<=(Int.tmod x1.2.2.1 (b0.2.2.1.length:Int)) then (if (Int.tmod x1.2.2.1 (b0.2.2.1.length:Int))<(b0.2.2.1.length:Int) then ((FM (b0.2.2.1.getD ((Int.tmod x1.2.2.1 (b0.2.2.1.length:Int)).toNat) (0,0,0,0,0,([]:List AD)))).bind fun y3=>(if b0.2.2.1.length+([y3]:List AB).length<=68719476736 then (some (true,(b0.1,b0.2.1,(b0.2.2.1++([y3]:List AB)),b0.2.2.2))) else none)) else none) else none) else (some (true,b0)))))))
theorem SU:VL LC Gk:=cT Eo rfl ⟨rfl,rfl⟩ (by kernel_rfl)
def N7 (x0:O):Option O:=((BR x0.2.2.2.2.2.2.1).bind fun y1=>((Ab x0.2.2.2.2.2.2.2.1).bind fun y2=>((BR x0.2.2.2.2.2.2.2.2.2.2.2.2.2).bind fun y3=>(some (x0.1,x0.2.1,x0.2.2.1,x0.2.2.2.1,x0.2.2.2.2.1,x0.2.2.2.2.2.1,y1,y2,x0.2.2.2.2.2.2.2.2.1,x0.2.2.2.2.2.2.2.2.2.1,x0.2.2.2.2.2.2.2.2.2.2.1,x0.2.2.2.2.2.2.2.2.2.2.2.1,x0.2.2.2.2.2.2.2.2.2.2.2.2.1,y3)))))
theorem Vq:S6 N7 CS:=cT GV rfl ⟨rfl,rfl⟩ (by kernel_rfl)
def SV (x0:AB):Option AB:=((Ab x0.2.2.2.2.2).bind fun y1=>(some (x0.1,x0.2.1,x0.2.2.1,x0.2.2.2.1,x0.2.2.2.2.1,y1)))
theorem Zu:S6 SV FM:=cT JG rfl ⟨rfl,rfl⟩ (by kernel_rfl)
def Vr (x0:ByteArray):Option Bool:=((AW (x0.size:Int) 1 12).bind fun y1=>(some y1))
theorem cp:S6 Vr Ma:=cT MX rfl ⟨rfl,rfl⟩ (by kernel_rfl)
def N8 (x0:List (List Int)) (x1:Bool) (x2:O) (x3:AB) (x4 x5:O):Option (O×List AB×List B3):=cG On (AK FE) (AK FE) kx ⟨[(1,.lst (.slice (.int .i64)) x0),(5,.ptr 1 0),(6,.ptr 2 0),(9,.ptr 3 0),(47,.bool x1)],[.var (U.enc x2),.var (AO.enc x3),.var (U.enc x4),.var (U.enc x5)]⟩
def N9 (x0:List (List Int)) (x1:Bool) (x2:O) (x3:AB) (x4 x5:O):Option (O×List AB×List B3):=((II x0 x3 x5).bind fun y5=>((CS y5.2.2).bind fun y6=>(some (y6,y5.1,y5.2.1))))
def SW (x0:O) (x1:List (List Int)) (x2:AB):Option (O×List AB×List B3):=((CS x0).bind fun y1=>(if (x2.2.2.1 != x0.1)=false then (if (decide (x2.2.2.2.1<x0.2.1))=false then (if (decide (x2.2.2.2.1>(x1.length:Int)))=false then ((Ef x0).bind fun y2=>(if (!y2)=false then ((DV x1).bind fun y3=>(if (!y3)=false then ((Pt x2).bind fun y4=>(if (!y4)=true then (some (y1,[],[])) else (N8 x1 (!y4) x0 x2 (0,0,false,false,false,false,([]:List Int),([]:List AD),0,0,0,0,(ByteArray.empty,ByteArray.empty,0),([]:List Int)) y1))) else (some (y1,[],[])))) else (some (y1,[],[])))) else (some (y1,[],[]))) else (some (y1,[],[]))) else (some (y1,[],[]))))
theorem Vs:ja N9 N8:=jS (by kernel_rfl)
theorem Zv:VL SW JP:=cT FE rfl ⟨rfl,rfl⟩ (by kernel_rfl)
def HY:=kE 0 [] [] 4 (AK B4) kx
def LD:St->Option (RT (CC.outs B4)):=lG L4 [] [0,3,20,21,22] 4 (AK B4) HY
def TW:=kB [] [0,3,20,21,22] 4 LD
def MK:=cG L2 TW (AK B4) HY
def TX:=kB [] [0,3,20,21,22] 4 MK
def TY:=kE 1 [] [0,3,20,21,22] 4 MK HY
def LE (x0:Int) (x1:List B3) (x2 x3:Int) (x4:Bool) (x5:List (List Int)) (x6:List O) (x7:List AB) (x8:List Z) (x9:B3):Option AM:=cG L0 TX (AK B4) TY ⟨[(0,.ptr 0 0),(3,.int .i64 x0),(9,.ptr 4 0),(20,.lst Ff x1),(21,.int .i64 x2),(22,.int .i64 x3),(47,.bool x4)],[.var [.lst (.slice (.int .i64)) x5,.row 1,.row 2,.row 3],.rows 42 U x6,.rows 97 AO x7,.rows 47 AF x8,.var (Ff.enc x9)]⟩
def CB (x0:Int) (x1:List B3) (x2 x3:Int) (x4:List (List Int)) (x5:List O) (x6:List AB) (x7:List Z):Option AM:=LD ⟨[(0,.ptr 0 0),(3,.int .i64 x0),(20,.lst Ff x1),(21,.int .i64 x2),(22,.int .i64 x3)],[.var [.lst (.slice (.int .i64)) x4,.row 1,.row 2,.row 3],.rows 42 U x5,.rows 97 AO x6,.rows 47 AF x7]⟩
def LF (x0:Int) (x1:List B3) (x2 x3:Int) (x4:Bool) (x5:List (List Int)) (x6:List O) (x7:List AB) (x8:List Z) (x9:B3):Option AM:=(if 0<=x9.1 then (if x9.1<(x8.length:Int) then (let z2:List Z:=x8.set x9.1.toNat ((x8.getD x9.1.toNat (0,ByteArray.empty,ByteArray.empty,0,0,0,0,0,ByteArray.empty)).1,((x8.getD x9.1.toNat (0,ByteArray.empty,ByteArray.empty,0,0,0,0,0,ByteArray.empty)).2).1,(((x8.getD x9.1.toNat (0,ByteArray.empty,ByteArray.empty,0,0,0,0,0,ByteArray.empty)).2).2).1,((((x8.getD x9.1.toNat (0,ByteArray.empty,ByteArray.empty,0,0,0,0,0,ByteArray.empty)).2).2).2).1,x0,(((((x8.getD x9.1.toNat (0,ByteArray.empty,ByteArray.empty,0,0,0,0,0,ByteArray.empty)).2).2).2).2).2); (let z3:List Z:=z2.set x9.1.toNat ((z2.getD x9.1.toNat (0,ByteArray.empty,ByteArray.empty,0,0,0,0,0,ByteArray.empty)).1,((z2.getD x9.1.toNat (0,ByteArray.empty,ByteArray.empty,0,0,0,0,0,ByteArray.empty)).2).1,(((z2.getD x9.1.toNat (0,ByteArray.empty,ByteArray.empty,0,0,0,0,0,ByteArray.empty)).2).2).1,((((z2.getD x9.1.toNat (0,ByteArray.empty,ByteArray.empty,0,0,0,0,0,ByteArray.empty)).2).2).2).1,(((((z2.getD x9.1.toNat (0,ByteArray.empty,ByteArray.empty,0,0,0,0,0,ByteArray.empty)).2).2).2).2).1,x9.2.2.2.2.2,((((((z2.getD x9.1.toNat (0,ByteArray.empty,ByteArray.empty,0,0,0,0,0,ByteArray.empty)).2).2).2).2).2).2); (let z4:List Z:=z3.set x9.1.toNat ((z3.getD x9.1.toNat (0,ByteArray.empty,ByteArray.empty,0,0,0,0,0,ByteArray.empty)).1,((z3.getD x9.1.toNat (0,ByteArray.empty,ByteArray.empty,0,0,0,0,0,ByteArray.empty)).2).1,(((z3.getD x9.1.toNat (0,ByteArray.empty,ByteArray.empty,0,0,0,0,0,ByteArray.empty)).2).2).1,((((z3.getD x9.1.toNat (0,ByteArray.empty,ByteArray.empty,0,0,0,0,0,ByteArray.empty)).2).2).2).1,(((((z3.getD x9.1.toNat (0,ByteArray.empty,ByteArray.empty,0,0,0,0,0,ByteArray.empty)).2).2).2).2).1,((((((z3.getD x9.1.toNat (0,ByteArray.empty,ByteArray.empty,0,0,0,0,0,ByteArray.empty)).2).2).2).2).2).1,x9.2.1,(((((((z3.getD x9.1.toNat (0,ByteArray.empty,ByteArray.empty,0,0,0,0,0,ByteArray.empty)).2).2).2).2).2).2).2); (let z5:List Z:=z4.set x9.1.toNat ((z4.getD x9.1.toNat (0,ByteArray.empty,ByteArray.empty,0,0,0,0,0,ByteArray.empty)).1,((z4.getD x9.1.toNat (0,ByteArray.empty,ByteArray.empty,0,0,0,0,0,ByteArray.empty)).2).1,(((z4.getD x9.1.toNat (0,ByteArray.empty,ByteArray.empty,0,0,0,0,0,ByteArray.empty)).2).2).1,((((z4.getD x9.1.toNat (0,ByteArray.empty,ByteArray.empty,0,0,0,0,0,ByteArray.empty)).2).2).2).1,(((((z4.getD x9.1.toNat (0,ByteArray.empty,ByteArray.empty,0,0,0,0,0,ByteArray.empty)).2).2).2).2).1,((((((z4.getD x9.1.toNat (0,ByteArray.empty,ByteArray.empty,0,0,0,0,0,ByteArray.empty)).2).2).2).2).2).1,(((((((z4.getD x9.1.toNat (0,ByteArray.empty,ByteArray.empty,0,0,0,0,0,ByteArray.empty)).2).2).2).2).2).2).1,x9.2.2.1,((((((((z4.getD x9.1.toNat (0,ByteArray.empty,ByteArray.empty,0,0,0,0,0,ByteArray.empty)).2).2).2).2).2).2).2).2); (if (((z5.getD x9.1.toNat (0,ByteArray.empty,ByteArray.empty,0,0,0,0,0,ByteArray.empty)).1)==2)=true then (let z6:List Z:=z5.set x9.1.toNat ((z5.getD x9.1.toNat (0,ByteArray.empty,ByteArray.empty,0,0,0,0,0,ByteArray.empty)).1,((z5.getD x9.1.toNat (0,ByteArray.empty,ByteArray.empty,0,0,0,0,0,ByteArray.empty)).2).1,(((z5.getD x9.1.toNat (0,ByteArray.empty,ByteArray.empty,0,0,0,0,0,ByteArray.empty)).2).2).1,((((z5.getD x9.1.toNat (0,ByteArray.empty,ByteArray.empty,0,0,0,0,0,ByteArray.empty)).2).2).2).1,(((((z5.getD x9.1.toNat (0,ByteArray.empty,ByteArray.empty,0,0,0,0,0,ByteArray.empty)).2).2).2).2).1,((((((z5.getD x9.1.toNat (0,ByteArray.empty,ByteArray.empty,0,0,0,0,0,ByteArray.empty)).2).2).2).2).2).1,(((((((z5.getD x9.1.toNat (0,ByteArray.empty,ByteArray.empty,0,0,0,0,0,ByteArray.empty)).2).2).2).2).2).2).1,((((((((z5.getD x9.1.toNat (0,ByteArray.empty,ByteArray.empty,0,0,0,0,0,ByteArray.empty)).2).2).2).2).2).2).2).1,x9.2.2.2.2.1); (CB x0 x1 x2 (i64.wrap (x3+1)) x5 x6 x7 z6)) else (CB x0 x1 x2 (i64.wrap (x3+1)) x5 x6 x7 z5)))))) else none) else none)
def Gm (x0:Int) (x1:List B3) (x2 x3:Int) (x4:List (List Int)) (x5:List O) (x6:List AB) (x7:List Z):Option AM:=(if (decide (x3<x2))=true then (if 0<=x3 then (if x3<(x1.length:Int) then ((AW ((x1.getD x3.toNat (0,0,0,ByteArray.empty,ByteArray.empty,0)).1) 0 (i64.wrap ((x7.length:Int)-1))).bind fun y1=>(if (!y1)=true then (CB x0 x1 x2 (i64.wrap (x3+1)) x4 x5 x6 x7) else (if 0<=((x1.getD x3.toNat (0,0,0,ByteArray.empty,ByteArray.empty,0)).1) then (if ((x1.getD x3.toNat (0,0,0,ByteArray.empty,ByteArray.empty,0)).1)<(x7.length:Int) then (if (((((((x7.getD (((x1.getD x3.toNat (0,0,0,ByteArray.empty,ByteArray.empty,0)).1).toNat) (0,ByteArray.empty,ByteArray.empty,0,0,0,0,0,ByteArray.empty)).2).2).2).2).1) != (-1:Int))=true then (CB x0 x1 x2 (i64.wrap (x3+1)) x4 x5 x6 x7) else (LE x0 x1 x2 x3 (((((((x7.getD (((x1.getD x3.toNat (0,0,0,ByteArray.empty,ByteArray.empty,0)).1).toNat) (0,ByteArray.empty,ByteArray.empty,0,0,0,0,0,ByteArray.empty)).2).2).2).2).1) != (-1:Int)) x4 x5 x6 x7 (x1.getD x3.toNat (0,0,0,ByteArray.empty,ByteArray.empty,0)))) else none) else none))) else none) else none) else (some (x4,x5,x6,x7)))
def N_ (x1:List AB) (x2:List B3) (x3:Int) (b0:AM):Option AM:=(if b0.2.2.1.length+x1.length<=68719476736 then (CB x3 x2 (x2.length:Int) 0 b0.1 b0.2.1 (b0.2.2.1++x1) b0.2.2.2) else none)
theorem SX:gj LF LE:=jS (by kernel_rfl)
theorem LG:lE Gm CB:=lS (by kernel_rfl)
theorem Vt:aW N_ Er:=cT B4 rfl ⟨rfl,rfl⟩ (by kernel_rfl)
def Cz (x0:List Z) (x1:Z):Option Bool:=((CA x0 x1).bind fun y1=>(some (decide (y1>=0))))
theorem F5:VK Cz By:=cT BC rfl ⟨rfl,rfl⟩ (by kernel_rfl)
def SY (x0 x1:Z):Option Bool:=(if (x0.1==1)=true then (if (x0.2.1.toList==x1.2.1.toList)=true then (if (x0.2.2.1.toList==x1.2.2.2.2.2.2.2.2.toList)=true then ((DM x0).bind fun y1=>(if (!y1)=false then (some (x0.2.2.2.2.2.1==x1.2.2.2.2.2.1)) else (some true))) else (some false)) else (some false)) else (some false))
theorem Zw:VK SY M3:=cT JH rfl ⟨rfl,rfl⟩ (by kernel_rfl)
def ON:=cG He (AK BQ) (AK BQ) kx
def OO:=kE 0 [] [] 0 ON kx
def NX:St->Option (RT (CC.outs BQ)):=lG Hd [] [0,1,7,8] 0 (AK BQ) OO
def CM (x0:List Int) (x1 x2 x3:Int):Option Int:=NX ⟨[(0,.lst (.int .i64) x0),(1,.int .i64 x1),(7,.int .i64 x2),(8,.int .i64 x3)],[]⟩
def BM (x0:List Int) (x1 x2 x3:Int):Option Int:=(if (decide (x3<x2))=true then (if 0<=x3 then (if x3<(x0.length:Int) then (if (x1==(x0.getD x3.toNat 0))=true then (some x3) else (CM x0 x1 x2 (i64.wrap (x3+1)))) else none) else none) else (some (-1:Int)))
def Pz (x0:List Int) (x1:Int):Option Int:=(CM x0 x1 (x0.length:Int) 0)
theorem Bo:aW BM CM:=lS (by kernel_rfl)
theorem Jh:VK Pz Ct:=cT BQ rfl ⟨rfl,rfl⟩ (by kernel_rfl)
def Hw (x0:List Int) (x1 x2 x3:O) (x4:AD) (x5:List Int) (x6:AB):Option (O×List AB×List B3×Bool):=cG R6 (AK DL) (AK DL) kx ⟨[(12,.ptr 1 0),(16,.ptr 2 0),(18,.lst (.int .i64) x0),(20,.ptr 5 0)],[.var (U.enc x1),.var (U.enc x2),.var (U.enc x3),.var (AL.enc x4),.frz (.int .i64) x5,.var (AO.enc x6)]⟩
def F6 (x0:List (List Int)) (x1 x2:Int) (x3:Bool) (x4 x5 x6:O) (x7:AD):Option (O×List AB×List B3×Bool):=cG QZ (AK DL) (AK DL) kx ⟨[(1,.lst (.slice (.int .i64)) x0),(2,.int .i64 x1),(3,.int .i64 x2),(6,.ptr 0 0),(12,.ptr 1 0),(16,.ptr 2 0),(17,.ptr 3 0),(69,.bool x3)],[.var (U.enc x4),.var (U.enc x5),.var (U.enc x6),.var (AL.enc x7)]⟩
def Q2 (x0:List (List Int)) (x1 x2:Int) (x3 x4:ByteArray) (x5:Bool) (x6 x7:O):Option (O×List AB×List B3×Bool):=cG Qa (AK DL) (AK DL) kx ⟨[(1,.lst (.slice (.int .i64)) x0),(2,.int .i64 x1),(3,.int .i64 x2),(4,.str x3),(5,.str x4),(6,.ptr 0 0),(12,.ptr 1 0),(37,.bool x5)],[.var (U.enc x6),.var (U.enc x7)]⟩
def Q3 (x0:List Int) (x1 x2 x3:O) (x4:AD) (x5:List Int) (x6:AB):Option (O×List AB×List B3×Bool):=(if ((x0.length:Int)==0)=true then ((Fq x3).bind fun y9=>(some (y9.2,[],y9.1,true))) else (dM ((Ac x0 x6 x3).bind fun y10=>(some (x3,y10.1,[],true))) ((Ac x0 x6 x3).bind fun y11=>(some (y11.2,y11.1,[],true)))))
def Q4 (x0:List (List Int)) (x1 x2:Int) (x3:Bool) (x4 x5 x6:O) (x7:AD):Option (O×List AB×List B3×Bool):=(if 0<=(i64.wrap (x4.2.1-1)) then (if (i64.wrap (x4.2.1-1))<(x0.length:Int) then ((Bk (x0.getD (i64.wrap (x4.2.1-1)).toNat ([]:List Int)) x6).bind fun y6=>((BR y6.1).bind fun y7=>((CU y7).bind fun y8=>(if (x1==1)=true then (Hw y6.1 x4 x5 (y6.2.1,y6.2.2.1,y6.2.2.2.1,y6.2.2.2.2.1,y6.2.2.2.2.2.1,y6.2.2.2.2.2.2.1,y6.2.2.2.2.2.2.2.1,y6.2.2.2.2.2.2.2.2.1,y6.2.2.2.2.2.2.2.2.2.1,x1,x2,y6.2.2.2.2.2.2.2.2.2.1,x7,y8) x7 y8 (5,0,0,0,y6.2.2.2.2.2.2.2.2.2.1,([x7]:List AD))) else (Hw y6.1 x4 x5 (y6.2.1,y6.2.2.1,y6.2.2.2.1,y6.2.2.2.2.1,y6.2.2.2.2.2.1,y6.2.2.2.2.2.2.1,y6.2.2.2.2.2.2.2.1,y6.2.2.2.2.2.2.2.2.1,y6.2.2.2.2.2.2.2.2.2.1,x1,x2,y6.2.2.2.2.2.2.2.2.2.1,x7,y8) x7 y8 (7,0,0,0,y6.2.2.2.2.2.2.2.2.2.1,([]:List AD))))))) else none) else none)
def Q5 (x0:List (List Int)) (x1 x2:Int) (x3 x4:ByteArray) (x5:Bool) (x6 x7:O):Option (O×List AB×List B3×Bool):=((CS x6).bind fun y4=>(if (x1==1)=true then (if ((x6.2.2.2.2.2.2.2.1.length:Int)==12)=true then ((Ko x6.2.2.2.2.2.2.2.1 x3).bind fun y5=>(if (false != RD AL y5 (ByteArray.empty,ByteArray.empty,0))=true then (some ((0,0,false,false,false,false,([]:List Int),([]:List AD),0,0,0,0,(ByteArray.empty,ByteArray.empty,0),([]:List Int)),[],[],false)) else (F6 x0 x1 x2 (false != RD AL y5 (ByteArray.empty,ByteArray.empty,0)) x6 x7 (y4.1,y4.2.1,y4.2.2.1,y4.2.2.2.1,y4.2.2.2.2.1,y4.2.2.2.2.2.1,y4.2.2.2.2.2.2.1,y4.2.2.2.2.2.2.2.1,(i64.wrap (y4.2.2.2.2.2.2.2.2.1+1)),y4.2.2.2.2.2.2.2.2.2) (x3,x4,(i64.wrap ((i64.wrap (1000*x6.2.1))+(i64.wrap (y4.2.2.2.2.2.2.2.2.1+1)))))))) else (F6 x0 x1 x2 false x6 x7 (y4.1,y4.2.1,y4.2.2.1,y4.2.2.2.1,y4.2.2.2.2.1,y4.2.2.2.2.2.1,y4.2.2.2.2.2.2.1,y4.2.2.2.2.2.2.2.1,(i64.wrap (y4.2.2.2.2.2.2.2.2.1+1)),y4.2.2.2.2.2.2.2.2.2) (x3,x4,(i64.wrap ((i64.wrap (1000*x6.2.1))+(i64.wrap (y4.2.2.2.2.2.2.2.2.1+1))))))) else (F6 x0 x1 x2 false x6 x7 (y4.1,y4.2.1,y4.2.2.1,y4.2.2.2.1,y4.2.2.2.2.1,y4.2.2.2.2.2.1,y4.2.2.2.2.2.2.1,y4.2.2.2.2.2.2.2.1,(i64.wrap (y4.2.2.2.2.2.2.2.2.1+1)),y4.2.2.2.2.2.2.2.2.2) (x3,x4,(i64.wrap ((i64.wrap (1000*x6.2.1))+(i64.wrap (y4.2.2.2.2.2.2.2.2.1+1))))))))
def Vu (x0:O) (x1:List (List Int)) (x2 x3:Int) (x4 x5:ByteArray):Option (O×List AB×List B3×Bool):=((Ef x0).bind fun y1=>(if (!y1)=false then ((Fp x1 x0).bind fun y2=>(if (!y2.1)=false then ((JO x2 x3 x4 x5).bind fun y3=>(if (!y3)=true then (some ((0,0,false,false,false,false,([]:List Int),([]:List AD),0,0,0,0,(ByteArray.empty,ByteArray.empty,0),([]:List Int)),[],[],false)) else (Q2 x1 x2 x3 x4 x5 (!y3) y2.2 (0,0,false,false,false,false,([]:List Int),([]:List AD),0,0,0,0,(ByteArray.empty,ByteArray.empty,0),([]:List Int))))) else (some ((0,0,false,false,false,false,([]:List Int),([]:List AD),0,0,0,0,(ByteArray.empty,ByteArray.empty,0),([]:List Int)),[],[],false)))) else (some ((0,0,false,false,false,false,([]:List Int),([]:List AD),0,0,0,0,(ByteArray.empty,ByteArray.empty,0),([]:List Int)),[],[],false))))
theorem YK:mS Q3 Hw:=jS (by kernel_rfl)
theorem YL:lE Q4 F6:=jS (by kernel_rfl)
theorem YM:lE Q5 Q2:=jS (by kernel_rfl)
theorem cq:ja Vu Mb:=cT DL rfl ⟨rfl,rfl⟩ (by kernel_rfl)
def Hx (x0:List (List Int)) (x1:Int) (x2:Bool) (x3 x4 x5:O):Option (O×List AB×Bool):=cG Qf (AK Ep) (AK Ep) kx ⟨[(1,.lst (.slice (.int .i64)) x0),(2,.int .i64 x1),(6,.ptr 1 0),(9,.ptr 2 0),(10,.bool x2)],[.var (U.enc x3),.var (U.enc x4),.var (U.enc x5)]⟩
def Q6 (x0:List (List Int)) (x1:Int) (x2:Bool) (x3 x4:O):Option (O×List AB×Bool):=cG Qg (AK Ep) (AK Ep) kx ⟨[(1,.lst (.slice (.int .i64)) x0),(2,.int .i64 x1),(3,.ptr 0 0),(6,.ptr 1 0),(44,.bool x2)],[.var (U.enc x3),.var (U.enc x4)]⟩
def Q7 (x0:List (List Int)) (x1:Int) (x2:Bool) (x3 x4 x5:O):Option (O×List AB×Bool):=((Es x5).bind fun y5=>(if x2=true then (if 0<=(i64.wrap (x1-1)) then (if (i64.wrap (x1-1))<(x0.length:Int) then ((Cu (x0.getD (i64.wrap (x1-1)).toNat ([]:List Int)) y5.2.2.2.2.2.2.2.1 (y5.1,x1,false,false,true,y5.2.2.2.2.2)).bind fun y6=>(some (y6.2,y6.1,true))) else none) else none) else (if 0<=(i64.wrap (x1-2)) then (if (i64.wrap (x1-2))<(x0.length:Int) then (dM ((Bk (x0.getD (i64.wrap (x1-2)).toNat ([]:List Int)) (y5.1,x1,false,false,true,y5.2.2.2.2.2)).bind fun y7=>((Ac y7.1 (1,0,0,0,0,([]:List AD)) y7.2).bind fun y8=>(some ((y5.1,x1,false,false,true,y5.2.2.2.2.2),y8.1,true)))) ((Bk (x0.getD (i64.wrap (x1-2)).toNat ([]:List Int)) (y5.1,x1,false,false,true,y5.2.2.2.2.2)).bind fun y9=>(dM ((Ac y9.1 (1,0,0,0,0,([]:List AD)) y9.2).bind fun y10=>(some (y9.2,y10.1,true))) ((Ac y9.1 (1,0,0,0,0,([]:List AD)) y9.2).bind fun y11=>(some (y11.2,y11.1,true)))))) else none) else none)))
def Q8 (x0:List (List Int)) (x1:Int) (x2:Bool) (x3 x4:O):Option (O×List AB×Bool):=((CS x3).bind fun y4=>(if x3.2.2.2.1=true then (Hx x0 x1 (x3.2.1==(i64.wrap (x1-1))) x3 x4 y4) else (Hx x0 x1 false x3 x4 y4)))
def Vv (x0:O) (x1:List (List Int)) (x2:Int):Option (O×List AB×Bool):=((Ef x0).bind fun y1=>(if (!y1)=true then (some ((0,0,false,false,false,false,([]:List Int),([]:List AD),0,0,0,0,(ByteArray.empty,ByteArray.empty,0),([]:List Int)),[],false)) else ((DV x1).bind fun y2=>(if (!y2)=true then (some ((0,0,false,false,false,false,([]:List Int),([]:List AD),0,0,0,0,(ByteArray.empty,ByteArray.empty,0),([]:List Int)),[],false)) else ((AW x2 2 (x1.length:Int)).bind fun y3=>(if (!y3)=true then (some ((0,0,false,false,false,false,([]:List Int),([]:List AD),0,0,0,0,(ByteArray.empty,ByteArray.empty,0),([]:List Int)),[],false)) else (if (decide (x2<=x0.2.1))=true then (some ((0,0,false,false,false,false,([]:List Int),([]:List AD),0,0,0,0,(ByteArray.empty,ByteArray.empty,0),([]:List Int)),[],false)) else (if 0<=(i64.wrap (x2-1)) then (if (i64.wrap (x2-1))<(x1.length:Int) then (if 0<=(0:Int) then (if 0<((x1.getD (i64.wrap (x2-1)).toNat ([]:List Int)).length:Int) then (if (((x1.getD (i64.wrap (x2-1)).toNat ([]:List Int)).getD (0:Int).toNat 0) != x0.1)=true then (some ((0,0,false,false,false,false,([]:List Int),([]:List AD),0,0,0,0,(ByteArray.empty,ByteArray.empty,0),([]:List Int)),[],false)) else (Q6 x1 x2 (((x1.getD (i64.wrap (x2-1)).toNat ([]:List Int)).getD (0:Int).toNat 0) != x0.1) x0 (0,0,false,false,false,false,([]:List Int),([]:List AD),0,0,0,0,(ByteArray.empty,ByteArray.empty,0),([]:List Int)))) else none) else none) else none) else none))))))))
theorem YN:ja Q7 Hx:=jS (by kernel_rfl)
theorem YO:lr Q8 Q6:=jS (by kernel_rfl)
theorem cr:VL Vv Mc:=cT Ep rfl ⟨rfl,rfl⟩ (by kernel_rfl)

def FN:=cG Ci (AK AP) (AK AP) kx
def FO:=kE 0 [] [] 0 FN kx
def E7:St->Option (RT (CC.outs AP)):=lG Ch [] [0,1,7,8] 0 (AK AP) FO
def At (x0:List O) (x1 x2 x3:Int):Option Int:=E7 ⟨[(0,.lst U x0),(1,.clo 103 (.int .i64) x1),(7,.int .i64 x2),(8,.int .i64 x3)],[]⟩
def BV (x0:List O) (x1 x2 x3:Int):Option Int:=(if (decide (x3<x2))=true then (if 0<=x3 then (if x3<(x0.length:Int) then ((GH (x0.getD x3.toNat (0,0,false,false,false,false,([]:List Int),([]:List AD),0,0,0,0,(ByteArray.empty,ByteArray.empty,0),([]:List Int))) x1).bind fun y1=>(if y1=true then (some x3) else (At x0 x1 x2 (i64.wrap (x3+1))))) else none) else none) else (some (-1:Int)))
def Cw (x0:List O) (x1:Int):Option Int:=(At x0 x1 (x0.length:Int) 0)
theorem Cb:aW BV At:=lS (by kernel_rfl)
theorem Fv:VK Cw Br:=cT AP rfl ⟨rfl,rfl⟩ (by kernel_rfl)
def J8 (x0:O) (x1:Int):Option Bool:=(some (x0.1==x1))
theorem RR:VK J8 GH:=cT ET rfl ⟨rfl,rfl⟩ (by kernel_rfl)
def SZ:=cG R9 (AK Dw) (AK Dw) kx
def Zx:=kB [] [1] 1 SZ
def Zy:=kE 0 [] [1] 1 SZ kx
def Hy (x0:Int) (x1:Bool) (x2:AB):Option Bool:=cG R8 Zx (AK Dw) Zy ⟨[(1,.ptr 0 0),(38,.int .i64 x0),(39,.bool x1)],[.var (AO.enc x2)]⟩
def Ll (x0:Bool) (x1:AB):Option Bool:=cG R_ (AK Dw) (AK Dw) kx ⟨[(1,.ptr 0 0),(36,.bool x0)],[.var (AO.enc x1)]⟩
def Q9 (x0:Int) (x1:Bool) (x2:AB):Option Bool:=(if x1=true then (some true) else (if (x0==5)=true then (some ((x2.2.2.2.2.2.length:Int)==1)) else (some ((x2.2.2.2.2.2.length:Int)==0))))
def Q_ (x0:Bool) (x1:AB):Option Bool:=(if (x1.1==2)=true then (Hy x1.1 (x1.1==2) x1) else (Hy x1.1 (x1.1==3) x1))
def Vw (x0:AB):Option Bool:=((AW x0.1 1 8).bind fun y1=>(if (!y1)=false then ((D_ x0.2.1).bind fun y2=>(if (!y2)=false then ((D_ x0.2.2.1).bind fun y3=>(if (!y3)=false then ((AW x0.2.2.2.1 1 9).bind fun y4=>(if (!y4)=false then ((AW x0.2.2.2.2.1 0 1000000000).bind fun y5=>(if (!y5)=false then ((EK x0.2.2.2.2.2).bind fun y6=>(if (!y6)=true then (some false) else (Ll (!y6) x0))) else (some false))) else (some false))) else (some false))) else (some false))) else (some false)))
theorem YP:VL Q9 Hy:=jS (by kernel_rfl)
theorem YQ:VK Q_ Ll:=jS (by kernel_rfl)
theorem ct:S6 Vw Pt:=cT Dw rfl ⟨rfl,rfl⟩ (by kernel_rfl)
def LH:=cG Jy (AK Bq) (AK Bq) kx
def Gn:=kB [] [] 2 LH
def Gp:=kE 0 [] [] 2 LH kx
def C8 (x0:List (List Int)) (x1:Bool) (x2:O) (x3:AB):Option (List AB×List B3×O):=cG K6 Gn (AK Bq) Gp ⟨[(0,.ptr 0 0),(1,.lst (.slice (.int .i64)) x0),(5,.ptr 1 0),(37,.bool x1)],[.var (U.enc x2),.var (AO.enc x3)]⟩
def EW (x0:Bool) (x1:O) (x2:AB):Option (List AB×List B3×O):=cG K7 Gn (AK Bq) Gp ⟨[(0,.ptr 0 0),(5,.ptr 1 0),(75,.bool x0)],[.var (U.enc x1),.var (AO.enc x2)]⟩
def EX (x0:Int) (x1:Bool) (x2:O) (x3:AB):Option (List AB×List B3×O):=cG Jx Gn (AK Bq) Gp ⟨[(0,.ptr 0 0),(5,.ptr 1 0),(9,.int .i64 x0),(107,.bool x1)],[.var (U.enc x2),.var (AO.enc x3)]⟩
def J9 (x0:List (List Int)) (x1:Bool) (x2:O) (x3:AB):Option (List AB×List B3×O):=(if x1=true then (if 0<=(i64.wrap (x2.2.1-1)) then (if (i64.wrap (x2.2.1-1))<(x0.length:Int) then ((Cu (x0.getD (i64.wrap (x2.2.1-1)).toNat ([]:List Int)) x3.2.2.2.2.2 x2).bind fun y2=>(some (y2.1,[],y2.2))) else none) else none) else (some ([],[],x2)))
def J_ (x0:Bool) (x1:O) (x2:AB):Option (List AB×List B3×O):=(if x0=true then ((JQ x1.2.2.2.2.2.2.1 x2.2.1).bind fun y4=>(if x1.2.2.2.2.2.1=false then (if ((y4.length:Int)==0)=true then (some ([],[],(x1.1,x1.2.1,x1.2.2.1,x1.2.2.2.1,x1.2.2.2.2.1,x1.2.2.2.1,y4,x1.2.2.2.2.2.2.2))) else (some ([],[],(x1.1,x1.2.1,x1.2.2.1,x1.2.2.2.1,x1.2.2.2.2.1,false,y4,x1.2.2.2.2.2.2.2)))) else (some ([],[],(x1.1,x1.2.1,x1.2.2.1,x1.2.2.2.1,x1.2.2.2.2.1,true,y4,x1.2.2.2.2.2.2.2))))) else (some ([],[],x1)))
def KA (x0:Int) (x1:Bool) (x2:O) (x3:AB):Option (List AB×List B3×O):=(if x1=true then ((HO x3 x2).bind fun y5=>(some (y5.1,[],y5.2))) else (if (x0==6)=true then ((Et 1 x3 x2).bind fun y6=>(some ([],y6.1,y6.2))) else (if (x0==8)=true then ((Et 2 x3 x2).bind fun y7=>(some ([],y7.1,y7.2))) else (some ([],[],x2)))))
def NN (x1:List (List Int)) (x2:AB) (b0:O):Option (List AB×List B3×O):=(if (x2.1==1)=true then ((IJ x1 x2 b0).bind fun y1=>(some (y1.1,[],y1.2))) else (if (x2.1==2)=true then (if (x2.2.2.2.1==b0.2.1)=true then (if b0.2.2.2.2.1=true then (C8 x1 (!b0.2.2.2.1) b0 x2) else (C8 x1 false b0 x2)) else (C8 x1 false b0 x2)) else (if (x2.1==3)=true then (if 0<=(i64.wrap (x2.2.2.2.1-1)) then (if (i64.wrap (x2.2.2.2.1-1))<(x1.length:Int) then ((GI (x1.getD (i64.wrap (x2.2.2.2.1-1)).toNat ([]:List Int)) x2 b0).bind fun y3=>(some (y3.1,[],y3.2))) else none) else none) else (if (x2.1==4)=true then (if (x2.2.2.2.1==b0.2.1)=true then (EW b0.2.2.2.2.1 b0 x2) else (EW false b0 x2)) else (if (x2.1==5)=true then (EX x2.1 (x2.1==5) b0 x2) else (EX x2.1 (x2.1==7) b0 x2))))))
theorem RS:aW J9 C8:=jS (by kernel_rfl)
theorem RU:VL J_ EW:=jS (by kernel_rfl)
theorem RV:aW KA EX:=jS (by kernel_rfl)
theorem UV:VL NN II:=cT Bq rfl ⟨rfl,rfl⟩ (by kernel_rfl)
def GN:=cG C5 (AK AT) (AK AT) kx
def GO:=kE 0 [] [] 0 GN kx
def F7:St->Option (RT (CC.outs AT)):=lG C4 [] [0,1,7,8] 0 (AK AT) GO
def An (x0:List Z) (x1:Z) (x2 x3:Int):Option Int:=F7 ⟨[(0,.lst AF x0),(1,.clo 92 AF x1),(7,.int .i64 x2),(8,.int .i64 x3)],[]⟩
def BD (x0:List Z) (x1:Z) (x2 x3:Int):Option Int:=(if (decide (x3<x2))=true then (if 0<=x3 then (if x3<(x0.length:Int) then ((M3 (x0.getD x3.toNat (0,ByteArray.empty,ByteArray.empty,0,0,0,0,0,ByteArray.empty)) x1).bind fun y1=>(if y1=true then (some x3) else (An x0 x1 x2 (i64.wrap (x3+1))))) else none) else none) else (some (-1:Int)))
def DW (x0:List Z) (x1:Z):Option Int:=(An x0 x1 (x0.length:Int) 0)
theorem Bz:aW BD An:=lS (by kernel_rfl)
theorem Gq:VK DW CA:=cT AT rfl ⟨rfl,rfl⟩ (by kernel_rfl)
def HH (x0:List (List Int)) (x1:Bool) (x2:O):Option (Bool×O):=cG Hf (AK CH) (AK CH) kx ⟨[(0,.ptr 0 0),(1,.lst (.slice (.int .i64)) x0),(33,.bool x1)],[.var (U.enc x2)]⟩
def HI (x0:List (List Int)) (x1:Bool) (x2:O):Option (Bool×O):=((DV x0).bind fun y1=>(if y1=true then (if 0<=(i64.wrap (x2.2.1-1)) then (if (i64.wrap (x2.2.1-1))<(x0.length:Int) then (if 0<=(0:Int) then (if 0<((x0.getD (i64.wrap (x2.2.1-1)).toNat ([]:List Int)).length:Int) then (some ((((x0.getD (i64.wrap (x2.2.1-1)).toNat ([]:List Int)).getD (0:Int).toNat 0)==x2.1),x2)) else none) else none) else none) else none) else (some (false,x2))))
def Ji (x1:List (List Int)) (b0:O):Option (Bool×O):=(if (!b0.2.2.2.2.2.1)=false then (if (b0.2.2.2.2.2.2.2.2.2.1 != 0)=false then (if (b0.2.2.2.2.2.2.2.2.1==900)=false then (if (decide (b0.2.1>(x1.length:Int)))=true then (some (false,b0)) else (HH x1 (decide (b0.2.1>(x1.length:Int))) b0)) else (some (false,b0))) else (some (false,b0))) else (some (false,b0)))
theorem NY:VL HI HH:=jS (by kernel_rfl)
theorem P0:VK Ji Fp:=cT CH rfl ⟨rfl,rfl⟩ (by kernel_rfl)
def YR:=cG Qi (AK D5) (AK D5) kx
def YS:=kE 0 [] [4] 1 YR kx
def W8:St->Option (RT (CC.outs D5)):=lG Qh [] [1,4,7,8,9] 1 (AK D5) YS
def HD (x0:ByteArray) (x1:List AD) (x2 x3:Int) (x4:AD):Option AD:=W8 ⟨[(1,.str x0),(4,.ptr 0 0),(7,.lst AL x1),(8,.int .i64 x2),(9,.int .i64 x3)],[.var (AL.enc x4)]⟩
def KW (x0:ByteArray) (x1:List AD) (x2 x3:Int) (x4:AD):Option AD:=(if (decide (x3<x2))=true then (if 0<=x3 then (if x3<(x1.length:Int) then (if (((x1.getD x3.toNat (ByteArray.empty,ByteArray.empty,0)).1).toList==x0.toList)=true then (some (x1.getD x3.toNat (ByteArray.empty,ByteArray.empty,0))) else (HD x0 x1 x2 (i64.wrap (x3+1)) x4)) else none) else none) else (some (ByteArray.empty,ByteArray.empty,0)))
def Tm (x0:List AD) (x1:ByteArray):Option AD:=(HD x1 x0 (x0.length:Int) 0 (ByteArray.empty,ByteArray.empty,0))
theorem O8:lr KW HD:=lS (by kernel_rfl)
theorem ar:VK Tm Ko:=cT D5 rfl ⟨rfl,rfl⟩ (by kernel_rfl)
def P1:=cG JJ (AK Bj) (AK Bj) kx
def P2:=kE 0 [(5,1)] [5] 2 P1 kx
def O9:St->Option (RT (CC.outs Bj)):=lG JI [(5,1)] [0,5,8,9,10] 2 (AK Bj) P2
def Cm (x0:List Int) (x1 x2:Int) (x3:O) (x4:List Int):Option (List Int×O):=O9 ⟨[(0,.ptr 0 0),(5,.row 1),(8,.lst (.int .i64) x0),(9,.int .i64 x1),(10,.int .i64 x2)],[.var (U.enc x3),.rows 3 (.int .i64) x4]⟩
def FP (x0:List Int) (x1 x2:Int) (x3:O) (x4:List Int):Option (List Int×O):=(if (decide (x2<x1))=true then (if 0<=x2 then (if x2<(x0.length:Int) then (if ((x0.getD x2.toNat 0) != x3.1)=true then (if x4.length+([(x0.getD x2.toNat 0)]:List Int).length<=68719476736 then (Cm x0 x1 (i64.wrap (x2+1)) x3 (x4++([(x0.getD x2.toNat 0)]:List Int))) else none) else (Cm x0 x1 (i64.wrap (x2+1)) x3 x4)) else none) else none) else (some (x4,x3)))
def LI (x1:List Int) (b0:O):Option (List Int×O):=(Cm x1 (x1.length:Int) 0 b0 ([]:List Int))
theorem Ik:lr FP Cm:=lS (by kernel_rfl)
theorem Sa:VK LI Bk:=cT Bj rfl ⟨rfl,rfl⟩ (by kernel_rfl)
def KB (b0:List Int):Option (List Int):=((LY (IntKind.u64.wrap (b0.length:Int))).bind fun y1=>((B5 0 (b0.length:Int) y1 b0).bind fun y2=>(some y2)))
theorem RW:S6 KB CU:=cT EU rfl ⟨rfl,rfl⟩ (by kernel_rfl)
def GP (x0:O) (x1:iv):Option (List B3×O):=cG K8 (AK DA) (AK DA) kx ⟨[(0,.ptr 0 0),(3,.ptr 1 0)],[.var (U.enc x0),.var (Tz.enc x1)]⟩
def GQ (x0:O) (x1:iv):Option (List B3×O):=(some (([(x1.2.1,x0.2.1,x1.2.2.1,x1.2.2.2.1)]:List B3),(x0.1,x0.2.1,x0.2.2.1,x0.2.2.2.1,x0.2.2.2.2.1,x0.2.2.2.2.2.1,x0.2.2.2.2.2.2.1,x0.2.2.2.2.2.2.2.1,x0.2.2.2.2.2.2.2.2.1,0,0,0,(ByteArray.empty,ByteArray.empty,0),([]:List Int))))
def NO (b0:O):Option (List B3×O):=(if (b0.2.2.2.2.2.2.2.2.2.1==1)=true then ((JR b0.2.2.2.2.2.2.2.1 b0.2.2.2.2.2.2.2.2.2.2.2.2.1).bind fun y1=>(GP (b0.1,b0.2.1,b0.2.2.1,b0.2.2.2.1,b0.2.2.2.2.1,b0.2.2.2.2.2.1,b0.2.2.2.2.2.2.1,y1,b0.2.2.2.2.2.2.2.2) b0.2.2.2.2.2.2.2.2.2)) else ((Ko b0.2.2.2.2.2.2.2.1 b0.2.2.2.2.2.2.2.2.2.2.2.2.1.1).bind fun y2=>(GP b0 (b0.2.2.2.2.2.2.2.2.2.1,b0.2.2.2.2.2.2.2.2.2.2.1,b0.2.2.2.2.2.2.2.2.2.2.2.1,y2,b0.2.2.2.2.2.2.2.2.2.2.2.2.2))))
theorem KC:VK GQ GP:=jS (by kernel_rfl)
theorem UW:S6 NO Fq:=cT DA rfl ⟨rfl,rfl⟩ (by kernel_rfl)
def O_:=cG Ie (AK BW) (AK BW) kx
def PA:=kE 0 [(7,2)] [7] 3 O_ kx
def OP:St->Option (RT (CC.outs BW)):=lG Id [(7,2)] [0,5,7,11,12,13] 3 (AK BW) PA
def DN (x0:List Int) (x1 x2:Int) (x3:O) (x4:AB) (x5:List AB):Option (List AB×O):=OP ⟨[(0,.ptr 0 0),(5,.ptr 1 0),(7,.row 2),(11,.lst (.int .i64) x0),(12,.int .i64 x1),(13,.int .i64 x2)],[.var (U.enc x3),.var (AO.enc x4),.rows 97 AO x5]⟩
def E2 (x0:List Int) (x1 x2:Int) (x3:O) (x4:AB) (x5:List AB):Option (List AB×O):=(if (decide (x2<x1))=true then (if 0<=x2 then (if x2<(x0.length:Int) then ((FM x4).bind fun y1=>(if x5.length+([(y1.1,x3.1,(x0.getD x2.toNat 0),x3.2.1,y1.2.2.2.2)]:List AB).length<=68719476736 then (DN x0 x1 (i64.wrap (x2+1)) x3 x4 (x5++([(y1.1,x3.1,(x0.getD x2.toNat 0),x3.2.1,y1.2.2.2.2)]:List AB))) else none)) else none) else none) else (some (x5,x3)))
def KD (x1:List Int) (x2:AB) (b0:O):Option (List AB×O):=(DN x1 (x1.length:Int) 0 b0 x2 ([]:List AB))
theorem Hh:ja E2 DN:=lS (by kernel_rfl)
theorem RX:VL KD Ac:=cT BW rfl ⟨rfl,rfl⟩ (by kernel_rfl)
def Vx (b0:O):Option O:=(some (b0.1,b0.2.1,b0.2.2.1,b0.2.2.2.1,false,false,[],b0.2.2.2.2.2.2.2.1,0,0,0,0,(ByteArray.empty,ByteArray.empty,0),([]:List Int)))
theorem Vy:S6 Vx Es:=cT GW rfl ⟨rfl,rfl⟩ (by kernel_rfl)
def Jj (x1:List Int) (x2:List AD) (b0:O):Option (List AB×O):=((Bk x1 b0).bind fun y1=>((Ab x2).bind fun y2=>((BR y1.1).bind fun y3=>((CU y3).bind fun y4=>(if ((y1.1.length:Int)==0)=true then ((Ac y1.1 (3,0,0,0,0,x2) (y1.2.1,y1.2.2.1,y1.2.2.2.1,true,y1.2.2.2.2.2.1,true,y4,y2,y1.2.2.2.2.2.2.2.2.2)).bind fun y5=>(some (y5.1,y5.2))) else ((Ac y1.1 (3,0,0,0,0,x2) (y1.2.1,y1.2.2.1,y1.2.2.2.1,true,y1.2.2.2.2.2.1,y1.2.2.2.2.2.2.1,y4,y2,y1.2.2.2.2.2.2.2.2.2)).bind fun y6=>(some (y6.1,y6.2))))))))
theorem P3:VL Jj Cu:=cT Dx rfl ⟨rfl,rfl⟩ (by kernel_rfl)
def KE (x0:Bool) (x1:O) (x2:AB):Option (List AB×O):=cG J3 (AK DB) (AK DB) kx ⟨[(0,.ptr 0 0),(5,.ptr 1 0),(37,.bool x0)],[.var (U.enc x1),.var (AO.enc x2)]⟩
def KF (x0:Bool) (x1:O) (x2:AB):Option (List AB×O):=((Es (x1.1,x2.2.2.2.1,x1.2.2.1,false,x1.2.2.2.2)).bind fun y2=>((Ac ([x2.2.1]:List Int) (2,0,0,0,0,y2.2.2.2.2.2.2.2.1) y2).bind fun y3=>(some (y3.1,y3.2))))
def NP (x1:List (List Int)) (x2:AB) (b0:O):Option (List AB×O):=(if (x2.2.2.2.1 != (i64.wrap (b0.2.1+1)))=true then (some ([],b0)) else (if (!b0.2.2.2.1)=true then (some ([],b0)) else (if 0<=(i64.wrap (b0.2.1-1)) then (if (i64.wrap (b0.2.1-1))<(x1.length:Int) then ((Bn (x1.getD (i64.wrap (b0.2.1-1)).toNat ([]:List Int)) b0.1).bind fun y1=>(if (!y1)=true then (some ([],b0)) else (KE (!y1) b0 x2))) else none) else none)))
theorem RY:VL KF KE:=jS (by kernel_rfl)
theorem UX:VL NP IJ:=cT DB rfl ⟨rfl,rfl⟩ (by kernel_rfl)
def Il:=cG Ih (AK BH) (AK BH) kx
def PB:=kB [] [0,5] 2 Il
def PD:=kE 0 [] [0,5] 2 Il kx
def CW (x0:Bool) (x1:O) (x2:AB):Option (List AB×O):=cG Ig PB (AK BH) PD ⟨[(0,.ptr 0 0),(5,.ptr 1 0),(24,.bool x0)],[.var (U.enc x1),.var (AO.enc x2)]⟩
def Hi (x0:Bool) (x1:O) (x2:AB):Option (List AB×O):=cG Ii (AK BH) (AK BH) kx ⟨[(0,.ptr 0 0),(5,.ptr 1 0),(23,.bool x0)],[.var (U.enc x1),.var (AO.enc x2)]⟩
def Hj (x0:Bool) (x1:O) (x2:AB):Option (List AB×O):=(if x0=true then ((Ab x2.2.2.2.2.2).bind fun y2=>((Es (x1.1,x2.2.2.2.1,false,true,x1.2.2.2.2.1,x1.2.2.2.2.2.1,x1.2.2.2.2.2.2.1,y2,x1.2.2.2.2.2.2.2.2)).bind fun y3=>((Ac ([x2.2.1]:List Int) (4,0,0,0,0,([]:List AD)) y3).bind fun y4=>(some (y4.1,y4.2))))) else (if (!x1.2.2.2.1)=true then (some ([],x1)) else ((Ac ([x2.2.1]:List Int) (4,0,0,0,0,([]:List AD)) x1).bind fun y5=>(some (y5.1,y5.2)))))
def Hk (x0:Bool) (x1:O) (x2:AB):Option (List AB×O):=(if (decide (x2.2.2.2.1>x1.2.1))=true then (CW true x1 x2) else (if (!x1.2.2.2.1)=true then (CW (!x1.2.2.1) x1 x2) else (CW false x1 x2)))
def KG (x1:List Int) (x2:AB) (b0:O):Option (List AB×O):=((Bn x1 b0.1).bind fun y1=>(if (!y1)=true then (some ([],b0)) else (if 0<=(0:Int) then (if 0<(x1.length:Int) then (if ((x1.getD (0:Int).toNat 0)==b0.1)=true then (some ([],b0)) else (Hi ((x1.getD (0:Int).toNat 0)==b0.1) b0 x2)) else none) else none)))
theorem OQ:VL Hj CW:=jS (by kernel_rfl)
theorem OR:VL Hk Hi:=jS (by kernel_rfl)
theorem RZ:VL KG GI:=cT BH rfl ⟨rfl,rfl⟩ (by kernel_rfl)
def Sb (x0:List Int) (x1:Int):Option (List Int):=((BR x0).bind fun y1=>((Dz y1 x1).bind fun y2=>(some y2)))
theorem Zz:VK Sb JQ:=cT JK rfl ⟨rfl,rfl⟩ (by kernel_rfl)
def Jk (x0:Bool) (x1:O) (x2:AB):Option (List AB×O):=cG J5 (AK Cx) (AK Cx) kx ⟨[(0,.ptr 0 0),(3,.ptr 1 0),(18,.bool x0)],[.var (U.enc x1),.var (AO.enc x2)]⟩
def Jl (x0:Bool) (x1:O) (x2:AB):Option (List AB×O):=(if (x2.1==7)=true then ((Ac ([x2.2.1]:List Int) (8,0,0,0,x2.2.2.2.2.1,([]:List AD)) x1).bind fun y1=>(some (y1.1,y1.2))) else (if 0<=(0:Int) then (if 0<(x2.2.2.2.2.2.length:Int) then ((JR x1.2.2.2.2.2.2.2.1 (x2.2.2.2.2.2.getD (0:Int).toNat (ByteArray.empty,ByteArray.empty,0))).bind fun y2=>((Ac ([x2.2.1]:List Int) (6,0,0,0,x2.2.2.2.2.1,([]:List AD)) (x1.1,x1.2.1,x1.2.2.1,x1.2.2.2.1,x1.2.2.2.2.1,x1.2.2.2.2.2.1,x1.2.2.2.2.2.2.1,y2,x1.2.2.2.2.2.2.2.2)).bind fun y3=>(some (y3.1,y3.2)))) else none) else none))
def ML (x1:AB) (b0:O):Option (List AB×O):=(if (x1.2.2.2.1 != b0.2.1)=true then (some ([],b0)) else (if (!b0.2.2.2.1)=true then (some ([],b0)) else (Jk (!b0.2.2.2.1) b0 x1)))
theorem P4:VL Jl Jk:=jS (by kernel_rfl)
theorem TZ:VK ML HO:=cT Cx rfl ⟨rfl,rfl⟩ (by kernel_rfl)
def Im (x0:Bool) (x1:O) (x2:AB):Option (List B3×O):=cG Ij (AK Cj) (AK Cj) kx ⟨[(0,.ptr 0 0),(5,.ptr 1 0),(32,.bool x0)],[.var (U.enc x1),.var (AO.enc x2)]⟩
def In (x0:Bool) (x1:O) (x2:AB):Option (List B3×O):=((JQ x1.2.2.2.2.2.2.2.2.2.2.2.2.2 x2.2.1).bind fun y1=>(if (decide ((y1.length:Int)>0))=true then (some ([],(x1.1,x1.2.1,x1.2.2.1,x1.2.2.2.1,x1.2.2.2.2.1,x1.2.2.2.2.2.1,x1.2.2.2.2.2.2.1,x1.2.2.2.2.2.2.2.1,x1.2.2.2.2.2.2.2.2.1,x1.2.2.2.2.2.2.2.2.2.1,x1.2.2.2.2.2.2.2.2.2.2.1,x1.2.2.2.2.2.2.2.2.2.2.2.1,x1.2.2.2.2.2.2.2.2.2.2.2.2.1,y1))) else ((Fq (x1.1,x1.2.1,x1.2.2.1,x1.2.2.2.1,x1.2.2.2.2.1,x1.2.2.2.2.2.1,x1.2.2.2.2.2.2.1,x1.2.2.2.2.2.2.2.1,x1.2.2.2.2.2.2.2.2.1,x1.2.2.2.2.2.2.2.2.2.1,x1.2.2.2.2.2.2.2.2.2.2.1,x1.2.2.2.2.2.2.2.2.2.2.2.1,x1.2.2.2.2.2.2.2.2.2.2.2.2.1,y1)).bind fun y2=>(some (y2.1,y2.2)))))
def LJ (x1:Int) (x2:AB) (b0:O):Option (List B3×O):=(if (x2.2.2.2.1 != b0.2.1)=true then (some ([],b0)) else (if (b0.2.2.2.2.2.2.2.2.2.1 != x1)=true then (some ([],b0)) else (if (b0.2.2.2.2.2.2.2.2.2.2.2.1 != x2.2.2.2.2.1)=true then (some ([],b0)) else (Im (b0.2.2.2.2.2.2.2.2.2.2.2.1 != x2.2.2.2.2.1) b0 x2))))
theorem PE:VL In Im:=jS (by kernel_rfl)
theorem Sc:VL LJ Et:=cT Cj rfl ⟨rfl,rfl⟩ (by kernel_rfl)
def FZ:=kE 0 [] [] 1 (AK AQ) kx
def FQ:St->Option (RT (CC.outs AQ)):=lG FK [(0,0)] [0,1,2,3,8,9] 1 (AK AQ) FZ
def Fa:=kB [(0,0)] [0,1,2,3,8,9] 1 FQ
def Bl:=kB [(0,0)] [0,1,2,3,8,9] 1 Fa
def BI:=kE 1 [(0,0)] [0,1,2,3,8,9] 1 Fa FZ
def LK:=cG DC Bl (AK AQ) BI
def FR (x0 x1 x2:Int) (x3 x4:Bool) (x5 x6:Int) (x7:Bool) (x8:List Int):Option (List Int):=cG DC Bl (AK AQ) BI ⟨[(0,.row 0),(1,.int .i64 x0),(2,.int .i64 x1),(3,.int .i64 x2),(8,.bool x3),(9,.bool x4),(10,.int .i64 x5),(11,.int .i64 x6),(87,.bool x7)],[.mrow 3 (.int .i64) x8]⟩
def DD (x0 x1 x2:Int) (x3 x4:Bool) (x5 x6:Int) (x7:Bool) (x8:List Int):Option (List Int):=cG FF LK (AK AQ) BI ⟨[(0,.row 0),(1,.int .i64 x0),(2,.int .i64 x1),(3,.int .i64 x2),(8,.bool x3),(9,.bool x4),(10,.int .i64 x5),(11,.int .i64 x6),(87,.bool x7)],[.mrow 3 (.int .i64) x8]⟩
def Be (x0 x1 x2:Int) (x3 x4:Bool) (x5 x6:Int) (x7:List Int):Option (List Int):=cG FH Bl (AK AQ) BI ⟨[(0,.row 0),(1,.int .i64 x0),(2,.int .i64 x1),(3,.int .i64 x2),(8,.bool x3),(9,.bool x4),(10,.int .i64 x5),(11,.int .i64 x6)],[.mrow 3 (.int .i64) x7]⟩
def DE (x0 x1 x2:Int) (x3 x4:Bool) (x5 x6 x7:Int) (x8:List Int):Option (List Int):=cG FI Bl (AK AQ) BI ⟨[(0,.row 0),(1,.int .i64 x0),(2,.int .i64 x1),(3,.int .i64 x2),(8,.bool x3),(9,.bool x4),(10,.int .i64 x5),(11,.int .i64 x6),(12,.int .i64 x7)],[.mrow 3 (.int .i64) x8]⟩
def DF (x0 x1 x2:Int) (x3 x4:Bool) (x5:Int) (x6:List Int):Option (List Int):=cG FJ Bl (AK AQ) BI ⟨[(0,.row 0),(1,.int .i64 x0),(2,.int .i64 x1),(3,.int .i64 x2),(8,.bool x3),(9,.bool x4),(10,.int .i64 x5)],[.mrow 3 (.int .i64) x6]⟩
def Bf (x0 x1 x2:Int) (x3 x4:Bool) (x5:List Int):Option (List Int):=FQ ⟨[(0,.row 0),(1,.int .i64 x0),(2,.int .i64 x1),(3,.int .i64 x2),(8,.bool x3),(9,.bool x4)],[.mrow 3 (.int .i64) x5]⟩
def KX (x0 x1 x2:Int) (x3 x4:Bool) (x5 x6:Int) (x7:Bool) (x8:List Int):Option (List Int):=((K9 x0 x1 x6 x8).bind fun y9=>(if 8=0 then none else (if (decide ((i64.wrap (y9.1-x0))<(i64.wrap (x1-y9.1))))=true then ((B5 x0 y9.1 x2 y9.2.2).bind fun y10=>(Bf (i64.wrap (y9.1+1)) x1 x2 (decide ((i64.wrap (y9.1-x0))>=(i64.wrap (Int.tdiv x5 8)))) y9.2.1 y10)) else ((B5 (i64.wrap (y9.1+1)) x1 x2 y9.2.2).bind fun y11=>(Bf x0 y9.1 x2 (decide ((i64.wrap (x1-y9.1))>=(i64.wrap (Int.tdiv x5 8)))) y9.2.1 y11)))))
def KY (x0 x1 x2:Int) (x3 x4:Bool) (x5 x6:Int) (x7:Bool) (x8:List Int):Option (List Int):=(if x7=true then ((IK x0 x1 x6 x8).bind fun y8=>(Bf y8.1 x1 x2 x3 x4 y8.2)) else (FR x0 x1 x2 x3 x4 x5 x6 x7 x8))
def KZ (x0 x1 x2:Int) (x3 x4:Bool) (x5 x6:Int) (x7:List Int):Option (List Int):=(if (decide (x0>0))=true then (if 0<=(i64.wrap (x0-1)) then (if (i64.wrap (x0-1))<(x7.length:Int) then (if 0<=x6 then (if x6<(x7.length:Int) then ((JS (x7.getD ((i64.wrap (x0-1)).toNat) 0) (x7.getD x6.toNat 0)).bind fun y7=>(DD x0 x1 x2 x3 x4 x5 x6 (!y7) x7)) else none) else none) else none) else none) else (DD x0 x1 x2 x3 x4 x5 x6 false x7))
def Ka (x0 x1 x2:Int) (x3 x4:Bool) (x5 x6 x7:Int) (x8:List Int):Option (List Int):=(if x3=true then (if x4=true then (if (x7==1)=true then ((GJ x0 x1 x8).bind fun y6=>(if y6.1=true then (some y6.2) else (Be x0 x1 x2 x3 x4 x5 x6 y6.2))) else (Be x0 x1 x2 x3 x4 x5 x6 x8)) else (Be x0 x1 x2 x3 x4 x5 x6 x8)) else (Be x0 x1 x2 x3 x4 x5 x6 x8))
def Kb (x0 x1 x2:Int) (x3 x4:Bool) (x5:Int) (x6:List Int):Option (List Int):=((Jr x0 x1 x6).bind fun y4=>(if (y4.2.1==2)=true then ((JU x0 x1 y4.2.2).bind fun y5=>(DE x0 x1 x2 x3 x4 x5 (i64.wrap ((i64.wrap (x1-1))-(i64.wrap (y4.1-x0)))) 1 y5)) else (DE x0 x1 x2 x3 x4 x5 y4.1 y4.2.1 y4.2.2)))
def FS (x0 x1 x2:Int) (x3 x4:Bool) (x5:List Int):Option (List Int):=(if (decide ((i64.wrap (x1-x0))<=12))=true then ((Co x0 x1 x5).bind fun y1=>(some y1)) else (if (x2==0)=true then ((LZ x0 x1 x5).bind fun y2=>(some y2)) else (if (!x3)=true then ((Iw x0 x1 x5).bind fun y3=>(DF x0 x1 (i64.wrap (x2-1)) x3 x4 (i64.wrap (x1-x0)) y3)) else (DF x0 x1 x2 x3 x4 (i64.wrap (x1-x0)) x5))))
def Ga (x1 x2 x3:Int) (b0:List Int):Option (List Int):=(Bf x1 x2 x3 true true b0)
theorem W9:mT KX FR:=jS (by kernel_rfl)
theorem W_:mT KY DD:=jS (by kernel_rfl)
theorem XA:lE KZ Be:=jS (by kernel_rfl)
theorem XB:mT Ka DE:=jS (by kernel_rfl)
theorem XC:mS Kb DF:=jS (by kernel_rfl)
theorem Kc:ja FS Bf:=lS (by kernel_rfl)
theorem Me:aW Ga B5:=cT AQ rfl ⟨rfl,rfl⟩ (by kernel_rfl)
def RA (x0:Int):Option Int:=((JT x0).bind fun y1=>(some y1))
theorem YT:S6 RA LY:=cT Hr rfl ⟨rfl,rfl⟩ (by kernel_rfl)
def Gb (x0:List AD) (x1:AD) (x2:List AD):Option (List AD):=cG Oq (AK DS) (AK DS) kx ⟨[(0,.lst AL x0),(5,.row 1)],[.var (AL.enc x1),.rows 38 AL x2]⟩
def Gc (x0:List AD) (x1:Int) (x2 x3:Bool) (x4:AD) (x5:List AD):Option (List AD):=cG Ot (AK DS) (AK DS) kx ⟨[(0,.lst AL x0),(3,.ptr 0 0),(5,.row 1),(6,.int .i64 x1),(7,.bool x2),(32,.bool x3)],[.var (AL.enc x4),.rows 38 AL x5]⟩
def OA (x0:List AD) (x1:AD) (x2:List AD):Option (List AD):=((EK x2).bind fun y5=>(if (!y5)=true then ((Ab x0).bind fun y6=>(some y6)) else (some x2)))
def OB (x0:List AD) (x1:Int) (x2 x3:Bool) (x4:AD) (x5:List AD):Option (List AD):=(if x2=true then (if 0<=x1 then (if x1<(x5.length:Int) then (let z4:List AD:=x5.set x1.toNat x4; (Gb x0 x4 z4)) else none) else none) else ((CV x5 x1 ([x4]:List AD)).bind fun y7=>(Gb x0 x4 y7)))
def Sd (x0:List AD) (x1:AD):Option (List AD):=((Ab x0).bind fun y1=>((BA x0 x1.1 ()).bind fun y2=>((EK x0).bind fun y3=>(if (!y3)=true then (some y1) else (if y2.2=true then (if 0<=y2.1 then (if y2.1<(x0.length:Int) then (if (decide ((((x0.getD y2.1.toNat (ByteArray.empty,ByteArray.empty,0)).2).2)>=x1.2.2))=true then (some y1) else (Gc x0 y2.1 y2.2 (decide ((((x0.getD y2.1.toNat (ByteArray.empty,ByteArray.empty,0)).2).2)>=x1.2.2)) x1 y1)) else none) else none) else (Gc x0 y2.1 y2.2 false x1 y1))))))
theorem Vz:VL OA Gb:=jS (by kernel_rfl)
theorem V0:ja OB Gc:=jS (by kernel_rfl)
theorem Z0:VK Sd JR:=cT DS rfl ⟨rfl,rfl⟩ (by kernel_rfl)
def CX:=kE 0 [] [] 1 (AK AN) kx
def Dn:St->Option (RT (CC.outs AN)):=lG D9 [(0,0)] [0,1,2,6] 1 (AK AN) CX
def Hl:=kB [(0,0)] [0,1,2,6] 1 Dn
def EA:=cG D8 Hl (AK AN) CX
def Hm:=kB [(0,0)] [0,1,2,6] 1 EA
def Hn:=kE 1 [(0,0)] [0,1,2,6] 1 EA CX
def EB:=kE 2 [(0,0)] [0,1,2,6] 1 Hm Hn
def Do:St->Option (RT (CC.outs AN)):=lG D7 [(0,0)] [0,1,2,6,7] 1 (AK AN) EB
def Ho:=kB [(0,0)] [0,1,2,6,7] 1 Do
def Dp (x0 x1 x2 x3:Int) (x4:Bool) (x5:List Int):Option (List Int):=cG D6 Ho (AK AN) EB ⟨[(0,.row 0),(1,.int .i64 x0),(2,.int .i64 x1),(6,.int .i64 x2),(7,.int .i64 x3),(30,.bool x4)],[.mrow 3 (.int .i64) x5]⟩
def BZ (x0 x1 x2 x3:Int) (x4:List Int):Option (List Int):=Do ⟨[(0,.row 0),(1,.int .i64 x0),(2,.int .i64 x1),(6,.int .i64 x2),(7,.int .i64 x3)],[.mrow 3 (.int .i64) x4]⟩
def Al (x0 x1 x2:Int) (x3:List Int):Option (List Int):=Dn ⟨[(0,.row 0),(1,.int .i64 x0),(2,.int .i64 x1),(6,.int .i64 x2)],[.mrow 3 (.int .i64) x3]⟩
def Dq (x0 x1 x2 x3:Int) (x4:Bool) (x5:List Int):Option (List Int):=(if 0<=(i64.wrap (x3-1)) then (if (i64.wrap (x3-1))<(x5.length:Int) then (if 0<=x3 then (if x3<(x5.length:Int) then (if 0<=x3 then (if x3<(x5.length:Int) then (let z2:List Int:=x5.set x3.toNat (x5.getD ((i64.wrap (x3-1)).toNat) 0); (if 0<=(i64.wrap (x3-1)) then (if (i64.wrap (x3-1))<(z2.length:Int) then (let z3:List Int:=z2.set ((i64.wrap (x3-1)).toNat) (x5.getD x3.toNat 0); (BZ x0 x1 x2 (i64.wrap (x3-1)) z3)) else none) else none)) else none) else none) else none) else none) else none) else none)
def CO (x0 x1 x2 x3:Int) (x4:List Int):Option (List Int):=(if (decide (x3>x0))=true then (if 0<=x3 then (if x3<(x4.length:Int) then (if 0<=(i64.wrap (x3-1)) then (if (i64.wrap (x3-1))<(x4.length:Int) then ((JS (x4.getD x3.toNat 0) (x4.getD ((i64.wrap (x3-1)).toNat) 0)).bind fun y1=>(if y1=true then (Dp x0 x1 x2 x3 y1 x4) else (Al x0 x1 (i64.wrap (x2+1)) x4))) else none) else none) else none) else none) else (Al x0 x1 (i64.wrap (x2+1)) x4))
def Ba (x0 x1 x2:Int) (x3:List Int):Option (List Int):=(if (decide (x2<x1))=true then (BZ x0 x1 x2 x2 x3) else (some x3))
def Cp (x1 x2:Int) (b0:List Int):Option (List Int):=(Al x1 x2 (i64.wrap (x1+1)) b0)
theorem HZ:ja Dq Dp:=jS (by kernel_rfl)
theorem Dr:lr CO BZ:=lS (by kernel_rfl)
theorem CP:aW Ba Al:=lS (by kernel_rfl)
theorem Ec:VL Cp Co:=cT AN rfl ⟨rfl,rfl⟩ (by kernel_rfl)
def Se (x0 x1:Int):Option Bool:=((Hu x0).bind fun y1=>(if y1=true then ((Hu x1).bind fun y2=>(if (!y2)=false then (some (decide (x0<x1))) else (some true))) else (some (decide (x0<x1)))))
theorem Z1:VK Se JS:=cT JM rfl ⟨rfl,rfl⟩ (by kernel_rfl)
def Ex (x0 x1:Int):Option Int:=cG L5 (AK CR) (AK CR) kx ⟨[(0,.int .u64 x0),(2,.int .i64 x1)],[]⟩
def Gr (x0 x1:Int):Option Int:=cG L6 (AK CR) (AK CR) kx ⟨[(0,.int .u64 x0),(2,.int .i64 x1)],[]⟩
def Gs (x0 x1:Int):Option Int:=(if (decide (x0>=256))=true then (if 8<0 then none else (if 0<=(IntKind.u8.wrap (Int.fdiv x0 (2^(min (8:Int).toNat (IntKind.bits .u64))))) then (if (IntKind.u8.wrap (Int.fdiv x0 (2^(min (8:Int).toNat (IntKind.bits .u64)))))<((⟨#[0,1,2,2,3,3,3,3,4,4,4,4,4,4,4,4,5,5,5,5,5,5,5,5,5,5,5,5,5,5,5,5,6,6,6,6,6,6,6,6,6,6,6,6,6,6,6,6,6,6,6,6,6,6,6,6,6,6,6,6,6,6,6,6,7,7,7,7,7,7,7,7,7,7,7,7,7,7,7,7,7,7,7,7,7,7,7,7,7,7,7,7,7,7,7,7,7,7,7,7,7,7,7,7,7,7,7,7,7,7,7,7,7,7,7,7,7,7,7,7,7,7,7,7,7,7,7,7,8,8,8,8,8,8,8,8,8,8,8,8,8,8,8,8,8,8,8,8,8,8,8,8,8,8,8,8,8,8,8,8,8,8,8,8,8,8,8,8,8,8,8,8,8,8,8,8,8,8,8,8,8,8,8,8,8,8,8,8,8,8,8,8,8,8,8,8,8,8,8,8,8,8,8,8,8,8,8,8,8,8,8,8,8,8,8,8,8,8,8,8,8,8,8,8,8,8,8,8,8,8,8,8,8,8,8,8,8,8,8,8,8,8,8,8,8,8,8,8,8,8,8,8,8,8,8,8]⟩:ByteArray).size:Int) then (some (i64.wrap ((i64.wrap (x1+8))+(i64.wrap (((⟨#[0,1,2,2,3,3,3,3,4,4,4,4,4,4,4,4,5,5,5,5,5,5,5,5,5,5,5,5,5,5,5,5,6,6,6,6,6,6,6,6,6,6,6,6,6,6,6,6,6,6,6,6,6,6,6,6,6,6,6,6,6,6,6,6,7,7,7,7,7,7,7,7,7,7,7,7,7,7,7,7,7,7,7,7,7,7,7,7,7,7,7,7,7,7,7,7,7,7,7,7,7,7,7,7,7,7,7,7,7,7,7,7,7,7,7,7,7,7,7,7,7,7,7,7,7,7,7,7,8,8,8,8,8,8,8,8,8,8,8,8,8,8,8,8,8,8,8,8,8,8,8,8,8,8,8,8,8,8,8,8,8,8,8,8,8,8,8,8,8,8,8,8,8,8,8,8,8,8,8,8,8,8,8,8,8,8,8,8,8,8,8,8,8,8,8,8,8,8,8,8,8,8,8,8,8,8,8,8,8,8,8,8,8,8,8,8,8,8,8,8,8,8,8,8,8,8,8,8,8,8,8,8,8,8,8,8,8,8,8,8,8,8,8,8,8,8,8,8,8,8,8,8,8,8,8,8]⟩:ByteArray).data.toList.getD (IntKind.u8.wrap (Int.fdiv x0 (2^(min (8:Int).toNat (IntKind.bits .u64))))).toNat 0).toNat:Int))))) else none) else none)) else (if 0<=(IntKind.u8.wrap x0) then (if (IntKind.u8.wrap x0)<((⟨#[0,1,2,2,3,3,3,3,4,4,4,4,4,4,4,4,5,5,5,5,5,5,5,5,5,5,5,5,5,5,5,5,6,6,6,6,6,6,6,6,6,6,6,6,6,6,6,6,6,6,6,6,6,6,6,6,6,6,6,6,6,6,6,6,7,7,7,7,7,7,7,7,7,7,7,7,7,7,7,7,7,7,7,7,7,7,7,7,7,7,7,7,7,7,7,7,7,7,7,7,7,7,7,7,7,7,7,7,7,7,7,7,7,7,7,7,7,7,7,7,7,7,7,7,7,7,7,7,8,8,8,8,8,8,8,8,8,8,8,8,8,8,8,8,8,8,8,8,8,8,8,8,8,8,8,8,8,8,8,8,8,8,8,8,8,8,8,8,8,8,8,8,8,8,8,8,8,8,8,8,8,8,8,8,8,8,8,8,8,8,8,8,8,8,8,8,8,8,8,8,8,8,8,8,8,8,8,8,8,8,8,8,8,8,8,8,8,8,8,8,8,8,8,8,8,8,8,8,8,8,8,8,8,8,8,8,8,8,8,8,8,8,8,8,8,8,8,8,8,8,8,8,8,8,8,8]⟩:ByteArray).size:Int) then (some (i64.wrap (x1+(i64.wrap (((⟨#[0,1,2,2,3,3,3,3,4,4,4,4,4,4,4,4,5,5,5,5,5,5,5,5,5,5,5,5,5,5,5,5,6,6,6,6,6,6,6,6,6,6,6,6,6,6,6,6,6,6,6,6,6,6,6,6,6,6,6,6,6,6,6,6,7,7,7,7,7,7,7,7,7,7,7,7,7,7,7,7,7,7,7,7,7,7,7,7,7,7,7,7,7,7,7,7,7,7,7,7,7,7,7,7,7,7,7,7,7,7,7,7,7,7,7,7,7,7,7,7,7,7,7,7,7,7,7,7,8,8,8,8,8,8,8,8,8,8,8,8,8,8,8,8,8,8,8,8,8,8,8,8,8,8,8,8,8,8,8,8,8,8,8,8,8,8,8,8,8,8,8,8,8,8,8,8,8,8,8,8,8,8,8,8,8,8,8,8,8,8,8,8,8,8,8,8,8,8,8,8,8,8,8,8,8,8,8,8,8,8,8,8,8,8,8,8,8,8,8,8,8,8,8,8,8,8,8,8,8,8,8,8,8,8,8,8,8,8,8,8,8,8,8,8,8,8,8,8,8,8,8,8,8,8,8,8]⟩:ByteArray).data.toList.getD (IntKind.u8.wrap x0).toNat 0).toNat:Int))))) else none) else none))
def LL (x0 x1:Int):Option Int:=(if (decide (x0>=65536))=true then (if 16<0 then none else (Ex (Int.fdiv x0 (2^(min (16:Int).toNat (IntKind.bits .u64)))) (i64.wrap (x1+16)))) else (Ex x0 x1))
def OC (x0:Int):Option Int:=(if (decide (x0>=4294967296))=true then (if 32<0 then none else (Gr (Int.fdiv x0 (2^(min (32:Int).toNat (IntKind.bits .u64)))) 32)) else (Gr x0 0))
theorem Sf:VK Gs Ex:=jS (by kernel_rfl)
theorem Sg:VK LL Gr:=jS (by kernel_rfl)
theorem V5:S6 OC JT:=cT CR rfl ⟨rfl,rfl⟩ (by kernel_rfl)
def Dd:=cG Ax (AK AA) (AK AA) kx
def De:=kE 0 [] [0,1,2,8,9] 0 Dd kx
def DX:St->Option (RT (CC.outs AA)):=lG Bx [] [0,1,2,8,9,10] 0 (AK AA) De
def Bu (x0:List AD) (x1:ByteArray) (x2 x3:Int):Option (Int×Bool):=cG Ax (AK AA) (AK AA) kx ⟨[(0,.lst AL x0),(1,.str x1),(2,.fn 160 []),(8,.int .i64 x2),(9,.int .i64 x3)],[]⟩
def AE (x0:List AD) (x1:ByteArray) (x2 x3 x4:Int):Option (Int×Bool):=DX ⟨[(0,.lst AL x0),(1,.str x1),(2,.fn 160 []),(8,.int .i64 x2),(9,.int .i64 x3),(10,.int .i64 x4)],[]⟩
def Bv (x0:List AD) (x1:ByteArray) (x2 x3:Int):Option (Int×Bool):=(if (decide (x3<x2))=true then (if 0<=x3 then (if x3<(x0.length:Int) then ((G9 (x0.getD x3.toNat (ByteArray.empty,ByteArray.empty,0)) x1).bind fun y2=>(some (x3,(y2==0)))) else none) else none) else (some (x3,false)))
def Au (x0:List AD) (x1:ByteArray) (x2 x3 x4:Int):Option (Int×Bool):=(if (decide (x3<x4))=true then (if 1<0 then none else (if 0<=(i64.wrap (Int.fdiv (IntKind.u64.wrap (i64.wrap (x3+x4))) (2^(min (1:Int).toNat (IntKind.bits .u64))))) then (if (i64.wrap (Int.fdiv (IntKind.u64.wrap (i64.wrap (x3+x4))) (2^(min (1:Int).toNat (IntKind.bits .u64)))))<(x0.length:Int) then ((G9 (x0.getD (i64.wrap (Int.fdiv (IntKind.u64.wrap (i64.wrap (x3+x4))) (2^(min (1:Int).toNat (IntKind.bits .u64))))).toNat (ByteArray.empty,ByteArray.empty,0)) x1).bind fun y1=>(if (decide (y1<0))=true then (AE x0 x1 x2 (i64.wrap ((i64.wrap (Int.fdiv (IntKind.u64.wrap (i64.wrap (x3+x4))) (2^(min (1:Int).toNat (IntKind.bits .u64)))))+1)) x4) else (AE x0 x1 x2 x3 (i64.wrap (Int.fdiv (IntKind.u64.wrap (i64.wrap (x3+x4))) (2^(min (1:Int).toNat (IntKind.bits .u64)))))))) else none) else none)) else (Bu x0 x1 x2 x3))
def B6 (x0:List AD) (x1:ByteArray) (x2:Unit):Option (Int×Bool):=(AE x0 x1 (x0.length:Int) 0 (x0.length:Int))
theorem DY:aW Bv Bu:=jS (by kernel_rfl)
theorem Bw:lr Au AE:=lS (by kernel_rfl)
theorem D2:VL B6 BA:=cT AA rfl ⟨rfl,rfl⟩ (by kernel_rfl)
def PF (x0:AD) (x1:ByteArray):Option Int:=((JV x0.1 x1).bind fun y1=>(some y1))
theorem XD:VK PF G9:=cT G5 rfl ⟨rfl,rfl⟩ (by kernel_rfl)
def RB (x0:Int):Option Bool:=(some (x0 != x0))
theorem YU:S6 RB Hu:=cT Hs rfl ⟨rfl,rfl⟩ (by kernel_rfl)
end
end Go.Proofs.YtokiohnjegbnpaaGreat.Core


namespace Go.Proofs.YtokiohnjegbnpaaGreat.Core
open Go
theorem Az {n:Int} (h:-9223372036854775808<=n/\n<=9223372036854775807):IntKind.i64.wrap n=n:=IntWalk.i64_in n h
theorem Ae {i:Nat} (h:i<9223372036854775807):IntKind.i64.wrap ((i:Int)+1)=((i+1:Nat):Int):=by
 rw [Az (by omega)]
 omega
theorem NZ {P:Nat->Prop} {n:Nat} (h0:P n) (h:∀ i,i<n->P (i+1)->P i):∀ i,i<=n->P i:=by
 intro i hi
 induction hk:n-i generalizing i with
 | zero =>
  have:i=n:=by omega
  subst this
  exact h0
 | succ k ih=>exact h i (by omega) (ih (i+1) (by omega) (by omega))
theorem AZ {α:Type} {xs:List α} {i:Nat} {d:α} (h:i<xs.length):xs.getD i d=xs[i]:=by
 simp [List.getD,h]

theorem Ag (a b c:Int):AW a b c=some (decide (b<=a)&&decide (a<=c)):=Zq (by
 unfold SK
 by_cases h:b<=a<;>simp [h])
def MM (x:Int×ByteArray×ByteArray×Int×Int×Int×Int×Int×ByteArray):Int :=
 if (decide ((0:Int)<=x.2.2.2.2.2.2.1)&&decide (x.2.2.2.2.2.2.1<=9))&&(decide ((0:Int)<=x.2.2.2.2.2.2.2.1)&&decide (x.2.2.2.2.2.2.2.1<=999)) then IntKind.i64.wrap (IntKind.i64.wrap (1000*x.2.2.2.2.2.2.1)+x.2.2.2.2.2.2.2.1) else 0
theorem Ln x:Cs x=some (MM x):=cf (by
 unfold Vb MM
 simp only [Ag,X]
 generalize (decide ((0:Int)<=x.2.2.2.2.2.2.1)&&decide (x.2.2.2.2.2.2.1<=9))=a
 generalize (decide ((0:Int)<=x.2.2.2.2.2.2.2.1)&&decide (x.2.2.2.2.2.2.2.1<=999))=b
 cases a<;>cases b<;>simp)

def BJ (x:List (ByteArray×ByteArray×Int)) (k:ByteArray):ByteArray×ByteArray×Int :=
 (x.find? fun a=>a.1.toList==k.toList).getD (ByteArray.empty,ByteArray.empty,0)
theorem EF {α:Type} {x:List α} {i:Nat} (h:i<x.length):x.drop i=x[i]::x.drop (i+1):=List.drop_eq_getElem_cons h
theorem PH (x k) (h:x.length<=maxLen):Ko x k=some (BJ x k):=ar (by
 have hm:x.length<=9223372036854775807:=h
 unfold Tm
 exact NZ (n:=x.length) (P:=fun i=>∀ z,HD k x (x.length:Int) (i:Int) z=some (BJ (x.drop i) k)) (fun z=>O8 (by
  unfold KW
  rw [if_neg (by simp),List.drop_length]
  rfl)) (fun i hi ih z=>O8 (by
  unfold KW
  simp only [show ((i:Int)<(x.length:Int)) from by omega,decide_true,if_true,show (0:Int)<=(i:Int) from by omega,Int.toNat_natCast,AZ hi,Ae (show i<9223372036854775807 by omega)]
  rw [EF hi]
  by_cases hk:(x[i].1.toList==k.toList)=true
  ·rw [if_pos hk]
   unfold BJ
   rw [List.find?_cons,hk]
   rfl
  ·rw [if_neg hk,ih]
   unfold BJ
   rw [List.find?_cons,Bool.eq_false_iff.2 hk])) 0 (by omega) _)

theorem Lo k:Ma k=some (decide (1<=(k.size:Int))&&decide ((k.size:Int)<=12)):=cp (by simp [Vr,Ag])
theorem FT n:D_ n=some (decide (1<=n)&&decide (n<=6)):=an (by simp [Tl,Ag])
def hY (v:ByteArray):Bool:=v.toList==(⟨#[]⟩:ByteArray).toList
theorem fA (v:ByteArray):(v.toList==(⟨#[]⟩:ByteArray).toList)=hY v:=rfl
def fc (op:Int) (k v:ByteArray):Bool :=
 (decide (op=1)||decide (op=2))&&(decide (1<=(k.size:Int))&&decide ((k.size:Int)<=12))&&decide ((v.size:Int)<=20)&&(decide (op=1)||hY v)
def XE (x:Int×Int×Int×Int×ByteArray×ByteArray):Bool :=
 decide (1<=x.1)&&decide (x.1<=6)&&(decide (1<=x.2.1)&&decide (x.2.1<=6))&&decide (0<=x.2.2.1) &&
  (if x.1=1 then fc x.2.2.2.1 x.2.2.2.2.1 x.2.2.2.2.2 else decide (x.2.2.2.1=0)&&hY x.2.2.2.2.1&&hY x.2.2.2.2.2)
theorem YV a k v:JO a 0 k v=some (fc a k v):=Vp (by
 have w:∀ b,Hv a v b=some (decide (a=1)||hY v):=fun b=>Q1 (by
  unfold Lk
  rw [fA]
  by_cases h:a=1<;>simp [h])
 unfold Py fc
 have jB:decide ((v.size:Int)>20)=!decide ((v.size:Int)<=20):=by
  by_cases h:(v.size:Int)<=20<;>simp [h]
  omega
 simp only [jB,Ag,Lo,X,w]
 by_cases h1:a=1
 ·by_cases h2:1<=(k.size:Int)<;>by_cases h3:(k.size:Int)<=12<;>by_cases h4:(v.size:Int)<=20<;>simp [h1,h2,h3,h4]
 ·by_cases h1b:a=2
  ·by_cases h2:1<=(k.size:Int)<;>by_cases h3:(k.size:Int)<=12<;>by_cases h4:(v.size:Int)<=20<;>simp [h1b,h2,h3,h4]
  ·have:¬ (1<=a/\a<=2):=by omega
   by_cases h5:1<=a
   ·have:¬ a<=2:=by omega
    simp [h1,h1b,this]
   ·simp [h1,h1b,h5])
theorem V6 x:M2 x=some (XE x):=Zp (by
 have w:∀ b,Jc b x=some (if x.1=1 then fc x.2.2.2.1 x.2.2.2.2.1 x.2.2.2.2.2 else decide (x.2.2.2.1=0)&&hY x.2.2.2.2.1&&hY x.2.2.2.2.2):=fun b=>Vj (by
  unfold N0
  simp only [fA]
  by_cases h:x.1=1
  ·simp [h,YV]
  ·by_cases h2:x.2.2.2.1=0<;>rcases Bool.eq_false_or_eq_true (hY x.2.2.2.2.1) with h3 | h3<;>simp [h,h2,h3])
 unfold SJ XE
 simp only [Ag,FT,X,w]
 by_cases h1:1<=x.1<;>by_cases h2:x.1<=6<;>by_cases h3:1<=x.2.1<;>by_cases h4:x.2.1<=6<;>by_cases h5:0<=x.2.2.1<;>simp [h1,h2,h3,h4,h5]<;>omega)

def Hz (a:ByteArray×ByteArray×Int):Bool:=(decide (1<=(a.1.size:Int))&&decide ((a.1.size:Int)<=12))&&decide ((a.2.1.size:Int)<=20)&&(decide (1<=a.2.2)&&decide (a.2.2<=1000000000))
def DG (x:List (ByteArray×ByteArray×Int)) (i:Nat):Nat->Bool
 | 0=>decide ((x.length:Int)<=12)
 | k+1=>Hz (x.getD i (ByteArray.empty,ByteArray.empty,0))&&(decide (i=0)||Op.bytesLess (x.getD (i-1) (ByteArray.empty,ByteArray.empty,0)).1.toList (x.getD i (ByteArray.empty,ByteArray.empty,0)).1.toList)&&DG x (i+1) k
theorem jB (n:Int):decide (n>20)=!decide (n<=20):=by
 by_cases h:n<=20<;>simp [h]
 omega
theorem bU {i:Nat} (h:i<9223372036854775807) (h0:0<i):IntKind.i64.wrap ((i:Int)-1)=((i-1:Nat):Int):=by
 rw [Az (by omega)]
 omega
theorem Jm (x) (h:x.length<=maxLen) (hl:∀ a b:List UInt8,(Op.bytesLess a b||a==b)=!Op.bytesLess b a):EK x=some (DG x 0 x.length):=Zr (by
 have hm:x.length<=9223372036854775807:=h
 unfold SN
 have:=NZ (n:=x.length) (P:=fun i=>Ew x x (x.length:Int) (i:Int)=some (DG x i (x.length-i))) (N1 (by
  unfold Jd
  rw [if_neg (by simp),Nat.sub_self]
  rfl)) (fun i hi ih=>N1 (by
  unfold Jd
  have e:x.length-i=(x.length-(i+1))+1:=by omega
  simp only [show ((i:Int)<(x.length:Int)) from by omega,decide_true,if_true,show (0:Int)<=(i:Int) from by omega,Int.toNat_natCast,Ae (show i<9223372036854775807 by omega),ih,Ag,Lo,X,jB,hl]
  rw [e,DG,Hz]
  generalize (decide (1<=((x.getD i (ByteArray.empty,ByteArray.empty,0)).1.size:Int))&&decide (((x.getD i (ByteArray.empty,ByteArray.empty,0)).1.size:Int)<=12))=a
  generalize decide (((x.getD i (ByteArray.empty,ByteArray.empty,0)).2.1.size:Int)<=20)=b
  generalize (decide (1<=(x.getD i (ByteArray.empty,ByteArray.empty,0)).2.2)&&decide ((x.getD i (ByteArray.empty,ByteArray.empty,0)).2.2<=1000000000))=c
  cases a
  ·simp
  cases b
  ·simp
  cases c
  ·simp
  by_cases h0:0<i
  ·rw [bU (by omega) h0]
   simp only [Int.toNat_natCast,show ((0:Int)<=((i-1:Nat):Int)) from by omega,show (((i-1:Nat):Int)<(x.length:Int)) from by omega,if_true]
   rcases Bool.eq_false_or_eq_true (Op.bytesLess (x.getD (i-1) (ByteArray.empty,ByteArray.empty,0)).1.toList (x.getD i (ByteArray.empty,ByteArray.empty,0)).1.toList) with hb | hb<;>simp only [hb]<;>simp [h0,show i≠0 by omega]
  ·have:i=0:=by omega
   subst this
   simp)) 0 (by omega)
 simpa using this)
theorem LN:∀ a b:List UInt8,(Op.bytesLess a b||a==b)=!Op.bytesLess b a
 | [],[]=>rfl
 | [],_::_=>rfl
 | _::_,[]=>rfl
 | a::l,b::m=>by
  have ih:=LN l m
  simp only [Op.bytesLess]
  by_cases h1:a<b
  ·have h2:¬ b<a:=by exact UInt8.not_lt.2 (UInt8.le_of_lt h1)
   have h3:¬ b=a:=fun h=>by subst h; exact absurd h1 (UInt8.lt_irrefl _)
   simp [h1,h2,h3]
  ·by_cases h2:b<a
   ·have h3:¬ a=b:=fun h=>by subst h; exact absurd h2 (UInt8.lt_irrefl _)
    simp [h1,h2,h3]
   ·have h3:a=b:=UInt8.le_antisymm (UInt8.not_lt.1 h2) (UInt8.not_lt.1 h1)
    subst h3
    simpa [h1] using ih

abbrev AI:Type:=ByteArray×ByteArray×Int
abbrev Z2:AI:=(ByteArray.empty,ByteArray.empty,(0:Int))
theorem S7:∀ a:List UInt8,Op.bytesLess a a=false
 | []=>rfl
 | a::l=>by simp [Op.bytesLess,S7 l,UInt8.lt_irrefl]
theorem Sh:∀ {a b c:List UInt8},Op.bytesLess a b=true->Op.bytesLess b c=true->Op.bytesLess a c=true
 | _,[],_,h,_=>by cases ‹List UInt8› <;> simp [Op.bytesLess] at h
 | _,_::_,[],_,h=>by simp [Op.bytesLess] at h
 | [],_::_,_::_,_,_=>rfl
 | a::x,b::y,c::z,h,g=>by
  simp only [Op.bytesLess,Bool.or_eq_true,decide_eq_true_eq,Bool.and_eq_true,beq_iff_eq] at h g ⊢
  rcases h with h | ⟨rfl,h⟩
  ·rcases g with g | ⟨rfl,g⟩
   ·exact .inl (UInt8.lt_trans h g)
   ·exact .inl h
  ·rcases g with g | ⟨rfl,g⟩
   ·exact .inl g
   ·exact .inr ⟨rfl,Sh h g⟩
theorem Z3:∀ a b:List UInt8,decide (Lib.compareBytes a b<0)=Op.bytesLess a b/\(Lib.compareBytes a b==0)=(a==b)
 | [],[]=>⟨rfl,rfl⟩
 | [],_::_=>⟨rfl,rfl⟩
 | _::_,[]=>⟨rfl,rfl⟩
 | a::l,b::m=>by
  have ih:=Z3 l m
  simp only [Lib.compareBytes,Op.bytesLess]
  by_cases h1:a<b
  ·have h3:¬ a=b:=fun h=>by subst h; exact absurd h1 (UInt8.lt_irrefl _)
   simp [h1,h3]
  ·by_cases h2:b<a
   ·have h3:¬ a=b:=fun h=>by subst h; exact absurd h2 (UInt8.lt_irrefl _)
    simp [h1,h2,h3]
   ·have h3:a=b:=UInt8.le_antisymm (UInt8.not_lt.1 h2) (UInt8.not_lt.1 h1)
    subst h3
    simpa [h1] using ih
theorem MN (a:AI) (k:ByteArray):G9 a k=some (Lib.compareBytes a.1.toList k.toList):=XD (by
 unfold PF
 rw [VV,ByteArray.toList_eq,ByteArray.toList_eq]
 rfl)
def PI (x:List AI) (i:Nat) (k:ByteArray):Bool:=match x[i]? with
 | some b=>b.1.toList==k.toList
 | none=>false
def WM (k:ByteArray) (b:AI):Bool:=Op.bytesLess b.1.toList k.toList
def H5 (x:List AI):Prop:=∀ a b (ha:a<x.length) (hb:b<x.length),a<b->Op.bytesLess x[a].1.toList x[b].1.toList=true
def Xi (x:List AI) (k:ByteArray) (i j:Nat):Prop:=∀ a (ha:a<x.length),(a<i->WM k x[a]=true)/\(j<=a->WM k x[a]=false)
theorem l9 {i j:Nat} (h:i+j<=137438953472):IntKind.i64.wrap (Int.fdiv (IntKind.u64.wrap (IntKind.i64.wrap ((i:Int)+(j:Int)))) (2^(min (1:Int).toNat (IntKind.bits .u64))))=(((i+j) / 2:Nat):Int):=by
 have e1:IntKind.i64.wrap ((i:Int)+(j:Int))=((i+j:Nat):Int):=by rw [Az (by omega)]; omega
 have e2:IntKind.u64.wrap ((i+j:Nat):Int)=((i+j:Nat):Int):=by
  simp only [IntKind.wrap,IntKind.bits,IntKind.signed]
  simp
  omega
 have e3:(2:Int)^(min (1:Int).toNat (IntKind.bits .u64))=2:=by decide
 rw [e1,e2,e3,Int.fdiv_eq_ediv_of_nonneg _ (by omega)]
 rw [Az (by omega)]
 omega
theorem d8 (x:List AI) (k:ByteArray) (hx:x.length<=68719476736):∀ (m i j:Nat),j-i<=m->i<=j->j<=x.length ->
  ∃ r:Nat,i<=r/\r<=j/\AE x k (x.length:Int) (i:Int) (j:Int)=some ((r:Int),PI x r k)/\(H5 x->Xi x k i j->Xi x k r r):=by
 intro m
 induction m with
 | zero =>
  intro i j hm hij hj
  have:i=j:=by omega
  subst this
  refine ⟨i,Nat.le_refl _,Nat.le_refl _,Bw ?_,fun _ h=>h⟩
  unfold Au
  rw [if_neg (by simp)]
  refine DY ?_
  unfold Bv PI
  by_cases h:i<x.length
  ·simp only [show ((i:Int)<(x.length:Int)) from by omega,decide_true,if_true,show (0:Int)<=(i:Int) from by omega,Int.toNat_natCast,AZ h,MN,X,(Z3 _ _).2,List.getElem?_eq_getElem h]
  ·rw [if_neg (by simp; omega),List.getElem?_eq_none (by omega)]
 | succ m ih =>
  intro i j hm hij hj
  by_cases hlt:i<j
  ·have hmid:i<=(i+j) / 2/\(i+j) / 2<j:=by omega
   generalize hh:(i+j) / 2=h at hmid
   have hb:h<x.length:=by omega
   have step:∀ r,(if WM k x[h]=true then AE x k (x.length:Int) ((h+1:Nat):Int) (j:Int) else AE x k (x.length:Int) (i:Int) (h:Int))=some r->AE x k (x.length:Int) (i:Int) (j:Int)=some r:=fun r hr=>Bw (by
    unfold Au
    simp only [show ((i:Int)<(j:Int)) from by omega,decide_true,if_true,l9 (show i+j<=137438953472 by omega),hh,show ¬ ((1:Int)<0) from by decide,if_false,show ((0:Int)<=(h:Int)) from by omega,show ((h:Int)<(x.length:Int)) from by omega,Int.toNat_natCast,AZ hb,MN,X,(Z3 _ _).1,Ae (show h<9223372036854775807 by omega)]
    exact hr)
   cases hl:WM k x[h] with
   | true =>
    obtain ⟨r,h1,h2,h3,h4⟩:=ih (h+1) j (by omega) (by omega) hj
    refine ⟨r,by omega,h2,step _ (by rw [hl]; exact h3),fun ho hc=>h4 ho fun a ha=>⟨fun hlt=>?_,(hc a ha).2⟩⟩
    by_cases e:a=h
    ·subst e; exact hl
    ·exact Sh (ho a h ha hb (by omega)) hl
   | false =>
    obtain ⟨r,h1,h2,h3,h4⟩:=ih i h (by omega) hmid.1 (by omega)
    refine ⟨r,h1,by omega,step _ (by rw [hl]; exact h3),fun ho hc=>h4 ho fun a ha=>⟨(hc a ha).1,fun hle=>?_⟩⟩
    by_cases e:a=h
    ·subst e; exact hl
    ·cases q:WM k x[a] with
     | false=>rfl
     | true =>
      have:=Sh (ho h a hb ha (by omega)) q
      rw [show Op.bytesLess x[h].1.toList k.toList=false from hl] at this
      cases this
  ·have:i=j:=by omega
   subst this
   exact ih i i (by omega) (Nat.le_refl _) hj
theorem gw (x:List AI) (k:ByteArray) (hx:x.length<=68719476736):∃ r:Nat,r<=x.length/\BA x k ()=some ((r:Int),PI x r k)/\(H5 x->Xi x k r r):=by
 obtain ⟨r,_,h2,h3,h4⟩:=d8 x k hx x.length 0 x.length (by omega) (by omega) (Nat.le_refl _)
 refine ⟨r,h2,D2 (by unfold B6; exact h3),fun ho=>h4 ho fun a ha=>⟨fun h=>by omega,fun h=>by omega⟩⟩
theorem Si {x:List AI}:∀ (m i:Nat),DG x i m=true->∀ a,i<=a->a<i+m->a≠0->Op.bytesLess (x.getD (a-1) Z2).1.toList (x.getD a Z2).1.toList=true
 | 0,i,_,a,h1,h2,_=>by omega
 | m+1,i,h,a,h1,h2,h0=>by
  simp only [DG,Bool.and_eq_true,Bool.or_eq_true,decide_eq_true_eq] at h
  obtain ⟨⟨_,h3⟩,h4⟩:=h
  by_cases e:a=i
  ·subst e
   exact h3.resolve_left h0
  ·exact Si m (i+1) h4 a (by omega) (by omega) h0
theorem Sj {x:List AI} (h:DG x 0 x.length=true):H5 x:=by
 have st:=Si _ _ h
 have:∀ d a (ha:a+d+1<x.length),Op.bytesLess (x.getD a Z2).1.toList (x.getD (a+d+1) Z2).1.toList=true:=by
  intro d
  induction d with
  | zero=>intro a ha; exact st (a+1) (by omega) (by omega) (by omega)
  | succ d ih =>
   intro a ha
   exact Sh (ih a (by omega)) (st (a+(d+1)+1) (by omega) (by omega) (by omega))
 intro a b ha hb hab
 have:=this (b-a-1) a (by omega)
 rw [show a+(b-a-1)+1=b by omega,AZ ha,AZ hb] at this
 exact this
theorem d9 {x:List AI} {k:ByteArray} {r:Nat} (hr:r<=x.length) (h:Xi x k r r):x.take r=x.filter (WM k)/\x.drop r=x.filter (fun b=>!WM k b):=by
 have e1:(x.take r).filter (WM k)=x.take r:=List.filter_eq_self.2 fun b hb=>by
  obtain ⟨a,ha,rfl⟩:=List.getElem_of_mem hb
  rw [List.length_take] at ha
  rw [List.getElem_take]
  exact (h a (by omega)).1 (by omega)
 have e2:(x.drop r).filter (WM k)=[]:=List.filter_eq_nil_iff.2 fun b hb=>by
  obtain ⟨a,ha,rfl⟩:=List.getElem_of_mem hb
  rw [List.length_drop] at ha
  rw [List.getElem_drop]
  have:=(h (r+a) (by omega)).2 (by omega)
  simp [this]
 have e3:(x.take r).filter (fun b=>!WM k b)=[]:=List.filter_eq_nil_iff.2 fun b hb=>by
  obtain ⟨a,ha,rfl⟩:=List.getElem_of_mem hb
  rw [List.length_take] at ha
  rw [List.getElem_take]
  have:=(h a (by omega)).1 (by omega)
  simp [this]
 have e4:(x.drop r).filter (fun b=>!WM k b)=x.drop r:=List.filter_eq_self.2 fun b hb=>by
  obtain ⟨a,ha,rfl⟩:=List.getElem_of_mem hb
  rw [List.length_drop] at ha
  rw [List.getElem_drop]
  have:=(h (r+a) (by omega)).2 (by omega)
  simp [this]
 have f1:x.filter (WM k)=(x.take r).filter (WM k)++(x.drop r).filter (WM k):=by rw [<- List.filter_append,List.take_append_drop]
 have f2:x.filter (fun b=>!WM k b)=(x.take r).filter (fun b=>!WM k b)++(x.drop r).filter (fun b=>!WM k b):=by rw [<- List.filter_append,List.take_append_drop]
 rw [f1,f2,e1,e2,e3,e4]
 simp
theorem fB {x:List AI} {k:ByteArray} {r:Nat} (ho:H5 x) (h:Xi x k r r) (j:Nat) (hj:j<x.length) (e:x[j].1.toList=k.toList):j=r:=by
 rcases Nat.lt_trichotomy j r with g | g | g
 ·have:=(h j hj).1 g
  simp only [WM,e,S7] at this
  cases this
 ·exact g
 ·have h1:=ho r j (by omega) hj g
  have h2:=(h r (by omega)).2 (Nat.le_refl _)
  rw [e] at h1
  rw [show WM k x[r]=true from h1] at h2
  cases h2
def bV (x:List AI) (a:AI):Bool:=x.any fun b=>(b.1.toList==a.1.toList)&&decide (b.2.2>=a.2.2)
def cv (k:ByteArray) (b:AI):Bool:=!(Op.bytesLess b.1.toList k.toList||(b.1.toList==k.toList))
def P5 (x:List AI) (a:AI):List AI:=x.filter (WM a.1)++[a]++x.filter (cv a.1)
def BS (x:List AI):Bool:=DG x 0 x.length
def Aj (x:List AI) (a:AI):List AI:=if bV x a=true then x else if BS x=true then (if BS (P5 x a)=true then P5 x a else x) else x
theorem fC {x:List AI} {k:ByteArray} {r:Nat} (hr:r<=x.length) (h:Xi x k r r):x.filter (cv k)=(x.drop r).filter fun b=>!(b.1.toList==k.toList):=by
 rw [(d9 hr h).2,List.filter_filter]
 congr 1
 funext b
 simp only [cv,WM,Bool.not_or]
 exact Bool.and_comm _ _
theorem jC {x:List AI} {a:AI} {r:Nat} (hr:r<=x.length) (ho:H5 x) (h:Xi x a.1 r r):bV x a=(PI x r a.1&&decide ((x.getD r Z2).2.2>=a.2.2)):=by
 unfold bV PI
 by_cases hl:r<x.length
 ·rw [List.getElem?_eq_getElem hl,AZ hl]
  rw [Bool.eq_iff_iff,List.any_eq_true]
  simp only [Bool.and_eq_true,beq_iff_eq,decide_eq_true_eq]
  refine ⟨fun ⟨b,hb,e,hv⟩=>?_,fun ⟨e,hv⟩=>⟨_,List.getElem_mem hl,e,hv⟩⟩
  obtain ⟨j,hj,rfl⟩:=List.getElem_of_mem hb
  have:=fB ho h j hj e
  subst this
  exact ⟨e,hv⟩
 ·rw [List.getElem?_eq_none (by omega),Bool.false_and,List.any_eq_false]
  intro b hb
  obtain ⟨j,hj,rfl⟩:=List.getElem_of_mem hb
  intro hc
  simp only [Bool.and_eq_true,beq_iff_eq] at hc
  have:=fB ho h j hj hc.1
  omega
theorem ka {x:List AI} {a:AI} {r:Nat} (hr:r<=x.length) (ho:H5 x) (h:Xi x a.1 r r):P5 x a=if PI x r a.1=true then x.set r a else x.take r++[a]++x.drop r:=by
 unfold P5
 rw [fC hr h,<- (d9 hr h).1]
 have hk:∀ (j:Nat) (hj:j<x.length),j≠r->(x[j].1.toList==a.1.toList)=false:=fun j hj hne=>by
  cases q:(x[j].1.toList==a.1.toList) with
  | false=>rfl
  | true=>exact absurd (fB ho h j hj (by simpa using q)) hne
 have tail:(x.drop (r+1)).filter (fun b=>!(b.1.toList==a.1.toList))=x.drop (r+1):=List.filter_eq_self.2 fun b hb=>by
  obtain ⟨j,hj,rfl⟩:=List.getElem_of_mem hb
  rw [List.length_drop] at hj
  rw [List.getElem_drop,hk (r+1+j) (by omega) (by omega)]
  rfl
 by_cases hl:r<x.length
 ·rw [EF hl,List.filter_cons,tail]
  unfold PI
  rw [List.getElem?_eq_getElem hl]
  cases q:(x[r].1.toList==a.1.toList) with
  | true=>simp [q,List.set_eq_take_append_cons_drop,hl]
  | false=>simp [q]
 ·have:x.drop r=[]:=List.drop_eq_nil_of_le (by omega)
  rw [this]
  unfold PI
  rw [List.getElem?_eq_none (by omega)]
  simp
theorem OD (x:List AI) (a:AI) (hx:x.length<=34359738367):JR x a=some (Aj x a):=Z0 (by
 obtain ⟨r,hr,hs,hc⟩:=gw x a.1 (by omega)
 have ok:∀ y:List AI,y.length<=68719476736->EK y=some (BS y):=fun y hy=>Jm y (by unfold maxLen; omega) LN
 have J1:∀ y:List AI,y.length<=68719476736->Gb x a y=some (if BS y=true then y else x):=fun y hy=>Vz (by
  unfold OA
  rw [ok y hy,Ap (by omega)]
  cases BS y<;>simp)
 have hl:PI x r a.1=true->r<x.length:=fun h=>by
  by_cases hl:r<x.length
  ·exact hl
  ·unfold PI at h
   rw [List.getElem?_eq_none (by omega)] at h
   cases h
 have J0:∀ b,BS x=true->Gc x (r:Int) (PI x r a.1) b a x=some (if BS (P5 x a)=true then P5 x a else x):=fun b hok=>V0 (by
  unfold OB
  rw [ka hr (Sj hok) (hc (Sj hok))]
  cases hh:PI x r a.1 with
  | true =>
   have:=hl hh
   simp only [if_true,show (0:Int)<=(r:Int) from by omega,show ((r:Int)<(x.length:Int)) from by omega,Int.toNat_natCast]
   rw [J1 _ (by simp; omega)]
  | false =>
   rw [if_neg (by simp),Hg (by simp; omega) hr (by simp),X,J1 _ (by simp; omega)]
   simp)
 unfold Sd
 rw [Ap (by omega),X,hs,X,ok x (by omega),X]
 cases hok:BS x with
 | false=>simp [Aj,hok]
 | true =>
  have hst:=jC hr (Sj hok) (hc (Sj hok))
  have j0:=J0
  unfold Aj
  rw [hst,hok]
  cases hh:PI x r a.1 with
  | false =>
   have:=J0 false hok
   rw [hh] at this
   simp [this]
  | true =>
   have hlr:=hl hh
   have:=J0 false hok
   rw [hh] at this
   simp only [if_true,show (0:Int)<=(r:Int) from by omega,show ((r:Int)<(x.length:Int)) from by omega,Int.toNat_natCast,Bool.true_and]
   cases q:decide ((x.getD r Z2).2.2>=a.2.2) with
   | true=>simp
   | false=>simp [this])

abbrev ff:Type:=List Int×Int×Int
def kc (d:ff):Prop:=0<=d.2.1/\d.1.length<=maxLen
theorem Xj (a:Int):0<=Ix .i64 a 255/\Ix .i64 a 255<=255:=by
 unfold Ix
 have h:(BitVec.ofInt (IntKind.bits .i64) a &&& BitVec.ofInt (IntKind.bits .i64) 255).toNat<=255:=by
  rw [BitVec.toNat_and]
  refine Nat.le_trans Nat.and_le_right ?_
  decide
 rw [Az (by omega)]
 omega
theorem Da (d:ff) (h:kc d):∃ b d',DU d=some (b,d')/\kc d'/\0<=b/\b<=255:=by
 have hm:d.1.length<=9223372036854775807:=h.2
 have hp:=h.1
 suffices g:∃ b d',NK d=some (b,d')/\kc d'/\0<=b/\b<=255 from g.imp fun b g=>g.imp fun d' g=>⟨Zs g.1,g.2⟩
 unfold NK
 rw [if_neg (by omega),if_neg (by omega)]
 by_cases h1:d.2.1<(d.1.length:Int)
 ·rw [if_pos (by simpa using h1),if_pos hp,if_pos h1]
  refine ⟨_,_,rfl,⟨?_,h.2⟩,Xj _⟩
  show 0<=IntKind.i64.wrap (d.2.1+1)
  rw [Az (by omega)]
  omega
 ·rw [if_neg (by simpa using h1)]
  exact ⟨_,_,rfl,h,Xj _⟩
theorem UY (n:Int) (d:ff) (h:kc d):∃ v d',LX n d=some (v,d')/\kc d'/\0<=v/\(0<n->v<n):=by
 suffices g:∃ b d',Lj n d=some (b,d')/\kc d'/\0<=b/\(0<n->b<n) from g.imp fun b g=>g.imp fun d' g=>⟨YJ g.1,g.2⟩
 unfold Lj
 by_cases h1:n<=0
 ·exact ⟨0,d,by rw [if_pos (by simpa using h1)],h,by omega,by omega⟩
 ·rw [if_neg (by simpa using h1)]
  by_cases h2:n<=256
  ·obtain ⟨b,d1,e1,k1,b0,b1⟩:=Da d h
   refine ⟨_,_,by rw [if_pos (by simpa using h2),e1,X,if_neg (by omega)],k1,Int.tmod_nonneg _ b0,fun _=>Int.tmod_lt_of_pos _ (by omega)⟩
  ·obtain ⟨b1,d1,e1,k1,b10,b11⟩:=Da d h
   obtain ⟨b2,d2,e2,k2,b20,b21⟩:=Da d1 k1
   obtain ⟨b3,d3,e3,k3,b30,b31⟩:=Da d2 k2
   obtain ⟨b4,d4,e4,k4,b40,b41⟩:=Da d3 k3
   refine ⟨_,_,by rw [if_neg (by simpa using h2),e1,X,e2,X,e3,X,e4,X,if_neg (by omega)],k4,Int.tmod_nonneg _ ?_,fun _=>Int.tmod_lt_of_pos _ (by omega)⟩
   rw [Az (n:=b1*16777216) (by omega),Az (n:=b2*65536) (by omega),Az (n:=b3*256) (by omega),Az (n:=b1*16777216+b2*65536) (by omega),Az (n:=b1*16777216+b2*65536+b3*256) (by omega),Az (by omega)]
   omega
theorem XF (x:List Int) (h:x.length<=maxLen):∃ d,OL x=some d/\kc d:=by
 have hm:x.length<=9223372036854775807:=h
 have key:=NZ (n:=x.length) (P:=fun i=>∀ a,∃ d,HA x a (i:Int)=some d/\kc d) (fun a=>⟨(x,0,a),KT (by
  unfold HB
  rw [if_neg (by simp)]),⟨Int.le_refl _,h⟩⟩) (fun i hi ih a=>by
  by_cases h4:(i:Int)<4000
  ·obtain ⟨d,e,k⟩:=ih (Ix .i64 (IntKind.i64.wrap ((IntKind.i64.wrap ((IntKind.i64.wrap (a*(131:Int)))+(IntKind.i64.wrap (x.getD (i:Int).toNat (0:Int)))))+(7:Int))) (1073741823:Int))
   refine ⟨d,KT ?_,k⟩
   unfold HB
   rw [if_pos (by simpa using hi),if_pos (by simpa using h4)]
   refine Ww ?_
   unfold O2
   rw [if_pos (by omega),if_pos (by omega),Ae (show i<9223372036854775807 by omega)]
   exact e
  ·refine ⟨(x,0,a),KT ?_,⟨Int.le_refl _,h⟩⟩
   unfold HB
   rw [if_pos (by simpa using hi),if_neg (by simpa using h4)]) 0 (by omega)
 obtain ⟨d,e,k⟩:=key (IntKind.i64.wrap ((14301:Int)+(x.length:Int)))
 exact ⟨d,ak e,k⟩

theorem OS {x:List AI}:∀ (m i:Nat),i+m=x.length->(DG x i m=true↔(∀ a (ha:a<x.length),i<=a->Hz x[a]=true/\(a≠0->Op.bytesLess (x.getD (a-1) Z2).1.toList x[a].1.toList=true))/\x.length<=12)
 | 0,i,h=>by
  simp only [DG,decide_eq_true_eq]
  refine ⟨fun h2=>⟨fun a ha hi=>by omega,by omega⟩,fun h2=>by have:=h2.2; omega⟩
 | m+1,i,h=>by
  have hi:i<x.length:=by omega
  rw [DG,Bool.and_eq_true,Bool.and_eq_true,OS m (i+1) (by omega),AZ hi]
  simp only [Bool.or_eq_true,decide_eq_true_eq]
  constructor
  ·rintro ⟨⟨h1,h2⟩,h3,h4⟩
   refine ⟨fun a ha hia=>?_,h4⟩
   by_cases e:a=i
   ·subst e
    exact ⟨h1,fun h0=>h2.resolve_left h0⟩
   ·exact h3 a ha (by omega)
  ·rintro ⟨h3,h4⟩
   refine ⟨⟨(h3 i hi (Nat.le_refl _)).1,?_⟩,fun a ha hia=>h3 a ha (by omega),h4⟩
   by_cases e:i=0
   ·exact .inl e
   ·exact .inr ((h3 i hi (Nat.le_refl _)).2 e)
theorem CT {x:List AI}:BS x=true↔(∀ b∈x,Hz b=true)/\H5 x/\x.length<=12:=by
 constructor
 ·intro h
  have h1:=(OS x.length 0 (by omega)).1 h
  refine ⟨fun b hb=>?_,Sj h,h1.2⟩
  obtain ⟨a,ha,rfl⟩:=List.getElem_of_mem hb
  exact (h1.1 a ha (Nat.zero_le _)).1
 ·rintro ⟨h1,h2,h3⟩
  refine (OS x.length 0 (by omega)).2 ⟨fun a ha _=>⟨h1 _ (List.getElem_mem ha),fun h0=>?_⟩,h3⟩
  rw [AZ (show a-1<x.length by omega)]
  exact h2 (a-1) a (by omega) ha (by omega)
theorem bW {x:List AI}:H5 x↔x.Pairwise fun b c=>Op.bytesLess b.1.toList c.1.toList=true:=by
 rw [List.pairwise_iff_getElem]
 rfl
theorem UZ {x:List AI} (a:AI) (h:H5 x):H5 (P5 x a):=by
 rw [bW] at h ⊢
 have lo:∀ b∈x.filter (WM a.1),Op.bytesLess b.1.toList a.1.toList=true:=fun b hb=>(List.mem_filter.1 hb).2
 have hg:∀ b∈x.filter (cv a.1),Op.bytesLess a.1.toList b.1.toList=true:=fun b hb=>by
  have:=(List.mem_filter.1 hb).2
  rw [cv,LN] at this
  simpa using this
 unfold P5
 rw [List.pairwise_append,List.pairwise_append]
 refine ⟨⟨h.filter _,List.pairwise_singleton _ _,fun b hb c hc=>?_⟩,h.filter _,fun b hb c hc=>?_⟩
 ·rw [List.mem_singleton] at hc
  subst hc
  exact lo b hb
 ·rcases List.mem_append.1 hb with hb | hb
  ·exact Sh (lo b hb) (hg c hc)
  ·rw [List.mem_singleton] at hb
   subst hb
   exact hg c hc
theorem Z4 {x:List AI} {a:AI}:a∈P5 x a:=by simp [P5]
theorem d_ {x:List AI} {a b:AI} (h:b∈P5 x a):b=a\/b∈x:=by
 simp only [P5,List.mem_append,List.mem_filter,List.mem_singleton] at h
 rcases h with (h | h) | h
 ·exact .inr h.1
 ·exact .inl h
 ·exact .inr h.1
theorem fD {x:List AI} {a b:AI} (h:b∈x) (hk:(b.1.toList==a.1.toList)=false):b∈P5 x a:=by
 simp only [P5,List.mem_append,List.mem_filter,List.mem_singleton]
 cases q:WM a.1 b with
 | true=>exact .inl (.inl ⟨h,rfl⟩)
 | false =>
  refine .inr ⟨h,?_⟩
  unfold cv
  rw [show Op.bytesLess b.1.toList a.1.toList=false from q,hk]
  rfl
theorem Ke {x:List AI} (ho:H5 x) {b:AI} (hb:b∈x):BJ x b.1=b:=by
 obtain ⟨j,hj,rfl⟩:=List.getElem_of_mem hb
 have:x.find? (fun a=>a.1.toList==x[j].1.toList)=some x[j]:=by
  rw [List.find?_eq_some_iff_getElem]
  refine ⟨by simp,j,hj,rfl,fun i hi=>?_⟩
  have:=ho i j (by omega) hj hi
  cases q:(x[i].1.toList==x[j].1.toList) with
  | false=>rfl
  | true =>
   rw [beq_iff_eq] at q
   rw [q,S7] at this
   cases this
 unfold BJ
 rw [this]
 rfl
theorem gx {x:List AI} (ho:H5 x) {a:AI} (h1:1<=a.2.2):(BJ x a.1).2.2>=a.2.2↔bV x a=true:=by
 constructor
 ·intro h
  unfold BJ at h
  cases q:x.find? (fun b=>b.1.toList==a.1.toList) with
  | none=>rw [q] at h; simp at h; omega
  | some b =>
   rw [q] at h
   exact List.any_eq_true.2 ⟨b,List.mem_of_find?_eq_some q,by simpa [List.find?_some q] using h⟩
 ·intro h
  obtain ⟨b,hb,hc⟩:=List.any_eq_true.1 h
  simp only [Bool.and_eq_true,beq_iff_eq,decide_eq_true_eq] at hc
  have e:BJ x a.1=BJ x b.1:=by unfold BJ; rw [hc.1]
  rw [e,Ke ho hb]
  exact hc.2
theorem eA (a:AI):RD (.pair .str (.pair .str (.int .i64))) a a=true:=by simp [RD]
theorem Gt {x:List AI} {a:AI} (h:BS x=true):BS (Aj x a)=true:=by
 unfold Aj
 rw [if_pos h]
 split
 ·exact h
 ·split
  ·assumption
  ·exact h



theorem l_ (x:List Int) (i:Nat) (hi:i<x.length) (h:x.length<=maxLen):∃ r,Ct x x[i]=some r/\((r=(i:Int))↔x[i]∉x.take i):=by
 have hm:x.length<=9223372036854775807:=h
 have key:=NZ (n:=i) (P:=fun k=>∃ r,CM x x[i] (x.length:Int) (k:Int)=some r/\(k:Int)<=r/\((r=(i:Int))↔∀ m (hm:m<i),k<=m->x[m]≠x[i])) ⟨i,Bo (by
  unfold BM
  simp only [show ((i:Int)<(x.length:Int)) from by omega,decide_true,if_true,show (0:Int)<=(i:Int) from by omega,Int.toNat_natCast,AZ hi]
  simp),by omega,⟨fun _ m hm hk=>by omega,fun _=>rfl⟩⟩ (fun k hk ⟨r,hr,hkr,hiff⟩=>by
  have hk2:k<x.length:=by omega
  by_cases e:x[i]=x[k]
  ·refine ⟨k,Bo ?_,by omega,⟨fun he=>by omega,fun hall=>absurd e.symm (hall k hk (by omega))⟩⟩
   unfold BM
   simp only [show ((k:Int)<(x.length:Int)) from by omega,decide_true,if_true,show (0:Int)<=(k:Int) from by omega,Int.toNat_natCast,AZ hk2]
   rw [if_pos (by simpa using e)]
  ·refine ⟨r,Bo ?_,by omega,hiff.trans ⟨fun hall m hm hkm=>?_,fun hall m hm hkm=>hall m hm (by omega)⟩⟩
   ·unfold BM
    simp only [show ((k:Int)<(x.length:Int)) from by omega,decide_true,if_true,show (0:Int)<=(k:Int) from by omega,Int.toNat_natCast,AZ hk2,Ae (show k<9223372036854775807 by omega)]
    rw [if_neg (by simpa using e)]
    exact hr
   ·rcases Nat.lt_or_ge k m with h1 | h1
    ·exact hall m hm h1
    ·have:m=k:=by omega
     subst this
     exact fun h=>e h.symm) 0 (by omega)
 obtain ⟨r,hr,_,hiff⟩:=key
 refine ⟨r,Jh hr,hiff.trans ⟨fun hall hmem=>?_,fun hn m hm _ he=>hn ?_⟩⟩
 ·obtain ⟨m,hm,he⟩:=List.mem_take_iff_getElem.1 hmem
  exact hall m (by omega) (by omega) he
 ·exact List.mem_take_iff_getElem.2 ⟨m,by omega,he⟩
def Io (v:List Int) (i:Nat):Nat->Bool
 | 0=>true
 | k+1=>(decide (1<=v.getD i 0)&&decide (v.getD i 0<=6))&&!(v.take i).contains (v.getD i 0)&&Io v (i+1) k
def XG (v:List Int):Bool:=(decide (1<=(v.length:Int))&&decide ((v.length:Int)<=4))&&Io v 0 v.length
def FU (x:List (List Int)) (n:Nat):List (List Int)->Bool
 | []=>decide (1<=(n:Int))&&decide ((n:Int)<=9)
 | v::r=>XG v&&FU x n r
theorem V7 (x:List (List Int)) (h:x.length<=maxLen) (ho:∀ a∈x,a.length<=maxLen):DV x=some (FU x x.length x):=Zt (by
 have hm:x.length<=9223372036854775807:=h
 unfold SQ
 exact NZ (n:=x.length) (P:=fun i=>GZ x x (x.length:Int) (i:Int)=some (FU x x.length (x.drop i))) (N6 (by
  unfold Jg
  rw [if_neg (by simp),List.drop_length,Ag]
  rfl)) (fun i hi ih=>N6 (by
  unfold Jg
  simp only [show ((i:Int)<(x.length:Int)) from by omega,decide_true,if_true,show (0:Int)<=(i:Int) from by omega,Int.toNat_natCast,AZ hi]
  rw [EF hi,FU]
  have hv:=ho x[i] (List.getElem_mem _)
  generalize x[i]=v at hv
  have hvm:v.length<=9223372036854775807:=hv
  have wj:Je x v x (x.length:Int) (i:Int)=some ((decide (1<=(v.length:Int))&&decide ((v.length:Int)<=4))&&FU x x.length (x.drop (i+1))):=Vo (by
   unfold N4
   rw [Ag,X,Ae (show i<9223372036854775807 by omega),ih]
   generalize (decide (1<=(v.length:Int))&&decide ((v.length:Int)<=4))=a
   cases a<;>simp)
  have:=NZ (n:=v.length) (P:=fun j=>GY x v x (x.length:Int) (i:Int) v (v.length:Int) (j:Int)=some (Io v j (v.length-j)&&((decide (1<=(v.length:Int))&&decide ((v.length:Int)<=4))&&FU x x.length (x.drop (i+1))))) (N5 (by
   unfold Jf
   rw [if_neg (by simp),Nat.sub_self,wj]
   rfl)) (fun j hj ihj=>N5 (by
   unfold Jf
   have e:v.length-j=(v.length-(j+1))+1:=by omega
   obtain ⟨r,hr,hiff⟩:=l_ v j hj hv
   rw [e,Io]
   simp only [show ((j:Int)<(v.length:Int)) from by omega,decide_true,if_true,show (0:Int)<=(j:Int) from by omega,Int.toNat_natCast,FT,X,Ae (show j<9223372036854775807 by omega),ihj,AZ hj,hr]
   have hb:(r != (j:Int))=(v.take j).contains v[j]:=by
    by_cases e2:r=(j:Int)
    ·have:=hiff.1 e2
     simp [e2,this]
    ·have:v[j]∈v.take j:=Classical.byContradiction fun hn=>e2 (hiff.2 hn)
     simp [e2,this]
   rw [hb]
   generalize (decide (1<=v[j])&&decide (v[j]<=6))=a
   generalize (v.take j).contains v[j]=b
   cases a<;>cases b<;>simp)) 0 (by omega)
  simp only [Int.ofNat_zero,Nat.sub_zero] at this
  unfold XG
  refine Eq.trans this ?_
  congr 1
  generalize Io v 0 v.length=a
  generalize (decide (1<=(v.length:Int))&&decide ((v.length:Int)<=4))=b
  cases a<;>cases b<;>simp)) 0 (by omega))

abbrev jD:Type:=Int×Int×Int×(ByteArray×ByteArray×Int)×List Int
abbrev Y:Type:=Int×Int×Bool×Bool×Bool×Bool×List Int×List (ByteArray×ByteArray×Int)×Int×jD
def GR (v:List Int) (i:Nat):Nat->Bool
 | 0=>true
 | k+1=>(decide (1<=v.getD i 0)&&decide (v.getD i 0<=6))&&(decide (i=0)||decide (v.getD (i-1) 0<v.getD i 0))&&GR v (i+1) k
theorem KH (x:List Int) (h:x.length<=maxLen):Fo x 1 6=some (GR x 0 x.length):=UQ (by
 have hm:x.length<=9223372036854775807:=h
 unfold NJ
 have:=NZ (n:=x.length) (P:=fun i=>C6 x 1 6 x (x.length:Int) (i:Int)=some (GR x i (x.length-i))) (J7 (by
  unfold GL
  rw [if_neg (by simp),Nat.sub_self]
  rfl)) (fun i hi ih=>J7 (by
  unfold GL
  have e:x.length-i=(x.length-(i+1))+1:=by omega
  simp only [show ((i:Int)<(x.length:Int)) from by omega,decide_true,if_true,show (0:Int)<=(i:Int) from by omega,Int.toNat_natCast,Ae (show i<9223372036854775807 by omega),ih,Ag,X]
  rw [e,GR]
  generalize (decide (1<=x.getD i 0)&&decide (x.getD i 0<=6))=a
  cases a
  ·simp
  by_cases h0:0<i
  ·rw [bU (by omega) h0]
   simp only [Int.toNat_natCast,show ((0:Int)<=((i-1:Nat):Int)) from by omega,show (((i-1:Nat):Int)<(x.length:Int)) from by omega,if_true]
   rcases Int.lt_or_le (x.getD (i-1) 0) (x.getD i 0) with hb | hb
   ·have d1:decide (x.getD i 0<=x.getD (i-1) 0)=false:=decide_eq_false (by omega)
    have d2:decide (x.getD (i-1) 0<x.getD i 0)=true:=decide_eq_true hb
    simp only [d1,d2]
    simp [h0,show i≠0 by omega]
   ·have d1:decide (x.getD i 0<=x.getD (i-1) 0)=true:=decide_eq_true (by omega)
    have d2:decide (x.getD (i-1) 0<x.getD i 0)=false:=decide_eq_false (by omega)
    simp only [d1,d2]
    simp [h0,show i≠0 by omega]
  ·have:i=0:=by omega
   subst this
   simp)) 0 (by omega)
 simpa using this)
def NQ (t:jD):Bool:=(t.1==0)&&(t.2.1==0)&&(t.2.2.1==0)&&RD (.pair .str (.pair .str (.int .i64))) t.2.2.2.1 (ByteArray.empty,ByteArray.empty,(0:Int))&&((t.2.2.2.2.length:Int)==0)
def F8 (t:jD) (serves:Bool):Bool:=(t.1==1||t.1==2)&&serves&&(decide (0<=t.2.1)&&decide (t.2.1<=1000))&&(decide (1<=t.2.2.1)&&decide (t.2.2.1<=900))
def V8 (x:Y):Bool :=
 (decide (1<=x.1)&&decide (x.1<=6))&&(decide (1<=x.2.1)&&decide (x.2.1<=9))&&(!x.2.2.2.2.2.1||(x.2.2.2.1&&x.2.2.2.2.1&&!decide ((x.2.2.2.2.2.2.1.length:Int)>0)))&&(!x.2.2.1||(!x.2.2.2.1&&!x.2.2.2.2.1)) &&
  GR x.2.2.2.2.2.2.1 0 x.2.2.2.2.2.2.1.length&&GR x.2.2.2.2.2.2.2.2.2.2.2.2.2 0 x.2.2.2.2.2.2.2.2.2.2.2.2.2.length&&DG x.2.2.2.2.2.2.2.1 0 x.2.2.2.2.2.2.2.1.length&&(decide (0<=x.2.2.2.2.2.2.2.2.1)&&decide (x.2.2.2.2.2.2.2.2.1<=900)) &&
  (NQ x.2.2.2.2.2.2.2.2.2||F8 x.2.2.2.2.2.2.2.2.2 x.2.2.2.2.2.1)
theorem PJ (x:Y) (h3:x.2.2.2.2.2.2.2.2.2.2.2.2.2.length<=maxLen):Ck x=some (GR x.2.2.2.2.2.2.2.2.2.2.2.2.2 0 x.2.2.2.2.2.2.2.2.2.2.2.2.2.length&&(NQ x.2.2.2.2.2.2.2.2.2||F8 x.2.2.2.2.2.2.2.2.2 x.2.2.2.2.2.1),x):=SO (by
 unfold LA NQ F8
 simp only [Ag,KH _ h3,X]
 by_cases hk:x.2.2.2.2.2.2.2.2.2.1=0
 ·rw [if_pos (by simp [hk])]
  have k1:(x.2.2.2.2.2.2.2.2.2.1==1)=false:=by simp [hk]
  have k2:(x.2.2.2.2.2.2.2.2.2.1==2)=false:=by simp [hk]
  have k0:(x.2.2.2.2.2.2.2.2.2.1==0)=true:=by simp [hk]
  rw [k1,k2,k0]
  have hl:((x.2.2.2.2.2.2.2.2.2.2.2.2.2.length:Int)==0)=true->GR x.2.2.2.2.2.2.2.2.2.2.2.2.2 0 x.2.2.2.2.2.2.2.2.2.2.2.2.2.length=true:=by
   intro h
   have:x.2.2.2.2.2.2.2.2.2.2.2.2.2.length=0:=by simpa using h
   rw [this]
   rfl
  generalize ((x.2.2.2.2.2.2.2.2.2.2.2.2.2.length:Int)==0)=l at hl
  generalize GR x.2.2.2.2.2.2.2.2.2.2.2.2.2 0 x.2.2.2.2.2.2.2.2.2.2.2.2.2.length=u at hl
  generalize (x.2.2.2.2.2.2.2.2.2.2.1==0)=b
  generalize (x.2.2.2.2.2.2.2.2.2.2.2.1==0)=c
  generalize RD (.pair .str (.pair .str (.int .i64))) x.2.2.2.2.2.2.2.2.2.2.2.2.1 (ByteArray.empty,ByteArray.empty,(0:Int))=d
  cases b<;>cases c<;>cases d<;>cases l<;>cases u<;>simp at hl ⊢
 ·rw [if_neg (by simp [hk])]
  have k0:(x.2.2.2.2.2.2.2.2.2.1==0)=false:=by simp [hk]
  have k12:(decide (1<=x.2.2.2.2.2.2.2.2.2.1)&&decide (x.2.2.2.2.2.2.2.2.2.1<=2))=(x.2.2.2.2.2.2.2.2.2.1==1||x.2.2.2.2.2.2.2.2.2.1==2):=by
   rw [Bool.eq_iff_iff]
   simp
   omega
  rw [k12,k0]
  generalize (x.2.2.2.2.2.2.2.2.2.1==1||x.2.2.2.2.2.2.2.2.2.1==2)=k
  generalize GR x.2.2.2.2.2.2.2.2.2.2.2.2.2 0 x.2.2.2.2.2.2.2.2.2.2.2.2.2.length=u
  generalize (decide (0<=x.2.2.2.2.2.2.2.2.2.2.1)&&decide (x.2.2.2.2.2.2.2.2.2.2.1<=1000))=e
  generalize (decide (1<=x.2.2.2.2.2.2.2.2.2.2.2.1)&&decide (x.2.2.2.2.2.2.2.2.2.2.2.1<=900))=f
  cases k<;>cases u<;>cases e<;>cases f<;>rcases Bool.eq_false_or_eq_true x.2.2.2.2.2.1 with hs | hs<;>simp [hs])
theorem Ua (x:Y) (h1:x.2.2.2.2.2.2.1.length<=maxLen) (h2:x.2.2.2.2.2.2.2.1.length<=maxLen) (h3:x.2.2.2.2.2.2.2.2.2.2.2.2.2.length<=maxLen):Ef x=some (V8 x):=X5 (by
 have w0:∀ b,IP b x=some ((!x.2.2.2.2.2.1||(x.2.2.2.1&&x.2.2.2.2.1&&!decide ((x.2.2.2.2.2.2.1.length:Int)>0)))&&(!x.2.2.1||(!x.2.2.2.1&&!x.2.2.2.2.1))&&(GR x.2.2.2.2.2.2.2.2.2.2.2.2.2 0 x.2.2.2.2.2.2.2.2.2.2.2.2.2.length&&(NQ x.2.2.2.2.2.2.2.2.2||F8 x.2.2.2.2.2.2.2.2.2 x.2.2.2.2.2.1))):=fun b=>UG (by
  unfold M_
  simp only [PJ x h3,X]
  generalize (GR x.2.2.2.2.2.2.2.2.2.2.2.2.2 0 x.2.2.2.2.2.2.2.2.2.2.2.2.2.length&&(NQ x.2.2.2.2.2.2.2.2.2||F8 x.2.2.2.2.2.2.2.2.2 x.2.2.2.2.2.1))=t
  generalize decide ((x.2.2.2.2.2.2.1.length:Int)>0)=c
  generalize x.2.2.2.2.2.1=s
  generalize x.2.2.2.2.1=l
  generalize x.2.2.2.1=m
  generalize x.2.2.1=n
  cases s<;>cases n<;>cases m<;>cases l<;>cases c<;>simp)
 unfold Qk V8
 simp only [Ag,FT,KH _ h1,Jm _ h2 LN,X,w0]
 generalize (decide (1<=x.1)&&decide (x.1<=6))=a
 generalize (decide (1<=x.2.1)&&decide (x.2.1<=9))=b
 generalize GR x.2.2.2.2.2.2.1 0 x.2.2.2.2.2.2.1.length=d
 generalize GR x.2.2.2.2.2.2.2.2.2.2.2.2.2 0 x.2.2.2.2.2.2.2.2.2.2.2.2.2.length=e
 generalize DG x.2.2.2.2.2.2.2.1 0 x.2.2.2.2.2.2.2.1.length=f
 generalize (decide (0<=x.2.2.2.2.2.2.2.2.1)&&decide (x.2.2.2.2.2.2.2.2.1<=900))=g
 generalize (NQ x.2.2.2.2.2.2.2.2.2||F8 x.2.2.2.2.2.2.2.2.2 x.2.2.2.2.2.1)=t
 generalize (!x.2.2.2.2.2.1||(x.2.2.2.1&&x.2.2.2.2.1&&!decide ((x.2.2.2.2.2.2.1.length:Int)>0)))=p
 generalize (!x.2.2.1||(!x.2.2.2.1&&!x.2.2.2.2.1))=q
 cases a
 ·simp
 cases b
 ·simp
 cases d<;>cases e<;>cases f<;>cases g<;>cases p<;>cases q<;>simp)

abbrev B0:Type:=Int×Int×Int×Int×Int×List (ByteArray×ByteArray×Int)
def Xk (x:B0):Bool :=
 (decide (1<=x.1)&&decide (x.1<=8))&&(decide (1<=x.2.1)&&decide (x.2.1<=6))&&(decide (1<=x.2.2.1)&&decide (x.2.2.1<=6))&&(decide (1<=x.2.2.2.1)&&decide (x.2.2.2.1<=9))&&(decide (0<=x.2.2.2.2.1)&&decide (x.2.2.2.2.1<=1000000000))&&DG x.2.2.2.2.2 0 x.2.2.2.2.2.length &&
  (if x.1=2\/x.1=3 then true else if x.1=5 then ((x.2.2.2.2.2.length:Int)==1) else ((x.2.2.2.2.2.length:Int)==0))
theorem YW (x:B0) (h:x.2.2.2.2.2.length<=maxLen):Pt x=some (Xk x):=ct (by
 have w1:∀ a b,Hy a b x=some (if b=true then true else if a=5 then ((x.2.2.2.2.2.length:Int)==1) else ((x.2.2.2.2.2.length:Int)==0)):=fun a b=>YP (by
  unfold Q9
  by_cases h1:b=true<;>by_cases h2:a=5<;>simp [h1,h2])
 have w0:∀ b,Ll b x=some (if x.1=2\/x.1=3 then true else if x.1=5 then ((x.2.2.2.2.2.length:Int)==1) else ((x.2.2.2.2.2.length:Int)==0)):=fun b=>YQ (by
  unfold Q_
  by_cases h1:x.1=2<;>by_cases h2:x.1=3<;>simp [h1,h2,w1])
 unfold Vw Xk
 simp only [Ag,FT,Jm _ h LN,X,w0]
 generalize (decide (1<=x.1)&&decide (x.1<=8))=a
 generalize (decide (1<=x.2.1)&&decide (x.2.1<=6))=b
 generalize (decide (1<=x.2.2.1)&&decide (x.2.2.1<=6))=c
 generalize (decide (1<=x.2.2.2.1)&&decide (x.2.2.2.1<=9))=d
 generalize (decide (0<=x.2.2.2.2.1)&&decide (x.2.2.2.2.1<=1000000000))=e
 generalize DG x.2.2.2.2.2 0 x.2.2.2.2.2.length=f
 cases a<;>cases b<;>cases c<;>cases d<;>cases e<;>cases f<;>simp)

abbrev E5:Type:=Int×Int×Int×AI
def mA (v:List Int):Prop:=(∀ a∈v,1<=a/\a<=6)/\v.Pairwise (· < ·)
theorem Z5 {v:List Int}:∀ (m i:Nat),i+m=v.length->(GR v i m=true↔∀ a (ha:a<v.length),i<=a->(1<=v[a]/\v[a]<=6)/\(a≠0->v.getD (a-1) 0<v[a]))
 | 0,i,h=>by
  simp only [GR,true_iff]
  intro a ha hi
  omega
 | m+1,i,h=>by
  have hi:i<v.length:=by omega
  rw [GR,Bool.and_eq_true,Bool.and_eq_true,Z5 m (i+1) (by omega),AZ hi]
  simp only [Bool.or_eq_true,Bool.and_eq_true,decide_eq_true_eq]
  constructor
  ·rintro ⟨⟨h1,h2⟩,h3⟩ a ha hia
   by_cases e:a=i
   ·subst e
    exact ⟨h1,fun h0=>h2.resolve_left h0⟩
   ·exact h3 a ha (by omega)
  ·intro h3
   refine ⟨⟨(h3 i hi (Nat.le_refl _)).1,?_⟩,fun a ha hia=>h3 a ha (by omega)⟩
   by_cases e:i=0
   ·exact .inl e
   ·exact .inr ((h3 i hi (Nat.le_refl _)).2 e)
theorem kf {v:List Int}:GR v 0 v.length=true↔mA v:=by
 rw [Z5 _ _ (by omega)]
 constructor
 ·intro h
  refine ⟨fun a ha=>?_,?_⟩
  ·obtain ⟨i,hi,rfl⟩:=List.getElem_of_mem ha
   exact (h i hi (Nat.zero_le _)).1
  ·have st:∀ d a (ha:a+d+1<v.length),v.getD a 0<v.getD (a+d+1) 0:=by
    intro d
    induction d with
    | zero =>
     intro a ha
     have:=(h (a+1) (by omega) (Nat.zero_le _)).2 (by omega)
     rw [AZ (show a+0+1<v.length from ha)]
     simpa using this
    | succ d ih =>
     intro a ha
     have h1:=ih a (by omega)
     have h2:=(h (a+(d+1)+1) ha (Nat.zero_le _)).2 (by omega)
     rw [AZ ha]
     simp only [Nat.add_sub_cancel] at h2
     have h3:v.getD (a+d+1) 0<v[a+(d+1)+1]:=h2
     omega
   rw [List.pairwise_iff_getElem]
   intro i j hi hj hij
   have:=st (j-i-1) i (by omega)
   rw [show i+(j-i-1)+1=j by omega,AZ hi,AZ hj] at this
   exact this
 ·rintro ⟨h1,h2⟩ a ha _
  refine ⟨h1 _ (List.getElem_mem ha),fun h0=>?_⟩
  rw [AZ (show a-1<v.length by omega)]
  exact (List.pairwise_iff_getElem.1 h2) (a-1) a (by omega) ha (by omega)
theorem fg {v:List Int} (h:mA v):v.length<=6:=by
 have hs:v.Sublist [1,2,3,4,5,6]:=by
  have key:∀ (l:List Int) (n:Nat),n<=6->(∀ a∈l,(6-n:Int)<a/\a<=6)->l.Pairwise (· < ·)->l.length<=n:=by
   intro l
   induction l with
   | nil=>intro n _ _ _; simp
   | cons a l ih =>
    intro n hn hb hp
    have ha:=hb a (by simp)
    have hp2:=List.pairwise_cons.1 hp
    have:=ih ((6-a).toNat) (by omega) (fun b hb'=>⟨by have:=hp2.1 b hb'; omega,(hb b (by simp [hb'])).2⟩) hp2.2
    simp only [List.length_cons]
    omega
  have hl:=key v 6 (by omega) (fun a ha=>by have:=h.1 a ha; omega) h.2
  exact List.Sublist.trans (List.Sublist.refl v) (by
   have:∀ (l:List Int) (s:List Int),s.Pairwise (· < ·)->l.Pairwise (· < ·)->(∀ a∈l,a∈s)->l.Sublist s:=by
    intro l s
    induction s generalizing l with
    | nil =>
     intro _ _ hm
     cases l with
     | nil=>exact List.Sublist.slnil
     | cons a l=>exact absurd (hm a (by simp)) (by simp)
    | cons b s ih =>
     intro hs hl hm
     cases l with
     | nil=>exact List.nil_sublist _
     | cons a l =>
      have hs2:=List.pairwise_cons.1 hs
      have hl2:=List.pairwise_cons.1 hl
      rcases List.mem_cons.1 (hm a (by simp)) with e | e
      ·subst e
       refine (ih l hs2.2 hl2.2 fun c hc=>?_).cons_cons _
       rcases List.mem_cons.1 (hm c (by simp [hc])) with e | e
       ·have:=hl2.1 c hc; omega
       ·exact e
      ·refine (ih (a::l) hs2.2 hl fun c hc=>?_).cons _
       rcases List.mem_cons.1 (hm c hc) with e2 | e2
       ·have h1:=hs2.1 a e
        rcases List.mem_cons.1 hc with e3 | e3
        ·omega
        ·have:=hl2.1 c e3; omega
       ·exact e2
   refine this v [1,2,3,4,5,6] (by decide) h.2 fun a ha=>?_
   have:=h.1 a ha
   have h5:a=1\/a=2\/a=3\/a=4\/a=5\/a=6:=by omega
   rcases h5 with h | h | h | h | h | h<;>simp [h])
 simpa using hs.length_le
structure Ip (m:Y):Prop where
 id:1<=m.1/\m.1<=6
 ep:1<=m.2.1/\m.2.1<=9
 serves:m.2.2.2.2.2.1=true->m.2.2.2.1=true/\m.2.2.2.2.1=true/\m.2.2.2.2.2.2.1=[]
 fell:m.2.2.1=true->m.2.2.2.1=false/\m.2.2.2.2.1=false
 waits:mA m.2.2.2.2.2.2.1
 left:mA m.2.2.2.2.2.2.2.2.2.2.2.2.2
 items:BS m.2.2.2.2.2.2.2.1=true
 count:0<=m.2.2.2.2.2.2.2.2.1/\m.2.2.2.2.2.2.2.2.1<=900
 task:NQ m.2.2.2.2.2.2.2.2.2=true\/F8 m.2.2.2.2.2.2.2.2.2 m.2.2.2.2.2.1=true
theorem kg {m:Y}:V8 m=true↔Ip m:=by
 unfold V8
 simp only [Bool.and_eq_true,Bool.or_eq_true,Bool.not_eq_true',decide_eq_true_eq,kf,decide_eq_false_iff_not]
 constructor
 ·rintro ⟨⟨⟨⟨⟨⟨⟨⟨h1,h2⟩,h3⟩,h4⟩,h5⟩,h6⟩,h7⟩,h8⟩,h9⟩
  refine ⟨h1,h2,fun h=>?_,fun h=>?_,h5,h6,h7,h8,h9⟩
  ·rcases h3 with h3 | ⟨⟨a,b⟩,c⟩
   ·rw [h] at h3; cases h3
   ·exact ⟨a,b,List.length_eq_zero_iff.1 (by omega)⟩
  ·rcases h4 with h4 | h4
   ·rw [h] at h4; cases h4
   ·exact h4
 ·rintro ⟨h1,h2,h3,h4,h5,h6,h7,h8,h9⟩
  refine ⟨⟨⟨⟨⟨⟨⟨⟨h1,h2⟩,?_⟩,?_⟩,h5⟩,h6⟩,h7⟩,h8⟩,h9⟩
  ·cases hs:m.2.2.2.2.2.1 with
   | false=>exact .inl rfl
   | true =>
    obtain ⟨a,b,c⟩:=h3 hs
    exact .inr ⟨⟨a,b⟩,by rw [c]; simp⟩
  ·cases hs:m.2.2.1 with
   | false=>exact .inl rfl
   | true=>exact .inr (h4 hs)
theorem Mi {x:List AI} (h:BS x=true):x.length<=12:=(CT.1 h).2.2
theorem Ip.lens {m:Y} (h:Ip m):m.2.2.2.2.2.2.1.length<=6/\m.2.2.2.2.2.2.2.1.length<=12/\m.2.2.2.2.2.2.2.2.2.2.2.2.2.length<=6:=⟨fg h.waits,Mi h.items,fg h.left⟩
def EP (view:List Int) (id:Int):List Int:=[1,2,3,4,5,6].filter fun v=>v != id&&view.contains v
theorem P6 (view:List Int) (id:Int):mA (EP view id):=by
 refine ⟨fun a ha=>?_,List.Pairwise.filter _ (by decide)⟩
 have:=(List.mem_filter.1 ha).1
 simp at this
 omega
theorem Z6 {v:List Int} (h:mA v) (p:Int->Bool):mA (v.filter p):=⟨fun a ha=>h.1 a (List.mem_filter.1 ha).1,h.2.filter p⟩

def B8 (view:List Int) (id:Int):List Int:=view.filter (· != id)
def Ub (m:Y) (view:List Int) (its:List AI):Y :=
 (m.1,m.2.1,m.2.2.1,true,m.2.2.2.2.1,(((EP view m.1).length:Int)==0),EP view m.1,its,m.2.2.2.2.2.2.2.2)
def Sk (m:Y) (e:Int):Y :=
 (m.1,e,false,false,false,false,([]:List Int),m.2.2.2.2.2.2.2.1,(0:Int),(0:Int),(0:Int),(0:Int),(ByteArray.empty,ByteArray.empty,(0:Int)),([]:List Int))
def Gu (m:Y) (x:B0) (k:Int):List B0:=[(k,m.1,x.2.1,x.2.2.2.1,x.2.2.2.2.1,([]:List AI))]
def Kf (m:Y) (its:List AI):Y :=
 (m.1,m.2.1,m.2.2.1,m.2.2.2.1,m.2.2.2.2.1,m.2.2.2.2.2.1,m.2.2.2.2.2.2.1,its,m.2.2.2.2.2.2.2.2.1,(0:Int),(0:Int),(0:Int),(ByteArray.empty,ByteArray.empty,(0:Int)),([]:List Int))
def Bt (m:Y):List E5×Y :=
 if (m.2.2.2.2.2.2.2.2.2.1==1)=true then ([(m.2.2.2.2.2.2.2.2.2.2.1,m.2.1,m.2.2.2.2.2.2.2.2.2.2.2.1,m.2.2.2.2.2.2.2.2.2.2.2.2.1)],Kf m (Aj m.2.2.2.2.2.2.2.1 m.2.2.2.2.2.2.2.2.2.2.2.2.1))
 else ([(m.2.2.2.2.2.2.2.2.2.2.1,m.2.1,m.2.2.2.2.2.2.2.2.2.2.2.1,BJ m.2.2.2.2.2.2.2.1 m.2.2.2.2.2.2.2.2.2.2.2.2.1.1)],Kf m m.2.2.2.2.2.2.2.1)
def bX (m:Y) (f:Int):Y :=
 (m.1,m.2.1,m.2.2.1,m.2.2.2.1,m.2.2.2.2.1,m.2.2.2.2.2.1,m.2.2.2.2.2.2.1,m.2.2.2.2.2.2.2.1,m.2.2.2.2.2.2.2.2.1,m.2.2.2.2.2.2.2.2.2.1,m.2.2.2.2.2.2.2.2.2.2.1,m.2.2.2.2.2.2.2.2.2.2.2.1,m.2.2.2.2.2.2.2.2.2.2.2.2.1,m.2.2.2.2.2.2.2.2.2.2.2.2.2.filter (· != f))
def HE (m:Y) (f:Int):Y×List B0×List E5 :=
 if (((m.2.2.2.2.2.2.2.2.2.2.2.2.2.filter (· != f)).length:Int)==0)=true then ((Bt (bX m f)).2,[],(Bt (bX m f)).1) else (bX m f,[],[])
def Uc (m:Y) (view:List Int) (x:B0):Y×List B0×List E5 :=
 if x.1=2 then (if (m.2.2.2.2.1&&!m.2.2.2.1)=true then (Ub m view x.2.2.2.2.2,(B8 view m.1).map (fun v=>(3,m.1,v,m.2.1,0,x.2.2.2.2.2)),[]) else (m,[],[]))
 else if x.1=3 then (if (!view.contains m.1||(view.getD 0 0==m.1))=true then (m,[],[]) else if (!m.2.2.2.1&&m.2.2.1)=true then (m,[],[])
  else if m.2.2.2.1=true then (m,Gu m x 4,[]) else
   ((m.1,m.2.1,false,true,false,false,([]:List Int),x.2.2.2.2.2,(0:Int),(0:Int),(0:Int),(0:Int),(ByteArray.empty,ByteArray.empty,(0:Int)),([]:List Int)),Gu m x 4,[]))
 else if x.1=4 then (if m.2.2.2.2.1=true then
   ((m.1,m.2.1,m.2.2.1,m.2.2.2.1,m.2.2.2.2.1,m.2.2.2.1&&(((m.2.2.2.2.2.2.1.filter (· != x.2.1)).length:Int)==0),m.2.2.2.2.2.2.1.filter (· != x.2.1),m.2.2.2.2.2.2.2),[],[]) else (m,[],[]))
 else if x.1=5 then (if m.2.2.2.1=true then
   ((m.1,m.2.1,m.2.2.1,m.2.2.2.1,m.2.2.2.2.1,m.2.2.2.2.2.1,m.2.2.2.2.2.2.1,Aj m.2.2.2.2.2.2.2.1 (x.2.2.2.2.2.getD 0 (ByteArray.empty,ByteArray.empty,(0:Int))),m.2.2.2.2.2.2.2.2),Gu m x 6,[]) else (m,[],[]))
 else if x.1=7 then (if m.2.2.2.1=true then (m,Gu m x 8,[]) else (m,[],[]))
 else if (x.1=6\/x.1=8)/\m.2.2.2.2.2.2.2.2.2.1=(if x.1=8 then 2 else 1)/\m.2.2.2.2.2.2.2.2.2.2.2.1=x.2.2.2.2.1 then
  (HE m x.2.1)
 else (m,[],[])
structure Rd (views:List (List Int)):Prop where
 ok:FU views views.length views=true
theorem Kp {n:Nat}:∀ {l:List (List Int)} {x:List (List Int)},FU x n l=true↔(∀ v∈l,XG v=true)/\1<=n/\n<=9
 | [],x=>by simp [FU]; omega
 | v::l,x=>by
  rw [FU,Bool.and_eq_true,Kp]
  simp [and_assoc]
theorem Rd.len {views:List (List Int)} (h:Rd views):1<=views.length/\views.length<=9:=(Kp.1 h.ok).2
theorem Rd.view {views:List (List Int)} (h:Rd views) {v:List Int} (hv:v∈views):1<=v.length/\v.length<=4:=by
 have:=(Kp.1 h.ok).1 v hv
 unfold XG at this
 simp only [Bool.and_eq_true,decide_eq_true_eq] at this
 omega
theorem Rd.get {views:List (List Int)} (h:Rd views) {i:Nat} (hi:i<views.length):1<=(views.getD i []).length/\(views.getD i []).length<=4:=by
 rw [AZ hi]
 exact h.view (List.getElem_mem hi)
def Db (m:Y) (views:List (List Int)) (x:B0):Y×List B0×List E5 :=
 if (Xk x&&(x.2.2.1==m.1)&&decide (m.2.1<=x.2.2.2.1)&&decide (x.2.2.2.1<=(views.length:Int)))=true then
  if x.2.2.2.1=m.2.1 then Uc m (views.getD (m.2.1-1).toNat []) x
  else if (x.1==1&&(x.2.2.2.1==m.2.1+1)&&m.2.2.2.1&&(views.getD (m.2.1-1).toNat []).contains m.1)=true then (Sk m x.2.2.2.1,[(2,m.1,x.2.1,x.2.2.2.1,0,m.2.2.2.2.2.2.2.1)],[])
  else if (x.1==3&&(views.getD (x.2.2.2.1-1).toNat []).contains m.1&&((views.getD (x.2.2.2.1-1).toNat []).getD 0 0 != m.1))=true then
   ((m.1,x.2.2.2.1,false,true,false,false,([]:List Int),x.2.2.2.2.2,(0:Int),(0:Int),(0:Int),(0:Int),(ByteArray.empty,ByteArray.empty,(0:Int)),([]:List Int)),Gu m x 4,[])
  else (m,[],[])
 else (m,[],[])

theorem Tn {v:List Int}:∀ (m i:Nat),i+m=v.length->(Io v i m=true↔∀ a (ha:a<v.length),i<=a->(1<=v[a]/\v[a]<=6)/\v[a]∉v.take a)
 | 0,i,h=>by
  simp only [Io,true_iff]
  intro a ha hi
  omega
 | m+1,i,h=>by
  have hi:i<v.length:=by omega
  rw [Io,Bool.and_eq_true,Bool.and_eq_true,Tn m (i+1) (by omega),AZ hi]
  simp only [Bool.and_eq_true,decide_eq_true_eq,Bool.not_eq_true',List.contains_eq_mem,decide_eq_false_iff_not]
  constructor
  ·rintro ⟨⟨h1,h2⟩,h3⟩ a ha hia
   by_cases e:a=i
   ·subst e
    exact ⟨h1,h2⟩
   ·exact h3 a ha (by omega)
  ·intro h3
   exact ⟨⟨(h3 i hi (Nat.le_refl _)).1,(h3 i hi (Nat.le_refl _)).2⟩,fun a ha hia=>h3 a ha (by omega)⟩
structure kh (v:List Int):Prop where
 len:1<=v.length/\v.length<=4
 mem:∀ a∈v,1<=a/\a<=6
 nd:v.Nodup
theorem ki {v:List Int}:XG v=true↔kh v:=by
 unfold XG
 simp only [Bool.and_eq_true,decide_eq_true_eq]
 rw [Tn _ _ (by omega)]
 constructor
 ·rintro ⟨h1,h2⟩
  refine ⟨by omega,fun a ha=>?_,?_⟩
  ·obtain ⟨i,hi,rfl⟩:=List.getElem_of_mem ha
   exact (h2 i hi (Nat.zero_le _)).1
  ·rw [List.nodup_iff_pairwise_ne,List.pairwise_iff_getElem]
   intro i j hi hj hij e
   have:=(h2 j hj (Nat.zero_le _)).2
   apply this
   rw [<- e]
   exact List.mem_iff_getElem.2 ⟨i,by rw [List.length_take]; omega,by rw [List.getElem_take]⟩
 ·rintro ⟨h1,h2,h3⟩
  refine ⟨by omega,fun a ha _=>⟨h2 _ (List.getElem_mem ha),fun hm=>?_⟩⟩
  obtain ⟨i,hi,e⟩:=List.getElem_of_mem hm
  rw [List.length_take] at hi
  rw [List.getElem_take] at e
  have:=(List.getElem_inj h3).1 e
  omega
theorem Rd.wok {views:List (List Int)} (h:Rd views) {i:Nat} (hi:i<views.length):kh (views.getD i []):=by
 rw [AZ hi]
 exact ki.1 ((Kp.1 h.ok).1 _ (List.getElem_mem hi))
structure gy (x:B0):Prop where
 kind:1<=x.1/\x.1<=8
 frm:1<=x.2.1/\x.2.1<=6
 to:1<=x.2.2.1/\x.2.2.1<=6
 ep:1<=x.2.2.2.1/\x.2.2.2.1<=9
 num:0<=x.2.2.2.2.1/\x.2.2.2.2.1<=1000000000
 items:BS x.2.2.2.2.2=true
 shape:if x.1=2\/x.1=3 then True else if x.1=5 then x.2.2.2.2.2.length=1 else x.2.2.2.2.2=[]
theorem S8 {x:B0}:Xk x=true↔gy x:=by
 unfold Xk
 simp only [Bool.and_eq_true,decide_eq_true_eq]
 constructor
 ·rintro ⟨⟨⟨⟨⟨⟨h1,h2⟩,h3⟩,h4⟩,h5⟩,h6⟩,h7⟩
  refine ⟨h1,h2,h3,h4,h5,h6,?_⟩
  split at h7
  ·rename_i e; rw [if_pos e]; trivial
  ·rename_i e
   rw [if_neg e]
   split at h7
   ·rename_i e2; rw [if_pos e2]; simp only [beq_iff_eq] at h7; omega
   ·rename_i e2; rw [if_neg e2]; simp only [beq_iff_eq] at h7; exact List.length_eq_zero_iff.1 (by omega)
 ·rintro ⟨h1,h2,h3,h4,h5,h6,h7⟩
  refine ⟨⟨⟨⟨⟨⟨h1,h2⟩,h3⟩,h4⟩,h5⟩,h6⟩,?_⟩
  split
  ·rfl
  ·rename_i e
   rw [if_neg e] at h7
   split
   ·rename_i e2; rw [if_pos e2] at h7; simp; omega
   ·rename_i e2; rw [if_neg e2] at h7; simp [h7]
theorem Mj:BS []=true:=rfl
def Ud (m n:Y) (l:List B0):Prop:=∀ y∈l,gy y/\y.2.1=m.1/\y.2.2.2.1=n.2.1
theorem V9 {m n:Y} {view:List Int} {k num:Int} {its:List AI} (hm:1<=m.1/\m.1<=6) (he:1<=n.2.1/\n.2.1<=9) (hv:∀ a∈view,1<=a/\a<=6) (hk:1<=k/\k<=8) (hn:0<=num/\num<=1000000000) (hi:BS its=true)
  (hs:if k=2\/k=3 then True else if k=5 then its.length=1 else its=[]):Ud m n ((B8 view m.1).map fun v=>(k,m.1,v,n.2.1,num,its)):=by
 intro y hy
 obtain ⟨v,hv2,rfl⟩:=List.mem_map.1 hy
 exact ⟨⟨hk,hm,hv v (List.mem_filter.1 hv2).1,he,hn,hi,hs⟩,rfl,rfl⟩
theorem NR {m n:Y} {x:B0} {k:Int} (hm:1<=m.1/\m.1<=6) (hx:gy x) (he:x.2.2.2.1=n.2.1) (hk:k=4\/k=6\/k=8):Ud m n (Gu m x k):=by
 intro y hy
 simp only [Gu,List.mem_singleton] at hy
 subst hy
 refine ⟨⟨by show 1<=k/\k<=8; omega,hm,hx.frm,hx.ep,hx.num,Mj,?_⟩,rfl,he⟩
 show if k=2\/k=3 then True else if k=5 then ([]:List AI).length=1 else ([]:List AI)=[]
 rw [if_neg (by omega),if_neg (by omega)]
theorem Sl {m n:Y}:Ud m n []:=fun y hy=>by cases hy
theorem S9:NQ ((0:Int),(0:Int),(0:Int),(ByteArray.empty,ByteArray.empty,(0:Int)),([]:List Int))=true:=by simp [NQ,RD]
theorem Ip.has {m:Y} {view:List Int} {its:List AI} (h:Ip m) (hl:m.2.2.2.2.1=true) (hb:m.2.2.2.1=false) (hi:BS its=true):Ip (Ub m view its):=by
 have hns:m.2.2.2.2.2.1=false:=by
  cases hs:m.2.2.2.2.2.1 with
  | false=>rfl
  | true=>have:=(h.serves hs).1; rw [hb] at this; cases this
 refine ⟨h.id,h.ep,fun hs=>⟨rfl,hl,?_⟩,fun hf=>?_,P6 _ _,h.left,hi,h.count,?_⟩
 ·simp only [Ub,beq_iff_eq] at hs ⊢
  exact List.length_eq_zero_iff.1 (by omega)
 ·have:=(h.fell hf).2; rw [hl] at this; cases this
 ·rcases h.task with h1 | h1
  ·exact .inl h1
  ·unfold F8 at h1
   rw [hns] at h1
   simp at h1
theorem Ip.bare {m:Y} (h:Ip m) {e:Int} (he:1<=e/\e<=9):Ip (Sk m e) :=
 ⟨h.id,he,fun hs=>(by cases hs),fun hf=>(by cases hf),⟨by simp [Sk],by simp [Sk]⟩,⟨by simp [Sk],by simp [Sk]⟩,h.items,⟨by simp [Sk],by simp [Sk]⟩,.inl S9⟩
theorem Ip.install {m:Y} (h:Ip m) {e:Int} {its:List AI} (he:1<=e/\e<=9) (hi:BS its=true) :
  Ip (m.1,e,false,true,false,false,([]:List Int),its,(0:Int),(0:Int),(0:Int),(0:Int),(ByteArray.empty,ByteArray.empty,(0:Int)),([]:List Int)) :=
 ⟨h.id,he,fun hs=>(by cases hs),fun hf=>(by cases hf),⟨by simp,by simp⟩,⟨by simp,by simp⟩,hi,⟨by simp,by simp⟩,.inl S9⟩
theorem Ip.clear {m:Y} (h:Ip m) {its:List AI} (hi:BS its=true):Ip (Kf m its) :=
 ⟨h.id,h.ep,h.serves,h.fell,h.waits,⟨by simp [Kf],by simp [Kf]⟩,hi,h.count,.inl S9⟩
theorem Ip.finish {m:Y} (h:Ip m):Ip (Bt m).2:=by
 unfold Bt
 split
 ·exact h.clear (Gt h.items)
 ·exact h.clear h.items
theorem kj {m:Y} (h:Ip m) (h0:m.2.2.2.2.2.2.2.2.2.1≠0):F8 m.2.2.2.2.2.2.2.2.2 m.2.2.2.2.2.1=true:=by
 rcases h.task with h1 | h1
 ·unfold NQ at h1
  simp only [Bool.and_eq_true,beq_iff_eq] at h1
  exact absurd h1.1.1.1.1 h0
 ·exact h1
def Z7 (l:List E5):Prop:=l.length<=1/\∀ s∈l,0<=s.1/\s.1<=1000
theorem FV:Z7 []:=⟨by simp,fun s hs=>by cases hs⟩
theorem Xl {m:Y} (h:Ip m) (h0:m.2.2.2.2.2.2.2.2.2.1≠0):Z7 (Bt m).1:=by
 have h1:=kj h h0
 unfold F8 at h1
 simp only [Bool.and_eq_true,decide_eq_true_eq] at h1
 unfold Bt
 split
 ·exact ⟨by simp,fun s hs=>by simp at hs; subst hs; exact h1.1.2⟩
 ·exact ⟨by simp,fun s hs=>by simp at hs; subst hs; exact h1.1.2⟩
structure cw (m:Y) (r:Y×List B0×List E5):Prop where
 mok:Ip r.1
 id:r.1.1=m.1
 ep:m.2.1<=r.1.2.1
 told:Ud m r.1 r.2.1
 tlen:r.2.1.length<=4
 said:Z7 r.2.2
theorem Fw {m:Y} (h:Ip m):cw m (m,[],[]):=⟨h,rfl,Int.le_refl _,Sl,by simp,FV⟩
theorem Fx (view:List Int) (id:Int):(B8 view id).length<=view.length:=List.length_filter_le _ _
theorem Ip.left_filter {m:Y} (h:Ip m) (f:Int):Ip (bX m f):=by
 refine ⟨h.id,h.ep,h.serves,h.fell,h.waits,Z6 h.left _,h.items,h.count,?_⟩
 rcases h.task with h1 | h1
 ·left
  unfold NQ at h1 ⊢
  simp only [Bool.and_eq_true,beq_iff_eq] at h1 ⊢
  refine ⟨h1.1,?_⟩
  have h2:=List.length_filter_le (· != f) m.2.2.2.2.2.2.2.2.2.2.2.2.2
  have h3:=h1.2
  show (((m.2.2.2.2.2.2.2.2.2.2.2.2.2.filter (· != f)).length:Nat):Int)=0
  omega
 ·exact .inr h1
theorem km {m:Y} {view:List Int} {x:B0} (hm:Ip m) (hv:kh view) (hx:gy x) (he:x.2.2.2.1=m.2.1):cw m (Uc m view x):=by
 unfold Uc
 split
 ·split
  ·rename_i h1 h2
   simp only [Bool.and_eq_true,Bool.not_eq_true'] at h2
   refine ⟨hm.has h2.1 h2.2 hx.items,rfl,Int.le_refl _,?_,by simp only [List.length_map]; have:=Fx view m.1; have:=hv.len; omega,FV⟩
   exact V9 (n:=Ub m view x.2.2.2.2.2) hm.id hm.ep hv.mem (by omega) (by omega) hx.items (by simp)
  ·exact Fw hm
 ·split
  ·split
   ·exact Fw hm
   ·split
    ·exact Fw hm
    ·split
     ·exact ⟨hm,rfl,Int.le_refl _,NR hm.id hx he (by omega),by simp [Gu],FV⟩
     ·exact ⟨hm.install hm.ep hx.items,rfl,Int.le_refl _,NR hm.id hx he (by omega),by simp [Gu],FV⟩
  ·split
   ·split
    ·rename_i hl
     refine ⟨⟨hm.id,hm.ep,fun hs=>?_,hm.fell,Z6 hm.waits _,hm.left,hm.items,hm.count,?_⟩,rfl,Int.le_refl _,Sl,by simp,FV⟩
     ·simp only [Bool.and_eq_true,beq_iff_eq] at hs
      exact ⟨hs.1,hl,List.length_eq_zero_iff.1 (show (List.filter (· != x.2.1) m.2.2.2.2.2.2.1).length=0 by have h:((List.filter (· != x.2.1) m.2.2.2.2.2.2.1).length:Int)=0:=hs.2; omega)⟩
     ·rcases hm.task with h1 | h1
      ·exact .inl h1
      ·right
       have hs:m.2.2.2.2.2.1=true:=by
        unfold F8 at h1
        simp only [Bool.and_eq_true] at h1
        exact h1.1.1.2
       obtain ⟨a,b,c⟩:=hm.serves hs
       rw [hs] at h1
       simp only [c,List.filter_nil,List.length_nil,a,Bool.true_and]
       exact h1
    ·exact Fw hm
   ·split
    ·split
     ·exact ⟨⟨hm.id,hm.ep,hm.serves,hm.fell,hm.waits,hm.left,Gt hm.items,hm.count,hm.task⟩,rfl,Int.le_refl _,NR hm.id hx he (by omega),by simp [Gu],FV⟩
     ·exact Fw hm
    ·split
     ·split
      ·exact ⟨hm,rfl,Int.le_refl _,NR hm.id hx he (by omega),by simp [Gu],FV⟩
      ·exact Fw hm
     ·by_cases hc:(x.1=6\/x.1=8)/\m.2.2.2.2.2.2.2.2.2.1=(if x.1=8 then 2 else 1)/\m.2.2.2.2.2.2.2.2.2.2.2.1=x.2.2.2.2.1
      ·rw [if_pos hc]
       have hn:=hm.left_filter x.2.1
       unfold HE
       split
       ·refine ⟨hn.finish,?_,?_,Sl,by simp,Xl hn ?_⟩
        ·unfold Bt; split<;>rfl
        ·unfold Bt; split<;>exact Int.le_refl _
        ·have:=hc.2.1
         show m.2.2.2.2.2.2.2.2.2.1≠0
         rw [this]
         split<;>omega
       ·exact ⟨hn,rfl,Int.le_refl _,Sl,by simp,FV⟩
      ·rw [if_neg hc]
       exact Fw hm
theorem NS {m:Y} {views:List (List Int)} {x:B0} (hm:Ip m) (hv:Rd views):cw m (Db m views x):=by
 unfold Db
 split
 ·rename_i hc
  simp only [Bool.and_eq_true,decide_eq_true_eq,beq_iff_eq] at hc
  obtain ⟨⟨⟨h1,h2⟩,h3⟩,h4⟩:=hc
  have hx:=S8.1 h1
  have hvl:=hv.len
  have he:=hm.ep
  split
  ·rename_i e
   exact km hm (hv.wok (by omega)) hx e
  ·split
   ·refine ⟨hm.bare hx.ep,rfl,h3,fun y hy=>?_,by simp,FV⟩
    simp only [List.mem_singleton] at hy
    subst hy
    exact ⟨⟨by simp,hm.id,hx.frm,hx.ep,by simp,hm.items,by simp⟩,rfl,rfl⟩
   ·split
    ·exact ⟨hm.install hx.ep hx.items,rfl,h3,NR hm.id hx rfl (by omega),by simp [Gu],FV⟩
    ·exact Fw hm
 ·exact Fw hm

def Z8:Y:=((0:Int),(0:Int),false,false,false,false,([]:List Int),([]:List AI),(0:Int),(0:Int),(0:Int),(0:Int),(ByteArray.empty,ByteArray.empty,(0:Int)),([]:List Int))
def gz (m:Y) (views:List (List Int)) (op call:Int) (key val:ByteArray):Bool :=
 m.2.2.2.2.2.1&&(m.2.2.2.2.2.2.2.2.2.1==0)&&decide (m.2.2.2.2.2.2.2.2.1<900)&&(op==1||op==2)&&(decide (0<=call)&&decide (call<=1000))&&(decide (1<=(key.size:Int))&&decide ((key.size:Int)<=12))&&decide ((val.size:Int)<=20)&&(op==1||hY val)&&decide (m.2.1<=(views.length:Int))&&((views.getD (m.2.1-1).toNat []).getD 0 0==m.1)
def Iq (m:Y) (key val:ByteArray):AI:=(key,val,1000*m.2.1+(m.2.2.2.2.2.2.2.2.1+1))
def MO (m:Y) (view:List Int) (op call:Int) (key val:ByteArray):Y :=
 (m.1,m.2.1,m.2.2.1,m.2.2.2.1,m.2.2.2.2.1,m.2.2.2.2.2.1,m.2.2.2.2.2.2.1,m.2.2.2.2.2.2.2.1,m.2.2.2.2.2.2.2.2.1+1,op,call,m.2.2.2.2.2.2.2.2.1+1,Iq m key val,EP view m.1)
def fE (m:Y) (view:List Int) (op:Int) (key val:ByteArray):List B0 :=
 (B8 view m.1).map fun v=>(if op=1 then 5 else 7,m.1,v,m.2.1,m.2.2.2.2.2.2.2.2.1+1,if op=1 then [Iq m key val] else [])
def Ue (m:Y) (view:List Int) (op call:Int) (key val:ByteArray):Y×List B0×List E5×Bool :=
 if EP view m.1=[] then ((Bt (MO m view op call key val)).2,[],(Bt (MO m view op call key val)).1,true) else (MO m view op call key val,fE m view op key val,[],true)
def GS (m:Y) (views:List (List Int)) (op call:Int) (key val:ByteArray):Y×List B0×List E5×Bool :=
 if gz m views op call key val=true then
  (if op=1/\RD (.pair .str (.pair .str (.int .i64))) (BJ (Aj m.2.2.2.2.2.2.2.1 (Iq m key val)) key) (Iq m key val)=false then (Z8,[],[],false) else Ue m (views.getD (m.2.1-1).toNat []) op call key val)
 else (Z8,[],[],false)
structure fh (m:Y) (r:Y×List B0×List E5×Bool):Prop where
 mok:r.2.2.2=true->Ip r.1
 id:r.2.2.2=true->r.1.1=m.1
 ep:r.2.2.2=true->r.1.2.1=m.2.1
 told:r.2.2.2=true->Ud m r.1 r.2.1
 tlen:r.2.1.length<=4
 said:Z7 r.2.2.1
theorem bY {m:Y}:fh m (Z8,[],[],false):=⟨fun h=>(by cases h),fun h=>(by cases h),fun h=>(by cases h),fun h=>(by cases h),by simp,FV⟩
theorem S_ {m:Y} {views:List (List Int)} {op call:Int} {key val:ByteArray} (h:gz m views op call key val=true) :
  m.2.2.2.2.2.1=true/\m.2.2.2.2.2.2.2.2.2.1=0/\m.2.2.2.2.2.2.2.2.1<900/\(op=1\/op=2)/\(0<=call/\call<=1000)/\(1<=(key.size:Int)/\(key.size:Int)<=12)/\(val.size:Int)<=20/\(op=1\/hY val=true)/\m.2.1<=(views.length:Int)/\(views.getD (m.2.1-1).toNat []).getD 0 0=m.1:=by
 unfold gz at h
 simp only [Bool.and_eq_true,Bool.or_eq_true,decide_eq_true_eq,beq_iff_eq] at h
 obtain ⟨⟨⟨⟨⟨⟨⟨⟨⟨h1,h2⟩,h3⟩,h4⟩,h5⟩,h6⟩,h7⟩,h8⟩,h9⟩,h10⟩:=h
 exact ⟨h1,h2,h3,h4,h5,h6,h7,h8,h9,h10⟩
theorem Z9 {m:Y} {key val:ByteArray} (h:Ip m) (h3:m.2.2.2.2.2.2.2.2.1<900) (h6:1<=(key.size:Int)/\(key.size:Int)<=12) (h7:(val.size:Int)<=20):BS [Iq m key val]=true:=by
 refine CT.2 ⟨fun b hb=>?_,?_,by simp⟩
 ·simp only [List.mem_singleton] at hb
  subst hb
  unfold Hz Iq
  have:=h.ep
  have:=h.count
  simp only [Bool.and_eq_true,decide_eq_true_eq]
  omega
 ·exact bW.2 (by simp)
theorem Ip.task1 {m:Y} {view:List Int} {op call:Int} {key val:ByteArray} (h:Ip m) (h1:m.2.2.2.2.2.1=true) (h3:m.2.2.2.2.2.2.2.2.1<900) (h4:op=1\/op=2) (h5:0<=call/\call<=1000):Ip (MO m view op call key val):=by
 have hc:=h.count
 refine ⟨h.id,h.ep,h.serves,h.fell,h.waits,P6 _ _,h.items,?_,.inr ?_⟩
 ·show 0<=m.2.2.2.2.2.2.2.2.1+1/\m.2.2.2.2.2.2.2.2.1+1<=900
  omega
 ·unfold F8 MO
  rw [h1]
  simp only [Bool.and_eq_true,Bool.or_eq_true,decide_eq_true_eq,beq_iff_eq]
  exact ⟨⟨⟨h4,trivial⟩,h5⟩,by omega⟩
theorem XH {m:Y} {views:List (List Int)} {op call:Int} {key val:ByteArray} (hm:Ip m) (hv:Rd views):fh m (GS m views op call key val):=by
 unfold GS
 split
 ·rename_i hmay
  obtain ⟨h1,h2,h3,h4,h5,h6,h7,h8,h9,h10⟩:=S_ hmay
  split
  ·exact bY
  ·unfold Ue
   have hep:=hm.ep
   have ht:=hm.task1 (view:=views.getD (m.2.1-1).toNat []) (key:=key) (val:=val) h1 h3 h4 h5
   have h0:(MO m (views.getD (m.2.1-1).toNat []) op call key val).2.2.2.2.2.2.2.2.2.1≠0:=by show op≠0; omega
   have hw:=hv.wok (i:=(m.2.1-1).toNat) (by omega)
   split
   ·exact ⟨fun _=>ht.finish,fun _=>(by unfold Bt; split<;>rfl),fun _=>(by unfold Bt; split<;>rfl),fun _=>Sl,by simp,Xl ht h0⟩
   ·refine ⟨fun _=>ht,fun _=>rfl,fun _=>rfl,fun _=>?_,?_,FV⟩
    ·unfold fE
     have hc:=hm.count
     have hi:=Z9 hm h3 h6 h7
     refine V9 (n:=MO m (views.getD (m.2.1-1).toNat []) op call key val) hm.id hm.ep hw.mem (by split<;>omega) (by omega) ?_ ?_
     ·split
      ·exact hi
      ·exact Mj
     ·by_cases ho:op=1
      ·rw [if_pos ho,if_pos ho,if_neg (by omega),if_pos rfl]; rfl
      ·rw [if_neg ho,if_neg ho,if_neg (by omega),if_neg (by omega)]
    ·unfold fE
     simp only [List.length_map]
     have:=Fx (views.getD (m.2.1-1).toNat []) m.1
     have:=hw.len
     omega
 ·exact bY
def Na (m:Y) (e:Int):Y:=(m.1,e,false,false,true,false,([]:List Int),m.2.2.2.2.2.2.2.1,(0:Int),(0:Int),(0:Int),(0:Int),(ByteArray.empty,ByteArray.empty,(0:Int)),([]:List Int))
def E3 (m:Y) (views:List (List Int)) (e:Int):Y×List B0×Bool :=
 if 2<=e/\e<=(views.length:Int)/\m.2.1<e/\(views.getD (e-1).toNat []).getD 0 0=m.1 then
  if (m.2.2.2.1&&(m.2.1==e-1)&&(views.getD (e-2).toNat []).contains m.1)=true then
   (Ub (Na m e) (views.getD (e-1).toNat []) m.2.2.2.2.2.2.2.1,(B8 (views.getD (e-1).toNat []) m.1).map (fun v=>(3,m.1,v,e,0,m.2.2.2.2.2.2.2.1)),true)
  else (Na m e,(B8 (views.getD (e-2).toNat []) m.1).map (fun v=>(1,m.1,v,e,0,[])),true)
 else (Z8,[],false)
theorem Ip.new1 {m:Y} (h:Ip m) {e:Int} (he:1<=e/\e<=9):Ip (Na m e) :=
 ⟨h.id,he,fun hs=>(by cases hs),fun hf=>(by cases hf),⟨by simp [Na],by simp [Na]⟩,⟨by simp [Na],by simp [Na]⟩,h.items,⟨by simp [Na],by simp [Na]⟩,.inl S9⟩
theorem TA {m:Y} {views:List (List Int)} {e:Int} (hm:Ip m) (hv:Rd views):(E3 m views e).2.2=true->Ip (E3 m views e).1/\(E3 m views e).1.1=m.1/\Ud m (E3 m views e).1 (E3 m views e).2.1/\(E3 m views e).2.1.length<=4:=by
 intro h
 have hvl:=hv.len
 have hep:=hm.ep
 unfold E3 at h ⊢
 split
 ·rename_i hc
  have he:1<=e/\e<=9:=by omega
  split
  ·have hw:=hv.wok (i:=(e-1).toNat) (by omega)
   refine ⟨(hm.new1 he).has rfl rfl hm.items,rfl,V9 (n:=Ub (Na m e) (views.getD (e-1).toNat []) m.2.2.2.2.2.2.2.1) hm.id he hw.mem (by omega) (by omega) hm.items (by simp),?_⟩
   simp only [List.length_map]
   have:=Fx (views.getD (e-1).toNat []) m.1
   have:=hw.len
   omega
  ·have hw:=hv.wok (i:=(e-2).toNat) (by omega)
   refine ⟨hm.new1 he,rfl,V9 (n:=Na m e) hm.id he hw.mem (by omega) (by omega) Mj (by simp),?_⟩
   simp only [List.length_map]
   have:=Fx (views.getD (e-2).toNat []) m.1
   have:=hw.len
   omega
 ·rename_i hc
  rw [if_neg hc] at h
  cases h
def RC (m:Y):Y:=(m.1,m.2.1,true,false,false,false,([]:List Int),([]:List AI),(0:Int),(0:Int),(0:Int),(0:Int),(ByteArray.empty,ByteArray.empty,(0:Int)),([]:List Int))
theorem Ip.fall1 {m:Y} (h:Ip m):Ip (RC m) :=
 ⟨h.id,h.ep,fun hs=>(by cases hs),fun hf=>⟨rfl,rfl⟩,⟨by simp [RC],by simp [RC]⟩,⟨by simp [RC],by simp [RC]⟩,Mj,⟨by simp [RC],by simp [RC]⟩,.inl S9⟩
def D3 (id:Int) (views:List (List Int)):Y :=
 (id,(1:Int),false,(views.getD 0 []).contains id,((views.getD 0 []).getD 0 0==id),((views.getD 0 []).getD 0 0==id),([]:List Int),([]:List AI),(0:Int),(0:Int),(0:Int),(0:Int),(ByteArray.empty,ByteArray.empty,(0:Int)),([]:List Int))
theorem Ip.first1 {id:Int} {views:List (List Int)} (hi:1<=id/\id<=6) (hv:Rd views):Ip (D3 id views):=by
 have hvl:=hv.len
 have g:=hv.get (i:=0) (by omega)
 refine ⟨hi,by simp [D3],fun hs=>⟨?_,hs,rfl⟩,fun hf=>(by cases hf),⟨by simp [D3],by simp [D3]⟩,⟨by simp [D3],by simp [D3]⟩,Mj,⟨by simp [D3],by simp [D3]⟩,.inl S9⟩
 simp only [D3,beq_iff_eq] at hs ⊢
 rw [<- hs,List.contains_iff_mem,AZ (show 0<(views.getD 0 []).length by omega)]
 exact List.getElem_mem _

abbrev LO:Type:=Int×ByteArray×ByteArray×Int×Int×Int×Int×Int×ByteArray
abbrev AR:Type:=List (List Int)×List Y×List B0×List LO
abbrev EQ:Type:=Int×Int×Int×Int×ByteArray×ByteArray
def Fy:LO:=((0:Int),ByteArray.empty,ByteArray.empty,(0:Int),(0:Int),(0:Int),(0:Int),(0:Int),ByteArray.empty)
def ER:B0:=((0:Int),(0:Int),(0:Int),(0:Int),(0:Int),([]:List AI))
def CK (g:AR) (i:Nat):Y:=g.2.1.getD i Z8
structure Mk (g:AR) (n:Nat):Prop where
 views:Rd g.1
 six:g.2.1.length=6
 mem:∀ i,i<6->Ip (CK g i)/\(CK g i).1=(i:Int)+1
 fly:∀ x∈g.2.2.1,gy x
 flen:g.2.2.1.length<=8*n
 clen:g.2.2.2.length<=n
def Sm (at_:Int) (s:E5) (c:LO):LO :=
 (c.1,c.2.1,c.2.2.1,c.2.2.2.1,at_,s.2.2.2.2.2,s.2.1,s.2.2.1,if (c.1==2)=true then s.2.2.2.2.1 else c.2.2.2.2.2.2.2.2)
def LP (at_:Int) (cs:List LO) (s:E5):List LO :=
 if (decide (s.1>=(cs.length:Int))||decide ((cs.getD s.1.toNat Fy).2.2.2.2.1>=0))=true then cs else cs.set s.1.toNat (Sm at_ s (cs.getD s.1.toNat Fy))
def A_ (g:AR) (n:Y) (told:List B0) (said:List E5) (at_:Int):AR :=
 (g.1,g.2.1.set (n.1-1).toNat n,g.2.2.1++told,said.foldl (LP at_) g.2.2.2)
theorem g7 (at_:Int) (cs:List LO) (s:E5):(LP at_ cs s).length=cs.length:=by unfold LP; split<;>simp
theorem Uf (at_:Int):∀ (said:List E5) (cs:List LO),(said.foldl (LP at_) cs).length=cs.length
 | [],cs=>rfl
 | s::l,cs=>by rw [List.foldl_cons,Uf at_ l,g7]
theorem fi {α:Type} {l:List α} {i:Nat} {a d:α} (h:i<l.length):(l.set i a).getD i d=a:=by simp [List.getD,h]
theorem Z_ {g:AR} {n:Y} {told:List B0} {said:List E5} {at_:Int} {i j:Nat} (h6:g.2.1.length=6) (hj:j<6) (hn:n.1=(i:Int)+1) (hi:i<6):CK (A_ g n told said at_) j=if j=i then n else CK g j:=by
 unfold CK A_
 simp only [hn,show ((i:Int)+1-1).toNat=i from by omega]
 by_cases e:j=i
 ·subst e
  rw [if_pos rfl]
  exact fi (by omega)
 ·rw [if_neg e]
  simp [List.getD,List.getElem?_set,Ne.symm e]
theorem Mk.member {g:AR} {k:Nat} (h:Mk g k) {n:Y} {told:List B0} {said:List E5} {at_:Int} {i:Nat} (hi:i<6) (hn:Ip n) (hid:n.1=(i:Int)+1) (ht:∀ y∈told,gy y) (hl:told.length<=4):Mk (A_ g n told said at_) (k+1):=by
 refine ⟨h.views,by simp [A_,h.six],fun j hj=>?_,fun x hx=>?_,?_,?_⟩
 ·rw [Z_ h.six hj hid hi]
  split
  ·rename_i e
   subst e
   exact ⟨hn,hid⟩
  ·exact h.mem j hj
 ·rcases List.mem_append.1 hx with h1 | h1
  ·exact h.fly x h1
  ·exact ht x h1
 ·have:=h.flen
  simp only [A_,List.length_append]
  omega
 ·have:=h.clen
  simp only [A_,Uf]
  omega
def Gv (g:AR) (at_:Int) (e:EQ):AR:=(g.1,g.2.1,g.2.2.1,g.2.2.2++[(e.2.2.2.1,e.2.2.2.2.1,e.2.2.2.2.2,at_,-1,0,0,0,ByteArray.empty)])
def Lq (g:AR) (at_:Int) (e:EQ):Int×AR :=
 if (GS (CK g (e.2.1-1).toNat) g.1 e.2.2.2.1 (g.2.2.2.length:Int) e.2.2.2.2.1 e.2.2.2.2.2).2.2.2=true then
  (0,A_ (Gv g at_ e) (GS (CK g (e.2.1-1).toNat) g.1 e.2.2.2.1 (g.2.2.2.length:Int) e.2.2.2.2.1 e.2.2.2.2.2).1 (GS (CK g (e.2.1-1).toNat) g.1 e.2.2.2.1 (g.2.2.2.length:Int) e.2.2.2.2.1 e.2.2.2.2.2).2.1 (GS (CK g (e.2.1-1).toNat) g.1 e.2.2.2.1 (g.2.2.2.length:Int) e.2.2.2.2.1 e.2.2.2.2.2).2.2.1 at_)
 else (1,Gv g at_ e)
theorem Yl {e:EQ} (h:XE e=true):1<=e.1/\e.1<=6/\1<=e.2.1/\e.2.1<=6/\0<=e.2.2.1:=by
 unfold XE at h
 simp only [Bool.and_eq_true,decide_eq_true_eq] at h
 omega
theorem fj {m n:Y} {l:List B0} (h:Ud m n l):∀ y∈l,gy y:=fun y hy=>(h y hy).1
theorem Mk.began {at_:Int} {e:EQ} {g:AR} {k:Nat} (hg:Mk g k) (hn:1<=e.2.1/\e.2.1<=6):Mk (Lq g at_ e).2 (k+1)/\(Lq g at_ e).2.1=g.1:=by
 have hc:=hg.clen
 obtain ⟨m1,m2⟩:=hg.mem (e.2.1-1).toNat (by omega)
 have hb:=XH (op:=e.2.2.2.1) (call:=(g.2.2.2.length:Int)) (key:=e.2.2.2.2.1) (val:=e.2.2.2.2.2) m1 hg.views
 refine ⟨?_,?_⟩
 ·unfold Lq
  split
  ·rename_i hq
   have hid:=hb.id hq
   have hm:=hg.member (said:=(GS (CK g (e.2.1-1).toNat) g.1 e.2.2.2.1 (g.2.2.2.length:Int) e.2.2.2.2.1 e.2.2.2.2.2).2.2.1) (at_:=at_) (i:=(e.2.1-1).toNat) (by omega) (hb.mok hq) (by rw [hid,m2]) (fj (hb.told hq)) hb.tlen
   exact ⟨hm.views,hm.six,hm.mem,hm.fly,hm.flen,by simp only [A_,Uf,Gv,List.length_append,List.length_cons,List.length_nil]; omega⟩
  ·exact ⟨hg.views,hg.six,hg.mem,hg.fly,by have:=hg.flen; show g.2.2.1.length<=_; omega,by simp only [Gv,List.length_append,List.length_cons,List.length_nil]; omega⟩
 ·unfold Lq; split<;>rfl

def IU (g:AR) (at_:Int) (m:Y) (node:Int):Nat->Int->Int×AR
 | 0,_=>(1,g)
 | k+1,e=>if ((g.1.getD (e-1).toNat []).getD 0 0 != node)=true then IU g at_ m node k (e+1)
  else if (E3 m g.1 e).2.2=true then (0,A_ g (E3 m g.1 e).1 (E3 m g.1 e).2.1 [] at_) else (1,g)
def cz (g:AR) (at_ node:Int):Int×AR:=IU g at_ (CK g (node-1).toNat) node ((g.1.length:Int)-(CK g (node-1).toNat).2.1).toNat ((CK g (node-1).toNat).2.1+1)
theorem Mk.up {g:AR} {k:Nat} (h:Mk g k):Mk g (k+1):=⟨h.views,h.six,h.mem,h.fly,by have:=h.flen; omega,by have:=h.clen; omega⟩
theorem Mk.adopted {at_ node:Int} {g:AR} {k:Nat} (hg:Mk g k) (hn:1<=node/\node<=6):∀ (j:Nat) (e:Int),Mk (IU g at_ (CK g (node-1).toNat) node j e).2 (k+1)/\(IU g at_ (CK g (node-1).toNat) node j e).2.1=g.1
 | 0,_=>⟨hg.up,rfl⟩
 | j+1,e=>by
  obtain ⟨m1,m2⟩:=hg.mem (node-1).toNat (by omega)
  unfold IU
  split
  ·exact Mk.adopted hg hn j (e+1)
  ·split
   ·rename_i hq
    obtain ⟨a1,a2,a3,a4⟩:=TA (e:=e) m1 hg.views hq
    exact ⟨hg.member (i:=(node-1).toNat) (by omega) a1 (by rw [a2,m2]) (fj a3) a4,rfl⟩
   ·exact ⟨hg.up,rfl⟩
def ES (g:AR) (i:Nat):AR:=(g.1,g.2.1,g.2.2.1.take i++g.2.2.1.drop (i+1),g.2.2.2)
def au (g:AR) (at_:Int) (e:EQ):Int×AR :=
 if g.2.2.1=[] then (1,g)
 else if e.1=4 then (0,(g.1,g.2.1,g.2.2.1++[g.2.2.1.getD (e.2.2.1 % (g.2.2.1.length:Int)).toNat ER],g.2.2.2))
 else if e.1=3 then (0,ES g (e.2.2.1 % (g.2.2.1.length:Int)).toNat)
 else (0,A_ (ES g (e.2.2.1 % (g.2.2.1.length:Int)).toNat)
  (Db (CK g ((g.2.2.1.getD (e.2.2.1 % (g.2.2.1.length:Int)).toNat ER).2.2.1-1).toNat) g.1 (g.2.2.1.getD (e.2.2.1 % (g.2.2.1.length:Int)).toNat ER)).1
  (Db (CK g ((g.2.2.1.getD (e.2.2.1 % (g.2.2.1.length:Int)).toNat ER).2.2.1-1).toNat) g.1 (g.2.2.1.getD (e.2.2.1 % (g.2.2.1.length:Int)).toNat ER)).2.1
  (Db (CK g ((g.2.2.1.getD (e.2.2.1 % (g.2.2.1.length:Int)).toNat ER).2.2.1-1).toNat) g.1 (g.2.2.1.getD (e.2.2.1 % (g.2.2.1.length:Int)).toNat ER)).2.2 at_)
theorem Mk.less {g:AR} {k:Nat} (h:Mk g k) (i:Nat):Mk (ES g i) k:=by
 refine ⟨h.views,h.six,h.mem,fun x hx=>?_,?_,h.clen⟩
 ·rcases List.mem_append.1 hx with h1 | h1
  ·exact h.fly x (List.mem_of_mem_take h1)
  ·exact h.fly x (List.mem_of_mem_drop h1)
 ·have:=h.flen
  simp only [ES,List.length_append,List.length_take,List.length_drop]
  omega
theorem Mk.flew {at_:Int} {e:EQ} {g:AR} {k:Nat} (hg:Mk g k):Mk (au g at_ e).2 (k+1)/\(au g at_ e).2.1=g.1:=by
 have hc:=hg.clen
 have hf:=hg.flen
 unfold au
 split
 ·exact ⟨hg.up,rfl⟩
 ·rename_i h0
  have hl:0<g.2.2.1.length:=List.length_pos_iff.2 h0
  have hr0:=Int.emod_nonneg e.2.2.1 (show (g.2.2.1.length:Int)≠0 by omega)
  have hr1:=Int.emod_lt_of_pos e.2.2.1 (show 0<(g.2.2.1.length:Int) by omega)
  generalize hq:e.2.2.1 % (g.2.2.1.length:Int)=q at hr0 hr1
  have hx:=hg.fly (g.2.2.1.getD q.toNat ER) (by rw [AZ (show q.toNat<g.2.2.1.length by omega)]; exact List.getElem_mem _)
  have hto:=hx.to
  obtain ⟨m1,m2⟩:=hg.mem ((g.2.2.1.getD q.toNat ER).2.2.1-1).toNat (by omega)
  have hh:=NS (x:=g.2.2.1.getD q.toNat ER) m1 hg.views
  have hless:=hg.less q.toNat
  split
  ·refine ⟨⟨hg.views,hg.six,hg.mem,fun x hx'=>?_,by simp only [List.length_append,List.length_cons,List.length_nil]; omega,by show g.2.2.2.length<=_; omega⟩,rfl⟩
   rcases List.mem_append.1 hx' with h1 | h1
   ·exact hg.fly x h1
   ·simp only [List.mem_singleton] at h1; subst h1; exact hx
  ·split
   ·exact ⟨hless.up,rfl⟩
   ·exact ⟨hless.member (i:=((g.2.2.1.getD q.toNat ER).2.2.1-1).toNat) (by omega) hh.mok (by rw [hh.id,m2]) (fj hh.told) hh.tlen,rfl⟩
def dI (g:AR) (at_:Int) (e:EQ):Int×AR :=
 if e.1=1 then Lq g at_ e else if e.1=5 then cz g at_ e.2.1
 else if e.1=6 then (0,A_ g (RC (CK g (e.2.1-1).toNat)) [] [] at_) else au g at_ e
theorem Mk.event {at_:Int} {e:EQ} {g:AR} {k:Nat} (hg:Mk g k) (he:XE e=true):Mk (dI g at_ e).2 (k+1)/\(dI g at_ e).2.1=g.1:=by
 have hn:=Yl he
 unfold dI
 split
 ·exact hg.began (by omega)
 ·split
  ·exact hg.adopted (by omega) _ _
  ·split
   ·obtain ⟨m1,m2⟩:=hg.mem (e.2.1-1).toNat (by omega)
    exact ⟨hg.member (i:=(e.2.1-1).toNat) (by omega) m1.fall1 m2 (fun y hy=>by cases hy) (by simp),rfl⟩
   ·exact hg.flew

def Aq (views:List (List Int)):AR:=(views,[D3 1 views,D3 2 views,D3 3 views,D3 4 views,D3 5 views,D3 6 views],[],[])
theorem bZ {views:List (List Int)} (hv:Rd views):Mk (Aq views) 0:=by
 refine ⟨hv,rfl,fun i hi=>?_,fun x hx=>(by cases hx),(by simp [Aq]),(by simp [Aq])⟩
 have h5:i=0\/i=1\/i=2\/i=3\/i=4\/i=5:=by omega
 rcases h5 with rfl | rfl | rfl | rfl | rfl | rfl<;>exact ⟨Ip.first1 (by omega) hv,rfl⟩
def OT:Nat->List EQ->AR->List Int->AR×List Int
 | _,[],g,cs=>(g,cs)
 | n,e::es,g,cs=>OT (n+1) es (dI g (n:Int) e).2 (cs++[(dI g (n:Int) e).1])
theorem c_:∀ (es:List EQ) (n:Nat) (g:AR) (cs:List Int),Mk g n->n+es.length<=70->(∀ e∈es,XE e=true)->Mk (OT n es g cs).1 (n+es.length)/\(OT n es g cs).1.1=g.1/\(OT n es g cs).2.length=cs.length+es.length
 | [],n,g,cs,hg,_,_=>⟨hg,rfl,rfl⟩
 | e::es,n,g,cs,hg,hn,he=>by
  simp only [List.length_cons] at hn
  obtain ⟨h2,h3⟩:=hg.event (at_:=(n:Int)) (he e (by simp))
  obtain ⟨h4,h5,h6⟩:=c_ es (n+1) _ (cs++[(dI g (n:Int) e).1]) h2 (by omega) (fun x hx=>he x (by simp [hx]))
  refine ⟨?_,h5.trans h3,?_⟩
  ·have:n+(e::es).length=n+1+es.length:=by simp only [List.length_cons]; omega
   rw [this]
   exact h4
  ·simp only [OT,h6,List.length_append,List.length_cons,List.length_nil]
   omega





def OE (views:List (List Int)) (e:Int):Int:=(views.getD (e-1).toNat []).getD 0 0
def Jn (l:List AI) (b:Int):Prop:=∀ y∈l,y.2.2<=b
theorem Jn.mono {l:List AI} {a b:Int} (h:Jn l a) (hab:a<=b):Jn l b:=fun y hy=>Int.le_trans (h y hy) hab
theorem XI {b:Int}:Jn [] b:=fun y hy=>by cases hy
theorem Sn {x:List AI} {a b:AI} (h:b∈Aj x a):b=a\/b∈x:=by
 unfold Aj at h
 split at h
 ·exact .inr h
 ·split at h
  ·split at h
   ·exact d_ h
   ·exact .inr h
  ·exact .inr h
theorem Jn.put {l:List AI} {a:AI} {b:Int} (h:Jn l b) (ha:a.2.2<=b):Jn (Aj l a) b:=fun y hy=>by
 rcases Sn hy with e | e
 ·rw [e]; exact ha
 ·exact h y e
structure V1 (views:List (List Int)) (m:Y):Prop where
 lead:m.2.2.2.2.1=true->m.2.1<=(views.length:Int)/\OE views m.2.1=m.1
 ver:Jn m.2.2.2.2.2.2.2.1 (1000*m.2.1+900)
 own:m.2.2.2.2.1=true->m.2.2.2.1=true->Jn m.2.2.2.2.2.2.2.1 (1000*m.2.1+m.2.2.2.2.2.2.2.2.1)
 task:m.2.2.2.2.2.2.2.2.2.1≠0->m.2.2.2.2.2.2.2.2.2.2.2.2.1.2.2<=1000*m.2.1+m.2.2.2.2.2.2.2.2.1
 view:m.2.2.2.1=true->m.2.1<=(views.length:Int)/\(views.getD (m.2.1-1).toNat []).contains m.1=true
structure V2 (views:List (List Int)) (x:B0):Prop where
 inst:x.1=3->x.2.2.2.2.1=0
 old:x.1=2\/x.1=3->Jn x.2.2.2.2.2 (1000*x.2.2.2.1)
 store:x.1=5->x.2.2.1≠OE views x.2.2.2.1/\Jn x.2.2.2.2.2 (1000*x.2.2.2.1+900)
theorem V2.plain {views:List (List Int)} {x:B0} (h2:x.1≠2) (h3:x.1≠3) (h5:x.1≠5):V2 views x:=⟨fun h=>absurd h h3,fun h=>by omega,fun h=>absurd h h5⟩
theorem V1.finish {views:List (List Int)} {m:Y} (h:V1 views m) (hc:m.2.2.2.2.2.2.2.2.1<=900) (h0:m.2.2.2.2.2.2.2.2.2.1≠0):V1 views (Bt m).2:=by
 have ht:=h.task h0
 unfold Bt
 split
 ·exact ⟨h.lead,h.ver.put (by omega),fun h1 h2=>(h.own h1 h2).put ht,fun h0=>absurd rfl h0,h.view⟩
 ·exact ⟨h.lead,h.ver,h.own,fun h0=>absurd rfl h0,h.view⟩
theorem V1.bare {views:List (List Int)} {m:Y} (h:V1 views m) {e:Int} (he:m.2.1<=e):V1 views (Sk m e) :=
 ⟨fun h=>(by cases h),h.ver.mono (by show _<=1000*e+900; omega),fun h=>(by cases h),fun h=>absurd rfl h,fun h=>(by cases h)⟩
theorem V1.inst {views:List (List Int)} {i e:Int} {its:List AI} (h:Jn its (1000*e)) (hv:e<=(views.length:Int)/\(views.getD (e-1).toNat []).contains i=true):V1 views (i,e,false,true,false,false,([]:List Int),its,(0:Int),(0:Int),(0:Int),(0:Int),(ByteArray.empty,ByteArray.empty,(0:Int)),([]:List Int)) :=
 ⟨fun h=>(by cases h),h.mono (by show _<=1000*e+900; omega),fun h=>(by cases h),fun h=>absurd rfl h,fun _=>hv⟩
theorem aA {views:List (List Int)} {i e:Int} (hv:Rd views) (h1:1<=e) (he:e<=(views.length:Int)) (hf:OE views e=i):(views.getD (e-1).toNat []).contains i=true:=by
 have g:=hv.get (i:=(e-1).toNat) (by omega)
 rw [<- hf,List.contains_iff_mem,OE,AZ (show 0<(views.getD (e-1).toNat []).length by omega)]
 exact List.getElem_mem _
theorem V1.has {views:List (List Int)} {m:Y} {view:List Int} {its:List AI} (hv:Rd views) (h1:1<=m.2.1) (hl:m.2.2.2.2.1=true) (h:V1 views m) (hc:0<=m.2.2.2.2.2.2.2.2.1) (hi:Jn its (1000*m.2.1)):V1 views (Ub m view its) :=
 ⟨h.lead,hi.mono (by show _<=1000*m.2.1+900; omega),fun _ _=>hi.mono (by show _<=1000*m.2.1+m.2.2.2.2.2.2.2.2.1; omega),h.task,fun _=>⟨(h.lead hl).1,aA hv h1 (h.lead hl).1 (h.lead hl).2⟩⟩
theorem V2.insts {views:List (List Int)} {i e:Int} {l:List Int} {its:List AI} (h:Jn its (1000*e)):∀ y∈l.map (fun v=>((3:Int),i,v,e,(0:Int),its)),V2 views y:=by
 intro y hy
 obtain ⟨v,_,rfl⟩:=List.mem_map.1 hy
 exact ⟨fun _=>rfl,fun _=>h,fun h5=>absurd h5 (by decide:(3:Int)≠5)⟩
theorem V2.reply {views:List (List Int)} {m:Y} {x:B0} {k:Int} (hk:k=4\/k=6\/k=8):∀ y∈Gu m x k,V2 views y:=by
 intro y hy
 simp only [Gu,List.mem_singleton] at hy
 subst hy
 exact V2.plain (by show k≠2; omega) (by show k≠3; omega) (by show k≠5; omega)
theorem fk {views:List (List Int)}:∀ y∈([]:List B0),V2 views y:=fun y hy=>by cases hy
def V4 (views:List (List Int)) (n:Y) (told:List B0):Prop:=V1 views n/\∀ y∈told,V2 views y
theorem V4.same {views:List (List Int)} {m:Y} (h:V1 views m):V4 views m []:=⟨h,fk⟩
theorem jE {views:List (List Int)} {m:Y} (h:V1 views m) (hc:m.2.2.2.2.2.2.2.2.1<=900) (h0:m.2.2.2.2.2.2.2.2.2.1≠0) (f:Int):V4 views (HE m f).1 (HE m f).2.1:=by
 have hl:V1 views (bX m f):=⟨h.lead,h.ver,h.own,h.task,h.view⟩
 unfold HE
 split
 ·exact ⟨hl.finish hc h0,fk⟩
 ·exact .same hl
theorem mZ {views:List (List Int)} {m:Y} {x:B0} (hv:Rd views) (hlen:m.2.1<=(views.length:Int)) (hm:Ip m) (h:V1 views m) (hx:V2 views x) (hxo:gy x) (ht:x.2.2.1=m.1) (he:x.2.2.2.1=m.2.1):V4 views (Uc m (views.getD (m.2.1-1).toNat []) x).1 (Uc m (views.getD (m.2.1-1).toNat []) x).2.1:=by
 have hcnt:=hm.count
 unfold Uc
 by_cases k2:x.1=2
 ·rw [if_pos k2]
  split
  ·rename_i hc
   simp only [Bool.and_eq_true] at hc
   have:=hx.old (.inl k2)
   rw [he] at this
   exact ⟨V1.has hv hm.ep.1 hc.1 h hcnt.1 this,V2.insts this⟩
  ·exact .same h
 rw [if_neg k2]
 by_cases k3:x.1=3
 ·rw [if_pos k3]
  split
  ·exact .same h
  ·rename_i hc
   split
   ·exact .same h
   ·split
    ·exact ⟨h,V2.reply (.inl rfl)⟩
    ·have:=hx.old (.inr k3)
     rw [he] at this
     refine ⟨V1.inst this ⟨hlen,?_⟩,V2.reply (.inl rfl)⟩
     cases q:(views.getD (m.2.1-1).toNat []).contains m.1 with
     | true=>rfl
     | false=>rw [q] at hc; exact absurd rfl hc
 rw [if_neg k3]
 by_cases k4:x.1=4
 ·rw [if_pos k4]
  split
  ·exact .same ⟨h.lead,h.ver,h.own,h.task,h.view⟩
  ·exact .same h
 rw [if_neg k4]
 by_cases k5:x.1=5
 ·rw [if_pos k5]
  split
  ·obtain ⟨s1,s2⟩:=hx.store k5
   have hlen:x.2.2.2.2.2.length=1:=by
    have:=hxo.shape
    rw [if_neg (by omega),if_pos k5] at this
    exact this
   have hit:(x.2.2.2.2.2.getD 0 (ByteArray.empty,ByteArray.empty,(0:Int))).2.2<=1000*m.2.1+900:=by
    rw [AZ (show 0<x.2.2.2.2.2.length by omega),<- he]
    exact s2 _ (List.getElem_mem _)
   refine ⟨⟨h.lead,h.ver.put hit,fun h1 h2=>?_,h.task,h.view⟩,V2.reply (.inr (.inl rfl))⟩
   exact absurd (h.lead h1).2 (by rw [<- he,<- ht]; exact Ne.symm s1)
  ·exact .same h
 rw [if_neg k5]
 by_cases k7:x.1=7
 ·rw [if_pos k7]
  split
  ·exact ⟨h,V2.reply (.inr (.inr rfl))⟩
  ·exact .same h
 rw [if_neg k7]
 by_cases hc:(x.1=6\/x.1=8)/\m.2.2.2.2.2.2.2.2.2.1=(if x.1=8 then 2 else 1)/\m.2.2.2.2.2.2.2.2.2.2.2.1=x.2.2.2.2.1
 ·rw [if_pos hc]
  exact jE h hcnt.2 (by have:=hc.2.1; split at this<;>omega) _
 ·rw [if_neg hc]
  exact .same h
theorem jF {views:List (List Int)} {m:Y} {x:B0} (hv:Rd views) (hm:Ip m) (h:V1 views m) (hx:V2 views x):V4 views (Db m views x).1 (Db m views x).2.1:=by
 unfold Db
 split
 ·rename_i hc
  simp only [Bool.and_eq_true,decide_eq_true_eq,beq_iff_eq] at hc
  obtain ⟨⟨⟨hmo,h1⟩,h2⟩,h3⟩:=hc
  split
  ·rename_i he
   exact mZ hv (by omega) hm h hx (S8.1 hmo) h1 he
  ·split
   ·rename_i hs
    simp only [Bool.and_eq_true,beq_iff_eq] at hs
    refine ⟨h.bare h2,fun y hy=>?_⟩
    simp only [List.mem_singleton] at hy
    subst hy
    refine ⟨fun h3=>absurd h3 (by decide:(2:Int)≠3),fun _=>h.ver.mono ?_,fun h5=>absurd h5 (by decide:(2:Int)≠5)⟩
    show _<=1000*x.2.2.2.1
    omega
   ·split
    ·rename_i hs
     simp only [Bool.and_eq_true,beq_iff_eq] at hs
     exact ⟨V1.inst (hx.old (.inr hs.1.1)) ⟨h3,hs.1.2⟩,V2.reply (.inl rfl)⟩
    ·exact .same h
 ·exact .same h
theorem ko {view:List Int} {i v:Int} (h:v∈B8 view i):v≠i:=by
 have:=(List.mem_filter.1 h).2
 simpa using this
theorem kq {views:List (List Int)} {m:Y} {op call:Int} {key val:ByteArray} (hm:Ip m) (h:V1 views m) (hb:(GS m views op call key val).2.2.2=true) :
  V4 views (GS m views op call key val).1 (GS m views op call key val).2.1:=by
 have hcnt:=hm.count
 unfold GS at hb ⊢
 split at hb
 ·rename_i hmay
  rw [if_pos hmay]
  obtain ⟨h1,h2,h3,h4,h5,h6,h7,h8,h9,h10⟩:=S_ hmay
  split at hb
  ·cases hb
  ·rename_i hn
   rw [if_neg hn]
   have ht:V1 views (MO m (views.getD (m.2.1-1).toNat []) op call key val):=by
    refine ⟨h.lead,h.ver,fun a b=>(h.own a b).mono ?_,fun _=>?_,h.view⟩
    ·show _<=1000*m.2.1+(m.2.2.2.2.2.2.2.2.1+1); omega
    ·show 1000*m.2.1+(m.2.2.2.2.2.2.2.2.1+1)<=1000*m.2.1+(m.2.2.2.2.2.2.2.2.1+1); omega
   unfold Ue
   split
   ·exact ⟨ht.finish (by show m.2.2.2.2.2.2.2.2.1+1<=900; omega) (by show op≠0; omega),fk⟩
   ·refine ⟨ht,fun y hy=>?_⟩
    obtain ⟨v,hv,rfl⟩:=List.mem_map.1 hy
    have hne:=ko hv
    by_cases ho:op=1
    ·rw [if_pos ho,if_pos ho]
     refine ⟨fun h3=>absurd h3 (by decide:(5:Int)≠3),fun h=>absurd h (by decide:¬ ((5:Int)=2\/(5:Int)=3)),fun _=>⟨fun e=>hne (e.trans ?_),fun z hz=>?_⟩⟩
     ·exact h10
     ·simp only [List.mem_singleton] at hz
      subst hz
      show 1000*m.2.1+(m.2.2.2.2.2.2.2.2.1+1)<=1000*m.2.1+900
      omega
    ·rw [if_neg ho,if_neg ho]
     exact V2.plain (by decide:(7:Int)≠2) (by decide:(7:Int)≠3) (by decide:(7:Int)≠5)
 ·cases hb
theorem ku {views:List (List Int)} {m:Y} {e:Int} (hvo:Rd views) (h:V1 views m) (hb:(E3 m views e).2.2=true):V4 views (E3 m views e).1 (E3 m views e).2.1:=by
 unfold E3 at hb ⊢
 split at hb
 ·rename_i hc
  rw [if_pos hc]
  have hv:Jn m.2.2.2.2.2.2.2.1 (1000*e):=h.ver.mono (by omega)
  have hn:V1 views (Na m e):=⟨fun _=>⟨hc.2.1,hc.2.2.2⟩,hv.mono (by show _<=1000*e+900; omega),fun _ h=>(by cases h),fun h=>absurd rfl h,fun h=>(by cases h)⟩
  split
  ·exact ⟨V1.has hvo (by show 1<=e; omega) rfl hn (by show (0:Int)<=0; omega) hv,V2.insts hv⟩
  ·refine ⟨hn,fun y hy=>?_⟩
   obtain ⟨v,hv,rfl⟩:=List.mem_map.1 hy
   exact V2.plain (by decide:(1:Int)≠2) (by decide:(1:Int)≠3) (by decide:(1:Int)≠5)
 ·cases hb
theorem V1.fall {views:List (List Int)} {m:Y}:V1 views (RC m):=⟨fun h=>(by cases h),XI,fun h=>(by cases h),fun h=>absurd rfl h,fun h=>(by cases h)⟩
theorem V1.first {views:List (List Int)} {i:Int} (hv:Rd views):V1 views (D3 i views):=by
 have:=hv.len
 refine ⟨fun h=>⟨by show (1:Int)<=_; omega,?_⟩,XI,fun _ _=>XI,fun h=>absurd rfl h,fun h=>⟨by show (1:Int)<=_; omega,h⟩⟩
 exact beq_iff_eq.1 h
structure V3 (g:AR):Prop where
 mem:∀ i,i<6->V1 g.1 (CK g i)
 fly:∀ x∈g.2.2.1,V2 g.1 x
 calls:∀ c∈g.2.2.2,c.2.2.2.2.1=-1\/0<=c.2.2.2.2.1
theorem fF {at_:Int} (ha:0<=at_) (s:E5) {cs:List LO} (h:∀ c∈cs,c.2.2.2.2.1=-1\/0<=c.2.2.2.2.1):∀ c∈LP at_ cs s,c.2.2.2.2.1=-1\/0<=c.2.2.2.2.1:=by
 unfold LP
 split
 ·exact h
 ·intro c hc
  rcases List.mem_or_eq_of_mem_set hc with e | e
  ·exact h c e
  ·rw [e]; exact .inr ha
theorem Xm {at_:Int} (ha:0<=at_):∀ (said:List E5) {cs:List LO},(∀ c∈cs,c.2.2.2.2.1=-1\/0<=c.2.2.2.2.1)->∀ c∈said.foldl (LP at_) cs,c.2.2.2.2.1=-1\/0<=c.2.2.2.2.1
 | [],_,h=>h
 | s::l,_,h=>Xm ha l (fF ha s h)
theorem V3.member {g:AR} (h:V3 g) (h6:g.2.1.length=6) {n:Y} {told:List B0} {said:List E5} {at_:Int} {i:Nat} (ha:0<=at_) (hi:i<6) (hid:n.1=(i:Int)+1) (hn:V4 g.1 n told):V3 (A_ g n told said at_):=by
 refine ⟨fun j hj=>?_,fun x hx=>?_,Xm ha said h.calls⟩
 ·rw [Z_ h6 hj hid hi]
  split
  ·exact hn.1
  ·exact h.mem j hj
 ·rcases List.mem_append.1 hx with h1 | h1
  ·exact h.fly x h1
  ·exact hn.2 x h1
theorem V3.less {g:AR} (h:V3 g) (i:Nat):V3 (ES g i):=⟨h.mem,fun x hx=>by
 rcases List.mem_append.1 hx with h1 | h1
 ·exact h.fly x (List.mem_of_mem_take h1)
 ·exact h.fly x (List.mem_of_mem_drop h1),h.calls⟩
theorem V3.call {g:AR} (h:V3 g) (at_:Int) (e:EQ):V3 (Gv g at_ e):=⟨h.mem,h.fly,fun c hc=>by
 rcases List.mem_append.1 hc with h1 | h1
 ·exact h.calls c h1
 ·simp only [List.mem_singleton] at h1
  rw [h1]; exact .inl rfl⟩
theorem V3.adopt {g:AR} {k:Nat} (h:V3 g) (hg:Mk g k) {at_ node:Int} (ha:0<=at_) (hn:1<=node/\node<=6):∀ (n:Nat) (e:Int),V3 (IU g at_ (CK g (node-1).toNat) node n e).2
 | 0,_=>h
 | n+1,e=>by
  unfold IU
  split
  ·exact V3.adopt h hg ha hn n (e+1)
  ·split
   ·rename_i hb
    obtain ⟨m1,m2⟩:=hg.mem (node-1).toNat (by omega)
    have hao:=TA (e:=e) m1 hg.views hb
    exact h.member hg.six (i:=(node-1).toNat) ha (by omega) (by rw [hao.2.1,m2]) (ku hg.views (h.mem _ (by omega)) hb)
   ·exact h
theorem V3.event {g:AR} {k:Nat} (h:V3 g) (hg:Mk g k) {at_:Int} (ha:0<=at_) {e:EQ} (he:XE e=true):V3 (dI g at_ e).2:=by
 have hn:=Yl he
 unfold dI
 split
 ·unfold Lq
  split
  ·rename_i hb
   obtain ⟨m1,m2⟩:=hg.mem (e.2.1-1).toNat (by omega)
   have hbo:=XH (op:=e.2.2.2.1) (call:=(g.2.2.2.length:Int)) (key:=e.2.2.2.2.1) (val:=e.2.2.2.2.2) m1 hg.views
   exact (h.call at_ e).member (g:=Gv g at_ e) hg.six (i:=(e.2.1-1).toNat) ha (by omega) (by rw [hbo.id hb,m2]) (kq m1 (h.mem _ (by omega)) hb)
  ·exact h.call at_ e
 ·split
  ·exact h.adopt hg ha (by omega) _ _
  ·split
   ·obtain ⟨m1,m2⟩:=hg.mem (e.2.1-1).toNat (by omega)
    exact h.member hg.six (i:=(e.2.1-1).toNat) ha (by omega) m2 ⟨V1.fall,fk⟩
   ·unfold au
    split
    ·exact h
    ·rename_i hne
     have hl:0<g.2.2.1.length:=by
      cases hq:g.2.2.1 with
      | nil=>exact absurd hq hne
      | cons a l=>simp
     have hlt:(e.2.2.1 % (g.2.2.1.length:Int)).toNat<g.2.2.1.length:=by
      have h1:=Int.emod_lt_of_pos e.2.2.1 (show (0:Int)<(g.2.2.1.length:Int) by omega)
      have h2:=Int.emod_nonneg e.2.2.1 (show (g.2.2.1.length:Int)≠0 by omega)
      omega
     have hmem:g.2.2.1.getD (e.2.2.1 % (g.2.2.1.length:Int)).toNat ER∈g.2.2.1:=by
      rw [AZ hlt]
      exact List.getElem_mem _
     split
     ·refine ⟨h.mem,fun x hx=>?_,h.calls⟩
      rcases List.mem_append.1 hx with h1 | h1
      ·exact h.fly x h1
      ·simp only [List.mem_singleton] at h1
       rw [h1]
       exact h.fly _ hmem
     ·split
      ·exact h.less _
      ·have hto:=(hg.fly _ hmem).to
       generalize hx:g.2.2.1.getD (e.2.2.1 % (g.2.2.1.length:Int)).toNat ER=x at *
       obtain ⟨m1,m2⟩:=hg.mem (x.2.2.1-1).toNat (by omega)
       exact (h.less _).member (g:=ES g (e.2.2.1 % (g.2.2.1.length:Int)).toNat) hg.six (i:=(x.2.2.1-1).toNat) ha (by omega) (by rw [(NS (x:=x) m1 hg.views).id,m2]) (jF hg.views m1 (h.mem _ (by omega)) (h.fly _ hmem))
theorem V3.new {views:List (List Int)} (hv:Rd views):V3 (Aq views):=by
 refine ⟨fun i hi=>?_,(fun x hx=>by cases hx),fun x hx=>by cases hx⟩
 have h5:i=0\/i=1\/i=2\/i=3\/i=4\/i=5:=by omega
 rcases h5 with rfl | rfl | rfl | rfl | rfl | rfl<;>exact V1.first hv

theorem V_ (a b:Int):JS a b=some (decide (a<b)):=Z1 (by
 have h:∀ a,Hu a=some false:=fun a=>YU (by unfold RB; simp)
 unfold Se
 rw [h,X,if_neg (by simp)])
def dA (l:List Int) (j:Nat):List Int:=(l.set (j+1) (l.getD j 0)).set j (l.getD (j+1) 0)
def jG:Nat->List Int->List Int
 | 0,l=>l
 | j+1,l=>if l.getD (j+1) 0<l.getD j 0 then jG j (dA l j) else l
def mH:Nat->Nat->List Int->List Int
 | 0,_,l=>l
 | k+1,i,l=>mH k (i+1) (jG i l)
theorem WA (l:List Int) (j:Nat):(dA l j).length=l.length:=by simp [dA]
theorem Ym:∀ (j:Nat) (l:List Int),(jG j l).length=l.length
 | 0,l=>rfl
 | j+1,l=>by
  unfold jG
  split
  ·rw [Ym j,WA]
  ·rfl
theorem g8 {l:List Int} {j:Nat} (h:j+1<l.length):(dA l j).Perm l:=by
 obtain ⟨p,a,b,q,rfl,rfl⟩:∃ p a b q,l=p++a::b::q/\p.length=j :=
  ⟨l.take j,l[j],l[j+1],l.drop (j+2),by rw [<- List.drop_eq_getElem_cons h,<- List.drop_eq_getElem_cons (show j<l.length by omega),List.take_append_drop],by rw [List.length_take]; omega⟩
 have e:dA (p++a::b::q) p.length=p++b::a::q:=by
  unfold dA
  have e1:(p++a::b::q).getD p.length 0=a:=by simp [List.getD]
  have e2:(p++a::b::q).getD (p.length+1) 0=b:=by simp [List.getD]
  rw [e1,e2,List.set_append_right _ _ (by omega),List.set_append_right _ _ (by omega)]
  simp
 rw [e]
 exact List.Perm.append_left p (List.Perm.swap a b q)
theorem eB:∀ (j:Nat) (l:List Int),j<l.length->(jG j l).Perm l
 | 0,l,_=>List.Perm.refl l
 | j+1,l,h=>by
  unfold jG
  split
  ·exact (eB j _ (by rw [WA]; omega)).trans (g8 h)
  ·exact List.Perm.refl l
theorem aB:∀ (k i:Nat) (l:List Int),i+k=l.length->(mH k i l).Perm l
 | 0,_,l,_=>List.Perm.refl l
 | k+1,i,l,h=>(aB k (i+1) _ (by rw [Ym]; omega)).trans (eB i l (by omega))
theorem fm {l:List Int} {j:Nat} (h:j+1<l.length) (a:Nat):(dA l j).getD a 0=if a=j then l.getD (j+1) 0 else if a=j+1 then l.getD j 0 else l.getD a 0:=by
 unfold dA
 simp only [List.getD_eq_getElem?_getD,List.getElem?_set,List.length_set]
 by_cases h1:a=j
 ·subst h1
  rw [if_pos rfl,if_pos (by omega),if_pos rfl]
  simp
 ·rw [if_neg (fun e=>h1 e.symm),if_neg h1]
  by_cases h2:a=j+1
  ·subst h2
   rw [if_pos rfl,if_pos (by omega),if_pos rfl]
   simp
  ·rw [if_neg (fun e=>h2 e.symm),if_neg h2]
def mB (i:Nat) (l:List Int):Prop:=∀ a b,a<b->b<=i->l.getD a 0<=l.getD b 0
theorem jH (i:Nat):∀ (j:Nat) (l:List Int),j<=i->i<l.length->(∀ a b,a<b->b<=i->b≠j->l.getD a 0<=l.getD b 0)->mB i (jG j l)
 | 0,l,_,_,h=>fun a b h1 h2=>h a b h1 h2 (by omega)
 | j+1,l,hj,hi,h=>by
  unfold jG
  split
  ·rename_i hlt
   refine jH i j _ (by omega) (by rw [WA]; exact hi) fun a b h1 h2 h3=>?_
   rw [fm (by omega),fm (by omega)]
   rw [if_neg h3]
   by_cases hb:b=j+1
   ·subst hb
    rw [if_pos rfl]
    by_cases ha:a=j
    ·rw [if_pos ha]; omega
    ·rw [if_neg ha,if_neg (by omega)]
     exact h a j (by omega) (by omega) (by omega)
   ·rw [if_neg hb]
    by_cases ha:a=j
    ·rw [if_pos ha]; exact h (j+1) b (by omega) h2 hb
    ·rw [if_neg ha]
     by_cases ha2:a=j+1
     ·rw [if_pos ha2]; exact h j b (by omega) h2 hb
     ·rw [if_neg ha2]; exact h a b h1 h2 hb
  ·rename_i hlt
   intro a b h1 h2
   by_cases hb:b=j+1
   ·subst hb
    by_cases ha:a=j
    ·subst ha; omega
    ·have:=h a j (by omega) (by omega) (by omega)
     omega
   ·exact h a b h1 h2 hb
theorem jI:∀ (k i:Nat) (l:List Int),i+k=l.length->1<=i->mB (i-1) l->mB (l.length-1) (mH k i l)
 | 0,i,l,h,hi,hu=>by
  have:i-1=l.length-1:=by omega
  rw [<- this]; exact hu
 | k+1,i,l,h,hi,hu=>by
  have:=jI k (i+1) (jG i l) (by rw [Ym]; omega) (by omega) (by
   rw [Nat.add_sub_cancel]
   exact jH i i l (Nat.le_refl _) (by omega) fun a b h1 h2 h3=>hu a b h1 (by omega))
  rw [Ym] at this
  exact this
theorem fo (n i:Nat) (hn:n<=12) (g:List Int->List Int) (K:∀ l:List Int,l.length=n->Al 0 (n:Int) ((i:Int)+1) l=some (g l)) (hi:i<n) :
  ∀ (j:Nat) (l:List Int),j<n->l.length=n->BZ 0 (n:Int) (i:Int) (j:Int) l=some (g (jG j l))
 | 0,l,hj,hl=>Dr (by
  unfold CO
  rw [if_neg (by simp),Az (by omega)]
  exact K l hl)
 | j+1,l,hj,hl=>Dr (by
  unfold CO
  have e1:IntKind.i64.wrap (((j+1:Nat):Int)-1)=(j:Int):=by rw [Az (by omega)]; omega
  have e2:((j+1:Nat):Int).toNat=j+1:=by omega
  have e3:((j:Nat):Int).toNat=j:=by omega
  rw [if_pos (by simp<;>omega),if_pos (by omega),if_pos (by omega),e1,if_pos (by omega),if_pos (by omega),V_,X,e2,e3]
  unfold jG
  by_cases h:l.getD (j+1) 0<l.getD j 0
  ·rw [if_pos (by simpa using h),if_pos h]
   refine HZ ?_
   unfold Dq
   simp only [e1,e2,e3]
   rw [if_pos (by omega),if_pos (by omega),if_pos (by omega),if_pos (by omega),if_pos (by omega),if_pos (by omega),if_pos (by omega),if_pos (by rw [List.length_set]; omega)]
   exact fo n i hn g K hi j (dA l j) (by omega) (by rw [WA]; exact hl)
  ·rw [if_neg (by simpa using h),if_neg h,Az (by omega)]
   exact K l hl)
theorem fp (n:Nat) (hn:n<=12):∀ (k i:Nat) (l:List Int),i+k=n->l.length=n->Al 0 (n:Int) (i:Int) l=some (mH k i l)
 | 0,i,l,h,hl=>CP (by
  unfold Ba
  rw [if_neg (by simp; omega)]
  rfl)
 | k+1,i,l,h,hl=>CP (by
  unfold Ba
  rw [if_pos (by simp; omega)]
  exact fo n i hn (mH k (i+1)) (fun l hl=>by have:=fp n hn k (i+1) l (by omega) hl; rw [<- this]; congr 1) (by omega) i l (by omega) hl)
set_option maxRecDepth 100000 in
theorem mC (n:Nat) (h:n<=12):∃ r,LY (IntKind.u64.wrap (n:Int))=some r:=by
 have h1:∃ r,Ex (n:Int) 0=some r:=by
  have hs:IntKind.u8.wrap (n:Int)=(n:Int):=by
   have:n=0\/n=1\/n=2\/n=3\/n=4\/n=5\/n=6\/n=7\/n=8\/n=9\/n=10\/n=11\/n=12:=by omega
   rcases this with h | h | h | h | h | h | h | h | h | h | h | h | h<;>subst h<;>rfl
  have ht:∃ r,Gs (n:Int) 0=some r:=by
   unfold Gs
   rw [if_neg (by simp; omega),if_pos (by rw [hs]; omega),if_pos (by
    rw [hs]
    exact Int.lt_of_lt_of_le (show (n:Int)<13 by omega) (by decide))]
   exact ⟨_,rfl⟩
  obtain ⟨r,hr⟩:=ht
  exact ⟨r,Sf hr⟩
 obtain ⟨r,hr⟩:=h1
 have h2:JT (n:Int)=some r:=V5 (by
  unfold OC
  rw [if_neg (by simp; omega)]
  exact Sg (by
   unfold LL
   rw [if_neg (by simp; omega)]
   exact hr))
 have hu:IntKind.u64.wrap (n:Int)=(n:Int):=by
  have:n=0\/n=1\/n=2\/n=3\/n=4\/n=5\/n=6\/n=7\/n=8\/n=9\/n=10\/n=11\/n=12:=by omega
  rcases this with h | h | h | h | h | h | h | h | h | h | h | h | h<;>subst h<;>rfl
 exact ⟨r,YT (by unfold RA; rw [hu,h2]; rfl)⟩
theorem fq (l:List Int) (h:l.length<=12):∃ r,CU l=some r/\r.Perm l/\r.Pairwise (· <= ·):=by
 obtain ⟨b,hb⟩:=mC l.length h
 have hins:∃ r,Co 0 (l.length:Int) l=some r/\r.Perm l/\r.Pairwise (· <= ·):=by
  by_cases h0:l.length=0
  ·have:l=[]:=List.length_eq_zero_iff.1 h0
   subst this
   refine ⟨[],Ec ?_,List.Perm.refl _,List.Pairwise.nil⟩
   unfold Cp
   refine CP ?_
   unfold Ba
   rw [if_neg (by rw [Az (by omega)]; simp)]
  ·refine ⟨mH (l.length-1) 1 l,Ec ?_,aB _ _ _ (by omega),?_⟩
   ·unfold Cp
    rw [Az (by omega)]
    exact fp l.length h (l.length-1) 1 l (by omega) rfl
   ·have hu:=jI (l.length-1) 1 l (by omega) (Nat.le_refl _) (fun a b h1 h2=>by omega)
    have hp:=(aB (l.length-1) 1 l (by omega)).length_eq
    rw [List.pairwise_iff_getElem]
    intro i j hi hj hij
    have:=hu i j hij (by omega)
    rwa [AZ hi,AZ hj] at this
 obtain ⟨r,h1,h2,h3⟩:=hins
 refine ⟨r,RW ?_,h2,h3⟩
 unfold KB
 have hq:B5 0 (l.length:Int) b l=some r:=Me (by
  unfold Ga
  refine Kc ?_
  unfold FS
  rw [if_pos (by rw [Az (by omega)]; simp; omega),h1]
  rfl)
 rw [hb,X,hq]
 rfl
theorem fu:∀ {a b:List Int},a.Pairwise (· < ·)->b.Pairwise (· < ·)->(∀ x,x∈a↔x∈b)->a=b
 | [],[],_,_,_=>rfl
 | [],y::b,_,_,h=>absurd ((h y).2 (by simp)) (by simp)
 | x::a,[],_,_,h=>absurd ((h x).1 (by simp)) (by simp)
 | x::a,y::b,ha,hb,h=>by
  rw [List.pairwise_cons] at ha hb
  have hxy:x=y:=by
   have h1:=(h x).1 (by simp)
   have h2:=(h y).2 (by simp)
   rcases List.mem_cons.1 h1 with e | h1
   ·exact e
   ·rcases List.mem_cons.1 h2 with e | h2
    ·exact e.symm
    ·have:=ha.1 y h2
     have:=hb.1 x h1
     omega
  subst hxy
  rw [fu ha.2 hb.2 fun z=>?_]
  constructor
  ·intro hz
   rcases List.mem_cons.1 ((h z).1 (by simp [hz])) with e | h
   ·subst e; have:=ha.1 z hz; omega
   ·exact h
  ·intro hz
   rcases List.mem_cons.1 ((h z).2 (by simp [hz])) with e | h
   ·subst e; have:=hb.1 z hz; omega
   ·exact h
theorem aC {view:List Int} {id x:Int} (hv:kh view):x∈EP view id↔x∈B8 view id:=by
 unfold EP B8
 simp only [List.mem_filter,Bool.and_eq_true,List.contains_eq_mem,decide_eq_true_eq]
 constructor
 ·rintro ⟨_,h1,h2⟩; exact ⟨h2,h1⟩
 ·rintro ⟨h1,h2⟩
  have:=hv.mem x h1
  refine ⟨?_,h2,h1⟩
  have h5:x=1\/x=2\/x=3\/x=4\/x=5\/x=6:=by omega
  rcases h5 with h | h | h | h | h | h<;>simp [h]
theorem XJ {view:List Int} (hv:kh view) (id:Int):CU (B8 view id)=some (EP view id):=by
 have hl:=Fx view id
 have:=hv.len
 obtain ⟨r,h1,h2,h3⟩:=fq (B8 view id) (by omega)
 rw [h1]
 congr 1
 have hnd:r.Nodup:=h2.nodup_iff.2 (hv.nd.filter _)
 refine fu ?_ (P6 view id).2 fun x=>(h2.mem_iff).trans (aC hv).symm
 have:=h3.and (List.nodup_iff_pairwise_ne.1 hnd)
 exact this.imp fun {a b} h=>by have:=h.1; have:=h.2; omega
theorem Xn {view:List Int} (hv:kh view) (id:Int):(EP view id).length=(B8 view id).length:=by
 obtain ⟨r,h1,h2,_⟩:=fq (B8 view id) (by have:=Fx view id; have:=hv.len; omega)
 rw [XJ hv] at h1
 cases h1
 exact h2.length_eq

theorem OF (x:List Int) (n:Int) (h:x.length<=maxLen):Bn x n=some (x.contains n):=NW (by
 have hm:x.length<=9223372036854775807:=h
 have key:=NZ (n:=x.length) (P:=fun i=>∃ r,CM x n (x.length:Int) (i:Int)=some r/\(decide (r>=0)=(x.drop i).contains n)) ⟨-1,Bo (by
  unfold BM
  rw [if_neg (by simp)]),by simp⟩ (fun i hi ⟨r,hr,hc⟩=>by
  by_cases e:n=x[i]
  ·refine ⟨(i:Int),Bo ?_,?_⟩
   ·unfold BM
    simp only [show ((i:Int)<(x.length:Int)) from by omega,decide_true,if_true,show (0:Int)<=(i:Int) from by omega,Int.toNat_natCast,AZ hi]
    rw [if_pos (by simpa using e)]
   ·rw [EF hi,List.contains_cons,e]
    simp only [beq_self_eq_true,Bool.true_or]
    exact decide_eq_true (by omega)
  ·refine ⟨r,Bo ?_,?_⟩
   ·unfold BM
    simp only [show ((i:Int)<(x.length:Int)) from by omega,decide_true,if_true,show (0:Int)<=(i:Int) from by omega,Int.toNat_natCast,AZ hi,Ae (show i<9223372036854775807 by omega)]
    rw [if_neg (by simpa using e)]
    exact hr
   ·rw [EF hi,hc,List.contains_cons]
    simp [e]) 0 (by omega)
 obtain ⟨r,hr,hc⟩:=key
 unfold HG
 have:Ct x n=some r:=Jh hr
 rw [this,X,hc,List.drop_zero])
theorem So (m:Y) (h1:m.2.2.2.2.2.2.1.length<=68719476736) (h2:m.2.2.2.2.2.2.2.1.length<=68719476736) (h3:m.2.2.2.2.2.2.2.2.2.2.2.2.2.length<=68719476736):CS m=some m:=Vq (by
 unfold N7
 rw [CI h1,X,Ap h2,X,CI h3,X])
theorem Ip.icopy {m:Y} (h:Ip m):CS m=some m:=by
 obtain ⟨h1,h2,h3⟩:=h.lens
 exact So m (by omega) (by omega) (by omega)
theorem Jo (x:B0) (h:x.2.2.2.2.2.length<=68719476736):FM x=some x:=Zu (by
 unfold SV
 rw [Ap h,X])
theorem Kg (view:List Int) (m:Y) (h:view.length<=68719476736):Bk view m=some (B8 view m.1,m):=Sa (by
 unfold LI
 have key:=NZ (n:=view.length) (P:=fun i=>∀ acc:List Int,acc.length<=i->Cm view (view.length:Int) (i:Int) m acc=some (acc++(view.drop i).filter (· != m.1),m)) (fun acc ha=>Ik (by
  unfold FP
  rw [if_neg (by simp)]
  simp)) (fun i hi ih acc ha=>Ik (by
  unfold FP
  simp only [show ((i:Int)<(view.length:Int)) from by omega,decide_true,if_true,show (0:Int)<=(i:Int) from by omega,Int.toNat_natCast,AZ hi,Ae (show i<9223372036854775807 by omega)]
  rw [EF hi,List.filter_cons]
  by_cases hh:(view[i] != m.1)=true
  ·rw [if_pos hh,if_pos (by simp; omega),ih _ (by simp; omega),if_pos hh,List.append_assoc]
   rfl
  ·rw [if_neg hh,ih _ (by omega),if_neg hh])) 0 (by omega) [] (by simp)
 exact key)
def fw (m:Y) (ids:List Int) (x:B0):List B0:=ids.map fun v=>(x.1,m.1,v,m.2.1,x.2.2.2.2)
theorem B7 (ids:List Int) (x:B0) (m:Y) (h:ids.length<=68719476736) (hx:x.2.2.2.2.2.length<=68719476736):Ac ids x m=some (fw m ids x,m):=RX (by
 unfold KD
 have key:=NZ (n:=ids.length) (P:=fun i=>∀ acc:List B0,acc.length<=i->DN ids (ids.length:Int) (i:Int) m x acc=some (acc++(ids.drop i).map (fun v=>(x.1,m.1,v,m.2.1,x.2.2.2.2)),m)) (fun acc ha=>Hh (by
  unfold E2
  rw [if_neg (by simp)]
  simp)) (fun i hi ih acc ha=>Hh (by
  unfold E2
  simp only [show ((i:Int)<(ids.length:Int)) from by omega,decide_true,if_true,show (0:Int)<=(i:Int) from by omega,Int.toNat_natCast,AZ hi,Ae (show i<9223372036854775807 by omega)]
  rw [Jo x hx,X,if_pos (by simp; omega),ih _ (by simp; omega),EF hi,List.map_cons,List.append_assoc]
  rfl)) 0 (by omega) [] (by simp)
 exact key)
def mw (m:Y):Y:=(m.1,m.2.1,m.2.2.1,m.2.2.2.1,false,false,([]:List Int),m.2.2.2.2.2.2.2.1,(0:Int),(0:Int),(0:Int),(0:Int),(ByteArray.empty,ByteArray.empty,(0:Int)),([]:List Int))
theorem OU (m:Y):Es m=some (mw m):=Vy rfl
theorem NT (view:List Int) (its:List AI) (m:Y) (hv:kh view) (hi:its.length<=68719476736) (hs:m.2.2.2.2.2.1=false) :
  Cu view its m=some ((B8 view m.1).map (fun v=>(3,m.1,v,m.2.1,0,its)),Ub m view its):=P3 (by
 have hvl:=hv.len
 have hrl:=Fx view m.1
 unfold Jj
 rw [Kg view m (by omega),X,Ap hi,X,CI (by show (B8 view m.1).length<=_; omega),X,XJ hv,X]
 have ho:=Xn hv m.1
 unfold Ub
 rw [ho]
 by_cases h0:(B8 view m.1).length=0
 ·rw [if_pos (by simpa using h0),B7 _ _ _ (by show (B8 view m.1).length<=_; omega) hi,X,h0]
  rfl
 ·rw [if_neg (by simpa using h0),B7 _ _ _ (by show (B8 view m.1).length<=_; omega) hi,X]
  have:(((B8 view m.1).length:Int)==0)=false:=by simpa using h0
  rw [this]
  show some (_,(m.1,m.2.1,m.2.2.1,true,m.2.2.2.2.1,m.2.2.2.2.2.1,_))=_
  rw [hs]
  rfl)
theorem OG (v:List Int) (x:Int) (h:v.length<=68719476736):JQ v x=some (v.filter (· != x)):=Zz (by
 unfold Sb
 rw [CI h,X,Md,X]
 rfl)
theorem Sp (m:Y) (h:m.2.2.2.2.2.2.2.1.length<=34359738367):Fq m=some (Bt m):=UW (by
 unfold NO Bt
 rw [OD _ _ h,PH _ _ (by unfold maxLen; omega)]
 split
 ·rw [X]
  refine KC ?_
  unfold GQ
  rfl
 ·rw [X]
  refine KC ?_
  unfold GQ
  rfl)
def jJ (m:Y) (views:List (List Int)) (x:B0):List B0×Y :=
 if (x.2.2.2.1==m.2.1+1&&m.2.2.2.1&&(views.getD (m.2.1-1).toNat []).contains m.1)=true then ([(2,m.1,x.2.1,x.2.2.2.1,0,m.2.2.2.2.2.2.2.1)],Sk m x.2.2.2.1) else ([],m)
theorem aD (m:Y) (views:List (List Int)) (x:B0) (hm:Ip m) (hv:Rd views) (he:m.2.1<=views.length) :
  IJ views x m=some (jJ m views x):=UX (by
 have hvl:=hv.len
 have hep:=hm.ep
 obtain ⟨l1,l2,l3⟩:=hm.lens
 have hf:m.2.2.2.1=true->m.2.2.1=false:=fun h=>by
  cases hh:m.2.2.1 with
  | false=>rfl
  | true=>rw [(hm.fell hh).1] at h; cases h
 unfold NP jJ
 rw [Az (n:=m.2.1+1) (by omega),Az (n:=m.2.1-1) (by omega)]
 by_cases c1:x.2.2.2.1=m.2.1+1
 case neg=>rw [if_pos (by simpa using c1),if_neg (by simp [c1])]
 rw [if_neg (by simpa using c1)]
 by_cases c2:m.2.2.2.1=true
 case neg=>rw [if_pos (by simpa using c2),if_neg (by simp [c2])]
 rw [if_neg (by simpa using c2),if_pos (by omega),if_pos (by omega),OF _ _ (by have:=(hv.get (i:=(m.2.1-1).toNat) (by omega)).2; unfold maxLen; omega),X]
 cases c3:(views.getD (m.2.1-1).toNat []).contains m.1 with
 | false=>rw [if_pos (by rfl),if_neg (by simp)]
 | true =>
  rw [if_neg (by simp),if_pos (by simp [c1,c2])]
  exact RY (by
   unfold KF
   rw [OU,X,B7 _ _ _ (by simp) (by show m.2.2.2.2.2.2.2.1.length<=_; omega),X]
   show some (_,(m.1,x.2.2.2.1,m.2.2.1,_))=_
   rw [hf c2]
   rfl))
def jK (m:Y) (e:Int) (its:List AI):Y:=(m.1,e,false,true,false,false,([]:List Int),its,(0:Int),(0:Int),(0:Int),(0:Int),(ByteArray.empty,ByteArray.empty,(0:Int)),([]:List Int))
def jL (m:Y) (view:List Int) (x:B0):List B0×Y :=
 if (!view.contains m.1||(view.getD 0 0==m.1))=true then ([],m)
 else if x.2.2.2.1>m.2.1\/(m.2.2.2.1=false/\m.2.2.1=false) then ([(4,m.1,x.2.1,x.2.2.2.1,0,([]:List AI))],jK m x.2.2.2.1 x.2.2.2.2.2)
 else if m.2.2.2.1=false then ([],m) else ([(4,m.1,x.2.1,m.2.1,0,([]:List AI))],m)
theorem WB (m:Y) (view:List Int) (x:B0) (hv:kh view) (hx:x.2.2.2.2.2.length<=68719476736) :
  GI view x m=some (jL m view x):=RZ (by
 have hvl:=hv.len
 unfold KG jL
 rw [OF _ _ (by unfold maxLen; omega),X]
 cases c3:view.contains m.1 with
 | false=>rw [if_pos (by rfl),if_pos (by rfl)]
 | true =>
  rw [if_neg (by simp),if_pos (by omega),if_pos (by omega)]
  by_cases c4:view.getD 0 0=m.1
  ·rw [if_pos (by simpa using c4),if_pos (by rw [c4]; simp)]
  ·rw [if_neg (by simpa using c4),if_neg (by have:(view.getD 0 0==m.1)=false:=(by simpa using c4); rw [this]; simp)]
   have J1:∀ b:Bool,CW b m x=some (if b=true then ([(4,m.1,x.2.1,x.2.2.2.1,0,([]:List AI))],jK m x.2.2.2.1 x.2.2.2.2.2) else if m.2.2.2.1=false then ([],m) else ([(4,m.1,x.2.1,m.2.1,0,([]:List AI))],m)):=fun b=>OQ (by
    unfold Hj
    cases b with
    | true =>
     rw [if_pos rfl,if_pos rfl,Ap hx,X,OU,X,B7 _ _ _ (by simp) (by simp),X]
     rfl
    | false =>
     simp only [Bool.false_eq_true,if_false]
     cases hb:m.2.2.2.1 with
     | false=>simp
     | true =>
      simp only [Bool.not_true,Bool.false_eq_true,if_false,Bool.true_eq_false]
      rw [B7 _ _ _ (by simp) (by simp),X]
      rfl)
   refine OR ?_
   unfold Hk
   rw [J1,J1,J1]
   by_cases c5:x.2.2.2.1>m.2.1
   ·rw [if_pos (by simpa using c5)]
    simp [c5]
   ·rw [if_neg (by simpa using c5)]
    cases hb:m.2.2.2.1<;>cases hf:m.2.2.1<;>simp [c5])
def dB (m:Y) (x:B0):List B0×Y :=
 if (x.2.2.2.1==m.2.1&&m.2.2.2.1)=true then
  (if x.1=7 then ([(8,m.1,x.2.1,m.2.1,x.2.2.2.2.1,([]:List AI))],m)
  else ([(6,m.1,x.2.1,m.2.1,x.2.2.2.2.1,([]:List AI))],(m.1,m.2.1,m.2.2.1,m.2.2.2.1,m.2.2.2.2.1,m.2.2.2.2.2.1,m.2.2.2.2.2.2.1,Aj m.2.2.2.2.2.2.2.1 (x.2.2.2.2.2.getD 0 (ByteArray.empty,ByteArray.empty,(0:Int))),m.2.2.2.2.2.2.2.2)))
 else ([],m)
theorem YX (m:Y) (x:B0) (hm:m.2.2.2.2.2.2.2.1.length<=12) (h5:x.1≠7->0<x.2.2.2.2.2.length) :
  HO x m=some (dB m x):=TZ (by
 unfold ML dB
 by_cases c1:x.2.2.2.1=m.2.1
 case neg=>rw [if_pos (by simpa using c1),if_neg (by simp [c1])]
 rw [if_neg (by simpa using c1)]
 by_cases c2:m.2.2.2.1=true
 case neg=>rw [if_pos (by simpa using c2),if_neg (by simp [c2])]
 rw [if_neg (by simpa using c2),if_pos (by simp [c1,c2])]
 refine P4 ?_
 unfold Jl
 by_cases c7:x.1=7
 ·rw [if_pos (by simpa using c7),if_pos c7,B7 _ _ _ (by simp) (by simp),X]
  rfl
 ·have:=h5 c7
  rw [if_neg (by simpa using c7),if_neg c7,if_pos (by omega),if_pos (by omega),OD _ _ (by omega),X,B7 _ _ _ (by simp) (by simp),X]
  rfl)
theorem PL (m:Y) (op:Int) (x:B0) (hm:Ip m) :
  Et op x m=some (if (x.2.2.2.1==m.2.1&&m.2.2.2.2.2.2.2.2.2.1==op&&m.2.2.2.2.2.2.2.2.2.2.2.1==x.2.2.2.2.1)=true then ((HE m x.2.1).2.2,(HE m x.2.1).1) else ([],m)):=Sc (by
 obtain ⟨l1,l2,l3⟩:=hm.lens
 unfold LJ
 by_cases c1:x.2.2.2.1=m.2.1
 case neg=>rw [if_pos (by simpa using c1),if_neg (by simp [c1])]
 rw [if_neg (by simpa using c1)]
 by_cases c2:m.2.2.2.2.2.2.2.2.2.1=op
 case neg=>rw [if_pos (by simpa using c2),if_neg (by simp [c2])]
 rw [if_neg (by simpa using c2)]
 by_cases c3:m.2.2.2.2.2.2.2.2.2.2.2.1=x.2.2.2.2.1
 case neg=>rw [if_pos (by simpa using c3),if_neg (by simp [c3])]
 rw [if_neg (by simpa using c3),if_pos (by simp [c1,c2,c3])]
 refine PE ?_
 unfold In HE
 rw [OG _ _ (by omega),X]
 by_cases c4:(m.2.2.2.2.2.2.2.2.2.2.2.2.2.filter (· != x.2.1)).length=0
 ·rw [if_neg (by rw [c4]; decide),if_pos (by rw [c4]; decide),Sp _ (by show m.2.2.2.2.2.2.2.1.length<=_; omega)]
  rfl
 ·rw [if_pos (decide_eq_true (by omega)),if_neg (by rw [beq_iff_eq]; omega)]
  rfl)

def ax (x:B0):B0:=if x.1=3 then (x.1,x.2.1,x.2.2.1,x.2.2.2.1,0,x.2.2.2.2.2) else x
def Sq (m:Y) (views:List (List Int)) (x:B0):Y×List B0×List E5:=if Xk x=true then Db m views (ax x) else (m,[],[])
theorem jM (x:B0):(ax x).2.2.1=x.2.2.1/\(ax x).2.2.2.1=x.2.2.2.1:=by unfold ax; split<;>exact ⟨rfl,rfl⟩
theorem TB {m:Y} {views:List (List Int)} {x:B0} (h:¬ (x.2.2.1=m.1/\m.2.1<=x.2.2.2.1/\x.2.2.2.1<=(views.length:Int)/\Xk x=true)):Sq m views x=(m,[],[]):=by
 unfold Sq
 split
 ·rename_i hx
  unfold Db
  rw [if_neg (by
   rw [(jM x).1,(jM x).2]
   simp only [Bool.and_eq_true,beq_iff_eq,decide_eq_true_eq]
   exact fun g=>h ⟨g.1.1.2,g.1.2,g.2,hx⟩)]
 ·rfl
theorem dC {x:B0} (h:x.1≠3):ax x=x:=if_neg h
theorem jN {x:B0} (h:x.1=3->x.2.2.2.2.1=0):ax x=x:=by
 unfold ax
 split
 ·rename_i e
  obtain ⟨a,b,c,d,e,f⟩:=x
  have:=h ‹_›
  dsimp only at this
  rw [this]
 ·rfl
theorem eC {m:Y} {views:List (List Int)} {x:B0} (hx:gy x) (h1:x.2.2.1=m.1) (h2:m.2.1<=x.2.2.2.1) (h3:x.2.2.2.1<=(views.length:Int)):Db m views x =
  (if x.2.2.2.1=m.2.1 then Uc m (views.getD (m.2.1-1).toNat []) x
  else if (x.1==1&&(x.2.2.2.1==m.2.1+1)&&m.2.2.2.1&&(views.getD (m.2.1-1).toNat []).contains m.1)=true then (Sk m x.2.2.2.1,[(2,m.1,x.2.1,x.2.2.2.1,0,m.2.2.2.2.2.2.2.1)],[])
  else if (x.1==3&&(views.getD (x.2.2.2.1-1).toNat []).contains m.1&&((views.getD (x.2.2.2.1-1).toNat []).getD 0 0 != m.1))=true then
   ((m.1,x.2.2.2.1,false,true,false,false,([]:List Int),x.2.2.2.2.2,(0:Int),(0:Int),(0:Int),(0:Int),(ByteArray.empty,ByteArray.empty,(0:Int)),([]:List Int)),Gu m x 4,[])
  else (m,[],[])):=by
 unfold Db
 rw [if_pos (by rw [S8.2 hx]; simp [h1,h2,h3])]
theorem WC {a:Y} {b:List B0} {c:List E5} {r:Y×List B0×List E5} (h:r=(a,b,c)):(b,c,a)=(r.2.1,r.2.2,r.1):=by rw [h]
theorem aE (m:Y) (views:List (List Int)) (x:B0) (hm:Ip m) (hv:Rd views) (hx:gy x) (h1:x.2.2.1=m.1) (h2:m.2.1<=x.2.2.2.1) (h3:x.2.2.2.1<=(views.length:Int)) :
  II views x m=some ((Sq m views x).2.1,(Sq m views x).2.2,(Sq m views x).1):=UV (by
 have hvl:=hv.len
 have hep:=hm.ep
 have hxe:=hx.ep
 have hxi:=Mi hx.items
 obtain ⟨l1,l2,l3⟩:=hm.lens
 have hin:=eC hx h1 h2 h3
 unfold NN Sq
 rw [if_pos (S8.2 hx)]
 have hV:=hv.wok (i:=(m.2.1-1).toNat) (by omega)
 generalize hVe:views.getD (m.2.1-1).toNat []=V at hV hin
 have hk:=hx.kind
 by_cases k1:x.1=1
 ·rw [if_pos (by simpa using k1),aD m views x hm hv (by omega),X,dC (by omega)]
  congr 1
  apply WC
  rw [hin]
  unfold jJ
  rw [hVe]
  by_cases e:x.2.2.2.1=m.2.1
  ·rw [if_pos e,if_neg (by rw [e]; simp; omega)]
   unfold Uc
   simp [k1]
  ·rw [if_neg e]
   cases hc:(x.2.2.2.1==m.2.1+1&&m.2.2.2.1&&V.contains m.1) with
   | true =>
    rw [if_pos (by rw [k1]; simpa using hc),if_pos rfl]
   | false =>
    rw [if_neg (by rw [k1]; simpa using hc),if_neg (by simp [k1]),if_neg (by simp)]
 rw [if_neg (by simpa using k1)]
 by_cases k2:x.1=2
 ·have J:∀ b:Bool,(b=true->m.2.2.2.1=false)->C8 views b m x=some (if b=true then ((B8 V m.1).map (fun v=>(3,m.1,v,m.2.1,0,x.2.2.2.2.2)),[],Ub m V x.2.2.2.2.2) else ([],[],m)):=fun b hb=>RS (by
   unfold J9
   cases b with
   | false=>rw [if_neg (by simp),if_neg (by simp)]
   | true =>
    have hs:m.2.2.2.2.2.1=false:=by
     cases hh:m.2.2.2.2.2.1 with
     | false=>rfl
     | true=>have:=(hm.serves hh).1; rw [hb rfl] at this; cases this
    rw [if_pos rfl,if_pos rfl,Az (by omega),if_pos (by omega),if_pos (by omega),hVe,NT V _ m hV (by omega) hs,X])
  rw [if_pos (by simpa using k2),dC (by omega)]
  by_cases e:x.2.2.2.1=m.2.1
  ·rw [if_pos (by simpa using e)]
   have ho:Db m views x=(if (m.2.2.2.2.1&&!m.2.2.2.1)=true then (Ub m V x.2.2.2.2.2,(B8 V m.1).map (fun v=>(3,m.1,v,m.2.1,0,x.2.2.2.2.2)),[]) else (m,[],[])):=by
    rw [hin,if_pos e]; unfold Uc; rw [if_pos k2]
   rw [ho]
   cases hl:m.2.2.2.2.1 with
   | false=>rw [if_neg (by simp),J false (by simp),if_neg (by simp),if_neg (by simp)]
   | true =>
    rw [if_pos (by rfl),J _ (by simp)]
    cases hb:m.2.2.2.1 with
    | true=>rw [if_neg (by simp),if_neg (by simp)]
    | false=>rw [if_pos (by rfl),if_pos (by rfl)]
  ·rw [if_neg (by simpa using e),J false (by simp),if_neg (by simp)]
   congr 1
   apply WC
   rw [hin,if_neg e,if_neg (by simp [k2]),if_neg (by simp [k2])]
 rw [if_neg (by simpa using k2)]
 by_cases k3:x.1=3
 ·have hW:=hv.wok (i:=(x.2.2.2.1-1).toNat) (by omega)
  rw [if_pos (by simpa using k3),Az (by omega),if_pos (by omega),if_pos (by omega)]
  have hx':gy (ax x):=by
   unfold ax
   rw [if_pos k3]
   exact ⟨hx.kind,hx.frm,hx.to,hx.ep,(show (0:Int)<=0/\(0:Int)<=1000000000 from by decide),hx.items,hx.shape⟩
  have hf:ax x=(x.1,x.2.1,x.2.2.1,x.2.2.2.1,0,x.2.2.2.2.2):=if_pos k3
  have hin2:=eC (m:=m) (views:=views) hx' (by rw [hf]; exact h1) (by rw [hf]; exact h2) (by rw [hf]; exact h3)
  rw [hVe] at hin2
  generalize hWe:views.getD (x.2.2.2.1-1).toNat []=Wv at hW
  rw [WB m Wv x hW (by omega),X]
  congr 1
  apply WC
  rw [hin2,hf]
  dsimp only
  rw [hWe]
  unfold jL
  by_cases e:x.2.2.2.1=m.2.1
  ·have hVW:Wv=V:=by rw [<- hWe,<- hVe,e]
   rw [if_pos e]
   unfold Uc
   rw [if_neg (by rw [k3]; decide),if_pos k3,hVW]
   dsimp only
   cases hc:(!V.contains m.1||(V.getD 0 0==m.1)) with
   | true=>simp only [if_true]
   | false =>
    simp only [Bool.false_eq_true,if_false]
    cases hb:m.2.2.2.1<;>cases hf2:m.2.2.1<;>simp [e,Gu,jK]
  ·rw [if_neg e,if_neg (by rw [k3]; simp)]
   cases hc:(!Wv.contains m.1||(Wv.getD 0 0==m.1)) with
   | true =>
    rw [if_neg (by
     intro h
     simp only [Bool.and_eq_true,bne_iff_ne,Bool.or_eq_true,Bool.not_eq_true',beq_iff_eq] at h hc
     rcases hc with hc | hc
     ·rw [hc] at h; exact absurd h.1.2 (by simp)
     ·exact h.2 hc),if_pos rfl]
   | false =>
    rw [if_pos (by
     simp only [Bool.or_eq_false_iff,Bool.not_eq_false'] at hc
     rw [k3,hc.1]
     simpa using hc.2),if_neg (by simp),if_pos (Or.inl (by omega))]
    rfl
 rw [if_neg (by simpa using k3),dC k3]
 by_cases k4:x.1=4
 ·rw [if_pos (by simpa using k4)]
  have J:∀ b:Bool,EW b m x=some (if b=true then ([],[],(m.1,m.2.1,m.2.2.1,m.2.2.2.1,m.2.2.2.2.1,m.2.2.2.1&&(((m.2.2.2.2.2.2.1.filter (· != x.2.1)).length:Int)==0),m.2.2.2.2.2.2.1.filter (· != x.2.1),m.2.2.2.2.2.2.2)) else ([],[],m)):=fun b=>RU (by
   unfold J_
   cases b with
   | false=>rw [if_neg (by simp),if_neg (by simp)]
   | true =>
    rw [if_pos rfl,if_pos rfl,OG _ _ (by omega),X]
    cases hs:m.2.2.2.2.2.1 with
    | true =>
     obtain ⟨q1,q2,q3⟩:=hm.serves hs
     rw [if_neg (by simp),q3,q1]
     rfl
    | false =>
     rw [if_pos rfl]
     cases hq:(((m.2.2.2.2.2.2.1.filter (· != x.2.1)).length:Int)==0) with
     | true=>rw [if_pos rfl,Bool.and_true]
     | false=>rw [if_neg (by simp),Bool.and_false])
  by_cases e:x.2.2.2.1=m.2.1
  ·rw [if_pos (by simpa using e),J]
   have ho:Db m views x=(if m.2.2.2.2.1=true then
     ((m.1,m.2.1,m.2.2.1,m.2.2.2.1,m.2.2.2.2.1,m.2.2.2.1&&(((m.2.2.2.2.2.2.1.filter (· != x.2.1)).length:Int)==0),m.2.2.2.2.2.2.1.filter (· != x.2.1),m.2.2.2.2.2.2.2),[],[]) else (m,[],[])):=by
    rw [hin,if_pos e]; unfold Uc; rw [if_neg k2,if_neg k3,if_pos k4]
   rw [ho]
   cases hl:m.2.2.2.2.1 with
   | false=>rw [if_neg (by simp),if_neg (by simp)]
   | true=>rw [if_pos rfl,if_pos rfl]
  ·rw [if_neg (by simpa using e),J,if_neg (by simp)]
   congr 1
   apply WC
   rw [hin,if_neg e,if_neg (by simp [k4]),if_neg (by simp [k4])]
 rw [if_neg (by simpa using k4)]
 have st:x.1=5\/x.1=7->dB m x=((Db m views x).2.1,(Db m views x).1)/\(Db m views x).2.2=[]:=fun hk=>by
  rw [hin]
  unfold dB
  by_cases e:x.2.2.2.1=m.2.1
  ·rw [if_pos e]
   unfold Uc Gu
   rw [if_neg k2,if_neg k3,if_neg k4,e]
   cases hb:m.2.2.2.1 with
   | true =>
    rcases hk with hk | hk
    ·rw [if_pos (by simp),if_neg (by omega),if_pos hk,if_pos rfl]
     exact ⟨rfl,rfl⟩
    ·rw [if_pos (by simp),if_pos hk,if_neg (by omega),if_pos hk,if_pos rfl]
     exact ⟨rfl,rfl⟩
   | false =>
    rcases hk with hk | hk
    ·rw [if_neg (by simp),if_pos hk,if_neg (by simp)]
     exact ⟨rfl,rfl⟩
    ·rw [if_neg (by simp),if_neg (by omega),if_pos hk,if_neg (by simp)]
     exact ⟨rfl,rfl⟩
  ·simp [e,k1,k3]
 have sd:∀ op,x.1=6/\op=1\/x.1=8/\op=2->(if (x.2.2.2.1==m.2.1&&m.2.2.2.2.2.2.2.2.2.1==op&&m.2.2.2.2.2.2.2.2.2.2.2.1==x.2.2.2.2.1)=true then ((HE m x.2.1).2.2,(HE m x.2.1).1) else ([],m))=((Db m views x).2.2,(Db m views x).1)/\(Db m views x).2.1=[]:=fun op hk=>by
  have ht:(HE m x.2.1).2.1=[]:=by unfold HE; split<;>rfl
  rw [hin]
  by_cases e:x.2.2.2.1=m.2.1
  ·rw [if_pos e]
   unfold Uc
   rw [if_neg k2,if_neg k3,if_neg k4,if_neg (show ¬ x.1=5 by omega),if_neg (show ¬ x.1=7 by omega),e]
   have hop:(if x.1=8 then (2:Int) else 1)=op:=by
    rcases hk with ⟨h,h'⟩ | ⟨h,h'⟩
    ·rw [if_neg (by omega),h']
    ·rw [if_pos h,h']
   rw [hop]
   by_cases c1:m.2.2.2.2.2.2.2.2.2.1=op
   ·by_cases c2:m.2.2.2.2.2.2.2.2.2.2.2.1=x.2.2.2.2.1
    ·rw [if_pos (by simp [c1,c2]),if_pos ⟨by omega,c1,c2⟩]
     exact ⟨rfl,ht⟩
    ·simp [c2]
   ·simp [c1]
  ·simp [e,k1,k3]
 have h7:x.1≠7->x.1=5->0<x.2.2.2.2.2.length:=fun _ h5=>by
  have:=hx.shape
  rw [if_neg (by omega),if_pos h5] at this
  omega
 have J2:∀ b:Bool,(b=true↔x.1=5\/x.1=7)->EX x.1 b m x=some ((Db m views x).2.1,(Db m views x).2.2,(Db m views x).1):=fun b hb=>RV (by
  unfold KA
  cases b with
  | true =>
   have hk5:=hb.1 rfl
   obtain ⟨q1,q2⟩:=st hk5
   rw [if_pos rfl,YX m x l2 (fun h=>h7 h (by omega)),X,q1,q2]
  | false =>
   have hn:¬ (x.1=5\/x.1=7):=fun h=>by have:=hb.2 h; cases this
   rw [if_neg (by simp)]
   by_cases k6:x.1=6
   ·obtain ⟨q1,q2⟩:=sd 1 (.inl ⟨k6,rfl⟩)
    rw [if_pos (by simpa using k6),PL m 1 x hm,X,q1,q2]
   ·obtain ⟨q1,q2⟩:=sd 2 (.inr ⟨by omega,rfl⟩)
    rw [if_neg (by simpa using k6),if_pos (by rw [beq_iff_eq]; omega),PL m 2 x hm,X,q1,q2])
 by_cases k5:x.1=5
 ·rw [if_pos (by simpa using k5),J2 _ (by simp [k5])]
 ·rw [if_neg (by simpa using k5),J2 _ (by simp [k5])])
theorem IV {m:Y} (h:Ip m):Ef m=some true:=by
 obtain ⟨h1,h2,h3⟩:=h.lens
 rw [Ua m (by unfold maxLen; omega) (by unfold maxLen; omega) (by unfold maxLen; omega),kg.2 h]
theorem Ey {views:List (List Int)} (h:Rd views):DV views=some true:=by
 have:=h.len
 rw [V7 views (by unfold maxLen; omega) (fun a ha=>by have:=(h.view ha).2; unfold maxLen; omega),h.ok]
theorem WD (m:Y) (views:List (List Int)) (x:B0) (hm:Ip m) (hv:Rd views) (hx:x.2.2.2.2.2.length<=68719476736) :
  JP m views x=some (Sq m views x):=Zv (by
 have hxm:x.2.2.2.2.2.length<=maxLen:=by unfold maxLen; omega
 unfold SW
 rw [hm.icopy,X]
 by_cases c1:x.2.2.1=m.1
 case neg=>rw [if_neg (by simpa using c1),TB (fun h=>c1 h.1)]
 rw [if_pos (by simpa using c1)]
 by_cases c2:x.2.2.2.1<m.2.1
 ·rw [if_neg (by simpa using c2),TB (fun h=>by omega)]
 rw [if_pos (by simpa using c2)]
 by_cases c3:x.2.2.2.1>(views.length:Int)
 ·rw [if_neg (by simpa using c3),TB (fun h=>by omega)]
 rw [if_pos (by simpa using c3),IV hm,X,if_pos (by rfl),Ey hv,X,if_pos (by rfl),YW x hxm,X]
 cases hmo:Xk x with
 | false=>rw [if_pos (by rfl),TB (fun h=>by rw [hmo] at h; cases h.2.2.2)]
 | true =>
  rw [if_neg (by simp)]
  have hx':=S8.1 hmo
  refine Vs ?_
  unfold N9
  have hok:Ip (Sq m views x).1:=by
   unfold Sq
   rw [if_pos hmo]
   exact (NS hm hv).mok
  rw [aE m views x hm hv hx' c1 (by omega) (by omega),X,hok.icopy,X])

theorem ay (x:List Int):UB x=some (decide ((x.length:Int)>1048576)):=e_ rfl
theorem az (m:Y):Ny m=some (RC m):=dz rfl



def To (k:ByteArray) (b:AI):Bool:=b.1.toList==k.toList
theorem eD (k:ByteArray):∀ x:List AI,(x.filter (WM k)).length+(x.filter (cv k)).length+(x.filter (To k)).length=x.length
 | []=>rfl
 | b::x=>by
  have ih:=eD k x
  have hi:cv k b=!(WM k b||To k b):=rfl
  cases hl:WM k b with
  | true =>
   have hs:To k b=false:=by
    cases q:To k b with
    | false=>rfl
    | true =>
     have e:b.1.toList=k.toList:=by simpa [To] using q
     unfold WM at hl
     rw [e,S7] at hl
     cases hl
   simp only [List.filter_cons,hi,hl,hs,Bool.true_or,Bool.not_true,if_true,Bool.false_eq_true,if_false,List.length_cons]
   omega
  | false =>
   cases hs:To k b with
   | true =>
    simp only [List.filter_cons,hi,hl,hs,Bool.false_or,Bool.not_true,if_true,Bool.false_eq_true,if_false,List.length_cons]
    omega
   | false =>
    simp only [List.filter_cons,hi,hl,hs,Bool.or_false,Bool.not_false,if_true,Bool.false_eq_true,if_false,List.length_cons]
    omega
def Gw (x:List AI) (k:ByteArray):Bool:=x.any (To k)
theorem aF {x:List AI} {k:ByteArray}:Gw x k=true↔1<=(x.filter (To k)).length:=by
 unfold Gw
 rw [List.any_eq_true]
 constructor
 ·rintro ⟨b,hb,hs⟩
  exact List.length_pos_of_mem (List.mem_filter.2 ⟨hb,hs⟩)
 ·intro h
  obtain ⟨b,hb⟩:=List.exists_mem_of_length_pos h
  exact ⟨b,(List.mem_filter.1 hb).1,(List.mem_filter.1 hb).2⟩
theorem Sr {x:List AI} {k:ByteArray} (h:Gw x k=false):BJ x k=(ByteArray.empty,ByteArray.empty,0):=by
 unfold BJ
 have:x.find? (fun a=>a.1.toList==k.toList)=none:=by
  rw [List.find?_eq_none]
  intro b hb hs
  have:Gw x k=true:=List.any_eq_true.2 ⟨b,hb,hs⟩
  rw [h] at this
  cases this
 rw [this]
 rfl
theorem aG {x:List AI} {k:ByteArray} (h:Gw x k=true):BJ x k∈x/\(BJ x k).1.toList=k.toList:=by
 obtain ⟨b,hb,hs⟩:=List.any_eq_true.1 h
 unfold BJ
 cases q:x.find? (fun a=>a.1.toList==k.toList) with
 | none =>
  rw [List.find?_eq_none] at q
  exact absurd hs (q b hb)
 | some c=>exact ⟨List.mem_of_find?_eq_some q,by simpa using List.find?_some q⟩
theorem jO {x:List AI} {k:ByteArray} (hx:BS x=true):RD (.pair .str (.pair .str (.int .i64))) (BJ x k) (ByteArray.empty,ByteArray.empty,(0:Int))=!Gw x k:=by
 cases h:Gw x k with
 | false=>rw [Sr h]; exact eA _
 | true =>
  obtain ⟨h1,h2⟩:=aG h
  have h3:=(CT.1 hx).1 _ h1
  unfold Hz at h3
  simp only [Bool.and_eq_true,decide_eq_true_eq] at h3
  have h4:((BJ x k).2.2==(0:Int))=false:=by
   rw [beq_eq_false_iff_ne]
   omega
  show ((BJ x k).1.toList==_&&((BJ x k).2.1.toList==_&&((BJ x k).2.2==(0:Int))))=false
  rw [h4,Bool.and_false,Bool.and_false]
theorem f4 {x:List AI} {a:AI} (hx:BS x=true) (ha:Hz a=true) (hv:Jn x (a.2.2-1)) :
  Aj x a=if x.length=12/\Gw x a.1=false then x else P5 x a:=by
 obtain ⟨h1,h2,h3⟩:=CT.1 hx
 have hs:bV x a=false:=by
  cases q:bV x a with
  | false=>rfl
  | true =>
   obtain ⟨b,hb,hc⟩:=List.any_eq_true.1 q
   simp only [Bool.and_eq_true,decide_eq_true_eq] at hc
   have:=hv b hb
   omega
 have hl:=eD a.1 x
 have hlen:(P5 x a).length=(x.filter (WM a.1)).length+1+(x.filter (cv a.1)).length:=by simp [P5]; omega
 unfold Aj
 rw [hs,if_neg (by simp),if_pos hx]
 have hk:BS (P5 x a)=true↔(P5 x a).length<=12:=by
  rw [CT]
  refine ⟨fun h=>h.2.2,fun h=>⟨fun b hb=>?_,UZ a h2,h⟩⟩
  rcases d_ hb with e | e
  ·rw [e]; exact ha
  ·exact h1 b e
 cases hh:Gw x a.1 with
 | true =>
  have:=aF.1 hh
  rw [if_pos (hk.2 (by omega)),if_neg (by simp)]
 | false =>
  have h0:(x.filter (To a.1)).length=0:=by
   rcases Nat.eq_zero_or_pos (x.filter (To a.1)).length with e | e
   ·exact e
   ·have:=aF.2 e
    rw [hh] at this
    cases this
  by_cases h12:x.length=12
  ·rw [if_neg (fun h=>by have:=hk.1 h; omega),if_pos ⟨h12,rfl⟩]
  ·rw [if_pos (hk.2 (by omega)),if_neg (fun h=>h12 h.1)]
theorem aH {x:List AI} {a:AI} (hx:BS x=true) (ha:Hz a=true) (hv:Jn x (a.2.2-1)) :
  RD (.pair .str (.pair .str (.int .i64))) (BJ (Aj x a) a.1) a=!(decide (x.length=12)&&!Gw x a.1):=by
 obtain ⟨h1,h2,h3⟩:=CT.1 hx
 have ha2:=ha
 unfold Hz at ha2
 simp only [Bool.and_eq_true,decide_eq_true_eq] at ha2
 rw [f4 hx ha hv]
 by_cases h:x.length=12/\Gw x a.1=false
 ·rw [if_pos h,Sr h.2,h.2,decide_eq_true h.1]
  have h4:((0:Int)==a.2.2)=false:=by
   rw [beq_eq_false_iff_ne]
   omega
  show (_&&(_&&((0:Int)==a.2.2)))=false
  rw [h4,Bool.and_false,Bool.and_false]
 ·rw [if_neg h,Ke (UZ a h2) Z4,eA]
  by_cases h12:x.length=12
  ·cases hh:Gw x a.1 with
   | true=>simp
   | false=>exact absurd ⟨h12,hh⟩ h
  ·simp [h12]
def ma (m:Y) (views:List (List Int)):Bool:=m.2.2.2.2.2.1&&(m.2.2.2.2.2.2.2.2.2.1==0)&&decide (m.2.2.2.2.2.2.2.2.1<900)&&decide (m.2.1<=(views.length:Int))&&((views.getD (m.2.1-1).toNat []).getD 0 0==m.1)
def mb (op call:Int) (key val:ByteArray):Bool:=(op==1||op==2)&&(decide (0<=call)&&decide (call<=1000))&&(decide (1<=(key.size:Int))&&decide ((key.size:Int)<=12))&&decide ((val.size:Int)<=20)&&(op==1||hY val)
theorem aI (m:Y) (views:List (List Int)) (op call:Int) (key val:ByteArray):gz m views op call key val=(ma m views&&mb op call key val):=by
 unfold gz ma mb
 ac_rfl
theorem Ug (m:Y) (views:List (List Int)) (hm:Ip m) (hv:Rd views):Fp views m=some (ma m views,m):=P0 (by
 have hvl:=hv.len
 have hep:=hm.ep
 have hcnt:=hm.count
 have wm:IntKind.i64.wrap (m.2.1-1)=m.2.1-1:=Az (by omega)
 unfold Ji ma
 cases h1:m.2.2.2.2.2.1 with
 | false=>rfl
 | true =>
  rw [if_pos (by rfl)]
  by_cases h2:m.2.2.2.2.2.2.2.2.2.1=0
  ·rw [if_pos (by rw [h2]; rfl),h2]
   by_cases h3:m.2.2.2.2.2.2.2.2.1=900
   ·rw [if_neg (by rw [h3]; simp),h3]
    rfl
   ·rw [if_pos (by simpa using h3),decide_eq_true (show m.2.2.2.2.2.2.2.2.1<900 by omega)]
    by_cases h4:m.2.1>(views.length:Int)
    ·rw [if_pos (by simpa using h4),decide_eq_false (show ¬ m.2.1<=(views.length:Int) by omega)]
     rfl
    ·rw [if_neg (by simpa using h4),decide_eq_true (show m.2.1<=(views.length:Int) by omega)]
     refine NY ?_
     have g1:=hv.get (i:=(m.2.1-1).toNat) (by omega)
     unfold HI
     rw [Ey hv,X,if_pos (by rfl),wm,if_pos (by omega),if_pos (by omega),if_pos (by omega),if_pos (by omega)]
     rfl
  ·rw [if_neg (by simpa using h2),show (m.2.2.2.2.2.2.2.2.2.1==(0:Int))=false by simpa using h2]
   rfl)
theorem aJ (op call:Int) (key val:ByteArray):JO op call key val=some (mb op call key val):=Vp (by
 have w:∀ b,Hv op val b=some (op==1||hY val):=fun b=>Q1 (by
  unfold Lk
  rw [fA]
  by_cases h:op=1
  ·rw [if_neg (by simp [h]),h]; rfl
  ·rw [if_pos (by simpa using h),show (op==1)=false by simpa using h]; rfl)
 unfold Py mb
 have jB:decide ((val.size:Int)>20)=!decide ((val.size:Int)<=20):=by
  by_cases h:(val.size:Int)<=20
  ·rw [decide_eq_true h,decide_eq_false (by omega)]; rfl
  ·rw [decide_eq_false h,decide_eq_true (by omega)]; rfl
 have h12:(op==1||op==2)=(decide (1<=op)&&decide (op<=2)):=by
  by_cases a:op=1
  ·subst a; rfl
  ·by_cases b:op=2
   ·subst b; rfl
   ·rw [show (op==1)=false by simpa using a,show (op==2)=false by simpa using b,<- Bool.decide_and,decide_eq_false (by omega)]; rfl
 rw [Ag,X,Ag,Lo,h12]
 cases (decide (1<=op)&&decide (op<=2)) with
 | false=>rfl
 | true =>
  rw [if_pos (by rfl),X]
  cases (decide (0<=call)&&decide (call<=1000)) with
  | false=>rfl
  | true =>
   rw [if_pos (by rfl),X]
   cases (decide (1<=(key.size:Int))&&decide ((key.size:Int)<=12)) with
   | false=>rfl
   | true =>
    rw [if_pos (by rfl),jB,w]
    cases decide ((val.size:Int)<=20)<;>rfl)
theorem YY (m:Y) (views:List (List Int)) (op call:Int) (key val:ByteArray) (hm:Ip m) (hv:Rd views) (h1:V1 views m):Mb m views op call key val=some (GS m views op call key val):=cq (by
 have hvl:=hv.len
 have hep:=hm.ep
 have hcnt:=hm.count
 have hl:=hm.lens
 have wm:IntKind.i64.wrap (m.2.1-1)=m.2.1-1:=Az (by omega)
 have wc:IntKind.i64.wrap (m.2.2.2.2.2.2.2.2.1+1)=m.2.2.2.2.2.2.2.2.1+1:=Az (by omega)
 have wk:IntKind.i64.wrap (1000*m.2.1)=1000*m.2.1:=Az (by omega)
 have wv:IntKind.i64.wrap (1000*m.2.1+(m.2.2.2.2.2.2.2.2.1+1))=1000*m.2.1+(m.2.2.2.2.2.2.2.2.1+1):=Az (by omega)
 unfold Vu GS
 rw [IV hm,X,if_pos (by rfl),Ug m views hm hv,X,aJ,aI]
 cases hb:ma m views with
 | false=>rfl
 | true =>
  dsimp only
  rw [if_pos (by rfl),X]
  cases ha:mb op call key val with
  | false=>rfl
  | true =>
   rw [if_neg (by simp),if_pos (by rfl)]
   have hmay:gz m views op call key val=true:=by rw [aI,hb,ha]; rfl
   obtain ⟨s1,s2,s3,s4,s5,s6,s7,s8,s9,s10⟩:=S_ hmay
   obtain ⟨b1,b2,_⟩:=hm.serves s1
   have hw:=hv.wok (i:=(m.2.1-1).toNat) (by omega)
   have hwl:=hw.len
   have hrl:=Fx (views.getD (m.2.1-1).toNat []) m.1
   have ho:=Xn hw m.1
   have hone:Hz (Iq m key val)=true:=(CT.1 (Z9 hm s3 s6 s7)).1 _ (by simp)
   have href:=aH (a:=Iq m key val) hm.items hone ((h1.own b2 b1).mono (by show _<=1000*m.2.1+(m.2.2.2.2.2.2.2.2.1+1)-1; omega))
   have hz:=jO (k:=key) hm.items
   have J1:∀ b z,F6 views op call b m z (m.1,m.2.1,m.2.2.1,m.2.2.2.1,m.2.2.2.2.1,m.2.2.2.2.2.1,m.2.2.2.2.2.2.1,m.2.2.2.2.2.2.2.1,m.2.2.2.2.2.2.2.2.1+1,m.2.2.2.2.2.2.2.2.2) (key,val,1000*m.2.1+(m.2.2.2.2.2.2.2.2.1+1))=some (Ue m (views.getD (m.2.1-1).toNat []) op call key val):=fun b z=>YL (by
    unfold Q4
    rw [wm,if_pos (by omega),if_pos (by omega),Kg _ _ (by omega),X,CI (by show (B8 (views.getD (m.2.1-1).toNat []) m.1).length<=_; omega),X]
    have hsort:=XJ hw m.1
    change ((CU (B8 (views.getD (m.2.1-1).toNat []) m.1)).bind _)=_
    rw [hsort,X]
    have J2:∀ a c d e x,(∀ q:B0,q=x->q.2.2.2.2.2.length<=12)->(fw (MO m (views.getD (m.2.1-1).toNat []) op call key val) (B8 (views.getD (m.2.1-1).toNat []) m.1) x=fE m (views.getD (m.2.1-1).toNat []) op key val) ->
      Hw (B8 (views.getD (m.2.1-1).toNat []) m.1) a c (MO m (views.getD (m.2.1-1).toNat []) op call key val) d e x=some (Ue m (views.getD (m.2.1-1).toNat []) op call key val):=fun a c d e x hx12 htell=>YK (by
     have hx:=hx12 x rfl
     unfold Q3 Ue
     by_cases h0:(B8 (views.getD (m.2.1-1).toNat []) m.1).length=0
     ·rw [if_pos (by simpa using h0),if_pos (List.length_eq_zero_iff.1 (by rw [ho,h0])),Sp _ (by show m.2.2.2.2.2.2.2.1.length<=_; omega),X]
     ·rw [if_neg (by simpa using h0),if_neg (fun e=>h0 (by rw [<- ho,e]; rfl)),B7 _ _ _ (by omega) (by omega),X,htell]
      exact WP)
    by_cases hop:op=1
    ·rw [if_pos (by simpa using hop)]
     refine J2 _ _ _ _ _ (fun q e=>by subst e; simp) ?_
     unfold fw fE
     simp only [hop,if_true]
     rfl
    ·rw [if_neg (by simpa using hop)]
     refine J2 _ _ _ _ _ (fun q e=>by subst e; simp) ?_
     unfold fw fE
     simp only [hop,if_false]
     rfl)
   refine YM ?_
   unfold Q5
   rw [hm.icopy,X,wc,wk,wv]
   by_cases hop:op=1
   ·rw [if_pos (by simpa using hop)]
    by_cases h12:m.2.2.2.2.2.2.2.1.length=12
    ·rw [if_pos (by simp only [beq_iff_eq]; omega),PH _ _ (by unfold maxLen; omega),X]
     change (if (false != RD (.pair .str (.pair .str (.int .i64))) (BJ m.2.2.2.2.2.2.2.1 key) (ByteArray.empty,ByteArray.empty,(0:Int)))=true then _ else _)=_
     rw [hz]
     rw [h12] at href
     cases hh:Gw m.2.2.2.2.2.2.2.1 key with
     | false =>
      have hh2:Gw m.2.2.2.2.2.2.2.1 (Iq m key val).1=false:=hh
      rw [hh2] at href
      rw [if_pos (by rfl),if_pos ⟨hop,href⟩]
      rfl
     | true =>
      have hh2:Gw m.2.2.2.2.2.2.2.1 (Iq m key val).1=true:=hh
      rw [hh2] at href
      rw [if_neg (by simp),if_neg (fun h=>by have:=h.2; change RD (.pair .str (.pair .str (.int .i64))) (BJ _ (Iq m key val).1) _=false at this; rw [href] at this; cases this)]
      exact J1 _ _
    ·rw [if_neg (by simp; omega),if_neg (fun h=>by
      have:=h.2
      change RD (.pair .str (.pair .str (.int .i64))) (BJ _ (Iq m key val).1) _=false at this
      rw [href,decide_eq_false h12] at this
      cases this)]
     exact J1 _ _
   ·rw [if_neg (by simpa using hop),if_neg (fun h=>hop h.1)]
    exact J1 _ _)

def dD (m:Y) (views:List (List Int)) (e:Int):Y×List B0×Bool :=
 if 2<=e/\e<=(views.length:Int)/\m.2.1<e/\(views.getD (e-1).toNat []).getD 0 0=m.1 then
  if (m.2.2.2.1&&(m.2.1==e-1))=true then
   (Ub (Na m e) (views.getD (e-1).toNat []) m.2.2.2.2.2.2.2.1,(B8 (views.getD (e-1).toNat []) m.1).map (fun v=>(3,m.1,v,e,0,m.2.2.2.2.2.2.2.1)),true)
  else (Na m e,(B8 (views.getD (e-2).toNat []) m.1).map (fun v=>(1,m.1,v,e,0,[])),true)
 else (Z8,[],false)
theorem YZ (m:Y) (views:List (List Int)) (e:Int) (hm:Ip m) (hv:Rd views):Mc m views e=some (dD m views e):=cr (by
 have hvl:=hv.len
 have hep:=hm.ep
 have hl:=hm.lens
 unfold Vv dD
 rw [IV hm,X,if_neg (by simp),Ey hv,X,if_neg (by simp),Ag,X]
 by_cases h1:2<=e/\e<=(views.length:Int)
 case neg =>
  rw [if_pos (by rw [<- Bool.decide_and,decide_eq_false h1]; rfl),if_neg (fun h=>h1 ⟨h.1,h.2.1⟩)]
  rfl
 have we:IntKind.i64.wrap (e-1)=e-1:=Az (by omega)
 have we2:IntKind.i64.wrap (e-2)=e-2:=Az (by omega)
 rw [if_neg (by rw [<- Bool.decide_and,decide_eq_true h1]; simp),we]
 by_cases h2:m.2.1<e
 case neg =>
  rw [if_pos (by simp; omega),if_neg (fun h=>h2 h.2.2.1)]
  rfl
 have g1:=hv.get (i:=(e-1).toNat) (by omega)
 have hw:=hv.wok (i:=(e-1).toNat) (by omega)
 have hw2:=hv.wok (i:=(e-2).toNat) (by omega)
 have hwl:=hw2.len
 rw [if_neg (by simp; omega),if_pos (by omega),if_pos (by omega),if_pos (by omega),if_pos (by omega)]
 by_cases h3:(views.getD (e-1).toNat []).getD 0 0=m.1
 case neg =>
  rw [if_pos (by simpa using h3),if_neg (fun h=>h3 h.2.2.2)]
  rfl
 rw [if_neg (by simpa using h3),if_pos ⟨h1.1,h1.2,h2,h3⟩]
 refine YO ?_
 unfold Q8
 rw [hm.icopy,X,we]
 have J1:∀ b z,Hx views e b m z m=some (if b=true then (Ub (Na m e) (views.getD (e-1).toNat []) m.2.2.2.2.2.2.2.1,(B8 (views.getD (e-1).toNat []) m.1).map (fun v=>(3,m.1,v,e,0,m.2.2.2.2.2.2.2.1)),true)
   else (Na m e,(B8 (views.getD (e-2).toNat []) m.1).map (fun v=>(1,m.1,v,e,0,[])),true)):=fun b z=>YN (by
  unfold Q7
  rw [OU,X,we,we2]
  cases b with
  | true =>
   rw [if_pos rfl,if_pos (by omega),if_pos (by omega)]
   change ((Cu (views.getD (e-1).toNat []) m.2.2.2.2.2.2.2.1 (Na m e)).bind _)=_
   rw [NT _ _ (Na m e) hw (by omega) rfl,X]
   rfl
  | false =>
   rw [if_neg (by simp),if_pos (by omega),if_pos (by omega)]
   change dM ((Bk (views.getD (e-2).toNat []) (Na m e)).bind _) ((Bk (views.getD (e-2).toNat []) (Na m e)).bind _)=_
   have hrl:=Fx (views.getD (e-2).toNat []) m.1
   rw [Kg _ (Na m e) (by omega),X,X,B7 _ _ (Na m e) (by show (B8 (views.getD (e-2).toNat []) m.1).length<=_; omega) (by simp),X,X,X,WP]
   exact WP)
 cases hb:m.2.2.2.1 with
 | true=>rw [if_pos rfl,J1,Bool.true_and]
 | false=>rw [if_neg (by simp),J1,Bool.false_and])
theorem Ta (id:Int) (views:List (List Int)) (hi:1<=id/\id<=6) (hv:Rd views):KP id views=some (D3 id views,true):=W7 (by
 have hvl:=hv.len
 have g:=hv.get (i:=0) (by omega)
 unfold O7
 rw [FT,X,if_pos (by rw [<- Bool.decide_and,decide_eq_true hi]; rfl),Ey hv,X,if_neg (by simp)]
 refine TU ?_
 unfold MI
 rw [show views.getD (0:Int).toNat ([]:List Int)=views.getD 0 [] from rfl,OF _ _ (by unfold maxLen; omega),X]
 repeat rw [if_pos (by omega)]
 rfl)

theorem MP (x:List (List Int)) (h:x.length<=1000) (ho:∀ a∈x,a.length<=1000):G8 x=some x:=W6 (by
 have key:=NZ (n:=x.length) (P:=fun i=>E_ x (x.length:Int) (i:Int) (x.take i)=some x) (MG (by
  unfold HX
  rw [if_neg (by simp),List.take_length])) (fun i hi ih=>MG (by
  unfold HX
  have hb:=ho x[i] (List.getElem_mem hi)
  simp only [show ((i:Int)<(x.length:Int)) from by omega,decide_true,if_true,show (0:Int)<=(i:Int) from by omega,Int.toNat_natCast,AZ hi,Ae (show i<9223372036854775807 by omega)]
  rw [CI (by omega),X,if_pos (by simp; omega),List.take_append_getElem]
  exact ih)) 0 (by omega)
 unfold O6
 exact key)
theorem Tb (g:AR) (k:Nat) (hg:Mk g k) (hk:k<=10000):G7 g=some g:=Wx (by
 have hvl:=hg.views.len
 have hc:=hg.clen
 have hf:=hg.flen
 have h6:=hg.six
 unfold O3
 rw [MP g.1 (by omega) (fun a ha=>by have:=hg.views.view ha; omega),X,IL (by omega),X]
 have key2:∀ a b c d e f h k,Dl g.2.2.1 (g.2.2.1.length:Int) ((0:Nat):Int) a b c d e f h k g.2.1 [] g.2.2.2 g.1=some g:=by
  intro a b c d e f h k
  have key':=NZ (n:=g.2.2.1.length) (P:=fun i=>Dl g.2.2.1 (g.2.2.1.length:Int) (i:Int) a b c d e f h k g.2.1 (g.2.2.1.take i) g.2.2.2 g.1=some g) (ME (by
   unfold HT
   rw [if_neg (by simp),List.take_length])) (fun i hi ih=>ME (by
   unfold HT
   have hm:=Mi (hg.fly _ (List.getElem_mem hi)).items
   have hz:g.2.2.1.getD i ((0:Int),(0:Int),(0:Int),(0:Int),(0:Int),([]:List AI))=g.2.2.1[i]:=AZ hi
   simp only [show ((i:Int)<(g.2.2.1.length:Int)) from by omega,decide_true,if_true,show (0:Int)<=(i:Int) from by omega,Int.toNat_natCast,hz,Ae (show i<9223372036854775807 by omega)]
   rw [Jo _ (by omega),X,if_pos (by simp; omega),List.take_append_getElem]
   exact ih)) 0 (by omega)
  exact key'
 have key0:∀ a b c d e f h,Dm g.2.1 (g.2.1.length:Int) ((0:Nat):Int) a b g.2.2.1 c d e f h [] [] g.2.2.2 g.1=some g:=by
  intro a b c d e f h
  have key':=NZ (n:=g.2.1.length) (P:=fun i=>Dm g.2.1 (g.2.1.length:Int) (i:Int) a b g.2.2.1 c d e f h (g.2.1.take i) [] g.2.2.2 g.1=some g) (MF (by
   unfold HU
   rw [if_neg (by simp),List.take_length]
   refine TR ?_
   unfold MD
   exact key2 _ _ _ _ _ _ _ _)) (fun i hi ih=>MF (by
   unfold HU
   have hm:=(hg.mem i (by omega)).1
   unfold CK at hm
   rw [AZ hi] at hm
   have hz:g.2.1.getD i ((0:Int),(0:Int),false,false,false,false,([]:List Int),([]:List AI),(0:Int),(0:Int),(0:Int),(0:Int),(ByteArray.empty,ByteArray.empty,(0:Int)),([]:List Int))=g.2.1[i]:=AZ hi
   simp only [show ((i:Int)<(g.2.1.length:Int)) from by omega,decide_true,if_true,show (0:Int)<=(i:Int) from by omega,Int.toNat_natCast,hz,hm.icopy,X,Ae (show i<9223372036854775807 by omega)]
   rw [if_pos (by simp; omega),List.take_append_getElem]
   exact ih)) 0 (by omega)
  exact key'
 exact key0 _ _ _ _ _ _ _)
theorem WE {views:List (List Int)} (hv:Rd views):LW views=some (Aq views,true):=YI (by
 have hvl:=hv.len
 unfold Q0
 rw [Ey hv,X,if_neg (by simp),MP views (by omega) (fun a ha=>by have:=hv.view ha; omega),X]
 have step:∀ (i:Nat) (a:_) (b:_) (c:_) (d:_) (l:List Y) r,1<=i->i<=6->l.length<=6->EN views ((i+1:Nat):Int) a b c d (l++[D3 (i:Int) views]) [] [] views=some r->EN views (i:Int) a b c d l [] [] views=some r:=by
  intro i a b c d l r h1 h6 hl hr
  refine NH ?_
  unfold IR
  rw [if_pos (by simp; omega),Ta _ _ (by omega) hv,X,if_pos (by simp; omega),Ae (show i<9223372036854775807 by omega)]
  exact hr
 refine step 1 _ _ _ _ _ _ (by omega) (by omega) (by simp) ?_
 refine step 2 _ _ _ _ _ _ (by omega) (by omega) (by simp) ?_
 refine step 3 _ _ _ _ _ _ (by omega) (by omega) (by simp) ?_
 refine step 4 _ _ _ _ _ _ (by omega) (by omega) (by simp) ?_
 refine step 5 _ _ _ _ _ _ (by omega) (by omega) (by simp) ?_
 refine step 6 _ _ _ _ _ _ (by omega) (by omega) (by simp) ?_
 refine NH ?_
 unfold IR
 rw [if_neg (by decide)]
 rfl)
theorem D4 {k:Nat} (id:Int) (g:AR) (ms:Mk g k) (hi:1<=id/\id<=6):BY id g=some (id-1,g):=TV (by
 have h6:=ms.six
 have step:∀ j (hj:j<6),GH (g.2.1.getD j ((0:Int),(0:Int),false,false,false,false,([]:List Int),([]:List AI),(0:Int),(0:Int),(0:Int),(0:Int),(ByteArray.empty,ByteArray.empty,(0:Int)),([]:List Int))) id=some ((j:Int)+1==id):=fun j hj=>RR (by
  unfold J8
  have:=(ms.mem j hj).2
  unfold CK at this
  change some ((g.2.1.getD j Z8).1==id)=_
  rw [this])
 have key:∀ (d j:Nat),j+d=5->(j:Int)+1<=id->At g.2.1 id (g.2.1.length:Int) (j:Int)=some (id-1):=by
  intro d
  induction d with
  | zero =>
   intro j hj hle
   refine Cb ?_
   unfold BV
   rw [if_pos (by simp; omega),if_pos (by omega),if_pos (by omega),Int.toNat_natCast,step j (by omega),X,if_pos (by simp; omega)]
   congr 1; omega
  | succ d ih =>
   intro j hj hle
   refine Cb ?_
   unfold BV
   rw [if_pos (by simp; omega),if_pos (by omega),if_pos (by omega),Int.toNat_natCast,step j (by omega),X]
   by_cases e:(j:Int)+1=id
   ·rw [if_pos (by simpa using e)]
    congr 1; omega
   ·rw [if_neg (by simpa using e),Ae (by omega)]
    exact ih (j+1) (by omega) (by omega)
 unfold MJ
 rw [show Br g.2.1 id=some (id-1) from Fv (by
  unfold Cw
  exact key 5 0 rfl (by omega)),X])
theorem Gx (told:List B0) (said:List E5) (at_:Int) (g:AR) (hf:g.2.2.1.length+told.length<=68719476736) (hc:g.2.2.2.length<=68719476736) (hs:Z7 said) (hd:∀ c∈g.2.2.2,c.2.2.2.2.1=-1\/0<=c.2.2.2.2.1) :
  Er told said at_ g=some (g.1,g.2.1,g.2.2.1++told,said.foldl (LP at_) g.2.2.2):=Vt (by
 have hsl:=hs.1
 unfold N_
 rw [if_pos hf]
 have fin:∀ (n:Nat) (cs:List LO),n=said.length->CB at_ said (said.length:Int) (n:Int) g.1 g.2.1 (g.2.2.1++told) cs=some (g.1,g.2.1,g.2.2.1++told,cs):=fun n cs hn=>LG (by
  unfold Gm
  rw [if_neg (by simp; omega)])
 match said,hs,hsl,fin with
 | [],_,_,fin=>exact fin 0 _ rfl
 | [s],hs,_,fin =>
  have h0:=(hs.2 s (by simp)).1
  refine LG ?_
  unfold Gm
  have wl:IntKind.i64.wrap ((g.2.2.2.length:Int)-1)=(g.2.2.2.length:Int)-1:=Az (by omega)
  rw [if_pos (by simp),if_pos (by omega),if_pos (by simp)]
  change ((AW s.1 0 (IntKind.i64.wrap ((g.2.2.2.length:Int)-1))).bind _)=_
  rw [Ag,X,wl,Az (show -9223372036854775808<=(0:Int)+1/\(0:Int)+1<=9223372036854775807 by omega)]
  show _=some (g.1,g.2.1,g.2.2.1++told,LP at_ g.2.2.2 s)
  have f1:=fun cs=>fin 1 cs rfl
  by_cases c1:s.1>=(g.2.2.2.length:Int)
  ·rw [if_pos (by rw [<- Bool.decide_and,decide_eq_false (by omega)]; rfl)]
   have:LP at_ g.2.2.2 s=g.2.2.2:=by unfold LP; rw [if_pos (by simp [c1])]
   rw [this]
   exact f1 _
  ·rw [if_neg (by rw [<- Bool.decide_and,decide_eq_true (by omega)]; simp)]
   change (if 0<=s.1 then (if s.1<(g.2.2.2.length:Int) then (if ((g.2.2.2.getD s.1.toNat Fy).2.2.2.2.1 != -1)=true then _ else _) else _) else _)=_
   rw [if_pos h0,if_pos (by omega)]
   have hcl:s.1.toNat<g.2.2.2.length:=by omega
   have hdd:=hd (g.2.2.2.getD s.1.toNat Fy) (by rw [AZ hcl]; exact List.getElem_mem _)
   by_cases c2:(g.2.2.2.getD s.1.toNat Fy).2.2.2.2.1>=0
   ·rw [if_pos (by simp only [bne_iff_ne,ne_eq]; omega)]
    have:LP at_ g.2.2.2 s=g.2.2.2:=by unfold LP; rw [if_pos (by rw [decide_eq_true c2,Bool.or_true])]
    rw [this]
    exact f1 _
   ·rw [if_neg (by simp only [bne_iff_ne,ne_eq]; omega)]
    have e:LP at_ g.2.2.2 s=g.2.2.2.set s.1.toNat (Sm at_ s (g.2.2.2.getD s.1.toNat Fy)):=by unfold LP; rw [if_neg (by rw [decide_eq_false c1,decide_eq_false c2]; simp)]
    rw [e]
    refine SX ?_
    unfold LF
    have hz2:∀ (l:List LO),l.getD s.1.toNat ((0:Int),ByteArray.empty,ByteArray.empty,(0:Int),(0:Int),(0:Int),(0:Int),(0:Int),ByteArray.empty)=l.getD s.1.toNat Fy:=fun l=>rfl
    have hz3:([s]:List E5).getD (0:Int).toNat ((0:Int),(0:Int),(0:Int),ByteArray.empty,ByteArray.empty,(0:Int))=s:=rfl
    simp only [hz3,hz2,fi hcl,List.set_set,List.length_set]
    rw [if_pos h0,if_pos (by omega),Az (show -9223372036854775808<=(0:Int)+1/\(0:Int)+1<=9223372036854775807 by omega)]
    unfold Sm
    by_cases c3:(g.2.2.2.getD s.1.toNat Fy).1=2
    ·rw [if_pos (show ((g.2.2.2.getD s.1.toNat Fy).1==2)=true by simpa using c3),if_pos (show ((g.2.2.2.getD s.1.toNat Fy).1==2)=true by simpa using c3)]
     exact f1 _
    ·rw [if_neg (show ¬ ((g.2.2.2.getD s.1.toNat Fy).1==2)=true by simpa using c3),if_neg (show ¬ ((g.2.2.2.getD s.1.toNat Fy).1==2)=true by simpa using c3)]
     exact f1 _
 | _::_::_,_,hsl,_=>simp at hsl)

theorem Mk.call {g:AR} {k:Nat} (h:Mk g k) (at_:Int) (e:EQ):Mk (Gv g at_ e) (k+1) :=
 ⟨h.views,h.six,h.mem,h.fly,by have:=h.flen; show g.2.2.1.length<=_; omega,by have:=h.clen; simp only [Gv,List.length_append,List.length_cons,List.length_nil]; omega⟩
theorem Ra (at_:Int) (e:EQ) (g:AR) (k:Nat) (hg:Mk g k) (hk:k<=1000) (h3:V3 g) (hn:1<=e.2.1/\e.2.1<=6):IG e at_ g=some ((Lq g at_ e).1==0,(Lq g at_ e).2):=UT (by
 have hc:=hg.clen
 have hf:=hg.flen
 have h6:=hg.six
 have hgc:=hg.call at_ e
 have h3c:=h3.call at_ e
 obtain ⟨m1,m2⟩:=hg.mem (e.2.1-1).toNat (by omega)
 have hb:=XH (op:=e.2.2.2.1) (call:=(g.2.2.2.length:Int)) (key:=e.2.2.2.2.1) (val:=e.2.2.2.2.2) m1 hg.views
 unfold NL Lq
 rw [if_pos (by simp; omega)]
 change ((BY e.2.1 (Gv g at_ e)).bind _)=_
 rw [D4 e.2.1 _ hgc hn,X]
 change (if 0<=e.2.1-1 then (if e.2.1-1<(g.2.1.length:Int) then ((Mb (CK g (e.2.1-1).toNat) g.1 e.2.2.2.1 (g.2.2.2.length:Int) e.2.2.2.2.1 e.2.2.2.2.2).bind _) else none) else none)=_
 rw [if_pos (by omega),if_pos (by omega),YY _ _ _ _ _ _ m1 hg.views (h3.mem _ (by omega)),X]
 cases hq:(GS (CK g (e.2.1-1).toNat) g.1 e.2.2.2.1 (g.2.2.2.length:Int) e.2.2.2.2.1 e.2.2.2.2.2).2.2.2 with
 | false=>rfl
 | true =>
  have hid:=hb.id hq
  have htl:=hb.tlen
  rw [if_neg (by simp),if_pos rfl]
  change (if 0<=e.2.1-1 then (if e.2.1-1<(g.2.1.length:Int) then _ else none) else none)=_
  rw [if_pos (by omega),if_pos (by omega)]
  dsimp only
  have:=Gx (GS (CK g (e.2.1-1).toNat) g.1 e.2.2.2.1 (g.2.2.2.length:Int) e.2.2.2.2.1 e.2.2.2.2.2).2.1 (GS (CK g (e.2.1-1).toNat) g.1 e.2.2.2.1 (g.2.2.2.length:Int) e.2.2.2.2.1 e.2.2.2.2.2).2.2.1 at_
   ((Gv g at_ e).1,(Gv g at_ e).2.1.set (e.2.1-1).toNat (GS (CK g (e.2.1-1).toNat) g.1 e.2.2.2.1 (g.2.2.2.length:Int) e.2.2.2.2.1 e.2.2.2.2.2).1,(Gv g at_ e).2.2.1,(Gv g at_ e).2.2.2) (by show g.2.2.1.length+_<=_; omega) (by simp only [Gv,List.length_append,List.length_cons,List.length_nil]; omega) hb.said h3c.calls
  rw [this,X]
  unfold A_
  rw [hid,m2,show (((e.2.1-1).toNat:Int)+1-1).toNat=(e.2.1-1).toNat by omega]
  rfl)
theorem g9 {m:Y} {views:List (List Int)} {e:Int} (h:V1 views m):dD m views e=E3 m views e:=by
 unfold dD E3
 split
 ·cases hb:m.2.2.2.1 with
  | false=>rfl
  | true =>
   have hv:=(h.view hb).2
   by_cases he:m.2.1=e-1
   ·rw [show (e-2).toNat=(m.2.1-1).toNat by omega,hv,show (m.2.1==e-1)=true by simpa using he]
    rfl
   ·rw [show (m.2.1==e-1)=false by simpa using he]
    rfl
 ·rfl
theorem Rb (at_:Int) (e:EQ) (g:AR) (k:Nat) (hg:Mk g k) (hk:k<=1000) (h3:V3 g) (hn:1<=e.2.1/\e.2.1<=6):IH e at_ g=some ((cz g at_ e.2.1).1==0,(cz g at_ e.2.1).2):=UU (by
 have hc:=hg.clen
 have hf:=hg.flen
 have h6:=hg.six
 have hvl:=hg.views.len
 obtain ⟨m1,m2⟩:=hg.mem (e.2.1-1).toNat (by omega)
 have hep:=m1.ep
 have h1:=h3.mem (e.2.1-1).toNat (by omega)
 unfold NM cz
 rw [D4 e.2.1 g hg hn,X]
 change (if 0<=e.2.1-1 then (if e.2.1-1<(g.2.1.length:Int) then C7 at_ (e.2.1-1) (IntKind.i64.wrap ((CK g (e.2.1-1).toNat).2.1+1)) g.1 g.2.1 g.2.2.1 g.2.2.2 e else none) else none)=_
 rw [if_pos (by omega),if_pos (by omega),Az (by omega)]
 have key:∀ (n:Nat) (ep:Int),1<=ep->ep+(n:Int)=(g.1.length:Int)+1->C7 at_ (e.2.1-1) ep g.1 g.2.1 g.2.2.1 g.2.2.2 e=some ((IU g at_ (CK g (e.2.1-1).toNat) e.2.1 n ep).1==0,(IU g at_ (CK g (e.2.1-1).toNat) e.2.1 n ep).2):=by
  intro n
  induction n with
  | zero =>
   intro ep h1 h2
   refine GM ?_
   unfold EV
   rw [if_neg (by simp; omega)]
   rfl
  | succ n ih =>
   intro ep hp1 hp2
   refine GM ?_
   unfold EV IU
   have we:IntKind.i64.wrap (ep-1)=ep-1:=Az (by omega)
   have g1:=hg.views.get (i:=(ep-1).toNat) (by omega)
   rw [if_pos (by simp; omega),we,if_pos (by omega),if_pos (by omega),if_pos (by omega),if_pos (by omega)]
   change (if ((g.1.getD (ep-1).toNat []).getD 0 0 != e.2.1)=true then _ else _)=_
   by_cases hq:((g.1.getD (ep-1).toNat []).getD 0 0 != e.2.1)=true
   ·rw [if_pos hq,if_pos hq,Az (by omega)]
    exact ih (ep+1) (by omega) (by omega)
   ·rw [if_neg hq,if_neg hq,if_pos (by omega),if_pos (by omega)]
    change ((Mc (CK g (e.2.1-1).toNat) g.1 ep).bind _)=_
    rw [YZ _ _ _ m1 hg.views,X,g9 h1]
    cases hb:(E3 (CK g (e.2.1-1).toNat) g.1 ep).2.2 with
    | false=>rfl
    | true =>
     have ha:=TA (e:=ep) m1 hg.views hb
     have hal:=ha.2.2.2
     rw [if_pos rfl,if_pos rfl,if_pos (by omega),if_pos (by omega)]
     dsimp only
     have:=Gx (E3 (CK g (e.2.1-1).toNat) g.1 ep).2.1 [] at_ (g.1,g.2.1.set (e.2.1-1).toNat (E3 (CK g (e.2.1-1).toNat) g.1 ep).1,g.2.2.1,g.2.2.2) (by show g.2.2.1.length+_<=_; omega) (by show g.2.2.2.length<=_; omega) FV h3.calls
     rw [this,X]
     unfold A_
     rw [ha.2.1,m2,show (((e.2.1-1).toNat:Int)+1-1).toNat=(e.2.1-1).toNat by omega]
     rfl
 by_cases hle:(CK g (e.2.1-1).toNat).2.1<=(g.1.length:Int)
 ·exact key _ _ (by omega) (by omega)
 ·have e0:((g.1.length:Int)-(CK g (e.2.1-1).toNat).2.1).toNat=0:=by omega
  rw [e0]
  refine GM ?_
  unfold EV
  rw [if_neg (fun h=>hle (by have:=of_decide_eq_true h; omega))]
  rfl)
def LQ (g:AR) (i:Nat) (at_:Int):AR:=A_ (ES g i)
 (Db (CK g ((g.2.2.1.getD i ER).2.2.1-1).toNat) g.1 (g.2.2.1.getD i ER)).1 (Db (CK g ((g.2.2.1.getD i ER).2.2.1-1).toNat) g.1 (g.2.2.1.getD i ER)).2.1 (Db (CK g ((g.2.2.1.getD i ER).2.2.1-1).toNat) g.1 (g.2.2.1.getD i ER)).2.2 at_
theorem PN (at_:Int) (i:Nat) (g:AR) (k:Nat) (hg:Mk g k) (hk:k<=10000) (h3:V3 g) (hi:i<g.2.2.1.length):Gj (i:Int) at_ g=some (LQ g i at_):=SP (by
 have hc:=hg.clen
 have hf:=hg.flen
 have h6:=hg.six
 have hmem:g.2.2.1.getD i ER∈g.2.2.1:=by rw [AZ hi]; exact List.getElem_mem _
 have hx:=hg.fly _ hmem
 have hv2:=h3.fly _ hmem
 unfold LB LQ
 rw [if_pos (by omega),if_pos (by omega),Ae (by omega)]
 change ((BK g.2.2.1 (i:Int) ((i+1:Nat):Int)).bind fun y1=>((BY (g.2.2.1.getD i ER).2.2.1 (g.1,g.2.1,y1,g.2.2.2)).bind _))=_
 rw [Eb (by omega) (by omega),X]
 have hto:=hx.to
 generalize hxx:g.2.2.1.getD i ER=x at *
 obtain ⟨m1,m2⟩:=hg.mem (x.2.2.1-1).toNat (by omega)
 have hho:=NS (x:=x) m1 hg.views
 have hil:=Mi hx.items
 change ((BY x.2.2.1 (ES g i)).bind _)=_
 rw [D4 x.2.2.1 (ES g i) (hg.less i) hto,X]
 change (if decide (x.2.2.1-1>=0)=true then (if 0<=x.2.2.1-1 then (if x.2.2.1-1<(g.2.1.length:Int) then ((JP (CK g (x.2.2.1-1).toNat) g.1 (g.2.2.1.getD (i:Int).toNat ER)).bind _) else none) else none) else _)=_
 rw [Int.toNat_natCast,hxx,if_pos (by simp; omega),if_pos (by omega),if_pos (by omega),WD _ _ _ m1 hg.views (by omega),X]
 have hhi:Sq (CK g (x.2.2.1-1).toNat) g.1 x=Db (CK g (x.2.2.1-1).toNat) g.1 x:=by
  unfold Sq
  rw [if_pos (S8.2 hx),jN hv2.inst]
 rw [hhi]
 change (if 0<=x.2.2.1-1 then (if x.2.2.1-1<(g.2.1.length:Int) then _ else none) else none)=_
 rw [if_pos (by omega),if_pos (by omega)]
 dsimp only
 have htl:=hho.tlen
 have:=Gx (Db (CK g (x.2.2.1-1).toNat) g.1 x).2.1 (Db (CK g (x.2.2.1-1).toNat) g.1 x).2.2 at_
  ((ES g i).1,(ES g i).2.1.set (x.2.2.1-1).toNat (Db (CK g (x.2.2.1-1).toNat) g.1 x).1,(ES g i).2.2.1,(ES g i).2.2.2) (by
   have:(ES g i).2.2.1.length<=g.2.2.1.length:=by simp only [ES,List.length_append,List.length_take,List.length_drop]; omega
   show (ES g i).2.2.1.length+_<=_; omega) (by show g.2.2.2.length<=_; omega) hho.said h3.calls
 rw [this,X]
 unfold A_
 rw [hho.id,m2,show (((x.2.2.1-1).toNat:Int)+1-1).toNat=(x.2.2.1-1).toNat by omega])
theorem Rc (at_:Int) (e:EQ) (g:AR) (k:Nat) (hg:Mk g k) (hk:k<=1000) (h3:V3 g) (he:XE e=true):Fn e at_ g=some ((dI g at_ e).1==0,(dI g at_ e).2):=UL (by
 have hn:=Yl he
 have h6:=hg.six
 have hf:=hg.flen
 unfold NI dI
 by_cases h1:e.1=1
 ·rw [if_pos (by simpa using h1),if_pos h1,Ra at_ e g k hg hk h3 (by omega)]; rfl
 rw [if_neg (by simpa using h1),if_neg h1]
 by_cases h5:e.1=5
 ·rw [if_pos (by simpa using h5),if_pos h5,Rb at_ e g k hg hk h3 (by omega)]; rfl
 rw [if_neg (by simpa using h5),if_neg h5]
 by_cases h7:e.1=6
 ·obtain ⟨m1,m2⟩:=hg.mem (e.2.1-1).toNat (by omega)
  rw [if_pos (by simpa using h7),if_pos h7,D4 e.2.1 g hg (by omega),X]
  change (if 0<=e.2.1-1 then (if e.2.1-1<(g.2.1.length:Int) then ((Ny (CK g (e.2.1-1).toNat)).bind _) else none) else none)=_
  rw [if_pos (by omega),if_pos (by omega),az,X]
  change (if 0<=e.2.1-1 then (if e.2.1-1<(g.2.1.length:Int) then _ else none) else none)=_
  rw [if_pos (by omega),if_pos (by omega)]
  unfold A_
  have:((RC (CK g (e.2.1-1).toNat)).1-1).toNat=(e.2.1-1).toNat:=by
   show ((CK g (e.2.1-1).toNat).1-1).toNat=_
   rw [m2]; omega
  rw [this,List.append_nil]
  rfl
 rw [if_neg (by simpa using h7),if_neg h7]
 have hm:Gk e at_ g=some ((au g at_ e).1==0,(au g at_ e).2):=SU (by
  unfold LC au
  by_cases h0:g.2.2.1=[]
  ·rw [if_pos (by rw [h0]; rfl),if_pos h0]; rfl
  have hl:0<g.2.2.1.length:=by
   cases hq:g.2.2.1 with
   | nil=>exact absurd hq h0
   | cons a l=>simp
  have hem:Int.tmod e.2.2.1 (g.2.2.1.length:Int)=e.2.2.1 % (g.2.2.1.length:Int):=Int.tmod_eq_emod_of_nonneg (by omega)
  have hlt:(e.2.2.1 % (g.2.2.1.length:Int)).toNat<g.2.2.1.length:=by
   have h1:=Int.emod_lt_of_pos e.2.2.1 (show (0:Int)<(g.2.2.1.length:Int) by omega)
   have h2:=Int.emod_nonneg e.2.2.1 (show (g.2.2.1.length:Int)≠0 by omega)
   omega
  obtain ⟨i,hi⟩:∃ i:Nat,e.2.2.1 % (g.2.2.1.length:Int)=(i:Int):=⟨(e.2.2.1 % (g.2.2.1.length:Int)).toNat,by
   have h2:=Int.emod_nonneg e.2.2.1 (show (g.2.2.1.length:Int)≠0 by omega)
   omega⟩
  rw [if_neg (by simp only [beq_iff_eq]; omega),if_neg (by omega),if_neg h0,hem,hi]
  rw [hi,Int.toNat_natCast] at hlt
  simp only [Int.toNat_natCast]
  by_cases k2:e.1=2
  ·rw [if_pos (by simpa using k2),if_neg (by omega),if_neg (by omega),PN at_ i g k hg (by omega) h3 hlt]
   rfl
  rw [if_neg (by simpa using k2)]
  by_cases k3:e.1=3
  ·rw [if_pos (by simpa using k3),if_neg (by omega),if_pos k3,Ae (by omega),Eb (by omega) (by omega)]
   rfl
  have k4:e.1=4:=by omega
  have hmem:g.2.2.1.getD i ER∈g.2.2.1:=by rw [AZ hlt]; exact List.getElem_mem _
  have hil:=Mi (hg.fly _ hmem).items
  rw [if_neg (by simpa using k3),if_pos (by simpa using k4),if_pos k4,if_pos (by omega),if_pos (by omega)]
  change ((FM (g.2.2.1.getD i ER)).bind _)=_
  rw [Jo _ (by omega),X,if_pos (by simp; omega)]
  rfl)
 rw [hm]
 rfl)
theorem WF {views:List (List Int)} {events:List EQ} (hv:Rd views) (hl:events.length<=70) (he:∀ e∈events,XE e=true) :
  Ht views events=some ((OT 0 events (Aq views) []).1,(OT 0 events (Aq views) []).2,true):=X4 (by
 have hg:=bZ hv
 obtain ⟨r1,r2,r3⟩:=c_ events 0 (Aq views) [] hg (by omega) he
 unfold Qj
 rw [WE hv,X,if_pos (by rfl),if_neg (by simp; omega)]
 refine UF ?_
 unfold M7
 have codes:∀ (g:AR) (a:Int) (e:EQ),XE e=true->(dI g a e).1=0\/(dI g a e).1=1:=by
  intro g a e he
  have hfa:∀ (m:Y) (nd:Int) (n:Nat) (ep:Int),(IU g a m nd n ep).1=0\/(IU g a m nd n ep).1=1:=by
   intro m nd n
   induction n with
   | zero=>intro ep; exact .inr rfl
   | succ n ih =>
    intro ep
    unfold IU
    split
    ·exact ih _
    ·split
     ·exact .inl rfl
     ·exact .inr rfl
  unfold dI
  split
  ·unfold Lq; split
   ·exact .inl rfl
   ·exact .inr rfl
  ·split
   ·exact hfa _ _ _ _
   ·split
    ·exact .inl rfl
    ·unfold au
     split
     ·exact .inr rfl
     ·split
      ·exact .inl rfl
      ·split
       ·exact .inl rfl
       ·exact .inl rfl
 have L3:∀ a b c d,EL events (events.length:Int) ((0:Nat):Int) a b c d (Aq views).2.1 (Aq views).2.2.1 (Aq views).2.2.2 (Aq views).1 []=some ((OT 0 events (Aq views) []).1,(OT 0 events (Aq views) []).2,true):=by
  intro a b c d
  have key:=NZ (n:=events.length) (P:=fun i=>∀ (g:AR) (cs:List Int),Mk g i->V3 g->cs.length=i->OT i (events.drop i) g cs=OT 0 events (Aq views) []->EL events (events.length:Int) (i:Int) a b c d g.2.1 g.2.2.1 g.2.2.2 g.1 cs=some ((OT 0 events (Aq views) []).1,(OT 0 events (Aq views) []).2,true)) (fun g cs hgi h3 hcs hr=>M8 (by
   unfold IM
   rw [if_neg (by simp)]
   change ((G7 g).bind _)=_
   rw [Tb g events.length hgi (by omega),X]
   rw [List.drop_eq_nil_of_le (Nat.le_refl _)] at hr
   rw [<- hr]
   rfl)) (fun i hi ih g cs hgi h3 hcs hr=>M8 (by
   unfold IM
   obtain ⟨d2,_⟩:=hgi.event (at_:=(i:Int)) (he _ (List.getElem_mem hi))
   have hz:events.getD i ((0:Int),(0:Int),(0:Int),(0:Int),ByteArray.empty,ByteArray.empty)=events[i]:=AZ hi
   simp only [show ((i:Int)<(events.length:Int)) from by omega,decide_true,if_true,show (0:Int)<=(i:Int) from by omega,Int.toNat_natCast,hz,Ae (show i<9223372036854775807 by omega)]
   change ((Fn events[i] (i:Int) g).bind _)=_
   rw [Rc (i:Int) events[i] g i hgi (by omega) h3 (he _ (List.getElem_mem hi)),X]
   have hcode:OM ((dI g (i:Int) events[i]).1==0)=some (dI g (i:Int) events[i]).1:=am (by
    unfold Tk
    rcases codes g (i:Int) events[i] (he _ (List.getElem_mem hi)) with q | q<;>rw [q]<;>rfl)
   dsimp only
   rw [hcode,X,if_pos (by simp; omega)]
   refine ih _ _ d2 (h3.event hgi (by omega) (he _ (List.getElem_mem hi))) (by simp; omega) ?_
   rw [EF hi] at hr
   exact hr)) 0 (by omega) (Aq views) [] hg (V3.new hv) rfl rfl
  exact key
 have L1:∀ a b c d,EM events events (events.length:Int) ((0:Nat):Int) a b c d (Aq views).2.1 (Aq views).2.2.1 (Aq views).2.2.2 (Aq views).1=some ((OT 0 events (Aq views) []).1,(OT 0 events (Aq views) []).2,true):=by
  intro a b c d
  refine NZ (n:=events.length) (P:=fun i=>EM events events (events.length:Int) (i:Int) a b c d (Aq views).2.1 (Aq views).2.2.1 (Aq views).2.2.2 (Aq views).1=some ((OT 0 events (Aq views) []).1,(OT 0 events (Aq views) []).2,true)) (M9 (by
   unfold IN
   rw [if_neg (by simp)]
   refine UE ?_
   unfold M6
   exact L3 _ _ _ _)) (fun i hi ih=>M9 (by
   unfold IN
   have hz:events.getD i ((0:Int),(0:Int),(0:Int),(0:Int),ByteArray.empty,ByteArray.empty)=events[i]:=AZ hi
   simp only [show ((i:Int)<(events.length:Int)) from by omega,decide_true,if_true,show (0:Int)<=(i:Int) from by omega,Int.toNat_natCast,hz,Ae (show i<9223372036854775807 by omega)]
   rw [V6,he _ (List.getElem_mem hi),X,if_neg (by simp)]
   exact ih)) 0 (by omega)
 exact L1 _ _ _ _)

theorem g_ {β:Type} {n:Nat} {L:Nat->Option β} {b:Nat->Bool} {e s:β} (h0:L n=some e) (h:∀ i,i<n->∀ w,L (i+1)=some w->L i=some (if b i=true then w else s)) :
  ∀ i,i<=n->L i=some (if (List.range' i (n-i)).all b=true then e else s):=by
 refine NZ (P:=fun i=>L i=some (if (List.range' i (n-i)).all b=true then e else s)) (by simp [h0]) fun i hi ih=>?_
 rw [h i hi _ ih,show n-i=(n-(i+1))+1 from by omega,List.range'_succ,List.all_cons]
 by_cases hb:b i=true
 ·rw [if_pos hb,hb,Bool.true_and]
 ·have hb':b i=false:=by simpa using hb
  rw [if_neg hb,hb',Bool.false_and]
  rfl
theorem NU {β:Type} {n:Nat} {L:Nat->Option β} {b:Nat->Bool} {e s:β} (h0:L n=some e) (h:∀ i,i<n->∀ w,L (i+1)=some w->L i=some (if b i=true then w else s)) :
  L 0=some (if (List.range n).all b=true then e else s):=by
 have:=g_ h0 h 0 (by omega)
 rwa [Nat.sub_zero,<- List.range_eq_range'] at this
theorem f5 (b:Bool):(if b=true then true else false)=b:=by cases b<;>rfl
def TC:AI:=(ByteArray.empty,ByteArray.empty,0)
def XK:Y:=((0:Int),(0:Int),false,false,false,false,[],[],(0:Int),(0:Int),(0:Int),(0:Int),(ByteArray.empty,ByteArray.empty,(0:Int)),[])
def Kh (a b:List AI):Bool:=(a.length==b.length)&&(List.range a.length).all fun i=>RD AL (a.getD i TC) (b.getD i TC)
theorem Gy (a b:List AI) (h:a.length<=maxLen):Cc a b=some (Kh a b):=IS (by
 have hm:a.length<=9223372036854775807:=h
 unfold EO Kh
 by_cases e:a.length=b.length
 ·rw [if_neg (by simp [e])]
  have:=NU (n:=a.length) (L:=fun i=>BT a b (a.length:Int) (i:Int)) (b:=fun i=>RD AL (a.getD i TC) (b.getD i TC)) (e:=true) (s:=false) (DZ (by
   unfold CJ
   rw [if_neg (by simp)])) (fun i hi w hw=>DZ (by
   unfold CJ
   rw [if_pos (by simpa using hi),if_pos (by omega),if_pos (by omega),if_pos (by omega),if_pos (by omega),Int.toNat_natCast,Ae (show i<9223372036854775807 by omega),hw]
   show _=some (if RD AL (a.getD i (ByteArray.empty,ByteArray.empty,(0:Int))) (b.getD i (ByteArray.empty,ByteArray.empty,(0:Int)))=true then w else false)
   generalize RD AL (a.getD i (ByteArray.empty,ByteArray.empty,(0:Int))) (b.getD i (ByteArray.empty,ByteArray.empty,(0:Int)))=q
   cases q<;>rfl))
  simp only [e,beq_self_eq_true,Bool.true_and]
  rw [e] at this
  rw [show ((0:Int))=((0:Nat):Int) from rfl,this]
  cases (List.range b.length).all fun i=>RD AL (a.getD i TC) (b.getD i TC)<;>rfl
 ·rw [if_pos (by simpa using fun q=>e (by omega))]
  simp [e])
def HF (g:AR) (e:Int):List Int:=if 1<=e/\e<=(g.1.length:Int) then g.1.getD (e-1).toNat [] else []
theorem KI (e:Int) (g:AR) (h:g.1.length<=maxLen):GX e g=some (HF g e,g):=Vm (by
 have hm:g.1.length<=9223372036854775807:=h
 unfold N2 HF
 rw [Ag,X]
 by_cases c:1<=e/\e<=(g.1.length:Int)
 ·rw [if_neg (by simp [c.1,c.2]),Az (by omega),if_pos (by omega),if_pos (by omega),if_pos c]
 ·rw [if_pos (by rw [<- Bool.decide_and,decide_eq_false c]; rfl),if_neg c])
def AS (g:AR) (i:Nat):Y:=g.2.1.getD i XK
def Uh (g:AR) (m:Y):Bool:=!((HF g m.2.1).length==0)&&(HF g m.2.1).getD 0 0==m.1
def aK (g:AR):Bool:=(List.range g.2.1.length).all fun i=>!(AS g i).2.2.2.2.2.1||(Uh g (AS g i)&&(List.range i).all fun k=>!((AS g k).2.2.2.2.2.1&&(AS g k).2.1==(AS g i).2.1))
theorem Ss (g:AR) (h1:g.1.length<=maxLen) (h2:g.2.1.length<=maxLen):KO g=some (aK g):=Wu (by
 have hm1:g.1.length<=9223372036854775807:=h1
 have hm2:g.2.1.length<=9223372036854775807:=h2
 unfold Oz
 have key:=NU (n:=g.2.1.length) (L:=fun i=>Dk g.2.1 (g.2.1.length:Int) (i:Int) g.1 g.2.1 g.2.2.1 g.2.2.2) (b:=fun i=>!(AS g i).2.2.2.2.2.1||(Uh g (AS g i)&&(List.range i).all fun k=>!((AS g k).2.2.2.2.2.1&&(AS g k).2.1==(AS g i).2.1))) (e:=true) (s:=false) (MB (by
  unfold HS
  rw [if_neg (by simp)])) (fun i hi w hw=>MB (by
  unfold HS
  have hgd:(g.2.1.getD (i:Int).toNat ((0:Int),(0:Int),false,false,false,false,([]:List Int),([]:List AI),(0:Int),(0:Int),(0:Int),(0:Int),(ByteArray.empty,ByteArray.empty,(0:Int)),([]:List Int)))=AS g i:=rfl
  rw [if_pos (by simpa using hi),if_pos (by omega),if_pos (by omega)]
  simp only [hgd,KI _ (g.1,g.2.1,g.2.2.1,g.2.2.2) h1,X,Ae (show i<9223372036854775807 by omega),hw]
  have inner:∀ b,HQ (i:Int) g.2.1 (g.2.1.length:Int) (i:Int) b g (AS g i)=some (if (List.range i).all (fun k=>!((AS g k).2.2.2.2.2.1&&(AS g k).2.1==(AS g i).2.1))=true then w else false):=fun b=>TM (by
   unfold L_
   have hl:((g.2.1.take (i:Int).toNat).drop (0:Int).toNat)=g.2.1.take i:=by simp
   have hl2:(g.2.1.take i).length=i:=by rw [List.length_take]; omega
   rw [if_pos (by omega),if_pos (by omega),if_pos (by omega),hl,hl2]
   refine NU (n:=i) (L:=fun k=>Dj g.2.1 (g.2.1.length:Int) (i:Int) (g.2.1.take i) (i:Int) (k:Int) g (AS g i)) (MA (by
    unfold HR
    rw [if_neg (by simp),Ae (show i<9223372036854775807 by omega)]
    exact hw)) (fun k hk u hu=>MA (by
    unfold HR
    have hgk:((g.2.1.take i).getD (k:Int).toNat ((0:Int),(0:Int),false,false,false,false,([]:List Int),([]:List AI),(0:Int),(0:Int),(0:Int),(0:Int),(ByteArray.empty,ByteArray.empty,(0:Int)),([]:List Int)))=AS g k:=by
     show (g.2.1.take i).getD k XK=g.2.1.getD k XK
     rw [AZ (by omega),AZ (by omega),List.getElem_take]
    rw [if_pos (by simpa using hk),if_pos (by omega),if_pos (by omega)]
    simp only [hgk,if_true,Ae (show k<9223372036854775807 by omega),hu]
    cases (AS g k).2.2.2.2.2.1<;>cases ((AS g k).2.1==(AS g i).2.1)<;>simp)))
  generalize (List.range i).all (fun k=>!((AS g k).2.2.2.2.2.1&&(AS g k).2.1==(AS g i).2.1))=q at inner ⊢
  have hview:HF (g.1,g.2.1,g.2.2.1,g.2.2.2) (AS g i).2.1=HF g (AS g i).2.1:=rfl
  rw [hview]
  cases hs:(AS g i).2.2.2.2.2.1
  ·simp
  ·simp only [Bool.not_true,Bool.false_or,Bool.false_eq_true,if_false]
   unfold Uh
   generalize HF g (AS g i).2.1=v
   by_cases c2:v.length=0
   ·rw [if_pos (by simp [c2])]
    simp [c2]
   ·rw [if_neg (by simp only [beq_iff_eq]; omega),if_pos (by omega),if_pos (by omega),Int.toNat_zero]
    have hv:(!v.length==0)=true:=by simp [c2]
    by_cases c3:v.getD 0 0=(AS g i).1
    ·rw [if_neg (by simpa using c3),show ((g.1,g.2.1,g.2.2.1,g.2.2.2):AR)=g from rfl,inner,hv,c3,beq_self_eq_true,Bool.true_and,Bool.true_and]
    ·rw [if_pos (by simpa using c3)]
     have hv2:(v.getD 0 0==(AS g i).1)=false:=by simpa using c3
     rw [hv2]
     simp))
 rw [f5] at key
 exact key)
theorem aL (x:AI):RD AL x x=true:=by simp [RD]
theorem Ya (a:List AI):Kh a a=true:=by
 unfold Kh
 simp only [beq_self_eq_true,Bool.true_and,List.all_eq_true]
 exact fun i _=>aL _
def WG (g:AR) (m x:Y):Bool:=decide (x.1∈HF g m.2.1)&&x.2.2.2.1&&(x.2.1==m.2.1)&&!Kh x.2.2.2.2.2.2.2.1 m.2.2.2.2.2.2.2.1
def jP (g:AR):Bool:=(List.range g.2.1.length).all fun i=>!(AS g i).2.2.2.2.2.1||!((AS g i).2.2.2.2.2.2.2.2.2.1==0)||(List.range g.2.1.length).all fun k=>!WG g (AS g i) (AS g k)
structure mx (g:AR):Prop where
 n1:g.1.length<=maxLen
 n2:g.2.1.length<=maxLen
 n3:∀ e,(HF g e).length<=maxLen
 n4:∀ k,k<g.2.1.length->(AS g k).2.2.2.2.2.2.2.1.length<=maxLen
theorem XL (g:AR) (hx:mx g):Pr g=some (jP g):=cm (by
 have hm1:g.1.length<=9223372036854775807:=hx.n1
 have hm2:g.2.1.length<=9223372036854775807:=hx.n2
 unfold Vf
 have key:=NU (n:=g.2.1.length) (L:=fun i=>Eh g.2.1 (g.2.1.length:Int) (i:Int) g.1 g.2.1 g.2.2.1 g.2.2.2) (b:=fun i=>!(AS g i).2.2.2.2.2.1||!((AS g i).2.2.2.2.2.2.2.2.2.1==0)||(List.range g.2.1.length).all fun k=>!WG g (AS g i) (AS g k)) (e:=true) (s:=false) (Qy (by
  unfold Li
  rw [if_neg (by simp)])) (fun i hi w hw=>Qy (by
  unfold Li
  have hgd:(g.2.1.getD (i:Int).toNat ((0:Int),(0:Int),false,false,false,false,([]:List Int),([]:List AI),(0:Int),(0:Int),(0:Int),(0:Int),(ByteArray.empty,ByteArray.empty,(0:Int)),([]:List Int)))=AS g i:=rfl
  rw [if_pos (by simpa using hi),if_pos (by omega),if_pos (by omega)]
  simp only [hgd,Ae (show i<9223372036854775807 by omega),hw]
  generalize hm:AS g i=m
  cases hs:m.2.2.2.2.2.1
  ·simp
  ·by_cases ho:m.2.2.2.2.2.2.2.2.2.1=0
   ·rw [if_pos (by simp),if_neg (by simp [ho])]
    have inner:∀ b,Lg (i:Int) g.2.1 (g.2.1.length:Int) (i:Int) b g.1 g.2.1 g.2.2.1 g.2.2.2 m=some (if (List.range g.2.1.length).all (fun k=>!WG g m (AS g k))=true then w else false):=fun b=>YF (by
     unfold Qw
     rw [KI _ (g.1,g.2.1,g.2.2.1,g.2.2.2) hx.n1,X]
     show CZ (i:Int) (HF g m.2.1) g.2.1 (g.2.1.length:Int) (i:Int) g.2.1 (g.2.1.length:Int) 0 g m=_
     refine NU (n:=g.2.1.length) (L:=fun k=>CZ (i:Int) (HF g m.2.1) g.2.1 (g.2.1.length:Int) (i:Int) g.2.1 (g.2.1.length:Int) (k:Int) g m) (Qx (by
      unfold Lh
      rw [if_neg (by simp),Ae (show i<9223372036854775807 by omega)]
      exact hw)) (fun k hk u hu=>Qx (by
      unfold Lh
      have hgk:(g.2.1.getD (k:Int).toNat ((0:Int),(0:Int),false,false,false,false,([]:List Int),([]:List AI),(0:Int),(0:Int),(0:Int),(0:Int),(ByteArray.empty,ByteArray.empty,(0:Int)),([]:List Int)))=AS g k:=rfl
      have hok:=hx.n4 k hk
      rw [if_pos (by simpa using hk),if_pos (by omega),if_pos (by omega)]
      simp only [hgk,Ae (show k<9223372036854775807 by omega),hu,OF _ _ (hx.n3 _),List.contains_eq_mem,Gy _ _ hok,X]
      by_cases hki:k=i
      ·subst hki
       rw [if_neg (by simp),hm]
       unfold WG
       rw [Ya]
       simp
      ·rw [if_pos (by simpa using fun q=>hki (by omega))]
       unfold WG
       generalize decide ((AS g k).1∈HF g m.2.1)=a
       generalize (AS g k).2.2.2.1=b
       generalize ((AS g k).2.1==m.2.1)=d
       generalize Kh (AS g k).2.2.2.2.2.2.2.1 m.2.2.2.2.2.2.2.1=e
       cases a<;>cases b<;>cases d<;>cases e<;>simp)))
    rw [inner]
    simp [ho]
   ·rw [if_pos (by simp),if_pos (by simp [ho])]
    simp [ho]))
 rw [f5] at key
 exact key)
theorem Mk.fit {g:AR} {n:Nat} (hg:Mk g n):mx g:=by
 have hl:=hg.views.len
 have h6:=hg.six
 refine ⟨by unfold maxLen; omega,by unfold maxLen; omega,fun e=>?_,fun k hk=>?_⟩
 ·unfold HF
  split
  ·have:=(hg.views.get (i:=(e-1).toNat) (by omega)).2
   unfold maxLen; omega
  ·unfold maxLen; simp
 ·have:=Mi (hg.mem k (by omega)).1.items
  change (CK g k).2.2.2.2.2.2.2.1.length<=_
  unfold maxLen; omega

theorem dE (x:List AI) {k k2:ByteArray} (h:k.toList=k2.toList):BJ x k=BJ x k2:=by
 unfold BJ
 rw [h]
theorem ky {x:List AI} {a b:AI} (hx:BS x=true) (hb:b∈x):b.2.2<=(BJ (Aj x a) b.1).2.2:=by
 have ho:=(CT.1 hx).2.1
 have same:b.2.2<=(BJ x b.1).2.2:=by rw [Ke ho hb]; exact Int.le_refl _
 unfold Aj
 split
 ·exact same
 ·rename_i hs
  try rw [if_pos hx]
  split
  ·rename_i hl
   have ho':=(CT.1 hl).2.1
   cases hk:(b.1.toList==a.1.toList) with
   | false=>rw [Ke ho' (fD hb hk)]; exact Int.le_refl _
   | true =>
    rw [dE _ (beq_iff_eq.1 hk),Ke ho' Z4]
    have:¬ (b.2.2>=a.2.2):=fun h=>hs (List.any_eq_true.2 ⟨b,hb,by rw [hk]; simpa using h⟩)
    omega
  ·exact same

structure PM where
 ep:Int
 fell:Bool
 base:Bool
 leads:Bool
 serves:Bool
 waits:List Int
 items:List AI
 cnt:Int
 op:Int
 call:Int
 num:Int
 ti:AI
 left:List Int
structure PX where
 kind:Int
 frm:Int
 to:Int
 ep:Int
 num:Int
 items:List AI
structure PC where
 op:Int
 key:ByteArray
 val:ByteArray
 wen:Int
 done:Int
 ver:Int
 ep:Int
 num:Int
 got:ByteArray
structure PG where
 mem:Int->PM
 fly:List PX
 calls:List PC
def PG.set (g:PG) (i:Int) (m:PM) (T:List PX):PG:={ g with mem:=fun j=>if j=i then m else g.mem j,fly:=g.fly++T }
def CL (V:Int->List Int) (e:Int):Int:=(V e).getD 0 0
def PM.idle (m:PM) (e:Int) (b l:Bool) (its:List AI):PM:={ ep:=e,fell:=false,base:=b,leads:=l,serves:=false,waits:=[],items:=its,cnt:=0,op:=0,call:=0,num:=0,ti:=(ByteArray.empty,ByteArray.empty,0),left:=[] }
inductive CE (V:Int->List Int) (nv:Int) (g:PG) (i:Int):PM->List PX->Prop
 | closes (x:PX) (hx:x∈g.fly) (h1:x.ep=(g.mem i).ep+1) (h2:(g.mem i).base=true) (h3:x.ep<=nv):CE V nv g i ((g.mem i).idle x.ep false false (g.mem i).items) [⟨2,i,x.frm,x.ep,0,(g.mem i).items⟩]
 | stat (x:PX) (hx:x∈g.fly) (h1:x.kind=2) (h2:x.ep=(g.mem i).ep) (h3:(g.mem i).leads=true) (h4:(g.mem i).base=false) (W:List Int) (hw:∀ k,k∈W↔k∈V x.ep/\k≠i) (T:List PX) (hT:∀ y∈T,y.kind=3/\y.ep=x.ep/\y.items=x.items/\y.frm=i) :
   CE V nv g i { g.mem i with base:=true,items:=x.items,waits:=W,serves:=W.isEmpty } T
 | inst (x:PX) (hx:x∈g.fly) (h1:x.kind=3) (h2:(g.mem i).ep<x.ep\/(g.mem i).ep=x.ep/\(g.mem i).base=false/\(g.mem i).fell=false) (h3:i∈V x.ep) (h4:CL V x.ep≠i) (h5:x.ep<=nv) :
   CE V nv g i ((g.mem i).idle x.ep true false x.items) [⟨4,i,x.frm,x.ep,x.num,[]⟩]
 | again (x:PX) (hx:x∈g.fly) (h1:x.kind=3) (h2:(g.mem i).ep=x.ep) (h3:(g.mem i).base=true):CE V nv g i (g.mem i) [⟨4,i,x.frm,x.ep,x.num,[]⟩]
 | told (x:PX) (hx:x∈g.fly) (h1:x.kind=4) (h2:(g.mem i).ep=x.ep) (h3:(g.mem i).leads=true) :
   CE V nv g i { g.mem i with waits:=(g.mem i).waits.filter (· != x.frm),serves:=(g.mem i).base&&((g.mem i).waits.filter (· != x.frm)).isEmpty } []
 | store (x:PX) (hx:x∈g.fly) (h1:x.kind=5) (h2:(g.mem i).ep=x.ep) (h3:(g.mem i).base=true) (h4:i≠CL V x.ep) (a:AI) (h5:x.items=[a]) :
   CE V nv g i { g.mem i with items:=Aj (g.mem i).items a } [⟨6,i,x.frm,x.ep,x.num,[]⟩]
 | sure (x:PX) (hx:x∈g.fly) (h1:x.kind=7) (h2:(g.mem i).ep=x.ep) (h3:(g.mem i).base=true):CE V nv g i (g.mem i) [⟨8,i,x.frm,x.ep,x.num,[]⟩]
 | less (x:PX) (hx:x∈g.fly) (h1:(g.mem i).op=1/\x.kind=6\/(g.mem i).op=2/\x.kind=8) (h2:(g.mem i).ep=x.ep) (h3:(g.mem i).num=x.num):CE V nv g i { g.mem i with left:=(g.mem i).left.filter (· != x.frm) } []
 | had (e:Int) (h1:e=(g.mem i).ep+1) (h2:(g.mem i).base=true) (h3:CL V e=i) (h4:e<=nv) (W:List Int) (hw:∀ k,k∈W↔k∈V e/\k≠i) (T:List PX) (hT:∀ y∈T,y.kind=3/\y.ep=e/\y.items=(g.mem i).items/\y.frm=i) :
   CE V nv g i { (g.mem i).idle e true true (g.mem i).items with waits:=W,serves:=W.isEmpty } T
 | took (e:Int) (h1:(g.mem i).ep<e) (h3:CL V e=i) (h4:e<=nv) (T:List PX) (hT:∀ y∈T,y.kind=1/\y.ep=e/\y.items=[]):CE V nv g i ((g.mem i).idle e false true (g.mem i).items) T
 | fall:CE V nv g i { (g.mem i).idle (g.mem i).ep false false [] with fell:=true } []
def PO (g:PG) (k e:Int):Prop:=e<(g.mem k).ep\/((g.mem k).ep=e/\((g.mem k).base=true\/(g.mem k).fell=true))
theorem CE.ep {V nv g i m T} (h:CE V nv g i m T):(g.mem i).ep<=m.ep:=by
 cases h<;>simp_all [PM.idle]<;>grind
theorem PO.step {V nv g i m T k e} (h:CE V nv g i m T) (hb:PO g k e):PO (g.set i m T) k e:=by
 unfold PO PG.set at *
 cases h<;>simp_all [PM.idle]<;>grind
def B1 (V:Int->List Int) (g:PG) (e:Int):Prop:=∀ d,1<=d->d<e->∃ j∈V d,d<(g.mem j).ep
theorem Yn {V nv g i m T} (h:CE V nv g i m T) (j:Int):(g.mem j).ep<=((g.set i m T).mem j).ep:=by
 have:=h.ep
 simp only [PG.set]
 split
 ·rename_i e; subst e; exact this
 ·exact Int.le_refl _
theorem B1.mono {V g g' e} (h:B1 V g e) (hm:∀ j,(g.mem j).ep<=(g'.mem j).ep):B1 V g' e:=fun d h1 h2=>by
 obtain ⟨j,hj,h3⟩:=h d h1 h2
 exact ⟨j,hj,by have:=hm j; omega⟩
theorem B1.next {V g e j} (h:B1 V g e) (hj:j∈V e) (hl:e<(g.mem j).ep):B1 V g (e+1):=fun d h1 h2=>by
 by_cases q:d=e
 ·subst q; exact ⟨j,hj,hl⟩
 ·exact h d h1 (by omega)
structure IA (V:Int->List Int) (nv:Int) (g:PG):Prop where
 pos:∀ i,1<=(g.mem i).ep
 lead:∀ i,(g.mem i).leads=true->(g.mem i).ep<=nv/\CL V (g.mem i).ep=i
 view:∀ i,(g.mem i).base=true->(g.mem i).ep<=nv/\i∈V (g.mem i).ep
 serv:∀ i,(g.mem i).serves=true->(g.mem i).base=true/\(g.mem i).leads=true/\(g.mem i).waits=[]
 task:∀ i,(g.mem i).op≠0->(g.mem i).serves=true/\((g.mem i).op=1\/(g.mem i).op=2)/\(g.mem i).num=(g.mem i).cnt
 cnt:∀ i,0<=(g.mem i).cnt
 fell:∀ i,(g.mem i).fell=true->(g.mem i).base=false/\(g.mem i).leads=false
theorem IA.step {V nv g i m T} (h:IA V nv g) (hv:∀ e,1<=e->e<=nv->CL V e∈V e) (hs:CE V nv g i m T):IA V nv (g.set i m T):=by
 obtain ⟨a1,a2,a3,a4,a5,a6,a7⟩:=h
 have b1:=a1 i; have b2:=a2 i; have b3:=a3 i; have b4:=a4 i; have b5:=a5 i; have b6:=a6 i; have b7:=a7 i
 have key:1<=m.ep/\(m.leads=true->m.ep<=nv/\CL V m.ep=i)/\(m.base=true->m.ep<=nv/\i∈V m.ep)/\(m.serves=true->m.base=true/\m.leads=true/\m.waits=[])/\(m.op≠0->m.serves=true/\(m.op=1\/m.op=2)/\m.num=m.cnt)/\0<=m.cnt/\(m.fell=true->m.base=false/\m.leads=false):=by
  cases hs<;>simp_all [PM.idle]<;>grind
 refine ⟨fun j=>?_,fun j=>?_,fun j=>?_,fun j=>?_,fun j=>?_,fun j=>?_,fun j=>?_⟩<;>simp only [PG.set]<;>split<;>grind
structure IB (V:Int->List Int) (g:PG):Prop where
 mem:∀ i,(g.mem i).base=true->B1 V g (g.mem i).ep
 fly:∀ x∈g.fly,x.kind=2\/x.kind=3->B1 V g x.ep
theorem IB.step {V nv g i m T} (h:IB V g) (ha:IA V nv g) (hv:∀ e,1<=e->e<=nv->CL V e∈V e) (hs:CE V nv g i m T):IB V (g.set i m T):=by
 have hm:=Yn hs
 have mono:∀ e,B1 V g e->B1 V (g.set i m T) e:=fun e h=>h.mono hm
 have next:∀ e,B1 V g e->i∈V e->e<m.ep->B1 V (g.set i m T) (e+1):=fun e h h1 h2=>(mono e h).next h1 (by simp [PG.set]; exact h2)
 have b:=h.mem i
 have v:=ha.view i
 have f:=h.fly
 have k1:m.base=true->B1 V (g.set i m T) m.ep:=by
  generalize g.set i m T=g' at *
  cases hs<;>simp_all [PM.idle]<;>grind
 have k2:∀ y∈T,y.kind=2\/y.kind=3->B1 V (g.set i m T) y.ep:=by
  generalize g.set i m T=g' at *
  cases hs<;>simp_all [PM.idle]<;>grind
 refine ⟨fun j=>?_,fun y hy hk=>?_⟩
 ·show ((if j=i then m else g.mem j).base=true->B1 V _ (if j=i then m else g.mem j).ep)
  split
  ·exact k1
  ·exact fun hb=>mono _ (h.mem j hb)
 ·rcases List.mem_append.1 hy with e | e
  ·exact mono _ (h.fly y e hk)
  ·exact k2 y e hk
def HJ (g:PG) (i:Int):Prop:=∃ j∈(g.mem i).left,(g.mem i).ep<(g.mem j).ep/\∀ x∈g.fly,((g.mem i).op=1/\x.kind=6\/(g.mem i).op=2/\x.kind=8)->x.frm=j->x.ep=(g.mem i).ep->x.num≠(g.mem i).num
structure IT (V:Int->List Int) (g:PG) (vr:Nat->Int) (now:Int):Prop where
 st:∀ k,vr k≠0->∃ e n,vr k=1000*e+n/\1<=e/\1<=n/\n<=900/\e<=(g.mem (CL V e)).ep/\((g.mem (CL V e)).ep=e->(g.mem (CL V e)).leads=true->(g.mem (CL V e)).base=true/\n<=(g.mem (CL V e)).cnt)
 inj:∀ k l,vr k≠0->vr k=vr l->k=l
 out:∀ k,g.calls.length<=k->vr k=0
 act:∀ i,(g.mem i).op≠0->∃ (k:Nat) (c:PC),(g.mem i).call=(k:Int)/\g.calls[k]? = some c/\vr k=1000*(g.mem i).ep+(g.mem i).num/\c.done<0/\c.op=(g.mem i).op/\c.key=(g.mem i).ti.1/\c.val=(g.mem i).ti.2.1/\(g.mem i).ti.2.2=vr k/\1<=(g.mem i).num/\(g.mem i).num<=900
 dn:∀ (k:Nat) c,g.calls[k]? = some c->0<=c.done->vr k=1000*c.ep+c.num/\1<=c.ep/\1<=c.num/\c.num<=900/\B1 V g c.ep/\c.done<=now/\c.wen<=c.done
 wn:∀ (k:Nat) c,g.calls[k]? = some c->c.wen<=now
 fl:∀ x∈g.fly,5<=x.kind->x.kind<=8->x.ep<=(g.mem (CL V x.ep)).ep/\((g.mem (CL V x.ep)).ep=x.ep->(g.mem (CL V x.ep)).leads=true->x.num<=(g.mem (CL V x.ep)).cnt)
 tm:∀ i,(g.mem i).op≠0->∀ (k l:Nat) c a,(g.mem i).call=(k:Int)->g.calls[k]? = some c->g.calls[l]? = some a->0<=a.done->a.done<c.wen->a.ep<=(g.mem i).ep\/HJ g i
 or:∀ (k l:Nat) a b,g.calls[k]? = some a->g.calls[l]? = some b->0<=a.done->0<=b.done->a.done<b.wen->vr k<vr l
theorem CE.task {V nv g i m T} (h:CE V nv g i m T):m.op≠0->m.ep=(g.mem i).ep/\m.op=(g.mem i).op/\m.call=(g.mem i).call/\m.num=(g.mem i).num/\m.ti=(g.mem i).ti/\m.cnt=(g.mem i).cnt:=by
 cases h<;>simp_all [PM.idle]
theorem CE.lead {V nv g i m T} (h:CE V nv g i m T):m.ep=(g.mem i).ep->m.leads=true->(g.mem i).leads=true/\m.cnt=(g.mem i).cnt/\((g.mem i).base=true->m.base=true):=by
 cases h<;>simp_all [PM.idle]<;>grind
theorem CE.new {V nv g i m T} (h:CE V nv g i m T):m.ep≠(g.mem i).ep->m.cnt=0/\m.op=0:=by
 cases h<;>simp_all [PM.idle]<;>grind
theorem CE.talk {V nv g i m T} (h:CE V nv g i m T):∀ y∈T,5<=y.kind->(y.kind=6\/y.kind=8)/\y.frm=i/\y.ep=(g.mem i).ep/\∃ x∈g.fly,5<=x.kind/\x.kind<=8/\x.ep=y.ep/\x.num=y.num:=by
 cases h<;>simp_all [PM.idle]<;>grind
theorem HJ.step {V nv g i m T j} (h:CE V nv g i m T) (hb:HJ g j) (ho:((g.set i m T).mem j).op≠0):HJ (g.set i m T) j:=by
 obtain ⟨k,hk,h1,h2⟩:=hb
 have hm:=Yn h
 have ht:=h.task
 have hta:=h.talk
 have hl:i=j->k∈m.left:=by
  intro e; subst e
  simp only [PG.set,if_true] at ho
  cases h<;>simp_all [PM.idle]<;>grind
 have hep:((g.set i m T).mem j).ep=(g.mem j).ep/\((g.set i m T).mem j).num=(g.mem j).num/\k∈((g.set i m T).mem j).left/\((g.set i m T).mem j).op=(g.mem j).op:=by
  simp only [PG.set] at ho ⊢
  grind
 refine ⟨k,hep.2.2.1,?_,fun x hx hk6 hf he=>?_⟩
 ·rw [hep.1]; have:=hm k; omega
 ·rw [hep.2.1]
  rw [hep.1] at he
  rw [hep.2.2.2] at hk6
  rcases List.mem_append.1 hx with e | e
  ·exact h2 x e hk6 hf he
  ·have:=hta x e (by omega)
   grind
theorem IT.mstep {V nv g i m T vr now} (h:IT V g vr now) (ha:IA V nv g) (hs:CE V nv g i m T):IT V (g.set i m T) vr now:=by
 have hm:=Yn hs
 have ht:=hs.task
 have hl:=hs.lead
 have hn:=hs.new
 have hta:=hs.talk
 have hstk:=fun j=>HJ.step (j:=j) hs
 have mono:∀ e,B1 V g e->B1 V (g.set i m T) e:=fun e h=>h.mono hm
 have hmem:∀ j,(g.set i m T).mem j=if j=i then m else g.mem j:=fun _=>rfl
 have hfly:(g.set i m T).fly=g.fly++T:=rfl
 have hc:(g.set i m T).calls=g.calls:=rfl
 have hep:=hs.ep
 generalize g.set i m T=g' at *
 obtain ⟨c1,c2,c3,c4,c5,c6,c7,c8,c9⟩:=h
 have hlead:=ha.lead
 refine ⟨?_,c2,by rw [hc]; exact c3,?_,?_,by rw [hc]; exact c6,?_,?_,by rw [hc]; exact c9⟩
 ·intro k hk
  obtain ⟨e,n,d⟩:=c1 k hk
  refine ⟨e,n,?_⟩
  simp only [hmem]
  grind
 ·simp only [hmem,hc]
  grind
 ·rw [hc]
  grind
 ·intro x hx h5 h8
  rw [hfly] at hx
  simp only [hmem]
  grind
 ·intro j ho k l c a
  have:=c8 j
  have:=hstk j
  simp only [hmem,hc] at *
  grind
theorem HJ.less {g:PG} {f:List PX} {i:Int} (h:∀ x∈f,x∈g.fly) (hb:HJ g i):HJ { g with fly:=f } i:=by
 obtain ⟨j,h1,h2,h3⟩:=hb
 exact ⟨j,h1,h2,fun x hx=>h3 x (h x hx)⟩
theorem IT.drop {V g vr now f} (h:IT V g vr now) (hf:∀ x∈f,x∈g.fly):IT V { g with fly:=f } vr now:=by
 have hs:=fun i=>HJ.less (i:=i) hf
 obtain ⟨c1,c2,c3,c4,c5,c6,c7,c8,c9⟩:=h
 refine ⟨c1,c2,c3,c4,c5,c6,fun x hx=>c7 x (hf x hx),?_,c9⟩
 intro i ho k l c a h1 h2 h3 h4 h5
 exact (c8 i ho k l c a h1 h2 h3 h4 h5).imp id (hs i)
theorem IT.call {V g vr now} {c:PC} (h:IT V g vr now) (h1:c.done=-1) (h2:c.wen=now):IT V { g with calls:=g.calls++[c] } vr now:=by
 obtain ⟨c1,c2,c3,c4,c5,c6,c7,c8,c9⟩:=h
 have hg:∀ (k:Nat) d,(g.calls++[c])[k]? = some d->g.calls[k]? = some d\/(k=g.calls.length/\d=c):=by grind
 have hg2:∀ (k:Nat) d,g.calls[k]? = some d->(g.calls++[c])[k]? = some d:=by grind
 have hst:∀ i,HJ g i->HJ { g with calls:=g.calls++[c] } i:=fun i h=>h
 refine ⟨c1,c2,?_,?_,?_,?_,c7,?_,?_⟩
 ·grind
 ·intro i ho
  obtain ⟨k,d,q1,q2,q3⟩:=c4 i ho
  exact ⟨k,d,q1,hg2 k d q2,q3⟩
 ·intro k d hk hd
  rcases hg k d hk with e | ⟨e,e2⟩
  ·exact c5 k d e hd
  ·subst e2; omega
 ·intro k d hk
  rcases hg k d hk with e | ⟨e,e2⟩
  ·exact c6 k d e
  ·subst e2; omega
 ·intro i ho k l d a q1 q2 q3 q4 q5
  obtain ⟨k',d',r1,r2,_⟩:=c4 i ho
  have:k'=k:=by simp only at q1; omega
  subst this
  have q2':=hg2 k' d' r2
  simp only at q2
  rw [q2'] at q2
  cases q2
  rcases hg l a q3 with e | ⟨e,e2⟩
  ·exact (c8 i ho _ l _ a q1 r2 e q4 q5).imp id (hst i)
  ·subst e2; omega
 ·intro k l a b q1 q2 q3 q4 q5
  rcases hg k a q1 with e | ⟨e,e2⟩
  ·rcases hg l b q2 with f | ⟨f,f2⟩
   ·exact c9 k l a b e f q3 q4 q5
   ·subst f2; omega
  ·subst e2; omega
def Lr (g:PG) (i:Int) (c:PC) (L:List Int) (a:AI):PM:={ g.mem i with cnt:=(g.mem i).cnt+1,op:=c.op,call:=(g.calls.length:Int),num:=(g.mem i).cnt+1,ti:=a,left:=L }
theorem IT.start {V nv g vr now} {i:Int} {c:PC} {L:List Int} {a:AI} {T:List PX} (h:IT V g vr now) (hia:IA V nv g) (hib:IB V g) (h1:c.done=-1) (h2:c.wen=now) (h3:(g.mem i).serves=true) (h4:(g.mem i).op=0) (h5:c.op=1\/c.op=2) (h6:(g.mem i).cnt<900) (hL:∀ k,k∈L↔k∈V (g.mem i).ep/\k≠i) (hA:a=(c.key,c.val,1000*(g.mem i).ep+((g.mem i).cnt+1)))
  (hT:∀ y∈T,(y.kind=5/\c.op=1/\y.items=[a]\/y.kind=7/\c.op=2)/\y.ep=(g.mem i).ep/\y.num=(g.mem i).cnt+1/\y.frm=i) :
  IT V { (g.set i (Lr g i c L a) T) with calls:=g.calls++[c] } (fun k=>if k=g.calls.length then 1000*(g.mem i).ep+((g.mem i).cnt+1) else vr k) now:=by
 obtain ⟨c1,c2,c3,c4,c5,c6,c7,c8,c9⟩:=h
 have hg:∀ (k:Nat) d,(g.calls++[c])[k]? = some d->g.calls[k]? = some d/\k<g.calls.length\/(k=g.calls.length/\d=c):=by grind
 have hg2:∀ (k:Nat) d,g.calls[k]? = some d->(g.calls++[c])[k]? = some d/\k<g.calls.length:=by grind
 obtain ⟨s1,s2,s3⟩:=hia.serv i h3
 obtain ⟨l1,l2⟩:=hia.lead i s2
 have hpos:=hia.pos i
 have hcnt:=hia.cnt i
 have hz:vr g.calls.length=0:=c3 _ (Nat.le_refl _)
 generalize hq:({ (g.set i (Lr g i c L a) T) with calls:=g.calls++[c] }:PG)=g'
 have hmem:∀ j,g'.mem j=if j=i then Lr g i c L a else g.mem j:=by subst hq; intro j; rfl
 have hfly:g'.fly=g.fly++T:=by subst hq; rfl
 have hcal:g'.calls=g.calls++[c]:=by subst hq; rfl
 have hep:∀ j,(g'.mem j).ep=(g.mem j).ep/\(g'.mem j).leads=(g.mem j).leads/\(g'.mem j).base=(g.mem j).base/\(g.mem j).cnt<=(g'.mem j).cnt:=by
  intro j; rw [hmem]; split
  ·rename_i e; subst e; exact ⟨rfl,rfl,rfl,by simp only [Lr]; omega⟩
  ·exact ⟨rfl,rfl,rfl,Int.le_refl _⟩
 have hi:(g'.mem i).cnt=(g.mem i).cnt+1/\(g'.mem i).op=c.op/\(g'.mem i).call=(g.calls.length:Int)/\(g'.mem i).num=(g.mem i).cnt+1/\(g'.mem i).ti=a/\(g'.mem i).left=L:=by rw [hmem,if_pos rfl]; exact ⟨rfl,rfl,rfl,rfl,rfl,rfl⟩
 have hj:∀ j,j≠i->g'.mem j=g.mem j:=fun j e=>by rw [hmem,if_neg e]
 have rmono:∀ e,B1 V g e->B1 V g' e:=fun e h=>h.mono fun j=>by rw [(hep j).1]; exact Int.le_refl _
 have stuck:∀ e,B1 V g e->(g.mem i).ep<e->HJ g' i:=fun e hr he=>by
  obtain ⟨j,hjv,hjl⟩:=hr (g.mem i).ep hpos he
  have hne:j≠i:=fun e=>by subst e; omega
  refine ⟨j,by rw [hi.2.2.2.2.2]; exact (hL j).2 ⟨hjv,hne⟩,by rw [(hep i).1,(hep j).1]; exact hjl,fun x hx hk hf hxe=>?_⟩
  rw [(hep i).1] at hxe
  rw [hi.2.2.2.1]
  rw [hfly] at hx
  rcases List.mem_append.1 hx with q | q
  ·have:=c7 x q (by omega) (by omega)
   rw [hxe,l2] at this
   have:=this.2 rfl s2
   omega
  ·have:=hT x q
   omega
 refine ⟨?_,?_,?_,?_,?_,?_,?_,?_,?_⟩
 ·intro k hk
  by_cases e:k=g.calls.length
  ·subst e
   simp only [if_true]
   refine ⟨(g.mem i).ep,(g.mem i).cnt+1,rfl,hpos,by omega,by omega,?_,fun _ _=>?_⟩
   ·rw [(hep _).1,l2]; exact Int.le_refl _
   ·rw [l2,hi.1,(hep i).2.2.1]; exact ⟨s1,Int.le_refl _⟩
  ·simp only [if_neg e] at hk ⊢
   obtain ⟨e,n,d1,d2,d3,d4,d5,d6⟩:=c1 k hk
   refine ⟨e,n,d1,d2,d3,d4,by rw [(hep _).1]; exact d5,fun q1 q2=>?_⟩
   obtain ⟨p1,p2,p3,p4⟩:=hep (CL V e)
   rw [p1] at q1; rw [p2] at q2
   have:=d6 q1 q2
   exact ⟨by rw [p3]; exact this.1,by omega⟩
 ·have hdist:∀ k,k≠g.calls.length->vr k≠1000*(g.mem i).ep+((g.mem i).cnt+1):=fun k hk e=>by
   obtain ⟨e',n,d1,d2,d3,d4,d5,d6⟩:=c1 k (by omega)
   have:e'=(g.mem i).ep:=by omega
   subst this
   rw [l2] at d6
   have:=d6 rfl s2
   omega
  intro k l hk hkl
  by_cases e:k=g.calls.length
  ·by_cases f:l=g.calls.length
   ·omega
   ·rw [if_pos e,if_neg f] at hkl
    exact absurd hkl.symm (hdist l f)
  ·rw [if_neg e] at hk hkl
   by_cases f:l=g.calls.length
   ·rw [if_pos f] at hkl
    exact absurd hkl (hdist k e)
   ·rw [if_neg f] at hkl
    exact c2 k l hk hkl
 ·intro k hk
  rw [hcal] at hk
  simp only [List.length_append,List.length_cons,List.length_nil] at hk
  rw [if_neg (by omega)]
  exact c3 k (by omega)
 ·intro j ho
  by_cases e:j=i
  ·subst e
   refine ⟨g.calls.length,c,hi.2.2.1,by rw [hcal]; simp,?_,by omega,hi.2.1.symm,?_⟩
   ·rw [if_pos rfl,(hep _).1,hi.2.2.2.1]
   ·rw [hi.2.2.2.2.1,hi.2.2.2.1,if_pos rfl,hA]
    exact ⟨rfl,rfl,rfl,by omega,by omega⟩
  ·rw [hj j e] at ho ⊢
   obtain ⟨k,d,q1,q2,q3⟩:=c4 j ho
   have:=hg2 k d q2
   exact ⟨k,d,q1,by rw [hcal]; exact this.1,by rw [if_neg (by omega)]; exact q3⟩
 ·intro k d hk hd
  rw [hcal] at hk
  rcases hg k d hk with ⟨e,e1⟩ | ⟨e,e2⟩
  ·obtain ⟨d1,d2,d3,d4,d5,d6,d7⟩:=c5 k d e hd
   exact ⟨by rw [if_neg (by omega)]; exact d1,d2,d3,d4,rmono _ d5,d6,d7⟩
  ·subst e2; omega
 ·intro k d hk
  rw [hcal] at hk
  rcases hg k d hk with ⟨e,e1⟩ | ⟨e,e2⟩
  ·exact c6 k d e
  ·subst e2; omega
 ·intro x hx h5 h8
  rw [hfly] at hx
  obtain ⟨p1,p2,p3,p4⟩:=hep (CL V x.ep)
  rcases List.mem_append.1 hx with q | q
  ·have:=c7 x q h5 h8
   rw [p1,p2]
   exact ⟨this.1,fun q1 q2=>Int.le_trans (this.2 q1 q2) p4⟩
  ·obtain ⟨_,q2,q3,_⟩:=hT x q
   rw [q2,l2,(hep i).1,q3,hi.1]
   exact ⟨Int.le_refl _,fun _ _=>Int.le_refl _⟩
 ·intro j ho k l d b q1 q2 q3 q4 q5
  rw [hcal] at q2 q3
  rcases hg l b q3 with ⟨e,e1⟩ | ⟨e,e2⟩
  ·by_cases hji:j=i
   ·subst hji
    rw [(hep j).1]
    by_cases hle:b.ep<=(g.mem j).ep
    ·exact .inl hle
    ·exact .inr (stuck b.ep (c5 l b e q4).2.2.2.2.1 (by omega))
   ·rw [hj j hji] at ho q1 ⊢
    obtain ⟨k',d',r1,r2,_⟩:=c4 j ho
    have:k'=k:=by omega
    subst this
    have:=hg2 k' d' r2
    rw [this.1] at q2
    cases q2
    rcases c8 j ho _ l _ b q1 r2 e q4 q5 with r | ⟨w,w1,w2,w3⟩
    ·exact .inl r
    ·right
     refine ⟨w,by rw [hj j hji]; exact w1,by rw [hj j hji,(hep w).1]; exact w2,fun x hx=>?_⟩
     rw [hj j hji]
     rw [hfly] at hx
     rcases List.mem_append.1 hx with q | q
     ·exact w3 x q
     ·have:=hT x q
      intro hk; omega
  ·subst e2; omega
 ·intro k l b d q1 q2 q3 q4 q5
  rw [hcal] at q1 q2
  rcases hg k b q1 with ⟨e,e1⟩ | ⟨e,e2⟩
  ·rcases hg l d q2 with ⟨f,f1⟩ | ⟨f,f2⟩
   ·rw [if_neg (by omega),if_neg (by omega)]
    exact c9 k l b d e f q3 q4 q5
   ·subst f2; omega
  ·subst e2; omega
def P7 (m:PM):PM:={ m with items:=if m.op=1 then Aj m.items m.ti else m.items,op:=0,call:=0,num:=0,ti:=(ByteArray.empty,ByteArray.empty,0),left:=[] }
def a_ (m:PM):AI:=if m.op=1 then m.ti else BJ m.items m.ti.1
def Mf (m:PM) (c:PC) (now:Int):PC:={ c with done:=now,ver:=(a_ m).2.2,ep:=m.ep,num:=m.num,got:=if c.op=2 then (a_ m).2.1 else c.got }
theorem IT.fin {V nv g vr now} {i:Int} {k:Nat} {c:PC} (h:IT V g vr now) (hia:IA V nv g) (hib:IB V g) (ho:(g.mem i).op≠0) (hl:(g.mem i).left=[]) (hc:(g.mem i).call=(k:Int)) (hk:g.calls[k]? = some c) :
  IT V { (g.set i (P7 (g.mem i)) []) with calls:=g.calls.set k (Mf (g.mem i) c now) } vr now:=by
 obtain ⟨c1,c2,c3,c4,c5,c6,c7,c8,c9⟩:=h
 obtain ⟨t1,t2,t3⟩:=hia.task i ho
 obtain ⟨s1,s2,s3⟩:=hia.serv i t1
 obtain ⟨l1,l2⟩:=hia.lead i s2
 have hpos:=hia.pos i
 obtain ⟨k0,d0,r1,r2,r3,r4,r5,r6,r7,r8,r9,r10⟩:=c4 i ho
 have hk0:k0=k:=by omega
 subst hk0
 rw [hk] at r2
 cases r2
 have hkl:k0<g.calls.length:=(List.getElem?_eq_some_iff.1 hk).1
 have hcal0:∀ (l:Nat) d,(g.calls.set k0 (Mf (g.mem i) c now))[l]? = some d->(l=k0/\d=Mf (g.mem i) c now)\/(l≠k0/\g.calls[l]? = some d):=by
  intro l d hd
  by_cases e:l=k0
  ·subst e
   rw [List.getElem?_set_self hkl] at hd
   exact .inl ⟨rfl,by cases hd; rfl⟩
  ·rw [List.getElem?_set_ne (Ne.symm e)] at hd
   exact .inr ⟨e,hd⟩
 have hcal1:∀ (l:Nat) d,l≠k0->g.calls[l]? = some d->(g.calls.set k0 (Mf (g.mem i) c now))[l]? = some d:=by
  intro l d hne hd
  rw [List.getElem?_set_ne (Ne.symm hne)]
  exact hd
 generalize hq:({ (g.set i (P7 (g.mem i)) []) with calls:=g.calls.set k0 (Mf (g.mem i) c now) }:PG)=g'
 have hmem:∀ j,g'.mem j=if j=i then P7 (g.mem i) else g.mem j:=by subst hq; intro j; rfl
 have hfly:g'.fly=g.fly:=by subst hq; exact List.append_nil _
 have hcal:g'.calls=g.calls.set k0 (Mf (g.mem i) c now):=by subst hq; rfl
 have hep:∀ j,(g'.mem j).ep=(g.mem j).ep/\(g'.mem j).leads=(g.mem j).leads/\(g'.mem j).base=(g.mem j).base/\(g.mem j).cnt=(g'.mem j).cnt:=by
  intro j; rw [hmem]; split
  ·rename_i e; subst e; exact ⟨rfl,rfl,rfl,rfl⟩
  ·exact ⟨rfl,rfl,rfl,rfl⟩
 have hj:∀ j,j≠i->g'.mem j=g.mem j:=fun j e=>by rw [hmem,if_neg e]
 have hi0:(g'.mem i).op=0:=by rw [hmem,if_pos rfl]; rfl
 have rmono:∀ e,B1 V g e->B1 V g' e:=fun e h=>h.mono fun j=>by rw [(hep j).1]; exact Int.le_refl _
 have hact:∀ j,j≠i->(g.mem j).op≠0->∀ (l:Nat),(g.mem j).call=(l:Int)->l≠k0:=fun j hji hoj l hl e=>by
  subst e
  obtain ⟨u1,u2,u3⟩:=hia.task j hoj
  obtain ⟨v1,v2,v3⟩:=hia.serv j u1
  obtain ⟨w1,w2⟩:=hia.lead j v2
  obtain ⟨k',d',q1,q2,q3,q4,q5,q6,q7,q8,q9,q10⟩:=c4 j hoj
  have:k'=l:=by omega
  subst this
  have:(g.mem j).ep=(g.mem i).ep:=by omega
  rw [this,l2] at w2
  exact hji w2.symm
 refine ⟨?_,c2,?_,?_,?_,?_,?_,?_,?_⟩
 ·intro l hl0
  obtain ⟨e,n,d1,d2,d3,d4,d5,d6⟩:=c1 l hl0
  obtain ⟨p1,p2,p3,p4⟩:=hep (CL V e)
  exact ⟨e,n,d1,d2,d3,d4,by rw [p1]; exact d5,fun q1 q2=>by rw [p3,<- p4]; exact d6 (by rw [<- p1]; exact q1) (by rw [<- p2]; exact q2)⟩
 ·intro l hl0
  rw [hcal,List.length_set] at hl0
  exact c3 l hl0
 ·intro j hoj
  by_cases e:j=i
  ·subst e; exact absurd hi0 hoj
  ·rw [hj j e] at hoj ⊢
   obtain ⟨k',d',q1,q2,q3⟩:=c4 j hoj
   exact ⟨k',d',q1,by rw [hcal]; exact hcal1 k' d' (hact j e hoj k' q1) q2,q3⟩
 ·intro l d hd hdn
  rw [hcal] at hd
  rcases hcal0 l d hd with ⟨e,e2⟩ | ⟨e,e2⟩
  ·subst e; subst e2
   exact ⟨r3,hpos,r9,r10,rmono _ (hib.mem i s1),Int.le_refl _,c6 l c hk⟩
  ·obtain ⟨d1,d2,d3,d4,d5,d6,d7⟩:=c5 l d e2 hdn
   exact ⟨d1,d2,d3,d4,rmono _ d5,d6,d7⟩
 ·intro l d hd
  rw [hcal] at hd
  rcases hcal0 l d hd with ⟨e,e2⟩ | ⟨e,e2⟩
  ·subst e; subst e2; exact c6 l c hk
  ·exact c6 l d e2
 ·intro x hx h5 h8
  rw [hfly] at hx
  obtain ⟨p1,p2,p3,p4⟩:=hep (CL V x.ep)
  have:=c7 x hx h5 h8
  rw [p1,p2,<- p4]
  exact this
 ·intro j hoj k1 l d b q1 q2 q3 q4 q5
  by_cases e:j=i
  ·subst e; exact absurd hi0 hoj
  ·rw [hj j e] at hoj q1 ⊢
   rw [hcal] at q2 q3
   have hne:=hact j e hoj k1 q1
   rcases hcal0 k1 d q2 with ⟨f,_⟩ | ⟨f,f2⟩
   ·exact absurd f hne
   ·rcases hcal0 l b q3 with ⟨u,u2⟩ | ⟨u,u2⟩
    ·subst u2
     have:=c6 k1 d f2
     simp only [Mf] at q5
     omega
    ·rcases c8 j hoj k1 l d b q1 f2 u2 q4 q5 with r | ⟨w,w1,w2,w3⟩
     ·exact .inl r
     ·exact .inr ⟨w,by rw [hj j e]; exact w1,by rw [hj j e,(hep w).1]; exact w2,by rw [hj j e,hfly]; exact w3⟩
 ·intro k1 l a b q1 q2 q3 q4 q5
  rw [hcal] at q1 q2
  rcases hcal0 k1 a q1 with ⟨e,e2⟩ | ⟨e,e2⟩
  ·subst e2
   have:b.wen<=now:=by
    rcases hcal0 l b q2 with ⟨f,f2⟩ | ⟨f,f2⟩
    ·subst f2; exact c6 k0 c hk
    ·exact c6 l b f2
   simp only [Mf] at q5
   omega
  ·rcases hcal0 l b q2 with ⟨f,f2⟩ | ⟨f,f2⟩
   ·subst f; subst f2
    have hlt:=q5
    simp only [Mf] at hlt
    have:=c8 i ho l k1 c a hc hk e2 q3 hlt
    rcases this with r | ⟨w,w1,_⟩
    ·obtain ⟨d1,d2,d3,d4,d5,d6,d7⟩:=c5 k1 a e2 q3
     obtain ⟨e',n,x1,x2,x3,x4,x5,x6⟩:=c1 k1 (by omega)
     have hee:e'=a.ep:=by omega
     subst hee
     by_cases heq:a.ep=(g.mem i).ep
     ·rw [heq,l2] at x6
      have x7:=x6 rfl s2
      have hne:vr k1≠vr l:=fun q=>e (c2 k1 l (by omega) q)
      omega
     ·omega
    ·rw [hl] at w1; cases w1
   ·exact c9 k1 l a b e2 f2 q3 q4 q5

structure IZ (V:Int->List Int) (g:PG) (vr:Nat->Int):Prop where
 w1:∀ i,(g.mem i).leads=true->(g.mem i).base=true->∀ k∈V (g.mem i).ep,k≠i->k∉(g.mem i).waits->PO g k (g.mem i).ep
 w2:∀ x∈g.fly,x.kind=4->PO g x.frm x.ep
 w3:∀ k e n,vr k≠0->vr k=1000*e+n->1<=n->n<=900->∀ j∈V e,j≠CL V e->PO g j e
 z1:∀ k,(g.mem k).base=true->(g.mem k).ep<=(g.mem (CL V (g.mem k).ep)).ep/\((g.mem (CL V (g.mem k).ep)).ep=(g.mem k).ep->(g.mem (CL V (g.mem k).ep)).leads=true->(g.mem (CL V (g.mem k).ep)).base=true)
 z2:∀ x∈g.fly,x.kind=3\/5<=x.kind->x.ep<=(g.mem (CL V x.ep)).ep/\((g.mem (CL V x.ep)).ep=x.ep->(g.mem (CL V x.ep)).leads=true->(g.mem (CL V x.ep)).base=true)
theorem IZ.mstep {V nv g i m T vr} (h:IZ V g vr) (ha:IA V nv g) (hs:CE V nv g i m T):IZ V (g.set i m T) vr:=by
 have hb:=fun k e=>PO.step (k:=k) (e:=e) hs
 have hm:=Yn hs
 have hmem:∀ j,(g.set i m T).mem j=if j=i then m else g.mem j:=fun _=>rfl
 have hfly:(g.set i m T).fly=g.fly++T:=rfl
 have hep:=hs.ep
 have hlead:=ha.lead
 have li:=ha.lead i
 obtain ⟨w1,w2,w3,z1,z2⟩:=h
 have bi:m.base=true->PO (g.set i m T) i m.ep:=fun hb=>.inr ⟨by simp [PG.set],.inl (by simp [PG.set]; exact hb)⟩
 generalize hg':g.set i m T=g' at *
 refine ⟨?_,?_,fun k e n h1 h2 h3 h4 j h5 h6=>hb _ _ (w3 k e n h1 h2 h3 h4 j h5 h6),?_,?_⟩
 ·have key:m.leads=true->m.base=true->∀ k∈V m.ep,k≠i->k∉m.waits->PO g' k m.ep:=by
   have w1i:=w1 i
   clear hg' z1 z2 w1 w3 hm hmem hfly bi
   cases hs<;>simp_all [PM.idle]<;>grind
  intro j
  rw [hmem]
  split
  ·rename_i e; subst e; exact key
  ·exact fun h1 h2 k h3 h4 h5=>hb _ _ (w1 j h1 h2 k h3 h4 h5)
 ·have key:∀ y∈T,y.kind=4->PO g' y.frm y.ep:=by
   clear hg' z1 z2 w1 w3 hm hmem hfly
   cases hs<;>simp_all [PM.idle]<;>grind
  intro x hx hk
  rw [hfly] at hx
  rcases List.mem_append.1 hx with q | q
  ·exact hb _ _ (w2 x q hk)
  ·exact key x q hk
 ·have hl:=hs.lead
  have key:m.base=true->m.ep<=(g'.mem (CL V m.ep)).ep/\((g'.mem (CL V m.ep)).ep=m.ep->(g'.mem (CL V m.ep)).leads=true->(g'.mem (CL V m.ep)).base=true):=by
   have z1i:=z1 i
   simp only [hmem] at hm ⊢
   clear hg' w1 w2 w3 hfly bi hb z1 hmem
   cases hs<;>simp_all [PM.idle]<;>grind
  intro k
  rw [hmem k]
  split
  ·exact key
  ·have:=z1 k
   simp only [hmem] at hm ⊢
   grind
 ·have hl:=hs.lead
  have key:∀ y∈T,y.kind=3\/5<=y.kind->y.ep<=(g'.mem (CL V y.ep)).ep/\((g'.mem (CL V y.ep)).ep=y.ep->(g'.mem (CL V y.ep)).leads=true->(g'.mem (CL V y.ep)).base=true):=by
   simp only [hmem] at hm ⊢
   clear hg' w1 w2 w3 hfly bi hb hmem
   cases hs<;>simp_all [PM.idle]<;>grind
  intro x hx hk
  rw [hfly] at hx
  rcases List.mem_append.1 hx with q | q
  ·have:=z2 x q hk
   simp only [hmem] at hm ⊢
   grind
  ·exact key x q hk
def vl (s:List AI) (k:List UInt8):Int:=((s.find? fun a=>a.1.toList==k).getD (ByteArray.empty,ByteArray.empty,0)).2.2
theorem eE (s:List AI) (k:ByteArray):vl s k.toList=(BJ s k).2.2:=rfl
theorem aM {s:List AI} (h:BS s=true) (a:AI) (k:List UInt8):vl s k<=vl (Aj s a) k:=by
 unfold vl
 cases q:s.find? (fun b=>b.1.toList==k) with
 | none =>
  cases r:(Aj s a).find? (fun b=>b.1.toList==k) with
  | none=>exact Int.le_refl _
  | some b =>
   have:=(CT.1 (Gt (a:=a) h)).1 b (List.mem_of_find?_eq_some r)
   unfold Hz at this
   simp only [Bool.and_eq_true,decide_eq_true_eq] at this
   show (0:Int)<=b.2.2
   omega
 | some b =>
  have hb:=List.mem_of_find?_eq_some q
  have hk:b.1.toList=k:=by simpa using List.find?_some q
  have:=ky (a:=a) h hb
  subst hk
  exact this
theorem TD {s:List AI} {a:AI} (h:BS s=true) (h1:1<=a.2.2) (hv:a.2.2<=vl s a.1.toList):Aj s a=s:=by
 have:=(gx (CT.1 h).2.1 h1).1 hv
 unfold Aj
 rw [if_pos this]
theorem ba {s:List AI} {a:AI} (h:BS s=true) (h1:1<=a.2.2) (he:BJ (Aj s a) a.1=a):Aj (Aj s a) a=Aj s a :=
 TD (Gt h) h1 (by rw [eE,he]; exact Int.le_refl _)
theorem f7 {s:List AI} {a:AI} (h:BS s=true) (ha:a∈s):1<=a.2.2:=by
 have:=(CT.1 h).1 a ha
 unfold Hz at this
 simp only [Bool.and_eq_true,decide_eq_true_eq] at this
 omega
structure IE (V:Int->List Int) (g:PG):Prop where
 ok:∀ i,BS (g.mem i).items=true
 okx:∀ x∈g.fly,BS x.items=true
 e1:∀ i,(g.mem i).leads=true->(g.mem i).base=true->(g.mem i).serves=false->∀ x∈g.fly,x.kind=3->x.ep=(g.mem i).ep->x.items=(g.mem i).items
 e2:∀ i,(g.mem i).leads=true->(g.mem i).base=true->∀ j,(g.mem j).base=true->(g.mem j).ep=(g.mem i).ep->(g.mem j).items=(g.mem i).items\/((g.mem i).op=1/\(g.mem j).items=Aj (g.mem i).items (g.mem i).ti)
 e3:∀ i,(g.mem i).op=1->∀ j,j≠i->(g.mem j).base=true->(g.mem j).ep=(g.mem i).ep->(j∉(g.mem i).left\/∃ x∈g.fly,x.kind=6/\x.frm=j/\x.ep=(g.mem i).ep/\x.num=(g.mem i).num)->(g.mem j).items=Aj (g.mem i).items (g.mem i).ti
 e4:∀ x∈g.fly,x.kind=5->∀ a,x.items=[a]->(g.mem (CL V x.ep)).leads=true->(g.mem (CL V x.ep)).base=true->(g.mem (CL V x.ep)).ep=x.ep ->
  ((g.mem (CL V x.ep)).op=1->x.num=(g.mem (CL V x.ep)).num->a=(g.mem (CL V x.ep)).ti)/\(¬ ((g.mem (CL V x.ep)).op=1/\x.num=(g.mem (CL V x.ep)).num)->a.2.2<=vl (g.mem (CL V x.ep)).items a.1.toList)
 e5:∀ i,(g.mem i).op=1->BJ (Aj (g.mem i).items (g.mem i).ti) (g.mem i).ti.1=(g.mem i).ti/\1<=(g.mem i).ti.2.2
set_option maxHeartbeats 1000000 in
theorem IE.mstep {V nv g i m T vr} (h:IE V g) (ha:IA V nv g) (hz:IZ V g vr) (hs:CE V nv g i m T):IE V (g.set i m T):=by
 have hmem:∀ j,(g.set i m T).mem j=if j=i then m else g.mem j:=fun _=>rfl
 have hfly:(g.set i m T).fly=g.fly++T:=rfl
 have hlead:=ha.lead
 have hserv:=ha.serv
 have htask:=ha.task
 obtain ⟨w1,w2,w3,z1,z2⟩:=hz
 obtain ⟨ok,okx,e1,e2,e3,e4,e5⟩:=h
 have hni:=Mj
 have fresh:∀ x:PX,((g.mem i).ep<x.ep\/(g.mem i).ep=x.ep/\(g.mem i).base=false/\(g.mem i).fell=false)->∀ f,(g.mem f).leads=true->(g.mem f).base=true->(g.mem f).ep=x.ep->i∈V x.ep->i≠f->(g.mem f).serves=false:=by
  intro x hx f h1 h2 h3 h4 h5
  cases q:(g.mem f).serves with
  | false=>rfl
  | true =>
   have hw:=(hserv f q).2.2
   have:=w1 f h1 h2 i (by rw [h3]; exact h4) h5 (by rw [hw]; simp)
   rw [h3] at this
   unfold PO at this
   grind
 have p1:=fun a=>Gt (a:=a) (ok i)
 have li:=hlead i
 have si:=hserv i
 have ti:=htask i
 have hok:BS m.items=true:=by
  clear e1 e2 e3 e4 e5 w1 w2 w3 z1 z2 fresh hmem hfly hlead hserv htask
  cases hs<;>simp_all [PM.idle]
 have hokx:∀ x∈T,BS x.items=true:=by
  clear e1 e2 e3 e4 e5 w1 w2 w3 z1 z2 fresh hmem hfly hlead hserv htask
  cases hs<;>simp_all [PM.idle]<;>grind
 have k1:m.leads=true->m.base=true->m.serves=false->∀ x∈g.fly++T,x.kind=3->x.ep=m.ep->x.items=m.items:=by
  have e1i:=e1 i
  clear e1 e2 e3 e4 e5 w1 w2 w3 z1 fresh hmem hfly hlead hserv htask okx p1 hok hokx
  cases hs<;>simp_all [PM.idle]<;>grind
 have k1b:∀ f,f≠i->(g.mem f).leads=true->∀ x∈T,x.kind=3->x.ep≠(g.mem f).ep:=by
  intro f hf hl
  have lf:=hlead f hl
  clear e1 e2 e3 e4 e5 w1 w2 w3 z1 z2 fresh hmem hfly hlead hserv htask okx p1 hok hokx k1
  cases hs<;>simp_all [PM.idle]<;>grind
 have k2a:m.leads=true->m.base=true->∀ j,j≠i->(g.mem j).base=true->(g.mem j).ep=m.ep->(g.mem j).items=m.items\/(m.op=1/\(g.mem j).items=Aj m.items m.ti):=by
  have e2i:=e2 i
  clear e1 e2 e3 e4 e5 w1 w2 w3 z2 fresh hmem hfly hlead hserv htask okx p1 hok hokx k1 k1b
  intro q1 q2 j hj q3 q4
  have z:=z1 j q3
  clear z1
  cases hs<;>(try dsimp only [PM.idle] at *)<;>grind
 have k2b:∀ f,f≠i->(g.mem f).leads=true->(g.mem f).base=true->m.base=true->m.ep=(g.mem f).ep->m.items=(g.mem f).items\/((g.mem f).op=1/\m.items=Aj (g.mem f).items (g.mem f).ti):=by
  intro f hf h1 h2 h3 h4
  have lf:=hlead f h1
  have e2f:=e2 f h1 h2 i
  have e5f:=e5 f
  have e1f:=e1 f h1 h2
  have fr:=fun (x:PX) hx=>fresh x hx f h1 h2
  have st:∀ a,1<=a.2.2->a.2.2<=vl (g.mem f).items a.1.toList->Aj (g.mem f).items a=(g.mem f).items:=fun a b c=>TD (ok f) b c
  have st2:∀ a,1<=a.2.2->a.2.2<=vl (g.mem f).items a.1.toList->Aj (Aj (g.mem f).items (g.mem f).ti) a=Aj (g.mem f).items (g.mem f).ti:=fun a b c=>TD (Gt (ok f)) b (Int.le_trans c (aM (ok f) _ _))
  have tw:=ba (a:=(g.mem f).ti) (ok f)
  have ov:∀ x∈g.fly,∀ a,x.items=[a]->1<=a.2.2:=fun x hx a e=>f7 (okx x hx) (by rw [e]; simp)
  clear e1 e2 e3 e5 w1 w2 w3 z1 z2 fresh hmem hfly hlead hserv htask okx p1 hok hokx k1 k1b k2a
  cases hs<;>(try dsimp only [PM.idle] at *)<;>grind
 have k3a:m.op=1->∀ j,j≠i->(g.mem j).base=true->(g.mem j).ep=m.ep->(j∉m.left\/∃ x∈g.fly,x.kind=6/\x.frm=j/\x.ep=m.ep/\x.num=m.num)->(g.mem j).items=Aj m.items m.ti:=by
  have e3i:=e3 i
  clear e1 e2 e3 e4 e5 w1 w2 w3 z1 z2 fresh hmem hfly hlead hserv htask okx p1 hok hokx k1 k1b k2a k2b
  intro q1 j q2 q3 q4 q5
  have e3j:=fun a b=>e3i a j q2 q3 b
  clear e3i
  cases hs<;>(try dsimp only [PM.idle] at *)<;>grind
 have k3b:∀ f,f≠i->(g.mem f).op=1->m.base=true->m.ep=(g.mem f).ep->(i∉(g.mem f).left\/∃ x∈g.fly++T,x.kind=6/\x.frm=i/\x.ep=(g.mem f).ep/\x.num=(g.mem f).num)->m.items=Aj (g.mem f).items (g.mem f).ti:=by
  intro f hf ho h3 h4 h5
  have h0:=htask f (by omega)
  obtain ⟨h2,h1,h6⟩:=hserv f h0.1
  have lf:=hlead f h1
  have e2f:=e2 f h1 h2 i
  have e3f:=fun a b c=>e3 f ho i (Ne.symm hf) a b (.inl c)
  have e3g:(g.mem i).base=true->(g.mem i).ep=(g.mem f).ep->∀ x∈g.fly,x.kind=6->x.frm=i->x.ep=(g.mem f).ep->x.num=(g.mem f).num->(g.mem i).items=Aj (g.mem f).items (g.mem f).ti:=fun a b x hx c1 c2 c3 c4=>e3 f ho i (Ne.symm hf) a b (.inr ⟨x,hx,c1,c2,c3,c4⟩)
  have e5f:=e5 f ho
  have fr:=fun (x:PX) hx=>fresh x hx f h1 h2
  have st2:∀ a,1<=a.2.2->a.2.2<=vl (g.mem f).items a.1.toList->Aj (Aj (g.mem f).items (g.mem f).ti) a=Aj (g.mem f).items (g.mem f).ti:=fun a b c=>TD (Gt (ok f)) b (Int.le_trans c (aM (ok f) _ _))
  have tw:=ba (a:=(g.mem f).ti) (ok f) e5f.2 e5f.1
  have ov:∀ x∈g.fly,∀ a,x.items=[a]->1<=a.2.2:=fun x hx a e=>f7 (okx x hx) (by rw [e]; simp)
  clear e1 e2 e3 e5 w1 w2 w3 z1 z2 fresh hmem hfly hlead hserv htask okx p1 hok hokx k1 k1b k2a k2b k3a
  cases hs<;>(try dsimp only [PM.idle] at *)<;>grind
 have k4:∀ x∈g.fly,x.kind=5->CL V x.ep=i->m.leads=true->m.base=true->m.ep=x.ep->(g.mem i).leads=true/\(g.mem i).base=true/\(g.mem i).ep=x.ep/\m.op=(g.mem i).op/\m.num=(g.mem i).num/\m.ti=(g.mem i).ti/\m.items=(g.mem i).items:=by
  intro x hx hk hf
  have z:=z2 x hx (.inr (by omega))
  rw [hf] at z
  clear e1 e2 e3 e4 e5 w1 w2 w3 z1 z2 fresh hmem hfly hlead hserv htask okx p1 hok hokx k1 k1b k2a k2b k3a k3b
  cases hs<;>simp_all [PM.idle]<;>grind
 have k5:m.op=1->m.items=(g.mem i).items/\m.ti=(g.mem i).ti/\(g.mem i).op=1:=by
  clear e1 e2 e3 e4 e5 w1 w2 w3 z1 z2 fresh hmem hfly hlead hserv htask okx p1 hok hokx k1 k1b k2a k2b k3a k3b k4
  cases hs<;>simp_all [PM.idle]<;>grind
 have kT:∀ x∈T,x.kind≠5:=by
  clear e1 e2 e3 e4 e5 w1 w2 w3 z1 z2 fresh hmem hfly hlead hserv htask okx p1 hok hokx k1 k1b k2a k2b k3a k3b k4 k5
  cases hs<;>simp_all [PM.idle]<;>grind
 have k6:∀ x∈T,x.kind=6->x.frm=i:=fun x hx hk=>(hs.talk x hx (by omega)).2.1
 clear hs
 generalize g.set i m T=g' at *
 refine ⟨?_,?_,?_,?_,?_,?_,?_⟩
 ·intro j; rw [hmem]; split
  ·exact hok
  ·exact ok j
 ·intro x hx
  rw [hfly] at hx
  rcases List.mem_append.1 hx with q | q
  ·exact okx x q
  ·exact hokx x q
 ·intro j; rw [hmem,hfly]; split
  ·exact k1
  ·intro h1 h2 h3 x hx hk he
   rcases List.mem_append.1 hx with q | q
   ·exact e1 j h1 h2 h3 x q hk he
   ·rename_i hne; exact absurd he (k1b j hne h1 x q hk)
 ·intro j h1 h2 l h3 h4
  rw [hmem] at h1 h2 h3 h4 ⊢
  rw [hmem]
  grind
 ·intro j h1 l hl h3 h4 h5
  rw [hfly] at h5
  rw [hmem] at h1 h3 h4 h5 ⊢
  rw [hmem] at h4 ⊢
  by_cases hji:j=i
  ·subst hji
   simp only [if_true] at *
   rw [if_neg hl] at *
   refine k3a h1 l hl h3 h4 (h5.imp id fun ⟨x,hx,q⟩=>⟨x,?_,q⟩)
   rcases List.mem_append.1 hx with r | r
   ·exact r
   ·exact absurd (k6 x r q.1) (by rw [q.2.1]; exact hl)
  ·rw [if_neg hji] at *
   by_cases hli:l=i
   ·subst hli
    simp only [if_true] at *
    exact k3b j hji h1 h3 h4 h5
   ·rw [if_neg hli] at *
    refine e3 j h1 l hl h3 h4 (h5.imp id fun ⟨x,hx,q⟩=>⟨x,?_,q⟩)
    rcases List.mem_append.1 hx with r | r
    ·exact r
    ·exact absurd (k6 x r q.1) (by rw [q.2.1]; exact hli)
 ·intro x hx hk a hxa h1 h2 h3
  rw [hfly] at hx
  rcases List.mem_append.1 hx with q | q
  ·rw [hmem] at h1 h2 h3 ⊢
   have:=e4 x q hk a hxa
   by_cases hf:CL V x.ep=i
   ·rw [if_pos hf] at *
    have:=k4 x q hk hf h1 h2 h3
    rw [hf] at *
    grind
   ·rw [if_neg hf] at *
    exact this h1 h2 h3
  ·exact absurd hk (kT x q)
 ·intro j h1
  rw [hmem] at h1 ⊢
  have:=e5 i
  grind
end Go.Proofs.YtokiohnjegbnpaaGreat.Core
