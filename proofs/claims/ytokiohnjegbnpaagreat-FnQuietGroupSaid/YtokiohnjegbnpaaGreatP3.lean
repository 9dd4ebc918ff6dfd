/- Texts of the proof, packed: part 4. -/
import Derived.Test.YtokiohnjegbnpaaGreatP2
import Derived.IntWalk
set_option linter.unusedVariables false
set_option linter.unusedSimpArgs false
namespace Go.Proofs.YtokiohnjegbnpaaGreat.Core
open Go IntKind
set_option maxRecDepth 100000
noncomputable section
def UM:=cG Ly (AJ Au) (AJ Au) kx
def UN:=kE 2 [] [2,3] 10 UM kx
def TP:St->Option (RT (CB.outs Au)):=lG Lx [] [2,3,31,32,33] 10 (AJ Au) UN
def UO:=cG HJ (AJ Au) (AJ Au) kx
def UP:=kE 0 [] [1,2,3] 10 UO kx
def TQ:St->Option (RT (CB.outs Au)):=lG My [] [1,2,3,16,17,18] 10 (AJ Au) UP
def Cx (x0:List AA) (x1 x2:Int) (x3:List (List Int)) (x4:List O) (x5:List AA) (x6:List Y) (x7:List O) (x8:List AA) (x9:List Y) (x10:List (List Int)) (x11:List O) (x12:List AA) (x13:List Y) (x14:List (List Int)):Option AL:=TP ⟨[(2,.ptr 4 0),(3,.ptr 9 0),(31,.lst AN x0),(32,.int .i64 x1),(33,.int .i64 x2)],[.var [.lst (.slice (.int .i64)) x3,.lst U x4,.lst AN x5,.lst AE x6],.rows 42 U x7,.rows 97 AN x8,.rows 47 AE x9,.var [.lst (.slice (.int .i64)) x10,.row 1,.row 2,.row 3],.dead,.rows 42 U x11,.rows 97 AN x12,.rows 47 AE x13,.var [.lst (.slice (.int .i64)) x14,.row 6,.row 7,.row 8]]⟩
def MC (x0:List (List Int)) (x1:List O) (x2:List AA) (x3:List Y) (x4:List O) (x5:List AA) (x6:List Y) (x7:List (List Int)) (x8:List O) (x9:List AA) (x10:List Y) (x11:List (List Int)):Option AL:=cG HJ (AJ Au) (AJ Au) kx ⟨[(1,.ptr 0 0),(2,.ptr 4 0),(3,.ptr 9 0)],[.var [.lst (.slice (.int .i64)) x0,.lst U x1,.lst AN x2,.lst AE x3],.rows 42 U x4,.rows 97 AN x5,.rows 47 AE x6,.var [.lst (.slice (.int .i64)) x7,.row 1,.row 2,.row 3],.dead,.rows 42 U x8,.rows 97 AN x9,.rows 47 AE x10,.var [.lst (.slice (.int .i64)) x11,.row 6,.row 7,.row 8]]⟩
def Cy (x0:List O) (x1 x2:Int) (x3:List (List Int)) (x4:List O) (x5:List AA) (x6:List Y) (x7:List O) (x8:List AA) (x9:List Y) (x10:List (List Int)) (x11:List O) (x12:List AA) (x13:List Y) (x14:List (List Int)):Option AL:=TQ ⟨[(1,.ptr 0 0),(2,.ptr 4 0),(3,.ptr 9 0),(16,.lst U x0),(17,.int .i64 x1),(18,.int .i64 x2)],[.var [.lst (.slice (.int .i64)) x3,.lst U x4,.lst AN x5,.lst AE x6],.rows 42 U x7,.rows 97 AN x8,.rows 47 AE x9,.var [.lst (.slice (.int .i64)) x10,.row 1,.row 2,.row 3],.dead,.rows 42 U x11,.rows 97 AN x12,.rows 47 AE x13,.var [.lst (.slice (.int .i64)) x14,.row 6,.row 7,.row 8]]⟩
def HO (x0:List AA) (x1 x2:Int) (x3:List (List Int)) (x4:List O) (x5:List AA) (x6:List Y) (x7:List O) (x8:List AA) (x9:List Y) (x10:List (List Int)) (x11:List O) (x12:List AA) (x13:List Y) (x14:List (List Int)):Option AL:=(if (decide (x2<x1))=true then (if 0<=x2 then (if x2<(x0.length:Int) then ((FK (x0.getD x2.toNat (0,0,0,0,0,([]:List AB)))).bind fun y4=>(if x12.length+([y4]:List AA).length<=68719476736 then (Cx x0 x1 (i64.wrap (x2+1)) x3 x4 x5 x6 x7 x8 x9 x10 x11 (x12++([y4]:List AA)) x13 x14) else none)) else none) else none) else (some (x14,x11,x12,x13)))
def MD (x0:List (List Int)) (x1:List O) (x2:List AA) (x3:List Y) (x4:List O) (x5:List AA) (x6:List Y) (x7:List (List Int)) (x8:List O) (x9:List AA) (x10:List Y) (x11:List (List Int)):Option AL:=(Cx x2 (x2.length:Int) 0 x0 x1 x2 x3 x4 x5 x6 x7 x8 x9 x10 x11)
def HQ (x0:List O) (x1 x2:Int) (x3:List (List Int)) (x4:List O) (x5:List AA) (x6:List Y) (x7:List O) (x8:List AA) (x9:List Y) (x10:List (List Int)) (x11:List O) (x12:List AA) (x13:List Y) (x14:List (List Int)):Option AL:=(if (decide (x2<x1))=true then (if 0<=x2 then (if x2<(x0.length:Int) then ((CR (x0.getD x2.toNat (0,0,false,false,false,false,([]:List Int),([]:List AB),0,0,0,0,(ByteArray.empty,ByteArray.empty,0),([]:List Int)))).bind fun y3=>(if x11.length+([y3]:List O).length<=68719476736 then (Cy x0 x1 (i64.wrap (x2+1)) x3 x4 x5 x6 x7 x8 x9 x10 (x11++([y3]:List O)) x12 x13 x14) else none)) else none) else none) else (MC x3 x4 x5 x6 x7 x8 x9 x10 x11 x12 x13 x14))
def O1 (x0:AL):Option AL:=((G5 x0.1).bind fun y1=>((Cc x0.2.2.2).bind fun y2=>(Cy x0.2.1 (x0.2.1.length:Int) 0 x0.1 x0.2.1 x0.2.2.1 x0.2.2.2 ([]:List O) ([]:List AA) ([]:List Y) ([]:List (List Int)) ([]:List O) ([]:List AA) y2 y1)))
theorem ME:mT HO Cx:=lS (by kernel_rfl)
theorem TR:lr MD MC:=jS (by kernel_rfl)
theorem MF:mT HQ Cy:=lS (by kernel_rfl)
theorem Wx:S6 O1 G4:=cT Au rfl ⟨rfl,rfl⟩ (by kernel_rfl)
def Tl (x0:Int):Option Bool:=((AU x0 1 6).bind fun y1=>(some y1))
theorem an:S6 Tl D8:=cT Kl rfl ⟨rfl,rfl⟩ (by kernel_rfl)
def SJ (x0 x1 x2:Int):Option Bool:=(if (decide (x0>=x1))=true then (some (decide (x0<=x2))) else (some false))
theorem Zq:VL SJ AU:=cT JC rfl ⟨rfl,rfl⟩ (by kernel_rfl)
def SK:=cG Kz (AJ B8) (AJ B8) kx
def SL:=kE 0 [] [] 0 SK kx
def RO:St->Option (RT (CB.outs B8)):=lG Ky [] [0,1,2,9,10,11] 0 (AJ B8) SL
def C7 (x0:List Int) (x1 x2:Int) (x3:List Int) (x4 x5:Int):Option Bool:=RO ⟨[(0,.lst (.int .i64) x0),(1,.int .i64 x1),(2,.int .i64 x2),(9,.lst (.int .i64) x3),(10,.int .i64 x4),(11,.int .i64 x5)],[]⟩
def GI (x0:List Int) (x1 x2:Int) (x3:List Int) (x4 x5:Int):Option Bool:=(if (decide (x5<x4))=true then (if 0<=x5 then (if x5<(x3.length:Int) then ((AU (x3.getD x5.toNat 0) x1 x2).bind fun y1=>(if (!y1)=false then (if (decide (x5>0))=true then (if 0<=(i64.wrap (x5-1)) then (if (i64.wrap (x5-1))<(x0.length:Int) then (if (decide ((x3.getD x5.toNat 0)<=(x0.getD (i64.wrap (x5-1)).toNat 0)))=true then (some false) else (C7 x0 x1 x2 x3 x4 (i64.wrap (x5+1)))) else none) else none) else (C7 x0 x1 x2 x3 x4 (i64.wrap (x5+1)))) else (some false))) else none) else none) else (some true))
def NJ (x0:List Int) (x1 x2:Int):Option Bool:=(C7 x0 x1 x2 x0 (x0.length:Int) 0)
theorem J5:jZ GI C7:=lS (by kernel_rfl)
theorem UQ:VL NJ Fl:=cT B8 rfl ⟨rfl,rfl⟩ (by kernel_rfl)
def Wy:=cG Nr (AJ DR) (AJ DR) kx
def Wz:=kE 0 [] [0] 0 Wy kx
def Vk:St->Option (RT (CB.outs DR)):=lG Nq [] [0,5,6,7] 0 (AJ DR) Wz
def Eu (x0 x1:List AB) (x2 x3:Int):Option Bool:=Vk ⟨[(0,.lst AK x0),(5,.lst AK x1),(6,.int .i64 x2),(7,.int .i64 x3)],[]⟩
def Jb (x0 x1:List AB) (x2 x3:Int):Option Bool:=(if (decide (x3<x2))=true then (if 0<=x3 then (if x3<(x1.length:Int) then ((Mb ((x1.getD x3.toNat (ByteArray.empty,ByteArray.empty,0)).1)).bind fun y1=>(if (!y1)=true then (some false) else (if (decide (((((x1.getD x3.toNat (ByteArray.empty,ByteArray.empty,0)).2).1).size:Int)>20))=true then (some false) else ((AU (((x1.getD x3.toNat (ByteArray.empty,ByteArray.empty,0)).2).2) 1 1000000000).bind fun y2=>(if (!y2)=true then (some false) else (if (decide (x3>0))=true then (if 0<=(i64.wrap (x3-1)) then (if (i64.wrap (x3-1))<(x0.length:Int) then (if ((Op.bytesLess ((x1.getD x3.toNat (ByteArray.empty,ByteArray.empty,0)).1).toList ((x0.getD (i64.wrap (x3-1)).toNat (ByteArray.empty,ByteArray.empty,0)).1).toList)||(((x1.getD x3.toNat (ByteArray.empty,ByteArray.empty,0)).1).toList==((x0.getD (i64.wrap (x3-1)).toNat (ByteArray.empty,ByteArray.empty,0)).1).toList))=true then (some false) else (Eu x0 x1 x2 (i64.wrap (x3+1)))) else none) else none) else (Eu x0 x1 x2 (i64.wrap (x3+1))))))))) else none) else none) else (some (decide ((x0.length:Int)<=12))))
def SM (x0:List AB):Option Bool:=(Eu x0 x0 (x0.length:Int) 0)
theorem N0:aW Jb Eu:=lS (by kernel_rfl)
theorem Zr:S6 SM EI:=cT DR rfl ⟨rfl,rfl⟩ (by kernel_rfl)
def K_ (b0:O):Option (Bool×O):=(if (b0.2.2.2.2.2.2.2.2.2.1==0)=true then (if (b0.2.2.2.2.2.2.2.2.2.2.1==0)=true then (if (b0.2.2.2.2.2.2.2.2.2.2.2.1==0)=true then (if (false != RC AK b0.2.2.2.2.2.2.2.2.2.2.2.2.1 (ByteArray.empty,ByteArray.empty,0))=true then (some (((b0.2.2.2.2.2.2.2.2.2.2.2.2.2.length:Int)==0),b0)) else (some (false,b0))) else (some (false,b0))) else (some (false,b0))) else ((AU b0.2.2.2.2.2.2.2.2.2.1 1 2).bind fun y1=>(if y1=true then (if b0.2.2.2.2.2.1=true then ((AU b0.2.2.2.2.2.2.2.2.2.2.1 0 1000).bind fun y2=>(if y2=true then ((AU b0.2.2.2.2.2.2.2.2.2.2.2.1 1 900).bind fun y3=>(if y3=true then ((Fl b0.2.2.2.2.2.2.2.2.2.2.2.2.2 1 6).bind fun y4=>(some (y4,b0))) else (some (false,b0)))) else (some (false,b0)))) else (some (false,b0))) else (some (false,b0)))))
theorem SN:S6 K_ Cj:=cT El rfl ⟨rfl,rfl⟩ (by kernel_rfl)
def ap (x0:Y):Option Bool:=(some (decide (x0.2.2.2.2.1>=0)))
theorem aq:S6 ap DM:=cT Km rfl ⟨rfl,rfl⟩ (by kernel_rfl)
def LA (x1 x2:Int) (b0:AL):Option AL:=(if 0<=x1 then (if x1<(b0.2.2.1.length:Int) then ((BJ b0.2.2.1 x1 (i64.wrap (x1+1))).bind fun y1=>((BX ((((b0.2.2.1.getD x1.toNat (0,0,0,0,0,([]:List AB))).2).2).1) (b0.1,b0.2.1,y1,b0.2.2.2)).bind fun y2=>(if (decide (y2.1>=0))=true then (if 0<=y2.1 then (if y2.1<(y2.2.2.1.length:Int) then ((JN (y2.2.2.1.getD y2.1.toNat (0,0,false,false,false,false,([]:List Int),([]:List AB),0,0,0,0,(ByteArray.empty,ByteArray.empty,0),([]:List Int))) y2.2.1 (b0.2.2.1.getD x1.toNat (0,0,0,0,0,([]:List AB)))).bind fun y3=>(if 0<=y2.1 then (if y2.1<(y2.2.2.1.length:Int) then (let z4:List O:=y2.2.2.1.set y2.1.toNat y3.1; ((Ep y3.2.1 y3.2.2 x2 (y2.2.1,z4,y2.2.2.2)).bind fun y5=>(some y5))) else none) else none)) else none) else none) else (some y2.2)))) else none) else none)
theorem SO:VL LA Gi:=cT Em rfl ⟨rfl,rfl⟩ (by kernel_rfl)
def Vl (x0:List Y) (x1:Y):Option Bool:=((Bw x0 x1).bind fun y1=>(some y1))
theorem cn:VK Vl Pr:=cT MX rfl ⟨rfl,rfl⟩ (by kernel_rfl)
def N1 (x1:Int) (b0:AL):Option (List Int×AL):=((AU x1 1 (b0.1.length:Int)).bind fun y1=>(if (!y1)=true then (some ([],b0)) else (if 0<=(i64.wrap (x1-1)) then (if (i64.wrap (x1-1))<(b0.1.length:Int) then (some ((b0.1.getD (i64.wrap (x1-1)).toNat ([]:List Int)),b0)) else none) else none)))
theorem Vm:VK N1 GW:=cT GT rfl ⟨rfl,rfl⟩ (by kernel_rfl)
def HD (x0:List Int) (x1:Int):Option Bool:=((Cs x0 x1).bind fun y1=>(some (decide (y1>=0))))
theorem NW:VK HD Bk:=cT C4 rfl ⟨rfl,rfl⟩ (by kernel_rfl)
def HR:=cG Di (AJ AZ) (AJ AZ) kx
def HS:=kE 0 [] [] 0 HR kx
def G_:St->Option (RT (CB.outs AZ)):=lG Dh [] [0,1,12,13] 0 (AJ AZ) HS
def BS (x0 x1:List AB) (x2 x3:Int):Option Bool:=G_ ⟨[(0,.lst AK x0),(1,.lst AK x1),(12,.int .i64 x2),(13,.int .i64 x3)],[]⟩
def CI (x0 x1:List AB) (x2 x3:Int):Option Bool:=(if (decide (x3<x2))=true then (if 0<=x3 then (if x3<(x0.length:Int) then (if 0<=x3 then (if x3<(x1.length:Int) then (if (true != RC AK (x0.getD x3.toNat (ByteArray.empty,ByteArray.empty,0)) (x1.getD x3.toNat (ByteArray.empty,ByteArray.empty,0)))=true then (some false) else (BS x0 x1 x2 (i64.wrap (x3+1)))) else none) else none) else none) else none) else (some true))
def EM (x0 x1:List AB):Option Bool:=(if ((x0.length:Int) != (x1.length:Int))=true then (some false) else (BS x0 x1 (x0.length:Int) 0))
theorem DZ:aW CI BS:=lS (by kernel_rfl)
theorem IM:VK EM Cb:=cT AZ rfl ⟨rfl,rfl⟩ (by kernel_rfl)
def NK (b0:Dg):Option (Int×Dg):=(if 33<0 then none else (if 45<0 then none else (if (decide (b0.2.1<(b0.1.length:Int)))=true then (if 0<=b0.2.1 then (if b0.2.1<(b0.1.length:Int) then (some ((It .i64 (i64.wrap ((It .i64 (Uk .i64 (Int.fdiv (i64.wrap ((i64.wrap (b0.2.2*6364136223846793005))+1442695040888963407)) (2^(min (33:Int).toNat (IntKind.bits .i64)))) (Int.fdiv (i64.wrap ((i64.wrap (b0.2.2*6364136223846793005))+1442695040888963407)) (2^(min (45:Int).toNat (IntKind.bits .i64))))) 255)+(i64.wrap (b0.1.getD b0.2.1.toNat 0)))) 255),(b0.1,(i64.wrap (b0.2.1+1)),(i64.wrap ((i64.wrap (b0.2.2*6364136223846793005))+1442695040888963407))))) else none) else none) else (some ((It .i64 (Uk .i64 (Int.fdiv (i64.wrap ((i64.wrap (b0.2.2*6364136223846793005))+1442695040888963407)) (2^(min (33:Int).toNat (IntKind.bits .i64)))) (Int.fdiv (i64.wrap ((i64.wrap (b0.2.2*6364136223846793005))+1442695040888963407)) (2^(min (45:Int).toNat (IntKind.bits .i64))))) 255),(b0.1,b0.2.1,(i64.wrap ((i64.wrap (b0.2.2*6364136223846793005))+1442695040888963407))))))))
theorem Zs:S6 NK DU:=cT JD rfl ⟨rfl,rfl⟩ (by kernel_rfl)
def Li (x1:Int) (b0:Dg):Option (Int×Dg):=(if (decide (x1<=0))=true then (some (0,b0)) else (if (decide (x1<=256))=true then ((DU b0).bind fun y1=>(if x1=0 then none else (some ((Int.tmod y1.1 x1),y1.2)))) else ((DU b0).bind fun y2=>((DU y2.2).bind fun y3=>((DU y3.2).bind fun y4=>((DU y4.2).bind fun y5=>(if x1=0 then none else (some ((Int.tmod (i64.wrap ((i64.wrap ((i64.wrap ((i64.wrap (y2.1*16777216))+(i64.wrap (y3.1*65536))))+(i64.wrap (y4.1*256))))+y5.1)) x1),y5.2)))))))))
theorem YJ:VK Li LW:=cT Hl rfl ⟨rfl,rfl⟩ (by kernel_rfl)
def W0:=cG Nu (AJ Bb) (AJ Bb) kx
def KT:=kE 0 [] [0] 0 W0 kx
def N2:St->Option (RT (CB.outs Bb)):=lG Nt [] [0,7,8,9] 0 (AJ Bb) KT
def W3:=kB [] [0,7,8,9] 0 N2
def O2:=cG Ns W3 (AJ Bb) KT
def O3:=kB [] [0,7,8,9] 0 O2
def KU:=kE 1 [] [0,7,8,9] 0 O2 KT
def W4:=cG KM O3 (AJ Bb) KU
def W5:=kE 2 [] [0,4,7,8,9] 0 W4 KU
def Vn:St->Option (RT (CB.outs Bb)):=lG Ok [] [0,4,7,8,9,13,14,15] 0 (AJ Bb) W5
def Jc (x0:List (List Int)) (x1:List Int) (x2:List (List Int)) (x3 x4:Int):Option Bool:=cG KM O3 (AJ Bb) KU ⟨[(0,.lst (.slice (.int .i64)) x0),(4,.lst (.int .i64) x1),(7,.lst (.slice (.int .i64)) x2),(8,.int .i64 x3),(9,.int .i64 x4)],[]⟩
def GX (x0:List (List Int)) (x1:List Int) (x2:List (List Int)) (x3 x4:Int) (x5:List Int) (x6 x7:Int):Option Bool:=Vn ⟨[(0,.lst (.slice (.int .i64)) x0),(4,.lst (.int .i64) x1),(7,.lst (.slice (.int .i64)) x2),(8,.int .i64 x3),(9,.int .i64 x4),(13,.lst (.int .i64) x5),(14,.int .i64 x6),(15,.int .i64 x7)],[]⟩
def GY (x0 x1:List (List Int)) (x2 x3:Int):Option Bool:=N2 ⟨[(0,.lst (.slice (.int .i64)) x0),(7,.lst (.slice (.int .i64)) x1),(8,.int .i64 x2),(9,.int .i64 x3)],[]⟩
def N3 (x0:List (List Int)) (x1:List Int) (x2:List (List Int)) (x3 x4:Int):Option Bool:=((AU (x1.length:Int) 1 4).bind fun y3=>(if (!y3)=true then (some false) else (GY x0 x2 x3 (i64.wrap (x4+1)))))
def Jd (x0:List (List Int)) (x1:List Int) (x2:List (List Int)) (x3 x4:Int) (x5:List Int) (x6 x7:Int):Option Bool:=(if (decide (x7<x6))=true then (if 0<=x7 then (if x7<(x5.length:Int) then ((D8 (x5.getD x7.toNat 0)).bind fun y1=>(if (!y1)=false then ((Cs x1 (x5.getD x7.toNat 0)).bind fun y2=>(if (y2 != x7)=true then (some false) else (GX x0 x1 x2 x3 x4 x5 x6 (i64.wrap (x7+1))))) else (some false))) else none) else none) else (Jc x0 x1 x2 x3 x4))
def Je (x0 x1:List (List Int)) (x2 x3:Int):Option Bool:=(if (decide (x3<x2))=true then (if 0<=x3 then (if x3<(x1.length:Int) then (GX x0 (x1.getD x3.toNat ([]:List Int)) x1 x2 x3 (x1.getD x3.toNat ([]:List Int)) ((x1.getD x3.toNat ([]:List Int)).length:Int) 0) else none) else none) else ((AU (x0.length:Int) 1 9).bind fun y4=>(some y4)))
def SP (x0:List (List Int)):Option Bool:=(GY x0 x0 (x0.length:Int) 0)
theorem Vo:lq N3 Jc:=jS (by kernel_rfl)
theorem N4:lD Jd GX:=lS (by kernel_rfl)
theorem N5:aW Je GY:=lS (by kernel_rfl)
theorem Zt:S6 SP DV:=cT Bb rfl ⟨rfl,rfl⟩ (by kernel_rfl)
def UR:=cG M0 (AJ Cf) (AJ Cf) kx
def US:=kE 0 [(3,0)] [3] 1 UR kx
def TS:St->Option (RT (CB.outs Cf)):=lG Mz [(3,0)] [3,6,7,8] 1 (AJ Cf) US
def E9 (x0:List (List Int)) (x1 x2:Int) (x3:List (List Int)):Option (List (List Int)):=TS ⟨[(3,.row 0),(6,.lst (.slice (.int .i64)) x0),(7,.int .i64 x1),(8,.int .i64 x2)],[.rows 33 (.slice (.int .i64)) x3]⟩
def HT (x0:List (List Int)) (x1 x2:Int) (x3:List (List Int)):Option (List (List Int)):=(if (decide (x2<x1))=true then (if 0<=x2 then (if x2<(x0.length:Int) then ((BQ (x0.getD x2.toNat ([]:List Int))).bind fun y1=>(if x3.length+([y1]:List (List Int)).length<=68719476736 then (E9 x0 x1 (i64.wrap (x2+1)) (x3++([y1]:List (List Int)))) else none)) else none) else none) else (some x3))
def O4 (x0:List (List Int)):Option (List (List Int)):=(E9 x0 (x0.length:Int) 0 ([]:List (List Int)))
theorem MG:aW HT E9:=lS (by kernel_rfl)
theorem W6:S6 O4 G5:=cT Cf rfl ⟨rfl,rfl⟩ (by kernel_rfl)
def MH (x0:Int) (x1:List (List Int)) (x2:Bool) (x3:O):Option (O×Bool):=cG M1 (AJ EC) (AJ EC) kx ⟨[(0,.int .i64 x0),(1,.lst (.slice (.int .i64)) x1),(4,.ptr 0 0),(14,.bool x2)],[.var (U.enc x3)]⟩
def MI (x0:Int) (x1:List (List Int)) (x2:Bool) (x3:O):Option (O×Bool):=(if 0<=(0:Int) then (if 0<(x1.length:Int) then (if 0<=(0:Int) then (if 0<((x1.getD (0:Int).toNat ([]:List Int)).length:Int) then (if 0<=(0:Int) then (if 0<(x1.length:Int) then ((Bk (x1.getD (0:Int).toNat ([]:List Int)) x0).bind fun y3=>(some ((x0,1,false,y3,(((x1.getD (0:Int).toNat ([]:List Int)).getD (0:Int).toNat 0)==x0),(((x1.getD (0:Int).toNat ([]:List Int)).getD (0:Int).toNat 0)==x0),([]:List Int),([]:List AB),0,0,0,0,(ByteArray.empty,ByteArray.empty,0),([]:List Int)),true))) else none) else none) else none) else none) else none) else none)
def O5 (x0:Int) (x1:List (List Int)):Option (O×Bool):=((D8 x0).bind fun y1=>(if (!y1)=false then ((DV x1).bind fun y2=>(if (!y2)=true then (some ((0,0,false,false,false,false,([]:List Int),([]:List AB),0,0,0,0,(ByteArray.empty,ByteArray.empty,0),([]:List Int)),false)) else (MH x0 x1 (!y2) (0,0,false,false,false,false,([]:List Int),([]:List AB),0,0,0,0,(ByteArray.empty,ByteArray.empty,0),([]:List Int))))) else (some ((0,0,false,false,false,false,([]:List Int),([]:List AB),0,0,0,0,(ByteArray.empty,ByteArray.empty,0),([]:List Int)),false))))
theorem TU:aW MI MH:=jS (by kernel_rfl)
theorem W7:VK O5 KO:=cT EC rfl ⟨rfl,rfl⟩ (by kernel_rfl)
def Hq (x0:Int) (x1:ByteArray) (x2:Bool):Option Bool:=cG R2 (AJ G1) (AJ G1) kx ⟨[(0,.int .i64 x0),(3,.str x1),(26,.bool x2)],[]⟩
def Lj (x0:Int) (x1:ByteArray) (x2:Bool):Option Bool:=(if (x0==1)=false then (some (x1.toList==(⟨#[]⟩:ByteArray).toList)) else (some true))
def Px (x0 x1:Int) (x2 x3:ByteArray):Option Bool:=((AU x0 1 2).bind fun y1=>(if (!y1)=false then ((AU x1 0 1000).bind fun y2=>(if (!y2)=false then ((Mb x2).bind fun y3=>(if (!y3)=false then (if (decide ((x3.size:Int)>20))=true then (some false) else (Hq x0 x3 (decide ((x3.size:Int)>20)))) else (some false))) else (some false))) else (some false)))
theorem Q0:VL Lj Hq:=jS (by kernel_rfl)
theorem Vp:aW Px JM:=cT G1 rfl ⟨rfl,rfl⟩ (by kernel_rfl)
def NL (x1:Ax) (x2:Int) (b0:AL):Option (Bool×AL):=(if b0.2.2.2.length+([(x1.2.2.2.1,x1.2.2.2.2.1,x1.2.2.2.2.2,x2,(-1:Int),0,0,0,ByteArray.empty)]:List Y).length<=68719476736 then ((BX x1.2.1 (b0.1,b0.2.1,b0.2.2.1,(b0.2.2.2++([(x1.2.2.2.1,x1.2.2.2.2.1,x1.2.2.2.2.2,x2,(-1:Int),0,0,0,ByteArray.empty)]:List Y)))).bind fun y1=>(if 0<=y1.1 then (if y1.1<(y1.2.2.1.length:Int) then ((Mc (y1.2.2.1.getD y1.1.toNat (0,0,false,false,false,false,([]:List Int),([]:List AB),0,0,0,0,(ByteArray.empty,ByteArray.empty,0),([]:List Int))) y1.2.1 x1.2.2.2.1 (b0.2.2.2.length:Int) x1.2.2.2.2.1 x1.2.2.2.2.2).bind fun y2=>(if (!y2.2.2.2)=true then (some (false,y1.2)) else (if 0<=y1.1 then (if y1.1<(y1.2.2.1.length:Int) then (let z3:List O:=y1.2.2.1.set y1.1.toNat y2.1; ((Ep y2.2.1 y2.2.2.1 x2 (y1.2.1,z3,y1.2.2.2)).bind fun y4=>(some (true,y4)))) else none) else none))) else none) else none)) else none)
theorem UT:VL NL H8:=cT Fi rfl ⟨rfl,rfl⟩ (by kernel_rfl)
def SQ:=cG Ju (AJ B9) (AJ B9) kx
def SS:=kE 0 [] [] 5 SQ kx
def RP:St->Option (RT (CB.outs B9)):=lG K3 [] [0,2,4,7,8] 5 (AJ B9) SS
def C8 (x0 x1 x2:Int) (x3:List (List Int)) (x4:List O) (x5:List AA) (x6:List Y) (x7:Ax):Option (Bool×AL):=RP ⟨[(0,.ptr 0 0),(2,.int .i64 x0),(4,.ptr 4 0),(7,.int .i64 x1),(8,.int .i64 x2)],[.var [.lst (.slice (.int .i64)) x3,.row 1,.row 2,.row 3],.rows 42 U x4,.rows 97 AN x5,.rows 47 AE x6,.var (Al.enc x7)]⟩
def ET (x0 x1 x2:Int) (x3:List (List Int)) (x4:List O) (x5:List AA) (x6:List Y) (x7:Ax):Option (Bool×AL):=(if (decide (x2<=(x3.length:Int)))=true then (if 0<=(i64.wrap (x2-1)) then (if (i64.wrap (x2-1))<(x3.length:Int) then (if 0<=(0:Int) then (if 0<((x3.getD (i64.wrap (x2-1)).toNat ([]:List Int)).length:Int) then (if (((x3.getD (i64.wrap (x2-1)).toNat ([]:List Int)).getD (0:Int).toNat 0) != x7.2.1)=true then (C8 x0 x1 (i64.wrap (x2+1)) x3 x4 x5 x6 x7) else (if 0<=x1 then (if x1<(x4.length:Int) then ((Md (x4.getD x1.toNat (0,0,false,false,false,false,([]:List Int),([]:List AB),0,0,0,0,(ByteArray.empty,ByteArray.empty,0),([]:List Int))) x3 x2).bind fun y2=>(if y2.2.2=true then (if 0<=x1 then (if x1<(x4.length:Int) then (let z3:List O:=x4.set x1.toNat y2.1; ((Ep y2.2.1 ([]) x0 (x3,z3,x5,x6)).bind fun y4=>(some (y2.2.2,y4)))) else none) else none) else (some (y2.2.2,(x3,x4,x5,x6))))) else none) else none)) else none) else none) else none) else none) else (some (false,(x3,x4,x5,x6))))
def NM (x1:Ax) (x2:Int) (b0:AL):Option (Bool×AL):=((BX x1.2.1 b0).bind fun y1=>(if 0<=y1.1 then (if y1.1<(y1.2.2.1.length:Int) then (C8 x2 y1.1 (i64.wrap ((((y1.2.2.1.getD y1.1.toNat (0,0,false,false,false,false,([]:List Int),([]:List AB),0,0,0,0,(ByteArray.empty,ByteArray.empty,0),([]:List Int))).2).1)+1)) y1.2.1 y1.2.2.1 y1.2.2.2.1 y1.2.2.2.2 x1) else none) else none))
theorem GJ:lD ET C8:=lS (by kernel_rfl)
theorem UU:VL NM H9:=cT B9 rfl ⟨rfl,rfl⟩ (by kernel_rfl)
def MJ (x1:Int) (b0:AL):Option (Int×AL):=((Bo b0.2.1 x1).bind fun y1=>(some (y1,b0)))
theorem TV:VK MJ BX:=cT E8 rfl ⟨rfl,rfl⟩ (by kernel_rfl)
def dy (x0:O):Option O:=(some (x0.1,x0.2.1,true,false,false,false,([]:List Int),([]:List AB),0,0,0,0,(ByteArray.empty,ByteArray.empty,0),([]:List Int)))
theorem dz:S6 dy Nx:=cT Nv rfl ⟨rfl,rfl⟩ (by kernel_rfl)
def LB (x1:Ax) (x2:Int) (b0:AL):Option (Bool×AL):=(if ((b0.2.2.1.length:Int)==0)=true then (some (false,b0)) else (if (b0.2.2.1.length:Int)=0 then none else (if (x1.1==2)=true then ((Gi (Int.tmod x1.2.2.1 (b0.2.2.1.length:Int)) x2 b0).bind fun y1=>(some (true,y1))) else (if (x1.1==3)=true then ((BJ b0.2.2.1 (Int.tmod x1.2.2.1 (b0.2.2.1.length:Int)) (i64.wrap ((Int.tmod x1.2.2.1 (b0.2.2.1.length:Int))+1))).bind fun y2=>(some (true,(b0.1,b0.2.1,y2,b0.2.2.2)))) else (if (x1.1==4)=true then (if 0<=(Int.tmod x1.2.2.1 (b0.2.2.1.length:Int)) then (if (Int.tmod x1.2.2.1 (b0.2.2.1.length:Int))<(b0.2.2.1.length:Int) then ((FK (b0.2.2.1.getD ((Int.tmod x1.2.2.1 (b0.2.2.1.length:Int)).toNat) (0,0,0,0,0,([]:List AB)))).bind fun y3=>(if b0.2.2.1.length+([y3]:List AA).length<=68719476736 then (some (true,(b0.1,b0.2.1,(b0.2.2.1++([y3]:List AA)),b0.2.2.2))) else none)) else none) else none) else (some (true,b0)))))))
theorem ST:VL LB Gj:=cT En rfl ⟨rfl,rfl⟩ (by kernel_rfl)
def N6 (x0:O):Option O:=((BQ x0.2.2.2.2.2.2.1).bind fun y1=>((Aa x0.2.2.2.2.2.2.2.1).bind fun y2=>((BQ x0.2.2.2.2.2.2.2.2.2.2.2.2.2).bind fun y3=>(some (x0.1,x0.2.1,x0.2.2.1,x0.2.2.2.1,x0.2.2.2.2.1,x0.2.2.2.2.2.1,y1,y2,x0.2.2.2.2.2.2.2.2.1,x0.2.2.2.2.2.2.2.2.2.1,x0.2.2.2.2.2.2.2.2.2.2.1,x0.2.2.2.2.2.2.2.2.2.2.2.1,x0.2.2.2.2.2.2.2.2.2.2.2.2.1,y3)))))
theorem Vq:S6 N6 CR:=cT GU rfl ⟨rfl,rfl⟩ (by kernel_rfl)
def SU (x0:AA):Option AA:=((Aa x0.2.2.2.2.2).bind fun y1=>(some (x0.1,x0.2.1,x0.2.2.1,x0.2.2.2.1,x0.2.2.2.2.1,y1)))
theorem Zu:S6 SU FK:=cT JE rfl ⟨rfl,rfl⟩ (by kernel_rfl)
def Vr (x0:ByteArray):Option Bool:=((AU (x0.size:Int) 1 12).bind fun y1=>(some y1))
theorem cp:S6 Vr Mb:=cT MY rfl ⟨rfl,rfl⟩ (by kernel_rfl)
def N7 (x0:List (List Int)) (x1:Bool) (x2:O) (x3:AA) (x4 x5:O):Option (O×List AA×List B1):=cG Ol (AJ FD) (AJ FD) kx ⟨[(1,.lst (.slice (.int .i64)) x0),(5,.ptr 1 0),(6,.ptr 2 0),(9,.ptr 3 0),(47,.bool x1)],[.var (U.enc x2),.var (AN.enc x3),.var (U.enc x4),.var (U.enc x5)]⟩
def N8 (x0:List (List Int)) (x1:Bool) (x2:O) (x3:AA) (x4 x5:O):Option (O×List AA×List B1):=((H_ x0 x3 x5).bind fun y5=>((CR y5.2.2).bind fun y6=>(some (y6,y5.1,y5.2.1))))
def SV (x0:O) (x1:List (List Int)) (x2:AA):Option (O×List AA×List B1):=((CR x0).bind fun y1=>(if (x2.2.2.1 != x0.1)=false then (if (decide (x2.2.2.2.1<x0.2.1))=false then (if (decide (x2.2.2.2.1>(x1.length:Int)))=false then ((Ed x0).bind fun y2=>(if (!y2)=false then ((DV x1).bind fun y3=>(if (!y3)=false then ((Ps x2).bind fun y4=>(if (!y4)=true then (some (y1,[],[])) else (N7 x1 (!y4) x0 x2 (0,0,false,false,false,false,([]:List Int),([]:List AB),0,0,0,0,(ByteArray.empty,ByteArray.empty,0),([]:List Int)) y1))) else (some (y1,[],[])))) else (some (y1,[],[])))) else (some (y1,[],[]))) else (some (y1,[],[]))) else (some (y1,[],[]))))
theorem Vs:jZ N8 N7:=jS (by kernel_rfl)
theorem Zv:VL SV JN:=cT FD rfl ⟨rfl,rfl⟩ (by kernel_rfl)
def HU:=kE 0 [] [] 4 (AJ B3) kx
def LC:St->Option (RT (CB.outs B3)):=lG L4 [] [0,3,20,21,22] 4 (AJ B3) HU
def TW:=kB [] [0,3,20,21,22] 4 LC
def MK:=cG L0 TW (AJ B3) HU
def TX:=kB [] [0,3,20,21,22] 4 MK
def TY:=kE 1 [] [0,3,20,21,22] 4 MK HU
def LD (x0:Int) (x1:List B1) (x2 x3:Int) (x4:Bool) (x5:List (List Int)) (x6:List O) (x7:List AA) (x8:List Y) (x9:B1):Option AL:=cG Lz TX (AJ B3) TY ⟨[(0,.ptr 0 0),(3,.int .i64 x0),(9,.ptr 4 0),(20,.lst Fc x1),(21,.int .i64 x2),(22,.int .i64 x3),(47,.bool x4)],[.var [.lst (.slice (.int .i64)) x5,.row 1,.row 2,.row 3],.rows 42 U x6,.rows 97 AN x7,.rows 47 AE x8,.var (Fc.enc x9)]⟩
def CA (x0:Int) (x1:List B1) (x2 x3:Int) (x4:List (List Int)) (x5:List O) (x6:List AA) (x7:List Y):Option AL:=LC ⟨[(0,.ptr 0 0),(3,.int .i64 x0),(20,.lst Fc x1),(21,.int .i64 x2),(22,.int .i64 x3)],[.var [.lst (.slice (.int .i64)) x4,.row 1,.row 2,.row 3],.rows 42 U x5,.rows 97 AN x6,.rows 47 AE x7]⟩
def LE (x0:Int) (x1:List B1) (x2 x3:Int) (x4:Bool) (x5:List (List Int)) (x6:List O) (x7:List AA) (x8:List Y) (x9:B1):Option AL:=(if 0<=x9.1 then (if x9.1<(x8.length:Int) then (let z2:List Y:=x8.set x9.1.toNat ((x8.getD x9.1.toNat (0,ByteArray.empty,ByteArray.empty,0,0,0,0,0,ByteArray.empty)).1,((x8.getD x9.1.toNat (0,ByteArray.empty,ByteArray.empty,0,0,0,0,0,ByteArray.empty)).2).1,(((x8.getD x9.1.toNat (0,ByteArray.empty,ByteArray.empty,0,0,0,0,0,ByteArray.empty)).2).2).1,((((x8.getD x9.1.toNat (0,ByteArray.empty,ByteArray.empty,0,0,0,0,0,ByteArray.empty)).2).2).2).1,x0,(((((x8.getD x9.1.toNat (0,ByteArray.empty,ByteArray.empty,0,0,0,0,0,ByteArray.empty)).2).2).2).2).2); (let z3:List Y:=z2.set x9.1.toNat ((z2.getD x9.1.toNat (0,ByteArray.empty,ByteArray.empty,0,0,0,0,0,ByteArray.empty)).1,((z2.getD x9.1.toNat (0,ByteArray.empty,ByteArray.empty,0,0,0,0,0,ByteArray.empty)).2).1,(((z2.getD x9.1.toNat (0,ByteArray.empty,ByteArray.empty,0,0,0,0,0,ByteArray.empty)).2).2).1,((((z2.getD x9.1.toNat (0,ByteArray.empty,ByteArray.empty,0,0,0,0,0,ByteArray.empty)).2).2).2).1,(((((z2.getD x9.1.toNat (0,ByteArray.empty,ByteArray.empty,0,0,0,0,0,ByteArray.empty)).2).2).2).2).1,x9.2.2.2.2.2,((((((z2.getD x9.1.toNat (0,ByteArray.empty,ByteArray.empty,0,0,0,0,0,ByteArray.empty)).2).2).2).2).2).2); (let z4:List Y:=z3.set x9.1.toNat ((z3.getD x9.1.toNat (0,ByteArray.empty,ByteArray.empty,0,0,0,0,0,ByteArray.empty)).1,((z3.getD x9.1.toNat (0,ByteArray.empty,ByteArray.empty,0,0,0,0,0,ByteArray.empty)).2).1,(((z3.getD x9.1.toNat (0,ByteArray.empty,ByteArray.empty,0,0,0,0,0,ByteArray.empty)).2).2).1,((((z3.getD x9.1.toNat (0,ByteArray.empty,ByteArray.empty,0,0,0,0,0,ByteArray.empty)).2).2).2).1,(((((z3.getD x9.1.toNat (0,ByteArray.empty,ByteArray.empty,0,0,0,0,0,ByteArray.empty)).2).2).2).2).1,((((((z3.getD x9.1.toNat (0,ByteArray.empty,ByteArray.empty,0,0,0,0,0,ByteArray.empty)).2).2).2).2).2).1,x9.2.1,(((((((z3.getD x9.1.toNat (0,ByteArray.empty,ByteArray.empty,0,0,0,0,0,ByteArray.empty)).2).2).2).2).2).2).2); (let z5:List Y:=z4.set x9.1.toNat ((z4.getD x9.1.toNat (0,ByteArray.empty,ByteArray.empty,0,0,0,0,0,ByteArray.empty)).1,((z4.getD x9.1.toNat (0,ByteArray.empty,ByteArray.empty,0,0,0,0,0,ByteArray.empty)).2).1,(((z4.getD x9.1.toNat (0,ByteArray.empty,ByteArray.empty,0,0,0,0,0,ByteArray.empty)).2).2).1,((((z4.getD x9.1.toNat (0,ByteArray.empty,ByteArray.empty,0,0,0,0,0,ByteArray.empty)).2).2).2).1,(((((z4.getD x9.1.toNat (0,ByteArray.empty,ByteArray.empty,0,0,0,0,0,ByteArray.empty)).2).2).2).2).1,((((((z4.getD x9.1.toNat (0,ByteArray.empty,ByteArray.empty,0,0,0,0,0,ByteArray.empty)).2).2).2).2).2).1,(((((((z4.getD x9.1.toNat (0,ByteArray.empty,ByteArray.empty,0,0,0,0,0,ByteArray.empty)).2).2).2).2).2).2).1,x9.2.2.1,((((((((z4.getD x9.1.toNat (0,ByteArray.empty,ByteArray.empty,0,0,0,0,0,ByteArray.empty)).2).2).2).2).2).2).2).2); (if (((z5.getD x9.1.toNat (0,ByteArray.empty,ByteArray.empty,0,0,0,0,0,ByteArray.empty)).1)==2)=true then (let z6:List Y:=z5.set x9.1.toNat ((z5.getD x9.1.toNat (0,ByteArray.empty,ByteArray.empty,0,0,0,0,0,ByteArray.empty)).1,((z5.getD x9.1.toNat (0,ByteArray.empty,ByteArray.empty,0,0,0,0,0,ByteArray.empty)).2).1,(((z5.getD x9.1.toNat (0,ByteArray.empty,ByteArray.empty,0,0,0,0,0,ByteArray.empty)).2).2).1,((((z5.getD x9.1.toNat (0,ByteArray.empty,ByteArray.empty,0,0,0,0,0,ByteArray.empty)).2).2).2).1,(((((z5.getD x9.1.toNat (0,ByteArray.empty,ByteArray.empty,0,0,0,0,0,ByteArray.empty)).2).2).2).2).1,((((((z5.getD x9.1.toNat (0,ByteArray.empty,ByteArray.empty,0,0,0,0,0,ByteArray.empty)).2).2).2).2).2).1,(((((((z5.getD x9.1.toNat (0,ByteArray.empty,ByteArray.empty,0,0,0,0,0,ByteArray.empty)).2).2).2).2).2).2).1,((((((((z5.getD x9.1.toNat (0,ByteArray.empty,ByteArray.empty,0,0,0,0,0,ByteArray.empty)).2).2).2).2).2).2).2).1,x9.2.2.2.2.1); (CA x0 x1 x2 (i64.wrap (x3+1)) x5 x6 x7 z6)) else (CA x0 x1 x2 (i64.wrap (x3+1)) x5 x6 x7 z5)))))) else none) else none)
def Gl (x0:Int) (x1:List B1) (x2 x3:Int) (x4:List (List Int)) (x5:List O) (x6:List AA) (x7:List Y):Option AL:=(if (decide (x3<x2))=true then (if 0<=x3 then (if x3<(x1.length:Int) then ((AU ((x1.getD x3.toNat (0,0,0,ByteArray.empty,ByteArray.empty,0)).1) 0 (i64.wrap ((x7.length:Int)-1))).bind fun y1=>(if (!y1)=true then (CA x0 x1 x2 (i64.wrap (x3+1)) x4 x5 x6 x7) else (if 0<=((x1.getD x3.toNat (0,0,0,ByteArray.empty,ByteArray.empty,0)).1) then (if ((x1.getD x3.toNat (0,0,0,ByteArray.empty,ByteArray.empty,0)).1)<(x7.length:Int) then (if (((((((x7.getD (((x1.getD x3.toNat (0,0,0,ByteArray.empty,ByteArray.empty,0)).1).toNat) (0,ByteArray.empty,ByteArray.empty,0,0,0,0,0,ByteArray.empty)).2).2).2).2).1) != (-1:Int))=true then (CA x0 x1 x2 (i64.wrap (x3+1)) x4 x5 x6 x7) else (LD x0 x1 x2 x3 (((((((x7.getD (((x1.getD x3.toNat (0,0,0,ByteArray.empty,ByteArray.empty,0)).1).toNat) (0,ByteArray.empty,ByteArray.empty,0,0,0,0,0,ByteArray.empty)).2).2).2).2).1) != (-1:Int)) x4 x5 x6 x7 (x1.getD x3.toNat (0,0,0,ByteArray.empty,ByteArray.empty,0)))) else none) else none))) else none) else none) else (some (x4,x5,x6,x7)))
def N9 (x1:List AA) (x2:List B1) (x3:Int) (b0:AL):Option AL:=(if b0.2.2.1.length+x1.length<=68719476736 then (CA x3 x2 (x2.length:Int) 0 b0.1 b0.2.1 (b0.2.2.1++x1) b0.2.2.2) else none)
theorem SW:gh LE LD:=jS (by kernel_rfl)
theorem LF:lD Gl CA:=lS (by kernel_rfl)
theorem Vt:aW N9 Ep:=cT B3 rfl ⟨rfl,rfl⟩ (by kernel_rfl)
def C0 (x0:List Y) (x1:Y):Option Bool:=((B_ x0 x1).bind fun y1=>(some (decide (y1>=0))))
theorem F0:VK C0 Bw:=cT BB rfl ⟨rfl,rfl⟩ (by kernel_rfl)
def SX (x0 x1:Y):Option Bool:=(if (x0.1==1)=true then (if (x0.2.1.toList==x1.2.1.toList)=true then (if (x0.2.2.1.toList==x1.2.2.2.2.2.2.2.2.toList)=true then ((DM x0).bind fun y1=>(if (!y1)=false then (some (x0.2.2.2.2.2.1==x1.2.2.2.2.2.1)) else (some true))) else (some false)) else (some false)) else (some false))
theorem Zw:VK SX M3:=cT JF rfl ⟨rfl,rfl⟩ (by kernel_rfl)
def OM:=cG HZ (AJ BP) (AJ BP) kx
def ON:=kE 0 [] [] 0 OM kx
def NX:St->Option (RT (CB.outs BP)):=lG HY [] [0,1,7,8] 0 (AJ BP) ON
def CL (x0:List Int) (x1 x2 x3:Int):Option Int:=NX ⟨[(0,.lst (.int .i64) x0),(1,.int .i64 x1),(7,.int .i64 x2),(8,.int .i64 x3)],[]⟩
def BL (x0:List Int) (x1 x2 x3:Int):Option Int:=(if (decide (x3<x2))=true then (if 0<=x3 then (if x3<(x0.length:Int) then (if (x1==(x0.getD x3.toNat 0))=true then (some x3) else (CL x0 x1 x2 (i64.wrap (x3+1)))) else none) else none) else (some (-1:Int)))
def Py (x0:List Int) (x1:Int):Option Int:=(CL x0 x1 (x0.length:Int) 0)
theorem Bl:aW BL CL:=lS (by kernel_rfl)
theorem Jf:VK Py Cs:=cT BP rfl ⟨rfl,rfl⟩ (by kernel_rfl)
def Hr (x0:List Int) (x1 x2 x3:O) (x4:AB) (x5:List Int) (x6:AA):Option (O×List AA×List B1×Bool):=cG R5 (AJ DL) (AJ DL) kx ⟨[(12,.ptr 1 0),(16,.ptr 2 0),(18,.lst (.int .i64) x0),(20,.ptr 5 0)],[.var (U.enc x1),.var (U.enc x2),.var (U.enc x3),.var (AK.enc x4),.frz (.int .i64) x5,.var (AN.enc x6)]⟩
def F3 (x0:List (List Int)) (x1 x2:Int) (x3:Bool) (x4 x5 x6:O) (x7:AB):Option (O×List AA×List B1×Bool):=cG QY (AJ DL) (AJ DL) kx ⟨[(1,.lst (.slice (.int .i64)) x0),(2,.int .i64 x1),(3,.int .i64 x2),(6,.ptr 0 0),(12,.ptr 1 0),(16,.ptr 2 0),(17,.ptr 3 0),(69,.bool x3)],[.var (U.enc x4),.var (U.enc x5),.var (U.enc x6),.var (AK.enc x7)]⟩
def Q1 (x0:List (List Int)) (x1 x2:Int) (x3 x4:ByteArray) (x5:Bool) (x6 x7:O):Option (O×List AA×List B1×Bool):=cG QZ (AJ DL) (AJ DL) kx ⟨[(1,.lst (.slice (.int .i64)) x0),(2,.int .i64 x1),(3,.int .i64 x2),(4,.str x3),(5,.str x4),(6,.ptr 0 0),(12,.ptr 1 0),(37,.bool x5)],[.var (U.enc x6),.var (U.enc x7)]⟩
def Q2 (x0:List Int) (x1 x2 x3:O) (x4:AB) (x5:List Int) (x6:AA):Option (O×List AA×List B1×Bool):=(if ((x0.length:Int)==0)=true then ((Fn x3).bind fun y9=>(some (y9.2,[],y9.1,true))) else (dM ((Ab x0 x6 x3).bind fun y10=>(some (x3,y10.1,[],true))) ((Ab x0 x6 x3).bind fun y11=>(some (y11.2,y11.1,[],true)))))
def Q3 (x0:List (List Int)) (x1 x2:Int) (x3:Bool) (x4 x5 x6:O) (x7:AB):Option (O×List AA×List B1×Bool):=(if 0<=(i64.wrap (x4.2.1-1)) then (if (i64.wrap (x4.2.1-1))<(x0.length:Int) then ((Bi (x0.getD (i64.wrap (x4.2.1-1)).toNat ([]:List Int)) x6).bind fun y6=>((BQ y6.1).bind fun y7=>((CT y7).bind fun y8=>(if (x1==1)=true then (Hr y6.1 x4 x5 (y6.2.1,y6.2.2.1,y6.2.2.2.1,y6.2.2.2.2.1,y6.2.2.2.2.2.1,y6.2.2.2.2.2.2.1,y6.2.2.2.2.2.2.2.1,y6.2.2.2.2.2.2.2.2.1,y6.2.2.2.2.2.2.2.2.2.1,x1,x2,y6.2.2.2.2.2.2.2.2.2.1,x7,y8) x7 y8 (5,0,0,0,y6.2.2.2.2.2.2.2.2.2.1,([x7]:List AB))) else (Hr y6.1 x4 x5 (y6.2.1,y6.2.2.1,y6.2.2.2.1,y6.2.2.2.2.1,y6.2.2.2.2.2.1,y6.2.2.2.2.2.2.1,y6.2.2.2.2.2.2.2.1,y6.2.2.2.2.2.2.2.2.1,y6.2.2.2.2.2.2.2.2.2.1,x1,x2,y6.2.2.2.2.2.2.2.2.2.1,x7,y8) x7 y8 (7,0,0,0,y6.2.2.2.2.2.2.2.2.2.1,([]:List AB))))))) else none) else none)
def Q4 (x0:List (List Int)) (x1 x2:Int) (x3 x4:ByteArray) (x5:Bool) (x6 x7:O):Option (O×List AA×List B1×Bool):=((CR x6).bind fun y4=>(if (x1==1)=true then (if ((x6.2.2.2.2.2.2.2.1.length:Int)==12)=true then ((Kn x6.2.2.2.2.2.2.2.1 x3).bind fun y5=>(if (false != RC AK y5 (ByteArray.empty,ByteArray.empty,0))=true then (some ((0,0,false,false,false,false,([]:List Int),([]:List AB),0,0,0,0,(ByteArray.empty,ByteArray.empty,0),([]:List Int)),[],[],false)) else (F3 x0 x1 x2 (false != RC AK y5 (ByteArray.empty,ByteArray.empty,0)) x6 x7 (y4.1,y4.2.1,y4.2.2.1,y4.2.2.2.1,y4.2.2.2.2.1,y4.2.2.2.2.2.1,y4.2.2.2.2.2.2.1,y4.2.2.2.2.2.2.2.1,(i64.wrap (y4.2.2.2.2.2.2.2.2.1+1)),y4.2.2.2.2.2.2.2.2.2) (x3,x4,(i64.wrap ((i64.wrap (1000*x6.2.1))+(i64.wrap (y4.2.2.2.2.2.2.2.2.1+1)))))))) else (F3 x0 x1 x2 false x6 x7 (y4.1,y4.2.1,y4.2.2.1,y4.2.2.2.1,y4.2.2.2.2.1,y4.2.2.2.2.2.1,y4.2.2.2.2.2.2.1,y4.2.2.2.2.2.2.2.1,(i64.wrap (y4.2.2.2.2.2.2.2.2.1+1)),y4.2.2.2.2.2.2.2.2.2) (x3,x4,(i64.wrap ((i64.wrap (1000*x6.2.1))+(i64.wrap (y4.2.2.2.2.2.2.2.2.1+1))))))) else (F3 x0 x1 x2 false x6 x7 (y4.1,y4.2.1,y4.2.2.1,y4.2.2.2.1,y4.2.2.2.2.1,y4.2.2.2.2.2.1,y4.2.2.2.2.2.2.1,y4.2.2.2.2.2.2.2.1,(i64.wrap (y4.2.2.2.2.2.2.2.2.1+1)),y4.2.2.2.2.2.2.2.2.2) (x3,x4,(i64.wrap ((i64.wrap (1000*x6.2.1))+(i64.wrap (y4.2.2.2.2.2.2.2.2.1+1))))))))
def Vu (x0:O) (x1:List (List Int)) (x2 x3:Int) (x4 x5:ByteArray):Option (O×List AA×List B1×Bool):=((Ed x0).bind fun y1=>(if (!y1)=false then ((Fm x1 x0).bind fun y2=>(if (!y2.1)=false then ((JM x2 x3 x4 x5).bind fun y3=>(if (!y3)=true then (some ((0,0,false,false,false,false,([]:List Int),([]:List AB),0,0,0,0,(ByteArray.empty,ByteArray.empty,0),([]:List Int)),[],[],false)) else (Q1 x1 x2 x3 x4 x5 (!y3) y2.2 (0,0,false,false,false,false,([]:List Int),([]:List AB),0,0,0,0,(ByteArray.empty,ByteArray.empty,0),([]:List Int))))) else (some ((0,0,false,false,false,false,([]:List Int),([]:List AB),0,0,0,0,(ByteArray.empty,ByteArray.empty,0),([]:List Int)),[],[],false)))) else (some ((0,0,false,false,false,false,([]:List Int),([]:List AB),0,0,0,0,(ByteArray.empty,ByteArray.empty,0),([]:List Int)),[],[],false))))
theorem YK:mR Q2 Hr:=jS (by kernel_rfl)
theorem YL:lD Q3 F3:=jS (by kernel_rfl)
theorem YM:lD Q4 Q1:=jS (by kernel_rfl)
theorem cq:jZ Vu Mc:=cT DL rfl ⟨rfl,rfl⟩ (by kernel_rfl)
def Hs (x0:List (List Int)) (x1:Int) (x2:Bool) (x3 x4 x5:O):Option (O×List AA×Bool):=cG Qe (AJ Eo) (AJ Eo) kx ⟨[(1,.lst (.slice (.int .i64)) x0),(2,.int .i64 x1),(6,.ptr 1 0),(9,.ptr 2 0),(10,.bool x2)],[.var (U.enc x3),.var (U.enc x4),.var (U.enc x5)]⟩
def Q5 (x0:List (List Int)) (x1:Int) (x2:Bool) (x3 x4:O):Option (O×List AA×Bool):=cG Qf (AJ Eo) (AJ Eo) kx ⟨[(1,.lst (.slice (.int .i64)) x0),(2,.int .i64 x1),(3,.ptr 0 0),(6,.ptr 1 0),(44,.bool x2)],[.var (U.enc x3),.var (U.enc x4)]⟩
def Q6 (x0:List (List Int)) (x1:Int) (x2:Bool) (x3 x4 x5:O):Option (O×List AA×Bool):=((Er x5).bind fun y5=>(if x2=true then (if 0<=(i64.wrap (x1-1)) then (if (i64.wrap (x1-1))<(x0.length:Int) then ((Ct (x0.getD (i64.wrap (x1-1)).toNat ([]:List Int)) y5.2.2.2.2.2.2.2.1 (y5.1,x1,false,false,true,y5.2.2.2.2.2)).bind fun y6=>(some (y6.2,y6.1,true))) else none) else none) else (if 0<=(i64.wrap (x1-2)) then (if (i64.wrap (x1-2))<(x0.length:Int) then (dM ((Bi (x0.getD (i64.wrap (x1-2)).toNat ([]:List Int)) (y5.1,x1,false,false,true,y5.2.2.2.2.2)).bind fun y7=>((Ab y7.1 (1,0,0,0,0,([]:List AB)) y7.2).bind fun y8=>(some ((y5.1,x1,false,false,true,y5.2.2.2.2.2),y8.1,true)))) ((Bi (x0.getD (i64.wrap (x1-2)).toNat ([]:List Int)) (y5.1,x1,false,false,true,y5.2.2.2.2.2)).bind fun y9=>(dM ((Ab y9.1 (1,0,0,0,0,([]:List AB)) y9.2).bind fun y10=>(some (y9.2,y10.1,true))) ((Ab y9.1 (1,0,0,0,0,([]:List AB)) y9.2).bind fun y11=>(some (y11.2,y11.1,true)))))) else none) else none)))
def Q7 (x0:List (List Int)) (x1:Int) (x2:Bool) (x3 x4:O):Option (O×List AA×Bool):=((CR x3).bind fun y4=>(if x3.2.2.2.1=true then (Hs x0 x1 (x3.2.1==(i64.wrap (x1-1))) x3 x4 y4) else (Hs x0 x1 false x3 x4 y4)))
def Vv (x0:O) (x1:List (List Int)) (x2:Int):Option (O×List AA×Bool):=((Ed x0).bind fun y1=>(if (!y1)=true then (some ((0,0,false,false,false,false,([]:List Int),([]:List AB),0,0,0,0,(ByteArray.empty,ByteArray.empty,0),([]:List Int)),[],false)) else ((DV x1).bind fun y2=>(if (!y2)=true then (some ((0,0,false,false,false,false,([]:List Int),([]:List AB),0,0,0,0,(ByteArray.empty,ByteArray.empty,0),([]:List Int)),[],false)) else ((AU x2 2 (x1.length:Int)).bind fun y3=>(if (!y3)=true then (some ((0,0,false,false,false,false,([]:List Int),([]:List AB),0,0,0,0,(ByteArray.empty,ByteArray.empty,0),([]:List Int)),[],false)) else (if (decide (x2<=x0.2.1))=true then (some ((0,0,false,false,false,false,([]:List Int),([]:List AB),0,0,0,0,(ByteArray.empty,ByteArray.empty,0),([]:List Int)),[],false)) else (if 0<=(i64.wrap (x2-1)) then (if (i64.wrap (x2-1))<(x1.length:Int) then (if 0<=(0:Int) then (if 0<((x1.getD (i64.wrap (x2-1)).toNat ([]:List Int)).length:Int) then (if (((x1.getD (i64.wrap (x2-1)).toNat ([]:List Int)).getD (0:Int).toNat 0) != x0.1)=true then (some ((0,0,false,false,false,false,([]:List Int),([]:List AB),0,0,0,0,(ByteArray.empty,ByteArray.empty,0),([]:List Int)),[],false)) else (Q5 x1 x2 (((x1.getD (i64.wrap (x2-1)).toNat ([]:List Int)).getD (0:Int).toNat 0) != x0.1) x0 (0,0,false,false,false,false,([]:List Int),([]:List AB),0,0,0,0,(ByteArray.empty,ByteArray.empty,0),([]:List Int)))) else none) else none) else none) else none))))))))
theorem YN:jZ Q6 Hs:=jS (by kernel_rfl)
theorem YO:lq Q7 Q5:=jS (by kernel_rfl)
theorem cr:VL Vv Md:=cT Eo rfl ⟨rfl,rfl⟩ (by kernel_rfl)

def FM:=cG Ch (AJ AO) (AJ AO) kx
def FN:=kE 0 [] [] 0 FM kx
def E6:St->Option (RT (CB.outs AO)):=lG Cg [] [0,1,7,8] 0 (AJ AO) FN
def As (x0:List O) (x1 x2 x3:Int):Option Int:=E6 ⟨[(0,.lst U x0),(1,.clo 103 (.int .i64) x1),(7,.int .i64 x2),(8,.int .i64 x3)],[]⟩
def BU (x0:List O) (x1 x2 x3:Int):Option Int:=(if (decide (x3<x2))=true then (if 0<=x3 then (if x3<(x0.length:Int) then ((GE (x0.getD x3.toNat (0,0,false,false,false,false,([]:List Int),([]:List AB),0,0,0,0,(ByteArray.empty,ByteArray.empty,0),([]:List Int))) x1).bind fun y1=>(if y1=true then (some x3) else (As x0 x1 x2 (i64.wrap (x3+1))))) else none) else none) else (some (-1:Int)))
def Cv (x0:List O) (x1:Int):Option Int:=(As x0 x1 (x0.length:Int) 0)
theorem Ca:aW BU As:=lS (by kernel_rfl)
theorem Fs:VK Cv Bo:=cT AO rfl ⟨rfl,rfl⟩ (by kernel_rfl)
def J6 (x0:O) (x1:Int):Option Bool:=(some (x0.1==x1))
theorem RQ:VK J6 GE:=cT ER rfl ⟨rfl,rfl⟩ (by kernel_rfl)
def SY:=cG R8 (AJ Du) (AJ Du) kx
def Zx:=kB [] [1] 1 SY
def Zy:=kE 0 [] [1] 1 SY kx
def Ht (x0:Int) (x1:Bool) (x2:AA):Option Bool:=cG R7 Zx (AJ Du) Zy ⟨[(1,.ptr 0 0),(38,.int .i64 x0),(39,.bool x1)],[.var (AN.enc x2)]⟩
def Lk (x0:Bool) (x1:AA):Option Bool:=cG R9 (AJ Du) (AJ Du) kx ⟨[(1,.ptr 0 0),(36,.bool x0)],[.var (AN.enc x1)]⟩
def Q8 (x0:Int) (x1:Bool) (x2:AA):Option Bool:=(if x1=true then (some true) else (if (x0==5)=true then (some ((x2.2.2.2.2.2.length:Int)==1)) else (some ((x2.2.2.2.2.2.length:Int)==0))))
def Q9 (x0:Bool) (x1:AA):Option Bool:=(if (x1.1==2)=true then (Ht x1.1 (x1.1==2) x1) else (Ht x1.1 (x1.1==3) x1))
def Vw (x0:AA):Option Bool:=((AU x0.1 1 8).bind fun y1=>(if (!y1)=false then ((D8 x0.2.1).bind fun y2=>(if (!y2)=false then ((D8 x0.2.2.1).bind fun y3=>(if (!y3)=false then ((AU x0.2.2.2.1 1 9).bind fun y4=>(if (!y4)=false then ((AU x0.2.2.2.2.1 0 1000000000).bind fun y5=>(if (!y5)=false then ((EI x0.2.2.2.2.2).bind fun y6=>(if (!y6)=true then (some false) else (Lk (!y6) x0))) else (some false))) else (some false))) else (some false))) else (some false))) else (some false)))
theorem YP:VL Q8 Ht:=jS (by kernel_rfl)
theorem YQ:VK Q9 Lk:=jS (by kernel_rfl)
theorem ct:S6 Vw Ps:=cT Du rfl ⟨rfl,rfl⟩ (by kernel_rfl)
def LG:=cG Jw (AJ Bn) (AJ Bn) kx
def Gm:=kB [] [] 2 LG
def Gn:=kE 0 [] [] 2 LG kx
def C9 (x0:List (List Int)) (x1:Bool) (x2:O) (x3:AA):Option (List AA×List B1×O):=cG K5 Gm (AJ Bn) Gn ⟨[(0,.ptr 0 0),(1,.lst (.slice (.int .i64)) x0),(5,.ptr 1 0),(37,.bool x1)],[.var (U.enc x2),.var (AN.enc x3)]⟩
def EU (x0:Bool) (x1:O) (x2:AA):Option (List AA×List B1×O):=cG K6 Gm (AJ Bn) Gn ⟨[(0,.ptr 0 0),(5,.ptr 1 0),(75,.bool x0)],[.var (U.enc x1),.var (AN.enc x2)]⟩
def EV (x0:Int) (x1:Bool) (x2:O) (x3:AA):Option (List AA×List B1×O):=cG Jv Gm (AJ Bn) Gn ⟨[(0,.ptr 0 0),(5,.ptr 1 0),(9,.int .i64 x0),(107,.bool x1)],[.var (U.enc x2),.var (AN.enc x3)]⟩
def J7 (x0:List (List Int)) (x1:Bool) (x2:O) (x3:AA):Option (List AA×List B1×O):=(if x1=true then (if 0<=(i64.wrap (x2.2.1-1)) then (if (i64.wrap (x2.2.1-1))<(x0.length:Int) then ((Ct (x0.getD (i64.wrap (x2.2.1-1)).toNat ([]:List Int)) x3.2.2.2.2.2 x2).bind fun y2=>(some (y2.1,[],y2.2))) else none) else none) else (some ([],[],x2)))
def J8 (x0:Bool) (x1:O) (x2:AA):Option (List AA×List B1×O):=(if x0=true then ((JO x1.2.2.2.2.2.2.1 x2.2.1).bind fun y4=>(if x1.2.2.2.2.2.1=false then (if ((y4.length:Int)==0)=true then (some ([],[],(x1.1,x1.2.1,x1.2.2.1,x1.2.2.2.1,x1.2.2.2.2.1,x1.2.2.2.1,y4,x1.2.2.2.2.2.2.2))) else (some ([],[],(x1.1,x1.2.1,x1.2.2.1,x1.2.2.2.1,x1.2.2.2.2.1,false,y4,x1.2.2.2.2.2.2.2)))) else (some ([],[],(x1.1,x1.2.1,x1.2.2.1,x1.2.2.2.1,x1.2.2.2.2.1,true,y4,x1.2.2.2.2.2.2.2))))) else (some ([],[],x1)))
def J9 (x0:Int) (x1:Bool) (x2:O) (x3:AA):Option (List AA×List B1×O):=(if x1=true then ((HK x3 x2).bind fun y5=>(some (y5.1,[],y5.2))) else (if (x0==6)=true then ((Es 1 x3 x2).bind fun y6=>(some ([],y6.1,y6.2))) else (if (x0==8)=true then ((Es 2 x3 x2).bind fun y7=>(some ([],y7.1,y7.2))) else (some ([],[],x2)))))
def NN (x1:List (List Int)) (x2:AA) (b0:O):Option (List AA×List B1×O):=(if (x2.1==1)=true then ((IC x1 x2 b0).bind fun y1=>(some (y1.1,[],y1.2))) else (if (x2.1==2)=true then (if (x2.2.2.2.1==b0.2.1)=true then (if b0.2.2.2.2.1=true then (C9 x1 (!b0.2.2.2.1) b0 x2) else (C9 x1 false b0 x2)) else (C9 x1 false b0 x2)) else (if (x2.1==3)=true then (if 0<=(i64.wrap (x2.2.2.2.1-1)) then (if (i64.wrap (x2.2.2.2.1-1))<(x1.length:Int) then ((GF (x1.getD (i64.wrap (x2.2.2.2.1-1)).toNat ([]:List Int)) x2 b0).bind fun y3=>(some (y3.1,[],y3.2))) else none) else none) else (if (x2.1==4)=true then (if (x2.2.2.2.1==b0.2.1)=true then (EU b0.2.2.2.2.1 b0 x2) else (EU false b0 x2)) else (if (x2.1==5)=true then (EV x2.1 (x2.1==5) b0 x2) else (EV x2.1 (x2.1==7) b0 x2))))))
theorem RR:aW J7 C9:=jS (by kernel_rfl)
theorem RS:VL J8 EU:=jS (by kernel_rfl)
theorem RU:aW J9 EV:=jS (by kernel_rfl)
theorem UV:VL NN H_:=cT Bn rfl ⟨rfl,rfl⟩ (by kernel_rfl)
def GK:=cG C6 (AJ AS) (AJ AS) kx
def GL:=kE 0 [] [] 0 GK kx
def F4:St->Option (RT (CB.outs AS)):=lG C5 [] [0,1,7,8] 0 (AJ AS) GL
def Am (x0:List Y) (x1:Y) (x2 x3:Int):Option Int:=F4 ⟨[(0,.lst AE x0),(1,.clo 92 AE x1),(7,.int .i64 x2),(8,.int .i64 x3)],[]⟩
def BC (x0:List Y) (x1:Y) (x2 x3:Int):Option Int:=(if (decide (x3<x2))=true then (if 0<=x3 then (if x3<(x0.length:Int) then ((M3 (x0.getD x3.toNat (0,ByteArray.empty,ByteArray.empty,0,0,0,0,0,ByteArray.empty)) x1).bind fun y1=>(if y1=true then (some x3) else (Am x0 x1 x2 (i64.wrap (x3+1))))) else none) else none) else (some (-1:Int)))
def DW (x0:List Y) (x1:Y):Option Int:=(Am x0 x1 (x0.length:Int) 0)
theorem Bx:aW BC Am:=lS (by kernel_rfl)
theorem Gp:VK DW B_:=cT AS rfl ⟨rfl,rfl⟩ (by kernel_rfl)
def HE (x0:List (List Int)) (x1:Bool) (x2:O):Option (Bool×O):=cG Ha (AJ CG) (AJ CG) kx ⟨[(0,.ptr 0 0),(1,.lst (.slice (.int .i64)) x0),(33,.bool x1)],[.var (U.enc x2)]⟩
def HF (x0:List (List Int)) (x1:Bool) (x2:O):Option (Bool×O):=((DV x0).bind fun y1=>(if y1=true then (if 0<=(i64.wrap (x2.2.1-1)) then (if (i64.wrap (x2.2.1-1))<(x0.length:Int) then (if 0<=(0:Int) then (if 0<((x0.getD (i64.wrap (x2.2.1-1)).toNat ([]:List Int)).length:Int) then (some ((((x0.getD (i64.wrap (x2.2.1-1)).toNat ([]:List Int)).getD (0:Int).toNat 0)==x2.1),x2)) else none) else none) else none) else none) else (some (false,x2))))
def Jg (x1:List (List Int)) (b0:O):Option (Bool×O):=(if (!b0.2.2.2.2.2.1)=false then (if (b0.2.2.2.2.2.2.2.2.2.1 != 0)=false then (if (b0.2.2.2.2.2.2.2.2.1==900)=false then (if (decide (b0.2.1>(x1.length:Int)))=true then (some (false,b0)) else (HE x1 (decide (b0.2.1>(x1.length:Int))) b0)) else (some (false,b0))) else (some (false,b0))) else (some (false,b0)))
theorem NY:VL HF HE:=jS (by kernel_rfl)
theorem Pz:VK Jg Fm:=cT CG rfl ⟨rfl,rfl⟩ (by kernel_rfl)
def YR:=cG Qh (AJ D3) (AJ D3) kx
def YS:=kE 0 [] [4] 1 YR kx
def W8:St->Option (RT (CB.outs D3)):=lG Qg [] [1,4,7,8,9] 1 (AJ D3) YS
def HA (x0:ByteArray) (x1:List AB) (x2 x3:Int) (x4:AB):Option AB:=W8 ⟨[(1,.str x0),(4,.ptr 0 0),(7,.lst AK x1),(8,.int .i64 x2),(9,.int .i64 x3)],[.var (AK.enc x4)]⟩
def KV (x0:ByteArray) (x1:List AB) (x2 x3:Int) (x4:AB):Option AB:=(if (decide (x3<x2))=true then (if 0<=x3 then (if x3<(x1.length:Int) then (if (((x1.getD x3.toNat (ByteArray.empty,ByteArray.empty,0)).1).toList==x0.toList)=true then (some (x1.getD x3.toNat (ByteArray.empty,ByteArray.empty,0))) else (HA x0 x1 x2 (i64.wrap (x3+1)) x4)) else none) else none) else (some (ByteArray.empty,ByteArray.empty,0)))
def Tm (x0:List AB) (x1:ByteArray):Option AB:=(HA x1 x0 (x0.length:Int) 0 (ByteArray.empty,ByteArray.empty,0))
theorem O6:lq KV HA:=lS (by kernel_rfl)
theorem ar:VK Tm Kn:=cT D3 rfl ⟨rfl,rfl⟩ (by kernel_rfl)
def P0:=cG JH (AJ Bh) (AJ Bh) kx
def P1:=kE 0 [(5,1)] [5] 2 P0 kx
def O7:St->Option (RT (CB.outs Bh)):=lG JG [(5,1)] [0,5,8,9,10] 2 (AJ Bh) P1
def Cl (x0:List Int) (x1 x2:Int) (x3:O) (x4:List Int):Option (List Int×O):=O7 ⟨[(0,.ptr 0 0),(5,.row 1),(8,.lst (.int .i64) x0),(9,.int .i64 x1),(10,.int .i64 x2)],[.var (U.enc x3),.rows 3 (.int .i64) x4]⟩
def FO (x0:List Int) (x1 x2:Int) (x3:O) (x4:List Int):Option (List Int×O):=(if (decide (x2<x1))=true then (if 0<=x2 then (if x2<(x0.length:Int) then (if ((x0.getD x2.toNat 0) != x3.1)=true then (if x4.length+([(x0.getD x2.toNat 0)]:List Int).length<=68719476736 then (Cl x0 x1 (i64.wrap (x2+1)) x3 (x4++([(x0.getD x2.toNat 0)]:List Int))) else none) else (Cl x0 x1 (i64.wrap (x2+1)) x3 x4)) else none) else none) else (some (x4,x3)))
def LH (x1:List Int) (b0:O):Option (List Int×O):=(Cl x1 (x1.length:Int) 0 b0 ([]:List Int))
theorem Ig:lq FO Cl:=lS (by kernel_rfl)
theorem SZ:VK LH Bi:=cT Bh rfl ⟨rfl,rfl⟩ (by kernel_rfl)
def J_ (b0:List Int):Option (List Int):=((LX (IntKind.u64.wrap (b0.length:Int))).bind fun y1=>((B4 0 (b0.length:Int) y1 b0).bind fun y2=>(some y2)))
theorem RV:S6 J_ CT:=cT ES rfl ⟨rfl,rfl⟩ (by kernel_rfl)
def GM (x0:O) (x1:iu):Option (List B1×O):=cG K7 (AJ DB) (AJ DB) kx ⟨[(0,.ptr 0 0),(3,.ptr 1 0)],[.var (U.enc x0),.var (Tz.enc x1)]⟩
def GN (x0:O) (x1:iu):Option (List B1×O):=(some (([(x1.2.1,x0.2.1,x1.2.2.1,x1.2.2.2.1)]:List B1),(x0.1,x0.2.1,x0.2.2.1,x0.2.2.2.1,x0.2.2.2.2.1,x0.2.2.2.2.2.1,x0.2.2.2.2.2.2.1,x0.2.2.2.2.2.2.2.1,x0.2.2.2.2.2.2.2.2.1,0,0,0,(ByteArray.empty,ByteArray.empty,0),([]:List Int))))
def NO (b0:O):Option (List B1×O):=(if (b0.2.2.2.2.2.2.2.2.2.1==1)=true then ((JP b0.2.2.2.2.2.2.2.1 b0.2.2.2.2.2.2.2.2.2.2.2.2.1).bind fun y1=>(GM (b0.1,b0.2.1,b0.2.2.1,b0.2.2.2.1,b0.2.2.2.2.1,b0.2.2.2.2.2.1,b0.2.2.2.2.2.2.1,y1,b0.2.2.2.2.2.2.2.2) b0.2.2.2.2.2.2.2.2.2)) else ((Kn b0.2.2.2.2.2.2.2.1 b0.2.2.2.2.2.2.2.2.2.2.2.2.1.1).bind fun y2=>(GM b0 (b0.2.2.2.2.2.2.2.2.2.1,b0.2.2.2.2.2.2.2.2.2.2.1,b0.2.2.2.2.2.2.2.2.2.2.2.1,y2,b0.2.2.2.2.2.2.2.2.2.2.2.2.2))))
theorem KA:VK GN GM:=jS (by kernel_rfl)
theorem UW:S6 NO Fn:=cT DB rfl ⟨rfl,rfl⟩ (by kernel_rfl)
def O8:=cG Ia (AJ BV) (AJ BV) kx
def O9:=kE 0 [(7,2)] [7] 3 O8 kx
def OO:St->Option (RT (CB.outs BV)):=lG IY [(7,2)] [0,5,7,11,12,13] 3 (AJ BV) O9
def DN (x0:List Int) (x1 x2:Int) (x3:O) (x4:AA) (x5:List AA):Option (List AA×O):=OO ⟨[(0,.ptr 0 0),(5,.ptr 1 0),(7,.row 2),(11,.lst (.int .i64) x0),(12,.int .i64 x1),(13,.int .i64 x2)],[.var (U.enc x3),.var (AN.enc x4),.rows 97 AN x5]⟩
def E1 (x0:List Int) (x1 x2:Int) (x3:O) (x4:AA) (x5:List AA):Option (List AA×O):=(if (decide (x2<x1))=true then (if 0<=x2 then (if x2<(x0.length:Int) then ((FK x4).bind fun y1=>(if x5.length+([(y1.1,x3.1,(x0.getD x2.toNat 0),x3.2.1,y1.2.2.2.2)]:List AA).length<=68719476736 then (DN x0 x1 (i64.wrap (x2+1)) x3 x4 (x5++([(y1.1,x3.1,(x0.getD x2.toNat 0),x3.2.1,y1.2.2.2.2)]:List AA))) else none)) else none) else none) else (some (x5,x3)))
def KB (x1:List Int) (x2:AA) (b0:O):Option (List AA×O):=(DN x1 (x1.length:Int) 0 b0 x2 ([]:List AA))
theorem Hd:jZ E1 DN:=lS (by kernel_rfl)
theorem RW:VL KB Ab:=cT BV rfl ⟨rfl,rfl⟩ (by kernel_rfl)
def Vx (b0:O):Option O:=(some (b0.1,b0.2.1,b0.2.2.1,b0.2.2.2.1,false,false,[],b0.2.2.2.2.2.2.2.1,0,0,0,0,(ByteArray.empty,ByteArray.empty,0),([]:List Int)))
theorem Vy:S6 Vx Er:=cT GV rfl ⟨rfl,rfl⟩ (by kernel_rfl)
def Jh (x1:List Int) (x2:List AB) (b0:O):Option (List AA×O):=((Bi x1 b0).bind fun y1=>((Aa x2).bind fun y2=>((BQ y1.1).bind fun y3=>((CT y3).bind fun y4=>(if ((y1.1.length:Int)==0)=true then ((Ab y1.1 (3,0,0,0,0,x2) (y1.2.1,y1.2.2.1,y1.2.2.2.1,true,y1.2.2.2.2.2.1,true,y4,y2,y1.2.2.2.2.2.2.2.2.2)).bind fun y5=>(some (y5.1,y5.2))) else ((Ab y1.1 (3,0,0,0,0,x2) (y1.2.1,y1.2.2.1,y1.2.2.2.1,true,y1.2.2.2.2.2.1,y1.2.2.2.2.2.2.1,y4,y2,y1.2.2.2.2.2.2.2.2.2)).bind fun y6=>(some (y6.1,y6.2))))))))
theorem P2:VL Jh Ct:=cT Dv rfl ⟨rfl,rfl⟩ (by kernel_rfl)
def KC (x0:Bool) (x1:O) (x2:AA):Option (List AA×O):=cG Jy (AJ DC) (AJ DC) kx ⟨[(0,.ptr 0 0),(5,.ptr 1 0),(37,.bool x0)],[.var (U.enc x1),.var (AN.enc x2)]⟩
def KD (x0:Bool) (x1:O) (x2:AA):Option (List AA×O):=((Er (x1.1,x2.2.2.2.1,x1.2.2.1,false,x1.2.2.2.2)).bind fun y2=>((Ab ([x2.2.1]:List Int) (2,0,0,0,0,y2.2.2.2.2.2.2.2.1) y2).bind fun y3=>(some (y3.1,y3.2))))
def NP (x1:List (List Int)) (x2:AA) (b0:O):Option (List AA×O):=(if (x2.2.2.2.1 != (i64.wrap (b0.2.1+1)))=true then (some ([],b0)) else (if (!b0.2.2.2.1)=true then (some ([],b0)) else (if 0<=(i64.wrap (b0.2.1-1)) then (if (i64.wrap (b0.2.1-1))<(x1.length:Int) then ((Bk (x1.getD (i64.wrap (b0.2.1-1)).toNat ([]:List Int)) b0.1).bind fun y1=>(if (!y1)=true then (some ([],b0)) else (KC (!y1) b0 x2))) else none) else none)))
theorem RX:VL KD KC:=jS (by kernel_rfl)
theorem UX:VL NP IC:=cT DC rfl ⟨rfl,rfl⟩ (by kernel_rfl)
def Ih:=cG Id (AJ BG) (AJ BG) kx
def O_:=kB [] [0,5] 2 Ih
def PA:=kE 0 [] [0,5] 2 Ih kx
def CV (x0:Bool) (x1:O) (x2:AA):Option (List AA×O):=cG Ic O_ (AJ BG) PA ⟨[(0,.ptr 0 0),(5,.ptr 1 0),(24,.bool x0)],[.var (U.enc x1),.var (AN.enc x2)]⟩
def He (x0:Bool) (x1:O) (x2:AA):Option (List AA×O):=cG Ie (AJ BG) (AJ BG) kx ⟨[(0,.ptr 0 0),(5,.ptr 1 0),(23,.bool x0)],[.var (U.enc x1),.var (AN.enc x2)]⟩
def Hf (x0:Bool) (x1:O) (x2:AA):Option (List AA×O):=(if x0=true then ((Aa x2.2.2.2.2.2).bind fun y2=>((Er (x1.1,x2.2.2.2.1,false,true,x1.2.2.2.2.1,x1.2.2.2.2.2.1,x1.2.2.2.2.2.2.1,y2,x1.2.2.2.2.2.2.2.2)).bind fun y3=>((Ab ([x2.2.1]:List Int) (4,0,0,0,0,([]:List AB)) y3).bind fun y4=>(some (y4.1,y4.2))))) else (if (!x1.2.2.2.1)=true then (some ([],x1)) else ((Ab ([x2.2.1]:List Int) (4,0,0,0,0,([]:List AB)) x1).bind fun y5=>(some (y5.1,y5.2)))))
def Hg (x0:Bool) (x1:O) (x2:AA):Option (List AA×O):=(if (decide (x2.2.2.2.1>x1.2.1))=true then (CV true x1 x2) else (if (!x1.2.2.2.1)=true then (CV (!x1.2.2.1) x1 x2) else (CV false x1 x2)))
def KE (x1:List Int) (x2:AA) (b0:O):Option (List AA×O):=((Bk x1 b0.1).bind fun y1=>(if (!y1)=true then (some ([],b0)) else (if 0<=(0:Int) then (if 0<(x1.length:Int) then (if ((x1.getD (0:Int).toNat 0)==b0.1)=true then (some ([],b0)) else (He ((x1.getD (0:Int).toNat 0)==b0.1) b0 x2)) else none) else none)))
theorem OP:VL Hf CV:=jS (by kernel_rfl)
theorem OQ:VL Hg He:=jS (by kernel_rfl)
theorem RY:VL KE GF:=cT BG rfl ⟨rfl,rfl⟩ (by kernel_rfl)
def Sa (x0:List Int) (x1:Int):Option (List Int):=((BQ x0).bind fun y1=>((Dx y1 x1).bind fun y2=>(some y2)))
theorem Zz:VK Sa JO:=cT JI rfl ⟨rfl,rfl⟩ (by kernel_rfl)
def Ji (x0:Bool) (x1:O) (x2:AA):Option (List AA×O):=cG Jz (AJ Cw) (AJ Cw) kx ⟨[(0,.ptr 0 0),(3,.ptr 1 0),(18,.bool x0)],[.var (U.enc x1),.var (AN.enc x2)]⟩
def Jj (x0:Bool) (x1:O) (x2:AA):Option (List AA×O):=(if (x2.1==7)=true then ((Ab ([x2.2.1]:List Int) (8,0,0,0,x2.2.2.2.2.1,([]:List AB)) x1).bind fun y1=>(some (y1.1,y1.2))) else (if 0<=(0:Int) then (if 0<(x2.2.2.2.2.2.length:Int) then ((JP x1.2.2.2.2.2.2.2.1 (x2.2.2.2.2.2.getD (0:Int).toNat (ByteArray.empty,ByteArray.empty,0))).bind fun y2=>((Ab ([x2.2.1]:List Int) (6,0,0,0,x2.2.2.2.2.1,([]:List AB)) (x1.1,x1.2.1,x1.2.2.1,x1.2.2.2.1,x1.2.2.2.2.1,x1.2.2.2.2.2.1,x1.2.2.2.2.2.2.1,y2,x1.2.2.2.2.2.2.2.2)).bind fun y3=>(some (y3.1,y3.2)))) else none) else none))
def ML (x1:AA) (b0:O):Option (List AA×O):=(if (x1.2.2.2.1 != b0.2.1)=true then (some ([],b0)) else (if (!b0.2.2.2.1)=true then (some ([],b0)) else (Ji (!b0.2.2.2.1) b0 x1)))
theorem P3:VL Jj Ji:=jS (by kernel_rfl)
theorem TZ:VK ML HK:=cT Cw rfl ⟨rfl,rfl⟩ (by kernel_rfl)
def Ii (x0:Bool) (x1:O) (x2:AA):Option (List B1×O):=cG If (AJ Ci) (AJ Ci) kx ⟨[(0,.ptr 0 0),(5,.ptr 1 0),(32,.bool x0)],[.var (U.enc x1),.var (AN.enc x2)]⟩
def Ij (x0:Bool) (x1:O) (x2:AA):Option (List B1×O):=((JO x1.2.2.2.2.2.2.2.2.2.2.2.2.2 x2.2.1).bind fun y1=>(if (decide ((y1.length:Int)>0))=true then (some ([],(x1.1,x1.2.1,x1.2.2.1,x1.2.2.2.1,x1.2.2.2.2.1,x1.2.2.2.2.2.1,x1.2.2.2.2.2.2.1,x1.2.2.2.2.2.2.2.1,x1.2.2.2.2.2.2.2.2.1,x1.2.2.2.2.2.2.2.2.2.1,x1.2.2.2.2.2.2.2.2.2.2.1,x1.2.2.2.2.2.2.2.2.2.2.2.1,x1.2.2.2.2.2.2.2.2.2.2.2.2.1,y1))) else ((Fn (x1.1,x1.2.1,x1.2.2.1,x1.2.2.2.1,x1.2.2.2.2.1,x1.2.2.2.2.2.1,x1.2.2.2.2.2.2.1,x1.2.2.2.2.2.2.2.1,x1.2.2.2.2.2.2.2.2.1,x1.2.2.2.2.2.2.2.2.2.1,x1.2.2.2.2.2.2.2.2.2.2.1,x1.2.2.2.2.2.2.2.2.2.2.2.1,x1.2.2.2.2.2.2.2.2.2.2.2.2.1,y1)).bind fun y2=>(some (y2.1,y2.2)))))
def LI (x1:Int) (x2:AA) (b0:O):Option (List B1×O):=(if (x2.2.2.2.1 != b0.2.1)=true then (some ([],b0)) else (if (b0.2.2.2.2.2.2.2.2.2.1 != x1)=true then (some ([],b0)) else (if (b0.2.2.2.2.2.2.2.2.2.2.2.1 != x2.2.2.2.2.1)=true then (some ([],b0)) else (Ii (b0.2.2.2.2.2.2.2.2.2.2.2.1 != x2.2.2.2.2.1) b0 x2))))
theorem PB:VL Ij Ii:=jS (by kernel_rfl)
theorem Sb:VL LI Es:=cT Ci rfl ⟨rfl,rfl⟩ (by kernel_rfl)
def FX:=kE 0 [] [] 1 (AJ AP) kx
def FP:St->Option (RT (CB.outs AP)):=lG FJ [(0,0)] [0,1,2,3,8,9] 1 (AJ AP) FX
def FY:=kB [(0,0)] [0,1,2,3,8,9] 1 FP
def Bj:=kB [(0,0)] [0,1,2,3,8,9] 1 FY
def BH:=kE 1 [(0,0)] [0,1,2,3,8,9] 1 FY FX
def LJ:=cG DD Bj (AJ AP) BH
def FQ (x0 x1 x2:Int) (x3 x4:Bool) (x5 x6:Int) (x7:Bool) (x8:List Int):Option (List Int):=cG DD Bj (AJ AP) BH ⟨[(0,.row 0),(1,.int .i64 x0),(2,.int .i64 x1),(3,.int .i64 x2),(8,.bool x3),(9,.bool x4),(10,.int .i64 x5),(11,.int .i64 x6),(87,.bool x7)],[.mrow 3 (.int .i64) x8]⟩
def DE (x0 x1 x2:Int) (x3 x4:Bool) (x5 x6:Int) (x7:Bool) (x8:List Int):Option (List Int):=cG FE LJ (AJ AP) BH ⟨[(0,.row 0),(1,.int .i64 x0),(2,.int .i64 x1),(3,.int .i64 x2),(8,.bool x3),(9,.bool x4),(10,.int .i64 x5),(11,.int .i64 x6),(87,.bool x7)],[.mrow 3 (.int .i64) x8]⟩
def Bc (x0 x1 x2:Int) (x3 x4:Bool) (x5 x6:Int) (x7:List Int):Option (List Int):=cG FF Bj (AJ AP) BH ⟨[(0,.row 0),(1,.int .i64 x0),(2,.int .i64 x1),(3,.int .i64 x2),(8,.bool x3),(9,.bool x4),(10,.int .i64 x5),(11,.int .i64 x6)],[.mrow 3 (.int .i64) x7]⟩
def DF (x0 x1 x2:Int) (x3 x4:Bool) (x5 x6 x7:Int) (x8:List Int):Option (List Int):=cG FH Bj (AJ AP) BH ⟨[(0,.row 0),(1,.int .i64 x0),(2,.int .i64 x1),(3,.int .i64 x2),(8,.bool x3),(9,.bool x4),(10,.int .i64 x5),(11,.int .i64 x6),(12,.int .i64 x7)],[.mrow 3 (.int .i64) x8]⟩
def DG (x0 x1 x2:Int) (x3 x4:Bool) (x5:Int) (x6:List Int):Option (List Int):=cG FI Bj (AJ AP) BH ⟨[(0,.row 0),(1,.int .i64 x0),(2,.int .i64 x1),(3,.int .i64 x2),(8,.bool x3),(9,.bool x4),(10,.int .i64 x5)],[.mrow 3 (.int .i64) x6]⟩
def Bd (x0 x1 x2:Int) (x3 x4:Bool) (x5:List Int):Option (List Int):=FP ⟨[(0,.row 0),(1,.int .i64 x0),(2,.int .i64 x1),(3,.int .i64 x2),(8,.bool x3),(9,.bool x4)],[.mrow 3 (.int .i64) x5]⟩
def KW (x0 x1 x2:Int) (x3 x4:Bool) (x5 x6:Int) (x7:Bool) (x8:List Int):Option (List Int):=((K8 x0 x1 x6 x8).bind fun y9=>(if 8=0 then none else (if (decide ((i64.wrap (y9.1-x0))<(i64.wrap (x1-y9.1))))=true then ((B4 x0 y9.1 x2 y9.2.2).bind fun y10=>(Bd (i64.wrap (y9.1+1)) x1 x2 (decide ((i64.wrap (y9.1-x0))>=(i64.wrap (Int.tdiv x5 8)))) y9.2.1 y10)) else ((B4 (i64.wrap (y9.1+1)) x1 x2 y9.2.2).bind fun y11=>(Bd x0 y9.1 x2 (decide ((i64.wrap (x1-y9.1))>=(i64.wrap (Int.tdiv x5 8)))) y9.2.1 y11)))))
def KX (x0 x1 x2:Int) (x3 x4:Bool) (x5 x6:Int) (x7:Bool) (x8:List Int):Option (List Int):=(if x7=true then ((ID x0 x1 x6 x8).bind fun y8=>(Bd y8.1 x1 x2 x3 x4 y8.2)) else (FQ x0 x1 x2 x3 x4 x5 x6 x7 x8))
def KY (x0 x1 x2:Int) (x3 x4:Bool) (x5 x6:Int) (x7:List Int):Option (List Int):=(if (decide (x0>0))=true then (if 0<=(i64.wrap (x0-1)) then (if (i64.wrap (x0-1))<(x7.length:Int) then (if 0<=x6 then (if x6<(x7.length:Int) then ((JQ (x7.getD ((i64.wrap (x0-1)).toNat) 0) (x7.getD x6.toNat 0)).bind fun y7=>(DE x0 x1 x2 x3 x4 x5 x6 (!y7) x7)) else none) else none) else none) else none) else (DE x0 x1 x2 x3 x4 x5 x6 false x7))
def KZ (x0 x1 x2:Int) (x3 x4:Bool) (x5 x6 x7:Int) (x8:List Int):Option (List Int):=(if x3=true then (if x4=true then (if (x7==1)=true then ((GG x0 x1 x8).bind fun y6=>(if y6.1=true then (some y6.2) else (Bc x0 x1 x2 x3 x4 x5 x6 y6.2))) else (Bc x0 x1 x2 x3 x4 x5 x6 x8)) else (Bc x0 x1 x2 x3 x4 x5 x6 x8)) else (Bc x0 x1 x2 x3 x4 x5 x6 x8))
def Ka (x0 x1 x2:Int) (x3 x4:Bool) (x5:Int) (x6:List Int):Option (List Int):=((Jp x0 x1 x6).bind fun y4=>(if (y4.2.1==2)=true then ((JS x0 x1 y4.2.2).bind fun y5=>(DF x0 x1 x2 x3 x4 x5 (i64.wrap ((i64.wrap (x1-1))-(i64.wrap (y4.1-x0)))) 1 y5)) else (DF x0 x1 x2 x3 x4 x5 y4.1 y4.2.1 y4.2.2)))
def FR (x0 x1 x2:Int) (x3 x4:Bool) (x5:List Int):Option (List Int):=(if (decide ((i64.wrap (x1-x0))<=12))=true then ((Cn x0 x1 x5).bind fun y1=>(some y1)) else (if (x2==0)=true then ((LY x0 x1 x5).bind fun y2=>(some y2)) else (if (!x3)=true then ((Is x0 x1 x5).bind fun y3=>(DG x0 x1 (i64.wrap (x2-1)) x3 x4 (i64.wrap (x1-x0)) y3)) else (DG x0 x1 x2 x3 x4 (i64.wrap (x1-x0)) x5))))
def GZ (x1 x2 x3:Int) (b0:List Int):Option (List Int):=(Bd x1 x2 x3 true true b0)
theorem W9:mS KW FQ:=jS (by kernel_rfl)
theorem W_:mS KX DE:=jS (by kernel_rfl)
theorem XA:lD KY Bc:=jS (by kernel_rfl)
theorem XB:mS KZ DF:=jS (by kernel_rfl)
theorem XC:mR Ka DG:=jS (by kernel_rfl)
theorem Kb:jZ FR Bd:=lS (by kernel_rfl)
theorem Mf:aW GZ B4:=cT AP rfl ⟨rfl,rfl⟩ (by kernel_rfl)
def Q_ (x0:Int):Option Int:=((JR x0).bind fun y1=>(some y1))
theorem YT:S6 Q_ LX:=cT Hm rfl ⟨rfl,rfl⟩ (by kernel_rfl)
def Ga (x0:List AB) (x1:AB) (x2:List AB):Option (List AB):=cG On (AJ DS) (AJ DS) kx ⟨[(0,.lst AK x0),(5,.row 1)],[.var (AK.enc x1),.rows 38 AK x2]⟩
def Gb (x0:List AB) (x1:Int) (x2 x3:Bool) (x4:AB) (x5:List AB):Option (List AB):=cG Oo (AJ DS) (AJ DS) kx ⟨[(0,.lst AK x0),(3,.ptr 0 0),(5,.row 1),(6,.int .i64 x1),(7,.bool x2),(32,.bool x3)],[.var (AK.enc x4),.rows 38 AK x5]⟩
def N_ (x0:List AB) (x1:AB) (x2:List AB):Option (List AB):=((EI x2).bind fun y5=>(if (!y5)=true then ((Aa x0).bind fun y6=>(some y6)) else (some x2)))
def OA (x0:List AB) (x1:Int) (x2 x3:Bool) (x4:AB) (x5:List AB):Option (List AB):=(if x2=true then (if 0<=x1 then (if x1<(x5.length:Int) then (let z4:List AB:=x5.set x1.toNat x4; (Ga x0 x4 z4)) else none) else none) else ((CU x5 x1 ([x4]:List AB)).bind fun y7=>(Ga x0 x4 y7)))
def Sc (x0:List AB) (x1:AB):Option (List AB):=((Aa x0).bind fun y1=>((A_ x0 x1.1 ()).bind fun y2=>((EI x0).bind fun y3=>(if (!y3)=true then (some y1) else (if y2.2=true then (if 0<=y2.1 then (if y2.1<(x0.length:Int) then (if (decide ((((x0.getD y2.1.toNat (ByteArray.empty,ByteArray.empty,0)).2).2)>=x1.2.2))=true then (some y1) else (Gb x0 y2.1 y2.2 (decide ((((x0.getD y2.1.toNat (ByteArray.empty,ByteArray.empty,0)).2).2)>=x1.2.2)) x1 y1)) else none) else none) else (Gb x0 y2.1 y2.2 false x1 y1))))))
theorem Vz:VL N_ Ga:=jS (by kernel_rfl)
theorem V0:jZ OA Gb:=jS (by kernel_rfl)
theorem Z0:VK Sc JP:=cT DS rfl ⟨rfl,rfl⟩ (by kernel_rfl)
def CW:=kE 0 [] [] 1 (AJ AM) kx
def Dl:St->Option (RT (CB.outs AM)):=lG D7 [(0,0)] [0,1,2,6] 1 (AJ AM) CW
def Hh:=kB [(0,0)] [0,1,2,6] 1 Dl
def D9:=cG D6 Hh (AJ AM) CW
def Hi:=kB [(0,0)] [0,1,2,6] 1 D9
def Hj:=kE 1 [(0,0)] [0,1,2,6] 1 D9 CW
def D_:=kE 2 [(0,0)] [0,1,2,6] 1 Hi Hj
def Dm:St->Option (RT (CB.outs AM)):=lG D5 [(0,0)] [0,1,2,6,7] 1 (AJ AM) D_
def Hk:=kB [(0,0)] [0,1,2,6,7] 1 Dm
def Dn (x0 x1 x2 x3:Int) (x4:Bool) (x5:List Int):Option (List Int):=cG D4 Hk (AJ AM) D_ ⟨[(0,.row 0),(1,.int .i64 x0),(2,.int .i64 x1),(6,.int .i64 x2),(7,.int .i64 x3),(30,.bool x4)],[.mrow 3 (.int .i64) x5]⟩
def BY (x0 x1 x2 x3:Int) (x4:List Int):Option (List Int):=Dm ⟨[(0,.row 0),(1,.int .i64 x0),(2,.int .i64 x1),(6,.int .i64 x2),(7,.int .i64 x3)],[.mrow 3 (.int .i64) x4]⟩
def Ak (x0 x1 x2:Int) (x3:List Int):Option (List Int):=Dl ⟨[(0,.row 0),(1,.int .i64 x0),(2,.int .i64 x1),(6,.int .i64 x2)],[.mrow 3 (.int .i64) x3]⟩
def Do (x0 x1 x2 x3:Int) (x4:Bool) (x5:List Int):Option (List Int):=(if 0<=(i64.wrap (x3-1)) then (if (i64.wrap (x3-1))<(x5.length:Int) then (if 0<=x3 then (if x3<(x5.length:Int) then (if 0<=x3 then (if x3<(x5.length:Int) then (let z2:List Int:=x5.set x3.toNat (x5.getD ((i64.wrap (x3-1)).toNat) 0); (if 0<=(i64.wrap (x3-1)) then (if (i64.wrap (x3-1))<(z2.length:Int) then (let z3:List Int:=z2.set ((i64.wrap (x3-1)).toNat) (x5.getD x3.toNat 0); (BY x0 x1 x2 (i64.wrap (x3-1)) z3)) else none) else none)) else none) else none) else none) else none) else none) else none)
def CN (x0 x1 x2 x3:Int) (x4:List Int):Option (List Int):=(if (decide (x3>x0))=true then (if 0<=x3 then (if x3<(x4.length:Int) then (if 0<=(i64.wrap (x3-1)) then (if (i64.wrap (x3-1))<(x4.length:Int) then ((JQ (x4.getD x3.toNat 0) (x4.getD ((i64.wrap (x3-1)).toNat) 0)).bind fun y1=>(if y1=true then (Dn x0 x1 x2 x3 y1 x4) else (Ak x0 x1 (i64.wrap (x2+1)) x4))) else none) else none) else none) else none) else (Ak x0 x1 (i64.wrap (x2+1)) x4))
def BZ (x0 x1 x2:Int) (x3:List Int):Option (List Int):=(if (decide (x2<x1))=true then (BY x0 x1 x2 x2 x3) else (some x3))
def Co (x1 x2:Int) (b0:List Int):Option (List Int):=(Ak x1 x2 (i64.wrap (x1+1)) b0)
theorem HV:jZ Do Dn:=jS (by kernel_rfl)
theorem Dp:lq CN BY:=lS (by kernel_rfl)
theorem CO:aW BZ Ak:=lS (by kernel_rfl)
theorem Ea:VL Co Cn:=cT AM rfl ⟨rfl,rfl⟩ (by kernel_rfl)
def Sd (x0 x1:Int):Option Bool:=((Hp x0).bind fun y1=>(if y1=true then ((Hp x1).bind fun y2=>(if (!y2)=false then (some (decide (x0<x1))) else (some true))) else (some (decide (x0<x1)))))
theorem Z1:VK Sd JQ:=cT JK rfl ⟨rfl,rfl⟩ (by kernel_rfl)
def Ew (x0 x1:Int):Option Int:=cG L5 (AJ CQ) (AJ CQ) kx ⟨[(0,.int .u64 x0),(2,.int .i64 x1)],[]⟩
def Gq (x0 x1:Int):Option Int:=cG L6 (AJ CQ) (AJ CQ) kx ⟨[(0,.int .u64 x0),(2,.int .i64 x1)],[]⟩
def Gr (x0 x1:Int):Option Int:=(if (decide (x0>=256))=true then (if 8<0 then none else (if 0<=(IntKind.u8.wrap (Int.fdiv x0 (2^(min (8:Int).toNat (IntKind.bits .u64))))) then (if (IntKind.u8.wrap (Int.fdiv x0 (2^(min (8:Int).toNat (IntKind.bits .u64)))))<((⟨#[0,1,2,2,3,3,3,3,4,4,4,4,4,4,4,4,5,5,5,5,5,5,5,5,5,5,5,5,5,5,5,5,6,6,6,6,6,6,6,6,6,6,6,6,6,6,6,6,6,6,6,6,6,6,6,6,6,6,6,6,6,6,6,6,7,7,7,7,7,7,7,7,7,7,7,7,7,7,7,7,7,7,7,7,7,7,7,7,7,7,7,7,7,7,7,7,7,7,7,7,7,7,7,7,7,7,7,7,7,7,7,7,7,7,7,7,7,7,7,7,7,7,7,7,7,7,7,7,8,8,8,8,8,8,8,8,8,8,8,8,8,8,8,8,8,8,8,8,8,8,8,8,8,8,8,8,8,8,8,8,8,8,8,8,8,8,8,8,8,8,8,8,8,8,8,8,8,8,8,8,8,8,8,8,8,8,8,8,8,8,8,8,8,8,8,8,8,8,8,8,8,8,8,8,8,8,8,8,8,8,8,8,8,8,8,8,8,8,8,8,8,8,8,8,8,8,8,8,8,8,8,8,8,8,8,8,8,8,8,8,8,8,8,8,8,8,8,8,8,8,8,8,8,8,8,8]⟩:ByteArray).size:Int) then (some (i64.wrap ((i64.wrap (x1+8))+(i64.wrap (((⟨#[0,1,2,2,3,3,3,3,4,4,4,4,4,4,4,4,5,5,5,5,5,5,5,5,5,5,5,5,5,5,5,5,6,6,6,6,6,6,6,6,6,6,6,6,6,6,6,6,6,6,6,6,6,6,6,6,6,6,6,6,6,6,6,6,7,7,7,7,7,7,7,7,7,7,7,7,7,7,7,7,7,7,7,7,7,7,7,7,7,7,7,7,7,7,7,7,7,7,7,7,7,7,7,7,7,7,7,7,7,7,7,7,7,7,7,7,7,7,7,7,7,7,7,7,7,7,7,7,8,8,8,8,8,8,8,8,8,8,8,8,8,8,8,8,8,8,8,8,8,8,8,8,8,8,8,8,8,8,8,8,8,8,8,8,8,8,8,8,8,8,8,8,8,8,8,8,8,8,8,8,8,8,8,8,8,8,8,8,8,8,8,8,8,8,8,8,8,8,8,8,8,8,8,8,8,8,8,8,8,8,8,8,8,8,8,8,8,8,8,8,8,8,8,8,8,8,8,8,8,8,8,8,8,8,8,8,8,8,8,8,8,8,8,8,8,8,8,8,8,8,8,8,8,8,8,8]⟩:ByteArray).data.toList.getD (IntKind.u8.wrap (Int.fdiv x0 (2^(min (8:Int).toNat (IntKind.bits .u64))))).toNat 0).toNat:Int))))) else none) else none)) else (if 0<=(IntKind.u8.wrap x0) then (if (IntKind.u8.wrap x0)<((⟨#[0,1,2,2,3,3,3,3,4,4,4,4,4,4,4,4,5,5,5,5,5,5,5,5,5,5,5,5,5,5,5,5,6,6,6,6,6,6,6,6,6,6,6,6,6,6,6,6,6,6,6,6,6,6,6,6,6,6,6,6,6,6,6,6,7,7,7,7,7,7,7,7,7,7,7,7,7,7,7,7,7,7,7,7,7,7,7,7,7,7,7,7,7,7,7,7,7,7,7,7,7,7,7,7,7,7,7,7,7,7,7,7,7,7,7,7,7,7,7,7,7,7,7,7,7,7,7,7,8,8,8,8,8,8,8,8,8,8,8,8,8,8,8,8,8,8,8,8,8,8,8,8,8,8,8,8,8,8,8,8,8,8,8,8,8,8,8,8,8,8,8,8,8,8,8,8,8,8,8,8,8,8,8,8,8,8,8,8,8,8,8,8,8,8,8,8,8,8,8,8,8,8,8,8,8,8,8,8,8,8,8,8,8,8,8,8,8,8,8,8,8,8,8,8,8,8,8,8,8,8,8,8,8,8,8,8,8,8,8,8,8,8,8,8,8,8,8,8,8,8,8,8,8,8,8,8]⟩:ByteArray).size:Int) then (some (i64.wrap (x1+(i64.wrap (((⟨#[0,1,2,2,3,3,3,3,4,4,4,4,4,4,4,4,5,5,5,5,5,5,5,5,5,5,5,5,5,5,5,5,6,6,6,6,6,6,6,6,6,6,6,6,6,6,6,6,6,6,6,6,6,6,6,6,6,6,6,6,6,6,6,6,7,7,7,7,7,7,7,7,7,7,7,7,7,7,7,7,7,7,7,7,7,7,7,7,7,7,7,7,7,7,7,7,7,7,7,7,7,7,7,7,7,7,7,7,7,7,7,7,7,7,7,7,7,7,7,7,7,7,7,7,7,7,7,7,8,8,8,8,8,8,8,8,8,8,8,8,8,8,8,8,8,8,8,8,8,8,8,8,8,8,8,8,8,8,8,8,8,8,8,8,8,8,8,8,8,8,8,8,8,8,8,8,8,8,8,8,8,8,8,8,8,8,8,8,8,8,8,8,8,8,8,8,8,8,8,8,8,8,8,8,8,8,8,8,8,8,8,8,8,8,8,8,8,8,8,8,8,8,8,8,8,8,8,8,8,8,8,8,8,8,8,8,8,8,8,8,8,8,8,8,8,8,8,8,8,8,8,8,8,8,8,8]⟩:ByteArray).data.toList.getD (IntKind.u8.wrap x0).toNat 0).toNat:Int))))) else none) else none))
def LK (x0 x1:Int):Option Int:=(if (decide (x0>=65536))=true then (if 16<0 then none else (Ew (Int.fdiv x0 (2^(min (16:Int).toNat (IntKind.bits .u64)))) (i64.wrap (x1+16)))) else (Ew x0 x1))
def OB (x0:Int):Option Int:=(if (decide (x0>=4294967296))=true then (if 32<0 then none else (Gq (Int.fdiv x0 (2^(min (32:Int).toNat (IntKind.bits .u64)))) 32)) else (Gq x0 0))
theorem Se:VK Gr Ew:=jS (by kernel_rfl)
theorem Sf:VK LK Gq:=jS (by kernel_rfl)
theorem V5:S6 OB JR:=cT CQ rfl ⟨rfl,rfl⟩ (by kernel_rfl)
def Dd:=cG Av (AJ Z) (AJ Z) kx
def De:=kE 0 [] [0,1,2,8,9] 0 Dd kx
def DX:St->Option (RT (CB.outs Z)):=lG Bv [] [0,1,2,8,9,10] 0 (AJ Z) De
def Br (x0:List AB) (x1:ByteArray) (x2 x3:Int):Option (Int×Bool):=cG Av (AJ Z) (AJ Z) kx ⟨[(0,.lst AK x0),(1,.str x1),(2,.fn 160 []),(8,.int .i64 x2),(9,.int .i64 x3)],[]⟩
def AD (x0:List AB) (x1:ByteArray) (x2 x3 x4:Int):Option (Int×Bool):=DX ⟨[(0,.lst AK x0),(1,.str x1),(2,.fn 160 []),(8,.int .i64 x2),(9,.int .i64 x3),(10,.int .i64 x4)],[]⟩
def Bs (x0:List AB) (x1:ByteArray) (x2 x3:Int):Option (Int×Bool):=(if (decide (x3<x2))=true then (if 0<=x3 then (if x3<(x0.length:Int) then ((G6 (x0.getD x3.toNat (ByteArray.empty,ByteArray.empty,0)) x1).bind fun y2=>(some (x3,(y2==0)))) else none) else none) else (some (x3,false)))
def At (x0:List AB) (x1:ByteArray) (x2 x3 x4:Int):Option (Int×Bool):=(if (decide (x3<x4))=true then (if 1<0 then none else (if 0<=(i64.wrap (Int.fdiv (IntKind.u64.wrap (i64.wrap (x3+x4))) (2^(min (1:Int).toNat (IntKind.bits .u64))))) then (if (i64.wrap (Int.fdiv (IntKind.u64.wrap (i64.wrap (x3+x4))) (2^(min (1:Int).toNat (IntKind.bits .u64)))))<(x0.length:Int) then ((G6 (x0.getD (i64.wrap (Int.fdiv (IntKind.u64.wrap (i64.wrap (x3+x4))) (2^(min (1:Int).toNat (IntKind.bits .u64))))).toNat (ByteArray.empty,ByteArray.empty,0)) x1).bind fun y1=>(if (decide (y1<0))=true then (AD x0 x1 x2 (i64.wrap ((i64.wrap (Int.fdiv (IntKind.u64.wrap (i64.wrap (x3+x4))) (2^(min (1:Int).toNat (IntKind.bits .u64)))))+1)) x4) else (AD x0 x1 x2 x3 (i64.wrap (Int.fdiv (IntKind.u64.wrap (i64.wrap (x3+x4))) (2^(min (1:Int).toNat (IntKind.bits .u64)))))))) else none) else none)) else (Br x0 x1 x2 x3))
def B5 (x0:List AB) (x1:ByteArray) (x2:Unit):Option (Int×Bool):=(AD x0 x1 (x0.length:Int) 0 (x0.length:Int))
theorem DY:aW Bs Br:=jS (by kernel_rfl)
theorem Bt:lq At AD:=lS (by kernel_rfl)
theorem D0:VL B5 A_:=cT Z rfl ⟨rfl,rfl⟩ (by kernel_rfl)
def PD (x0:AB) (x1:ByteArray):Option Int:=((JT x0.1 x1).bind fun y1=>(some y1))
theorem XD:VK PD G6:=cT G2 rfl ⟨rfl,rfl⟩ (by kernel_rfl)
def RA (x0:Int):Option Bool:=(some (x0 != x0))
theorem YU:S6 RA Hp:=cT Hn rfl ⟨rfl,rfl⟩ (by kernel_rfl)
end
end Go.Proofs.YtokiohnjegbnpaaGreat.Core


namespace Go.Proofs.YtokiohnjegbnpaaGreat.Core
open Go
theorem Ay {n:Int} (h:-9223372036854775808<=n/\n<=9223372036854775807):IntKind.i64.wrap n=n:=IntWalk.i64_in n h
theorem Ad {i:Nat} (h:i<9223372036854775807):IntKind.i64.wrap ((i:Int)+1)=((i+1:Nat):Int):=by
 rw [Ay (by omega)]
 omega
theorem NZ {P:Nat->Prop} {n:Nat} (h0:P n) (h:∀ i,i<n->P (i+1)->P i):∀ i,i<=n->P i:=by
 intro i hi
 induction hk:n-i generalizing i with
 | zero =>
  have:i=n:=by omega
  subst this
  exact h0
 | succ k ih=>exact h i (by omega) (ih (i+1) (by omega) (by omega))
theorem AY {α:Type} {xs:List α} {i:Nat} {d:α} (h:i<xs.length):xs.getD i d=xs[i]:=by
 simp [List.getD,h]

theorem Af (a b c:Int):AU a b c=some (decide (b<=a)&&decide (a<=c)):=Zq (by
 unfold SJ
 by_cases h:b<=a<;>simp [h])
def MM (x:Int×ByteArray×ByteArray×Int×Int×Int×Int×Int×ByteArray):Int :=
 if (decide ((0:Int)<=x.2.2.2.2.2.2.1)&&decide (x.2.2.2.2.2.2.1<=9))&&(decide ((0:Int)<=x.2.2.2.2.2.2.2.1)&&decide (x.2.2.2.2.2.2.2.1<=999)) then IntKind.i64.wrap (IntKind.i64.wrap (1000*x.2.2.2.2.2.2.1)+x.2.2.2.2.2.2.2.1) else 0
theorem Ll x:Cr x=some (MM x):=cf (by
 unfold Vb MM
 simp only [Af,Option.bind_some]
 generalize (decide ((0:Int)<=x.2.2.2.2.2.2.1)&&decide (x.2.2.2.2.2.2.1<=9))=a
 generalize (decide ((0:Int)<=x.2.2.2.2.2.2.2.1)&&decide (x.2.2.2.2.2.2.2.1<=999))=b
 cases a<;>cases b<;>simp)

def BI (x:List (ByteArray×ByteArray×Int)) (k:ByteArray):ByteArray×ByteArray×Int :=
 (x.find? fun a=>a.1.toList==k.toList).getD (ByteArray.empty,ByteArray.empty,0)
theorem ED {α:Type} {x:List α} {i:Nat} (h:i<x.length):x.drop i=x[i]::x.drop (i+1):=List.drop_eq_getElem_cons h
theorem PE (x k) (h:x.length<=maxLen):Kn x k=some (BI x k):=ar (by
 have hm:x.length<=9223372036854775807:=h
 unfold Tm
 exact NZ (n:=x.length) (P:=fun i=>∀ z,HA k x (x.length:Int) (i:Int) z=some (BI (x.drop i) k)) (fun z=>O6 (by
  unfold KV
  rw [if_neg (by simp),List.drop_length]
  rfl)) (fun i hi ih z=>O6 (by
  unfold KV
  simp only [show ((i:Int)<(x.length:Int)) from by omega,decide_true,if_true,show (0:Int)<=(i:Int) from by omega,Int.toNat_natCast,AY hi,Ad (show i<9223372036854775807 by omega)]
  rw [ED hi]
  by_cases hk:(x[i].1.toList==k.toList)=true
  ·rw [if_pos hk]
   unfold BI
   rw [List.find?_cons,hk]
   rfl
  ·rw [if_neg hk,ih]
   unfold BI
   rw [List.find?_cons,Bool.eq_false_iff.2 hk])) 0 (by omega) _)

theorem Ln k:Mb k=some (decide (1<=(k.size:Int))&&decide ((k.size:Int)<=12)):=cp (by simp [Vr,Af])
theorem FS n:D8 n=some (decide (1<=n)&&decide (n<=6)):=an (by simp [Tl,Af])
def hX (v:ByteArray):Bool:=v.toList==(⟨#[]⟩:ByteArray).toList
theorem e_ (v:ByteArray):(v.toList==(⟨#[]⟩:ByteArray).toList)=hX v:=rfl
def fb (op:Int) (k v:ByteArray):Bool :=
 (decide (op=1)||decide (op=2))&&(decide (1<=(k.size:Int))&&decide ((k.size:Int)<=12))&&decide ((v.size:Int)<=20)&&(decide (op=1)||hX v)
def XE (x:Int×Int×Int×Int×ByteArray×ByteArray):Bool :=
 decide (1<=x.1)&&decide (x.1<=6)&&(decide (1<=x.2.1)&&decide (x.2.1<=6))&&decide (0<=x.2.2.1) &&
  (if x.1=1 then fb x.2.2.2.1 x.2.2.2.2.1 x.2.2.2.2.2 else decide (x.2.2.2.1=0)&&hX x.2.2.2.2.1&&hX x.2.2.2.2.2)
theorem YV a k v:JM a 0 k v=some (fb a k v):=Vp (by
 have w:∀ b,Hq a v b=some (decide (a=1)||hX v):=fun b=>Q0 (by
  unfold Lj
  rw [e_]
  by_cases h:a=1<;>simp [h])
 unfold Px fb
 have jA:decide ((v.size:Int)>20)=!decide ((v.size:Int)<=20):=by
  by_cases h:(v.size:Int)<=20<;>simp [h]
  omega
 simp only [jA,Af,Ln,Option.bind_some,w]
 by_cases h1:a=1
 ·by_cases h2:1<=(k.size:Int)<;>by_cases h3:(k.size:Int)<=12<;>by_cases h4:(v.size:Int)<=20<;>simp [h1,h2,h3,h4]
 ·by_cases h1b:a=2
  ·by_cases h2:1<=(k.size:Int)<;>by_cases h3:(k.size:Int)<=12<;>by_cases h4:(v.size:Int)<=20<;>simp [h1b,h2,h3,h4]
  ·have:¬ (1<=a/\a<=2):=by omega
   by_cases h5:1<=a
   ·have:¬ a<=2:=by omega
    simp [h1,h1b,this]
   ·simp [h1,h1b,h5])
theorem V6 x:M2 x=some (XE x):=Zp (by
 have w:∀ b,Ja b x=some (if x.1=1 then fb x.2.2.2.1 x.2.2.2.2.1 x.2.2.2.2.2 else decide (x.2.2.2.1=0)&&hX x.2.2.2.2.1&&hX x.2.2.2.2.2):=fun b=>Vj (by
  unfold Nz
  simp only [e_]
  by_cases h:x.1=1
  ·simp [h,YV]
  ·by_cases h2:x.2.2.2.1=0<;>rcases Bool.eq_false_or_eq_true (hX x.2.2.2.2.1) with h3 | h3<;>simp [h,h2,h3])
 unfold SI XE
 simp only [Af,FS,Option.bind_some,w]
 by_cases h1:1<=x.1<;>by_cases h2:x.1<=6<;>by_cases h3:1<=x.2.1<;>by_cases h4:x.2.1<=6<;>by_cases h5:0<=x.2.2.1<;>simp [h1,h2,h3,h4,h5]<;>omega)

def Hu (a:ByteArray×ByteArray×Int):Bool:=(decide (1<=(a.1.size:Int))&&decide ((a.1.size:Int)<=12))&&decide ((a.2.1.size:Int)<=20)&&(decide (1<=a.2.2)&&decide (a.2.2<=1000000000))
def DH (x:List (ByteArray×ByteArray×Int)) (i:Nat):Nat->Bool
 | 0=>decide ((x.length:Int)<=12)
 | k+1=>Hu (x.getD i (ByteArray.empty,ByteArray.empty,0))&&(decide (i=0)||Op.bytesLess (x.getD (i-1) (ByteArray.empty,ByteArray.empty,0)).1.toList (x.getD i (ByteArray.empty,ByteArray.empty,0)).1.toList)&&DH x (i+1) k
theorem jA (n:Int):decide (n>20)=!decide (n<=20):=by
 by_cases h:n<=20<;>simp [h]
 omega
theorem bU {i:Nat} (h:i<9223372036854775807) (h0:0<i):IntKind.i64.wrap ((i:Int)-1)=((i-1:Nat):Int):=by
 rw [Ay (by omega)]
 omega
theorem Jk (x) (h:x.length<=maxLen) (hl:∀ a b:List UInt8,(Op.bytesLess a b||a==b)=!Op.bytesLess b a):EI x=some (DH x 0 x.length):=Zr (by
 have hm:x.length<=9223372036854775807:=h
 unfold SM
 have:=NZ (n:=x.length) (P:=fun i=>Eu x x (x.length:Int) (i:Int)=some (DH x i (x.length-i))) (N0 (by
  unfold Jb
  rw [if_neg (by simp),Nat.sub_self]
  rfl)) (fun i hi ih=>N0 (by
  unfold Jb
  have e:x.length-i=(x.length-(i+1))+1:=by omega
  simp only [show ((i:Int)<(x.length:Int)) from by omega,decide_true,if_true,show (0:Int)<=(i:Int) from by omega,Int.toNat_natCast,Ad (show i<9223372036854775807 by omega),ih,Af,Ln,Option.bind_some,jA,hl]
  rw [e,DH,Hu]
  generalize (decide (1<=((x.getD i (ByteArray.empty,ByteArray.empty,0)).1.size:Int))&&decide (((x.getD i (ByteArray.empty,ByteArray.empty,0)).1.size:Int)<=12))=a
  generalize decide (((x.getD i (ByteArray.empty,ByteArray.empty,0)).2.1.size:Int)<=20)=b
  generalize (decide (1<=(x.getD i (ByteArray.empty,ByteArray.empty,0)).2.2)&&decide ((x.getD i (ByteArray.empty,ByteArray.empty,0)).2.2<=1000000000))=c
  cases a
  ·simp
  cases b
  ·simp
  cases c
  ·simp
  by_cases h0:0<i
  ·rw [bU (by omega) h0]
   simp only [Int.toNat_natCast,show ((0:Int)<=((i-1:Nat):Int)) from by omega,show (((i-1:Nat):Int)<(x.length:Int)) from by omega,if_true]
   rcases Bool.eq_false_or_eq_true (Op.bytesLess (x.getD (i-1) (ByteArray.empty,ByteArray.empty,0)).1.toList (x.getD i (ByteArray.empty,ByteArray.empty,0)).1.toList) with hb | hb<;>simp only [hb]<;>simp [h0,show i≠0 by omega]
  ·have:i=0:=by omega
   subst this
   simp)) 0 (by omega)
 simpa using this)
theorem LL:∀ a b:List UInt8,(Op.bytesLess a b||a==b)=!Op.bytesLess b a
 | [],[]=>rfl
 | [],_::_=>rfl
 | _::_,[]=>rfl
 | a::l,b::m=>by
  have ih:=LL l m
  simp only [Op.bytesLess]
  by_cases h1:a<b
  ·have h2:¬ b<a:=by exact UInt8.not_lt.2 (UInt8.le_of_lt h1)
   have h3:¬ b=a:=fun h=>by subst h; exact absurd h1 (UInt8.lt_irrefl _)
   simp [h1,h2,h3]
  ·by_cases h2:b<a
   ·have h3:¬ a=b:=fun h=>by subst h; exact absurd h2 (UInt8.lt_irrefl _)
    simp [h1,h2,h3]
   ·have h3:a=b:=UInt8.le_antisymm (UInt8.not_lt.1 h2) (UInt8.not_lt.1 h1)
    subst h3
    simpa [h1] using ih

abbrev AH:Type:=ByteArray×ByteArray×Int
abbrev Z2:AH:=(ByteArray.empty,ByteArray.empty,(0:Int))
theorem S7:∀ a:List UInt8,Op.bytesLess a a=false
 | []=>rfl
 | a::l=>by simp [Op.bytesLess,S7 l,UInt8.lt_irrefl]
theorem Sg:∀ {a b c:List UInt8},Op.bytesLess a b=true->Op.bytesLess b c=true->Op.bytesLess a c=true
 | _,[],_,h,_=>by cases ‹List UInt8› <;> simp [Op.bytesLess] at h
 | _,_::_,[],_,h=>by simp [Op.bytesLess] at h
 | [],_::_,_::_,_,_=>rfl
 | a::x,b::y,c::z,h,g=>by
  simp only [Op.bytesLess,Bool.or_eq_true,decide_eq_true_eq,Bool.and_eq_true,beq_iff_eq] at h g ⊢
  rcases h with h | ⟨rfl,h⟩
  ·rcases g with g | ⟨rfl,g⟩
   ·exact .inl (UInt8.lt_trans h g)
   ·exact .inl h
  ·rcases g with g | ⟨rfl,g⟩
   ·exact .inl g
   ·exact .inr ⟨rfl,Sg h g⟩
theorem Z3:∀ a b:List UInt8,decide (Lib.compareBytes a b<0)=Op.bytesLess a b/\(Lib.compareBytes a b==0)=(a==b)
 | [],[]=>⟨rfl,rfl⟩
 | [],_::_=>⟨rfl,rfl⟩
 | _::_,[]=>⟨rfl,rfl⟩
 | a::l,b::m=>by
  have ih:=Z3 l m
  simp only [Lib.compareBytes,Op.bytesLess]
  by_cases h1:a<b
  ·have h3:¬ a=b:=fun h=>by subst h; exact absurd h1 (UInt8.lt_irrefl _)
   simp [h1,h3]
  ·by_cases h2:b<a
   ·have h3:¬ a=b:=fun h=>by subst h; exact absurd h2 (UInt8.lt_irrefl _)
    simp [h1,h2,h3]
   ·have h3:a=b:=UInt8.le_antisymm (UInt8.not_lt.1 h2) (UInt8.not_lt.1 h1)
    subst h3
    simpa [h1] using ih
theorem MN (a:AH) (k:ByteArray):G6 a k=some (Lib.compareBytes a.1.toList k.toList):=XD (by
 unfold PD
 rw [VV,ByteArray.toList_eq,ByteArray.toList_eq]
 rfl)
def PF (x:List AH) (i:Nat) (k:ByteArray):Bool:=match x[i]? with
 | some b=>b.1.toList==k.toList
 | none=>false
def WM (k:ByteArray) (b:AH):Bool:=Op.bytesLess b.1.toList k.toList
def Hv (x:List AH):Prop:=∀ a b (ha:a<x.length) (hb:b<x.length),a<b->Op.bytesLess x[a].1.toList x[b].1.toList=true
def Xi (x:List AH) (k:ByteArray) (i j:Nat):Prop:=∀ a (ha:a<x.length),(a<i->WM k x[a]=true)/\(j<=a->WM k x[a]=false)
theorem l8 {i j:Nat} (h:i+j<=137438953472):IntKind.i64.wrap (Int.fdiv (IntKind.u64.wrap (IntKind.i64.wrap ((i:Int)+(j:Int)))) (2^(min (1:Int).toNat (IntKind.bits .u64))))=(((i+j) / 2:Nat):Int):=by
 have e1:IntKind.i64.wrap ((i:Int)+(j:Int))=((i+j:Nat):Int):=by rw [Ay (by omega)]; omega
 have e2:IntKind.u64.wrap ((i+j:Nat):Int)=((i+j:Nat):Int):=by
  simp only [IntKind.wrap,IntKind.bits,IntKind.signed]
  simp
  omega
 have e3:(2:Int)^(min (1:Int).toNat (IntKind.bits .u64))=2:=by decide
 rw [e1,e2,e3,Int.fdiv_eq_ediv_of_nonneg _ (by omega)]
 rw [Ay (by omega)]
 omega
theorem d8 (x:List AH) (k:ByteArray) (hx:x.length<=68719476736):∀ (m i j:Nat),j-i<=m->i<=j->j<=x.length ->
  ∃ r:Nat,i<=r/\r<=j/\AD x k (x.length:Int) (i:Int) (j:Int)=some ((r:Int),PF x r k)/\(Hv x->Xi x k i j->Xi x k r r):=by
 intro m
 induction m with
 | zero =>
  intro i j hm hij hj
  have:i=j:=by omega
  subst this
  refine ⟨i,Nat.le_refl _,Nat.le_refl _,Bt ?_,fun _ h=>h⟩
  unfold At
  rw [if_neg (by simp)]
  refine DY ?_
  unfold Bs PF
  by_cases h:i<x.length
  ·simp only [show ((i:Int)<(x.length:Int)) from by omega,decide_true,if_true,show (0:Int)<=(i:Int) from by omega,Int.toNat_natCast,AY h,MN,Option.bind_some,(Z3 _ _).2,List.getElem?_eq_getElem h]
  ·rw [if_neg (by simp; omega),List.getElem?_eq_none (by omega)]
 | succ m ih =>
  intro i j hm hij hj
  by_cases hlt:i<j
  ·have hmid:i<=(i+j) / 2/\(i+j) / 2<j:=by omega
   generalize hh:(i+j) / 2=h at hmid
   have hb:h<x.length:=by omega
   have step:∀ r,(if WM k x[h]=true then AD x k (x.length:Int) ((h+1:Nat):Int) (j:Int) else AD x k (x.length:Int) (i:Int) (h:Int))=some r->AD x k (x.length:Int) (i:Int) (j:Int)=some r:=fun r hr=>Bt (by
    unfold At
    simp only [show ((i:Int)<(j:Int)) from by omega,decide_true,if_true,l8 (show i+j<=137438953472 by omega),hh,show ¬ ((1:Int)<0) from by decide,if_false,show ((0:Int)<=(h:Int)) from by omega,show ((h:Int)<(x.length:Int)) from by omega,Int.toNat_natCast,AY hb,MN,Option.bind_some,(Z3 _ _).1,Ad (show h<9223372036854775807 by omega)]
    exact hr)
   cases hl:WM k x[h] with
   | true =>
    obtain ⟨r,h1,h2,h3,h4⟩:=ih (h+1) j (by omega) (by omega) hj
    refine ⟨r,by omega,h2,step _ (by rw [hl]; exact h3),fun ho hc=>h4 ho fun a ha=>⟨fun hlt=>?_,(hc a ha).2⟩⟩
    by_cases e:a=h
    ·subst e; exact hl
    ·exact Sg (ho a h ha hb (by omega)) hl
   | false =>
    obtain ⟨r,h1,h2,h3,h4⟩:=ih i h (by omega) hmid.1 (by omega)
    refine ⟨r,h1,by omega,step _ (by rw [hl]; exact h3),fun ho hc=>h4 ho fun a ha=>⟨(hc a ha).1,fun hle=>?_⟩⟩
    by_cases e:a=h
    ·subst e; exact hl
    ·cases q:WM k x[a] with
     | false=>rfl
     | true =>
      have:=Sg (ho h a hb ha (by omega)) q
      rw [show Op.bytesLess x[h].1.toList k.toList=false from hl] at this
      cases this
  ·have:i=j:=by omega
   subst this
   exact ih i i (by omega) (Nat.le_refl _) hj
theorem gu (x:List AH) (k:ByteArray) (hx:x.length<=68719476736):∃ r:Nat,r<=x.length/\A_ x k ()=some ((r:Int),PF x r k)/\(Hv x->Xi x k r r):=by
 obtain ⟨r,_,h2,h3,h4⟩:=d8 x k hx x.length 0 x.length (by omega) (by omega) (Nat.le_refl _)
 refine ⟨r,h2,D0 (by unfold B5; exact h3),fun ho=>h4 ho fun a ha=>⟨fun h=>by omega,fun h=>by omega⟩⟩
theorem Sh {x:List AH}:∀ (m i:Nat),DH x i m=true->∀ a,i<=a->a<i+m->a≠0->Op.bytesLess (x.getD (a-1) Z2).1.toList (x.getD a Z2).1.toList=true
 | 0,i,_,a,h1,h2,_=>by omega
 | m+1,i,h,a,h1,h2,h0=>by
  simp only [DH,Bool.and_eq_true,Bool.or_eq_true,decide_eq_true_eq] at h
  obtain ⟨⟨_,h3⟩,h4⟩:=h
  by_cases e:a=i
  ·subst e
   exact h3.resolve_left h0
  ·exact Sh m (i+1) h4 a (by omega) (by omega) h0
theorem Si {x:List AH} (h:DH x 0 x.length=true):Hv x:=by
 have st:=Sh _ _ h
 have:∀ d a (ha:a+d+1<x.length),Op.bytesLess (x.getD a Z2).1.toList (x.getD (a+d+1) Z2).1.toList=true:=by
  intro d
  induction d with
  | zero=>intro a ha; exact st (a+1) (by omega) (by omega) (by omega)
  | succ d ih =>
   intro a ha
   exact Sg (ih a (by omega)) (st (a+(d+1)+1) (by omega) (by omega) (by omega))
 intro a b ha hb hab
 have:=this (b-a-1) a (by omega)
 rw [show a+(b-a-1)+1=b by omega,AY ha,AY hb] at this
 exact this
theorem d9 {x:List AH} {k:ByteArray} {r:Nat} (hr:r<=x.length) (h:Xi x k r r):x.take r=x.filter (WM k)/\x.drop r=x.filter (fun b=>!WM k b):=by
 have e1:(x.take r).filter (WM k)=x.take r:=List.filter_eq_self.2 fun b hb=>by
  obtain ⟨a,ha,rfl⟩:=List.getElem_of_mem hb
  rw [List.length_take] at ha
  rw [List.getElem_take]
  exact (h a (by omega)).1 (by omega)
 have e2:(x.drop r).filter (WM k)=[]:=List.filter_eq_nil_iff.2 fun b hb=>by
  obtain ⟨a,ha,rfl⟩:=List.getElem_of_mem hb
  rw [List.length_drop] at ha
  rw [List.getElem_drop]
  have:=(h (r+a) (by omega)).2 (by omega)
  simp [this]
 have e3:(x.take r).filter (fun b=>!WM k b)=[]:=List.filter_eq_nil_iff.2 fun b hb=>by
  obtain ⟨a,ha,rfl⟩:=List.getElem_of_mem hb
  rw [List.length_take] at ha
  rw [List.getElem_take]
  have:=(h a (by omega)).1 (by omega)
  simp [this]
 have e4:(x.drop r).filter (fun b=>!WM k b)=x.drop r:=List.filter_eq_self.2 fun b hb=>by
  obtain ⟨a,ha,rfl⟩:=List.getElem_of_mem hb
  rw [List.length_drop] at ha
  rw [List.getElem_drop]
  have:=(h (r+a) (by omega)).2 (by omega)
  simp [this]
 have f1:x.filter (WM k)=(x.take r).filter (WM k)++(x.drop r).filter (WM k):=by rw [<- List.filter_append,List.take_append_drop]
 have f2:x.filter (fun b=>!WM k b)=(x.take r).filter (fun b=>!WM k b)++(x.drop r).filter (fun b=>!WM k b):=by rw [<- List.filter_append,List.take_append_drop]
 rw [f1,f2,e1,e2,e3,e4]
 simp
theorem fA {x:List AH} {k:ByteArray} {r:Nat} (ho:Hv x) (h:Xi x k r r) (j:Nat) (hj:j<x.length) (e:x[j].1.toList=k.toList):j=r:=by
 rcases Nat.lt_trichotomy j r with g | g | g
 ·have:=(h j hj).1 g
  simp only [WM,e,S7] at this
  cases this
 ·exact g
 ·have h1:=ho r j (by omega) hj g
  have h2:=(h r (by omega)).2 (Nat.le_refl _)
  rw [e] at h1
  rw [show WM k x[r]=true from h1] at h2
  cases h2
def bV (x:List AH) (a:AH):Bool:=x.any fun b=>(b.1.toList==a.1.toList)&&decide (b.2.2>=a.2.2)
def cv (k:ByteArray) (b:AH):Bool:=!(Op.bytesLess b.1.toList k.toList||(b.1.toList==k.toList))
def P4 (x:List AH) (a:AH):List AH:=x.filter (WM a.1)++[a]++x.filter (cv a.1)
def BR (x:List AH):Bool:=DH x 0 x.length
def Ai (x:List AH) (a:AH):List AH:=if bV x a=true then x else if BR x=true then (if BR (P4 x a)=true then P4 x a else x) else x
theorem fB {x:List AH} {k:ByteArray} {r:Nat} (hr:r<=x.length) (h:Xi x k r r):x.filter (cv k)=(x.drop r).filter fun b=>!(b.1.toList==k.toList):=by
 rw [(d9 hr h).2,List.filter_filter]
 congr 1
 funext b
 simp only [cv,WM,Bool.not_or]
 exact Bool.and_comm _ _
theorem jB {x:List AH} {a:AH} {r:Nat} (hr:r<=x.length) (ho:Hv x) (h:Xi x a.1 r r):bV x a=(PF x r a.1&&decide ((x.getD r Z2).2.2>=a.2.2)):=by
 unfold bV PF
 by_cases hl:r<x.length
 ·rw [List.getElem?_eq_getElem hl,AY hl]
  rw [Bool.eq_iff_iff,List.any_eq_true]
  simp only [Bool.and_eq_true,beq_iff_eq,decide_eq_true_eq]
  refine ⟨fun ⟨b,hb,e,hv⟩=>?_,fun ⟨e,hv⟩=>⟨_,List.getElem_mem hl,e,hv⟩⟩
  obtain ⟨j,hj,rfl⟩:=List.getElem_of_mem hb
  have:=fA ho h j hj e
  subst this
  exact ⟨e,hv⟩
 ·rw [List.getElem?_eq_none (by omega),Bool.false_and,List.any_eq_false]
  intro b hb
  obtain ⟨j,hj,rfl⟩:=List.getElem_of_mem hb
  intro hc
  simp only [Bool.and_eq_true,beq_iff_eq] at hc
  have:=fA ho h j hj hc.1
  omega
theorem kZ {x:List AH} {a:AH} {r:Nat} (hr:r<=x.length) (ho:Hv x) (h:Xi x a.1 r r):P4 x a=if PF x r a.1=true then x.set r a else x.take r++[a]++x.drop r:=by
 unfold P4
 rw [fB hr h,<- (d9 hr h).1]
 have hk:∀ (j:Nat) (hj:j<x.length),j≠r->(x[j].1.toList==a.1.toList)=false:=fun j hj hne=>by
  cases q:(x[j].1.toList==a.1.toList) with
  | false=>rfl
  | true=>exact absurd (fA ho h j hj (by simpa using q)) hne
 have tail:(x.drop (r+1)).filter (fun b=>!(b.1.toList==a.1.toList))=x.drop (r+1):=List.filter_eq_self.2 fun b hb=>by
  obtain ⟨j,hj,rfl⟩:=List.getElem_of_mem hb
  rw [List.length_drop] at hj
  rw [List.getElem_drop,hk (r+1+j) (by omega) (by omega)]
  rfl
 by_cases hl:r<x.length
 ·rw [ED hl,List.filter_cons,tail]
  unfold PF
  rw [List.getElem?_eq_getElem hl]
  cases q:(x[r].1.toList==a.1.toList) with
  | true=>simp [q,List.set_eq_take_append_cons_drop,hl]
  | false=>simp [q]
 ·have:x.drop r=[]:=List.drop_eq_nil_of_le (by omega)
  rw [this]
  unfold PF
  rw [List.getElem?_eq_none (by omega)]
  simp
theorem OC (x:List AH) (a:AH) (hx:x.length<=34359738367):JP x a=some (Ai x a):=Z0 (by
 obtain ⟨r,hr,hs,hc⟩:=gu x a.1 (by omega)
 have ok:∀ y:List AH,y.length<=68719476736->EI y=some (BR y):=fun y hy=>Jk y (by unfold maxLen; omega) LL
 have J1:∀ y:List AH,y.length<=68719476736->Ga x a y=some (if BR y=true then y else x):=fun y hy=>Vz (by
  unfold N_
  rw [ok y hy,Ao (by omega)]
  cases BR y<;>simp)
 have hl:PF x r a.1=true->r<x.length:=fun h=>by
  by_cases hl:r<x.length
  ·exact hl
  ·unfold PF at h
   rw [List.getElem?_eq_none (by omega)] at h
   cases h
 have J0:∀ b,BR x=true->Gb x (r:Int) (PF x r a.1) b a x=some (if BR (P4 x a)=true then P4 x a else x):=fun b hok=>V0 (by
  unfold OA
  rw [kZ hr (Si hok) (hc (Si hok))]
  cases hh:PF x r a.1 with
  | true =>
   have:=hl hh
   simp only [if_true,show (0:Int)<=(r:Int) from by omega,show ((r:Int)<(x.length:Int)) from by omega,Int.toNat_natCast]
   rw [J1 _ (by simp; omega)]
  | false =>
   rw [if_neg (by simp),Hc (by simp; omega) hr (by simp),Option.bind_some,J1 _ (by simp; omega)]
   simp)
 unfold Sc
 rw [Ao (by omega),Option.bind_some,hs,Option.bind_some,ok x (by omega),Option.bind_some]
 cases hok:BR x with
 | false=>simp [Ai,hok]
 | true =>
  have hst:=jB hr (Si hok) (hc (Si hok))
  have j0:=J0
  unfold Ai
  rw [hst,hok]
  cases hh:PF x r a.1 with
  | false =>
   have:=J0 false hok
   rw [hh] at this
   simp [this]
  | true =>
   have hlr:=hl hh
   have:=J0 false hok
   rw [hh] at this
   simp only [if_true,show (0:Int)<=(r:Int) from by omega,show ((r:Int)<(x.length:Int)) from by omega,Int.toNat_natCast,Bool.true_and]
   cases q:decide ((x.getD r Z2).2.2>=a.2.2) with
   | true=>simp
   | false=>simp [this])

abbrev fc:Type:=List Int×Int×Int
def ka (d:fc):Prop:=0<=d.2.1/\d.1.length<=maxLen
theorem Xj (a:Int):0<=It .i64 a 255/\It .i64 a 255<=255:=by
 unfold It
 have h:(BitVec.ofInt (IntKind.bits .i64) a &&& BitVec.ofInt (IntKind.bits .i64) 255).toNat<=255:=by
  rw [BitVec.toNat_and]
  refine Nat.le_trans Nat.and_le_right ?_
  decide
 rw [Ay (by omega)]
 omega
theorem Da (d:fc) (h:ka d):∃ b d',DU d=some (b,d')/\ka d'/\0<=b/\b<=255:=by
 have hm:d.1.length<=9223372036854775807:=h.2
 have hp:=h.1
 suffices g:∃ b d',NK d=some (b,d')/\ka d'/\0<=b/\b<=255 from g.imp fun b g=>g.imp fun d' g=>⟨Zs g.1,g.2⟩
 unfold NK
 rw [if_neg (by omega),if_neg (by omega)]
 by_cases h1:d.2.1<(d.1.length:Int)
 ·rw [if_pos (by simpa using h1),if_pos hp,if_pos h1]
  refine ⟨_,_,rfl,⟨?_,h.2⟩,Xj _⟩
  show 0<=IntKind.i64.wrap (d.2.1+1)
  rw [Ay (by omega)]
  omega
 ·rw [if_neg (by simpa using h1)]
  exact ⟨_,_,rfl,h,Xj _⟩
theorem UY (n:Int) (d:fc) (h:ka d):∃ v d',LW n d=some (v,d')/\ka d'/\0<=v/\(0<n->v<n):=by
 suffices g:∃ b d',Li n d=some (b,d')/\ka d'/\0<=b/\(0<n->b<n) from g.imp fun b g=>g.imp fun d' g=>⟨YJ g.1,g.2⟩
 unfold Li
 by_cases h1:n<=0
 ·exact ⟨0,d,by rw [if_pos (by simpa using h1)],h,by omega,by omega⟩
 ·rw [if_neg (by simpa using h1)]
  by_cases h2:n<=256
  ·obtain ⟨b,d1,e1,k1,b0,b1⟩:=Da d h
   refine ⟨_,_,by rw [if_pos (by simpa using h2),e1,Option.bind_some,if_neg (by omega)],k1,Int.tmod_nonneg _ b0,fun _=>Int.tmod_lt_of_pos _ (by omega)⟩
  ·obtain ⟨b1,d1,e1,k1,b10,b11⟩:=Da d h
   obtain ⟨b2,d2,e2,k2,b20,b21⟩:=Da d1 k1
   obtain ⟨b3,d3,e3,k3,b30,b31⟩:=Da d2 k2
   obtain ⟨b4,d4,e4,k4,b40,b41⟩:=Da d3 k3
   refine ⟨_,_,by rw [if_neg (by simpa using h2),e1,Option.bind_some,e2,Option.bind_some,e3,Option.bind_some,e4,Option.bind_some,if_neg (by omega)],k4,Int.tmod_nonneg _ ?_,fun _=>Int.tmod_lt_of_pos _ (by omega)⟩
   rw [Ay (n:=b1*16777216) (by omega),Ay (n:=b2*65536) (by omega),Ay (n:=b3*256) (by omega),Ay (n:=b1*16777216+b2*65536) (by omega),Ay (n:=b1*16777216+b2*65536+b3*256) (by omega),Ay (by omega)]
   omega
theorem XF (x:List Int) (h:x.length<=maxLen):∃ d,OK x=some d/\ka d:=by
 have hm:x.length<=9223372036854775807:=h
 have key:=NZ (n:=x.length) (P:=fun i=>∀ a,∃ d,G8 x a (i:Int)=some d/\ka d) (fun a=>⟨(x,0,a),KS (by
  unfold G9
  rw [if_neg (by simp)]),⟨Int.le_refl _,h⟩⟩) (fun i hi ih a=>by
  by_cases h4:(i:Int)<4000
  ·obtain ⟨d,e,k⟩:=ih (It .i64 (IntKind.i64.wrap ((IntKind.i64.wrap ((IntKind.i64.wrap (a*(131:Int)))+(IntKind.i64.wrap (x.getD (i:Int).toNat (0:Int)))))+(7:Int))) (1073741823:Int))
   refine ⟨d,KS ?_,k⟩
   unfold G9
   rw [if_pos (by simpa using hi),if_pos (by simpa using h4)]
   refine Ww ?_
   unfold O0
   rw [if_pos (by omega),if_pos (by omega),Ad (show i<9223372036854775807 by omega)]
   exact e
  ·refine ⟨(x,0,a),KS ?_,⟨Int.le_refl _,h⟩⟩
   unfold G9
   rw [if_pos (by simpa using hi),if_neg (by simpa using h4)]) 0 (by omega)
 obtain ⟨d,e,k⟩:=key (IntKind.i64.wrap ((14301:Int)+(x.length:Int)))
 exact ⟨d,ak e,k⟩

theorem OR {x:List AH}:∀ (m i:Nat),i+m=x.length->(DH x i m=true↔(∀ a (ha:a<x.length),i<=a->Hu x[a]=true/\(a≠0->Op.bytesLess (x.getD (a-1) Z2).1.toList x[a].1.toList=true))/\x.length<=12)
 | 0,i,h=>by
  simp only [DH,decide_eq_true_eq]
  refine ⟨fun h2=>⟨fun a ha hi=>by omega,by omega⟩,fun h2=>by have:=h2.2; omega⟩
 | m+1,i,h=>by
  have hi:i<x.length:=by omega
  rw [DH,Bool.and_eq_true,Bool.and_eq_true,OR m (i+1) (by omega),AY hi]
  simp only [Bool.or_eq_true,decide_eq_true_eq]
  constructor
  ·rintro ⟨⟨h1,h2⟩,h3,h4⟩
   refine ⟨fun a ha hia=>?_,h4⟩
   by_cases e:a=i
   ·subst e
    exact ⟨h1,fun h0=>h2.resolve_left h0⟩
   ·exact h3 a ha (by omega)
  ·rintro ⟨h3,h4⟩
   refine ⟨⟨(h3 i hi (Nat.le_refl _)).1,?_⟩,fun a ha hia=>h3 a ha (by omega),h4⟩
   by_cases e:i=0
   ·exact .inl e
   ·exact .inr ((h3 i hi (Nat.le_refl _)).2 e)
theorem CS {x:List AH}:BR x=true↔(∀ b∈x,Hu b=true)/\Hv x/\x.length<=12:=by
 constructor
 ·intro h
  have h1:=(OR x.length 0 (by omega)).1 h
  refine ⟨fun b hb=>?_,Si h,h1.2⟩
  obtain ⟨a,ha,rfl⟩:=List.getElem_of_mem hb
  exact (h1.1 a ha (Nat.zero_le _)).1
 ·rintro ⟨h1,h2,h3⟩
  refine (OR x.length 0 (by omega)).2 ⟨fun a ha _=>⟨h1 _ (List.getElem_mem ha),fun h0=>?_⟩,h3⟩
  rw [AY (show a-1<x.length by omega)]
  exact h2 (a-1) a (by omega) ha (by omega)
theorem bW {x:List AH}:Hv x↔x.Pairwise fun b c=>Op.bytesLess b.1.toList c.1.toList=true:=by
 rw [List.pairwise_iff_getElem]
 rfl
theorem UZ {x:List AH} (a:AH) (h:Hv x):Hv (P4 x a):=by
 rw [bW] at h ⊢
 have lo:∀ b∈x.filter (WM a.1),Op.bytesLess b.1.toList a.1.toList=true:=fun b hb=>(List.mem_filter.1 hb).2
 have hg:∀ b∈x.filter (cv a.1),Op.bytesLess a.1.toList b.1.toList=true:=fun b hb=>by
  have:=(List.mem_filter.1 hb).2
  rw [cv,LL] at this
  simpa using this
 unfold P4
 rw [List.pairwise_append,List.pairwise_append]
 refine ⟨⟨h.filter _,List.pairwise_singleton _ _,fun b hb c hc=>?_⟩,h.filter _,fun b hb c hc=>?_⟩
 ·rw [List.mem_singleton] at hc
  subst hc
  exact lo b hb
 ·rcases List.mem_append.1 hb with hb | hb
  ·exact Sg (lo b hb) (hg c hc)
  ·rw [List.mem_singleton] at hb
   subst hb
   exact hg c hc
theorem Z4 {x:List AH} {a:AH}:a∈P4 x a:=by simp [P4]
theorem d_ {x:List AH} {a b:AH} (h:b∈P4 x a):b=a\/b∈x:=by
 simp only [P4,List.mem_append,List.mem_filter,List.mem_singleton] at h
 rcases h with (h | h) | h
 ·exact .inr h.1
 ·exact .inl h
 ·exact .inr h.1
theorem fC {x:List AH} {a b:AH} (h:b∈x) (hk:(b.1.toList==a.1.toList)=false):b∈P4 x a:=by
 simp only [P4,List.mem_append,List.mem_filter,List.mem_singleton]
 cases q:WM a.1 b with
 | true=>exact .inl (.inl ⟨h,rfl⟩)
 | false =>
  refine .inr ⟨h,?_⟩
  unfold cv
  rw [show Op.bytesLess b.1.toList a.1.toList=false from q,hk]
  rfl
theorem Kc {x:List AH} (ho:Hv x) {b:AH} (hb:b∈x):BI x b.1=b:=by
 obtain ⟨j,hj,rfl⟩:=List.getElem_of_mem hb
 have:x.find? (fun a=>a.1.toList==x[j].1.toList)=some x[j]:=by
  rw [List.find?_eq_some_iff_getElem]
  refine ⟨by simp,j,hj,rfl,fun i hi=>?_⟩
  have:=ho i j (by omega) hj hi
  cases q:(x[i].1.toList==x[j].1.toList) with
  | false=>rfl
  | true =>
   rw [beq_iff_eq] at q
   rw [q,S7] at this
   cases this
 unfold BI
 rw [this]
 rfl
theorem gw {x:List AH} (ho:Hv x) {a:AH} (h1:1<=a.2.2):(BI x a.1).2.2>=a.2.2↔bV x a=true:=by
 constructor
 ·intro h
  unfold BI at h
  cases q:x.find? (fun b=>b.1.toList==a.1.toList) with
  | none=>rw [q] at h; simp at h; omega
  | some b =>
   rw [q] at h
   exact List.any_eq_true.2 ⟨b,List.mem_of_find?_eq_some q,by simpa [List.find?_some q] using h⟩
 ·intro h
  obtain ⟨b,hb,hc⟩:=List.any_eq_true.1 h
  simp only [Bool.and_eq_true,beq_iff_eq,decide_eq_true_eq] at hc
  have e:BI x a.1=BI x b.1:=by unfold BI; rw [hc.1]
  rw [e,Kc ho hb]
  exact hc.2
theorem eA (a:AH):RC (.pair .str (.pair .str (.int .i64))) a a=true:=by simp [RC]
theorem Gs {x:List AH} {a:AH} (h:BR x=true):BR (Ai x a)=true:=by
 unfold Ai
 rw [if_pos h]
 split
 ·exact h
 ·split
  ·assumption
  ·exact h



theorem l9 (x:List Int) (i:Nat) (hi:i<x.length) (h:x.length<=maxLen):∃ r,Cs x x[i]=some r/\((r=(i:Int))↔x[i]∉x.take i):=by
 have hm:x.length<=9223372036854775807:=h
 have key:=NZ (n:=i) (P:=fun k=>∃ r,CL x x[i] (x.length:Int) (k:Int)=some r/\(k:Int)<=r/\((r=(i:Int))↔∀ m (hm:m<i),k<=m->x[m]≠x[i])) ⟨i,Bl (by
  unfold BL
  simp only [show ((i:Int)<(x.length:Int)) from by omega,decide_true,if_true,show (0:Int)<=(i:Int) from by omega,Int.toNat_natCast,AY hi]
  simp),by omega,⟨fun _ m hm hk=>by omega,fun _=>rfl⟩⟩ (fun k hk ⟨r,hr,hkr,hiff⟩=>by
  have hk2:k<x.length:=by omega
  by_cases e:x[i]=x[k]
  ·refine ⟨k,Bl ?_,by omega,⟨fun he=>by omega,fun hall=>absurd e.symm (hall k hk (by omega))⟩⟩
   unfold BL
   simp only [show ((k:Int)<(x.length:Int)) from by omega,decide_true,if_true,show (0:Int)<=(k:Int) from by omega,Int.toNat_natCast,AY hk2]
   rw [if_pos (by simpa using e)]
  ·refine ⟨r,Bl ?_,by omega,hiff.trans ⟨fun hall m hm hkm=>?_,fun hall m hm hkm=>hall m hm (by omega)⟩⟩
   ·unfold BL
    simp only [show ((k:Int)<(x.length:Int)) from by omega,decide_true,if_true,show (0:Int)<=(k:Int) from by omega,Int.toNat_natCast,AY hk2,Ad (show k<9223372036854775807 by omega)]
    rw [if_neg (by simpa using e)]
    exact hr
   ·rcases Nat.lt_or_ge k m with h1 | h1
    ·exact hall m hm h1
    ·have:m=k:=by omega
     subst this
     exact fun h=>e h.symm) 0 (by omega)
 obtain ⟨r,hr,_,hiff⟩:=key
 refine ⟨r,Jf hr,hiff.trans ⟨fun hall hmem=>?_,fun hn m hm _ he=>hn ?_⟩⟩
 ·obtain ⟨m,hm,he⟩:=List.mem_take_iff_getElem.1 hmem
  exact hall m (by omega) (by omega) he
 ·exact List.mem_take_iff_getElem.2 ⟨m,by omega,he⟩
def Ik (v:List Int) (i:Nat):Nat->Bool
 | 0=>true
 | k+1=>(decide (1<=v.getD i 0)&&decide (v.getD i 0<=6))&&!(v.take i).contains (v.getD i 0)&&Ik v (i+1) k
def XG (v:List Int):Bool:=(decide (1<=(v.length:Int))&&decide ((v.length:Int)<=4))&&Ik v 0 v.length
def FT (x:List (List Int)) (n:Nat):List (List Int)->Bool
 | []=>decide (1<=(n:Int))&&decide ((n:Int)<=9)
 | v::r=>XG v&&FT x n r
theorem V7 (x:List (List Int)) (h:x.length<=maxLen) (ho:∀ a∈x,a.length<=maxLen):DV x=some (FT x x.length x):=Zt (by
 have hm:x.length<=9223372036854775807:=h
 unfold SP
 exact NZ (n:=x.length) (P:=fun i=>GY x x (x.length:Int) (i:Int)=some (FT x x.length (x.drop i))) (N5 (by
  unfold Je
  rw [if_neg (by simp),List.drop_length,Af]
  rfl)) (fun i hi ih=>N5 (by
  unfold Je
  simp only [show ((i:Int)<(x.length:Int)) from by omega,decide_true,if_true,show (0:Int)<=(i:Int) from by omega,Int.toNat_natCast,AY hi]
  rw [ED hi,FT]
  have hv:=ho x[i] (List.getElem_mem _)
  generalize x[i]=v at hv
  have hvm:v.length<=9223372036854775807:=hv
  have wj:Jc x v x (x.length:Int) (i:Int)=some ((decide (1<=(v.length:Int))&&decide ((v.length:Int)<=4))&&FT x x.length (x.drop (i+1))):=Vo (by
   unfold N3
   rw [Af,Option.bind_some,Ad (show i<9223372036854775807 by omega),ih]
   generalize (decide (1<=(v.length:Int))&&decide ((v.length:Int)<=4))=a
   cases a<;>simp)
  have:=NZ (n:=v.length) (P:=fun j=>GX x v x (x.length:Int) (i:Int) v (v.length:Int) (j:Int)=some (Ik v j (v.length-j)&&((decide (1<=(v.length:Int))&&decide ((v.length:Int)<=4))&&FT x x.length (x.drop (i+1))))) (N4 (by
   unfold Jd
   rw [if_neg (by simp),Nat.sub_self,wj]
   rfl)) (fun j hj ihj=>N4 (by
   unfold Jd
   have e:v.length-j=(v.length-(j+1))+1:=by omega
   obtain ⟨r,hr,hiff⟩:=l9 v j hj hv
   rw [e,Ik]
   simp only [show ((j:Int)<(v.length:Int)) from by omega,decide_true,if_true,show (0:Int)<=(j:Int) from by omega,Int.toNat_natCast,FS,Option.bind_some,Ad (show j<9223372036854775807 by omega),ihj,AY hj,hr]
   have hb:(r != (j:Int))=(v.take j).contains v[j]:=by
    by_cases e2:r=(j:Int)
    ·have:=hiff.1 e2
     simp [e2,this]
    ·have:v[j]∈v.take j:=Classical.byContradiction fun hn=>e2 (hiff.2 hn)
     simp [e2,this]
   rw [hb]
   generalize (decide (1<=v[j])&&decide (v[j]<=6))=a
   generalize (v.take j).contains v[j]=b
   cases a<;>cases b<;>simp)) 0 (by omega)
  simp only [Int.ofNat_zero,Nat.sub_zero] at this
  unfold XG
  refine Eq.trans this ?_
  congr 1
  generalize Ik v 0 v.length=a
  generalize (decide (1<=(v.length:Int))&&decide ((v.length:Int)<=4))=b
  cases a<;>cases b<;>simp)) 0 (by omega))

abbrev jC:Type:=Int×Int×Int×(ByteArray×ByteArray×Int)×List Int
abbrev X:Type:=Int×Int×Bool×Bool×Bool×Bool×List Int×List (ByteArray×ByteArray×Int)×Int×jC
def GO (v:List Int) (i:Nat):Nat->Bool
 | 0=>true
 | k+1=>(decide (1<=v.getD i 0)&&decide (v.getD i 0<=6))&&(decide (i=0)||decide (v.getD (i-1) 0<v.getD i 0))&&GO v (i+1) k
theorem KF (x:List Int) (h:x.length<=maxLen):Fl x 1 6=some (GO x 0 x.length):=UQ (by
 have hm:x.length<=9223372036854775807:=h
 unfold NJ
 have:=NZ (n:=x.length) (P:=fun i=>C7 x 1 6 x (x.length:Int) (i:Int)=some (GO x i (x.length-i))) (J5 (by
  unfold GI
  rw [if_neg (by simp),Nat.sub_self]
  rfl)) (fun i hi ih=>J5 (by
  unfold GI
  have e:x.length-i=(x.length-(i+1))+1:=by omega
  simp only [show ((i:Int)<(x.length:Int)) from by omega,decide_true,if_true,show (0:Int)<=(i:Int) from by omega,Int.toNat_natCast,Ad (show i<9223372036854775807 by omega),ih,Af,Option.bind_some]
  rw [e,GO]
  generalize (decide (1<=x.getD i 0)&&decide (x.getD i 0<=6))=a
  cases a
  ·simp
  by_cases h0:0<i
  ·rw [bU (by omega) h0]
   simp only [Int.toNat_natCast,show ((0:Int)<=((i-1:Nat):Int)) from by omega,show (((i-1:Nat):Int)<(x.length:Int)) from by omega,if_true]
   rcases Int.lt_or_le (x.getD (i-1) 0) (x.getD i 0) with hb | hb
   ·have d1:decide (x.getD i 0<=x.getD (i-1) 0)=false:=decide_eq_false (by omega)
    have d2:decide (x.getD (i-1) 0<x.getD i 0)=true:=decide_eq_true hb
    simp only [d1,d2]
    simp [h0,show i≠0 by omega]
   ·have d1:decide (x.getD i 0<=x.getD (i-1) 0)=true:=decide_eq_true (by omega)
    have d2:decide (x.getD (i-1) 0<x.getD i 0)=false:=decide_eq_false (by omega)
    simp only [d1,d2]
    simp [h0,show i≠0 by omega]
  ·have:i=0:=by omega
   subst this
   simp)) 0 (by omega)
 simpa using this)
def NQ (t:jC):Bool:=(t.1==0)&&(t.2.1==0)&&(t.2.2.1==0)&&RC (.pair .str (.pair .str (.int .i64))) t.2.2.2.1 (ByteArray.empty,ByteArray.empty,(0:Int))&&((t.2.2.2.2.length:Int)==0)
def F5 (t:jC) (serves:Bool):Bool:=(t.1==1||t.1==2)&&serves&&(decide (0<=t.2.1)&&decide (t.2.1<=1000))&&(decide (1<=t.2.2.1)&&decide (t.2.2.1<=900))
def V8 (x:X):Bool :=
 (decide (1<=x.1)&&decide (x.1<=6))&&(decide (1<=x.2.1)&&decide (x.2.1<=9))&&(!x.2.2.2.2.2.1||(x.2.2.2.1&&x.2.2.2.2.1&&!decide ((x.2.2.2.2.2.2.1.length:Int)>0)))&&(!x.2.2.1||(!x.2.2.2.1&&!x.2.2.2.2.1)) &&
  GO x.2.2.2.2.2.2.1 0 x.2.2.2.2.2.2.1.length&&GO x.2.2.2.2.2.2.2.2.2.2.2.2.2 0 x.2.2.2.2.2.2.2.2.2.2.2.2.2.length&&DH x.2.2.2.2.2.2.2.1 0 x.2.2.2.2.2.2.2.1.length&&(decide (0<=x.2.2.2.2.2.2.2.2.1)&&decide (x.2.2.2.2.2.2.2.2.1<=900)) &&
  (NQ x.2.2.2.2.2.2.2.2.2||F5 x.2.2.2.2.2.2.2.2.2 x.2.2.2.2.2.1)
theorem PH (x:X) (h3:x.2.2.2.2.2.2.2.2.2.2.2.2.2.length<=maxLen):Cj x=some (GO x.2.2.2.2.2.2.2.2.2.2.2.2.2 0 x.2.2.2.2.2.2.2.2.2.2.2.2.2.length&&(NQ x.2.2.2.2.2.2.2.2.2||F5 x.2.2.2.2.2.2.2.2.2 x.2.2.2.2.2.1),x):=SN (by
 unfold K_ NQ F5
 simp only [Af,KF _ h3,Option.bind_some]
 by_cases hk:x.2.2.2.2.2.2.2.2.2.1=0
 ·rw [if_pos (by simp [hk])]
  have k1:(x.2.2.2.2.2.2.2.2.2.1==1)=false:=by simp [hk]
  have k2:(x.2.2.2.2.2.2.2.2.2.1==2)=false:=by simp [hk]
  have k0:(x.2.2.2.2.2.2.2.2.2.1==0)=true:=by simp [hk]
  rw [k1,k2,k0]
  have hl:((x.2.2.2.2.2.2.2.2.2.2.2.2.2.length:Int)==0)=true->GO x.2.2.2.2.2.2.2.2.2.2.2.2.2 0 x.2.2.2.2.2.2.2.2.2.2.2.2.2.length=true:=by
   intro h
   have:x.2.2.2.2.2.2.2.2.2.2.2.2.2.length=0:=by simpa using h
   rw [this]
   rfl
  generalize ((x.2.2.2.2.2.2.2.2.2.2.2.2.2.length:Int)==0)=l at hl
  generalize GO x.2.2.2.2.2.2.2.2.2.2.2.2.2 0 x.2.2.2.2.2.2.2.2.2.2.2.2.2.length=u at hl
  generalize (x.2.2.2.2.2.2.2.2.2.2.1==0)=b
  generalize (x.2.2.2.2.2.2.2.2.2.2.2.1==0)=c
  generalize RC (.pair .str (.pair .str (.int .i64))) x.2.2.2.2.2.2.2.2.2.2.2.2.1 (ByteArray.empty,ByteArray.empty,(0:Int))=d
  cases b<;>cases c<;>cases d<;>cases l<;>cases u<;>simp at hl ⊢
 ·rw [if_neg (by simp [hk])]
  have k0:(x.2.2.2.2.2.2.2.2.2.1==0)=false:=by simp [hk]
  have k12:(decide (1<=x.2.2.2.2.2.2.2.2.2.1)&&decide (x.2.2.2.2.2.2.2.2.2.1<=2))=(x.2.2.2.2.2.2.2.2.2.1==1||x.2.2.2.2.2.2.2.2.2.1==2):=by
   rw [Bool.eq_iff_iff]
   simp
   omega
  rw [k12,k0]
  generalize (x.2.2.2.2.2.2.2.2.2.1==1||x.2.2.2.2.2.2.2.2.2.1==2)=k
  generalize GO x.2.2.2.2.2.2.2.2.2.2.2.2.2 0 x.2.2.2.2.2.2.2.2.2.2.2.2.2.length=u
  generalize (decide (0<=x.2.2.2.2.2.2.2.2.2.2.1)&&decide (x.2.2.2.2.2.2.2.2.2.2.1<=1000))=e
  generalize (decide (1<=x.2.2.2.2.2.2.2.2.2.2.2.1)&&decide (x.2.2.2.2.2.2.2.2.2.2.2.1<=900))=f
  cases k<;>cases u<;>cases e<;>cases f<;>rcases Bool.eq_false_or_eq_true x.2.2.2.2.2.1 with hs | hs<;>simp [hs])
theorem Ua (x:X) (h1:x.2.2.2.2.2.2.1.length<=maxLen) (h2:x.2.2.2.2.2.2.2.1.length<=maxLen) (h3:x.2.2.2.2.2.2.2.2.2.2.2.2.2.length<=maxLen):Ed x=some (V8 x):=X5 (by
 have w0:∀ b,IJ b x=some ((!x.2.2.2.2.2.1||(x.2.2.2.1&&x.2.2.2.2.1&&!decide ((x.2.2.2.2.2.2.1.length:Int)>0)))&&(!x.2.2.1||(!x.2.2.2.1&&!x.2.2.2.2.1))&&(GO x.2.2.2.2.2.2.2.2.2.2.2.2.2 0 x.2.2.2.2.2.2.2.2.2.2.2.2.2.length&&(NQ x.2.2.2.2.2.2.2.2.2||F5 x.2.2.2.2.2.2.2.2.2 x.2.2.2.2.2.1))):=fun b=>UG (by
  unfold M_
  simp only [PH x h3,Option.bind_some]
  generalize (GO x.2.2.2.2.2.2.2.2.2.2.2.2.2 0 x.2.2.2.2.2.2.2.2.2.2.2.2.2.length&&(NQ x.2.2.2.2.2.2.2.2.2||F5 x.2.2.2.2.2.2.2.2.2 x.2.2.2.2.2.1))=t
  generalize decide ((x.2.2.2.2.2.2.1.length:Int)>0)=c
  generalize x.2.2.2.2.2.1=s
  generalize x.2.2.2.2.1=l
  generalize x.2.2.2.1=m
  generalize x.2.2.1=n
  cases s<;>cases n<;>cases m<;>cases l<;>cases c<;>simp)
 unfold Qj V8
 simp only [Af,FS,KF _ h1,Jk _ h2 LL,Option.bind_some,w0]
 generalize (decide (1<=x.1)&&decide (x.1<=6))=a
 generalize (decide (1<=x.2.1)&&decide (x.2.1<=9))=b
 generalize GO x.2.2.2.2.2.2.1 0 x.2.2.2.2.2.2.1.length=d
 generalize GO x.2.2.2.2.2.2.2.2.2.2.2.2.2 0 x.2.2.2.2.2.2.2.2.2.2.2.2.2.length=e
 generalize DH x.2.2.2.2.2.2.2.1 0 x.2.2.2.2.2.2.2.1.length=f
 generalize (decide (0<=x.2.2.2.2.2.2.2.2.1)&&decide (x.2.2.2.2.2.2.2.2.1<=900))=g
 generalize (NQ x.2.2.2.2.2.2.2.2.2||F5 x.2.2.2.2.2.2.2.2.2 x.2.2.2.2.2.1)=t
 generalize (!x.2.2.2.2.2.1||(x.2.2.2.1&&x.2.2.2.2.1&&!decide ((x.2.2.2.2.2.2.1.length:Int)>0)))=p
 generalize (!x.2.2.1||(!x.2.2.2.1&&!x.2.2.2.2.1))=q
 cases a
 ·simp
 cases b
 ·simp
 cases d<;>cases e<;>cases f<;>cases g<;>cases p<;>cases q<;>simp)

abbrev By:Type:=Int×Int×Int×Int×Int×List (ByteArray×ByteArray×Int)
def Xk (x:By):Bool :=
 (decide (1<=x.1)&&decide (x.1<=8))&&(decide (1<=x.2.1)&&decide (x.2.1<=6))&&(decide (1<=x.2.2.1)&&decide (x.2.2.1<=6))&&(decide (1<=x.2.2.2.1)&&decide (x.2.2.2.1<=9))&&(decide (0<=x.2.2.2.2.1)&&decide (x.2.2.2.2.1<=1000000000))&&DH x.2.2.2.2.2 0 x.2.2.2.2.2.length &&
  (if x.1=2\/x.1=3 then true else if x.1=5 then ((x.2.2.2.2.2.length:Int)==1) else ((x.2.2.2.2.2.length:Int)==0))
theorem YW (x:By) (h:x.2.2.2.2.2.length<=maxLen):Ps x=some (Xk x):=ct (by
 have w1:∀ a b,Ht a b x=some (if b=true then true else if a=5 then ((x.2.2.2.2.2.length:Int)==1) else ((x.2.2.2.2.2.length:Int)==0)):=fun a b=>YP (by
  unfold Q8
  by_cases h1:b=true<;>by_cases h2:a=5<;>simp [h1,h2])
 have w0:∀ b,Lk b x=some (if x.1=2\/x.1=3 then true else if x.1=5 then ((x.2.2.2.2.2.length:Int)==1) else ((x.2.2.2.2.2.length:Int)==0)):=fun b=>YQ (by
  unfold Q9
  by_cases h1:x.1=2<;>by_cases h2:x.1=3<;>simp [h1,h2,w1])
 unfold Vw Xk
 simp only [Af,FS,Jk _ h LL,Option.bind_some,w0]
 generalize (decide (1<=x.1)&&decide (x.1<=8))=a
 generalize (decide (1<=x.2.1)&&decide (x.2.1<=6))=b
 generalize (decide (1<=x.2.2.1)&&decide (x.2.2.1<=6))=c
 generalize (decide (1<=x.2.2.2.1)&&decide (x.2.2.2.1<=9))=d
 generalize (decide (0<=x.2.2.2.2.1)&&decide (x.2.2.2.2.1<=1000000000))=e
 generalize DH x.2.2.2.2.2 0 x.2.2.2.2.2.length=f
 cases a<;>cases b<;>cases c<;>cases d<;>cases e<;>cases f<;>simp)

abbrev E4:Type:=Int×Int×Int×AH
def l_ (v:List Int):Prop:=(∀ a∈v,1<=a/\a<=6)/\v.Pairwise (· < ·)
theorem Z5 {v:List Int}:∀ (m i:Nat),i+m=v.length->(GO v i m=true↔∀ a (ha:a<v.length),i<=a->(1<=v[a]/\v[a]<=6)/\(a≠0->v.getD (a-1) 0<v[a]))
 | 0,i,h=>by
  simp only [GO,true_iff]
  intro a ha hi
  omega
 | m+1,i,h=>by
  have hi:i<v.length:=by omega
  rw [GO,Bool.and_eq_true,Bool.and_eq_true,Z5 m (i+1) (by omega),AY hi]
  simp only [Bool.or_eq_true,Bool.and_eq_true,decide_eq_true_eq]
  constructor
  ·rintro ⟨⟨h1,h2⟩,h3⟩ a ha hia
   by_cases e:a=i
   ·subst e
    exact ⟨h1,fun h0=>h2.resolve_left h0⟩
   ·exact h3 a ha (by omega)
  ·intro h3
   refine ⟨⟨(h3 i hi (Nat.le_refl _)).1,?_⟩,fun a ha hia=>h3 a ha (by omega)⟩
   by_cases e:i=0
   ·exact .inl e
   ·exact .inr ((h3 i hi (Nat.le_refl _)).2 e)
theorem kc {v:List Int}:GO v 0 v.length=true↔l_ v:=by
 rw [Z5 _ _ (by omega)]
 constructor
 ·intro h
  refine ⟨fun a ha=>?_,?_⟩
  ·obtain ⟨i,hi,rfl⟩:=List.getElem_of_mem ha
   exact (h i hi (Nat.zero_le _)).1
  ·have st:∀ d a (ha:a+d+1<v.length),v.getD a 0<v.getD (a+d+1) 0:=by
    intro d
    induction d with
    | zero =>
     intro a ha
     have:=(h (a+1) (by omega) (Nat.zero_le _)).2 (by omega)
     rw [AY (show a+0+1<v.length from ha)]
     simpa using this
    | succ d ih =>
     intro a ha
     have h1:=ih a (by omega)
     have h2:=(h (a+(d+1)+1) ha (Nat.zero_le _)).2 (by omega)
     rw [AY ha]
     simp only [Nat.add_sub_cancel] at h2
     have h3:v.getD (a+d+1) 0<v[a+(d+1)+1]:=h2
     omega
   rw [List.pairwise_iff_getElem]
   intro i j hi hj hij
   have:=st (j-i-1) i (by omega)
   rw [show i+(j-i-1)+1=j by omega,AY hi,AY hj] at this
   exact this
 ·rintro ⟨h1,h2⟩ a ha _
  refine ⟨h1 _ (List.getElem_mem ha),fun h0=>?_⟩
  rw [AY (show a-1<v.length by omega)]
  exact (List.pairwise_iff_getElem.1 h2) (a-1) a (by omega) ha (by omega)
theorem ff {v:List Int} (h:l_ v):v.length<=6:=by
 have hs:v.Sublist [1,2,3,4,5,6]:=by
  have key:∀ (l:List Int) (n:Nat),n<=6->(∀ a∈l,(6-n:Int)<a/\a<=6)->l.Pairwise (· < ·)->l.length<=n:=by
   intro l
   induction l with
   | nil=>intro n _ _ _; simp
   | cons a l ih =>
    intro n hn hb hp
    have ha:=hb a (by simp)
    have hp2:=List.pairwise_cons.1 hp
    have:=ih ((6-a).toNat) (by omega) (fun b hb'=>⟨by have:=hp2.1 b hb'; omega,(hb b (by simp [hb'])).2⟩) hp2.2
    simp only [List.length_cons]
    omega
  have hl:=key v 6 (by omega) (fun a ha=>by have:=h.1 a ha; omega) h.2
  exact List.Sublist.trans (List.Sublist.refl v) (by
   have:∀ (l:List Int) (s:List Int),s.Pairwise (· < ·)->l.Pairwise (· < ·)->(∀ a∈l,a∈s)->l.Sublist s:=by
    intro l s
    induction s generalizing l with
    | nil =>
     intro _ _ hm
     cases l with
     | nil=>exact List.Sublist.slnil
     | cons a l=>exact absurd (hm a (by simp)) (by simp)
    | cons b s ih =>
     intro hs hl hm
     cases l with
     | nil=>exact List.nil_sublist _
     | cons a l =>
      have hs2:=List.pairwise_cons.1 hs
      have hl2:=List.pairwise_cons.1 hl
      rcases List.mem_cons.1 (hm a (by simp)) with e | e
      ·subst e
       refine (ih l hs2.2 hl2.2 fun c hc=>?_).cons_cons _
       rcases List.mem_cons.1 (hm c (by simp [hc])) with e | e
       ·have:=hl2.1 c hc; omega
       ·exact e
      ·refine (ih (a::l) hs2.2 hl fun c hc=>?_).cons _
       rcases List.mem_cons.1 (hm c hc) with e2 | e2
       ·have h1:=hs2.1 a e
        rcases List.mem_cons.1 hc with e3 | e3
        ·omega
        ·have:=hl2.1 c e3; omega
       ·exact e2
   refine this v [1,2,3,4,5,6] (by decide) h.2 fun a ha=>?_
   have:=h.1 a ha
   have h5:a=1\/a=2\/a=3\/a=4\/a=5\/a=6:=by omega
   rcases h5 with h | h | h | h | h | h<;>simp [h])
 simpa using hs.length_le
structure Il (m:X):Prop where
 id:1<=m.1/\m.1<=6
 ep:1<=m.2.1/\m.2.1<=9
 serves:m.2.2.2.2.2.1=true->m.2.2.2.1=true/\m.2.2.2.2.1=true/\m.2.2.2.2.2.2.1=[]
 fell:m.2.2.1=true->m.2.2.2.1=false/\m.2.2.2.2.1=false
 waits:l_ m.2.2.2.2.2.2.1
 left:l_ m.2.2.2.2.2.2.2.2.2.2.2.2.2
 items:BR m.2.2.2.2.2.2.2.1=true
 count:0<=m.2.2.2.2.2.2.2.2.1/\m.2.2.2.2.2.2.2.2.1<=900
 task:NQ m.2.2.2.2.2.2.2.2.2=true\/F5 m.2.2.2.2.2.2.2.2.2 m.2.2.2.2.2.1=true
theorem kf {m:X}:V8 m=true↔Il m:=by
 unfold V8
 simp only [Bool.and_eq_true,Bool.or_eq_true,Bool.not_eq_true',decide_eq_true_eq,kc,decide_eq_false_iff_not]
 constructor
 ·rintro ⟨⟨⟨⟨⟨⟨⟨⟨h1,h2⟩,h3⟩,h4⟩,h5⟩,h6⟩,h7⟩,h8⟩,h9⟩
  refine ⟨h1,h2,fun h=>?_,fun h=>?_,h5,h6,h7,h8,h9⟩
  ·rcases h3 with h3 | ⟨⟨a,b⟩,c⟩
   ·rw [h] at h3; cases h3
   ·exact ⟨a,b,List.length_eq_zero_iff.1 (by omega)⟩
  ·rcases h4 with h4 | h4
   ·rw [h] at h4; cases h4
   ·exact h4
 ·rintro ⟨h1,h2,h3,h4,h5,h6,h7,h8,h9⟩
  refine ⟨⟨⟨⟨⟨⟨⟨⟨h1,h2⟩,?_⟩,?_⟩,h5⟩,h6⟩,h7⟩,h8⟩,h9⟩
  ·cases hs:m.2.2.2.2.2.1 with
   | false=>exact .inl rfl
   | true =>
    obtain ⟨a,b,c⟩:=h3 hs
    exact .inr ⟨⟨a,b⟩,by rw [c]; simp⟩
  ·cases hs:m.2.2.1 with
   | false=>exact .inl rfl
   | true=>exact .inr (h4 hs)
theorem Mj {x:List AH} (h:BR x=true):x.length<=12:=(CS.1 h).2.2
theorem Il.lens {m:X} (h:Il m):m.2.2.2.2.2.2.1.length<=6/\m.2.2.2.2.2.2.2.1.length<=12/\m.2.2.2.2.2.2.2.2.2.2.2.2.2.length<=6:=⟨ff h.waits,Mj h.items,ff h.left⟩
def EN (view:List Int) (id:Int):List Int:=[1,2,3,4,5,6].filter fun v=>v != id&&view.contains v
theorem P5 (view:List Int) (id:Int):l_ (EN view id):=by
 refine ⟨fun a ha=>?_,List.Pairwise.filter _ (by decide)⟩
 have:=(List.mem_filter.1 ha).1
 simp at this
 omega
theorem Z6 {v:List Int} (h:l_ v) (p:Int->Bool):l_ (v.filter p):=⟨fun a ha=>h.1 a (List.mem_filter.1 ha).1,h.2.filter p⟩

def B7 (view:List Int) (id:Int):List Int:=view.filter (· != id)
def Ub (m:X) (view:List Int) (its:List AH):X :=
 (m.1,m.2.1,m.2.2.1,true,m.2.2.2.2.1,(((EN view m.1).length:Int)==0),EN view m.1,its,m.2.2.2.2.2.2.2.2)
def Sj (m:X) (e:Int):X :=
 (m.1,e,false,false,false,false,([]:List Int),m.2.2.2.2.2.2.2.1,(0:Int),(0:Int),(0:Int),(0:Int),(ByteArray.empty,ByteArray.empty,(0:Int)),([]:List Int))
def Gt (m:X) (x:By) (k:Int):List By:=[(k,m.1,x.2.1,x.2.2.2.1,x.2.2.2.2.1,([]:List AH))]
def Ke (m:X) (its:List AH):X :=
 (m.1,m.2.1,m.2.2.1,m.2.2.2.1,m.2.2.2.2.1,m.2.2.2.2.2.1,m.2.2.2.2.2.2.1,its,m.2.2.2.2.2.2.2.2.1,(0:Int),(0:Int),(0:Int),(ByteArray.empty,ByteArray.empty,(0:Int)),([]:List Int))
def Bq (m:X):List E4×X :=
 if (m.2.2.2.2.2.2.2.2.2.1==1)=true then ([(m.2.2.2.2.2.2.2.2.2.2.1,m.2.1,m.2.2.2.2.2.2.2.2.2.2.2.1,m.2.2.2.2.2.2.2.2.2.2.2.2.1)],Ke m (Ai m.2.2.2.2.2.2.2.1 m.2.2.2.2.2.2.2.2.2.2.2.2.1))
 else ([(m.2.2.2.2.2.2.2.2.2.2.1,m.2.1,m.2.2.2.2.2.2.2.2.2.2.2.1,BI m.2.2.2.2.2.2.2.1 m.2.2.2.2.2.2.2.2.2.2.2.2.1.1)],Ke m m.2.2.2.2.2.2.2.1)
def bX (m:X) (f:Int):X :=
 (m.1,m.2.1,m.2.2.1,m.2.2.2.1,m.2.2.2.2.1,m.2.2.2.2.2.1,m.2.2.2.2.2.2.1,m.2.2.2.2.2.2.2.1,m.2.2.2.2.2.2.2.2.1,m.2.2.2.2.2.2.2.2.2.1,m.2.2.2.2.2.2.2.2.2.2.1,m.2.2.2.2.2.2.2.2.2.2.2.1,m.2.2.2.2.2.2.2.2.2.2.2.2.1,m.2.2.2.2.2.2.2.2.2.2.2.2.2.filter (· != f))
def HB (m:X) (f:Int):X×List By×List E4 :=
 if (((m.2.2.2.2.2.2.2.2.2.2.2.2.2.filter (· != f)).length:Int)==0)=true then ((Bq (bX m f)).2,[],(Bq (bX m f)).1) else (bX m f,[],[])
def Uc (m:X) (view:List Int) (x:By):X×List By×List E4 :=
 if x.1=2 then (if (m.2.2.2.2.1&&!m.2.2.2.1)=true then (Ub m view x.2.2.2.2.2,(B7 view m.1).map (fun v=>(3,m.1,v,m.2.1,0,x.2.2.2.2.2)),[]) else (m,[],[]))
 else if x.1=3 then (if (!view.contains m.1||(view.getD 0 0==m.1))=true then (m,[],[]) else if (!m.2.2.2.1&&m.2.2.1)=true then (m,[],[])
  else if m.2.2.2.1=true then (m,Gt m x 4,[]) else
   ((m.1,m.2.1,false,true,false,false,([]:List Int),x.2.2.2.2.2,(0:Int),(0:Int),(0:Int),(0:Int),(ByteArray.empty,ByteArray.empty,(0:Int)),([]:List Int)),Gt m x 4,[]))
 else if x.1=4 then (if m.2.2.2.2.1=true then
   ((m.1,m.2.1,m.2.2.1,m.2.2.2.1,m.2.2.2.2.1,m.2.2.2.1&&(((m.2.2.2.2.2.2.1.filter (· != x.2.1)).length:Int)==0),m.2.2.2.2.2.2.1.filter (· != x.2.1),m.2.2.2.2.2.2.2),[],[]) else (m,[],[]))
 else if x.1=5 then (if m.2.2.2.1=true then
   ((m.1,m.2.1,m.2.2.1,m.2.2.2.1,m.2.2.2.2.1,m.2.2.2.2.2.1,m.2.2.2.2.2.2.1,Ai m.2.2.2.2.2.2.2.1 (x.2.2.2.2.2.getD 0 (ByteArray.empty,ByteArray.empty,(0:Int))),m.2.2.2.2.2.2.2.2),Gt m x 6,[]) else (m,[],[]))
 else if x.1=7 then (if m.2.2.2.1=true then (m,Gt m x 8,[]) else (m,[],[]))
 else if (x.1=6\/x.1=8)/\m.2.2.2.2.2.2.2.2.2.1=(if x.1=8 then 2 else 1)/\m.2.2.2.2.2.2.2.2.2.2.2.1=x.2.2.2.2.1 then
  (HB m x.2.1)
 else (m,[],[])
structure Rc (views:List (List Int)):Prop where
 ok:FT views views.length views=true
theorem Ko {n:Nat}:∀ {l:List (List Int)} {x:List (List Int)},FT x n l=true↔(∀ v∈l,XG v=true)/\1<=n/\n<=9
 | [],x=>by simp [FT]; omega
 | v::l,x=>by
  rw [FT,Bool.and_eq_true,Ko]
  simp [and_assoc]
theorem Rc.len {views:List (List Int)} (h:Rc views):1<=views.length/\views.length<=9:=(Ko.1 h.ok).2
theorem Rc.view {views:List (List Int)} (h:Rc views) {v:List Int} (hv:v∈views):1<=v.length/\v.length<=4:=by
 have:=(Ko.1 h.ok).1 v hv
 unfold XG at this
 simp only [Bool.and_eq_true,decide_eq_true_eq] at this
 omega
theorem Rc.get {views:List (List Int)} (h:Rc views) {i:Nat} (hi:i<views.length):1<=(views.getD i []).length/\(views.getD i []).length<=4:=by
 rw [AY hi]
 exact h.view (List.getElem_mem hi)
def Db (m:X) (views:List (List Int)) (x:By):X×List By×List E4 :=
 if (Xk x&&(x.2.2.1==m.1)&&decide (m.2.1<=x.2.2.2.1)&&decide (x.2.2.2.1<=(views.length:Int)))=true then
  if x.2.2.2.1=m.2.1 then Uc m (views.getD (m.2.1-1).toNat []) x
  else if (x.1==1&&(x.2.2.2.1==m.2.1+1)&&m.2.2.2.1&&(views.getD (m.2.1-1).toNat []).contains m.1)=true then (Sj m x.2.2.2.1,[(2,m.1,x.2.1,x.2.2.2.1,0,m.2.2.2.2.2.2.2.1)],[])
  else if (x.1==3&&(views.getD (x.2.2.2.1-1).toNat []).contains m.1&&((views.getD (x.2.2.2.1-1).toNat []).getD 0 0 != m.1))=true then
   ((m.1,x.2.2.2.1,false,true,false,false,([]:List Int),x.2.2.2.2.2,(0:Int),(0:Int),(0:Int),(0:Int),(ByteArray.empty,ByteArray.empty,(0:Int)),([]:List Int)),Gt m x 4,[])
  else (m,[],[])
 else (m,[],[])

theorem Tn {v:List Int}:∀ (m i:Nat),i+m=v.length->(Ik v i m=true↔∀ a (ha:a<v.length),i<=a->(1<=v[a]/\v[a]<=6)/\v[a]∉v.take a)
 | 0,i,h=>by
  simp only [Ik,true_iff]
  intro a ha hi
  omega
 | m+1,i,h=>by
  have hi:i<v.length:=by omega
  rw [Ik,Bool.and_eq_true,Bool.and_eq_true,Tn m (i+1) (by omega),AY hi]
  simp only [Bool.and_eq_true,decide_eq_true_eq,Bool.not_eq_true',List.contains_eq_mem,decide_eq_false_iff_not]
  constructor
  ·rintro ⟨⟨h1,h2⟩,h3⟩ a ha hia
   by_cases e:a=i
   ·subst e
    exact ⟨h1,h2⟩
   ·exact h3 a ha (by omega)
  ·intro h3
   exact ⟨⟨(h3 i hi (Nat.le_refl _)).1,(h3 i hi (Nat.le_refl _)).2⟩,fun a ha hia=>h3 a ha (by omega)⟩
structure kg (v:List Int):Prop where
 len:1<=v.length/\v.length<=4
 mem:∀ a∈v,1<=a/\a<=6
 nd:v.Nodup
theorem kh {v:List Int}:XG v=true↔kg v:=by
 unfold XG
 simp only [Bool.and_eq_true,decide_eq_true_eq]
 rw [Tn _ _ (by omega)]
 constructor
 ·rintro ⟨h1,h2⟩
  refine ⟨by omega,fun a ha=>?_,?_⟩
  ·obtain ⟨i,hi,rfl⟩:=List.getElem_of_mem ha
   exact (h2 i hi (Nat.zero_le _)).1
  ·rw [List.nodup_iff_pairwise_ne,List.pairwise_iff_getElem]
   intro i j hi hj hij e
   have:=(h2 j hj (Nat.zero_le _)).2
   apply this
   rw [<- e]
   exact List.mem_iff_getElem.2 ⟨i,by rw [List.length_take]; omega,by rw [List.getElem_take]⟩
 ·rintro ⟨h1,h2,h3⟩
  refine ⟨by omega,fun a ha _=>⟨h2 _ (List.getElem_mem ha),fun hm=>?_⟩⟩
  obtain ⟨i,hi,e⟩:=List.getElem_of_mem hm
  rw [List.length_take] at hi
  rw [List.getElem_take] at e
  have:=(List.getElem_inj h3).1 e
  omega
theorem Rc.wok {views:List (List Int)} (h:Rc views) {i:Nat} (hi:i<views.length):kg (views.getD i []):=by
 rw [AY hi]
 exact kh.1 ((Ko.1 h.ok).1 _ (List.getElem_mem hi))
structure gx (x:By):Prop where
 kind:1<=x.1/\x.1<=8
 frm:1<=x.2.1/\x.2.1<=6
 to:1<=x.2.2.1/\x.2.2.1<=6
 ep:1<=x.2.2.2.1/\x.2.2.2.1<=9
 num:0<=x.2.2.2.2.1/\x.2.2.2.2.1<=1000000000
 items:BR x.2.2.2.2.2=true
 shape:if x.1=2\/x.1=3 then True else if x.1=5 then x.2.2.2.2.2.length=1 else x.2.2.2.2.2=[]
theorem S8 {x:By}:Xk x=true↔gx x:=by
 unfold Xk
 simp only [Bool.and_eq_true,decide_eq_true_eq]
 constructor
 ·rintro ⟨⟨⟨⟨⟨⟨h1,h2⟩,h3⟩,h4⟩,h5⟩,h6⟩,h7⟩
  refine ⟨h1,h2,h3,h4,h5,h6,?_⟩
  split at h7
  ·rename_i e; rw [if_pos e]; trivial
  ·rename_i e
   rw [if_neg e]
   split at h7
   ·rename_i e2; rw [if_pos e2]; simp only [beq_iff_eq] at h7; omega
   ·rename_i e2; rw [if_neg e2]; simp only [beq_iff_eq] at h7; exact List.length_eq_zero_iff.1 (by omega)
 ·rintro ⟨h1,h2,h3,h4,h5,h6,h7⟩
  refine ⟨⟨⟨⟨⟨⟨h1,h2⟩,h3⟩,h4⟩,h5⟩,h6⟩,?_⟩
  split
  ·rfl
  ·rename_i e
   rw [if_neg e] at h7
   split
   ·rename_i e2; rw [if_pos e2] at h7; simp; omega
   ·rename_i e2; rw [if_neg e2] at h7; simp [h7]
theorem Mk:BR []=true:=rfl
def Ud (m n:X) (l:List By):Prop:=∀ y∈l,gx y/\y.2.1=m.1/\y.2.2.2.1=n.2.1
theorem V9 {m n:X} {view:List Int} {k num:Int} {its:List AH} (hm:1<=m.1/\m.1<=6) (he:1<=n.2.1/\n.2.1<=9) (hv:∀ a∈view,1<=a/\a<=6) (hk:1<=k/\k<=8) (hn:0<=num/\num<=1000000000) (hi:BR its=true)
  (hs:if k=2\/k=3 then True else if k=5 then its.length=1 else its=[]):Ud m n ((B7 view m.1).map fun v=>(k,m.1,v,n.2.1,num,its)):=by
 intro y hy
 obtain ⟨v,hv2,rfl⟩:=List.mem_map.1 hy
 exact ⟨⟨hk,hm,hv v (List.mem_filter.1 hv2).1,he,hn,hi,hs⟩,rfl,rfl⟩
theorem NR {m n:X} {x:By} {k:Int} (hm:1<=m.1/\m.1<=6) (hx:gx x) (he:x.2.2.2.1=n.2.1) (hk:k=4\/k=6\/k=8):Ud m n (Gt m x k):=by
 intro y hy
 simp only [Gt,List.mem_singleton] at hy
 subst hy
 refine ⟨⟨by show 1<=k/\k<=8; omega,hm,hx.frm,hx.ep,hx.num,Mk,?_⟩,rfl,he⟩
 show if k=2\/k=3 then True else if k=5 then ([]:List AH).length=1 else ([]:List AH)=[]
 rw [if_neg (by omega),if_neg (by omega)]
theorem Sk {m n:X}:Ud m n []:=fun y hy=>by cases hy
theorem S9:NQ ((0:Int),(0:Int),(0:Int),(ByteArray.empty,ByteArray.empty,(0:Int)),([]:List Int))=true:=by simp [NQ,RC]
theorem Il.has {m:X} {view:List Int} {its:List AH} (h:Il m) (hl:m.2.2.2.2.1=true) (hb:m.2.2.2.1=false) (hi:BR its=true):Il (Ub m view its):=by
 have hns:m.2.2.2.2.2.1=false:=by
  cases hs:m.2.2.2.2.2.1 with
  | false=>rfl
  | true=>have:=(h.serves hs).1; rw [hb] at this; cases this
 refine ⟨h.id,h.ep,fun hs=>⟨rfl,hl,?_⟩,fun hf=>?_,P5 _ _,h.left,hi,h.count,?_⟩
 ·simp only [Ub,beq_iff_eq] at hs ⊢
  exact List.length_eq_zero_iff.1 (by omega)
 ·have:=(h.fell hf).2; rw [hl] at this; cases this
 ·rcases h.task with h1 | h1
  ·exact .inl h1
  ·unfold F5 at h1
   rw [hns] at h1
   simp at h1
theorem Il.bare {m:X} (h:Il m) {e:Int} (he:1<=e/\e<=9):Il (Sj m e) :=
 ⟨h.id,he,fun hs=>(by cases hs),fun hf=>(by cases hf),⟨by simp [Sj],by simp [Sj]⟩,⟨by simp [Sj],by simp [Sj]⟩,h.items,⟨by simp [Sj],by simp [Sj]⟩,.inl S9⟩
theorem Il.install {m:X} (h:Il m) {e:Int} {its:List AH} (he:1<=e/\e<=9) (hi:BR its=true) :
  Il (m.1,e,false,true,false,false,([]:List Int),its,(0:Int),(0:Int),(0:Int),(0:Int),(ByteArray.empty,ByteArray.empty,(0:Int)),([]:List Int)) :=
 ⟨h.id,he,fun hs=>(by cases hs),fun hf=>(by cases hf),⟨by simp,by simp⟩,⟨by simp,by simp⟩,hi,⟨by simp,by simp⟩,.inl S9⟩
theorem Il.clear {m:X} (h:Il m) {its:List AH} (hi:BR its=true):Il (Ke m its) :=
 ⟨h.id,h.ep,h.serves,h.fell,h.waits,⟨by simp [Ke],by simp [Ke]⟩,hi,h.count,.inl S9⟩
theorem Il.finish {m:X} (h:Il m):Il (Bq m).2:=by
 unfold Bq
 split
 ·exact h.clear (Gs h.items)
 ·exact h.clear h.items
theorem ki {m:X} (h:Il m) (h0:m.2.2.2.2.2.2.2.2.2.1≠0):F5 m.2.2.2.2.2.2.2.2.2 m.2.2.2.2.2.1=true:=by
 rcases h.task with h1 | h1
 ·unfold NQ at h1
  simp only [Bool.and_eq_true,beq_iff_eq] at h1
  exact absurd h1.1.1.1.1 h0
 ·exact h1
def Z7 (l:List E4):Prop:=l.length<=1/\∀ s∈l,0<=s.1/\s.1<=1000
theorem FU:Z7 []:=⟨by simp,fun s hs=>by cases hs⟩
theorem Xl {m:X} (h:Il m) (h0:m.2.2.2.2.2.2.2.2.2.1≠0):Z7 (Bq m).1:=by
 have h1:=ki h h0
 unfold F5 at h1
 simp only [Bool.and_eq_true,decide_eq_true_eq] at h1
 unfold Bq
 split
 ·exact ⟨by simp,fun s hs=>by simp at hs; subst hs; exact h1.1.2⟩
 ·exact ⟨by simp,fun s hs=>by simp at hs; subst hs; exact h1.1.2⟩
structure cw (m:X) (r:X×List By×List E4):Prop where
 mok:Il r.1
 id:r.1.1=m.1
 ep:m.2.1<=r.1.2.1
 told:Ud m r.1 r.2.1
 tlen:r.2.1.length<=4
 said:Z7 r.2.2
theorem Ft {m:X} (h:Il m):cw m (m,[],[]):=⟨h,rfl,Int.le_refl _,Sk,by simp,FU⟩
theorem Fu (view:List Int) (id:Int):(B7 view id).length<=view.length:=List.length_filter_le _ _
theorem Il.left_filter {m:X} (h:Il m) (f:Int):Il (bX m f):=by
 refine ⟨h.id,h.ep,h.serves,h.fell,h.waits,Z6 h.left _,h.items,h.count,?_⟩
 rcases h.task with h1 | h1
 ·left
  unfold NQ at h1 ⊢
  simp only [Bool.and_eq_true,beq_iff_eq] at h1 ⊢
  refine ⟨h1.1,?_⟩
  have h2:=List.length_filter_le (· != f) m.2.2.2.2.2.2.2.2.2.2.2.2.2
  have h3:=h1.2
  show (((m.2.2.2.2.2.2.2.2.2.2.2.2.2.filter (· != f)).length:Nat):Int)=0
  omega
 ·exact .inr h1
theorem kj {m:X} {view:List Int} {x:By} (hm:Il m) (hv:kg view) (hx:gx x) (he:x.2.2.2.1=m.2.1):cw m (Uc m view x):=by
 unfold Uc
 split
 ·split
  ·rename_i h1 h2
   simp only [Bool.and_eq_true,Bool.not_eq_true'] at h2
   refine ⟨hm.has h2.1 h2.2 hx.items,rfl,Int.le_refl _,?_,by simp only [List.length_map]; have:=Fu view m.1; have:=hv.len; omega,FU⟩
   exact V9 (n:=Ub m view x.2.2.2.2.2) hm.id hm.ep hv.mem (by omega) (by omega) hx.items (by simp)
  ·exact Ft hm
 ·split
  ·split
   ·exact Ft hm
   ·split
    ·exact Ft hm
    ·split
     ·exact ⟨hm,rfl,Int.le_refl _,NR hm.id hx he (by omega),by simp [Gt],FU⟩
     ·exact ⟨hm.install hm.ep hx.items,rfl,Int.le_refl _,NR hm.id hx he (by omega),by simp [Gt],FU⟩
  ·split
   ·split
    ·rename_i hl
     refine ⟨⟨hm.id,hm.ep,fun hs=>?_,hm.fell,Z6 hm.waits _,hm.left,hm.items,hm.count,?_⟩,rfl,Int.le_refl _,Sk,by simp,FU⟩
     ·simp only [Bool.and_eq_true,beq_iff_eq] at hs
      exact ⟨hs.1,hl,List.length_eq_zero_iff.1 (show (List.filter (· != x.2.1) m.2.2.2.2.2.2.1).length=0 by have h:((List.filter (· != x.2.1) m.2.2.2.2.2.2.1).length:Int)=0:=hs.2; omega)⟩
     ·rcases hm.task with h1 | h1
      ·exact .inl h1
      ·right
       have hs:m.2.2.2.2.2.1=true:=by
        unfold F5 at h1
        simp only [Bool.and_eq_true] at h1
        exact h1.1.1.2
       obtain ⟨a,b,c⟩:=hm.serves hs
       rw [hs] at h1
       simp only [c,List.filter_nil,List.length_nil,a,Bool.true_and]
       exact h1
    ·exact Ft hm
   ·split
    ·split
     ·exact ⟨⟨hm.id,hm.ep,hm.serves,hm.fell,hm.waits,hm.left,Gs hm.items,hm.count,hm.task⟩,rfl,Int.le_refl _,NR hm.id hx he (by omega),by simp [Gt],FU⟩
     ·exact Ft hm
    ·split
     ·split
      ·exact ⟨hm,rfl,Int.le_refl _,NR hm.id hx he (by omega),by simp [Gt],FU⟩
      ·exact Ft hm
     ·by_cases hc:(x.1=6\/x.1=8)/\m.2.2.2.2.2.2.2.2.2.1=(if x.1=8 then 2 else 1)/\m.2.2.2.2.2.2.2.2.2.2.2.1=x.2.2.2.2.1
      ·rw [if_pos hc]
       have hn:=hm.left_filter x.2.1
       unfold HB
       split
       ·refine ⟨hn.finish,?_,?_,Sk,by simp,Xl hn ?_⟩
        ·unfold Bq; split<;>rfl
        ·unfold Bq; split<;>exact Int.le_refl _
        ·have:=hc.2.1
         show m.2.2.2.2.2.2.2.2.2.1≠0
         rw [this]
         split<;>omega
       ·exact ⟨hn,rfl,Int.le_refl _,Sk,by simp,FU⟩
      ·rw [if_neg hc]
       exact Ft hm
theorem NS {m:X} {views:List (List Int)} {x:By} (hm:Il m) (hv:Rc views):cw m (Db m views x):=by
 unfold Db
 split
 ·rename_i hc
  simp only [Bool.and_eq_true,decide_eq_true_eq,beq_iff_eq] at hc
  obtain ⟨⟨⟨h1,h2⟩,h3⟩,h4⟩:=hc
  have hx:=S8.1 h1
  have hvl:=hv.len
  have he:=hm.ep
  split
  ·rename_i e
   exact kj hm (hv.wok (by omega)) hx e
  ·split
   ·refine ⟨hm.bare hx.ep,rfl,h3,fun y hy=>?_,by simp,FU⟩
    simp only [List.mem_singleton] at hy
    subst hy
    exact ⟨⟨by simp,hm.id,hx.frm,hx.ep,by simp,hm.items,by simp⟩,rfl,rfl⟩
   ·split
    ·exact ⟨hm.install hx.ep hx.items,rfl,h3,NR hm.id hx rfl (by omega),by simp [Gt],FU⟩
    ·exact Ft hm
 ·exact Ft hm

def Z8:X:=((0:Int),(0:Int),false,false,false,false,([]:List Int),([]:List AH),(0:Int),(0:Int),(0:Int),(0:Int),(ByteArray.empty,ByteArray.empty,(0:Int)),([]:List Int))
def gy (m:X) (views:List (List Int)) (op call:Int) (key val:ByteArray):Bool :=
 m.2.2.2.2.2.1&&(m.2.2.2.2.2.2.2.2.2.1==0)&&decide (m.2.2.2.2.2.2.2.2.1<900)&&(op==1||op==2)&&(decide (0<=call)&&decide (call<=1000))&&(decide (1<=(key.size:Int))&&decide ((key.size:Int)<=12))&&decide ((val.size:Int)<=20)&&(op==1||hX val)&&decide (m.2.1<=(views.length:Int))&&((views.getD (m.2.1-1).toNat []).getD 0 0==m.1)
def Im (m:X) (key val:ByteArray):AH:=(key,val,1000*m.2.1+(m.2.2.2.2.2.2.2.2.1+1))
def MO (m:X) (view:List Int) (op call:Int) (key val:ByteArray):X :=
 (m.1,m.2.1,m.2.2.1,m.2.2.2.1,m.2.2.2.2.1,m.2.2.2.2.2.1,m.2.2.2.2.2.2.1,m.2.2.2.2.2.2.2.1,m.2.2.2.2.2.2.2.2.1+1,op,call,m.2.2.2.2.2.2.2.2.1+1,Im m key val,EN view m.1)
def fD (m:X) (view:List Int) (op:Int) (key val:ByteArray):List By :=
 (B7 view m.1).map fun v=>(if op=1 then 5 else 7,m.1,v,m.2.1,m.2.2.2.2.2.2.2.2.1+1,if op=1 then [Im m key val] else [])
def Ue (m:X) (view:List Int) (op call:Int) (key val:ByteArray):X×List By×List E4×Bool :=
 if EN view m.1=[] then ((Bq (MO m view op call key val)).2,[],(Bq (MO m view op call key val)).1,true) else (MO m view op call key val,fD m view op key val,[],true)
def GP (m:X) (views:List (List Int)) (op call:Int) (key val:ByteArray):X×List By×List E4×Bool :=
 if gy m views op call key val=true then
  (if op=1/\RC (.pair .str (.pair .str (.int .i64))) (BI (Ai m.2.2.2.2.2.2.2.1 (Im m key val)) key) (Im m key val)=false then (Z8,[],[],false) else Ue m (views.getD (m.2.1-1).toNat []) op call key val)
 else (Z8,[],[],false)
structure fg (m:X) (r:X×List By×List E4×Bool):Prop where
 mok:r.2.2.2=true->Il r.1
 id:r.2.2.2=true->r.1.1=m.1
 ep:r.2.2.2=true->r.1.2.1=m.2.1
 told:r.2.2.2=true->Ud m r.1 r.2.1
 tlen:r.2.1.length<=4
 said:Z7 r.2.2.1
theorem bY {m:X}:fg m (Z8,[],[],false):=⟨fun h=>(by cases h),fun h=>(by cases h),fun h=>(by cases h),fun h=>(by cases h),by simp,FU⟩
theorem S_ {m:X} {views:List (List Int)} {op call:Int} {key val:ByteArray} (h:gy m views op call key val=true) :
  m.2.2.2.2.2.1=true/\m.2.2.2.2.2.2.2.2.2.1=0/\m.2.2.2.2.2.2.2.2.1<900/\(op=1\/op=2)/\(0<=call/\call<=1000)/\(1<=(key.size:Int)/\(key.size:Int)<=12)/\(val.size:Int)<=20/\(op=1\/hX val=true)/\m.2.1<=(views.length:Int)/\(views.getD (m.2.1-1).toNat []).getD 0 0=m.1:=by
 unfold gy at h
 simp only [Bool.and_eq_true,Bool.or_eq_true,decide_eq_true_eq,beq_iff_eq] at h
 obtain ⟨⟨⟨⟨⟨⟨⟨⟨⟨h1,h2⟩,h3⟩,h4⟩,h5⟩,h6⟩,h7⟩,h8⟩,h9⟩,h10⟩:=h
 exact ⟨h1,h2,h3,h4,h5,h6,h7,h8,h9,h10⟩
theorem Z9 {m:X} {key val:ByteArray} (h:Il m) (h3:m.2.2.2.2.2.2.2.2.1<900) (h6:1<=(key.size:Int)/\(key.size:Int)<=12) (h7:(val.size:Int)<=20):BR [Im m key val]=true:=by
 refine CS.2 ⟨fun b hb=>?_,?_,by simp⟩
 ·simp only [List.mem_singleton] at hb
  subst hb
  unfold Hu Im
  have:=h.ep
  have:=h.count
  simp only [Bool.and_eq_true,decide_eq_true_eq]
  omega
 ·exact bW.2 (by simp)
theorem Il.task1 {m:X} {view:List Int} {op call:Int} {key val:ByteArray} (h:Il m) (h1:m.2.2.2.2.2.1=true) (h3:m.2.2.2.2.2.2.2.2.1<900) (h4:op=1\/op=2) (h5:0<=call/\call<=1000):Il (MO m view op call key val):=by
 have hc:=h.count
 refine ⟨h.id,h.ep,h.serves,h.fell,h.waits,P5 _ _,h.items,?_,.inr ?_⟩
 ·show 0<=m.2.2.2.2.2.2.2.2.1+1/\m.2.2.2.2.2.2.2.2.1+1<=900
  omega
 ·unfold F5 MO
  rw [h1]
  simp only [Bool.and_eq_true,Bool.or_eq_true,decide_eq_true_eq,beq_iff_eq]
  exact ⟨⟨⟨h4,trivial⟩,h5⟩,by omega⟩
theorem XH {m:X} {views:List (List Int)} {op call:Int} {key val:ByteArray} (hm:Il m) (hv:Rc views):fg m (GP m views op call key val):=by
 unfold GP
 split
 ·rename_i hmay
  obtain ⟨h1,h2,h3,h4,h5,h6,h7,h8,h9,h10⟩:=S_ hmay
  split
  ·exact bY
  ·unfold Ue
   have hep:=hm.ep
   have ht:=hm.task1 (view:=views.getD (m.2.1-1).toNat []) (key:=key) (val:=val) h1 h3 h4 h5
   have h0:(MO m (views.getD (m.2.1-1).toNat []) op call key val).2.2.2.2.2.2.2.2.2.1≠0:=by show op≠0; omega
   have hw:=hv.wok (i:=(m.2.1-1).toNat) (by omega)
   split
   ·exact ⟨fun _=>ht.finish,fun _=>(by unfold Bq; split<;>rfl),fun _=>(by unfold Bq; split<;>rfl),fun _=>Sk,by simp,Xl ht h0⟩
   ·refine ⟨fun _=>ht,fun _=>rfl,fun _=>rfl,fun _=>?_,?_,FU⟩
    ·unfold fD
     have hc:=hm.count
     have hi:=Z9 hm h3 h6 h7
     refine V9 (n:=MO m (views.getD (m.2.1-1).toNat []) op call key val) hm.id hm.ep hw.mem (by split<;>omega) (by omega) ?_ ?_
     ·split
      ·exact hi
      ·exact Mk
     ·by_cases ho:op=1
      ·rw [if_pos ho,if_pos ho,if_neg (by omega),if_pos rfl]; rfl
      ·rw [if_neg ho,if_neg ho,if_neg (by omega),if_neg (by omega)]
    ·unfold fD
     simp only [List.length_map]
     have:=Fu (views.getD (m.2.1-1).toNat []) m.1
     have:=hw.len
     omega
 ·exact bY
def Na (m:X) (e:Int):X:=(m.1,e,false,false,true,false,([]:List Int),m.2.2.2.2.2.2.2.1,(0:Int),(0:Int),(0:Int),(0:Int),(ByteArray.empty,ByteArray.empty,(0:Int)),([]:List Int))
def E2 (m:X) (views:List (List Int)) (e:Int):X×List By×Bool :=
 if 2<=e/\e<=(views.length:Int)/\m.2.1<e/\(views.getD (e-1).toNat []).getD 0 0=m.1 then
  if (m.2.2.2.1&&(m.2.1==e-1)&&(views.getD (e-2).toNat []).contains m.1)=true then
   (Ub (Na m e) (views.getD (e-1).toNat []) m.2.2.2.2.2.2.2.1,(B7 (views.getD (e-1).toNat []) m.1).map (fun v=>(3,m.1,v,e,0,m.2.2.2.2.2.2.2.1)),true)
  else (Na m e,(B7 (views.getD (e-2).toNat []) m.1).map (fun v=>(1,m.1,v,e,0,[])),true)
 else (Z8,[],false)
theorem Il.new1 {m:X} (h:Il m) {e:Int} (he:1<=e/\e<=9):Il (Na m e) :=
 ⟨h.id,he,fun hs=>(by cases hs),fun hf=>(by cases hf),⟨by simp [Na],by simp [Na]⟩,⟨by simp [Na],by simp [Na]⟩,h.items,⟨by simp [Na],by simp [Na]⟩,.inl S9⟩
theorem TA {m:X} {views:List (List Int)} {e:Int} (hm:Il m) (hv:Rc views):(E2 m views e).2.2=true->Il (E2 m views e).1/\(E2 m views e).1.1=m.1/\Ud m (E2 m views e).1 (E2 m views e).2.1/\(E2 m views e).2.1.length<=4:=by
 intro h
 have hvl:=hv.len
 have hep:=hm.ep
 unfold E2 at h ⊢
 split
 ·rename_i hc
  have he:1<=e/\e<=9:=by omega
  split
  ·have hw:=hv.wok (i:=(e-1).toNat) (by omega)
   refine ⟨(hm.new1 he).has rfl rfl hm.items,rfl,V9 (n:=Ub (Na m e) (views.getD (e-1).toNat []) m.2.2.2.2.2.2.2.1) hm.id he hw.mem (by omega) (by omega) hm.items (by simp),?_⟩
   simp only [List.length_map]
   have:=Fu (views.getD (e-1).toNat []) m.1
   have:=hw.len
   omega
  ·have hw:=hv.wok (i:=(e-2).toNat) (by omega)
   refine ⟨hm.new1 he,rfl,V9 (n:=Na m e) hm.id he hw.mem (by omega) (by omega) Mk (by simp),?_⟩
   simp only [List.length_map]
   have:=Fu (views.getD (e-2).toNat []) m.1
   have:=hw.len
   omega
 ·rename_i hc
  rw [if_neg hc] at h
  cases h
def RB (m:X):X:=(m.1,m.2.1,true,false,false,false,([]:List Int),([]:List AH),(0:Int),(0:Int),(0:Int),(0:Int),(ByteArray.empty,ByteArray.empty,(0:Int)),([]:List Int))
theorem Il.fall1 {m:X} (h:Il m):Il (RB m) :=
 ⟨h.id,h.ep,fun hs=>(by cases hs),fun hf=>⟨rfl,rfl⟩,⟨by simp [RB],by simp [RB]⟩,⟨by simp [RB],by simp [RB]⟩,Mk,⟨by simp [RB],by simp [RB]⟩,.inl S9⟩
def D1 (id:Int) (views:List (List Int)):X :=
 (id,(1:Int),false,(views.getD 0 []).contains id,((views.getD 0 []).getD 0 0==id),((views.getD 0 []).getD 0 0==id),([]:List Int),([]:List AH),(0:Int),(0:Int),(0:Int),(0:Int),(ByteArray.empty,ByteArray.empty,(0:Int)),([]:List Int))
theorem Il.first1 {id:Int} {views:List (List Int)} (hi:1<=id/\id<=6) (hv:Rc views):Il (D1 id views):=by
 have hvl:=hv.len
 have g:=hv.get (i:=0) (by omega)
 refine ⟨hi,by simp [D1],fun hs=>⟨?_,hs,rfl⟩,fun hf=>(by cases hf),⟨by simp [D1],by simp [D1]⟩,⟨by simp [D1],by simp [D1]⟩,Mk,⟨by simp [D1],by simp [D1]⟩,.inl S9⟩
 simp only [D1,beq_iff_eq] at hs ⊢
 rw [<- hs,List.contains_iff_mem,AY (show 0<(views.getD 0 []).length by omega)]
 exact List.getElem_mem _

abbrev LN:Type:=Int×ByteArray×ByteArray×Int×Int×Int×Int×Int×ByteArray
abbrev AQ:Type:=List (List Int)×List X×List By×List LN
abbrev EO:Type:=Int×Int×Int×Int×ByteArray×ByteArray
def Fv:LN:=((0:Int),ByteArray.empty,ByteArray.empty,(0:Int),(0:Int),(0:Int),(0:Int),(0:Int),ByteArray.empty)
def EP:By:=((0:Int),(0:Int),(0:Int),(0:Int),(0:Int),([]:List AH))
def CJ (g:AQ) (i:Nat):X:=g.2.1.getD i Z8
structure MP (g:AQ) (n:Nat):Prop where
 views:Rc g.1
 six:g.2.1.length=6
 mem:∀ i,i<6->Il (CJ g i)/\(CJ g i).1=(i:Int)+1
 fly:∀ x∈g.2.2.1,gx x
 flen:g.2.2.1.length<=8*n
 clen:g.2.2.2.length<=n
def Sl (at_:Int) (s:E4) (c:LN):LN :=
 (c.1,c.2.1,c.2.2.1,c.2.2.2.1,at_,s.2.2.2.2.2,s.2.1,s.2.2.1,if (c.1==2)=true then s.2.2.2.2.1 else c.2.2.2.2.2.2.2.2)
def LO (at_:Int) (cs:List LN) (s:E4):List LN :=
 if (decide (s.1>=(cs.length:Int))||decide ((cs.getD s.1.toNat Fv).2.2.2.2.1>=0))=true then cs else cs.set s.1.toNat (Sl at_ s (cs.getD s.1.toNat Fv))
def Az (g:AQ) (n:X) (told:List By) (said:List E4) (at_:Int):AQ :=
 (g.1,g.2.1.set (n.1-1).toNat n,g.2.2.1++told,said.foldl (LO at_) g.2.2.2)
theorem gz (at_:Int) (cs:List LN) (s:E4):(LO at_ cs s).length=cs.length:=by unfold LO; split<;>simp
theorem Uf (at_:Int):∀ (said:List E4) (cs:List LN),(said.foldl (LO at_) cs).length=cs.length
 | [],cs=>rfl
 | s::l,cs=>by rw [List.foldl_cons,Uf at_ l,gz]
theorem fh {α:Type} {l:List α} {i:Nat} {a d:α} (h:i<l.length):(l.set i a).getD i d=a:=by simp [List.getD,h]
theorem Z_ {g:AQ} {n:X} {told:List By} {said:List E4} {at_:Int} {i j:Nat} (h6:g.2.1.length=6) (hj:j<6) (hn:n.1=(i:Int)+1) (hi:i<6):CJ (Az g n told said at_) j=if j=i then n else CJ g j:=by
 unfold CJ Az
 simp only [hn,show ((i:Int)+1-1).toNat=i from by omega]
 by_cases e:j=i
 ·subst e
  rw [if_pos rfl]
  exact fh (by omega)
 ·rw [if_neg e]
  simp [List.getD,List.getElem?_set,Ne.symm e]
theorem MP.member {g:AQ} {k:Nat} (h:MP g k) {n:X} {told:List By} {said:List E4} {at_:Int} {i:Nat} (hi:i<6) (hn:Il n) (hid:n.1=(i:Int)+1) (ht:∀ y∈told,gx y) (hl:told.length<=4):MP (Az g n told said at_) (k+1):=by
 refine ⟨h.views,by simp [Az,h.six],fun j hj=>?_,fun x hx=>?_,?_,?_⟩
 ·rw [Z_ h.six hj hid hi]
  split
  ·rename_i e
   subst e
   exact ⟨hn,hid⟩
  ·exact h.mem j hj
 ·rcases List.mem_append.1 hx with h1 | h1
  ·exact h.fly x h1
  ·exact ht x h1
 ·have:=h.flen
  simp only [Az,List.length_append]
  omega
 ·have:=h.clen
  simp only [Az,Uf]
  omega
def Gu (g:AQ) (at_:Int) (e:EO):AQ:=(g.1,g.2.1,g.2.2.1,g.2.2.2++[(e.2.2.2.1,e.2.2.2.2.1,e.2.2.2.2.2,at_,-1,0,0,0,ByteArray.empty)])
def Lo (g:AQ) (at_:Int) (e:EO):Int×AQ :=
 if (GP (CJ g (e.2.1-1).toNat) g.1 e.2.2.2.1 (g.2.2.2.length:Int) e.2.2.2.2.1 e.2.2.2.2.2).2.2.2=true then
  (0,Az (Gu g at_ e) (GP (CJ g (e.2.1-1).toNat) g.1 e.2.2.2.1 (g.2.2.2.length:Int) e.2.2.2.2.1 e.2.2.2.2.2).1 (GP (CJ g (e.2.1-1).toNat) g.1 e.2.2.2.1 (g.2.2.2.length:Int) e.2.2.2.2.1 e.2.2.2.2.2).2.1 (GP (CJ g (e.2.1-1).toNat) g.1 e.2.2.2.1 (g.2.2.2.length:Int) e.2.2.2.2.1 e.2.2.2.2.2).2.2.1 at_)
 else (1,Gu g at_ e)
theorem Yl {e:EO} (h:XE e=true):1<=e.1/\e.1<=6/\1<=e.2.1/\e.2.1<=6/\0<=e.2.2.1:=by
 unfold XE at h
 simp only [Bool.and_eq_true,decide_eq_true_eq] at h
 omega
theorem MP.told {g:AQ} {k:Nat} (h:MP g k):True:=trivial
theorem fi {m n:X} {l:List By} (h:Ud m n l):∀ y∈l,gx y:=fun y hy=>(h y hy).1
theorem MP.began {at_:Int} {e:EO} {g:AQ} {k:Nat} (hg:MP g k) (hn:1<=e.2.1/\e.2.1<=6):MP (Lo g at_ e).2 (k+1)/\(Lo g at_ e).2.1=g.1:=by
 have hc:=hg.clen
 obtain ⟨m1,m2⟩:=hg.mem (e.2.1-1).toNat (by omega)
 have hb:=XH (op:=e.2.2.2.1) (call:=(g.2.2.2.length:Int)) (key:=e.2.2.2.2.1) (val:=e.2.2.2.2.2) m1 hg.views
 refine ⟨?_,?_⟩
 ·unfold Lo
  split
  ·rename_i hq
   have hid:=hb.id hq
   have hm:=hg.member (said:=(GP (CJ g (e.2.1-1).toNat) g.1 e.2.2.2.1 (g.2.2.2.length:Int) e.2.2.2.2.1 e.2.2.2.2.2).2.2.1) (at_:=at_) (i:=(e.2.1-1).toNat) (by omega) (hb.mok hq) (by rw [hid,m2]) (fi (hb.told hq)) hb.tlen
   exact ⟨hm.views,hm.six,hm.mem,hm.fly,hm.flen,by simp only [Az,Uf,Gu,List.length_append,List.length_cons,List.length_nil]; omega⟩
  ·exact ⟨hg.views,hg.six,hg.mem,hg.fly,by have:=hg.flen; show g.2.2.1.length<=_; omega,by simp only [Gu,List.length_append,List.length_cons,List.length_nil]; omega⟩
 ·unfold Lo; split<;>rfl

def IN (g:AQ) (at_:Int) (m:X) (node:Int):Nat->Int->Int×AQ
 | 0,_=>(1,g)
 | k+1,e=>if ((g.1.getD (e-1).toNat []).getD 0 0 != node)=true then IN g at_ m node k (e+1)
  else if (E2 m g.1 e).2.2=true then (0,Az g (E2 m g.1 e).1 (E2 m g.1 e).2.1 [] at_) else (1,g)
def cz (g:AQ) (at_ node:Int):Int×AQ:=IN g at_ (CJ g (node-1).toNat) node ((g.1.length:Int)-(CJ g (node-1).toNat).2.1).toNat ((CJ g (node-1).toNat).2.1+1)
theorem MP.up {g:AQ} {k:Nat} (h:MP g k):MP g (k+1):=⟨h.views,h.six,h.mem,h.fly,by have:=h.flen; omega,by have:=h.clen; omega⟩
theorem MP.adopted {at_ node:Int} {g:AQ} {k:Nat} (hg:MP g k) (hn:1<=node/\node<=6):∀ (j:Nat) (e:Int),MP (IN g at_ (CJ g (node-1).toNat) node j e).2 (k+1)/\(IN g at_ (CJ g (node-1).toNat) node j e).2.1=g.1
 | 0,_=>⟨hg.up,rfl⟩
 | j+1,e=>by
  obtain ⟨m1,m2⟩:=hg.mem (node-1).toNat (by omega)
  unfold IN
  split
  ·exact MP.adopted hg hn j (e+1)
  ·split
   ·rename_i hq
    obtain ⟨a1,a2,a3,a4⟩:=TA (e:=e) m1 hg.views hq
    exact ⟨hg.member (i:=(node-1).toNat) (by omega) a1 (by rw [a2,m2]) (fi a3) a4,rfl⟩
   ·exact ⟨hg.up,rfl⟩
def EQ (g:AQ) (i:Nat):AQ:=(g.1,g.2.1,g.2.2.1.take i++g.2.2.1.drop (i+1),g.2.2.2)
def au (g:AQ) (at_:Int) (e:EO):Int×AQ :=
 if g.2.2.1=[] then (1,g)
 else if e.1=4 then (0,(g.1,g.2.1,g.2.2.1++[g.2.2.1.getD (e.2.2.1 % (g.2.2.1.length:Int)).toNat EP],g.2.2.2))
 else if e.1=3 then (0,EQ g (e.2.2.1 % (g.2.2.1.length:Int)).toNat)
 else (0,Az (EQ g (e.2.2.1 % (g.2.2.1.length:Int)).toNat)
  (Db (CJ g ((g.2.2.1.getD (e.2.2.1 % (g.2.2.1.length:Int)).toNat EP).2.2.1-1).toNat) g.1 (g.2.2.1.getD (e.2.2.1 % (g.2.2.1.length:Int)).toNat EP)).1
  (Db (CJ g ((g.2.2.1.getD (e.2.2.1 % (g.2.2.1.length:Int)).toNat EP).2.2.1-1).toNat) g.1 (g.2.2.1.getD (e.2.2.1 % (g.2.2.1.length:Int)).toNat EP)).2.1
  (Db (CJ g ((g.2.2.1.getD (e.2.2.1 % (g.2.2.1.length:Int)).toNat EP).2.2.1-1).toNat) g.1 (g.2.2.1.getD (e.2.2.1 % (g.2.2.1.length:Int)).toNat EP)).2.2 at_)
theorem MP.less {g:AQ} {k:Nat} (h:MP g k) (i:Nat):MP (EQ g i) k:=by
 refine ⟨h.views,h.six,h.mem,fun x hx=>?_,?_,h.clen⟩
 ·rcases List.mem_append.1 hx with h1 | h1
  ·exact h.fly x (List.mem_of_mem_take h1)
  ·exact h.fly x (List.mem_of_mem_drop h1)
 ·have:=h.flen
  simp only [EQ,List.length_append,List.length_take,List.length_drop]
  omega
theorem MP.flew {at_:Int} {e:EO} {g:AQ} {k:Nat} (hg:MP g k):MP (au g at_ e).2 (k+1)/\(au g at_ e).2.1=g.1:=by
 have hc:=hg.clen
 have hf:=hg.flen
 unfold au
 split
 ·exact ⟨hg.up,rfl⟩
 ·rename_i h0
  have hl:0<g.2.2.1.length:=List.length_pos_iff.2 h0
  have hr0:=Int.emod_nonneg e.2.2.1 (show (g.2.2.1.length:Int)≠0 by omega)
  have hr1:=Int.emod_lt_of_pos e.2.2.1 (show 0<(g.2.2.1.length:Int) by omega)
  generalize hq:e.2.2.1 % (g.2.2.1.length:Int)=q at hr0 hr1
  have hx:=hg.fly (g.2.2.1.getD q.toNat EP) (by rw [AY (show q.toNat<g.2.2.1.length by omega)]; exact List.getElem_mem _)
  have hto:=hx.to
  obtain ⟨m1,m2⟩:=hg.mem ((g.2.2.1.getD q.toNat EP).2.2.1-1).toNat (by omega)
  have hh:=NS (x:=g.2.2.1.getD q.toNat EP) m1 hg.views
  have hless:=hg.less q.toNat
  split
  ·refine ⟨⟨hg.views,hg.six,hg.mem,fun x hx'=>?_,by simp only [List.length_append,List.length_cons,List.length_nil]; omega,by show g.2.2.2.length<=_; omega⟩,rfl⟩
   rcases List.mem_append.1 hx' with h1 | h1
   ·exact hg.fly x h1
   ·simp only [List.mem_singleton] at h1; subst h1; exact hx
  ·split
   ·exact ⟨hless.up,rfl⟩
   ·exact ⟨hless.member (i:=((g.2.2.1.getD q.toNat EP).2.2.1-1).toNat) (by omega) hh.mok (by rw [hh.id,m2]) (fi hh.told) hh.tlen,rfl⟩
def dI (g:AQ) (at_:Int) (e:EO):Int×AQ :=
 if e.1=1 then Lo g at_ e else if e.1=5 then cz g at_ e.2.1
 else if e.1=6 then (0,Az g (RB (CJ g (e.2.1-1).toNat)) [] [] at_) else au g at_ e
theorem MP.event {at_:Int} {e:EO} {g:AQ} {k:Nat} (hg:MP g k) (he:XE e=true):MP (dI g at_ e).2 (k+1)/\(dI g at_ e).2.1=g.1:=by
 have hn:=Yl he
 unfold dI
 split
 ·exact hg.began (by omega)
 ·split
  ·exact hg.adopted (by omega) _ _
  ·split
   ·obtain ⟨m1,m2⟩:=hg.mem (e.2.1-1).toNat (by omega)
    exact ⟨hg.member (i:=(e.2.1-1).toNat) (by omega) m1.fall1 m2 (fun y hy=>by cases hy) (by simp),rfl⟩
   ·exact hg.flew

def Ap (views:List (List Int)):AQ:=(views,[D1 1 views,D1 2 views,D1 3 views,D1 4 views,D1 5 views,D1 6 views],[],[])
theorem bZ {views:List (List Int)} (hv:Rc views):MP (Ap views) 0:=by
 refine ⟨hv,rfl,fun i hi=>?_,fun x hx=>(by cases hx),(by simp [Ap]),(by simp [Ap])⟩
 have h5:i=0\/i=1\/i=2\/i=3\/i=4\/i=5:=by omega
 rcases h5 with rfl | rfl | rfl | rfl | rfl | rfl<;>exact ⟨Il.first1 (by omega) hv,rfl⟩
def OS:Nat->List EO->AQ->List Int->AQ×List Int
 | _,[],g,cs=>(g,cs)
 | n,e::es,g,cs=>OS (n+1) es (dI g (n:Int) e).2 (cs++[(dI g (n:Int) e).1])
theorem c_:∀ (es:List EO) (n:Nat) (g:AQ) (cs:List Int),MP g n->n+es.length<=70->(∀ e∈es,XE e=true)->MP (OS n es g cs).1 (n+es.length)/\(OS n es g cs).1.1=g.1/\(OS n es g cs).2.length=cs.length+es.length
 | [],n,g,cs,hg,_,_=>⟨hg,rfl,rfl⟩
 | e::es,n,g,cs,hg,hn,he=>by
  simp only [List.length_cons] at hn
  obtain ⟨h2,h3⟩:=hg.event (at_:=(n:Int)) (he e (by simp))
  obtain ⟨h4,h5,h6⟩:=c_ es (n+1) _ (cs++[(dI g (n:Int) e).1]) h2 (by omega) (fun x hx=>he x (by simp [hx]))
  refine ⟨?_,h5.trans h3,?_⟩
  ·have:n+(e::es).length=n+1+es.length:=by simp only [List.length_cons]; omega
   rw [this]
   exact h4
  ·simp only [OS,h6,List.length_append,List.length_cons,List.length_nil]
   omega





def OD (views:List (List Int)) (e:Int):Int:=(views.getD (e-1).toNat []).getD 0 0
def Jl (l:List AH) (b:Int):Prop:=∀ y∈l,y.2.2<=b
theorem Jl.mono {l:List AH} {a b:Int} (h:Jl l a) (hab:a<=b):Jl l b:=fun y hy=>Int.le_trans (h y hy) hab
theorem XI {b:Int}:Jl [] b:=fun y hy=>by cases hy
theorem Sm {x:List AH} {a b:AH} (h:b∈Ai x a):b=a\/b∈x:=by
 unfold Ai at h
 split at h
 ·exact .inr h
 ·split at h
  ·split at h
   ·exact d_ h
   ·exact .inr h
  ·exact .inr h
theorem Jl.put {l:List AH} {a:AH} {b:Int} (h:Jl l b) (ha:a.2.2<=b):Jl (Ai l a) b:=fun y hy=>by
 rcases Sm hy with e | e
 ·rw [e]; exact ha
 ·exact h y e
structure V1 (views:List (List Int)) (m:X):Prop where
 lead:m.2.2.2.2.1=true->m.2.1<=(views.length:Int)/\OD views m.2.1=m.1
 ver:Jl m.2.2.2.2.2.2.2.1 (1000*m.2.1+900)
 own:m.2.2.2.2.1=true->m.2.2.2.1=true->Jl m.2.2.2.2.2.2.2.1 (1000*m.2.1+m.2.2.2.2.2.2.2.2.1)
 task:m.2.2.2.2.2.2.2.2.2.1≠0->m.2.2.2.2.2.2.2.2.2.2.2.2.1.2.2<=1000*m.2.1+m.2.2.2.2.2.2.2.2.1
 view:m.2.2.2.1=true->m.2.1<=(views.length:Int)/\(views.getD (m.2.1-1).toNat []).contains m.1=true
structure V2 (views:List (List Int)) (x:By):Prop where
 inst:x.1=3->x.2.2.2.2.1=0
 old:x.1=2\/x.1=3->Jl x.2.2.2.2.2 (1000*x.2.2.2.1)
 store:x.1=5->x.2.2.1≠OD views x.2.2.2.1/\Jl x.2.2.2.2.2 (1000*x.2.2.2.1+900)
theorem V2.plain {views:List (List Int)} {x:By} (h2:x.1≠2) (h3:x.1≠3) (h5:x.1≠5):V2 views x:=⟨fun h=>absurd h h3,fun h=>by omega,fun h=>absurd h h5⟩
theorem V1.finish {views:List (List Int)} {m:X} (h:V1 views m) (hc:m.2.2.2.2.2.2.2.2.1<=900) (h0:m.2.2.2.2.2.2.2.2.2.1≠0):V1 views (Bq m).2:=by
 have ht:=h.task h0
 unfold Bq
 split
 ·exact ⟨h.lead,h.ver.put (by omega),fun h1 h2=>(h.own h1 h2).put ht,fun h0=>absurd rfl h0,h.view⟩
 ·exact ⟨h.lead,h.ver,h.own,fun h0=>absurd rfl h0,h.view⟩
theorem V1.bare {views:List (List Int)} {m:X} (h:V1 views m) {e:Int} (he:m.2.1<=e):V1 views (Sj m e) :=
 ⟨fun h=>(by cases h),h.ver.mono (by show _<=1000*e+900; omega),fun h=>(by cases h),fun h=>absurd rfl h,fun h=>(by cases h)⟩
theorem V1.inst {views:List (List Int)} {i e:Int} {its:List AH} (h:Jl its (1000*e)) (hv:e<=(views.length:Int)/\(views.getD (e-1).toNat []).contains i=true):V1 views (i,e,false,true,false,false,([]:List Int),its,(0:Int),(0:Int),(0:Int),(0:Int),(ByteArray.empty,ByteArray.empty,(0:Int)),([]:List Int)) :=
 ⟨fun h=>(by cases h),h.mono (by show _<=1000*e+900; omega),fun h=>(by cases h),fun h=>absurd rfl h,fun _=>hv⟩
theorem aA {views:List (List Int)} {i e:Int} (hv:Rc views) (h1:1<=e) (he:e<=(views.length:Int)) (hf:OD views e=i):(views.getD (e-1).toNat []).contains i=true:=by
 have g:=hv.get (i:=(e-1).toNat) (by omega)
 rw [<- hf,List.contains_iff_mem,OD,AY (show 0<(views.getD (e-1).toNat []).length by omega)]
 exact List.getElem_mem _
theorem V1.has {views:List (List Int)} {m:X} {view:List Int} {its:List AH} (hv:Rc views) (h1:1<=m.2.1) (hl:m.2.2.2.2.1=true) (h:V1 views m) (hc:0<=m.2.2.2.2.2.2.2.2.1) (hi:Jl its (1000*m.2.1)):V1 views (Ub m view its) :=
 ⟨h.lead,hi.mono (by show _<=1000*m.2.1+900; omega),fun _ _=>hi.mono (by show _<=1000*m.2.1+m.2.2.2.2.2.2.2.2.1; omega),h.task,fun _=>⟨(h.lead hl).1,aA hv h1 (h.lead hl).1 (h.lead hl).2⟩⟩
theorem V2.insts {views:List (List Int)} {i e:Int} {l:List Int} {its:List AH} (h:Jl its (1000*e)):∀ y∈l.map (fun v=>((3:Int),i,v,e,(0:Int),its)),V2 views y:=by
 intro y hy
 obtain ⟨v,_,rfl⟩:=List.mem_map.1 hy
 exact ⟨fun _=>rfl,fun _=>h,fun h5=>absurd h5 (by decide:(3:Int)≠5)⟩
theorem V2.reply {views:List (List Int)} {m:X} {x:By} {k:Int} (hk:k=4\/k=6\/k=8):∀ y∈Gt m x k,V2 views y:=by
 intro y hy
 simp only [Gt,List.mem_singleton] at hy
 subst hy
 exact V2.plain (by show k≠2; omega) (by show k≠3; omega) (by show k≠5; omega)
theorem fj {views:List (List Int)}:∀ y∈([]:List By),V2 views y:=fun y hy=>by cases hy
def V4 (views:List (List Int)) (n:X) (told:List By):Prop:=V1 views n/\∀ y∈told,V2 views y
theorem V4.same {views:List (List Int)} {m:X} (h:V1 views m):V4 views m []:=⟨h,fj⟩
theorem jD {views:List (List Int)} {m:X} (h:V1 views m) (hc:m.2.2.2.2.2.2.2.2.1<=900) (h0:m.2.2.2.2.2.2.2.2.2.1≠0) (f:Int):V4 views (HB m f).1 (HB m f).2.1:=by
 have hl:V1 views (bX m f):=⟨h.lead,h.ver,h.own,h.task,h.view⟩
 unfold HB
 split
 ·exact ⟨hl.finish hc h0,fj⟩
 ·exact .same hl
theorem mY {views:List (List Int)} {m:X} {x:By} (hv:Rc views) (hlen:m.2.1<=(views.length:Int)) (hm:Il m) (h:V1 views m) (hx:V2 views x) (hxo:gx x) (ht:x.2.2.1=m.1) (he:x.2.2.2.1=m.2.1):V4 views (Uc m (views.getD (m.2.1-1).toNat []) x).1 (Uc m (views.getD (m.2.1-1).toNat []) x).2.1:=by
 have hcnt:=hm.count
 unfold Uc
 by_cases k2:x.1=2
 ·rw [if_pos k2]
  split
  ·rename_i hc
   simp only [Bool.and_eq_true] at hc
   have:=hx.old (.inl k2)
   rw [he] at this
   exact ⟨V1.has hv hm.ep.1 hc.1 h hcnt.1 this,V2.insts this⟩
  ·exact .same h
 rw [if_neg k2]
 by_cases k3:x.1=3
 ·rw [if_pos k3]
  split
  ·exact .same h
  ·rename_i hc
   split
   ·exact .same h
   ·split
    ·exact ⟨h,V2.reply (.inl rfl)⟩
    ·have:=hx.old (.inr k3)
     rw [he] at this
     refine ⟨V1.inst this ⟨hlen,?_⟩,V2.reply (.inl rfl)⟩
     cases q:(views.getD (m.2.1-1).toNat []).contains m.1 with
     | true=>rfl
     | false=>rw [q] at hc; exact absurd rfl hc
 rw [if_neg k3]
 by_cases k4:x.1=4
 ·rw [if_pos k4]
  split
  ·exact .same ⟨h.lead,h.ver,h.own,h.task,h.view⟩
  ·exact .same h
 rw [if_neg k4]
 by_cases k5:x.1=5
 ·rw [if_pos k5]
  split
  ·obtain ⟨s1,s2⟩:=hx.store k5
   have hlen:x.2.2.2.2.2.length=1:=by
    have:=hxo.shape
    rw [if_neg (by omega),if_pos k5] at this
    exact this
   have hit:(x.2.2.2.2.2.getD 0 (ByteArray.empty,ByteArray.empty,(0:Int))).2.2<=1000*m.2.1+900:=by
    rw [AY (show 0<x.2.2.2.2.2.length by omega),<- he]
    exact s2 _ (List.getElem_mem _)
   refine ⟨⟨h.lead,h.ver.put hit,fun h1 h2=>?_,h.task,h.view⟩,V2.reply (.inr (.inl rfl))⟩
   exact absurd (h.lead h1).2 (by rw [<- he,<- ht]; exact Ne.symm s1)
  ·exact .same h
 rw [if_neg k5]
 by_cases k7:x.1=7
 ·rw [if_pos k7]
  split
  ·exact ⟨h,V2.reply (.inr (.inr rfl))⟩
  ·exact .same h
 rw [if_neg k7]
 by_cases hc:(x.1=6\/x.1=8)/\m.2.2.2.2.2.2.2.2.2.1=(if x.1=8 then 2 else 1)/\m.2.2.2.2.2.2.2.2.2.2.2.1=x.2.2.2.2.1
 ·rw [if_pos hc]
  exact jD h hcnt.2 (by have:=hc.2.1; split at this<;>omega) _
 ·rw [if_neg hc]
  exact .same h
theorem jE {views:List (List Int)} {m:X} {x:By} (hv:Rc views) (hm:Il m) (h:V1 views m) (hx:V2 views x):V4 views (Db m views x).1 (Db m views x).2.1:=by
 unfold Db
 split
 ·rename_i hc
  simp only [Bool.and_eq_true,decide_eq_true_eq,beq_iff_eq] at hc
  obtain ⟨⟨⟨hmo,h1⟩,h2⟩,h3⟩:=hc
  split
  ·rename_i he
   exact mY hv (by omega) hm h hx (S8.1 hmo) h1 he
  ·split
   ·rename_i hs
    simp only [Bool.and_eq_true,beq_iff_eq] at hs
    refine ⟨h.bare h2,fun y hy=>?_⟩
    simp only [List.mem_singleton] at hy
    subst hy
    refine ⟨fun h3=>absurd h3 (by decide:(2:Int)≠3),fun _=>h.ver.mono ?_,fun h5=>absurd h5 (by decide:(2:Int)≠5)⟩
    show _<=1000*x.2.2.2.1
    omega
   ·split
    ·rename_i hs
     simp only [Bool.and_eq_true,beq_iff_eq] at hs
     exact ⟨V1.inst (hx.old (.inr hs.1.1)) ⟨h3,hs.1.2⟩,V2.reply (.inl rfl)⟩
    ·exact .same h
 ·exact .same h
theorem km {view:List Int} {i v:Int} (h:v∈B7 view i):v≠i:=by
 have:=(List.mem_filter.1 h).2
 simpa using this
theorem ko {views:List (List Int)} {m:X} {op call:Int} {key val:ByteArray} (hm:Il m) (h:V1 views m) (hb:(GP m views op call key val).2.2.2=true) :
  V4 views (GP m views op call key val).1 (GP m views op call key val).2.1:=by
 have hcnt:=hm.count
 unfold GP at hb ⊢
 split at hb
 ·rename_i hmay
  rw [if_pos hmay]
  obtain ⟨h1,h2,h3,h4,h5,h6,h7,h8,h9,h10⟩:=S_ hmay
  split at hb
  ·cases hb
  ·rename_i hn
   rw [if_neg hn]
   have ht:V1 views (MO m (views.getD (m.2.1-1).toNat []) op call key val):=by
    refine ⟨h.lead,h.ver,fun a b=>(h.own a b).mono ?_,fun _=>?_,h.view⟩
    ·show _<=1000*m.2.1+(m.2.2.2.2.2.2.2.2.1+1); omega
    ·show 1000*m.2.1+(m.2.2.2.2.2.2.2.2.1+1)<=1000*m.2.1+(m.2.2.2.2.2.2.2.2.1+1); omega
   unfold Ue
   split
   ·exact ⟨ht.finish (by show m.2.2.2.2.2.2.2.2.1+1<=900; omega) (by show op≠0; omega),fj⟩
   ·refine ⟨ht,fun y hy=>?_⟩
    obtain ⟨v,hv,rfl⟩:=List.mem_map.1 hy
    have hne:=km hv
    by_cases ho:op=1
    ·rw [if_pos ho,if_pos ho]
     refine ⟨fun h3=>absurd h3 (by decide:(5:Int)≠3),fun h=>absurd h (by decide:¬ ((5:Int)=2\/(5:Int)=3)),fun _=>⟨fun e=>hne (e.trans ?_),fun z hz=>?_⟩⟩
     ·exact h10
     ·simp only [List.mem_singleton] at hz
      subst hz
      show 1000*m.2.1+(m.2.2.2.2.2.2.2.2.1+1)<=1000*m.2.1+900
      omega
    ·rw [if_neg ho,if_neg ho]
     exact V2.plain (by decide:(7:Int)≠2) (by decide:(7:Int)≠3) (by decide:(7:Int)≠5)
 ·cases hb
theorem kq {views:List (List Int)} {m:X} {e:Int} (hvo:Rc views) (h:V1 views m) (hb:(E2 m views e).2.2=true):V4 views (E2 m views e).1 (E2 m views e).2.1:=by
 unfold E2 at hb ⊢
 split at hb
 ·rename_i hc
  rw [if_pos hc]
  have hv:Jl m.2.2.2.2.2.2.2.1 (1000*e):=h.ver.mono (by omega)
  have hn:V1 views (Na m e):=⟨fun _=>⟨hc.2.1,hc.2.2.2⟩,hv.mono (by show _<=1000*e+900; omega),fun _ h=>(by cases h),fun h=>absurd rfl h,fun h=>(by cases h)⟩
  split
  ·exact ⟨V1.has hvo (by show 1<=e; omega) rfl hn (by show (0:Int)<=0; omega) hv,V2.insts hv⟩
  ·refine ⟨hn,fun y hy=>?_⟩
   obtain ⟨v,hv,rfl⟩:=List.mem_map.1 hy
   exact V2.plain (by decide:(1:Int)≠2) (by decide:(1:Int)≠3) (by decide:(1:Int)≠5)
 ·cases hb
theorem V1.fall {views:List (List Int)} {m:X}:V1 views (RB m):=⟨fun h=>(by cases h),XI,fun h=>(by cases h),fun h=>absurd rfl h,fun h=>(by cases h)⟩
theorem V1.first {views:List (List Int)} {i:Int} (hv:Rc views):V1 views (D1 i views):=by
 have:=hv.len
 refine ⟨fun h=>⟨by show (1:Int)<=_; omega,?_⟩,XI,fun _ _=>XI,fun h=>absurd rfl h,fun h=>⟨by show (1:Int)<=_; omega,h⟩⟩
 exact beq_iff_eq.1 h
structure V3 (g:AQ):Prop where
 mem:∀ i,i<6->V1 g.1 (CJ g i)
 fly:∀ x∈g.2.2.1,V2 g.1 x
 calls:∀ c∈g.2.2.2,c.2.2.2.2.1=-1\/0<=c.2.2.2.2.1
theorem fE {at_:Int} (ha:0<=at_) (s:E4) {cs:List LN} (h:∀ c∈cs,c.2.2.2.2.1=-1\/0<=c.2.2.2.2.1):∀ c∈LO at_ cs s,c.2.2.2.2.1=-1\/0<=c.2.2.2.2.1:=by
 unfold LO
 split
 ·exact h
 ·intro c hc
  rcases List.mem_or_eq_of_mem_set hc with e | e
  ·exact h c e
  ·rw [e]; exact .inr ha
theorem Xm {at_:Int} (ha:0<=at_):∀ (said:List E4) {cs:List LN},(∀ c∈cs,c.2.2.2.2.1=-1\/0<=c.2.2.2.2.1)->∀ c∈said.foldl (LO at_) cs,c.2.2.2.2.1=-1\/0<=c.2.2.2.2.1
 | [],_,h=>h
 | s::l,_,h=>Xm ha l (fE ha s h)
theorem V3.member {g:AQ} (h:V3 g) (h6:g.2.1.length=6) {n:X} {told:List By} {said:List E4} {at_:Int} {i:Nat} (ha:0<=at_) (hi:i<6) (hid:n.1=(i:Int)+1) (hn:V4 g.1 n told):V3 (Az g n told said at_):=by
 refine ⟨fun j hj=>?_,fun x hx=>?_,Xm ha said h.calls⟩
 ·rw [Z_ h6 hj hid hi]
  split
  ·exact hn.1
  ·exact h.mem j hj
 ·rcases List.mem_append.1 hx with h1 | h1
  ·exact h.fly x h1
  ·exact hn.2 x h1
theorem V3.less {g:AQ} (h:V3 g) (i:Nat):V3 (EQ g i):=⟨h.mem,fun x hx=>by
 rcases List.mem_append.1 hx with h1 | h1
 ·exact h.fly x (List.mem_of_mem_take h1)
 ·exact h.fly x (List.mem_of_mem_drop h1),h.calls⟩
theorem V3.call {g:AQ} (h:V3 g) (at_:Int) (e:EO):V3 (Gu g at_ e):=⟨h.mem,h.fly,fun c hc=>by
 rcases List.mem_append.1 hc with h1 | h1
 ·exact h.calls c h1
 ·simp only [List.mem_singleton] at h1
  rw [h1]; exact .inl rfl⟩
theorem V3.adopt {g:AQ} {k:Nat} (h:V3 g) (hg:MP g k) {at_ node:Int} (ha:0<=at_) (hn:1<=node/\node<=6):∀ (n:Nat) (e:Int),V3 (IN g at_ (CJ g (node-1).toNat) node n e).2
 | 0,_=>h
 | n+1,e=>by
  unfold IN
  split
  ·exact V3.adopt h hg ha hn n (e+1)
  ·split
   ·rename_i hb
    obtain ⟨m1,m2⟩:=hg.mem (node-1).toNat (by omega)
    have hao:=TA (e:=e) m1 hg.views hb
    exact h.member hg.six (i:=(node-1).toNat) ha (by omega) (by rw [hao.2.1,m2]) (kq hg.views (h.mem _ (by omega)) hb)
   ·exact h
theorem V3.event {g:AQ} {k:Nat} (h:V3 g) (hg:MP g k) {at_:Int} (ha:0<=at_) {e:EO} (he:XE e=true):V3 (dI g at_ e).2:=by
 have hn:=Yl he
 unfold dI
 split
 ·unfold Lo
  split
  ·rename_i hb
   obtain ⟨m1,m2⟩:=hg.mem (e.2.1-1).toNat (by omega)
   have hbo:=XH (op:=e.2.2.2.1) (call:=(g.2.2.2.length:Int)) (key:=e.2.2.2.2.1) (val:=e.2.2.2.2.2) m1 hg.views
   exact (h.call at_ e).member (g:=Gu g at_ e) hg.six (i:=(e.2.1-1).toNat) ha (by omega) (by rw [hbo.id hb,m2]) (ko m1 (h.mem _ (by omega)) hb)
  ·exact h.call at_ e
 ·split
  ·exact h.adopt hg ha (by omega) _ _
  ·split
   ·obtain ⟨m1,m2⟩:=hg.mem (e.2.1-1).toNat (by omega)
    exact h.member hg.six (i:=(e.2.1-1).toNat) ha (by omega) m2 ⟨V1.fall,fj⟩
   ·unfold au
    split
    ·exact h
    ·rename_i hne
     have hl:0<g.2.2.1.length:=by
      cases hq:g.2.2.1 with
      | nil=>exact absurd hq hne
      | cons a l=>simp
     have hlt:(e.2.2.1 % (g.2.2.1.length:Int)).toNat<g.2.2.1.length:=by
      have h1:=Int.emod_lt_of_pos e.2.2.1 (show (0:Int)<(g.2.2.1.length:Int) by omega)
      have h2:=Int.emod_nonneg e.2.2.1 (show (g.2.2.1.length:Int)≠0 by omega)
      omega
     have hmem:g.2.2.1.getD (e.2.2.1 % (g.2.2.1.length:Int)).toNat EP∈g.2.2.1:=by
      rw [AY hlt]
      exact List.getElem_mem _
     split
     ·refine ⟨h.mem,fun x hx=>?_,h.calls⟩
      rcases List.mem_append.1 hx with h1 | h1
      ·exact h.fly x h1
      ·simp only [List.mem_singleton] at h1
       rw [h1]
       exact h.fly _ hmem
     ·split
      ·exact h.less _
      ·have hto:=(hg.fly _ hmem).to
       generalize hx:g.2.2.1.getD (e.2.2.1 % (g.2.2.1.length:Int)).toNat EP=x at *
       obtain ⟨m1,m2⟩:=hg.mem (x.2.2.1-1).toNat (by omega)
       exact (h.less _).member (g:=EQ g (e.2.2.1 % (g.2.2.1.length:Int)).toNat) hg.six (i:=(x.2.2.1-1).toNat) ha (by omega) (by rw [(NS (x:=x) m1 hg.views).id,m2]) (jE hg.views m1 (h.mem _ (by omega)) (h.fly _ hmem))
theorem V3.new {views:List (List Int)} (hv:Rc views):V3 (Ap views):=by
 refine ⟨fun i hi=>?_,(fun x hx=>by cases hx),fun x hx=>by cases hx⟩
 have h5:i=0\/i=1\/i=2\/i=3\/i=4\/i=5:=by omega
 rcases h5 with rfl | rfl | rfl | rfl | rfl | rfl<;>exact V1.first hv

theorem V_ (a b:Int):JQ a b=some (decide (a<b)):=Z1 (by
 have h:∀ a,Hp a=some false:=fun a=>YU (by unfold RA; simp)
 unfold Sd
 rw [h,Option.bind_some,if_neg (by simp)])
def dA (l:List Int) (j:Nat):List Int:=(l.set (j+1) (l.getD j 0)).set j (l.getD (j+1) 0)
def jF:Nat->List Int->List Int
 | 0,l=>l
 | j+1,l=>if l.getD (j+1) 0<l.getD j 0 then jF j (dA l j) else l
def mG:Nat->Nat->List Int->List Int
 | 0,_,l=>l
 | k+1,i,l=>mG k (i+1) (jF i l)
theorem WA (l:List Int) (j:Nat):(dA l j).length=l.length:=by simp [dA]
theorem Ym:∀ (j:Nat) (l:List Int),(jF j l).length=l.length
 | 0,l=>rfl
 | j+1,l=>by
  unfold jF
  split
  ·rw [Ym j,WA]
  ·rfl
theorem g7 {l:List Int} {j:Nat} (h:j+1<l.length):(dA l j).Perm l:=by
 obtain ⟨p,a,b,q,rfl,rfl⟩:∃ p a b q,l=p++a::b::q/\p.length=j :=
  ⟨l.take j,l[j],l[j+1],l.drop (j+2),by rw [<- List.drop_eq_getElem_cons h,<- List.drop_eq_getElem_cons (show j<l.length by omega),List.take_append_drop],by rw [List.length_take]; omega⟩
 have e:dA (p++a::b::q) p.length=p++b::a::q:=by
  unfold dA
  have e1:(p++a::b::q).getD p.length 0=a:=by simp [List.getD]
  have e2:(p++a::b::q).getD (p.length+1) 0=b:=by simp [List.getD]
  rw [e1,e2,List.set_append_right _ _ (by omega),List.set_append_right _ _ (by omega)]
  simp
 rw [e]
 exact List.Perm.append_left p (List.Perm.swap a b q)
theorem eB:∀ (j:Nat) (l:List Int),j<l.length->(jF j l).Perm l
 | 0,l,_=>List.Perm.refl l
 | j+1,l,h=>by
  unfold jF
  split
  ·exact (eB j _ (by rw [WA]; omega)).trans (g7 h)
  ·exact List.Perm.refl l
theorem aB:∀ (k i:Nat) (l:List Int),i+k=l.length->(mG k i l).Perm l
 | 0,_,l,_=>List.Perm.refl l
 | k+1,i,l,h=>(aB k (i+1) _ (by rw [Ym]; omega)).trans (eB i l (by omega))
theorem fk {l:List Int} {j:Nat} (h:j+1<l.length) (a:Nat):(dA l j).getD a 0=if a=j then l.getD (j+1) 0 else if a=j+1 then l.getD j 0 else l.getD a 0:=by
 unfold dA
 simp only [List.getD_eq_getElem?_getD,List.getElem?_set,List.length_set]
 by_cases h1:a=j
 ·subst h1
  rw [if_pos rfl,if_pos (by omega),if_pos rfl]
  simp
 ·rw [if_neg (fun e=>h1 e.symm),if_neg h1]
  by_cases h2:a=j+1
  ·subst h2
   rw [if_pos rfl,if_pos (by omega),if_pos rfl]
   simp
  ·rw [if_neg (fun e=>h2 e.symm),if_neg h2]
def mA (i:Nat) (l:List Int):Prop:=∀ a b,a<b->b<=i->l.getD a 0<=l.getD b 0
theorem jG (i:Nat):∀ (j:Nat) (l:List Int),j<=i->i<l.length->(∀ a b,a<b->b<=i->b≠j->l.getD a 0<=l.getD b 0)->mA i (jF j l)
 | 0,l,_,_,h=>fun a b h1 h2=>h a b h1 h2 (by omega)
 | j+1,l,hj,hi,h=>by
  unfold jF
  split
  ·rename_i hlt
   refine jG i j _ (by omega) (by rw [WA]; exact hi) fun a b h1 h2 h3=>?_
   rw [fk (by omega),fk (by omega)]
   rw [if_neg h3]
   by_cases hb:b=j+1
   ·subst hb
    rw [if_pos rfl]
    by_cases ha:a=j
    ·rw [if_pos ha]; omega
    ·rw [if_neg ha,if_neg (by omega)]
     exact h a j (by omega) (by omega) (by omega)
   ·rw [if_neg hb]
    by_cases ha:a=j
    ·rw [if_pos ha]; exact h (j+1) b (by omega) h2 hb
    ·rw [if_neg ha]
     by_cases ha2:a=j+1
     ·rw [if_pos ha2]; exact h j b (by omega) h2 hb
     ·rw [if_neg ha2]; exact h a b h1 h2 hb
  ·rename_i hlt
   intro a b h1 h2
   by_cases hb:b=j+1
   ·subst hb
    by_cases ha:a=j
    ·subst ha; omega
    ·have:=h a j (by omega) (by omega) (by omega)
     omega
   ·exact h a b h1 h2 hb
theorem jH:∀ (k i:Nat) (l:List Int),i+k=l.length->1<=i->mA (i-1) l->mA (l.length-1) (mG k i l)
 | 0,i,l,h,hi,hu=>by
  have:i-1=l.length-1:=by omega
  rw [<- this]; exact hu
 | k+1,i,l,h,hi,hu=>by
  have:=jH k (i+1) (jF i l) (by rw [Ym]; omega) (by omega) (by
   rw [Nat.add_sub_cancel]
   exact jG i i l (Nat.le_refl _) (by omega) fun a b h1 h2 h3=>hu a b h1 (by omega))
  rw [Ym] at this
  exact this
theorem fm (n i:Nat) (hn:n<=12) (g:List Int->List Int) (K:∀ l:List Int,l.length=n->Ak 0 (n:Int) ((i:Int)+1) l=some (g l)) (hi:i<n) :
  ∀ (j:Nat) (l:List Int),j<n->l.length=n->BY 0 (n:Int) (i:Int) (j:Int) l=some (g (jF j l))
 | 0,l,hj,hl=>Dp (by
  unfold CN
  rw [if_neg (by simp),Ay (by omega)]
  exact K l hl)
 | j+1,l,hj,hl=>Dp (by
  unfold CN
  have e1:IntKind.i64.wrap (((j+1:Nat):Int)-1)=(j:Int):=by rw [Ay (by omega)]; omega
  have e2:((j+1:Nat):Int).toNat=j+1:=by omega
  have e3:((j:Nat):Int).toNat=j:=by omega
  rw [if_pos (by simp<;>omega),if_pos (by omega),if_pos (by omega),e1,if_pos (by omega),if_pos (by omega),V_,Option.bind_some,e2,e3]
  unfold jF
  by_cases h:l.getD (j+1) 0<l.getD j 0
  ·rw [if_pos (by simpa using h),if_pos h]
   refine HV ?_
   unfold Do
   simp only [e1,e2,e3]
   rw [if_pos (by omega),if_pos (by omega),if_pos (by omega),if_pos (by omega),if_pos (by omega),if_pos (by omega),if_pos (by omega),if_pos (by rw [List.length_set]; omega)]
   exact fm n i hn g K hi j (dA l j) (by omega) (by rw [WA]; exact hl)
  ·rw [if_neg (by simpa using h),if_neg h,Ay (by omega)]
   exact K l hl)
theorem fo (n:Nat) (hn:n<=12):∀ (k i:Nat) (l:List Int),i+k=n->l.length=n->Ak 0 (n:Int) (i:Int) l=some (mG k i l)
 | 0,i,l,h,hl=>CO (by
  unfold BZ
  rw [if_neg (by simp; omega)]
  rfl)
 | k+1,i,l,h,hl=>CO (by
  unfold BZ
  rw [if_pos (by simp; omega)]
  exact fm n i hn (mG k (i+1)) (fun l hl=>by have:=fo n hn k (i+1) l (by omega) hl; rw [<- this]; congr 1) (by omega) i l (by omega) hl)
set_option maxRecDepth 100000 in
theorem mB (n:Nat) (h:n<=12):∃ r,LX (IntKind.u64.wrap (n:Int))=some r:=by
 have h1:∃ r,Ew (n:Int) 0=some r:=by
  have hs:IntKind.u8.wrap (n:Int)=(n:Int):=by
   have:n=0\/n=1\/n=2\/n=3\/n=4\/n=5\/n=6\/n=7\/n=8\/n=9\/n=10\/n=11\/n=12:=by omega
   rcases this with h | h | h | h | h | h | h | h | h | h | h | h | h<;>subst h<;>rfl
  have ht:∃ r,Gr (n:Int) 0=some r:=by
   unfold Gr
   rw [if_neg (by simp; omega),if_pos (by rw [hs]; omega),if_pos (by
    rw [hs]
    exact Int.lt_of_lt_of_le (show (n:Int)<13 by omega) (by decide))]
   exact ⟨_,rfl⟩
  obtain ⟨r,hr⟩:=ht
  exact ⟨r,Se hr⟩
 obtain ⟨r,hr⟩:=h1
 have h2:JR (n:Int)=some r:=V5 (by
  unfold OB
  rw [if_neg (by simp; omega)]
  exact Sf (by
   unfold LK
   rw [if_neg (by simp; omega)]
   exact hr))
 have hu:IntKind.u64.wrap (n:Int)=(n:Int):=by
  have:n=0\/n=1\/n=2\/n=3\/n=4\/n=5\/n=6\/n=7\/n=8\/n=9\/n=10\/n=11\/n=12:=by omega
  rcases this with h | h | h | h | h | h | h | h | h | h | h | h | h<;>subst h<;>rfl
 exact ⟨r,YT (by unfold Q_; rw [hu,h2]; rfl)⟩
theorem fp (l:List Int) (h:l.length<=12):∃ r,CT l=some r/\r.Perm l/\r.Pairwise (· <= ·):=by
 obtain ⟨b,hb⟩:=mB l.length h
 have hins:∃ r,Cn 0 (l.length:Int) l=some r/\r.Perm l/\r.Pairwise (· <= ·):=by
  by_cases h0:l.length=0
  ·have:l=[]:=List.length_eq_zero_iff.1 h0
   subst this
   refine ⟨[],Ea ?_,List.Perm.refl _,List.Pairwise.nil⟩
   unfold Co
   refine CO ?_
   unfold BZ
   rw [if_neg (by rw [Ay (by omega)]; simp)]
  ·refine ⟨mG (l.length-1) 1 l,Ea ?_,aB _ _ _ (by omega),?_⟩
   ·unfold Co
    rw [Ay (by omega)]
    exact fo l.length h (l.length-1) 1 l (by omega) rfl
   ·have hu:=jH (l.length-1) 1 l (by omega) (Nat.le_refl _) (fun a b h1 h2=>by omega)
    have hp:=(aB (l.length-1) 1 l (by omega)).length_eq
    rw [List.pairwise_iff_getElem]
    intro i j hi hj hij
    have:=hu i j hij (by omega)
    rwa [AY hi,AY hj] at this
 obtain ⟨r,h1,h2,h3⟩:=hins
 refine ⟨r,RV ?_,h2,h3⟩
 unfold J_
 have hq:B4 0 (l.length:Int) b l=some r:=Mf (by
  unfold GZ
  refine Kb ?_
  unfold FR
  rw [if_pos (by rw [Ay (by omega)]; simp; omega),h1]
  rfl)
 rw [hb,Option.bind_some,hq]
 rfl
theorem fq:∀ {a b:List Int},a.Pairwise (· < ·)->b.Pairwise (· < ·)->(∀ x,x∈a↔x∈b)->a=b
 | [],[],_,_,_=>rfl
 | [],y::b,_,_,h=>absurd ((h y).2 (by simp)) (by simp)
 | x::a,[],_,_,h=>absurd ((h x).1 (by simp)) (by simp)
 | x::a,y::b,ha,hb,h=>by
  rw [List.pairwise_cons] at ha hb
  have hxy:x=y:=by
   have h1:=(h x).1 (by simp)
   have h2:=(h y).2 (by simp)
   rcases List.mem_cons.1 h1 with e | h1
   ·exact e
   ·rcases List.mem_cons.1 h2 with e | h2
    ·exact e.symm
    ·have:=ha.1 y h2
     have:=hb.1 x h1
     omega
  subst hxy
  rw [fq ha.2 hb.2 fun z=>?_]
  constructor
  ·intro hz
   rcases List.mem_cons.1 ((h z).1 (by simp [hz])) with e | h
   ·subst e; have:=ha.1 z hz; omega
   ·exact h
  ·intro hz
   rcases List.mem_cons.1 ((h z).2 (by simp [hz])) with e | h
   ·subst e; have:=hb.1 z hz; omega
   ·exact h
theorem aC {view:List Int} {id x:Int} (hv:kg view):x∈EN view id↔x∈B7 view id:=by
 unfold EN B7
 simp only [List.mem_filter,Bool.and_eq_true,List.contains_eq_mem,decide_eq_true_eq]
 constructor
 ·rintro ⟨_,h1,h2⟩; exact ⟨h2,h1⟩
 ·rintro ⟨h1,h2⟩
  have:=hv.mem x h1
  refine ⟨?_,h2,h1⟩
  have h5:x=1\/x=2\/x=3\/x=4\/x=5\/x=6:=by omega
  rcases h5 with h | h | h | h | h | h<;>simp [h]
theorem XJ {view:List Int} (hv:kg view) (id:Int):CT (B7 view id)=some (EN view id):=by
 have hl:=Fu view id
 have:=hv.len
 obtain ⟨r,h1,h2,h3⟩:=fp (B7 view id) (by omega)
 rw [h1]
 congr 1
 have hnd:r.Nodup:=h2.nodup_iff.2 (hv.nd.filter _)
 refine fq ?_ (P5 view id).2 fun x=>(h2.mem_iff).trans (aC hv).symm
 have:=h3.and (List.nodup_iff_pairwise_ne.1 hnd)
 exact this.imp fun {a b} h=>by have:=h.1; have:=h.2; omega
theorem Xn {view:List Int} (hv:kg view) (id:Int):(EN view id).length=(B7 view id).length:=by
 obtain ⟨r,h1,h2,_⟩:=fp (B7 view id) (by have:=Fu view id; have:=hv.len; omega)
 rw [XJ hv] at h1
 cases h1
 exact h2.length_eq

theorem OE (x:List Int) (n:Int) (h:x.length<=maxLen):Bk x n=some (x.contains n):=NW (by
 have hm:x.length<=9223372036854775807:=h
 have key:=NZ (n:=x.length) (P:=fun i=>∃ r,CL x n (x.length:Int) (i:Int)=some r/\(decide (r>=0)=(x.drop i).contains n)) ⟨-1,Bl (by
  unfold BL
  rw [if_neg (by simp)]),by simp⟩ (fun i hi ⟨r,hr,hc⟩=>by
  by_cases e:n=x[i]
  ·refine ⟨(i:Int),Bl ?_,?_⟩
   ·unfold BL
    simp only [show ((i:Int)<(x.length:Int)) from by omega,decide_true,if_true,show (0:Int)<=(i:Int) from by omega,Int.toNat_natCast,AY hi]
    rw [if_pos (by simpa using e)]
   ·rw [ED hi,List.contains_cons,e]
    simp only [beq_self_eq_true,Bool.true_or]
    exact decide_eq_true (by omega)
  ·refine ⟨r,Bl ?_,?_⟩
   ·unfold BL
    simp only [show ((i:Int)<(x.length:Int)) from by omega,decide_true,if_true,show (0:Int)<=(i:Int) from by omega,Int.toNat_natCast,AY hi,Ad (show i<9223372036854775807 by omega)]
    rw [if_neg (by simpa using e)]
    exact hr
   ·rw [ED hi,hc,List.contains_cons]
    simp [e]) 0 (by omega)
 obtain ⟨r,hr,hc⟩:=key
 unfold HD
 have:Cs x n=some r:=Jf hr
 rw [this,Option.bind_some,hc,List.drop_zero])
theorem Sn (m:X) (h1:m.2.2.2.2.2.2.1.length<=68719476736) (h2:m.2.2.2.2.2.2.2.1.length<=68719476736) (h3:m.2.2.2.2.2.2.2.2.2.2.2.2.2.length<=68719476736):CR m=some m:=Vq (by
 unfold N6
 rw [CH h1,Option.bind_some,Ao h2,Option.bind_some,CH h3,Option.bind_some])
theorem Il.icopy {m:X} (h:Il m):CR m=some m:=by
 obtain ⟨h1,h2,h3⟩:=h.lens
 exact Sn m (by omega) (by omega) (by omega)
theorem Jm (x:By) (h:x.2.2.2.2.2.length<=68719476736):FK x=some x:=Zu (by
 unfold SU
 rw [Ao h,Option.bind_some])
theorem Kf (view:List Int) (m:X) (h:view.length<=68719476736):Bi view m=some (B7 view m.1,m):=SZ (by
 unfold LH
 have key:=NZ (n:=view.length) (P:=fun i=>∀ acc:List Int,acc.length<=i->Cl view (view.length:Int) (i:Int) m acc=some (acc++(view.drop i).filter (· != m.1),m)) (fun acc ha=>Ig (by
  unfold FO
  rw [if_neg (by simp)]
  simp)) (fun i hi ih acc ha=>Ig (by
  unfold FO
  simp only [show ((i:Int)<(view.length:Int)) from by omega,decide_true,if_true,show (0:Int)<=(i:Int) from by omega,Int.toNat_natCast,AY hi,Ad (show i<9223372036854775807 by omega)]
  rw [ED hi,List.filter_cons]
  by_cases hh:(view[i] != m.1)=true
  ·rw [if_pos hh,if_pos (by simp; omega),ih _ (by simp; omega),if_pos hh,List.append_assoc]
   rfl
  ·rw [if_neg hh,ih _ (by omega),if_neg hh])) 0 (by omega) [] (by simp)
 exact key)
def fu (m:X) (ids:List Int) (x:By):List By:=ids.map fun v=>(x.1,m.1,v,m.2.1,x.2.2.2.2)
theorem B6 (ids:List Int) (x:By) (m:X) (h:ids.length<=68719476736) (hx:x.2.2.2.2.2.length<=68719476736):Ab ids x m=some (fu m ids x,m):=RW (by
 unfold KB
 have key:=NZ (n:=ids.length) (P:=fun i=>∀ acc:List By,acc.length<=i->DN ids (ids.length:Int) (i:Int) m x acc=some (acc++(ids.drop i).map (fun v=>(x.1,m.1,v,m.2.1,x.2.2.2.2)),m)) (fun acc ha=>Hd (by
  unfold E1
  rw [if_neg (by simp)]
  simp)) (fun i hi ih acc ha=>Hd (by
  unfold E1
  simp only [show ((i:Int)<(ids.length:Int)) from by omega,decide_true,if_true,show (0:Int)<=(i:Int) from by omega,Int.toNat_natCast,AY hi,Ad (show i<9223372036854775807 by omega)]
  rw [Jm x hx,Option.bind_some,if_pos (by simp; omega),ih _ (by simp; omega),ED hi,List.map_cons,List.append_assoc]
  rfl)) 0 (by omega) [] (by simp)
 exact key)
def mr (m:X):X:=(m.1,m.2.1,m.2.2.1,m.2.2.2.1,false,false,([]:List Int),m.2.2.2.2.2.2.2.1,(0:Int),(0:Int),(0:Int),(0:Int),(ByteArray.empty,ByteArray.empty,(0:Int)),([]:List Int))
theorem OT (m:X):Er m=some (mr m):=Vy rfl
theorem NT (view:List Int) (its:List AH) (m:X) (hv:kg view) (hi:its.length<=68719476736) (hs:m.2.2.2.2.2.1=false) :
  Ct view its m=some ((B7 view m.1).map (fun v=>(3,m.1,v,m.2.1,0,its)),Ub m view its):=P2 (by
 have hvl:=hv.len
 have hrl:=Fu view m.1
 unfold Jh
 rw [Kf view m (by omega),Option.bind_some,Ao hi,Option.bind_some,CH (by show (B7 view m.1).length<=_; omega),Option.bind_some,XJ hv,Option.bind_some]
 have ho:=Xn hv m.1
 unfold Ub
 rw [ho]
 by_cases h0:(B7 view m.1).length=0
 ·rw [if_pos (by simpa using h0),B6 _ _ _ (by show (B7 view m.1).length<=_; omega) hi,Option.bind_some,h0]
  rfl
 ·rw [if_neg (by simpa using h0),B6 _ _ _ (by show (B7 view m.1).length<=_; omega) hi,Option.bind_some]
  have:(((B7 view m.1).length:Int)==0)=false:=by simpa using h0
  rw [this]
  show some (_,(m.1,m.2.1,m.2.2.1,true,m.2.2.2.2.1,m.2.2.2.2.2.1,_))=_
  rw [hs]
  rfl)
theorem OF (v:List Int) (x:Int) (h:v.length<=68719476736):JO v x=some (v.filter (· != x)):=Zz (by
 unfold Sa
 rw [CH h,Option.bind_some,Me,Option.bind_some]
 rfl)
theorem So (m:X) (h:m.2.2.2.2.2.2.2.1.length<=34359738367):Fn m=some (Bq m):=UW (by
 unfold NO Bq
 rw [OC _ _ h,PE _ _ (by unfold maxLen; omega)]
 split
 ·rw [Option.bind_some]
  refine KA ?_
  unfold GN
  rfl
 ·rw [Option.bind_some]
  refine KA ?_
  unfold GN
  rfl)
def jI (m:X) (views:List (List Int)) (x:By):List By×X :=
 if (x.2.2.2.1==m.2.1+1&&m.2.2.2.1&&(views.getD (m.2.1-1).toNat []).contains m.1)=true then ([(2,m.1,x.2.1,x.2.2.2.1,0,m.2.2.2.2.2.2.2.1)],Sj m x.2.2.2.1) else ([],m)
theorem aD (m:X) (views:List (List Int)) (x:By) (hm:Il m) (hv:Rc views) (he:m.2.1<=views.length) :
  IC views x m=some (jI m views x):=UX (by
 have hvl:=hv.len
 have hep:=hm.ep
 obtain ⟨l1,l2,l3⟩:=hm.lens
 have hf:m.2.2.2.1=true->m.2.2.1=false:=fun h=>by
  cases hh:m.2.2.1 with
  | false=>rfl
  | true=>rw [(hm.fell hh).1] at h; cases h
 unfold NP jI
 rw [Ay (n:=m.2.1+1) (by omega),Ay (n:=m.2.1-1) (by omega)]
 by_cases c1:x.2.2.2.1=m.2.1+1
 case neg=>rw [if_pos (by simpa using c1),if_neg (by simp [c1])]
 rw [if_neg (by simpa using c1)]
 by_cases c2:m.2.2.2.1=true
 case neg=>rw [if_pos (by simpa using c2),if_neg (by simp [c2])]
 rw [if_neg (by simpa using c2),if_pos (by omega),if_pos (by omega),OE _ _ (by have:=(hv.get (i:=(m.2.1-1).toNat) (by omega)).2; unfold maxLen; omega),Option.bind_some]
 cases c3:(views.getD (m.2.1-1).toNat []).contains m.1 with
 | false=>rw [if_pos (by rfl),if_neg (by simp)]
 | true =>
  rw [if_neg (by simp),if_pos (by simp [c1,c2])]
  exact RX (by
   unfold KD
   rw [OT,Option.bind_some,B6 _ _ _ (by simp) (by show m.2.2.2.2.2.2.2.1.length<=_; omega),Option.bind_some]
   show some (_,(m.1,x.2.2.2.1,m.2.2.1,_))=_
   rw [hf c2]
   rfl))
def jJ (m:X) (e:Int) (its:List AH):X:=(m.1,e,false,true,false,false,([]:List Int),its,(0:Int),(0:Int),(0:Int),(0:Int),(ByteArray.empty,ByteArray.empty,(0:Int)),([]:List Int))
def jK (m:X) (view:List Int) (x:By):List By×X :=
 if (!view.contains m.1||(view.getD 0 0==m.1))=true then ([],m)
 else if x.2.2.2.1>m.2.1\/(m.2.2.2.1=false/\m.2.2.1=false) then ([(4,m.1,x.2.1,x.2.2.2.1,0,([]:List AH))],jJ m x.2.2.2.1 x.2.2.2.2.2)
 else if m.2.2.2.1=false then ([],m) else ([(4,m.1,x.2.1,m.2.1,0,([]:List AH))],m)
theorem WB (m:X) (view:List Int) (x:By) (hv:kg view) (hx:x.2.2.2.2.2.length<=68719476736) :
  GF view x m=some (jK m view x):=RY (by
 have hvl:=hv.len
 unfold KE jK
 rw [OE _ _ (by unfold maxLen; omega),Option.bind_some]
 cases c3:view.contains m.1 with
 | false=>rw [if_pos (by rfl),if_pos (by rfl)]
 | true =>
  rw [if_neg (by simp),if_pos (by omega),if_pos (by omega)]
  by_cases c4:view.getD 0 0=m.1
  ·rw [if_pos (by simpa using c4),if_pos (by rw [c4]; simp)]
  ·rw [if_neg (by simpa using c4),if_neg (by have:(view.getD 0 0==m.1)=false:=(by simpa using c4); rw [this]; simp)]
   have J1:∀ b:Bool,CV b m x=some (if b=true then ([(4,m.1,x.2.1,x.2.2.2.1,0,([]:List AH))],jJ m x.2.2.2.1 x.2.2.2.2.2) else if m.2.2.2.1=false then ([],m) else ([(4,m.1,x.2.1,m.2.1,0,([]:List AH))],m)):=fun b=>OP (by
    unfold Hf
    cases b with
    | true =>
     rw [if_pos rfl,if_pos rfl,Ao hx,Option.bind_some,OT,Option.bind_some,B6 _ _ _ (by simp) (by simp),Option.bind_some]
     rfl
    | false =>
     simp only [Bool.false_eq_true,if_false]
     cases hb:m.2.2.2.1 with
     | false=>simp
     | true =>
      simp only [Bool.not_true,Bool.false_eq_true,if_false,Bool.true_eq_false]
      rw [B6 _ _ _ (by simp) (by simp),Option.bind_some]
      rfl)
   refine OQ ?_
   unfold Hg
   rw [J1,J1,J1]
   by_cases c5:x.2.2.2.1>m.2.1
   ·rw [if_pos (by simpa using c5)]
    simp [c5]
   ·rw [if_neg (by simpa using c5)]
    cases hb:m.2.2.2.1<;>cases hf:m.2.2.1<;>simp [c5])
def dB (m:X) (x:By):List By×X :=
 if (x.2.2.2.1==m.2.1&&m.2.2.2.1)=true then
  (if x.1=7 then ([(8,m.1,x.2.1,m.2.1,x.2.2.2.2.1,([]:List AH))],m)
  else ([(6,m.1,x.2.1,m.2.1,x.2.2.2.2.1,([]:List AH))],(m.1,m.2.1,m.2.2.1,m.2.2.2.1,m.2.2.2.2.1,m.2.2.2.2.2.1,m.2.2.2.2.2.2.1,Ai m.2.2.2.2.2.2.2.1 (x.2.2.2.2.2.getD 0 (ByteArray.empty,ByteArray.empty,(0:Int))),m.2.2.2.2.2.2.2.2)))
 else ([],m)
theorem YX (m:X) (x:By) (hm:m.2.2.2.2.2.2.2.1.length<=12) (h5:x.1≠7->0<x.2.2.2.2.2.length) :
  HK x m=some (dB m x):=TZ (by
 unfold ML dB
 by_cases c1:x.2.2.2.1=m.2.1
 case neg=>rw [if_pos (by simpa using c1),if_neg (by simp [c1])]
 rw [if_neg (by simpa using c1)]
 by_cases c2:m.2.2.2.1=true
 case neg=>rw [if_pos (by simpa using c2),if_neg (by simp [c2])]
 rw [if_neg (by simpa using c2),if_pos (by simp [c1,c2])]
 refine P3 ?_
 unfold Jj
 by_cases c7:x.1=7
 ·rw [if_pos (by simpa using c7),if_pos c7,B6 _ _ _ (by simp) (by simp),Option.bind_some]
  rfl
 ·have:=h5 c7
  rw [if_neg (by simpa using c7),if_neg c7,if_pos (by omega),if_pos (by omega),OC _ _ (by omega),Option.bind_some,B6 _ _ _ (by simp) (by simp),Option.bind_some]
  rfl)
theorem PI (m:X) (op:Int) (x:By) (hm:Il m) :
  Es op x m=some (if (x.2.2.2.1==m.2.1&&m.2.2.2.2.2.2.2.2.2.1==op&&m.2.2.2.2.2.2.2.2.2.2.2.1==x.2.2.2.2.1)=true then ((HB m x.2.1).2.2,(HB m x.2.1).1) else ([],m)):=Sb (by
 obtain ⟨l1,l2,l3⟩:=hm.lens
 unfold LI
 by_cases c1:x.2.2.2.1=m.2.1
 case neg=>rw [if_pos (by simpa using c1),if_neg (by simp [c1])]
 rw [if_neg (by simpa using c1)]
 by_cases c2:m.2.2.2.2.2.2.2.2.2.1=op
 case neg=>rw [if_pos (by simpa using c2),if_neg (by simp [c2])]
 rw [if_neg (by simpa using c2)]
 by_cases c3:m.2.2.2.2.2.2.2.2.2.2.2.1=x.2.2.2.2.1
 case neg=>rw [if_pos (by simpa using c3),if_neg (by simp [c3])]
 rw [if_neg (by simpa using c3),if_pos (by simp [c1,c2,c3])]
 refine PB ?_
 unfold Ij HB
 rw [OF _ _ (by omega),Option.bind_some]
 by_cases c4:(m.2.2.2.2.2.2.2.2.2.2.2.2.2.filter (· != x.2.1)).length=0
 ·rw [if_neg (by rw [c4]; decide),if_pos (by rw [c4]; decide),So _ (by show m.2.2.2.2.2.2.2.1.length<=_; omega)]
  rfl
 ·rw [if_pos (decide_eq_true (by omega)),if_neg (by rw [beq_iff_eq]; omega)]
  rfl)

def ax (x:By):By:=if x.1=3 then (x.1,x.2.1,x.2.2.1,x.2.2.2.1,0,x.2.2.2.2.2) else x
def Sp (m:X) (views:List (List Int)) (x:By):X×List By×List E4:=if Xk x=true then Db m views (ax x) else (m,[],[])
theorem jL (x:By):(ax x).2.2.1=x.2.2.1/\(ax x).2.2.2.1=x.2.2.2.1:=by unfold ax; split<;>exact ⟨rfl,rfl⟩
theorem TB {m:X} {views:List (List Int)} {x:By} (h:¬ (x.2.2.1=m.1/\m.2.1<=x.2.2.2.1/\x.2.2.2.1<=(views.length:Int)/\Xk x=true)):Sp m views x=(m,[],[]):=by
 unfold Sp
 split
 ·rename_i hx
  unfold Db
  rw [if_neg (by
   rw [(jL x).1,(jL x).2]
   simp only [Bool.and_eq_true,beq_iff_eq,decide_eq_true_eq]
   exact fun g=>h ⟨g.1.1.2,g.1.2,g.2,hx⟩)]
 ·rfl
theorem dC {x:By} (h:x.1≠3):ax x=x:=if_neg h
theorem jM {x:By} (h:x.1=3->x.2.2.2.2.1=0):ax x=x:=by
 unfold ax
 split
 ·rename_i e
  obtain ⟨a,b,c,d,e,f⟩:=x
  have:=h ‹_›
  dsimp only at this
  rw [this]
 ·rfl
theorem eC {m:X} {views:List (List Int)} {x:By} (hx:gx x) (h1:x.2.2.1=m.1) (h2:m.2.1<=x.2.2.2.1) (h3:x.2.2.2.1<=(views.length:Int)):Db m views x =
  (if x.2.2.2.1=m.2.1 then Uc m (views.getD (m.2.1-1).toNat []) x
  else if (x.1==1&&(x.2.2.2.1==m.2.1+1)&&m.2.2.2.1&&(views.getD (m.2.1-1).toNat []).contains m.1)=true then (Sj m x.2.2.2.1,[(2,m.1,x.2.1,x.2.2.2.1,0,m.2.2.2.2.2.2.2.1)],[])
  else if (x.1==3&&(views.getD (x.2.2.2.1-1).toNat []).contains m.1&&((views.getD (x.2.2.2.1-1).toNat []).getD 0 0 != m.1))=true then
   ((m.1,x.2.2.2.1,false,true,false,false,([]:List Int),x.2.2.2.2.2,(0:Int),(0:Int),(0:Int),(0:Int),(ByteArray.empty,ByteArray.empty,(0:Int)),([]:List Int)),Gt m x 4,[])
  else (m,[],[])):=by
 unfold Db
 rw [if_pos (by rw [S8.2 hx]; simp [h1,h2,h3])]
theorem WC {a:X} {b:List By} {c:List E4} {r:X×List By×List E4} (h:r=(a,b,c)):(b,c,a)=(r.2.1,r.2.2,r.1):=by rw [h]
theorem aE (m:X) (views:List (List Int)) (x:By) (hm:Il m) (hv:Rc views) (hx:gx x) (h1:x.2.2.1=m.1) (h2:m.2.1<=x.2.2.2.1) (h3:x.2.2.2.1<=(views.length:Int)) :
  H_ views x m=some ((Sp m views x).2.1,(Sp m views x).2.2,(Sp m views x).1):=UV (by
 have hvl:=hv.len
 have hep:=hm.ep
 have hxe:=hx.ep
 have hxi:=Mj hx.items
 obtain ⟨l1,l2,l3⟩:=hm.lens
 have hin:=eC hx h1 h2 h3
 unfold NN Sp
 rw [if_pos (S8.2 hx)]
 have hV:=hv.wok (i:=(m.2.1-1).toNat) (by omega)
 generalize hVe:views.getD (m.2.1-1).toNat []=V at hV hin
 have hk:=hx.kind
 by_cases k1:x.1=1
 ·rw [if_pos (by simpa using k1),aD m views x hm hv (by omega),Option.bind_some,dC (by omega)]
  congr 1
  apply WC
  rw [hin]
  unfold jI
  rw [hVe]
  by_cases e:x.2.2.2.1=m.2.1
  ·rw [if_pos e,if_neg (by rw [e]; simp; omega)]
   unfold Uc
   simp [k1]
  ·rw [if_neg e]
   cases hc:(x.2.2.2.1==m.2.1+1&&m.2.2.2.1&&V.contains m.1) with
   | true =>
    rw [if_pos (by rw [k1]; simpa using hc),if_pos rfl]
   | false =>
    rw [if_neg (by rw [k1]; simpa using hc),if_neg (by simp [k1]),if_neg (by simp)]
 rw [if_neg (by simpa using k1)]
 by_cases k2:x.1=2
 ·have J:∀ b:Bool,(b=true->m.2.2.2.1=false)->C9 views b m x=some (if b=true then ((B7 V m.1).map (fun v=>(3,m.1,v,m.2.1,0,x.2.2.2.2.2)),[],Ub m V x.2.2.2.2.2) else ([],[],m)):=fun b hb=>RR (by
   unfold J7
   cases b with
   | false=>rw [if_neg (by simp),if_neg (by simp)]
   | true =>
    have hs:m.2.2.2.2.2.1=false:=by
     cases hh:m.2.2.2.2.2.1 with
     | false=>rfl
     | true=>have:=(hm.serves hh).1; rw [hb rfl] at this; cases this
    rw [if_pos rfl,if_pos rfl,Ay (by omega),if_pos (by omega),if_pos (by omega),hVe,NT V _ m hV (by omega) hs,Option.bind_some])
  rw [if_pos (by simpa using k2),dC (by omega)]
  by_cases e:x.2.2.2.1=m.2.1
  ·rw [if_pos (by simpa using e)]
   have ho:Db m views x=(if (m.2.2.2.2.1&&!m.2.2.2.1)=true then (Ub m V x.2.2.2.2.2,(B7 V m.1).map (fun v=>(3,m.1,v,m.2.1,0,x.2.2.2.2.2)),[]) else (m,[],[])):=by
    rw [hin,if_pos e]; unfold Uc; rw [if_pos k2]
   rw [ho]
   cases hl:m.2.2.2.2.1 with
   | false=>rw [if_neg (by simp),J false (by simp),if_neg (by simp),if_neg (by simp)]
   | true =>
    rw [if_pos (by rfl),J _ (by simp)]
    cases hb:m.2.2.2.1 with
    | true=>rw [if_neg (by simp),if_neg (by simp)]
    | false=>rw [if_pos (by rfl),if_pos (by rfl)]
  ·rw [if_neg (by simpa using e),J false (by simp),if_neg (by simp)]
   congr 1
   apply WC
   rw [hin,if_neg e,if_neg (by simp [k2]),if_neg (by simp [k2])]
 rw [if_neg (by simpa using k2)]
 by_cases k3:x.1=3
 ·have hW:=hv.wok (i:=(x.2.2.2.1-1).toNat) (by omega)
  rw [if_pos (by simpa using k3),Ay (by omega),if_pos (by omega),if_pos (by omega)]
  have hx':gx (ax x):=by
   unfold ax
   rw [if_pos k3]
   exact ⟨hx.kind,hx.frm,hx.to,hx.ep,(show (0:Int)<=0/\(0:Int)<=1000000000 from by decide),hx.items,hx.shape⟩
  have hf:ax x=(x.1,x.2.1,x.2.2.1,x.2.2.2.1,0,x.2.2.2.2.2):=if_pos k3
  have hin2:=eC (m:=m) (views:=views) hx' (by rw [hf]; exact h1) (by rw [hf]; exact h2) (by rw [hf]; exact h3)
  rw [hVe] at hin2
  generalize hWe:views.getD (x.2.2.2.1-1).toNat []=Wv at hW
  rw [WB m Wv x hW (by omega),Option.bind_some]
  congr 1
  apply WC
  rw [hin2,hf]
  dsimp only
  rw [hWe]
  unfold jK
  by_cases e:x.2.2.2.1=m.2.1
  ·have hVW:Wv=V:=by rw [<- hWe,<- hVe,e]
   rw [if_pos e]
   unfold Uc
   rw [if_neg (by rw [k3]; decide),if_pos k3,hVW]
   dsimp only
   cases hc:(!V.contains m.1||(V.getD 0 0==m.1)) with
   | true=>simp only [if_true]
   | false =>
    simp only [Bool.false_eq_true,if_false]
    cases hb:m.2.2.2.1<;>cases hf2:m.2.2.1<;>simp [e,Gt,jJ]
  ·rw [if_neg e,if_neg (by rw [k3]; simp)]
   cases hc:(!Wv.contains m.1||(Wv.getD 0 0==m.1)) with
   | true =>
    rw [if_neg (by
     intro h
     simp only [Bool.and_eq_true,bne_iff_ne,Bool.or_eq_true,Bool.not_eq_true',beq_iff_eq] at h hc
     rcases hc with hc | hc
     ·rw [hc] at h; exact absurd h.1.2 (by simp)
     ·exact h.2 hc),if_pos rfl]
   | false =>
    rw [if_pos (by
     simp only [Bool.or_eq_false_iff,Bool.not_eq_false'] at hc
     rw [k3,hc.1]
     simpa using hc.2),if_neg (by simp),if_pos (Or.inl (by omega))]
    rfl
 rw [if_neg (by simpa using k3),dC k3]
 by_cases k4:x.1=4
 ·rw [if_pos (by simpa using k4)]
  have J:∀ b:Bool,EU b m x=some (if b=true then ([],[],(m.1,m.2.1,m.2.2.1,m.2.2.2.1,m.2.2.2.2.1,m.2.2.2.1&&(((m.2.2.2.2.2.2.1.filter (· != x.2.1)).length:Int)==0),m.2.2.2.2.2.2.1.filter (· != x.2.1),m.2.2.2.2.2.2.2)) else ([],[],m)):=fun b=>RS (by
   unfold J8
   cases b with
   | false=>rw [if_neg (by simp),if_neg (by simp)]
   | true =>
    rw [if_pos rfl,if_pos rfl,OF _ _ (by omega),Option.bind_some]
    cases hs:m.2.2.2.2.2.1 with
    | true =>
     obtain ⟨q1,q2,q3⟩:=hm.serves hs
     rw [if_neg (by simp),q3,q1]
     rfl
    | false =>
     rw [if_pos rfl]
     cases hq:(((m.2.2.2.2.2.2.1.filter (· != x.2.1)).length:Int)==0) with
     | true=>rw [if_pos rfl,Bool.and_true]
     | false=>rw [if_neg (by simp),Bool.and_false])
  by_cases e:x.2.2.2.1=m.2.1
  ·rw [if_pos (by simpa using e),J]
   have ho:Db m views x=(if m.2.2.2.2.1=true then
     ((m.1,m.2.1,m.2.2.1,m.2.2.2.1,m.2.2.2.2.1,m.2.2.2.1&&(((m.2.2.2.2.2.2.1.filter (· != x.2.1)).length:Int)==0),m.2.2.2.2.2.2.1.filter (· != x.2.1),m.2.2.2.2.2.2.2),[],[]) else (m,[],[])):=by
    rw [hin,if_pos e]; unfold Uc; rw [if_neg k2,if_neg k3,if_pos k4]
   rw [ho]
   cases hl:m.2.2.2.2.1 with
   | false=>rw [if_neg (by simp),if_neg (by simp)]
   | true=>rw [if_pos rfl,if_pos rfl]
  ·rw [if_neg (by simpa using e),J,if_neg (by simp)]
   congr 1
   apply WC
   rw [hin,if_neg e,if_neg (by simp [k4]),if_neg (by simp [k4])]
 rw [if_neg (by simpa using k4)]
 have st:x.1=5\/x.1=7->dB m x=((Db m views x).2.1,(Db m views x).1)/\(Db m views x).2.2=[]:=fun hk=>by
  rw [hin]
  unfold dB
  by_cases e:x.2.2.2.1=m.2.1
  ·rw [if_pos e]
   unfold Uc Gt
   rw [if_neg k2,if_neg k3,if_neg k4,e]
   cases hb:m.2.2.2.1 with
   | true =>
    rcases hk with hk | hk
    ·rw [if_pos (by simp),if_neg (by omega),if_pos hk,if_pos rfl]
     exact ⟨rfl,rfl⟩
    ·rw [if_pos (by simp),if_pos hk,if_neg (by omega),if_pos hk,if_pos rfl]
     exact ⟨rfl,rfl⟩
   | false =>
    rcases hk with hk | hk
    ·rw [if_neg (by simp),if_pos hk,if_neg (by simp)]
     exact ⟨rfl,rfl⟩
    ·rw [if_neg (by simp),if_neg (by omega),if_pos hk,if_neg (by simp)]
     exact ⟨rfl,rfl⟩
  ·simp [e,k1,k3]
 have sd:∀ op,x.1=6/\op=1\/x.1=8/\op=2->(if (x.2.2.2.1==m.2.1&&m.2.2.2.2.2.2.2.2.2.1==op&&m.2.2.2.2.2.2.2.2.2.2.2.1==x.2.2.2.2.1)=true then ((HB m x.2.1).2.2,(HB m x.2.1).1) else ([],m))=((Db m views x).2.2,(Db m views x).1)/\(Db m views x).2.1=[]:=fun op hk=>by
  have ht:(HB m x.2.1).2.1=[]:=by unfold HB; split<;>rfl
  rw [hin]
  by_cases e:x.2.2.2.1=m.2.1
  ·rw [if_pos e]
   unfold Uc
   rw [if_neg k2,if_neg k3,if_neg k4,if_neg (show ¬ x.1=5 by omega),if_neg (show ¬ x.1=7 by omega),e]
   have hop:(if x.1=8 then (2:Int) else 1)=op:=by
    rcases hk with ⟨h,h'⟩ | ⟨h,h'⟩
    ·rw [if_neg (by omega),h']
    ·rw [if_pos h,h']
   rw [hop]
   by_cases c1:m.2.2.2.2.2.2.2.2.2.1=op
   ·by_cases c2:m.2.2.2.2.2.2.2.2.2.2.2.1=x.2.2.2.2.1
    ·rw [if_pos (by simp [c1,c2]),if_pos ⟨by omega,c1,c2⟩]
     exact ⟨rfl,ht⟩
    ·simp [c2]
   ·simp [c1]
  ·simp [e,k1,k3]
 have h7:x.1≠7->x.1=5->0<x.2.2.2.2.2.length:=fun _ h5=>by
  have:=hx.shape
  rw [if_neg (by omega),if_pos h5] at this
  omega
 have J2:∀ b:Bool,(b=true↔x.1=5\/x.1=7)->EV x.1 b m x=some ((Db m views x).2.1,(Db m views x).2.2,(Db m views x).1):=fun b hb=>RU (by
  unfold J9
  cases b with
  | true =>
   have hk5:=hb.1 rfl
   obtain ⟨q1,q2⟩:=st hk5
   rw [if_pos rfl,YX m x l2 (fun h=>h7 h (by omega)),Option.bind_some,q1,q2]
  | false =>
   have hn:¬ (x.1=5\/x.1=7):=fun h=>by have:=hb.2 h; cases this
   rw [if_neg (by simp)]
   by_cases k6:x.1=6
   ·obtain ⟨q1,q2⟩:=sd 1 (.inl ⟨k6,rfl⟩)
    rw [if_pos (by simpa using k6),PI m 1 x hm,Option.bind_some,q1,q2]
   ·obtain ⟨q1,q2⟩:=sd 2 (.inr ⟨by omega,rfl⟩)
    rw [if_neg (by simpa using k6),if_pos (by rw [beq_iff_eq]; omega),PI m 2 x hm,Option.bind_some,q1,q2])
 by_cases k5:x.1=5
 ·rw [if_pos (by simpa using k5),J2 _ (by simp [k5])]
 ·rw [if_neg (by simpa using k5),J2 _ (by simp [k5])])
theorem IP {m:X} (h:Il m):Ed m=some true:=by
 obtain ⟨h1,h2,h3⟩:=h.lens
 rw [Ua m (by unfold maxLen; omega) (by unfold maxLen; omega) (by unfold maxLen; omega),kf.2 h]
theorem Ex {views:List (List Int)} (h:Rc views):DV views=some true:=by
 have:=h.len
 rw [V7 views (by unfold maxLen; omega) (fun a ha=>by have:=(h.view ha).2; unfold maxLen; omega),h.ok]
theorem WD (m:X) (views:List (List Int)) (x:By) (hm:Il m) (hv:Rc views) (hx:x.2.2.2.2.2.length<=68719476736) :
  JN m views x=some (Sp m views x):=Zv (by
 have hxm:x.2.2.2.2.2.length<=maxLen:=by unfold maxLen; omega
 unfold SV
 rw [hm.icopy,Option.bind_some]
 by_cases c1:x.2.2.1=m.1
 case neg=>rw [if_neg (by simpa using c1),TB (fun h=>c1 h.1)]
 rw [if_pos (by simpa using c1)]
 by_cases c2:x.2.2.2.1<m.2.1
 ·rw [if_neg (by simpa using c2),TB (fun h=>by omega)]
 rw [if_pos (by simpa using c2)]
 by_cases c3:x.2.2.2.1>(views.length:Int)
 ·rw [if_neg (by simpa using c3),TB (fun h=>by omega)]
 rw [if_pos (by simpa using c3),IP hm,Option.bind_some,if_pos (by rfl),Ex hv,Option.bind_some,if_pos (by rfl),YW x hxm,Option.bind_some]
 cases hmo:Xk x with
 | false=>rw [if_pos (by rfl),TB (fun h=>by rw [hmo] at h; cases h.2.2.2)]
 | true =>
  rw [if_neg (by simp)]
  have hx':=S8.1 hmo
  refine Vs ?_
  unfold N8
  have hok:Il (Sp m views x).1:=by
   unfold Sp
   rw [if_pos hmo]
   exact (NS hm hv).mok
  rw [aE m views x hm hv hx' c1 (by omega) (by omega),Option.bind_some,hok.icopy,Option.bind_some])

theorem ay (x:List Int):UB x=some (decide ((x.length:Int)>1048576)):=ew rfl
theorem az (m:X):Nx m=some (RB m):=dz rfl



def To (k:ByteArray) (b:AH):Bool:=b.1.toList==k.toList
theorem eD (k:ByteArray):∀ x:List AH,(x.filter (WM k)).length+(x.filter (cv k)).length+(x.filter (To k)).length=x.length
 | []=>rfl
 | b::x=>by
  have ih:=eD k x
  have hi:cv k b=!(WM k b||To k b):=rfl
  cases hl:WM k b with
  | true =>
   have hs:To k b=false:=by
    cases q:To k b with
    | false=>rfl
    | true =>
     have e:b.1.toList=k.toList:=by simpa [To] using q
     unfold WM at hl
     rw [e,S7] at hl
     cases hl
   simp only [List.filter_cons,hi,hl,hs,Bool.true_or,Bool.not_true,if_true,Bool.false_eq_true,if_false,List.length_cons]
   omega
  | false =>
   cases hs:To k b with
   | true =>
    simp only [List.filter_cons,hi,hl,hs,Bool.false_or,Bool.not_true,if_true,Bool.false_eq_true,if_false,List.length_cons]
    omega
   | false =>
    simp only [List.filter_cons,hi,hl,hs,Bool.or_false,Bool.not_false,if_true,Bool.false_eq_true,if_false,List.length_cons]
    omega
def Gv (x:List AH) (k:ByteArray):Bool:=x.any (To k)
theorem aF {x:List AH} {k:ByteArray}:Gv x k=true↔1<=(x.filter (To k)).length:=by
 unfold Gv
 rw [List.any_eq_true]
 constructor
 ·rintro ⟨b,hb,hs⟩
  exact List.length_pos_of_mem (List.mem_filter.2 ⟨hb,hs⟩)
 ·intro h
  obtain ⟨b,hb⟩:=List.exists_mem_of_length_pos h
  exact ⟨b,(List.mem_filter.1 hb).1,(List.mem_filter.1 hb).2⟩
theorem Sq {x:List AH} {k:ByteArray} (h:Gv x k=false):BI x k=(ByteArray.empty,ByteArray.empty,0):=by
 unfold BI
 have:x.find? (fun a=>a.1.toList==k.toList)=none:=by
  rw [List.find?_eq_none]
  intro b hb hs
  have:Gv x k=true:=List.any_eq_true.2 ⟨b,hb,hs⟩
  rw [h] at this
  cases this
 rw [this]
 rfl
theorem aG {x:List AH} {k:ByteArray} (h:Gv x k=true):BI x k∈x/\(BI x k).1.toList=k.toList:=by
 obtain ⟨b,hb,hs⟩:=List.any_eq_true.1 h
 unfold BI
 cases q:x.find? (fun a=>a.1.toList==k.toList) with
 | none =>
  rw [List.find?_eq_none] at q
  exact absurd hs (q b hb)
 | some c=>exact ⟨List.mem_of_find?_eq_some q,by simpa using List.find?_some q⟩
theorem jN {x:List AH} {k:ByteArray} (hx:BR x=true):RC (.pair .str (.pair .str (.int .i64))) (BI x k) (ByteArray.empty,ByteArray.empty,(0:Int))=!Gv x k:=by
 cases h:Gv x k with
 | false=>rw [Sq h]; exact eA _
 | true =>
  obtain ⟨h1,h2⟩:=aG h
  have h3:=(CS.1 hx).1 _ h1
  unfold Hu at h3
  simp only [Bool.and_eq_true,decide_eq_true_eq] at h3
  have h4:((BI x k).2.2==(0:Int))=false:=by
   rw [beq_eq_false_iff_ne]
   omega
  show ((BI x k).1.toList==_&&((BI x k).2.1.toList==_&&((BI x k).2.2==(0:Int))))=false
  rw [h4,Bool.and_false,Bool.and_false]
theorem fw {x:List AH} {a:AH} (hx:BR x=true) (ha:Hu a=true) (hv:Jl x (a.2.2-1)) :
  Ai x a=if x.length=12/\Gv x a.1=false then x else P4 x a:=by
 obtain ⟨h1,h2,h3⟩:=CS.1 hx
 have hs:bV x a=false:=by
  cases q:bV x a with
  | false=>rfl
  | true =>
   obtain ⟨b,hb,hc⟩:=List.any_eq_true.1 q
   simp only [Bool.and_eq_true,decide_eq_true_eq] at hc
   have:=hv b hb
   omega
 have hl:=eD a.1 x
 have hlen:(P4 x a).length=(x.filter (WM a.1)).length+1+(x.filter (cv a.1)).length:=by simp [P4]; omega
 unfold Ai
 rw [hs,if_neg (by simp),if_pos hx]
 have hk:BR (P4 x a)=true↔(P4 x a).length<=12:=by
  rw [CS]
  refine ⟨fun h=>h.2.2,fun h=>⟨fun b hb=>?_,UZ a h2,h⟩⟩
  rcases d_ hb with e | e
  ·rw [e]; exact ha
  ·exact h1 b e
 cases hh:Gv x a.1 with
 | true =>
  have:=aF.1 hh
  rw [if_pos (hk.2 (by omega)),if_neg (by simp)]
 | false =>
  have h0:(x.filter (To a.1)).length=0:=by
   rcases Nat.eq_zero_or_pos (x.filter (To a.1)).length with e | e
   ·exact e
   ·have:=aF.2 e
    rw [hh] at this
    cases this
  by_cases h12:x.length=12
  ·rw [if_neg (fun h=>by have:=hk.1 h; omega),if_pos ⟨h12,rfl⟩]
  ·rw [if_pos (hk.2 (by omega)),if_neg (fun h=>h12 h.1)]
theorem aH {x:List AH} {a:AH} (hx:BR x=true) (ha:Hu a=true) (hv:Jl x (a.2.2-1)) :
  RC (.pair .str (.pair .str (.int .i64))) (BI (Ai x a) a.1) a=!(decide (x.length=12)&&!Gv x a.1):=by
 obtain ⟨h1,h2,h3⟩:=CS.1 hx
 have ha2:=ha
 unfold Hu at ha2
 simp only [Bool.and_eq_true,decide_eq_true_eq] at ha2
 rw [fw hx ha hv]
 by_cases h:x.length=12/\Gv x a.1=false
 ·rw [if_pos h,Sq h.2,h.2,decide_eq_true h.1]
  have h4:((0:Int)==a.2.2)=false:=by
   rw [beq_eq_false_iff_ne]
   omega
  show (_&&(_&&((0:Int)==a.2.2)))=false
  rw [h4,Bool.and_false,Bool.and_false]
 ·rw [if_neg h,Kc (UZ a h2) Z4,eA]
  by_cases h12:x.length=12
  ·cases hh:Gv x a.1 with
   | true=>simp
   | false=>exact absurd ⟨h12,hh⟩ h
  ·simp [h12]
def mZ (m:X) (views:List (List Int)):Bool:=m.2.2.2.2.2.1&&(m.2.2.2.2.2.2.2.2.2.1==0)&&decide (m.2.2.2.2.2.2.2.2.1<900)&&decide (m.2.1<=(views.length:Int))&&((views.getD (m.2.1-1).toNat []).getD 0 0==m.1)
def ma (op call:Int) (key val:ByteArray):Bool:=(op==1||op==2)&&(decide (0<=call)&&decide (call<=1000))&&(decide (1<=(key.size:Int))&&decide ((key.size:Int)<=12))&&decide ((val.size:Int)<=20)&&(op==1||hX val)
theorem aI (m:X) (views:List (List Int)) (op call:Int) (key val:ByteArray):gy m views op call key val=(mZ m views&&ma op call key val):=by
 unfold gy mZ ma
 ac_rfl
theorem Ug (m:X) (views:List (List Int)) (hm:Il m) (hv:Rc views):Fm views m=some (mZ m views,m):=Pz (by
 have hvl:=hv.len
 have hep:=hm.ep
 have hcnt:=hm.count
 have wm:IntKind.i64.wrap (m.2.1-1)=m.2.1-1:=Ay (by omega)
 unfold Jg mZ
 cases h1:m.2.2.2.2.2.1 with
 | false=>rfl
 | true =>
  rw [if_pos (by rfl)]
  by_cases h2:m.2.2.2.2.2.2.2.2.2.1=0
  ·rw [if_pos (by rw [h2]; rfl),h2]
   by_cases h3:m.2.2.2.2.2.2.2.2.1=900
   ·rw [if_neg (by rw [h3]; simp),h3]
    rfl
   ·rw [if_pos (by simpa using h3),decide_eq_true (show m.2.2.2.2.2.2.2.2.1<900 by omega)]
    by_cases h4:m.2.1>(views.length:Int)
    ·rw [if_pos (by simpa using h4),decide_eq_false (show ¬ m.2.1<=(views.length:Int) by omega)]
     rfl
    ·rw [if_neg (by simpa using h4),decide_eq_true (show m.2.1<=(views.length:Int) by omega)]
     refine NY ?_
     have g1:=hv.get (i:=(m.2.1-1).toNat) (by omega)
     unfold HF
     rw [Ex hv,Option.bind_some,if_pos (by rfl),wm,if_pos (by omega),if_pos (by omega),if_pos (by omega),if_pos (by omega)]
     rfl
  ·rw [if_neg (by simpa using h2),show (m.2.2.2.2.2.2.2.2.2.1==(0:Int))=false by simpa using h2]
   rfl)
theorem aJ (op call:Int) (key val:ByteArray):JM op call key val=some (ma op call key val):=Vp (by
 have w:∀ b,Hq op val b=some (op==1||hX val):=fun b=>Q0 (by
  unfold Lj
  rw [e_]
  by_cases h:op=1
  ·rw [if_neg (by simp [h]),h]; rfl
  ·rw [if_pos (by simpa using h),show (op==1)=false by simpa using h]; rfl)
 unfold Px ma
 have jA:decide ((val.size:Int)>20)=!decide ((val.size:Int)<=20):=by
  by_cases h:(val.size:Int)<=20
  ·rw [decide_eq_true h,decide_eq_false (by omega)]; rfl
  ·rw [decide_eq_false h,decide_eq_true (by omega)]; rfl
 have h12:(op==1||op==2)=(decide (1<=op)&&decide (op<=2)):=by
  by_cases a:op=1
  ·subst a; rfl
  ·by_cases b:op=2
   ·subst b; rfl
   ·rw [show (op==1)=false by simpa using a,show (op==2)=false by simpa using b,<- Bool.decide_and,decide_eq_false (by omega)]; rfl
 rw [Af,Option.bind_some,Af,Ln,h12]
 cases (decide (1<=op)&&decide (op<=2)) with
 | false=>rfl
 | true =>
  rw [if_pos (by rfl),Option.bind_some]
  cases (decide (0<=call)&&decide (call<=1000)) with
  | false=>rfl
  | true =>
   rw [if_pos (by rfl),Option.bind_some]
   cases (decide (1<=(key.size:Int))&&decide ((key.size:Int)<=12)) with
   | false=>rfl
   | true =>
    rw [if_pos (by rfl),jA,w]
    cases decide ((val.size:Int)<=20)<;>rfl)
theorem YY (m:X) (views:List (List Int)) (op call:Int) (key val:ByteArray) (hm:Il m) (hv:Rc views) (h1:V1 views m):Mc m views op call key val=some (GP m views op call key val):=cq (by
 have hvl:=hv.len
 have hep:=hm.ep
 have hcnt:=hm.count
 have hl:=hm.lens
 have wm:IntKind.i64.wrap (m.2.1-1)=m.2.1-1:=Ay (by omega)
 have wc:IntKind.i64.wrap (m.2.2.2.2.2.2.2.2.1+1)=m.2.2.2.2.2.2.2.2.1+1:=Ay (by omega)
 have wk:IntKind.i64.wrap (1000*m.2.1)=1000*m.2.1:=Ay (by omega)
 have wv:IntKind.i64.wrap (1000*m.2.1+(m.2.2.2.2.2.2.2.2.1+1))=1000*m.2.1+(m.2.2.2.2.2.2.2.2.1+1):=Ay (by omega)
 unfold Vu GP
 rw [IP hm,Option.bind_some,if_pos (by rfl),Ug m views hm hv,Option.bind_some,aJ,aI]
 cases hb:mZ m views with
 | false=>rfl
 | true =>
  dsimp only
  rw [if_pos (by rfl),Option.bind_some]
  cases ha:ma op call key val with
  | false=>rfl
  | true =>
   rw [if_neg (by simp),if_pos (by rfl)]
   have hmay:gy m views op call key val=true:=by rw [aI,hb,ha]; rfl
   obtain ⟨s1,s2,s3,s4,s5,s6,s7,s8,s9,s10⟩:=S_ hmay
   obtain ⟨b1,b2,_⟩:=hm.serves s1
   have hw:=hv.wok (i:=(m.2.1-1).toNat) (by omega)
   have hwl:=hw.len
   have hrl:=Fu (views.getD (m.2.1-1).toNat []) m.1
   have ho:=Xn hw m.1
   have hone:Hu (Im m key val)=true:=(CS.1 (Z9 hm s3 s6 s7)).1 _ (by simp)
   have href:=aH (a:=Im m key val) hm.items hone ((h1.own b2 b1).mono (by show _<=1000*m.2.1+(m.2.2.2.2.2.2.2.2.1+1)-1; omega))
   have hz:=jN (k:=key) hm.items
   have J1:∀ b z,F3 views op call b m z (m.1,m.2.1,m.2.2.1,m.2.2.2.1,m.2.2.2.2.1,m.2.2.2.2.2.1,m.2.2.2.2.2.2.1,m.2.2.2.2.2.2.2.1,m.2.2.2.2.2.2.2.2.1+1,m.2.2.2.2.2.2.2.2.2) (key,val,1000*m.2.1+(m.2.2.2.2.2.2.2.2.1+1))=some (Ue m (views.getD (m.2.1-1).toNat []) op call key val):=fun b z=>YL (by
    unfold Q3
    rw [wm,if_pos (by omega),if_pos (by omega),Kf _ _ (by omega),Option.bind_some,CH (by show (B7 (views.getD (m.2.1-1).toNat []) m.1).length<=_; omega),Option.bind_some]
    have hsort:=XJ hw m.1
    change ((CT (B7 (views.getD (m.2.1-1).toNat []) m.1)).bind _)=_
    rw [hsort,Option.bind_some]
    have J2:∀ a c d e x,(∀ q:By,q=x->q.2.2.2.2.2.length<=12)->(fu (MO m (views.getD (m.2.1-1).toNat []) op call key val) (B7 (views.getD (m.2.1-1).toNat []) m.1) x=fD m (views.getD (m.2.1-1).toNat []) op key val) ->
      Hr (B7 (views.getD (m.2.1-1).toNat []) m.1) a c (MO m (views.getD (m.2.1-1).toNat []) op call key val) d e x=some (Ue m (views.getD (m.2.1-1).toNat []) op call key val):=fun a c d e x hx12 htell=>YK (by
     have hx:=hx12 x rfl
     unfold Q2 Ue
     by_cases h0:(B7 (views.getD (m.2.1-1).toNat []) m.1).length=0
     ·rw [if_pos (by simpa using h0),if_pos (List.length_eq_zero_iff.1 (by rw [ho,h0])),So _ (by show m.2.2.2.2.2.2.2.1.length<=_; omega),Option.bind_some]
     ·rw [if_neg (by simpa using h0),if_neg (fun e=>h0 (by rw [<- ho,e]; rfl)),B6 _ _ _ (by omega) (by omega),Option.bind_some,htell]
      exact WP)
    by_cases hop:op=1
    ·rw [if_pos (by simpa using hop)]
     refine J2 _ _ _ _ _ (fun q e=>by subst e; simp) ?_
     unfold fu fD
     simp only [hop,if_true]
     rfl
    ·rw [if_neg (by simpa using hop)]
     refine J2 _ _ _ _ _ (fun q e=>by subst e; simp) ?_
     unfold fu fD
     simp only [hop,if_false]
     rfl)
   refine YM ?_
   unfold Q4
   rw [hm.icopy,Option.bind_some,wc,wk,wv]
   by_cases hop:op=1
   ·rw [if_pos (by simpa using hop)]
    by_cases h12:m.2.2.2.2.2.2.2.1.length=12
    ·rw [if_pos (by simp only [beq_iff_eq]; omega),PE _ _ (by unfold maxLen; omega),Option.bind_some]
     change (if (false != RC (.pair .str (.pair .str (.int .i64))) (BI m.2.2.2.2.2.2.2.1 key) (ByteArray.empty,ByteArray.empty,(0:Int)))=true then _ else _)=_
     rw [hz]
     rw [h12] at href
     cases hh:Gv m.2.2.2.2.2.2.2.1 key with
     | false =>
      have hh2:Gv m.2.2.2.2.2.2.2.1 (Im m key val).1=false:=hh
      rw [hh2] at href
      rw [if_pos (by rfl),if_pos ⟨hop,href⟩]
      rfl
     | true =>
      have hh2:Gv m.2.2.2.2.2.2.2.1 (Im m key val).1=true:=hh
      rw [hh2] at href
      rw [if_neg (by simp),if_neg (fun h=>by have:=h.2; change RC (.pair .str (.pair .str (.int .i64))) (BI _ (Im m key val).1) _=false at this; rw [href] at this; cases this)]
      exact J1 _ _
    ·rw [if_neg (by simp; omega),if_neg (fun h=>by
      have:=h.2
      change RC (.pair .str (.pair .str (.int .i64))) (BI _ (Im m key val).1) _=false at this
      rw [href,decide_eq_false h12] at this
      cases this)]
     exact J1 _ _
   ·rw [if_neg (by simpa using hop),if_neg (fun h=>hop h.1)]
    exact J1 _ _)

def dD (m:X) (views:List (List Int)) (e:Int):X×List By×Bool :=
 if 2<=e/\e<=(views.length:Int)/\m.2.1<e/\(views.getD (e-1).toNat []).getD 0 0=m.1 then
  if (m.2.2.2.1&&(m.2.1==e-1))=true then
   (Ub (Na m e) (views.getD (e-1).toNat []) m.2.2.2.2.2.2.2.1,(B7 (views.getD (e-1).toNat []) m.1).map (fun v=>(3,m.1,v,e,0,m.2.2.2.2.2.2.2.1)),true)
  else (Na m e,(B7 (views.getD (e-2).toNat []) m.1).map (fun v=>(1,m.1,v,e,0,[])),true)
 else (Z8,[],false)
theorem YZ (m:X) (views:List (List Int)) (e:Int) (hm:Il m) (hv:Rc views):Md m views e=some (dD m views e):=cr (by
 have hvl:=hv.len
 have hep:=hm.ep
 have hl:=hm.lens
 unfold Vv dD
 rw [IP hm,Option.bind_some,if_neg (by simp),Ex hv,Option.bind_some,if_neg (by simp),Af,Option.bind_some]
 by_cases h1:2<=e/\e<=(views.length:Int)
 case neg =>
  rw [if_pos (by rw [<- Bool.decide_and,decide_eq_false h1]; rfl),if_neg (fun h=>h1 ⟨h.1,h.2.1⟩)]
  rfl
 have we:IntKind.i64.wrap (e-1)=e-1:=Ay (by omega)
 have we2:IntKind.i64.wrap (e-2)=e-2:=Ay (by omega)
 rw [if_neg (by rw [<- Bool.decide_and,decide_eq_true h1]; simp),we]
 by_cases h2:m.2.1<e
 case neg =>
  rw [if_pos (by simp; omega),if_neg (fun h=>h2 h.2.2.1)]
  rfl
 have g1:=hv.get (i:=(e-1).toNat) (by omega)
 have hw:=hv.wok (i:=(e-1).toNat) (by omega)
 have hw2:=hv.wok (i:=(e-2).toNat) (by omega)
 have hwl:=hw2.len
 rw [if_neg (by simp; omega),if_pos (by omega),if_pos (by omega),if_pos (by omega),if_pos (by omega)]
 by_cases h3:(views.getD (e-1).toNat []).getD 0 0=m.1
 case neg =>
  rw [if_pos (by simpa using h3),if_neg (fun h=>h3 h.2.2.2)]
  rfl
 rw [if_neg (by simpa using h3),if_pos ⟨h1.1,h1.2,h2,h3⟩]
 refine YO ?_
 unfold Q7
 rw [hm.icopy,Option.bind_some,we]
 have J1:∀ b z,Hs views e b m z m=some (if b=true then (Ub (Na m e) (views.getD (e-1).toNat []) m.2.2.2.2.2.2.2.1,(B7 (views.getD (e-1).toNat []) m.1).map (fun v=>(3,m.1,v,e,0,m.2.2.2.2.2.2.2.1)),true)
   else (Na m e,(B7 (views.getD (e-2).toNat []) m.1).map (fun v=>(1,m.1,v,e,0,[])),true)):=fun b z=>YN (by
  unfold Q6
  rw [OT,Option.bind_some,we,we2]
  cases b with
  | true =>
   rw [if_pos rfl,if_pos (by omega),if_pos (by omega)]
   change ((Ct (views.getD (e-1).toNat []) m.2.2.2.2.2.2.2.1 (Na m e)).bind _)=_
   rw [NT _ _ (Na m e) hw (by omega) rfl,Option.bind_some]
   rfl
  | false =>
   rw [if_neg (by simp),if_pos (by omega),if_pos (by omega)]
   change dM ((Bi (views.getD (e-2).toNat []) (Na m e)).bind _) ((Bi (views.getD (e-2).toNat []) (Na m e)).bind _)=_
   have hrl:=Fu (views.getD (e-2).toNat []) m.1
   rw [Kf _ (Na m e) (by omega),Option.bind_some,Option.bind_some,B6 _ _ (Na m e) (by show (B7 (views.getD (e-2).toNat []) m.1).length<=_; omega) (by simp),Option.bind_some,Option.bind_some,Option.bind_some,WP]
   exact WP)
 cases hb:m.2.2.2.1 with
 | true=>rw [if_pos rfl,J1,Bool.true_and]
 | false=>rw [if_neg (by simp),J1,Bool.false_and])
theorem Ta (id:Int) (views:List (List Int)) (hi:1<=id/\id<=6) (hv:Rc views):KO id views=some (D1 id views,true):=W7 (by
 have hvl:=hv.len
 have g:=hv.get (i:=0) (by omega)
 unfold O5
 rw [FS,Option.bind_some,if_pos (by rw [<- Bool.decide_and,decide_eq_true hi]; rfl),Ex hv,Option.bind_some,if_neg (by simp)]
 refine TU ?_
 unfold MI
 rw [show views.getD (0:Int).toNat ([]:List Int)=views.getD 0 [] from rfl,OE _ _ (by unfold maxLen; omega),Option.bind_some]
 repeat rw [if_pos (by omega)]
 rfl)

theorem MQ (x:List (List Int)) (h:x.length<=1000) (ho:∀ a∈x,a.length<=1000):G5 x=some x:=W6 (by
 have key:=NZ (n:=x.length) (P:=fun i=>E9 x (x.length:Int) (i:Int) (x.take i)=some x) (MG (by
  unfold HT
  rw [if_neg (by simp),List.take_length])) (fun i hi ih=>MG (by
  unfold HT
  have hb:=ho x[i] (List.getElem_mem hi)
  simp only [show ((i:Int)<(x.length:Int)) from by omega,decide_true,if_true,show (0:Int)<=(i:Int) from by omega,Int.toNat_natCast,AY hi,Ad (show i<9223372036854775807 by omega)]
  rw [CH (by omega),Option.bind_some,if_pos (by simp; omega),List.take_append_getElem]
  exact ih)) 0 (by omega)
 unfold O4
 exact key)
theorem Tb (g:AQ) (k:Nat) (hg:MP g k) (hk:k<=10000):G4 g=some g:=Wx (by
 have hvl:=hg.views.len
 have hc:=hg.clen
 have hf:=hg.flen
 have h6:=hg.six
 unfold O1
 rw [MQ g.1 (by omega) (fun a ha=>by have:=hg.views.view ha; omega),Option.bind_some,IG (by omega),Option.bind_some]
 have L2:∀ a b c d e f h,Cx g.2.2.1 (g.2.2.1.length:Int) ((0:Nat):Int) a b c d e f h g.1 g.2.1 [] g.2.2.2 g.1=some g->True:=fun _ _ _ _ _ _ _ _=>trivial
 have key2:∀ a b c d e f h k,Cx g.2.2.1 (g.2.2.1.length:Int) ((0:Nat):Int) a b c d e f h k g.2.1 [] g.2.2.2 g.1=some g:=by
  intro a b c d e f h k
  have key':=NZ (n:=g.2.2.1.length) (P:=fun i=>Cx g.2.2.1 (g.2.2.1.length:Int) (i:Int) a b c d e f h k g.2.1 (g.2.2.1.take i) g.2.2.2 g.1=some g) (ME (by
   unfold HO
   rw [if_neg (by simp),List.take_length])) (fun i hi ih=>ME (by
   unfold HO
   have hm:=Mj (hg.fly _ (List.getElem_mem hi)).items
   have hz:g.2.2.1.getD i ((0:Int),(0:Int),(0:Int),(0:Int),(0:Int),([]:List AH))=g.2.2.1[i]:=AY hi
   simp only [show ((i:Int)<(g.2.2.1.length:Int)) from by omega,decide_true,if_true,show (0:Int)<=(i:Int) from by omega,Int.toNat_natCast,hz,Ad (show i<9223372036854775807 by omega)]
   rw [Jm _ (by omega),Option.bind_some,if_pos (by simp; omega),List.take_append_getElem]
   exact ih)) 0 (by omega)
  exact key'
 have key:∀ a b c d e f h k,Cy g.2.1 (g.2.1.length:Int) ((0:Nat):Int) a b g.2.2.1 c d e f h [] k g.2.2.2 g.1=some g->True:=fun _ _ _ _ _ _ _ _ _=>trivial
 have key0:∀ a b c d e f h,Cy g.2.1 (g.2.1.length:Int) ((0:Nat):Int) a b g.2.2.1 c d e f h [] [] g.2.2.2 g.1=some g:=by
  intro a b c d e f h
  have key':=NZ (n:=g.2.1.length) (P:=fun i=>Cy g.2.1 (g.2.1.length:Int) (i:Int) a b g.2.2.1 c d e f h (g.2.1.take i) [] g.2.2.2 g.1=some g) (MF (by
   unfold HQ
   rw [if_neg (by simp),List.take_length]
   refine TR ?_
   unfold MD
   exact key2 _ _ _ _ _ _ _ _)) (fun i hi ih=>MF (by
   unfold HQ
   have hm:=(hg.mem i (by omega)).1
   unfold CJ at hm
   rw [AY hi] at hm
   have hz:g.2.1.getD i ((0:Int),(0:Int),false,false,false,false,([]:List Int),([]:List AH),(0:Int),(0:Int),(0:Int),(0:Int),(ByteArray.empty,ByteArray.empty,(0:Int)),([]:List Int))=g.2.1[i]:=AY hi
   simp only [show ((i:Int)<(g.2.1.length:Int)) from by omega,decide_true,if_true,show (0:Int)<=(i:Int) from by omega,Int.toNat_natCast,hz,hm.icopy,Option.bind_some,Ad (show i<9223372036854775807 by omega)]
   rw [if_pos (by simp; omega),List.take_append_getElem]
   exact ih)) 0 (by omega)
  exact key'
 exact key0 _ _ _ _ _ _ _)
theorem WE {views:List (List Int)} (hv:Rc views):LV views=some (Ap views,true):=YI (by
 have hvl:=hv.len
 unfold Qz
 rw [Ex hv,Option.bind_some,if_neg (by simp),MQ views (by omega) (fun a ha=>by have:=hv.view ha; omega),Option.bind_some]
 have step:∀ (i:Nat) (a:_) (b:_) (c:_) (d:_) (l:List X) r,1<=i->i<=6->l.length<=6->EL views ((i+1:Nat):Int) a b c d (l++[D1 (i:Int) views]) [] [] views=some r->EL views (i:Int) a b c d l [] [] views=some r:=by
  intro i a b c d l r h1 h6 hl hr
  refine NH ?_
  unfold IL
  rw [if_pos (by simp; omega),Ta _ _ (by omega) hv,Option.bind_some,if_pos (by simp; omega),Ad (show i<9223372036854775807 by omega)]
  exact hr
 refine step 1 _ _ _ _ _ _ (by omega) (by omega) (by simp) ?_
 refine step 2 _ _ _ _ _ _ (by omega) (by omega) (by simp) ?_
 refine step 3 _ _ _ _ _ _ (by omega) (by omega) (by simp) ?_
 refine step 4 _ _ _ _ _ _ (by omega) (by omega) (by simp) ?_
 refine step 5 _ _ _ _ _ _ (by omega) (by omega) (by simp) ?_
 refine step 6 _ _ _ _ _ _ (by omega) (by omega) (by simp) ?_
 refine NH ?_
 unfold IL
 rw [if_neg (by decide)]
 rfl)
theorem D2 {k:Nat} (id:Int) (g:AQ) (ms:MP g k) (hi:1<=id/\id<=6):BX id g=some (id-1,g):=TV (by
 have h6:=ms.six
 have step:∀ j (hj:j<6),GE (g.2.1.getD j ((0:Int),(0:Int),false,false,false,false,([]:List Int),([]:List AH),(0:Int),(0:Int),(0:Int),(0:Int),(ByteArray.empty,ByteArray.empty,(0:Int)),([]:List Int))) id=some ((j:Int)+1==id):=fun j hj=>RQ (by
  unfold J6
  have:=(ms.mem j hj).2
  unfold CJ at this
  change some ((g.2.1.getD j Z8).1==id)=_
  rw [this])
 have key:∀ (d j:Nat),j+d=5->(j:Int)+1<=id->As g.2.1 id (g.2.1.length:Int) (j:Int)=some (id-1):=by
  intro d
  induction d with
  | zero =>
   intro j hj hle
   refine Ca ?_
   unfold BU
   rw [if_pos (by simp; omega),if_pos (by omega),if_pos (by omega),Int.toNat_natCast,step j (by omega),Option.bind_some,if_pos (by simp; omega)]
   congr 1; omega
  | succ d ih =>
   intro j hj hle
   refine Ca ?_
   unfold BU
   rw [if_pos (by simp; omega),if_pos (by omega),if_pos (by omega),Int.toNat_natCast,step j (by omega),Option.bind_some]
   by_cases e:(j:Int)+1=id
   ·rw [if_pos (by simpa using e)]
    congr 1; omega
   ·rw [if_neg (by simpa using e),Ad (by omega)]
    exact ih (j+1) (by omega) (by omega)
 unfold MJ
 rw [show Bo g.2.1 id=some (id-1) from Fs (by
  unfold Cv
  exact key 5 0 rfl (by omega)),Option.bind_some])
theorem Gw (told:List By) (said:List E4) (at_:Int) (g:AQ) (hf:g.2.2.1.length+told.length<=68719476736) (hc:g.2.2.2.length<=68719476736) (hs:Z7 said) (hd:∀ c∈g.2.2.2,c.2.2.2.2.1=-1\/0<=c.2.2.2.2.1) :
  Ep told said at_ g=some (g.1,g.2.1,g.2.2.1++told,said.foldl (LO at_) g.2.2.2):=Vt (by
 have hsl:=hs.1
 unfold N9
 rw [if_pos hf]
 have fin:∀ (n:Nat) (cs:List LN),n=said.length->CA at_ said (said.length:Int) (n:Int) g.1 g.2.1 (g.2.2.1++told) cs=some (g.1,g.2.1,g.2.2.1++told,cs):=fun n cs hn=>LF (by
  unfold Gl
  rw [if_neg (by simp; omega)])
 match said,hs,hsl,fin with
 | [],_,_,fin=>exact fin 0 _ rfl
 | [s],hs,_,fin =>
  have h0:=(hs.2 s (by simp)).1
  refine LF ?_
  unfold Gl
  have wl:IntKind.i64.wrap ((g.2.2.2.length:Int)-1)=(g.2.2.2.length:Int)-1:=Ay (by omega)
  rw [if_pos (by simp),if_pos (by omega),if_pos (by simp)]
  change ((AU s.1 0 (IntKind.i64.wrap ((g.2.2.2.length:Int)-1))).bind _)=_
  rw [Af,Option.bind_some,wl,Ay (show -9223372036854775808<=(0:Int)+1/\(0:Int)+1<=9223372036854775807 by omega)]
  show _=some (g.1,g.2.1,g.2.2.1++told,LO at_ g.2.2.2 s)
  have f1:=fun cs=>fin 1 cs rfl
  by_cases c1:s.1>=(g.2.2.2.length:Int)
  ·rw [if_pos (by rw [<- Bool.decide_and,decide_eq_false (by omega)]; rfl)]
   have:LO at_ g.2.2.2 s=g.2.2.2:=by unfold LO; rw [if_pos (by simp [c1])]
   rw [this]
   exact f1 _
  ·rw [if_neg (by rw [<- Bool.decide_and,decide_eq_true (by omega)]; simp)]
   change (if 0<=s.1 then (if s.1<(g.2.2.2.length:Int) then (if ((g.2.2.2.getD s.1.toNat Fv).2.2.2.2.1 != -1)=true then _ else _) else _) else _)=_
   rw [if_pos h0,if_pos (by omega)]
   have hcl:s.1.toNat<g.2.2.2.length:=by omega
   have hdd:=hd (g.2.2.2.getD s.1.toNat Fv) (by rw [AY hcl]; exact List.getElem_mem _)
   by_cases c2:(g.2.2.2.getD s.1.toNat Fv).2.2.2.2.1>=0
   ·rw [if_pos (by simp only [bne_iff_ne,ne_eq]; omega)]
    have:LO at_ g.2.2.2 s=g.2.2.2:=by unfold LO; rw [if_pos (by rw [decide_eq_true c2,Bool.or_true])]
    rw [this]
    exact f1 _
   ·rw [if_neg (by simp only [bne_iff_ne,ne_eq]; omega)]
    have e:LO at_ g.2.2.2 s=g.2.2.2.set s.1.toNat (Sl at_ s (g.2.2.2.getD s.1.toNat Fv)):=by unfold LO; rw [if_neg (by rw [decide_eq_false c1,decide_eq_false c2]; simp)]
    rw [e]
    refine SW ?_
    unfold LE
    have hz2:∀ (l:List LN),l.getD s.1.toNat ((0:Int),ByteArray.empty,ByteArray.empty,(0:Int),(0:Int),(0:Int),(0:Int),(0:Int),ByteArray.empty)=l.getD s.1.toNat Fv:=fun l=>rfl
    have hz3:([s]:List E4).getD (0:Int).toNat ((0:Int),(0:Int),(0:Int),ByteArray.empty,ByteArray.empty,(0:Int))=s:=rfl
    simp only [hz3,hz2,fh hcl,List.set_set,List.length_set]
    rw [if_pos h0,if_pos (by omega),Ay (show -9223372036854775808<=(0:Int)+1/\(0:Int)+1<=9223372036854775807 by omega)]
    unfold Sl
    by_cases c3:(g.2.2.2.getD s.1.toNat Fv).1=2
    ·rw [if_pos (show ((g.2.2.2.getD s.1.toNat Fv).1==2)=true by simpa using c3),if_pos (show ((g.2.2.2.getD s.1.toNat Fv).1==2)=true by simpa using c3)]
     exact f1 _
    ·rw [if_neg (show ¬ ((g.2.2.2.getD s.1.toNat Fv).1==2)=true by simpa using c3),if_neg (show ¬ ((g.2.2.2.getD s.1.toNat Fv).1==2)=true by simpa using c3)]
     exact f1 _
 | _::_::_,_,hsl,_=>simp at hsl)

theorem MP.call {g:AQ} {k:Nat} (h:MP g k) (at_:Int) (e:EO):MP (Gu g at_ e) (k+1) :=
 ⟨h.views,h.six,h.mem,h.fly,by have:=h.flen; show g.2.2.1.length<=_; omega,by have:=h.clen; simp only [Gu,List.length_append,List.length_cons,List.length_nil]; omega⟩
theorem RZ (at_:Int) (e:EO) (g:AQ) (k:Nat) (hg:MP g k) (hk:k<=1000) (h3:V3 g) (hn:1<=e.2.1/\e.2.1<=6):H8 e at_ g=some ((Lo g at_ e).1==0,(Lo g at_ e).2):=UT (by
 have hc:=hg.clen
 have hf:=hg.flen
 have h6:=hg.six
 have hgc:=hg.call at_ e
 have h3c:=h3.call at_ e
 obtain ⟨m1,m2⟩:=hg.mem (e.2.1-1).toNat (by omega)
 have hb:=XH (op:=e.2.2.2.1) (call:=(g.2.2.2.length:Int)) (key:=e.2.2.2.2.1) (val:=e.2.2.2.2.2) m1 hg.views
 unfold NL Lo
 rw [if_pos (by simp; omega)]
 change ((BX e.2.1 (Gu g at_ e)).bind _)=_
 rw [D2 e.2.1 _ hgc hn,Option.bind_some]
 change (if 0<=e.2.1-1 then (if e.2.1-1<(g.2.1.length:Int) then ((Mc (CJ g (e.2.1-1).toNat) g.1 e.2.2.2.1 (g.2.2.2.length:Int) e.2.2.2.2.1 e.2.2.2.2.2).bind _) else none) else none)=_
 rw [if_pos (by omega),if_pos (by omega),YY _ _ _ _ _ _ m1 hg.views (h3.mem _ (by omega)),Option.bind_some]
 cases hq:(GP (CJ g (e.2.1-1).toNat) g.1 e.2.2.2.1 (g.2.2.2.length:Int) e.2.2.2.2.1 e.2.2.2.2.2).2.2.2 with
 | false=>rfl
 | true =>
  have hid:=hb.id hq
  have htl:=hb.tlen
  rw [if_neg (by simp),if_pos rfl]
  change (if 0<=e.2.1-1 then (if e.2.1-1<(g.2.1.length:Int) then _ else none) else none)=_
  rw [if_pos (by omega),if_pos (by omega)]
  dsimp only
  have:=Gw (GP (CJ g (e.2.1-1).toNat) g.1 e.2.2.2.1 (g.2.2.2.length:Int) e.2.2.2.2.1 e.2.2.2.2.2).2.1 (GP (CJ g (e.2.1-1).toNat) g.1 e.2.2.2.1 (g.2.2.2.length:Int) e.2.2.2.2.1 e.2.2.2.2.2).2.2.1 at_
   ((Gu g at_ e).1,(Gu g at_ e).2.1.set (e.2.1-1).toNat (GP (CJ g (e.2.1-1).toNat) g.1 e.2.2.2.1 (g.2.2.2.length:Int) e.2.2.2.2.1 e.2.2.2.2.2).1,(Gu g at_ e).2.2.1,(Gu g at_ e).2.2.2) (by show g.2.2.1.length+_<=_; omega) (by simp only [Gu,List.length_append,List.length_cons,List.length_nil]; omega) hb.said h3c.calls
  rw [this,Option.bind_some]
  unfold Az
  rw [hid,m2,show (((e.2.1-1).toNat:Int)+1-1).toNat=(e.2.1-1).toNat by omega]
  rfl)
theorem g8 {m:X} {views:List (List Int)} {e:Int} (h:V1 views m):dD m views e=E2 m views e:=by
 unfold dD E2
 split
 ·cases hb:m.2.2.2.1 with
  | false=>rfl
  | true =>
   have hv:=(h.view hb).2
   by_cases he:m.2.1=e-1
   ·rw [show (e-2).toNat=(m.2.1-1).toNat by omega,hv,show (m.2.1==e-1)=true by simpa using he]
    rfl
   ·rw [show (m.2.1==e-1)=false by simpa using he]
    rfl
 ·rfl
theorem Ra (at_:Int) (e:EO) (g:AQ) (k:Nat) (hg:MP g k) (hk:k<=1000) (h3:V3 g) (hn:1<=e.2.1/\e.2.1<=6):H9 e at_ g=some ((cz g at_ e.2.1).1==0,(cz g at_ e.2.1).2):=UU (by
 have hc:=hg.clen
 have hf:=hg.flen
 have h6:=hg.six
 have hvl:=hg.views.len
 obtain ⟨m1,m2⟩:=hg.mem (e.2.1-1).toNat (by omega)
 have hep:=m1.ep
 have h1:=h3.mem (e.2.1-1).toNat (by omega)
 unfold NM cz
 rw [D2 e.2.1 g hg hn,Option.bind_some]
 change (if 0<=e.2.1-1 then (if e.2.1-1<(g.2.1.length:Int) then C8 at_ (e.2.1-1) (IntKind.i64.wrap ((CJ g (e.2.1-1).toNat).2.1+1)) g.1 g.2.1 g.2.2.1 g.2.2.2 e else none) else none)=_
 rw [if_pos (by omega),if_pos (by omega),Ay (by omega)]
 have key:∀ (n:Nat) (ep:Int),1<=ep->ep+(n:Int)=(g.1.length:Int)+1->C8 at_ (e.2.1-1) ep g.1 g.2.1 g.2.2.1 g.2.2.2 e=some ((IN g at_ (CJ g (e.2.1-1).toNat) e.2.1 n ep).1==0,(IN g at_ (CJ g (e.2.1-1).toNat) e.2.1 n ep).2):=by
  intro n
  induction n with
  | zero =>
   intro ep h1 h2
   refine GJ ?_
   unfold ET
   rw [if_neg (by simp; omega)]
   rfl
  | succ n ih =>
   intro ep hp1 hp2
   refine GJ ?_
   unfold ET IN
   have we:IntKind.i64.wrap (ep-1)=ep-1:=Ay (by omega)
   have g1:=hg.views.get (i:=(ep-1).toNat) (by omega)
   rw [if_pos (by simp; omega),we,if_pos (by omega),if_pos (by omega),if_pos (by omega),if_pos (by omega)]
   change (if ((g.1.getD (ep-1).toNat []).getD 0 0 != e.2.1)=true then _ else _)=_
   by_cases hq:((g.1.getD (ep-1).toNat []).getD 0 0 != e.2.1)=true
   ·rw [if_pos hq,if_pos hq,Ay (by omega)]
    exact ih (ep+1) (by omega) (by omega)
   ·rw [if_neg hq,if_neg hq,if_pos (by omega),if_pos (by omega)]
    change ((Md (CJ g (e.2.1-1).toNat) g.1 ep).bind _)=_
    rw [YZ _ _ _ m1 hg.views,Option.bind_some,g8 h1]
    cases hb:(E2 (CJ g (e.2.1-1).toNat) g.1 ep).2.2 with
    | false=>rfl
    | true =>
     have ha:=TA (e:=ep) m1 hg.views hb
     have hal:=ha.2.2.2
     rw [if_pos rfl,if_pos rfl,if_pos (by omega),if_pos (by omega)]
     dsimp only
     have:=Gw (E2 (CJ g (e.2.1-1).toNat) g.1 ep).2.1 [] at_ (g.1,g.2.1.set (e.2.1-1).toNat (E2 (CJ g (e.2.1-1).toNat) g.1 ep).1,g.2.2.1,g.2.2.2) (by show g.2.2.1.length+_<=_; omega) (by show g.2.2.2.length<=_; omega) FU h3.calls
     rw [this,Option.bind_some]
     unfold Az
     rw [ha.2.1,m2,show (((e.2.1-1).toNat:Int)+1-1).toNat=(e.2.1-1).toNat by omega]
     rfl
 by_cases hle:(CJ g (e.2.1-1).toNat).2.1<=(g.1.length:Int)
 ·exact key _ _ (by omega) (by omega)
 ·have e0:((g.1.length:Int)-(CJ g (e.2.1-1).toNat).2.1).toNat=0:=by omega
  rw [e0]
  refine GJ ?_
  unfold ET
  rw [if_neg (fun h=>hle (by have:=of_decide_eq_true h; omega))]
  rfl)
def LP (g:AQ) (i:Nat) (at_:Int):AQ:=Az (EQ g i)
 (Db (CJ g ((g.2.2.1.getD i EP).2.2.1-1).toNat) g.1 (g.2.2.1.getD i EP)).1 (Db (CJ g ((g.2.2.1.getD i EP).2.2.1-1).toNat) g.1 (g.2.2.1.getD i EP)).2.1 (Db (CJ g ((g.2.2.1.getD i EP).2.2.1-1).toNat) g.1 (g.2.2.1.getD i EP)).2.2 at_
theorem PJ (at_:Int) (i:Nat) (g:AQ) (k:Nat) (hg:MP g k) (hk:k<=10000) (h3:V3 g) (hi:i<g.2.2.1.length):Gi (i:Int) at_ g=some (LP g i at_):=SO (by
 have hc:=hg.clen
 have hf:=hg.flen
 have h6:=hg.six
 have hmem:g.2.2.1.getD i EP∈g.2.2.1:=by rw [AY hi]; exact List.getElem_mem _
 have hx:=hg.fly _ hmem
 have hv2:=h3.fly _ hmem
 unfold LA LP
 rw [if_pos (by omega),if_pos (by omega),Ad (by omega)]
 change ((BJ g.2.2.1 (i:Int) ((i+1:Nat):Int)).bind fun y1=>((BX (g.2.2.1.getD i EP).2.2.1 (g.1,g.2.1,y1,g.2.2.2)).bind _))=_
 rw [EZ (by omega) (by omega),Option.bind_some]
 have hto:=hx.to
 generalize hxx:g.2.2.1.getD i EP=x at *
 obtain ⟨m1,m2⟩:=hg.mem (x.2.2.1-1).toNat (by omega)
 have hho:=NS (x:=x) m1 hg.views
 have hil:=Mj hx.items
 change ((BX x.2.2.1 (EQ g i)).bind _)=_
 rw [D2 x.2.2.1 (EQ g i) (hg.less i) hto,Option.bind_some]
 change (if decide (x.2.2.1-1>=0)=true then (if 0<=x.2.2.1-1 then (if x.2.2.1-1<(g.2.1.length:Int) then ((JN (CJ g (x.2.2.1-1).toNat) g.1 (g.2.2.1.getD (i:Int).toNat EP)).bind _) else none) else none) else _)=_
 rw [Int.toNat_natCast,hxx,if_pos (by simp; omega),if_pos (by omega),if_pos (by omega),WD _ _ _ m1 hg.views (by omega),Option.bind_some]
 have hhi:Sp (CJ g (x.2.2.1-1).toNat) g.1 x=Db (CJ g (x.2.2.1-1).toNat) g.1 x:=by
  unfold Sp
  rw [if_pos (S8.2 hx),jM hv2.inst]
 rw [hhi]
 change (if 0<=x.2.2.1-1 then (if x.2.2.1-1<(g.2.1.length:Int) then _ else none) else none)=_
 rw [if_pos (by omega),if_pos (by omega)]
 dsimp only
 have htl:=hho.tlen
 have:=Gw (Db (CJ g (x.2.2.1-1).toNat) g.1 x).2.1 (Db (CJ g (x.2.2.1-1).toNat) g.1 x).2.2 at_
  ((EQ g i).1,(EQ g i).2.1.set (x.2.2.1-1).toNat (Db (CJ g (x.2.2.1-1).toNat) g.1 x).1,(EQ g i).2.2.1,(EQ g i).2.2.2) (by
   have:(EQ g i).2.2.1.length<=g.2.2.1.length:=by simp only [EQ,List.length_append,List.length_take,List.length_drop]; omega
   show (EQ g i).2.2.1.length+_<=_; omega) (by show g.2.2.2.length<=_; omega) hho.said h3.calls
 rw [this,Option.bind_some]
 unfold Az
 rw [hho.id,m2,show (((x.2.2.1-1).toNat:Int)+1-1).toNat=(x.2.2.1-1).toNat by omega])
theorem Rb (at_:Int) (e:EO) (g:AQ) (k:Nat) (hg:MP g k) (hk:k<=1000) (h3:V3 g) (he:XE e=true):Fk e at_ g=some ((dI g at_ e).1==0,(dI g at_ e).2):=UL (by
 have hn:=Yl he
 have h6:=hg.six
 have hf:=hg.flen
 unfold NI dI
 by_cases h1:e.1=1
 ·rw [if_pos (by simpa using h1),if_pos h1,RZ at_ e g k hg hk h3 (by omega)]; rfl
 rw [if_neg (by simpa using h1),if_neg h1]
 by_cases h5:e.1=5
 ·rw [if_pos (by simpa using h5),if_pos h5,Ra at_ e g k hg hk h3 (by omega)]; rfl
 rw [if_neg (by simpa using h5),if_neg h5]
 by_cases h7:e.1=6
 ·obtain ⟨m1,m2⟩:=hg.mem (e.2.1-1).toNat (by omega)
  rw [if_pos (by simpa using h7),if_pos h7,D2 e.2.1 g hg (by omega),Option.bind_some]
  change (if 0<=e.2.1-1 then (if e.2.1-1<(g.2.1.length:Int) then ((Nx (CJ g (e.2.1-1).toNat)).bind _) else none) else none)=_
  rw [if_pos (by omega),if_pos (by omega),az,Option.bind_some]
  change (if 0<=e.2.1-1 then (if e.2.1-1<(g.2.1.length:Int) then _ else none) else none)=_
  rw [if_pos (by omega),if_pos (by omega)]
  unfold Az
  have:((RB (CJ g (e.2.1-1).toNat)).1-1).toNat=(e.2.1-1).toNat:=by
   show ((CJ g (e.2.1-1).toNat).1-1).toNat=_
   rw [m2]; omega
  rw [this,List.append_nil]
  rfl
 rw [if_neg (by simpa using h7),if_neg h7]
 have hm:Gj e at_ g=some ((au g at_ e).1==0,(au g at_ e).2):=ST (by
  unfold LB au
  by_cases h0:g.2.2.1=[]
  ·rw [if_pos (by rw [h0]; rfl),if_pos h0]; rfl
  have hl:0<g.2.2.1.length:=by
   cases hq:g.2.2.1 with
   | nil=>exact absurd hq h0
   | cons a l=>simp
  have hem:Int.tmod e.2.2.1 (g.2.2.1.length:Int)=e.2.2.1 % (g.2.2.1.length:Int):=Int.tmod_eq_emod_of_nonneg (by omega)
  have hlt:(e.2.2.1 % (g.2.2.1.length:Int)).toNat<g.2.2.1.length:=by
   have h1:=Int.emod_lt_of_pos e.2.2.1 (show (0:Int)<(g.2.2.1.length:Int) by omega)
   have h2:=Int.emod_nonneg e.2.2.1 (show (g.2.2.1.length:Int)≠0 by omega)
   omega
  obtain ⟨i,hi⟩:∃ i:Nat,e.2.2.1 % (g.2.2.1.length:Int)=(i:Int):=⟨(e.2.2.1 % (g.2.2.1.length:Int)).toNat,by
   have h2:=Int.emod_nonneg e.2.2.1 (show (g.2.2.1.length:Int)≠0 by omega)
   omega⟩
  rw [if_neg (by simp only [beq_iff_eq]; omega),if_neg (by omega),if_neg h0,hem,hi]
  rw [hi,Int.toNat_natCast] at hlt
  simp only [Int.toNat_natCast]
  by_cases k2:e.1=2
  ·rw [if_pos (by simpa using k2),if_neg (by omega),if_neg (by omega),PJ at_ i g k hg (by omega) h3 hlt]
   rfl
  rw [if_neg (by simpa using k2)]
  by_cases k3:e.1=3
  ·rw [if_pos (by simpa using k3),if_neg (by omega),if_pos k3,Ad (by omega),EZ (by omega) (by omega)]
   rfl
  have k4:e.1=4:=by omega
  have hmem:g.2.2.1.getD i EP∈g.2.2.1:=by rw [AY hlt]; exact List.getElem_mem _
  have hil:=Mj (hg.fly _ hmem).items
  rw [if_neg (by simpa using k3),if_pos (by simpa using k4),if_pos k4,if_pos (by omega),if_pos (by omega)]
  change ((FK (g.2.2.1.getD i EP)).bind _)=_
  rw [Jm _ (by omega),Option.bind_some,if_pos (by simp; omega)]
  rfl)
 rw [hm]
 rfl)
theorem WF {views:List (List Int)} {events:List EO} (hv:Rc views) (hl:events.length<=70) (he:∀ e∈events,XE e=true) :
  Ho views events=some ((OS 0 events (Ap views) []).1,(OS 0 events (Ap views) []).2,true):=X4 (by
 have hg:=bZ hv
 obtain ⟨r1,r2,r3⟩:=c_ events 0 (Ap views) [] hg (by omega) he
 unfold Qi
 rw [WE hv,Option.bind_some,if_pos (by rfl),if_neg (by simp; omega)]
 refine UF ?_
 unfold M7
 have codes:∀ (g:AQ) (a:Int) (e:EO),XE e=true->(dI g a e).1=0\/(dI g a e).1=1:=by
  intro g a e he
  have hfa:∀ (m:X) (nd:Int) (n:Nat) (ep:Int),(IN g a m nd n ep).1=0\/(IN g a m nd n ep).1=1:=by
   intro m nd n
   induction n with
   | zero=>intro ep; exact .inr rfl
   | succ n ih =>
    intro ep
    unfold IN
    split
    ·exact ih _
    ·split
     ·exact .inl rfl
     ·exact .inr rfl
  unfold dI
  split
  ·unfold Lo; split
   ·exact .inl rfl
   ·exact .inr rfl
  ·split
   ·exact hfa _ _ _ _
   ·split
    ·exact .inl rfl
    ·unfold au
     split
     ·exact .inr rfl
     ·split
      ·exact .inl rfl
      ·split
       ·exact .inl rfl
       ·exact .inl rfl
 have L3:∀ a b c d,EJ events (events.length:Int) ((0:Nat):Int) a b c d (Ap views).2.1 (Ap views).2.2.1 (Ap views).2.2.2 (Ap views).1 []=some ((OS 0 events (Ap views) []).1,(OS 0 events (Ap views) []).2,true):=by
  intro a b c d
  have key:=NZ (n:=events.length) (P:=fun i=>∀ (g:AQ) (cs:List Int),MP g i->V3 g->cs.length=i->OS i (events.drop i) g cs=OS 0 events (Ap views) []->EJ events (events.length:Int) (i:Int) a b c d g.2.1 g.2.2.1 g.2.2.2 g.1 cs=some ((OS 0 events (Ap views) []).1,(OS 0 events (Ap views) []).2,true)) (fun g cs hgi h3 hcs hr=>M8 (by
   unfold IH
   rw [if_neg (by simp)]
   change ((G4 g).bind _)=_
   rw [Tb g events.length hgi (by omega),Option.bind_some]
   rw [List.drop_eq_nil_of_le (Nat.le_refl _)] at hr
   rw [<- hr]
   rfl)) (fun i hi ih g cs hgi h3 hcs hr=>M8 (by
   unfold IH
   obtain ⟨d2,_⟩:=hgi.event (at_:=(i:Int)) (he _ (List.getElem_mem hi))
   have hz:events.getD i ((0:Int),(0:Int),(0:Int),(0:Int),ByteArray.empty,ByteArray.empty)=events[i]:=AY hi
   simp only [show ((i:Int)<(events.length:Int)) from by omega,decide_true,if_true,show (0:Int)<=(i:Int) from by omega,Int.toNat_natCast,hz,Ad (show i<9223372036854775807 by omega)]
   change ((Fk events[i] (i:Int) g).bind _)=_
   rw [Rb (i:Int) events[i] g i hgi (by omega) h3 (he _ (List.getElem_mem hi)),Option.bind_some]
   have hcode:OL ((dI g (i:Int) events[i]).1==0)=some (dI g (i:Int) events[i]).1:=am (by
    unfold Tk
    rcases codes g (i:Int) events[i] (he _ (List.getElem_mem hi)) with q | q<;>rw [q]<;>rfl)
   dsimp only
   rw [hcode,Option.bind_some,if_pos (by simp; omega)]
   refine ih _ _ d2 (h3.event hgi (by omega) (he _ (List.getElem_mem hi))) (by simp; omega) ?_
   rw [ED hi] at hr
   exact hr)) 0 (by omega) (Ap views) [] hg (V3.new hv) rfl rfl
  exact key
 have L1:∀ a b c d,EK events events (events.length:Int) ((0:Nat):Int) a b c d (Ap views).2.1 (Ap views).2.2.1 (Ap views).2.2.2 (Ap views).1=some ((OS 0 events (Ap views) []).1,(OS 0 events (Ap views) []).2,true):=by
  intro a b c d
  refine NZ (n:=events.length) (P:=fun i=>EK events events (events.length:Int) (i:Int) a b c d (Ap views).2.1 (Ap views).2.2.1 (Ap views).2.2.2 (Ap views).1=some ((OS 0 events (Ap views) []).1,(OS 0 events (Ap views) []).2,true)) (M9 (by
   unfold II
   rw [if_neg (by simp)]
   refine UE ?_
   unfold M6
   exact L3 _ _ _ _)) (fun i hi ih=>M9 (by
   unfold II
   have hz:events.getD i ((0:Int),(0:Int),(0:Int),(0:Int),ByteArray.empty,ByteArray.empty)=events[i]:=AY hi
   simp only [show ((i:Int)<(events.length:Int)) from by omega,decide_true,if_true,show (0:Int)<=(i:Int) from by omega,Int.toNat_natCast,hz,Ad (show i<9223372036854775807 by omega)]
   rw [V6,he _ (List.getElem_mem hi),Option.bind_some,if_neg (by simp)]
   exact ih)) 0 (by omega)
 exact L1 _ _ _ _)

theorem g9 {β:Type} {n:Nat} {L:Nat->Option β} {b:Nat->Bool} {e s:β} (h0:L n=some e) (h:∀ i,i<n->∀ w,L (i+1)=some w->L i=some (if b i=true then w else s)) :
  ∀ i,i<=n->L i=some (if (List.range' i (n-i)).all b=true then e else s):=by
 refine NZ (P:=fun i=>L i=some (if (List.range' i (n-i)).all b=true then e else s)) (by simp [h0]) fun i hi ih=>?_
 rw [h i hi _ ih,show n-i=(n-(i+1))+1 from by omega,List.range'_succ,List.all_cons]
 by_cases hb:b i=true
 ·rw [if_pos hb,hb,Bool.true_and]
 ·have hb':b i=false:=by simpa using hb
  rw [if_neg hb,hb',Bool.false_and]
  rfl
theorem NU {β:Type} {n:Nat} {L:Nat->Option β} {b:Nat->Bool} {e s:β} (h0:L n=some e) (h:∀ i,i<n->∀ w,L (i+1)=some w->L i=some (if b i=true then w else s)) :
  L 0=some (if (List.range n).all b=true then e else s):=by
 have:=g9 h0 h 0 (by omega)
 rwa [Nat.sub_zero,<- List.range_eq_range'] at this
theorem f4 (b:Bool):(if b=true then true else false)=b:=by cases b<;>rfl
def TC:AH:=(ByteArray.empty,ByteArray.empty,0)
def XK:X:=((0:Int),(0:Int),false,false,false,false,[],[],(0:Int),(0:Int),(0:Int),(0:Int),(ByteArray.empty,ByteArray.empty,(0:Int)),[])
def Kg (a b:List AH):Bool:=(a.length==b.length)&&(List.range a.length).all fun i=>RC AK (a.getD i TC) (b.getD i TC)
theorem Gx (a b:List AH) (h:a.length<=maxLen):Cb a b=some (Kg a b):=IM (by
 have hm:a.length<=9223372036854775807:=h
 unfold EM Kg
 by_cases e:a.length=b.length
 ·rw [if_neg (by simp [e])]
  have:=NU (n:=a.length) (L:=fun i=>BS a b (a.length:Int) (i:Int)) (b:=fun i=>RC AK (a.getD i TC) (b.getD i TC)) (e:=true) (s:=false) (DZ (by
   unfold CI
   rw [if_neg (by simp)])) (fun i hi w hw=>DZ (by
   unfold CI
   rw [if_pos (by simpa using hi),if_pos (by omega),if_pos (by omega),if_pos (by omega),if_pos (by omega),Int.toNat_natCast,Ad (show i<9223372036854775807 by omega),hw]
   show _=some (if RC AK (a.getD i (ByteArray.empty,ByteArray.empty,(0:Int))) (b.getD i (ByteArray.empty,ByteArray.empty,(0:Int)))=true then w else false)
   generalize RC AK (a.getD i (ByteArray.empty,ByteArray.empty,(0:Int))) (b.getD i (ByteArray.empty,ByteArray.empty,(0:Int)))=q
   cases q<;>rfl))
  simp only [e,beq_self_eq_true,Bool.true_and]
  rw [e] at this
  rw [show ((0:Int))=((0:Nat):Int) from rfl,this]
  cases (List.range b.length).all fun i=>RC AK (a.getD i TC) (b.getD i TC)<;>rfl
 ·rw [if_pos (by simpa using fun q=>e (by omega))]
  simp [e])
def HC (g:AQ) (e:Int):List Int:=if 1<=e/\e<=(g.1.length:Int) then g.1.getD (e-1).toNat [] else []
theorem KG (e:Int) (g:AQ) (h:g.1.length<=maxLen):GW e g=some (HC g e,g):=Vm (by
 have hm:g.1.length<=9223372036854775807:=h
 unfold N1 HC
 rw [Af,Option.bind_some]
 by_cases c:1<=e/\e<=(g.1.length:Int)
 ·rw [if_neg (by simp [c.1,c.2]),Ay (by omega),if_pos (by omega),if_pos (by omega),if_pos c]
 ·rw [if_pos (by rw [<- Bool.decide_and,decide_eq_false c]; rfl),if_neg c])
def AR (g:AQ) (i:Nat):X:=g.2.1.getD i XK
def Uh (g:AQ) (m:X):Bool:=!((HC g m.2.1).length==0)&&(HC g m.2.1).getD 0 0==m.1
def aK (g:AQ):Bool:=(List.range g.2.1.length).all fun i=>!(AR g i).2.2.2.2.2.1||(Uh g (AR g i)&&(List.range i).all fun k=>!((AR g k).2.2.2.2.2.1&&(AR g k).2.1==(AR g i).2.1))
theorem Sr (g:AQ) (h1:g.1.length<=maxLen) (h2:g.2.1.length<=maxLen):KN g=some (aK g):=Wu (by
 have hm1:g.1.length<=9223372036854775807:=h1
 have hm2:g.2.1.length<=9223372036854775807:=h2
 unfold Ox
 have key:=NU (n:=g.2.1.length) (L:=fun i=>Dk g.2.1 (g.2.1.length:Int) (i:Int) g.1 g.2.1 g.2.2.1 g.2.2.2) (b:=fun i=>!(AR g i).2.2.2.2.2.1||(Uh g (AR g i)&&(List.range i).all fun k=>!((AR g k).2.2.2.2.2.1&&(AR g k).2.1==(AR g i).2.1))) (e:=true) (s:=false) (MB (by
  unfold HN
  rw [if_neg (by simp)])) (fun i hi w hw=>MB (by
  unfold HN
  have hgd:(g.2.1.getD (i:Int).toNat ((0:Int),(0:Int),false,false,false,false,([]:List Int),([]:List AH),(0:Int),(0:Int),(0:Int),(0:Int),(ByteArray.empty,ByteArray.empty,(0:Int)),([]:List Int)))=AR g i:=rfl
  rw [if_pos (by simpa using hi),if_pos (by omega),if_pos (by omega)]
  simp only [hgd,KG _ (g.1,g.2.1,g.2.2.1,g.2.2.2) h1,Option.bind_some,Ad (show i<9223372036854775807 by omega),hw]
  have inner:∀ b,HL (i:Int) g.2.1 (g.2.1.length:Int) (i:Int) b g (AR g i)=some (if (List.range i).all (fun k=>!((AR g k).2.2.2.2.2.1&&(AR g k).2.1==(AR g i).2.1))=true then w else false):=fun b=>TM (by
   unfold L_
   have hl:((g.2.1.take (i:Int).toNat).drop (0:Int).toNat)=g.2.1.take i:=by simp
   have hl2:(g.2.1.take i).length=i:=by rw [List.length_take]; omega
   rw [if_pos (by omega),if_pos (by omega),if_pos (by omega),hl,hl2]
   refine NU (n:=i) (L:=fun k=>Dj g.2.1 (g.2.1.length:Int) (i:Int) (g.2.1.take i) (i:Int) (k:Int) g (AR g i)) (MA (by
    unfold HM
    rw [if_neg (by simp),Ad (show i<9223372036854775807 by omega)]
    exact hw)) (fun k hk u hu=>MA (by
    unfold HM
    have hgk:((g.2.1.take i).getD (k:Int).toNat ((0:Int),(0:Int),false,false,false,false,([]:List Int),([]:List AH),(0:Int),(0:Int),(0:Int),(0:Int),(ByteArray.empty,ByteArray.empty,(0:Int)),([]:List Int)))=AR g k:=by
     show (g.2.1.take i).getD k XK=g.2.1.getD k XK
     rw [AY (by omega),AY (by omega),List.getElem_take]
    rw [if_pos (by simpa using hk),if_pos (by omega),if_pos (by omega)]
    simp only [hgk,if_true,Ad (show k<9223372036854775807 by omega),hu]
    cases (AR g k).2.2.2.2.2.1<;>cases ((AR g k).2.1==(AR g i).2.1)<;>simp)))
  generalize (List.range i).all (fun k=>!((AR g k).2.2.2.2.2.1&&(AR g k).2.1==(AR g i).2.1))=q at inner ⊢
  have hview:HC (g.1,g.2.1,g.2.2.1,g.2.2.2) (AR g i).2.1=HC g (AR g i).2.1:=rfl
  rw [hview]
  cases hs:(AR g i).2.2.2.2.2.1
  ·simp
  ·simp only [Bool.not_true,Bool.false_or,Bool.false_eq_true,if_false]
   unfold Uh
   generalize HC g (AR g i).2.1=v
   by_cases c2:v.length=0
   ·rw [if_pos (by simp [c2])]
    simp [c2]
   ·rw [if_neg (by simp only [beq_iff_eq]; omega),if_pos (by omega),if_pos (by omega),Int.toNat_zero]
    have hv:(!v.length==0)=true:=by simp [c2]
    by_cases c3:v.getD 0 0=(AR g i).1
    ·rw [if_neg (by simpa using c3),show ((g.1,g.2.1,g.2.2.1,g.2.2.2):AQ)=g from rfl,inner,hv,c3,beq_self_eq_true,Bool.true_and,Bool.true_and]
    ·rw [if_pos (by simpa using c3)]
     have hv2:(v.getD 0 0==(AR g i).1)=false:=by simpa using c3
     rw [hv2]
     simp))
 rw [f4] at key
 exact key)
theorem aL (x:AH):RC AK x x=true:=by simp [RC]
theorem Ya (a:List AH):Kg a a=true:=by
 unfold Kg
 simp only [beq_self_eq_true,Bool.true_and,List.all_eq_true]
 exact fun i _=>aL _
def WG (g:AQ) (m x:X):Bool:=decide (x.1∈HC g m.2.1)&&x.2.2.2.1&&(x.2.1==m.2.1)&&!Kg x.2.2.2.2.2.2.2.1 m.2.2.2.2.2.2.2.1
def jO (g:AQ):Bool:=(List.range g.2.1.length).all fun i=>!(AR g i).2.2.2.2.2.1||!((AR g i).2.2.2.2.2.2.2.2.2.1==0)||(List.range g.2.1.length).all fun k=>!WG g (AR g i) (AR g k)
structure mt (g:AQ):Prop where
 n1:g.1.length<=maxLen
 n2:g.2.1.length<=maxLen
 n3:∀ e,(HC g e).length<=maxLen
 n4:∀ k,k<g.2.1.length->(AR g k).2.2.2.2.2.2.2.1.length<=maxLen
theorem XL (g:AQ) (hx:mt g):Pq g=some (jO g):=cm (by
 have hm1:g.1.length<=9223372036854775807:=hx.n1
 have hm2:g.2.1.length<=9223372036854775807:=hx.n2
 unfold Vf
 have key:=NU (n:=g.2.1.length) (L:=fun i=>Ef g.2.1 (g.2.1.length:Int) (i:Int) g.1 g.2.1 g.2.2.1 g.2.2.2) (b:=fun i=>!(AR g i).2.2.2.2.2.1||!((AR g i).2.2.2.2.2.2.2.2.2.1==0)||(List.range g.2.1.length).all fun k=>!WG g (AR g i) (AR g k)) (e:=true) (s:=false) (Qx (by
  unfold Lh
  rw [if_neg (by simp)])) (fun i hi w hw=>Qx (by
  unfold Lh
  have hgd:(g.2.1.getD (i:Int).toNat ((0:Int),(0:Int),false,false,false,false,([]:List Int),([]:List AH),(0:Int),(0:Int),(0:Int),(0:Int),(ByteArray.empty,ByteArray.empty,(0:Int)),([]:List Int)))=AR g i:=rfl
  rw [if_pos (by simpa using hi),if_pos (by omega),if_pos (by omega)]
  simp only [hgd,Ad (show i<9223372036854775807 by omega),hw]
  generalize hm:AR g i=m
  cases hs:m.2.2.2.2.2.1
  ·simp
  ·by_cases ho:m.2.2.2.2.2.2.2.2.2.1=0
   ·rw [if_pos (by simp),if_neg (by simp [ho])]
    have inner:∀ b,Lf (i:Int) g.2.1 (g.2.1.length:Int) (i:Int) b g.1 g.2.1 g.2.2.1 g.2.2.2 m=some (if (List.range g.2.1.length).all (fun k=>!WG g m (AR g k))=true then w else false):=fun b=>YF (by
     unfold Qv
     rw [KG _ (g.1,g.2.1,g.2.2.1,g.2.2.2) hx.n1,Option.bind_some]
     show CY (i:Int) (HC g m.2.1) g.2.1 (g.2.1.length:Int) (i:Int) g.2.1 (g.2.1.length:Int) 0 g m=_
     refine NU (n:=g.2.1.length) (L:=fun k=>CY (i:Int) (HC g m.2.1) g.2.1 (g.2.1.length:Int) (i:Int) g.2.1 (g.2.1.length:Int) (k:Int) g m) (Qw (by
      unfold Lg
      rw [if_neg (by simp),Ad (show i<9223372036854775807 by omega)]
      exact hw)) (fun k hk u hu=>Qw (by
      unfold Lg
      have hgk:(g.2.1.getD (k:Int).toNat ((0:Int),(0:Int),false,false,false,false,([]:List Int),([]:List AH),(0:Int),(0:Int),(0:Int),(0:Int),(ByteArray.empty,ByteArray.empty,(0:Int)),([]:List Int)))=AR g k:=rfl
      have hok:=hx.n4 k hk
      rw [if_pos (by simpa using hk),if_pos (by omega),if_pos (by omega)]
      simp only [hgk,Ad (show k<9223372036854775807 by omega),hu,OE _ _ (hx.n3 _),List.contains_eq_mem,Gx _ _ hok,Option.bind_some]
      by_cases hki:k=i
      ·subst hki
       rw [if_neg (by simp),hm]
       unfold WG
       rw [Ya]
       simp
      ·rw [if_pos (by simpa using fun q=>hki (by omega))]
       unfold WG
       generalize decide ((AR g k).1∈HC g m.2.1)=a
       generalize (AR g k).2.2.2.1=b
       generalize ((AR g k).2.1==m.2.1)=d
       generalize Kg (AR g k).2.2.2.2.2.2.2.1 m.2.2.2.2.2.2.2.1=e
       cases a<;>cases b<;>cases d<;>cases e<;>simp)))
    rw [inner]
    simp [ho]
   ·rw [if_pos (by simp),if_pos (by simp [ho])]
    simp [ho]))
 rw [f4] at key
 exact key)
theorem MP.fit {g:AQ} {n:Nat} (hg:MP g n):mt g:=by
 have hl:=hg.views.len
 have h6:=hg.six
 refine ⟨by unfold maxLen; omega,by unfold maxLen; omega,fun e=>?_,fun k hk=>?_⟩
 ·unfold HC
  split
  ·have:=(hg.views.get (i:=(e-1).toNat) (by omega)).2
   unfold maxLen; omega
  ·unfold maxLen; simp
 ·have:=Mj (hg.mem k (by omega)).1.items
  change (CJ g k).2.2.2.2.2.2.2.1.length<=_
  unfold maxLen; omega

theorem dE (x:List AH) {k k2:ByteArray} (h:k.toList=k2.toList):BI x k=BI x k2:=by
 unfold BI
 rw [h]
theorem ku {x:List AH} {a b:AH} (hx:BR x=true) (hb:b∈x):b.2.2<=(BI (Ai x a) b.1).2.2:=by
 have ho:=(CS.1 hx).2.1
 have same:b.2.2<=(BI x b.1).2.2:=by rw [Kc ho hb]; exact Int.le_refl _
 unfold Ai
 split
 ·exact same
 ·rename_i hs
  try rw [if_pos hx]
  split
  ·rename_i hl
   have ho':=(CS.1 hl).2.1
   cases hk:(b.1.toList==a.1.toList) with
   | false=>rw [Kc ho' (fC hb hk)]; exact Int.le_refl _
   | true =>
    rw [dE _ (beq_iff_eq.1 hk),Kc ho' Z4]
    have:¬ (b.2.2>=a.2.2):=fun h=>hs (List.any_eq_true.2 ⟨b,hb,by rw [hk]; simpa using h⟩)
    omega
  ·exact same

structure PM where
 ep:Int
 fell:Bool
 base:Bool
 leads:Bool
 serves:Bool
 waits:List Int
 items:List AH
 cnt:Int
 op:Int
 call:Int
 num:Int
 ti:AH
 left:List Int
structure PX where
 kind:Int
 frm:Int
 to:Int
 ep:Int
 num:Int
 items:List AH
structure PC where
 op:Int
 key:ByteArray
 val:ByteArray
 wen:Int
 done:Int
 ver:Int
 ep:Int
 num:Int
 got:ByteArray
structure PG where
 mem:Int->PM
 fly:List PX
 calls:List PC
def PG.set (g:PG) (i:Int) (m:PM) (T:List PX):PG:={ g with mem:=fun j=>if j=i then m else g.mem j,fly:=g.fly++T }
def CK (V:Int->List Int) (e:Int):Int:=(V e).getD 0 0
def PM.idle (m:PM) (e:Int) (b l:Bool) (its:List AH):PM:={ ep:=e,fell:=false,base:=b,leads:=l,serves:=false,waits:=[],items:=its,cnt:=0,op:=0,call:=0,num:=0,ti:=(ByteArray.empty,ByteArray.empty,0),left:=[] }
inductive CD (V:Int->List Int) (nv:Int) (g:PG) (i:Int):PM->List PX->Prop
 | seal (x:PX) (hx:x∈g.fly) (h1:x.ep=(g.mem i).ep+1) (h2:(g.mem i).base=true) (h3:x.ep<=nv):CD V nv g i ((g.mem i).idle x.ep false false (g.mem i).items) [⟨2,i,x.frm,x.ep,0,(g.mem i).items⟩]
 | stat (x:PX) (hx:x∈g.fly) (h1:x.kind=2) (h2:x.ep=(g.mem i).ep) (h3:(g.mem i).leads=true) (h4:(g.mem i).base=false) (W:List Int) (hw:∀ k,k∈W↔k∈V x.ep/\k≠i) (T:List PX) (hT:∀ y∈T,y.kind=3/\y.ep=x.ep/\y.items=x.items/\y.frm=i) :
   CD V nv g i { g.mem i with base:=true,items:=x.items,waits:=W,serves:=W.isEmpty } T
 | inst (x:PX) (hx:x∈g.fly) (h1:x.kind=3) (h2:(g.mem i).ep<x.ep\/(g.mem i).ep=x.ep/\(g.mem i).base=false/\(g.mem i).fell=false) (h3:i∈V x.ep) (h4:CK V x.ep≠i) (h5:x.ep<=nv) :
   CD V nv g i ((g.mem i).idle x.ep true false x.items) [⟨4,i,x.frm,x.ep,x.num,[]⟩]
 | again (x:PX) (hx:x∈g.fly) (h1:x.kind=3) (h2:(g.mem i).ep=x.ep) (h3:(g.mem i).base=true):CD V nv g i (g.mem i) [⟨4,i,x.frm,x.ep,x.num,[]⟩]
 | told (x:PX) (hx:x∈g.fly) (h1:x.kind=4) (h2:(g.mem i).ep=x.ep) (h3:(g.mem i).leads=true) :
   CD V nv g i { g.mem i with waits:=(g.mem i).waits.filter (· != x.frm),serves:=(g.mem i).base&&((g.mem i).waits.filter (· != x.frm)).isEmpty } []
 | store (x:PX) (hx:x∈g.fly) (h1:x.kind=5) (h2:(g.mem i).ep=x.ep) (h3:(g.mem i).base=true) (h4:i≠CK V x.ep) (a:AH) (h5:x.items=[a]) :
   CD V nv g i { g.mem i with items:=Ai (g.mem i).items a } [⟨6,i,x.frm,x.ep,x.num,[]⟩]
 | sure (x:PX) (hx:x∈g.fly) (h1:x.kind=7) (h2:(g.mem i).ep=x.ep) (h3:(g.mem i).base=true):CD V nv g i (g.mem i) [⟨8,i,x.frm,x.ep,x.num,[]⟩]
 | less (x:PX) (hx:x∈g.fly) (h1:(g.mem i).op=1/\x.kind=6\/(g.mem i).op=2/\x.kind=8) (h2:(g.mem i).ep=x.ep) (h3:(g.mem i).num=x.num):CD V nv g i { g.mem i with left:=(g.mem i).left.filter (· != x.frm) } []
 | had (e:Int) (h1:e=(g.mem i).ep+1) (h2:(g.mem i).base=true) (h3:CK V e=i) (h4:e<=nv) (W:List Int) (hw:∀ k,k∈W↔k∈V e/\k≠i) (T:List PX) (hT:∀ y∈T,y.kind=3/\y.ep=e/\y.items=(g.mem i).items/\y.frm=i) :
   CD V nv g i { (g.mem i).idle e true true (g.mem i).items with waits:=W,serves:=W.isEmpty } T
 | took (e:Int) (h1:(g.mem i).ep<e) (h3:CK V e=i) (h4:e<=nv) (T:List PX) (hT:∀ y∈T,y.kind=1/\y.ep=e/\y.items=[]):CD V nv g i ((g.mem i).idle e false true (g.mem i).items) T
 | fall:CD V nv g i { (g.mem i).idle (g.mem i).ep false false [] with fell:=true } []
def PL (g:PG) (k e:Int):Prop:=e<(g.mem k).ep\/((g.mem k).ep=e/\((g.mem k).base=true\/(g.mem k).fell=true))
theorem CD.ep {V nv g i m T} (h:CD V nv g i m T):(g.mem i).ep<=m.ep:=by
 cases h<;>simp_all [PM.idle]<;>grind
theorem PL.step {V nv g i m T k e} (h:CD V nv g i m T) (hb:PL g k e):PL (g.set i m T) k e:=by
 unfold PL PG.set at *
 cases h<;>simp_all [PM.idle]<;>grind
def Bz (V:Int->List Int) (g:PG) (e:Int):Prop:=∀ d,1<=d->d<e->∃ j∈V d,d<(g.mem j).ep
theorem Yn {V nv g i m T} (h:CD V nv g i m T) (j:Int):(g.mem j).ep<=((g.set i m T).mem j).ep:=by
 have:=h.ep
 simp only [PG.set]
 split
 ·rename_i e; subst e; exact this
 ·exact Int.le_refl _
theorem Bz.mono {V g g' e} (h:Bz V g e) (hm:∀ j,(g.mem j).ep<=(g'.mem j).ep):Bz V g' e:=fun d h1 h2=>by
 obtain ⟨j,hj,h3⟩:=h d h1 h2
 exact ⟨j,hj,by have:=hm j; omega⟩
theorem Bz.next {V g e j} (h:Bz V g e) (hj:j∈V e) (hl:e<(g.mem j).ep):Bz V g (e+1):=fun d h1 h2=>by
 by_cases q:d=e
 ·subst q; exact ⟨j,hj,hl⟩
 ·exact h d h1 (by omega)
structure IA (V:Int->List Int) (nv:Int) (g:PG):Prop where
 pos:∀ i,1<=(g.mem i).ep
 lead:∀ i,(g.mem i).leads=true->(g.mem i).ep<=nv/\CK V (g.mem i).ep=i
 view:∀ i,(g.mem i).base=true->(g.mem i).ep<=nv/\i∈V (g.mem i).ep
 serv:∀ i,(g.mem i).serves=true->(g.mem i).base=true/\(g.mem i).leads=true/\(g.mem i).waits=[]
 task:∀ i,(g.mem i).op≠0->(g.mem i).serves=true/\((g.mem i).op=1\/(g.mem i).op=2)/\(g.mem i).num=(g.mem i).cnt
 cnt:∀ i,0<=(g.mem i).cnt
 fell:∀ i,(g.mem i).fell=true->(g.mem i).base=false/\(g.mem i).leads=false
theorem IA.step {V nv g i m T} (h:IA V nv g) (hv:∀ e,1<=e->e<=nv->CK V e∈V e) (hs:CD V nv g i m T):IA V nv (g.set i m T):=by
 obtain ⟨a1,a2,a3,a4,a5,a6,a7⟩:=h
 have b1:=a1 i; have b2:=a2 i; have b3:=a3 i; have b4:=a4 i; have b5:=a5 i; have b6:=a6 i; have b7:=a7 i
 have key:1<=m.ep/\(m.leads=true->m.ep<=nv/\CK V m.ep=i)/\(m.base=true->m.ep<=nv/\i∈V m.ep)/\(m.serves=true->m.base=true/\m.leads=true/\m.waits=[])/\(m.op≠0->m.serves=true/\(m.op=1\/m.op=2)/\m.num=m.cnt)/\0<=m.cnt/\(m.fell=true->m.base=false/\m.leads=false):=by
  cases hs<;>simp_all [PM.idle]<;>grind
 refine ⟨fun j=>?_,fun j=>?_,fun j=>?_,fun j=>?_,fun j=>?_,fun j=>?_,fun j=>?_⟩<;>simp only [PG.set]<;>split<;>grind
structure IB (V:Int->List Int) (g:PG):Prop where
 mem:∀ i,(g.mem i).base=true->Bz V g (g.mem i).ep
 fly:∀ x∈g.fly,x.kind=2\/x.kind=3->Bz V g x.ep
theorem IB.step {V nv g i m T} (h:IB V g) (ha:IA V nv g) (hv:∀ e,1<=e->e<=nv->CK V e∈V e) (hs:CD V nv g i m T):IB V (g.set i m T):=by
 have hm:=Yn hs
 have mono:∀ e,Bz V g e->Bz V (g.set i m T) e:=fun e h=>h.mono hm
 have next:∀ e,Bz V g e->i∈V e->e<m.ep->Bz V (g.set i m T) (e+1):=fun e h h1 h2=>(mono e h).next h1 (by simp [PG.set]; exact h2)
 have b:=h.mem i
 have v:=ha.view i
 have f:=h.fly
 have k1:m.base=true->Bz V (g.set i m T) m.ep:=by
  generalize g.set i m T=g' at *
  cases hs<;>simp_all [PM.idle]<;>grind
 have k2:∀ y∈T,y.kind=2\/y.kind=3->Bz V (g.set i m T) y.ep:=by
  generalize g.set i m T=g' at *
  cases hs<;>simp_all [PM.idle]<;>grind
 refine ⟨fun j=>?_,fun y hy hk=>?_⟩
 ·show ((if j=i then m else g.mem j).base=true->Bz V _ (if j=i then m else g.mem j).ep)
  split
  ·exact k1
  ·exact fun hb=>mono _ (h.mem j hb)
 ·rcases List.mem_append.1 hy with e | e
  ·exact mono _ (h.fly y e hk)
  ·exact k2 y e hk
def HG (g:PG) (i:Int):Prop:=∃ j∈(g.mem i).left,(g.mem i).ep<(g.mem j).ep/\∀ x∈g.fly,((g.mem i).op=1/\x.kind=6\/(g.mem i).op=2/\x.kind=8)->x.frm=j->x.ep=(g.mem i).ep->x.num≠(g.mem i).num
structure IT (V:Int->List Int) (g:PG) (vr:Nat->Int) (now:Int):Prop where
 st:∀ k,vr k≠0->∃ e n,vr k=1000*e+n/\1<=e/\1<=n/\n<=900/\e<=(g.mem (CK V e)).ep/\((g.mem (CK V e)).ep=e->(g.mem (CK V e)).leads=true->(g.mem (CK V e)).base=true/\n<=(g.mem (CK V e)).cnt)
 inj:∀ k l,vr k≠0->vr k=vr l->k=l
 out:∀ k,g.calls.length<=k->vr k=0
 act:∀ i,(g.mem i).op≠0->∃ (k:Nat) (c:PC),(g.mem i).call=(k:Int)/\g.calls[k]? = some c/\vr k=1000*(g.mem i).ep+(g.mem i).num/\c.done<0/\c.op=(g.mem i).op/\c.key=(g.mem i).ti.1/\c.val=(g.mem i).ti.2.1/\(g.mem i).ti.2.2=vr k/\1<=(g.mem i).num/\(g.mem i).num<=900
 dn:∀ (k:Nat) c,g.calls[k]? = some c->0<=c.done->vr k=1000*c.ep+c.num/\1<=c.ep/\1<=c.num/\c.num<=900/\Bz V g c.ep/\c.done<=now/\c.wen<=c.done
 wn:∀ (k:Nat) c,g.calls[k]? = some c->c.wen<=now
 fl:∀ x∈g.fly,5<=x.kind->x.kind<=8->x.ep<=(g.mem (CK V x.ep)).ep/\((g.mem (CK V x.ep)).ep=x.ep->(g.mem (CK V x.ep)).leads=true->x.num<=(g.mem (CK V x.ep)).cnt)
 tm:∀ i,(g.mem i).op≠0->∀ (k l:Nat) c a,(g.mem i).call=(k:Int)->g.calls[k]? = some c->g.calls[l]? = some a->0<=a.done->a.done<c.wen->a.ep<=(g.mem i).ep\/HG g i
 or:∀ (k l:Nat) a b,g.calls[k]? = some a->g.calls[l]? = some b->0<=a.done->0<=b.done->a.done<b.wen->vr k<vr l
theorem CD.task {V nv g i m T} (h:CD V nv g i m T):m.op≠0->m.ep=(g.mem i).ep/\m.op=(g.mem i).op/\m.call=(g.mem i).call/\m.num=(g.mem i).num/\m.ti=(g.mem i).ti/\m.cnt=(g.mem i).cnt:=by
 cases h<;>simp_all [PM.idle]
theorem CD.lead {V nv g i m T} (h:CD V nv g i m T):m.ep=(g.mem i).ep->m.leads=true->(g.mem i).leads=true/\m.cnt=(g.mem i).cnt/\((g.mem i).base=true->m.base=true):=by
 cases h<;>simp_all [PM.idle]<;>grind
theorem CD.new {V nv g i m T} (h:CD V nv g i m T):m.ep≠(g.mem i).ep->m.cnt=0/\m.op=0:=by
 cases h<;>simp_all [PM.idle]<;>grind
theorem CD.talk {V nv g i m T} (h:CD V nv g i m T):∀ y∈T,5<=y.kind->(y.kind=6\/y.kind=8)/\y.frm=i/\y.ep=(g.mem i).ep/\∃ x∈g.fly,5<=x.kind/\x.kind<=8/\x.ep=y.ep/\x.num=y.num:=by
 cases h<;>simp_all [PM.idle]<;>grind
theorem HG.step {V nv g i m T j} (h:CD V nv g i m T) (hb:HG g j) (ho:((g.set i m T).mem j).op≠0):HG (g.set i m T) j:=by
 obtain ⟨k,hk,h1,h2⟩:=hb
 have hm:=Yn h
 have ht:=h.task
 have hta:=h.talk
 have hl:i=j->k∈m.left:=by
  intro e; subst e
  simp only [PG.set,if_true] at ho
  cases h<;>simp_all [PM.idle]<;>grind
 have hep:((g.set i m T).mem j).ep=(g.mem j).ep/\((g.set i m T).mem j).num=(g.mem j).num/\k∈((g.set i m T).mem j).left/\((g.set i m T).mem j).op=(g.mem j).op:=by
  simp only [PG.set] at ho ⊢
  grind
 refine ⟨k,hep.2.2.1,?_,fun x hx hk6 hf he=>?_⟩
 ·rw [hep.1]; have:=hm k; omega
 ·rw [hep.2.1]
  rw [hep.1] at he
  rw [hep.2.2.2] at hk6
  rcases List.mem_append.1 hx with e | e
  ·exact h2 x e hk6 hf he
  ·have:=hta x e (by omega)
   grind
theorem IT.mstep {V nv g i m T vr now} (h:IT V g vr now) (ha:IA V nv g) (hs:CD V nv g i m T):IT V (g.set i m T) vr now:=by
 have hm:=Yn hs
 have ht:=hs.task
 have hl:=hs.lead
 have hn:=hs.new
 have hta:=hs.talk
 have hstk:=fun j=>HG.step (j:=j) hs
 have mono:∀ e,Bz V g e->Bz V (g.set i m T) e:=fun e h=>h.mono hm
 have hmem:∀ j,(g.set i m T).mem j=if j=i then m else g.mem j:=fun _=>rfl
 have hfly:(g.set i m T).fly=g.fly++T:=rfl
 have hc:(g.set i m T).calls=g.calls:=rfl
 have hep:=hs.ep
 generalize g.set i m T=g' at *
 obtain ⟨c1,c2,c3,c4,c5,c6,c7,c8,c9⟩:=h
 have hlead:=ha.lead
 refine ⟨?_,c2,by rw [hc]; exact c3,?_,?_,by rw [hc]; exact c6,?_,?_,by rw [hc]; exact c9⟩
 ·intro k hk
  obtain ⟨e,n,d⟩:=c1 k hk
  refine ⟨e,n,?_⟩
  simp only [hmem]
  grind
 ·simp only [hmem,hc]
  grind
 ·rw [hc]
  grind
 ·intro x hx h5 h8
  rw [hfly] at hx
  simp only [hmem]
  grind
 ·intro j ho k l c a
  have:=c8 j
  have:=hstk j
  simp only [hmem,hc] at *
  grind
theorem HG.less {g:PG} {f:List PX} {i:Int} (h:∀ x∈f,x∈g.fly) (hb:HG g i):HG { g with fly:=f } i:=by
 obtain ⟨j,h1,h2,h3⟩:=hb
 exact ⟨j,h1,h2,fun x hx=>h3 x (h x hx)⟩
theorem IT.drop {V g vr now f} (h:IT V g vr now) (hf:∀ x∈f,x∈g.fly):IT V { g with fly:=f } vr now:=by
 have hs:=fun i=>HG.less (i:=i) hf
 obtain ⟨c1,c2,c3,c4,c5,c6,c7,c8,c9⟩:=h
 refine ⟨c1,c2,c3,c4,c5,c6,fun x hx=>c7 x (hf x hx),?_,c9⟩
 intro i ho k l c a h1 h2 h3 h4 h5
 exact (c8 i ho k l c a h1 h2 h3 h4 h5).imp id (hs i)
theorem IT.call {V g vr now} {c:PC} (h:IT V g vr now) (h1:c.done=-1) (h2:c.wen=now):IT V { g with calls:=g.calls++[c] } vr now:=by
 obtain ⟨c1,c2,c3,c4,c5,c6,c7,c8,c9⟩:=h
 have hg:∀ (k:Nat) d,(g.calls++[c])[k]? = some d->g.calls[k]? = some d\/(k=g.calls.length/\d=c):=by grind
 have hg2:∀ (k:Nat) d,g.calls[k]? = some d->(g.calls++[c])[k]? = some d:=by grind
 have hst:∀ i,HG g i->HG { g with calls:=g.calls++[c] } i:=fun i h=>h
 refine ⟨c1,c2,?_,?_,?_,?_,c7,?_,?_⟩
 ·grind
 ·intro i ho
  obtain ⟨k,d,q1,q2,q3⟩:=c4 i ho
  exact ⟨k,d,q1,hg2 k d q2,q3⟩
 ·intro k d hk hd
  rcases hg k d hk with e | ⟨e,e2⟩
  ·exact c5 k d e hd
  ·subst e2; omega
 ·intro k d hk
  rcases hg k d hk with e | ⟨e,e2⟩
  ·exact c6 k d e
  ·subst e2; omega
 ·intro i ho k l d a q1 q2 q3 q4 q5
  obtain ⟨k',d',r1,r2,_⟩:=c4 i ho
  have:k'=k:=by simp only at q1; omega
  subst this
  have q2':=hg2 k' d' r2
  simp only at q2
  rw [q2'] at q2
  cases q2
  rcases hg l a q3 with e | ⟨e,e2⟩
  ·exact (c8 i ho _ l _ a q1 r2 e q4 q5).imp id (hst i)
  ·subst e2; omega
 ·intro k l a b q1 q2 q3 q4 q5
  rcases hg k a q1 with e | ⟨e,e2⟩
  ·rcases hg l b q2 with f | ⟨f,f2⟩
   ·exact c9 k l a b e f q3 q4 q5
   ·subst f2; omega
  ·subst e2; omega
def Lq (g:PG) (i:Int) (c:PC) (L:List Int) (a:AH):PM:={ g.mem i with cnt:=(g.mem i).cnt+1,op:=c.op,call:=(g.calls.length:Int),num:=(g.mem i).cnt+1,ti:=a,left:=L }
theorem IT.start {V nv g vr now} {i:Int} {c:PC} {L:List Int} {a:AH} {T:List PX} (h:IT V g vr now) (hia:IA V nv g) (hib:IB V g) (h1:c.done=-1) (h2:c.wen=now) (h3:(g.mem i).serves=true) (h4:(g.mem i).op=0) (h5:c.op=1\/c.op=2) (h6:(g.mem i).cnt<900) (hL:∀ k,k∈L↔k∈V (g.mem i).ep/\k≠i) (hA:a=(c.key,c.val,1000*(g.mem i).ep+((g.mem i).cnt+1)))
  (hT:∀ y∈T,(y.kind=5/\c.op=1/\y.items=[a]\/y.kind=7/\c.op=2)/\y.ep=(g.mem i).ep/\y.num=(g.mem i).cnt+1/\y.frm=i) :
  IT V { (g.set i (Lq g i c L a) T) with calls:=g.calls++[c] } (fun k=>if k=g.calls.length then 1000*(g.mem i).ep+((g.mem i).cnt+1) else vr k) now:=by
 obtain ⟨c1,c2,c3,c4,c5,c6,c7,c8,c9⟩:=h
 have hg:∀ (k:Nat) d,(g.calls++[c])[k]? = some d->g.calls[k]? = some d/\k<g.calls.length\/(k=g.calls.length/\d=c):=by grind
 have hg2:∀ (k:Nat) d,g.calls[k]? = some d->(g.calls++[c])[k]? = some d/\k<g.calls.length:=by grind
 obtain ⟨s1,s2,s3⟩:=hia.serv i h3
 obtain ⟨l1,l2⟩:=hia.lead i s2
 have hpos:=hia.pos i
 have hcnt:=hia.cnt i
 have hz:vr g.calls.length=0:=c3 _ (Nat.le_refl _)
 generalize hq:({ (g.set i (Lq g i c L a) T) with calls:=g.calls++[c] }:PG)=g'
 have hmem:∀ j,g'.mem j=if j=i then Lq g i c L a else g.mem j:=by subst hq; intro j; rfl
 have hfly:g'.fly=g.fly++T:=by subst hq; rfl
 have hcal:g'.calls=g.calls++[c]:=by subst hq; rfl
 have hep:∀ j,(g'.mem j).ep=(g.mem j).ep/\(g'.mem j).leads=(g.mem j).leads/\(g'.mem j).base=(g.mem j).base/\(g.mem j).cnt<=(g'.mem j).cnt:=by
  intro j; rw [hmem]; split
  ·rename_i e; subst e; exact ⟨rfl,rfl,rfl,by simp only [Lq]; omega⟩
  ·exact ⟨rfl,rfl,rfl,Int.le_refl _⟩
 have hi:(g'.mem i).cnt=(g.mem i).cnt+1/\(g'.mem i).op=c.op/\(g'.mem i).call=(g.calls.length:Int)/\(g'.mem i).num=(g.mem i).cnt+1/\(g'.mem i).ti=a/\(g'.mem i).left=L:=by rw [hmem,if_pos rfl]; exact ⟨rfl,rfl,rfl,rfl,rfl,rfl⟩
 have hj:∀ j,j≠i->g'.mem j=g.mem j:=fun j e=>by rw [hmem,if_neg e]
 have rmono:∀ e,Bz V g e->Bz V g' e:=fun e h=>h.mono fun j=>by rw [(hep j).1]; exact Int.le_refl _
 have stuck:∀ e,Bz V g e->(g.mem i).ep<e->HG g' i:=fun e hr he=>by
  obtain ⟨j,hjv,hjl⟩:=hr (g.mem i).ep hpos he
  have hne:j≠i:=fun e=>by subst e; omega
  refine ⟨j,by rw [hi.2.2.2.2.2]; exact (hL j).2 ⟨hjv,hne⟩,by rw [(hep i).1,(hep j).1]; exact hjl,fun x hx hk hf hxe=>?_⟩
  rw [(hep i).1] at hxe
  rw [hi.2.2.2.1]
  rw [hfly] at hx
  rcases List.mem_append.1 hx with q | q
  ·have:=c7 x q (by omega) (by omega)
   rw [hxe,l2] at this
   have:=this.2 rfl s2
   omega
  ·have:=hT x q
   omega
 refine ⟨?_,?_,?_,?_,?_,?_,?_,?_,?_⟩
 ·intro k hk
  by_cases e:k=g.calls.length
  ·subst e
   simp only [if_true]
   refine ⟨(g.mem i).ep,(g.mem i).cnt+1,rfl,hpos,by omega,by omega,?_,fun _ _=>?_⟩
   ·rw [(hep _).1,l2]; exact Int.le_refl _
   ·rw [l2,hi.1,(hep i).2.2.1]; exact ⟨s1,Int.le_refl _⟩
  ·simp only [if_neg e] at hk ⊢
   obtain ⟨e,n,d1,d2,d3,d4,d5,d6⟩:=c1 k hk
   refine ⟨e,n,d1,d2,d3,d4,by rw [(hep _).1]; exact d5,fun q1 q2=>?_⟩
   obtain ⟨p1,p2,p3,p4⟩:=hep (CK V e)
   rw [p1] at q1; rw [p2] at q2
   have:=d6 q1 q2
   exact ⟨by rw [p3]; exact this.1,by omega⟩
 ·have hdist:∀ k,k≠g.calls.length->vr k≠1000*(g.mem i).ep+((g.mem i).cnt+1):=fun k hk e=>by
   obtain ⟨e',n,d1,d2,d3,d4,d5,d6⟩:=c1 k (by omega)
   have:e'=(g.mem i).ep:=by omega
   subst this
   rw [l2] at d6
   have:=d6 rfl s2
   omega
  intro k l hk hkl
  by_cases e:k=g.calls.length
  ·by_cases f:l=g.calls.length
   ·omega
   ·rw [if_pos e,if_neg f] at hkl
    exact absurd hkl.symm (hdist l f)
  ·rw [if_neg e] at hk hkl
   by_cases f:l=g.calls.length
   ·rw [if_pos f] at hkl
    exact absurd hkl (hdist k e)
   ·rw [if_neg f] at hkl
    exact c2 k l hk hkl
 ·intro k hk
  rw [hcal] at hk
  simp only [List.length_append,List.length_cons,List.length_nil] at hk
  rw [if_neg (by omega)]
  exact c3 k (by omega)
 ·intro j ho
  by_cases e:j=i
  ·subst e
   refine ⟨g.calls.length,c,hi.2.2.1,by rw [hcal]; simp,?_,by omega,hi.2.1.symm,?_⟩
   ·rw [if_pos rfl,(hep _).1,hi.2.2.2.1]
   ·rw [hi.2.2.2.2.1,hi.2.2.2.1,if_pos rfl,hA]
    exact ⟨rfl,rfl,rfl,by omega,by omega⟩
  ·rw [hj j e] at ho ⊢
   obtain ⟨k,d,q1,q2,q3⟩:=c4 j ho
   have:=hg2 k d q2
   exact ⟨k,d,q1,by rw [hcal]; exact this.1,by rw [if_neg (by omega)]; exact q3⟩
 ·intro k d hk hd
  rw [hcal] at hk
  rcases hg k d hk with ⟨e,e1⟩ | ⟨e,e2⟩
  ·obtain ⟨d1,d2,d3,d4,d5,d6,d7⟩:=c5 k d e hd
   exact ⟨by rw [if_neg (by omega)]; exact d1,d2,d3,d4,rmono _ d5,d6,d7⟩
  ·subst e2; omega
 ·intro k d hk
  rw [hcal] at hk
  rcases hg k d hk with ⟨e,e1⟩ | ⟨e,e2⟩
  ·exact c6 k d e
  ·subst e2; omega
 ·intro x hx h5 h8
  rw [hfly] at hx
  obtain ⟨p1,p2,p3,p4⟩:=hep (CK V x.ep)
  rcases List.mem_append.1 hx with q | q
  ·have:=c7 x q h5 h8
   rw [p1,p2]
   exact ⟨this.1,fun q1 q2=>Int.le_trans (this.2 q1 q2) p4⟩
  ·obtain ⟨_,q2,q3,_⟩:=hT x q
   rw [q2,l2,(hep i).1,q3,hi.1]
   exact ⟨Int.le_refl _,fun _ _=>Int.le_refl _⟩
 ·intro j ho k l d b q1 q2 q3 q4 q5
  rw [hcal] at q2 q3
  rcases hg l b q3 with ⟨e,e1⟩ | ⟨e,e2⟩
  ·by_cases hji:j=i
   ·subst hji
    rw [(hep j).1]
    by_cases hle:b.ep<=(g.mem j).ep
    ·exact .inl hle
    ·exact .inr (stuck b.ep (c5 l b e q4).2.2.2.2.1 (by omega))
   ·rw [hj j hji] at ho q1 ⊢
    obtain ⟨k',d',r1,r2,_⟩:=c4 j ho
    have:k'=k:=by omega
    subst this
    have:=hg2 k' d' r2
    rw [this.1] at q2
    cases q2
    rcases c8 j ho _ l _ b q1 r2 e q4 q5 with r | ⟨w,w1,w2,w3⟩
    ·exact .inl r
    ·right
     refine ⟨w,by rw [hj j hji]; exact w1,by rw [hj j hji,(hep w).1]; exact w2,fun x hx=>?_⟩
     rw [hj j hji]
     rw [hfly] at hx
     rcases List.mem_append.1 hx with q | q
     ·exact w3 x q
     ·have:=hT x q
      intro hk; omega
  ·subst e2; omega
 ·intro k l b d q1 q2 q3 q4 q5
  rw [hcal] at q1 q2
  rcases hg k b q1 with ⟨e,e1⟩ | ⟨e,e2⟩
  ·rcases hg l d q2 with ⟨f,f1⟩ | ⟨f,f2⟩
   ·rw [if_neg (by omega),if_neg (by omega)]
    exact c9 k l b d e f q3 q4 q5
   ·subst f2; omega
  ·subst e2; omega
def P6 (m:PM):PM:={ m with items:=if m.op=1 then Ai m.items m.ti else m.items,op:=0,call:=0,num:=0,ti:=(ByteArray.empty,ByteArray.empty,0),left:=[] }
def a_ (m:PM):AH:=if m.op=1 then m.ti else BI m.items m.ti.1
def Mg (m:PM) (c:PC) (now:Int):PC:={ c with done:=now,ver:=(a_ m).2.2,ep:=m.ep,num:=m.num,got:=if c.op=2 then (a_ m).2.1 else c.got }
theorem IT.fin {V nv g vr now} {i:Int} {k:Nat} {c:PC} (h:IT V g vr now) (hia:IA V nv g) (hib:IB V g) (ho:(g.mem i).op≠0) (hl:(g.mem i).left=[]) (hc:(g.mem i).call=(k:Int)) (hk:g.calls[k]? = some c) :
  IT V { (g.set i (P6 (g.mem i)) []) with calls:=g.calls.set k (Mg (g.mem i) c now) } vr now:=by
 obtain ⟨c1,c2,c3,c4,c5,c6,c7,c8,c9⟩:=h
 obtain ⟨t1,t2,t3⟩:=hia.task i ho
 obtain ⟨s1,s2,s3⟩:=hia.serv i t1
 obtain ⟨l1,l2⟩:=hia.lead i s2
 have hpos:=hia.pos i
 obtain ⟨k0,d0,r1,r2,r3,r4,r5,r6,r7,r8,r9,r10⟩:=c4 i ho
 have hk0:k0=k:=by omega
 subst hk0
 rw [hk] at r2
 cases r2
 have hkl:k0<g.calls.length:=(List.getElem?_eq_some_iff.1 hk).1
 have hcal0:∀ (l:Nat) d,(g.calls.set k0 (Mg (g.mem i) c now))[l]? = some d->(l=k0/\d=Mg (g.mem i) c now)\/(l≠k0/\g.calls[l]? = some d):=by
  intro l d hd
  by_cases e:l=k0
  ·subst e
   rw [List.getElem?_set_self hkl] at hd
   exact .inl ⟨rfl,by cases hd; rfl⟩
  ·rw [List.getElem?_set_ne (Ne.symm e)] at hd
   exact .inr ⟨e,hd⟩
 have hcal1:∀ (l:Nat) d,l≠k0->g.calls[l]? = some d->(g.calls.set k0 (Mg (g.mem i) c now))[l]? = some d:=by
  intro l d hne hd
  rw [List.getElem?_set_ne (Ne.symm hne)]
  exact hd
 generalize hq:({ (g.set i (P6 (g.mem i)) []) with calls:=g.calls.set k0 (Mg (g.mem i) c now) }:PG)=g'
 have hmem:∀ j,g'.mem j=if j=i then P6 (g.mem i) else g.mem j:=by subst hq; intro j; rfl
 have hfly:g'.fly=g.fly:=by subst hq; exact List.append_nil _
 have hcal:g'.calls=g.calls.set k0 (Mg (g.mem i) c now):=by subst hq; rfl
 have hep:∀ j,(g'.mem j).ep=(g.mem j).ep/\(g'.mem j).leads=(g.mem j).leads/\(g'.mem j).base=(g.mem j).base/\(g.mem j).cnt=(g'.mem j).cnt:=by
  intro j; rw [hmem]; split
  ·rename_i e; subst e; exact ⟨rfl,rfl,rfl,rfl⟩
  ·exact ⟨rfl,rfl,rfl,rfl⟩
 have hj:∀ j,j≠i->g'.mem j=g.mem j:=fun j e=>by rw [hmem,if_neg e]
 have hi0:(g'.mem i).op=0:=by rw [hmem,if_pos rfl]; rfl
 have rmono:∀ e,Bz V g e->Bz V g' e:=fun e h=>h.mono fun j=>by rw [(hep j).1]; exact Int.le_refl _
 have hact:∀ j,j≠i->(g.mem j).op≠0->∀ (l:Nat),(g.mem j).call=(l:Int)->l≠k0:=fun j hji hoj l hl e=>by
  subst e
  obtain ⟨u1,u2,u3⟩:=hia.task j hoj
  obtain ⟨v1,v2,v3⟩:=hia.serv j u1
  obtain ⟨w1,w2⟩:=hia.lead j v2
  obtain ⟨k',d',q1,q2,q3,q4,q5,q6,q7,q8,q9,q10⟩:=c4 j hoj
  have:k'=l:=by omega
  subst this
  have:(g.mem j).ep=(g.mem i).ep:=by omega
  rw [this,l2] at w2
  exact hji w2.symm
 refine ⟨?_,c2,?_,?_,?_,?_,?_,?_,?_⟩
 ·intro l hl0
  obtain ⟨e,n,d1,d2,d3,d4,d5,d6⟩:=c1 l hl0
  obtain ⟨p1,p2,p3,p4⟩:=hep (CK V e)
  exact ⟨e,n,d1,d2,d3,d4,by rw [p1]; exact d5,fun q1 q2=>by rw [p3,<- p4]; exact d6 (by rw [<- p1]; exact q1) (by rw [<- p2]; exact q2)⟩
 ·intro l hl0
  rw [hcal,List.length_set] at hl0
  exact c3 l hl0
 ·intro j hoj
  by_cases e:j=i
  ·subst e; exact absurd hi0 hoj
  ·rw [hj j e] at hoj ⊢
   obtain ⟨k',d',q1,q2,q3⟩:=c4 j hoj
   exact ⟨k',d',q1,by rw [hcal]; exact hcal1 k' d' (hact j e hoj k' q1) q2,q3⟩
 ·intro l d hd hdn
  rw [hcal] at hd
  rcases hcal0 l d hd with ⟨e,e2⟩ | ⟨e,e2⟩
  ·subst e; subst e2
   exact ⟨r3,hpos,r9,r10,rmono _ (hib.mem i s1),Int.le_refl _,c6 l c hk⟩
  ·obtain ⟨d1,d2,d3,d4,d5,d6,d7⟩:=c5 l d e2 hdn
   exact ⟨d1,d2,d3,d4,rmono _ d5,d6,d7⟩
 ·intro l d hd
  rw [hcal] at hd
  rcases hcal0 l d hd with ⟨e,e2⟩ | ⟨e,e2⟩
  ·subst e; subst e2; exact c6 l c hk
  ·exact c6 l d e2
 ·intro x hx h5 h8
  rw [hfly] at hx
  obtain ⟨p1,p2,p3,p4⟩:=hep (CK V x.ep)
  have:=c7 x hx h5 h8
  rw [p1,p2,<- p4]
  exact this
 ·intro j hoj k1 l d b q1 q2 q3 q4 q5
  by_cases e:j=i
  ·subst e; exact absurd hi0 hoj
  ·rw [hj j e] at hoj q1 ⊢
   rw [hcal] at q2 q3
   have hne:=hact j e hoj k1 q1
   rcases hcal0 k1 d q2 with ⟨f,_⟩ | ⟨f,f2⟩
   ·exact absurd f hne
   ·rcases hcal0 l b q3 with ⟨u,u2⟩ | ⟨u,u2⟩
    ·subst u2
     have:=c6 k1 d f2
     simp only [Mg] at q5
     omega
    ·rcases c8 j hoj k1 l d b q1 f2 u2 q4 q5 with r | ⟨w,w1,w2,w3⟩
     ·exact .inl r
     ·exact .inr ⟨w,by rw [hj j e]; exact w1,by rw [hj j e,(hep w).1]; exact w2,by rw [hj j e,hfly]; exact w3⟩
 ·intro k1 l a b q1 q2 q3 q4 q5
  rw [hcal] at q1 q2
  rcases hcal0 k1 a q1 with ⟨e,e2⟩ | ⟨e,e2⟩
  ·subst e2
   have:b.wen<=now:=by
    rcases hcal0 l b q2 with ⟨f,f2⟩ | ⟨f,f2⟩
    ·subst f2; exact c6 k0 c hk
    ·exact c6 l b f2
   simp only [Mg] at q5
   omega
  ·rcases hcal0 l b q2 with ⟨f,f2⟩ | ⟨f,f2⟩
   ·subst f; subst f2
    have hlt:=q5
    simp only [Mg] at hlt
    have:=c8 i ho l k1 c a hc hk e2 q3 hlt
    rcases this with r | ⟨w,w1,_⟩
    ·obtain ⟨d1,d2,d3,d4,d5,d6,d7⟩:=c5 k1 a e2 q3
     obtain ⟨e',n,x1,x2,x3,x4,x5,x6⟩:=c1 k1 (by omega)
     have hee:e'=a.ep:=by omega
     subst hee
     by_cases heq:a.ep=(g.mem i).ep
     ·rw [heq,l2] at x6
      have x7:=x6 rfl s2
      have hne:vr k1≠vr l:=fun q=>e (c2 k1 l (by omega) q)
      omega
     ·omega
    ·rw [hl] at w1; cases w1
   ·exact c9 k1 l a b e2 f2 q3 q4 q5

structure IZ (V:Int->List Int) (g:PG) (vr:Nat->Int):Prop where
 w1:∀ i,(g.mem i).leads=true->(g.mem i).base=true->∀ k∈V (g.mem i).ep,k≠i->k∉(g.mem i).waits->PL g k (g.mem i).ep
 w2:∀ x∈g.fly,x.kind=4->PL g x.frm x.ep
 w3:∀ k e n,vr k≠0->vr k=1000*e+n->1<=n->n<=900->∀ j∈V e,j≠CK V e->PL g j e
 z1:∀ k,(g.mem k).base=true->(g.mem k).ep<=(g.mem (CK V (g.mem k).ep)).ep/\((g.mem (CK V (g.mem k).ep)).ep=(g.mem k).ep->(g.mem (CK V (g.mem k).ep)).leads=true->(g.mem (CK V (g.mem k).ep)).base=true)
 z2:∀ x∈g.fly,x.kind=3\/5<=x.kind->x.ep<=(g.mem (CK V x.ep)).ep/\((g.mem (CK V x.ep)).ep=x.ep->(g.mem (CK V x.ep)).leads=true->(g.mem (CK V x.ep)).base=true)
theorem IZ.mstep {V nv g i m T vr} (h:IZ V g vr) (ha:IA V nv g) (hs:CD V nv g i m T):IZ V (g.set i m T) vr:=by
 have hb:=fun k e=>PL.step (k:=k) (e:=e) hs
 have hm:=Yn hs
 have hmem:∀ j,(g.set i m T).mem j=if j=i then m else g.mem j:=fun _=>rfl
 have hfly:(g.set i m T).fly=g.fly++T:=rfl
 have hep:=hs.ep
 have hlead:=ha.lead
 have li:=ha.lead i
 obtain ⟨w1,w2,w3,z1,z2⟩:=h
 have bi:m.base=true->PL (g.set i m T) i m.ep:=fun hb=>.inr ⟨by simp [PG.set],.inl (by simp [PG.set]; exact hb)⟩
 generalize hg':g.set i m T=g' at *
 refine ⟨?_,?_,fun k e n h1 h2 h3 h4 j h5 h6=>hb _ _ (w3 k e n h1 h2 h3 h4 j h5 h6),?_,?_⟩
 ·have key:m.leads=true->m.base=true->∀ k∈V m.ep,k≠i->k∉m.waits->PL g' k m.ep:=by
   have w1i:=w1 i
   clear hg' z1 z2 w1 w3 hm hmem hfly bi
   cases hs<;>simp_all [PM.idle]<;>grind
  intro j
  rw [hmem]
  split
  ·rename_i e; subst e; exact key
  ·exact fun h1 h2 k h3 h4 h5=>hb _ _ (w1 j h1 h2 k h3 h4 h5)
 ·have key:∀ y∈T,y.kind=4->PL g' y.frm y.ep:=by
   clear hg' z1 z2 w1 w3 hm hmem hfly
   cases hs<;>simp_all [PM.idle]<;>grind
  intro x hx hk
  rw [hfly] at hx
  rcases List.mem_append.1 hx with q | q
  ·exact hb _ _ (w2 x q hk)
  ·exact key x q hk
 ·have hl:=hs.lead
  have key:m.base=true->m.ep<=(g'.mem (CK V m.ep)).ep/\((g'.mem (CK V m.ep)).ep=m.ep->(g'.mem (CK V m.ep)).leads=true->(g'.mem (CK V m.ep)).base=true):=by
   have z1i:=z1 i
   simp only [hmem] at hm ⊢
   clear hg' w1 w2 w3 hfly bi hb z1 hmem
   cases hs<;>simp_all [PM.idle]<;>grind
  intro k
  rw [hmem k]
  split
  ·exact key
  ·have:=z1 k
   simp only [hmem] at hm ⊢
   grind
 ·have hl:=hs.lead
  have key:∀ y∈T,y.kind=3\/5<=y.kind->y.ep<=(g'.mem (CK V y.ep)).ep/\((g'.mem (CK V y.ep)).ep=y.ep->(g'.mem (CK V y.ep)).leads=true->(g'.mem (CK V y.ep)).base=true):=by
   simp only [hmem] at hm ⊢
   clear hg' w1 w2 w3 hfly bi hb hmem
   cases hs<;>simp_all [PM.idle]<;>grind
  intro x hx hk
  rw [hfly] at hx
  rcases List.mem_append.1 hx with q | q
  ·have:=z2 x q hk
   simp only [hmem] at hm ⊢
   grind
  ·exact key x q hk
def vl (s:List AH) (k:List UInt8):Int:=((s.find? fun a=>a.1.toList==k).getD (ByteArray.empty,ByteArray.empty,0)).2.2
theorem eE (s:List AH) (k:ByteArray):vl s k.toList=(BI s k).2.2:=rfl
theorem aM {s:List AH} (h:BR s=true) (a:AH) (k:List UInt8):vl s k<=vl (Ai s a) k:=by
 unfold vl
 cases q:s.find? (fun b=>b.1.toList==k) with
 | none =>
  cases r:(Ai s a).find? (fun b=>b.1.toList==k) with
  | none=>exact Int.le_refl _
  | some b =>
   have:=(CS.1 (Gs (a:=a) h)).1 b (List.mem_of_find?_eq_some r)
   unfold Hu at this
   simp only [Bool.and_eq_true,decide_eq_true_eq] at this
   show (0:Int)<=b.2.2
   omega
 | some b =>
  have hb:=List.mem_of_find?_eq_some q
  have hk:b.1.toList=k:=by simpa using List.find?_some q
  have:=ku (a:=a) h hb
  subst hk
  exact this
theorem TD {s:List AH} {a:AH} (h:BR s=true) (h1:1<=a.2.2) (hv:a.2.2<=vl s a.1.toList):Ai s a=s:=by
 have:=(gw (CS.1 h).2.1 h1).1 hv
 unfold Ai
 rw [if_pos this]
theorem ba {s:List AH} {a:AH} (h:BR s=true) (h1:1<=a.2.2) (he:BI (Ai s a) a.1=a):Ai (Ai s a) a=Ai s a :=
 TD (Gs h) h1 (by rw [eE,he]; exact Int.le_refl _)
theorem f5 {s:List AH} {a:AH} (h:BR s=true) (ha:a∈s):1<=a.2.2:=by
 have:=(CS.1 h).1 a ha
 unfold Hu at this
 simp only [Bool.and_eq_true,decide_eq_true_eq] at this
 omega
structure IE (V:Int->List Int) (g:PG):Prop where
 ok:∀ i,BR (g.mem i).items=true
 okx:∀ x∈g.fly,BR x.items=true
 e1:∀ i,(g.mem i).leads=true->(g.mem i).base=true->(g.mem i).serves=false->∀ x∈g.fly,x.kind=3->x.ep=(g.mem i).ep->x.items=(g.mem i).items
 e2:∀ i,(g.mem i).leads=true->(g.mem i).base=true->∀ j,(g.mem j).base=true->(g.mem j).ep=(g.mem i).ep->(g.mem j).items=(g.mem i).items\/((g.mem i).op=1/\(g.mem j).items=Ai (g.mem i).items (g.mem i).ti)
 e3:∀ i,(g.mem i).op=1->∀ j,j≠i->(g.mem j).base=true->(g.mem j).ep=(g.mem i).ep->(j∉(g.mem i).left\/∃ x∈g.fly,x.kind=6/\x.frm=j/\x.ep=(g.mem i).ep/\x.num=(g.mem i).num)->(g.mem j).items=Ai (g.mem i).items (g.mem i).ti
 e4:∀ x∈g.fly,x.kind=5->∀ a,x.items=[a]->(g.mem (CK V x.ep)).leads=true->(g.mem (CK V x.ep)).base=true->(g.mem (CK V x.ep)).ep=x.ep ->
  ((g.mem (CK V x.ep)).op=1->x.num=(g.mem (CK V x.ep)).num->a=(g.mem (CK V x.ep)).ti)/\(¬ ((g.mem (CK V x.ep)).op=1/\x.num=(g.mem (CK V x.ep)).num)->a.2.2<=vl (g.mem (CK V x.ep)).items a.1.toList)
 e5:∀ i,(g.mem i).op=1->BI (Ai (g.mem i).items (g.mem i).ti) (g.mem i).ti.1=(g.mem i).ti/\1<=(g.mem i).ti.2.2
set_option maxHeartbeats 1000000 in
theorem IE.mstep {V nv g i m T vr} (h:IE V g) (ha:IA V nv g) (hz:IZ V g vr) (hs:CD V nv g i m T):IE V (g.set i m T):=by
 have hmem:∀ j,(g.set i m T).mem j=if j=i then m else g.mem j:=fun _=>rfl
 have hfly:(g.set i m T).fly=g.fly++T:=rfl
 have hlead:=ha.lead
 have hserv:=ha.serv
 have htask:=ha.task
 obtain ⟨w1,w2,w3,z1,z2⟩:=hz
 obtain ⟨ok,okx,e1,e2,e3,e4,e5⟩:=h
 have hni:=Mk
 have fresh:∀ x:PX,((g.mem i).ep<x.ep\/(g.mem i).ep=x.ep/\(g.mem i).base=false/\(g.mem i).fell=false)->∀ f,(g.mem f).leads=true->(g.mem f).base=true->(g.mem f).ep=x.ep->i∈V x.ep->i≠f->(g.mem f).serves=false:=by
  intro x hx f h1 h2 h3 h4 h5
  cases q:(g.mem f).serves with
  | false=>rfl
  | true =>
   have hw:=(hserv f q).2.2
   have:=w1 f h1 h2 i (by rw [h3]; exact h4) h5 (by rw [hw]; simp)
   rw [h3] at this
   unfold PL at this
   grind
 have p1:=fun a=>Gs (a:=a) (ok i)
 have li:=hlead i
 have si:=hserv i
 have ti:=htask i
 have hok:BR m.items=true:=by
  clear e1 e2 e3 e4 e5 w1 w2 w3 z1 z2 fresh hmem hfly hlead hserv htask
  cases hs<;>simp_all [PM.idle]
 have hokx:∀ x∈T,BR x.items=true:=by
  clear e1 e2 e3 e4 e5 w1 w2 w3 z1 z2 fresh hmem hfly hlead hserv htask
  cases hs<;>simp_all [PM.idle]<;>grind
 have k1:m.leads=true->m.base=true->m.serves=false->∀ x∈g.fly++T,x.kind=3->x.ep=m.ep->x.items=m.items:=by
  have e1i:=e1 i
  clear e1 e2 e3 e4 e5 w1 w2 w3 z1 fresh hmem hfly hlead hserv htask okx p1 hok hokx
  cases hs<;>simp_all [PM.idle]<;>grind
 have k1b:∀ f,f≠i->(g.mem f).leads=true->∀ x∈T,x.kind=3->x.ep≠(g.mem f).ep:=by
  intro f hf hl
  have lf:=hlead f hl
  clear e1 e2 e3 e4 e5 w1 w2 w3 z1 z2 fresh hmem hfly hlead hserv htask okx p1 hok hokx k1
  cases hs<;>simp_all [PM.idle]<;>grind
 have k2a:m.leads=true->m.base=true->∀ j,j≠i->(g.mem j).base=true->(g.mem j).ep=m.ep->(g.mem j).items=m.items\/(m.op=1/\(g.mem j).items=Ai m.items m.ti):=by
  have e2i:=e2 i
  clear e1 e2 e3 e4 e5 w1 w2 w3 z2 fresh hmem hfly hlead hserv htask okx p1 hok hokx k1 k1b
  intro q1 q2 j hj q3 q4
  have z:=z1 j q3
  clear z1
  cases hs<;>(try dsimp only [PM.idle] at *)<;>grind
 have k2b:∀ f,f≠i->(g.mem f).leads=true->(g.mem f).base=true->m.base=true->m.ep=(g.mem f).ep->m.items=(g.mem f).items\/((g.mem f).op=1/\m.items=Ai (g.mem f).items (g.mem f).ti):=by
  intro f hf h1 h2 h3 h4
  have lf:=hlead f h1
  have e2f:=e2 f h1 h2 i
  have e5f:=e5 f
  have e1f:=e1 f h1 h2
  have fr:=fun (x:PX) hx=>fresh x hx f h1 h2
  have st:∀ a,1<=a.2.2->a.2.2<=vl (g.mem f).items a.1.toList->Ai (g.mem f).items a=(g.mem f).items:=fun a b c=>TD (ok f) b c
  have st2:∀ a,1<=a.2.2->a.2.2<=vl (g.mem f).items a.1.toList->Ai (Ai (g.mem f).items (g.mem f).ti) a=Ai (g.mem f).items (g.mem f).ti:=fun a b c=>TD (Gs (ok f)) b (Int.le_trans c (aM (ok f) _ _))
  have tw:=ba (a:=(g.mem f).ti) (ok f)
  have ov:∀ x∈g.fly,∀ a,x.items=[a]->1<=a.2.2:=fun x hx a e=>f5 (okx x hx) (by rw [e]; simp)
  clear e1 e2 e3 e5 w1 w2 w3 z1 z2 fresh hmem hfly hlead hserv htask okx p1 hok hokx k1 k1b k2a
  cases hs<;>(try dsimp only [PM.idle] at *)<;>grind
 have k3a:m.op=1->∀ j,j≠i->(g.mem j).base=true->(g.mem j).ep=m.ep->(j∉m.left\/∃ x∈g.fly,x.kind=6/\x.frm=j/\x.ep=m.ep/\x.num=m.num)->(g.mem j).items=Ai m.items m.ti:=by
  have e3i:=e3 i
  clear e1 e2 e3 e4 e5 w1 w2 w3 z1 z2 fresh hmem hfly hlead hserv htask okx p1 hok hokx k1 k1b k2a k2b
  intro q1 j q2 q3 q4 q5
  have e3j:=fun a b=>e3i a j q2 q3 b
  clear e3i
  cases hs<;>(try dsimp only [PM.idle] at *)<;>grind
 have k3b:∀ f,f≠i->(g.mem f).op=1->m.base=true->m.ep=(g.mem f).ep->(i∉(g.mem f).left\/∃ x∈g.fly++T,x.kind=6/\x.frm=i/\x.ep=(g.mem f).ep/\x.num=(g.mem f).num)->m.items=Ai (g.mem f).items (g.mem f).ti:=by
  intro f hf ho h3 h4 h5
  have h0:=htask f (by omega)
  obtain ⟨h2,h1,h6⟩:=hserv f h0.1
  have lf:=hlead f h1
  have e2f:=e2 f h1 h2 i
  have e3f:=fun a b c=>e3 f ho i (Ne.symm hf) a b (.inl c)
  have e3g:(g.mem i).base=true->(g.mem i).ep=(g.mem f).ep->∀ x∈g.fly,x.kind=6->x.frm=i->x.ep=(g.mem f).ep->x.num=(g.mem f).num->(g.mem i).items=Ai (g.mem f).items (g.mem f).ti:=fun a b x hx c1 c2 c3 c4=>e3 f ho i (Ne.symm hf) a b (.inr ⟨x,hx,c1,c2,c3,c4⟩)
  have e5f:=e5 f ho
  have fr:=fun (x:PX) hx=>fresh x hx f h1 h2
  have st2:∀ a,1<=a.2.2->a.2.2<=vl (g.mem f).items a.1.toList->Ai (Ai (g.mem f).items (g.mem f).ti) a=Ai (g.mem f).items (g.mem f).ti:=fun a b c=>TD (Gs (ok f)) b (Int.le_trans c (aM (ok f) _ _))
  have tw:=ba (a:=(g.mem f).ti) (ok f) e5f.2 e5f.1
  have ov:∀ x∈g.fly,∀ a,x.items=[a]->1<=a.2.2:=fun x hx a e=>f5 (okx x hx) (by rw [e]; simp)
  clear e1 e2 e3 e5 w1 w2 w3 z1 z2 fresh hmem hfly hlead hserv htask okx p1 hok hokx k1 k1b k2a k2b k3a
  cases hs<;>(try dsimp only [PM.idle] at *)<;>grind
 have k4:∀ x∈g.fly,x.kind=5->CK V x.ep=i->m.leads=true->m.base=true->m.ep=x.ep->(g.mem i).leads=true/\(g.mem i).base=true/\(g.mem i).ep=x.ep/\m.op=(g.mem i).op/\m.num=(g.mem i).num/\m.ti=(g.mem i).ti/\m.items=(g.mem i).items:=by
  intro x hx hk hf
  have z:=z2 x hx (.inr (by omega))
  rw [hf] at z
  clear e1 e2 e3 e4 e5 w1 w2 w3 z1 z2 fresh hmem hfly hlead hserv htask okx p1 hok hokx k1 k1b k2a k2b k3a k3b
  cases hs<;>simp_all [PM.idle]<;>grind
 have k5:m.op=1->m.items=(g.mem i).items/\m.ti=(g.mem i).ti/\(g.mem i).op=1:=by
  clear e1 e2 e3 e4 e5 w1 w2 w3 z1 z2 fresh hmem hfly hlead hserv htask okx p1 hok hokx k1 k1b k2a k2b k3a k3b k4
  cases hs<;>simp_all [PM.idle]<;>grind
 have kT:∀ x∈T,x.kind≠5:=by
  clear e1 e2 e3 e4 e5 w1 w2 w3 z1 z2 fresh hmem hfly hlead hserv htask okx p1 hok hokx k1 k1b k2a k2b k3a k3b k4 k5
  cases hs<;>simp_all [PM.idle]<;>grind
 have k6:∀ x∈T,x.kind=6->x.frm=i:=fun x hx hk=>(hs.talk x hx (by omega)).2.1
 clear hs
 generalize g.set i m T=g' at *
 refine ⟨?_,?_,?_,?_,?_,?_,?_⟩
 ·intro j; rw [hmem]; split
  ·exact hok
  ·exact ok j
 ·intro x hx
  rw [hfly] at hx
  rcases List.mem_append.1 hx with q | q
  ·exact okx x q
  ·exact hokx x q
 ·intro j; rw [hmem,hfly]; split
  ·exact k1
  ·intro h1 h2 h3 x hx hk he
   rcases List.mem_append.1 hx with q | q
   ·exact e1 j h1 h2 h3 x q hk he
   ·rename_i hne; exact absurd he (k1b j hne h1 x q hk)
 ·intro j h1 h2 l h3 h4
  rw [hmem] at h1 h2 h3 h4 ⊢
  rw [hmem]
  grind
 ·intro j h1 l hl h3 h4 h5
  rw [hfly] at h5
  rw [hmem] at h1 h3 h4 h5 ⊢
  rw [hmem] at h4 ⊢
  by_cases hji:j=i
  ·subst hji
   simp only [if_true] at *
   rw [if_neg hl] at *
   refine k3a h1 l hl h3 h4 (h5.imp id fun ⟨x,hx,q⟩=>⟨x,?_,q⟩)
   rcases List.mem_append.1 hx with r | r
   ·exact r
   ·exact absurd (k6 x r q.1) (by rw [q.2.1]; exact hl)
  ·rw [if_neg hji] at *
   by_cases hli:l=i
   ·subst hli
    simp only [if_true] at *
    exact k3b j hji h1 h3 h4 h5
   ·rw [if_neg hli] at *
    refine e3 j h1 l hl h3 h4 (h5.imp id fun ⟨x,hx,q⟩=>⟨x,?_,q⟩)
    rcases List.mem_append.1 hx with r | r
    ·exact r
    ·exact absurd (k6 x r q.1) (by rw [q.2.1]; exact hli)
 ·intro x hx hk a hxa h1 h2 h3
  rw [hfly] at hx
  rcases List.mem_append.1 hx with q | q
  ·rw [hmem] at h1 h2 h3 ⊢
   have:=e4 x q hk a hxa
   by_cases hf:CK V x.ep=i
   ·rw [if_pos hf] at *
    have:=k4 x q hk hf h1 h2 h3
    rw [hf] at *
    grind
   ·rw [if_neg hf] at *
    exact this h1 h2 h3
  ·exact absurd hk (kT x q)
 ·intro j h1
  rw [hmem] at h1 ⊢
  have:=e5 i
  grind
end Go.Proofs.YtokiohnjegbnpaaGreat.Core
