/- Texts of the proof, packed: part 4. -/
import Derived.Test.YtaedipailemlcaaGreatP2
import Derived.IntWalk
set_option linter.unusedVariables false
set_option linter.unusedSimpArgs false
namespace Go.Proofs.YtaedipailemlcaaGreat.Core
open Go IntKind
set_option linter.unusedVariables false
set_option maxRecDepth 100000
noncomputable section
def WL:=cG HQ (AF Ab) (AF Ab) kx
def WM:=cG MW WL (AF Ab) kx
def WN:=kE 2 [] [6] 4 WM kx
def VK:St→Option (RT (BN.outs Ab)):=lG MV [] [3,6,13] 4 (AF Ab) WN
def WO:=cG HR (AF Ab) (AF Ab) kx
def WP:=kE 0 [] [3,6] 4 WO kx
def VL:St→Option (RT (BN.outs Ab)):=lG MU [] [3,6,7,12] 4 (AF Ab) WP
def FA (x0:Int) (x1:O) (x2:Y) (x3 x4:O):Option Bool:=VK ⟨[(3,.ptr 0 0),(6,.ptr 2 0),(13,.int .i64 x0)],[.var (U.enc x1),.var (AC.enc x2),.var (U.enc x3),.var (U.enc x4)]⟩
def FB (x0:Bool) (x1:O) (x2:Y) (x3 x4:O):Option Bool:=cG HQ (AF Ab) (AF Ab) kx ⟨[(3,.ptr 0 0),(6,.ptr 2 0),(114,.bool x0)],[.var (U.enc x1),.var (AC.enc x2),.var (U.enc x3),.var (U.enc x4)]⟩
def HT (x0:O) (x1:Y) (x2 x3:O):Option Bool:=cG HR (AF Ab) (AF Ab) kx ⟨[(3,.ptr 0 0),(6,.ptr 2 0)],[.var (U.enc x0),.var (AC.enc x1),.var (U.enc x2),.var (U.enc x3)]⟩
def FC (x0:List Y) (x1:Int) (x2:O) (x3:Y) (x4 x5:O):Option Bool:=VL ⟨[(3,.ptr 0 0),(6,.ptr 2 0),(7,.lst AC x0),(12,.int .i64 x1)],[.var (U.enc x2),.var (AC.enc x3),.var (U.enc x4),.var (U.enc x5)]⟩
def Mg (x0:List Y) (x1:Bool) (x2:O) (x3:Y) (x4 x5:O):Option Bool:=cG MY (AF Ab) (AF Ab) kx ⟨[(3,.ptr 0 0),(6,.ptr 2 0),(7,.lst AC x0),(73,.bool x1)],[.var (U.enc x2),.var (AC.enc x3),.var (U.enc x4),.var (U.enc x5)]⟩
def HU (x0:Int) (x1:O) (x2:Y) (x3 x4:O):Option Bool:=(if (decide (x0<(x1.2.2.2.2.2.2.2.1.length:Int)))=true then (if 0≤x0 then (if x0<(x1.2.2.2.2.2.2.2.1.length:Int) then (if 0≤x0 then (if x0<(x1.2.2.2.2.2.2.2.1.length:Int) then ((LT x3.2.2.2.2.2.2.2.1 ((x1.2.2.2.2.2.2.2.1.getD x0.toNat (ByteArray.empty,ByteArray.empty,0)).1)).bind fun y8=>(if (decide (y8.2.2<(((x1.2.2.2.2.2.2.2.1.getD x0.toNat (ByteArray.empty,ByteArray.empty,0)).2).2)))=true then (some false) else (FA (i64.wrap (x0+1)) x1 x2 x3 x4))) else none) else none) else none) else none) else (some x3.2.2.2.1))
def Mh (x0:Bool) (x1:O) (x2:Y) (x3 x4:O):Option Bool:=((Lo x3).bind fun y9=>((DS y9).bind fun y10=>(if y10=true then ((Lo x3).bind fun y11=>(if (y11.2.1==x3.2.1)=true then ((Lo x3).bind fun y12=>(some y12.2.2.1)) else (some false))) else (some false))))
def Mi (x0:O) (x1:Y) (x2 x3:O):Option Bool:=(if (x2.2.1==x0.2.1)=true then (if x0.2.2.2.1=true then (FA 0 x0 x1 x2 x3) else (FB x0.2.2.2.1 x0 x1 x2 x3)) else (FB false x0 x1 x2 x3))
def HV (x0:List Y) (x1:Int) (x2:O) (x3:Y) (x4 x5:O):Option Bool:=(if (decide (x1<(x0.length:Int)))=true then (if 0≤x1 then (if x1<(x0.length:Int) then ((M6 (x0.getD x1.toNat (0,0,0,0,0,([]:List X)))).bind fun y7=>(if (!y7)=true then (some false) else (if 0≤x1 then (if x1<(x0.length:Int) then (if ((((x0.getD x1.toNat (0,0,0,0,0,([]:List X))).2).1) != x2.1)=true then (some false) else (if 0≤x1 then (if x1<(x0.length:Int) then (if ((((((x0.getD x1.toNat (0,0,0,0,0,([]:List X))).2).2).2).1) != x4.2.1)=true then (some false) else (FC x0 (i64.wrap (x1+1)) x2 x3 x4 x5)) else none) else none)) else none) else none))) else none) else none) else (HT x2 x3 x4 x5))
def Mj (x0:List Y) (x1:Bool) (x2:O) (x3:Y) (x4 x5:O):Option Bool:=(FC x0 0 x2 x3 x4 x5)
def Qe (x0:List Int):Option Bool:=((WK x0).bind fun y1=>(if y1=true then (some true) else ((Fj x0).bind fun y2=>((NT y2.1 y2.2.1 y2.2.2).bind fun y3=>((JX y2.1 y2.2.1 y2.2.2).bind fun y4=>((DS y2.1).bind fun y5=>(if (!y5)=false then ((DS y3.1).bind fun y6=>(if (!y6)=false then (if ((y3.2.1.length:Int) != (y4.2.1.length:Int))=false then (if ((y3.2.2.length:Int) != (y4.2.2.length:Int))=false then (if (decide (y3.1.2.1<y2.1.2.1))=false then (if (y3.1.1 != y2.1.1)=true then (some false) else (Mg y3.2.1 (y3.1.1 != y2.1.1) y2.1 y2.2.2 y3.1 y4.1)) else (some false)) else (some false)) else (some false)) else (some false))) else (some false))))))))
theorem Mk:jC HU FA:=lS (by kernel_rfl)
theorem VM:jC Mh FB:=jS (by kernel_rfl)
theorem VN:dj Mi HT:=jS (by kernel_rfl)
theorem Ml:jt HV FC:=lS (by kernel_rfl)
theorem VO:jt Mj Mg:=jS (by kernel_rfl)
theorem ZO:N2 Qe Qd:=cT Ab rfl ⟨rfl,rfl⟩ (by kernel_rfl)
def jx (x0:List Int):Option Bool:=(some (decide ((x0.length:Int)>1048576)))
theorem jy:N2 jx WK:=cT Rl rfl ⟨rfl,rfl⟩ (by kernel_rfl)
def Fm (x0:List Int):Option (O×List (List Int)×Y):=((Pj x0).bind fun y1=>((L9 x0 y1).bind fun y2=>((AS (y2.1.2.1.length:Int) y2.2).bind fun y3=>(if 0≤y3.1 then (if y3.1<(y2.1.2.1.length:Int) then ((F3 y2.1 (y2.1.2.1.getD y3.1.toNat (0,0,false,false,false,false,([]:List Int),([]:List X),0,0,0,0,(ByteArray.empty,ByteArray.empty,0),([]:List Int))) y3.2).bind fun y4=>((AO y4.1.2.2.1 1 (y2.1.2.1.length:Int)).bind fun y5=>(if y5=true then (if 0≤(i64.wrap (y4.1.2.2.1-1)) then (if (i64.wrap (y4.1.2.2.1-1))<(y2.1.2.1.length:Int) then (some (y2.1.2.1.getD (i64.wrap (y4.1.2.2.1-1)).toNat (0,0,false,false,false,false,([]:List Int),([]:List X),0,0,0,0,(ByteArray.empty,ByteArray.empty,0),([]:List Int)),y2.1.1,y4.1)) else none) else none) else (some (y2.1.2.1.getD y3.1.toNat (0,0,false,false,false,false,([]:List Int),([]:List X),0,0,0,0,(ByteArray.empty,ByteArray.empty,0),([]:List Int)),y2.1.1,y4.1))))) else none) else none))))
theorem Jg:N2 Fm Fj:=cT Dl rfl ⟨rfl,rfl⟩ (by kernel_rfl)
def O0 (x0:List (List Int)) (x1:Bool) (x2:O) (x3:Y) (x4 x5:O):Option (O×List Y×List AD):=cG P_ (AF FJ) (AF FJ) kx ⟨[(1,.lst (.slice (.int .i64)) x0),(5,.ptr 1 0),(6,.ptr 2 0),(9,.ptr 3 0),(47,.bool x1)],[.var (U.enc x2),.var (AC.enc x3),.var (U.enc x4),.var (U.enc x5)]⟩
def O1 (x0:List (List Int)) (x1:Bool) (x2:O) (x3:Y) (x4 x5:O):Option (O×List Y×List AD):=((IF x0 x3 x5).bind fun y5=>((Ej y5.2.2).bind fun y6=>(some (y6,y5.1,y5.2.1))))
def UC (x0:O) (x1:List (List Int)) (x2:Y):Option (O×List Y×List AD):=((Ej x0).bind fun y1=>(if (x2.2.2.1 != x0.1)=false then (if (decide (x2.2.2.2.1<x0.2.1))=false then (if (decide (x2.2.2.2.1>(x1.length:Int)))=false then ((DS x0).bind fun y2=>(if (!y2)=false then ((JY x1).bind fun y3=>(if (!y3)=false then ((Rq x2).bind fun y4=>(if (!y4)=true then (some (y1,[],[])) else (O0 x1 (!y4) x0 x2 (0,0,false,false,false,false,([]:List Int),([]:List X),0,0,0,0,(ByteArray.empty,ByteArray.empty,0),([]:List Int)) y1))) else (some (y1,[],[])))) else (some (y1,[],[])))) else (some (y1,[],[]))) else (some (y1,[],[]))) else (some (y1,[],[]))))
theorem Xd:jt O1 O0:=jS (by kernel_rfl)
theorem eJ:Rk UC NT:=cT FJ rfl ⟨rfl,rfl⟩ (by kernel_rfl)
def ZP:=cG OJ (AF BJ) (AF BJ) kx
def ZQ:=cG JG (AF BJ) (AF BJ) kx
def El (x0:List Y) (x1:List AD) (x2:Bool) (x3:O) (x4:Y) (x5 x6:O):Option (O×List Y×List AD):=cG OI ZP (AF BJ) kx ⟨[(3,.ptr 0 0),(5,.ptr 1 0),(6,.ptr 2 0),(9,.ptr 3 0),(10,.lst AC x0),(11,.lst Au x1),(146,.bool x2)],[.var (U.enc x3),.var (AC.enc x4),.var (U.enc x5),.var (U.enc x6)]⟩
def Jh (x0:List (List Int)) (x1:List Y) (x2:List AD) (x3:Bool) (x4:O) (x5:Y) (x6 x7:O):Option (O×List Y×List AD):=cG JG (AF BJ) (AF BJ) kx ⟨[(1,.lst (.slice (.int .i64)) x0),(3,.ptr 0 0),(5,.ptr 1 0),(6,.ptr 2 0),(9,.ptr 3 0),(10,.lst AC x1),(11,.lst Au x2),(105,.bool x3)],[.var (U.enc x4),.var (AC.enc x5),.var (U.enc x6),.var (U.enc x7)]⟩
def DM (x0:List (List Int)) (x1:List Y) (x2:List AD) (x3:Bool) (x4:O) (x5:Y) (x6 x7:O):Option (O×List Y×List AD):=cG OG ZQ (AF BJ) kx ⟨[(1,.lst (.slice (.int .i64)) x0),(3,.ptr 0 0),(5,.ptr 1 0),(6,.ptr 2 0),(9,.ptr 3 0),(10,.lst AC x1),(11,.lst Au x2),(105,.bool x3)],[.var (U.enc x4),.var (AC.enc x5),.var (U.enc x6),.var (U.enc x7)]⟩
def O2 (x0:List (List Int)) (x1:List Y) (x2:List AD) (x3:Bool) (x4:O) (x5:Y) (x6 x7:O):Option (O×List Y×List AD):=cG OK (AF BJ) (AF BJ) kx ⟨[(1,.lst (.slice (.int .i64)) x0),(3,.ptr 0 0),(5,.ptr 1 0),(6,.ptr 2 0),(9,.ptr 3 0),(10,.lst AC x1),(11,.lst Au x2),(59,.bool x3)],[.var (U.enc x4),.var (AC.enc x5),.var (U.enc x6),.var (U.enc x7)]⟩
def O3 (x0:List Y) (x1:List AD) (x2:Bool) (x3:O) (x4:Y) (x5 x6:O):Option (O×List Y×List AD):=(if x2=true then (if ([]:List X).length+x4.2.2.2.2.2.length≤68719476736 then ((DU x3 x4 4).bind fun y9=>(some ((x3.1,x4.2.2.2.1,false,true,false,false,([]:List Int),(([]:List X)++x4.2.2.2.2.2),0,0,0,0,(ByteArray.empty,ByteArray.empty,0),([]:List Int)),y9,x1))) else none) else (some (x6,x0,x1)))
def O4 (x0:List (List Int)) (x1:List Y) (x2:List AD) (x3:Bool) (x4:O) (x5:Y) (x6 x7:O):Option (O×List Y×List AD):=(if 0≤(i64.wrap (x5.2.2.2.1-1)) then (if (i64.wrap (x5.2.2.2.1-1))<(x0.length:Int) then (if (x5.1==3)=true then ((C4 (x0.getD (i64.wrap (x5.2.2.2.1-1)).toNat ([]:List Int)) x4.1).bind fun y8=>(if y8=true then (if 0≤(0:Int) then (if 0<((x0.getD (i64.wrap (x5.2.2.2.1-1)).toNat ([]:List Int)).length:Int) then (El x1 x2 (((x0.getD (i64.wrap (x5.2.2.2.1-1)).toNat ([]:List Int)).getD (0:Int).toNat 0) != x4.1) x4 x5 x6 x7) else none) else none) else (El x1 x2 false x4 x5 x6 x7))) else (El x1 x2 false x4 x5 x6 x7)) else none) else none)
def O5 (x0:List (List Int)) (x1:List Y) (x2:List AD) (x3:Bool) (x4:O) (x5:Y) (x6 x7:O):Option (O×List Y×List AD):=(if x3=true then ((JZ x4 x5.2.2.2.1).bind fun y7=>(if ([]:List X).length+x4.2.2.2.2.2.2.2.1.length≤68719476736 then (some (y7,([(2,x4.1,x5.2.1,x5.2.2.2.1,0,(([]:List X)++x4.2.2.2.2.2.2.2.1))]:List Y),x2)) else none)) else (Jh x0 x1 x2 x3 x4 x5 x6 x7))
def O6 (x0:List (List Int)) (x1:List Y) (x2:List AD) (x3:Bool) (x4:O) (x5:Y) (x6 x7:O):Option (O×List Y×List AD):=(if (x5.2.2.2.1==x4.2.1)=true then (if 0≤(i64.wrap (x4.2.1-1)) then (if (i64.wrap (x4.2.1-1))<(x0.length:Int) then ((Pk x4 (x0.getD (i64.wrap (x4.2.1-1)).toNat ([]:List Int)) x5).bind fun y5=>(some (y5.1,y5.2.1,y5.2.2))) else none) else none) else (if (x5.1==1)=true then (if (x5.2.2.2.1==(i64.wrap (x4.2.1+1)))=true then (if x4.2.2.2.1=true then (if 0≤(i64.wrap (x4.2.1-1)) then (if (i64.wrap (x4.2.1-1))<(x0.length:Int) then ((C4 (x0.getD (i64.wrap (x4.2.1-1)).toNat ([]:List Int)) x4.1).bind fun y6=>(DM x0 x1 x2 y6 x4 x5 x6 x7)) else none) else none) else (DM x0 x1 x2 false x4 x5 x6 x7)) else (DM x0 x1 x2 false x4 x5 x6 x7)) else (DM x0 x1 x2 false x4 x5 x6 x7)))
def UD (x0:O) (x1:List (List Int)) (x2:Y):Option (O×List Y×List AD):=((CW x0).bind fun y1=>((EZ x0).bind fun y2=>(if (!y2)=false then ((DH x1).bind fun y3=>(if (!y3)=false then ((M6 x2).bind fun y4=>(if (!y4)=false then (if (x2.2.2.1 != x0.1)=false then (if (decide (x2.2.2.2.1<x0.2.1))=false then (if (decide (x2.2.2.2.1>(x1.length:Int)))=false then (if (decide (x0.2.1>(x1.length:Int)))=true then (some (y1,([]:List Y),([]:List AD))) else (O2 x1 ([]:List Y) ([]:List AD) (decide (x0.2.1>(x1.length:Int))) x0 x2 (0,0,false,false,false,false,([]:List Int),([]:List X),0,0,0,0,(ByteArray.empty,ByteArray.empty,0),([]:List Int)) y1)) else (some (y1,([]:List Y),([]:List AD)))) else (some (y1,([]:List Y),([]:List AD)))) else (some (y1,([]:List Y),([]:List AD)))) else (some (y1,([]:List Y),([]:List AD))))) else (some (y1,([]:List Y),([]:List AD))))) else (some (y1,([]:List Y),([]:List AD))))))
theorem Xe:n7 O3 El:=jS (by kernel_rfl)
theorem Xf:n8 O4 Jh:=jS (by kernel_rfl)
theorem Xg:n8 O5 DM:=jS (by kernel_rfl)
theorem Xh:n8 O6 O2:=jS (by kernel_rfl)
theorem eK:Rk UD JX:=cT BJ rfl ⟨rfl,rfl⟩ (by kernel_rfl)
def IL (x0:Bool) (x1:O):Option Bool:=cG OL (AF EX) (AF EX) kx ⟨[(1,.ptr 0 0),(30,.bool x0)],[.var (U.enc x1)]⟩
def Nc (x0:Bool) (x1:O):Option Bool:=(if x1.2.2.2.2.2.1=true then (if (!x1.2.2.2.1)=false then (if (!x1.2.2.2.2.1)=false then (if (decide ((x1.2.2.2.2.2.2.1.length:Int)>0))=false then (if x1.2.2.1=true then (if x1.2.2.2.1=false then (if x1.2.2.2.2.1=true then (some false) else ((CN x1).bind fun y6=>(some y6.1))) else (some false)) else ((CN x1).bind fun y7=>(some y7.1))) else (some false)) else (some false)) else (some false)) else (if x1.2.2.1=true then (if x1.2.2.2.1=false then (if x1.2.2.2.2.1=true then (some false) else ((CN x1).bind fun y8=>(some y8.1))) else (some false)) else ((CN x1).bind fun y9=>(some y9.1))))
def Sj (x0:O):Option Bool:=((F9 x0.1).bind fun y1=>(if (!y1)=false then ((Aw x0.2.1 1 9).bind fun y2=>(if (!y2)=false then ((Fk x0.2.2.2.2.2.2.1 1 6).bind fun y3=>(if (!y3)=false then ((ED x0.2.2.2.2.2.2.2.1).bind fun y4=>(if (!y4)=false then ((Aw x0.2.2.2.2.2.2.2.2.1 0 900).bind fun y5=>(if (!y5)=true then (some false) else (IL (!y5) x0))) else (some false))) else (some false))) else (some false))) else (some false)))
theorem WQ:TI Nc IL:=jS (by kernel_rfl)
theorem bW:N2 Sj DS:=cT EX rfl ⟨rfl,rfl⟩ (by kernel_rfl)
def UE:=cG T0 (AF Dm) (AF Dm) kx
def eL:=kB [] [1] 1 UE
def eM:=kE 0 [] [1] 1 UE kx
def H7 (x0:Int) (x1:Bool) (x2:Y):Option Bool:=cG Tz eL (AF Dm) eM ⟨[(1,.ptr 0 0),(38,.int .i64 x0),(39,.bool x1)],[.var (AC.enc x2)]⟩
def MF (x0:Bool) (x1:Y):Option Bool:=cG T1 (AF Dm) (AF Dm) kx ⟨[(1,.ptr 0 0),(36,.bool x0)],[.var (AC.enc x1)]⟩
def Sk (x0:Int) (x1:Bool) (x2:Y):Option Bool:=(if x1=true then (some true) else (if (x0==5)=true then (some ((x2.2.2.2.2.2.length:Int)==1)) else (some ((x2.2.2.2.2.2.length:Int)==0))))
def Sl (x0:Bool) (x1:Y):Option Bool:=(if (x1.1==2)=true then (H7 x1.1 (x1.1==2) x1) else (H7 x1.1 (x1.1==3) x1))
def Xi (x0:Y):Option Bool:=((AO x0.1 1 8).bind fun y1=>(if (!y1)=false then ((AO x0.2.1 1 6).bind fun y2=>(if (!y2)=false then ((AO x0.2.2.1 1 6).bind fun y3=>(if (!y3)=false then ((AO x0.2.2.2.1 1 9).bind fun y4=>(if (!y4)=false then ((AO x0.2.2.2.2.1 0 1000000000).bind fun y5=>(if (!y5)=false then ((CX x0.2.2.2.2.2).bind fun y6=>(if (!y6)=true then (some false) else (MF (!y6) x0))) else (some false))) else (some false))) else (some false))) else (some false))) else (some false)))
theorem bX:Rk Sk H7:=jS (by kernel_rfl)
theorem bY:TI Sl MF:=jS (by kernel_rfl)
theorem iQ:N2 Xi M6:=cT Dm rfl ⟨rfl,rfl⟩ (by kernel_rfl)
def bZ:=cG SA (AF Dv) (AF Dv) kx
def ba:=kE 0 [] [4] 1 bZ kx
def ZR:St→Option (RT (BN.outs Dv)):=lG R_ [] [1,4,7,8,9] 1 (AF Dv) ba
def HA (x0:ByteArray) (x1:List X) (x2 x3:Int) (x4:X):Option X:=ZR ⟨[(1,.str x0),(4,.ptr 0 0),(7,.lst AA x1),(8,.int .i64 x2),(9,.int .i64 x3)],[.var (AA.enc x4)]⟩
def Ku (x0:ByteArray) (x1:List X) (x2 x3:Int) (x4:X):Option X:=(if (decide (x3<x2))=true then (if 0≤x3 then (if x3<(x1.length:Int) then (if (((x1.getD x3.toNat (ByteArray.empty,ByteArray.empty,0)).1).toList==x0.toList)=true then (some (x1.getD x3.toNat (ByteArray.empty,ByteArray.empty,0))) else (HA x0 x1 x2 (i64.wrap (x3+1)) x4)) else none) else none) else (some (ByteArray.empty,ByteArray.empty,0)))
def Vk (x0:List X) (x1:ByteArray):Option X:=(HA x1 x0 (x0.length:Int) 0 (ByteArray.empty,ByteArray.empty,0))
theorem Qf:jC Ku HA:=lS (by kernel_rfl)
theorem fw:TI Vk LT:=cT Dv rfl ⟨rfl,rfl⟩ (by kernel_rfl)
def jO (x0:O):Option O:=(some (x0.1,x0.2.1,true,false,false,false,([]:List Int),([]:List X),0,0,0,0,(ByteArray.empty,ByteArray.empty,0),([]:List Int)))
theorem jP:N2 jO Lo:=cT OM rfl ⟨rfl,rfl⟩ (by kernel_rfl)
def UF:=cG QC (AF BQ) (AF BQ) kx
def eN:=kE 0 [(16,2)] [12,16,17,18] 6 UF kx
def bc:St→Option (RT (BN.outs BQ)):=lG Km [(16,2)] [2,6,12,16,17,18,19,20,21] 6 (AF BQ) eN
def eO:=kE 0 [(16,2)] [12,16,17,18] 5 UF kx
def bd:St→Option (RT (BN.outs BQ)):=lG Km [(16,2)] [2,6,12,16,17,18,19,20,21] 5 (AF BQ) eO
def DV (x0:Int) (x1:List AD) (x2:List Int) (x3:Int) (x4 x5:O) (x6:List Y) (x7:O) (x8:X) (x9:List X):Option (O×List Y×List AD×Bool):=bc ⟨[(2,.int .i64 x0),(6,.ptr 0 0),(12,.ptr 1 0),(16,.row 2),(17,.lst Au x1),(18,.ptr 3 0),(19,.ptr 4 0),(20,.lst (.int .i64) x2),(21,.int .i64 x3)],[.var (U.enc x4),.var (U.enc x5),.rows 34 AC x6,.var (U.enc x7),.var (AA.enc x8),.rows 27 AA x9]⟩
def MG (x0:List (List Int)) (x1 x2:Int) (x3:List AD) (x4:Bool) (x5 x6:O) (x7:List Y) (x8:O) (x9:X) (x10:List X):Option (O×List Y×List AD×Bool):=cG Kn (AF BQ) (AF BQ) kx ⟨[(1,.lst (.slice (.int .i64)) x0),(2,.int .i64 x1),(3,.int .i64 x2),(6,.ptr 0 0),(12,.ptr 1 0),(16,.row 2),(17,.lst Au x3),(18,.ptr 3 0),(19,.ptr 4 0),(130,.bool x4)],[.var (U.enc x5),.var (U.enc x6),.rows 34 AC x7,.var (U.enc x8),.var (AA.enc x9),.rows 27 AA x10]⟩
def DW (x0:Int) (x1:List AD) (x2:List Int) (x3:Int) (x4 x5:O) (x6:List Y) (x7:O) (x8:X):Option (O×List Y×List AD×Bool):=bd ⟨[(2,.int .i64 x0),(6,.ptr 0 0),(12,.ptr 1 0),(16,.row 2),(17,.lst Au x1),(18,.ptr 3 0),(19,.ptr 4 0),(20,.lst (.int .i64) x2),(21,.int .i64 x3)],[.var (U.enc x4),.var (U.enc x5),.rows 34 AC x6,.var (U.enc x7),.var (AA.enc x8)]⟩
def MH (x0:List (List Int)) (x1 x2:Int) (x3:List AD) (x4:Bool) (x5 x6:O) (x7:List Y) (x8:O) (x9:X):Option (O×List Y×List AD×Bool):=cG Kn (AF BQ) (AF BQ) kx ⟨[(1,.lst (.slice (.int .i64)) x0),(2,.int .i64 x1),(3,.int .i64 x2),(6,.ptr 0 0),(12,.ptr 1 0),(16,.row 2),(17,.lst Au x3),(18,.ptr 3 0),(19,.ptr 4 0),(130,.bool x4)],[.var (U.enc x5),.var (U.enc x6),.rows 34 AC x7,.var (U.enc x8),.var (AA.enc x9)]⟩
def CF (x0:List (List Int)) (x1 x2:Int) (x3 x4:ByteArray) (x5:List AD) (x6:Bool) (x7 x8:O) (x9:List Y):Option (O×List Y×List AD×Bool):=cG QD (AF BQ) (AF BQ) kx ⟨[(1,.lst (.slice (.int .i64)) x0),(2,.int .i64 x1),(3,.int .i64 x2),(4,.str x3),(5,.str x4),(6,.ptr 0 0),(12,.ptr 1 0),(16,.row 2),(17,.lst Au x5),(100,.bool x6)],[.var (U.enc x7),.var (U.enc x8),.rows 34 AC x9]⟩
def MI (x0:Int) (x1:List AD) (x2:List Int) (x3:Int) (x4 x5:O) (x6:List Y) (x7:O) (x8:X) (x9:List X):Option (O×List Y×List AD×Bool):=(if (decide (x3<(x2.length:Int)))=true then (if 0≤x3 then (if x3<(x2.length:Int) then (if ((x2.getD x3.toNat 0)==x4.1)=true then (DV x0 x1 x2 (i64.wrap (x3+1)) x4 x5 x6 x7 x8 x9) else (if 0≤x3 then (if x3<(x2.length:Int) then (if (x0==1)=true then (if x6.length+([(5,x4.1,(x2.getD x3.toNat 0),x4.2.1,x7.2.2.2.2.2.2.2.2.1,([x8]:List X))]:List Y).length≤68719476736 then (DV x0 x1 x2 (i64.wrap (x3+1)) x4 x5 (x6++([(5,x4.1,(x2.getD x3.toNat 0),x4.2.1,x7.2.2.2.2.2.2.2.2.1,([x8]:List X))]:List Y)) x7 x8 x9) else none) else (if x6.length+([(7,x4.1,(x2.getD x3.toNat 0),x4.2.1,x7.2.2.2.2.2.2.2.2.1,([]:List X))]:List Y).length≤68719476736 then (DV x0 x1 x2 (i64.wrap (x3+1)) x4 x5 (x6++([(7,x4.1,(x2.getD x3.toNat 0),x4.2.1,x7.2.2.2.2.2.2.2.2.1,([]:List X))]:List Y)) x7 x8 x9) else none)) else none) else none)) else none) else none) else (some (x7,x6,x1,true)))
def Sm (x0:List (List Int)) (x1 x2:Int) (x3:List AD) (x4:Bool) (x5 x6:O) (x7:List Y) (x8:O) (x9:X) (x10:List X):Option (O×List Y×List AD×Bool):=(if 0≤(i64.wrap (x5.2.1-1)) then (if (i64.wrap (x5.2.1-1))<(x0.length:Int) then ((FS (x0.getD (i64.wrap (x5.2.1-1)).toNat ([]:List Int)) x5.1).bind fun y8=>(if ((y8.length:Int)==0)=true then ((FT (x8.1,x8.2.1,x8.2.2.1,x8.2.2.2.1,x8.2.2.2.2.1,x8.2.2.2.2.2.1,x8.2.2.2.2.2.2.1,x8.2.2.2.2.2.2.2.1,x8.2.2.2.2.2.2.2.2.1,x1,x2,x8.2.2.2.2.2.2.2.2.1,x9,y8)).bind fun y9=>(some (y9.2,x7,y9.1,true))) else (DV x1 x3 (x0.getD (i64.wrap (x5.2.1-1)).toNat ([]:List Int)) 0 x5 x6 x7 (x8.1,x8.2.1,x8.2.2.1,x8.2.2.2.1,x8.2.2.2.2.1,x8.2.2.2.2.2.1,x8.2.2.2.2.2.2.1,x8.2.2.2.2.2.2.2.1,x8.2.2.2.2.2.2.2.2.1,x1,x2,x8.2.2.2.2.2.2.2.2.1,x9,y8) x9 x10))) else none) else none)
def MJ (x0:Int) (x1:List AD) (x2:List Int) (x3:Int) (x4 x5:O) (x6:List Y) (x7:O) (x8:X):Option (O×List Y×List AD×Bool):=(if (decide (x3<(x2.length:Int)))=true then (if 0≤x3 then (if x3<(x2.length:Int) then (if ((x2.getD x3.toNat 0)==x4.1)=true then (DW x0 x1 x2 (i64.wrap (x3+1)) x4 x5 x6 x7 x8) else (if 0≤x3 then (if x3<(x2.length:Int) then (if (x0==1)=true then (if x6.length+([(5,x4.1,(x2.getD x3.toNat 0),x4.2.1,x7.2.2.2.2.2.2.2.2.1,([x8]:List X))]:List Y).length≤68719476736 then (DW x0 x1 x2 (i64.wrap (x3+1)) x4 x5 (x6++([(5,x4.1,(x2.getD x3.toNat 0),x4.2.1,x7.2.2.2.2.2.2.2.2.1,([x8]:List X))]:List Y)) x7 x8) else none) else (if x6.length+([(7,x4.1,(x2.getD x3.toNat 0),x4.2.1,x7.2.2.2.2.2.2.2.2.1,([]:List X))]:List Y).length≤68719476736 then (DW x0 x1 x2 (i64.wrap (x3+1)) x4 x5 (x6++([(7,x4.1,(x2.getD x3.toNat 0),x4.2.1,x7.2.2.2.2.2.2.2.2.1,([]:List X))]:List Y)) x7 x8) else none)) else none) else none)) else none) else none) else (some (x7,x6,x1,true)))
def Sn (x0:List (List Int)) (x1 x2:Int) (x3:List AD) (x4:Bool) (x5 x6:O) (x7:List Y) (x8:O) (x9:X):Option (O×List Y×List AD×Bool):=(if 0≤(i64.wrap (x5.2.1-1)) then (if (i64.wrap (x5.2.1-1))<(x0.length:Int) then ((FS (x0.getD (i64.wrap (x5.2.1-1)).toNat ([]:List Int)) x5.1).bind fun y10=>(if ((y10.length:Int)==0)=true then ((FT (x8.1,x8.2.1,x8.2.2.1,x8.2.2.2.1,x8.2.2.2.2.1,x8.2.2.2.2.2.1,x8.2.2.2.2.2.2.1,x8.2.2.2.2.2.2.2.1,x8.2.2.2.2.2.2.2.2.1,x1,x2,x8.2.2.2.2.2.2.2.2.1,x9,y10)).bind fun y11=>(some (y11.2,x7,y11.1,true))) else (DW x1 x3 (x0.getD (i64.wrap (x5.2.1-1)).toNat ([]:List Int)) 0 x5 x6 x7 (x8.1,x8.2.1,x8.2.2.1,x8.2.2.2.1,x8.2.2.2.2.1,x8.2.2.2.2.2.1,x8.2.2.2.2.2.2.1,x8.2.2.2.2.2.2.2.1,x8.2.2.2.2.2.2.2.2.1,x1,x2,x8.2.2.2.2.2.2.2.2.1,x9,y10) x9))) else none) else none)
def So (x0:List (List Int)) (x1 x2:Int) (x3 x4:ByteArray) (x5:List AD) (x6:Bool) (x7 x8:O) (x9:List Y):Option (O×List Y×List AD×Bool):=((CW x7).bind fun y5=>(if (x1==1)=true then ((FR x7.2.2.2.2.2.2.2.1 (x3,x4,(i64.wrap ((i64.wrap (1000*x7.2.1))+(i64.wrap (x7.2.2.2.2.2.2.2.2.1+1)))))).bind fun y6=>((LU y6 x3).bind fun y7=>(if (true != Yp AA y7 (x3,x4,(i64.wrap ((i64.wrap (1000*x7.2.1))+(i64.wrap (x7.2.2.2.2.2.2.2.2.1+1))))))=true then (some ((0,0,false,false,false,false,([]:List Int),([]:List X),0,0,0,0,(ByteArray.empty,ByteArray.empty,0),([]:List Int)),x9,x5,false)) else (MG x0 x1 x2 x5 (true != Yp AA y7 (x3,x4,(i64.wrap ((i64.wrap (1000*x7.2.1))+(i64.wrap (x7.2.2.2.2.2.2.2.2.1+1)))))) x7 x8 x9 (y5.1,y5.2.1,y5.2.2.1,y5.2.2.2.1,y5.2.2.2.2.1,y5.2.2.2.2.2.1,y5.2.2.2.2.2.2.1,y5.2.2.2.2.2.2.2.1,(i64.wrap (x7.2.2.2.2.2.2.2.2.1+1)),y5.2.2.2.2.2.2.2.2.2) (x3,x4,(i64.wrap ((i64.wrap (1000*x7.2.1))+(i64.wrap (x7.2.2.2.2.2.2.2.2.1+1))))) y6)))) else (MH x0 x1 x2 x5 false x7 x8 x9 (y5.1,y5.2.1,y5.2.2.1,y5.2.2.2.1,y5.2.2.2.2.1,y5.2.2.2.2.2.1,y5.2.2.2.2.2.2.1,y5.2.2.2.2.2.2.2.1,(i64.wrap (x7.2.2.2.2.2.2.2.2.1+1)),y5.2.2.2.2.2.2.2.2.2) (x3,x4,(i64.wrap ((i64.wrap (1000*x7.2.1))+(i64.wrap (x7.2.2.2.2.2.2.2.2.1+1))))))))
def Xj (x0:O) (x1:List (List Int)) (x2 x3:Int) (x4 x5:ByteArray):Option (O×List Y×List AD×Bool):=((EZ x0).bind fun y1=>(if (!y1)=true then (some ((0,0,false,false,false,false,([]:List Int),([]:List X),0,0,0,0,(ByteArray.empty,ByteArray.empty,0),([]:List Int)),([]:List Y),([]:List AD),false)) else ((DH x1).bind fun y2=>(if (!y2)=true then (some ((0,0,false,false,false,false,([]:List Int),([]:List X),0,0,0,0,(ByteArray.empty,ByteArray.empty,0),([]:List Int)),([]:List Y),([]:List AD),false)) else (if (!x0.2.2.2.2.2.1)=true then (some ((0,0,false,false,false,false,([]:List Int),([]:List X),0,0,0,0,(ByteArray.empty,ByteArray.empty,0),([]:List Int)),([]:List Y),([]:List AD),false)) else (if (x0.2.2.2.2.2.2.2.2.2.1 != 0)=true then (some ((0,0,false,false,false,false,([]:List Int),([]:List X),0,0,0,0,(ByteArray.empty,ByteArray.empty,0),([]:List Int)),([]:List Y),([]:List AD),false)) else (if (decide (x0.2.2.2.2.2.2.2.2.1≥900))=true then (some ((0,0,false,false,false,false,([]:List Int),([]:List X),0,0,0,0,(ByteArray.empty,ByteArray.empty,0),([]:List Int)),([]:List Y),([]:List AD),false)) else (if (x2 != 1)=true then (if (x2 != 2)=true then (some ((0,0,false,false,false,false,([]:List Int),([]:List X),0,0,0,0,(ByteArray.empty,ByteArray.empty,0),([]:List Int)),([]:List Y),([]:List AD),false)) else ((AO x3 0 1000).bind fun y3=>(if (!y3)=true then (some ((0,0,false,false,false,false,([]:List Int),([]:List X),0,0,0,0,(ByteArray.empty,ByteArray.empty,0),([]:List Int)),([]:List Y),([]:List AD),false)) else ((AO (x4.size:Int) 1 12).bind fun y4=>(if (!y4)=true then (some ((0,0,false,false,false,false,([]:List Int),([]:List X),0,0,0,0,(ByteArray.empty,ByteArray.empty,0),([]:List Int)),([]:List Y),([]:List AD),false)) else (if (decide ((x5.size:Int)>20))=true then (some ((0,0,false,false,false,false,([]:List Int),([]:List X),0,0,0,0,(ByteArray.empty,ByteArray.empty,0),([]:List Int)),([]:List Y),([]:List AD),false)) else (if (x2==2)=true then (if (!(x5.toList==(⟨#[]⟩:ByteArray).toList))=true then (some ((0,0,false,false,false,false,([]:List Int),([]:List X),0,0,0,0,(ByteArray.empty,ByteArray.empty,0),([]:List Int)),([]:List Y),([]:List AD),false)) else (if (decide (x0.2.1>(x1.length:Int)))=true then (some ((0,0,false,false,false,false,([]:List Int),([]:List X),0,0,0,0,(ByteArray.empty,ByteArray.empty,0),([]:List Int)),([]:List Y),([]:List AD),false)) else (if 0≤(i64.wrap (x0.2.1-1)) then (if (i64.wrap (x0.2.1-1))<(x1.length:Int) then (if 0≤(0:Int) then (if 0<((x1.getD (i64.wrap (x0.2.1-1)).toNat ([]:List Int)).length:Int) then (if (((x1.getD (i64.wrap (x0.2.1-1)).toNat ([]:List Int)).getD (0:Int).toNat 0) != x0.1)=true then (some ((0,0,false,false,false,false,([]:List Int),([]:List X),0,0,0,0,(ByteArray.empty,ByteArray.empty,0),([]:List Int)),([]:List Y),([]:List AD),false)) else (CF x1 x2 x3 x4 x5 ([]:List AD) (((x1.getD (i64.wrap (x0.2.1-1)).toNat ([]:List Int)).getD (0:Int).toNat 0) != x0.1) x0 (0,0,false,false,false,false,([]:List Int),([]:List X),0,0,0,0,(ByteArray.empty,ByteArray.empty,0),([]:List Int)) ([]:List Y))) else none) else none) else none) else none))) else (if (decide (x0.2.1>(x1.length:Int)))=true then (some ((0,0,false,false,false,false,([]:List Int),([]:List X),0,0,0,0,(ByteArray.empty,ByteArray.empty,0),([]:List Int)),([]:List Y),([]:List AD),false)) else (if 0≤(i64.wrap (x0.2.1-1)) then (if (i64.wrap (x0.2.1-1))<(x1.length:Int) then (if 0≤(0:Int) then (if 0<((x1.getD (i64.wrap (x0.2.1-1)).toNat ([]:List Int)).length:Int) then (if (((x1.getD (i64.wrap (x0.2.1-1)).toNat ([]:List Int)).getD (0:Int).toNat 0) != x0.1)=true then (some ((0,0,false,false,false,false,([]:List Int),([]:List X),0,0,0,0,(ByteArray.empty,ByteArray.empty,0),([]:List Int)),([]:List Y),([]:List AD),false)) else (CF x1 x2 x3 x4 x5 ([]:List AD) (((x1.getD (i64.wrap (x0.2.1-1)).toNat ([]:List Int)).getD (0:Int).toNat 0) != x0.1) x0 (0,0,false,false,false,false,([]:List Int),([]:List X),0,0,0,0,(ByteArray.empty,ByteArray.empty,0),([]:List Int)) ([]:List Y))) else none) else none) else none) else none))))))))) else ((AO x3 0 1000).bind fun y12=>(if (!y12)=true then (some ((0,0,false,false,false,false,([]:List Int),([]:List X),0,0,0,0,(ByteArray.empty,ByteArray.empty,0),([]:List Int)),([]:List Y),([]:List AD),false)) else ((AO (x4.size:Int) 1 12).bind fun y13=>(if (!y13)=true then (some ((0,0,false,false,false,false,([]:List Int),([]:List X),0,0,0,0,(ByteArray.empty,ByteArray.empty,0),([]:List Int)),([]:List Y),([]:List AD),false)) else (if (decide ((x5.size:Int)>20))=true then (some ((0,0,false,false,false,false,([]:List Int),([]:List X),0,0,0,0,(ByteArray.empty,ByteArray.empty,0),([]:List Int)),([]:List Y),([]:List AD),false)) else (if (x2==2)=true then (if (!(x5.toList==(⟨#[]⟩:ByteArray).toList))=true then (some ((0,0,false,false,false,false,([]:List Int),([]:List X),0,0,0,0,(ByteArray.empty,ByteArray.empty,0),([]:List Int)),([]:List Y),([]:List AD),false)) else (if (decide (x0.2.1>(x1.length:Int)))=true then (some ((0,0,false,false,false,false,([]:List Int),([]:List X),0,0,0,0,(ByteArray.empty,ByteArray.empty,0),([]:List Int)),([]:List Y),([]:List AD),false)) else (if 0≤(i64.wrap (x0.2.1-1)) then (if (i64.wrap (x0.2.1-1))<(x1.length:Int) then (if 0≤(0:Int) then (if 0<((x1.getD (i64.wrap (x0.2.1-1)).toNat ([]:List Int)).length:Int) then (if (((x1.getD (i64.wrap (x0.2.1-1)).toNat ([]:List Int)).getD (0:Int).toNat 0) != x0.1)=true then (some ((0,0,false,false,false,false,([]:List Int),([]:List X),0,0,0,0,(ByteArray.empty,ByteArray.empty,0),([]:List Int)),([]:List Y),([]:List AD),false)) else (CF x1 x2 x3 x4 x5 ([]:List AD) (((x1.getD (i64.wrap (x0.2.1-1)).toNat ([]:List Int)).getD (0:Int).toNat 0) != x0.1) x0 (0,0,false,false,false,false,([]:List Int),([]:List X),0,0,0,0,(ByteArray.empty,ByteArray.empty,0),([]:List Int)) ([]:List Y))) else none) else none) else none) else none))) else (if (decide (x0.2.1>(x1.length:Int)))=true then (some ((0,0,false,false,false,false,([]:List Int),([]:List X),0,0,0,0,(ByteArray.empty,ByteArray.empty,0),([]:List Int)),([]:List Y),([]:List AD),false)) else (if 0≤(i64.wrap (x0.2.1-1)) then (if (i64.wrap (x0.2.1-1))<(x1.length:Int) then (if 0≤(0:Int) then (if 0<((x1.getD (i64.wrap (x0.2.1-1)).toNat ([]:List Int)).length:Int) then (if (((x1.getD (i64.wrap (x0.2.1-1)).toNat ([]:List Int)).getD (0:Int).toNat 0) != x0.1)=true then (some ((0,0,false,false,false,false,([]:List Int),([]:List X),0,0,0,0,(ByteArray.empty,ByteArray.empty,0),([]:List Int)),([]:List Y),([]:List AD),false)) else (CF x1 x2 x3 x4 x5 ([]:List AD) (((x1.getD (i64.wrap (x0.2.1-1)).toNat ([]:List Int)).getD (0:Int).toNat 0) != x0.1) x0 (0,0,false,false,false,false,([]:List Int),([]:List X),0,0,0,0,(ByteArray.empty,ByteArray.empty,0),([]:List Int)) ([]:List Y))) else none) else none) else none) else none))))))))))))))))
theorem Sp:o_ MI DV:=lS (by kernel_rfl)
theorem be:p9 Sm MG:=jS (by kernel_rfl)
theorem Sq:pb MJ DW:=lS (by kernel_rfl)
theorem bf:o_ Sn MH:=jS (by kernel_rfl)
theorem bg:o_ So CF:=jS (by kernel_rfl)
theorem iR:jt Xj Rp:=cT BQ rfl ⟨rfl,rfl⟩ (by kernel_rfl)
def bh:=cG SN (AF C2) (AF C2) kx
def Sr:=kE 0 [] [0,3] 0 bh kx
def Qg:St→Option (RT (BN.outs C2)):=lG SM [] [0,3,4] 0 (AF C2) Sr
def bl:=kB [] [0,3,4] 0 Qg
def Qh (x0:List Int) (x1 x2:Int) (x3:Bool):Option Z:=cG SL bl (AF C2) Sr ⟨[(0,.lst (.int .u8) x0),(3,.int .i64 x1),(4,.int .i64 x2),(15,.bool x3)],[]⟩
def HB (x0:List Int) (x1 x2:Int):Option Z:=Qg ⟨[(0,.lst (.int .u8) x0),(3,.int .i64 x1),(4,.int .i64 x2)],[]⟩
def Qi (x0:List Int) (x1 x2:Int) (x3:Bool):Option Z:=(if 0≤x2 then (if x2<(x0.length:Int) then (HB x0 (Iz .i64 (i64.wrap ((i64.wrap ((i64.wrap (x1*131))+(i64.wrap (x0.getD x2.toNat 0))))+7)) 1073741823) (i64.wrap (x2+1))) else none) else none)
def HC (x0:List Int) (x1 x2:Int):Option Z:=(if (decide (x2<(x0.length:Int)))=true then (if (decide (x2<4000))=true then (Qh x0 x1 x2 (decide (x2<4000))) else (some (x0,0,x1))) else (some (x0,0,x1)))
def f4 (x0:List Int):Option Z:=(HB x0 (i64.wrap (14301+(x0.length:Int))) 0)
theorem ZS:dj Qi Qh:=jS (by kernel_rfl)
theorem Kv:Rk HC HB:=lS (by kernel_rfl)
theorem f5:N2 f4 Pj:=cT C2 rfl ⟨rfl,rfl⟩ (by kernel_rfl)
def Ss (x1:List Int) (b0:Z):Option (AJ×Z):=((NU x1 b0).bind fun y1=>((L_ y1.1.1 y1.1.2).bind fun y2=>(some (y2.1,y1.2))))
theorem bm:TI Ss L9:=cT Ht rfl ⟨rfl,rfl⟩ (by kernel_rfl)
def MK (x1:Int) (b0:Z):Option (Int×Z):=(if (decide (x1≤0))=true then (some (0,b0)) else (if (decide (x1≤256))=true then ((EE b0).bind fun y1=>(if x1=0 then none else (some ((Int.tmod y1.1 x1),y1.2)))) else ((EE b0).bind fun y2=>((EE y2.2).bind fun y3=>((EE y3.2).bind fun y4=>((EE y4.2).bind fun y5=>(if x1=0 then none else (some ((Int.tmod (i64.wrap ((i64.wrap ((i64.wrap ((i64.wrap (y2.1*16777216))+(i64.wrap (y3.1*65536))))+(i64.wrap (y4.1*256))))+y5.1)) x1),y5.2)))))))))
theorem bn:TI MK AS:=cT Hu rfl ⟨rfl,rfl⟩ (by kernel_rfl)
def Xk:=cG JH (AF CD) (AF CD) kx
def IM (x0:Bool) (x1:Z) (x2:AJ) (x3:O) (x4 x5:Y):Option (Y×Z):=cG JH (AF CD) (AF CD) kx ⟨[(0,.ptr 0 0),(4,.ptr 1 0),(5,.ptr 2 0),(6,.ptr 3 0),(7,.ptr 4 0),(21,.bool x0)],[.var (AM.enc x1),.var (AW.enc x2),.var (U.enc x3),.var (AC.enc x4),.var (AC.enc x5)]⟩
def Fn (x0:Bool) (x1:Z) (x2:AJ) (x3:O) (x4 x5:Y):Option (Y×Z):=cG ON Xk (AF CD) kx ⟨[(0,.ptr 0 0),(4,.ptr 1 0),(5,.ptr 2 0),(6,.ptr 3 0),(7,.ptr 4 0),(21,.bool x0)],[.var (AM.enc x1),.var (AW.enc x2),.var (U.enc x3),.var (AC.enc x4),.var (AC.enc x5)]⟩
def Nd (x0:Bool) (x1:Z) (x2:AJ) (x3:O) (x4 x5:Y):Option (Y×Z):=((AS 2 x1).bind fun y4=>(some ((x5.1,x5.2.1,x5.2.2.1,(i64.wrap (x3.2.1+y4.1)),x3.2.2.2.2.2.2.2.2.2.2.2.1,x5.2.2.2.2.2),y4.2)))
def IN (x0:Bool) (x1:Z) (x2:AJ) (x3:O) (x4 x5:Y):Option (Y×Z):=(if x0=true then ((AS (x2.2.2.1.length:Int) x1).bind fun y3=>(if 0≤y3.1 then (if y3.1<(x2.2.2.1.length:Int) then (some (x2.2.2.1.getD y3.1.toNat (0,0,0,0,0,([]:List X)),y3.2)) else none) else none)) else (IM x0 x1 x2 x3 x4 x5))
def ML (x1:AJ) (x2:O) (b0:Z):Option (Y×Z):=((Kq b0).bind fun y1=>(if (decide ((x1.2.2.1.length:Int)>0))=true then ((B_ 3 y1.2).bind fun y2=>(Fn (!y2.1) y2.2 x1 x2 (0,0,0,0,0,([]:List X)) (y1.1.1,y1.1.2.1,x2.1,y1.1.2.2.2))) else (Fn false y1.2 x1 x2 (0,0,0,0,0,([]:List X)) (y1.1.1,y1.1.2.1,x2.1,y1.1.2.2.2))))
theorem WR:jt Nd IM:=jS (by kernel_rfl)
theorem Nf:jt IN Fn:=jS (by kernel_rfl)
theorem Su:Rk ML F3:=cT CD rfl ⟨rfl,rfl⟩ (by kernel_rfl)
def Xl (x0 x1 x2:Int):Option Bool:=(if (decide (x0≥x1))=true then (some (decide (x0≤x2))) else (some false))
theorem iS:Rk Xl AO:=cT M1 rfl ⟨rfl,rfl⟩ (by kernel_rfl)
def O7 (x0:O):Option O:=((B3 x0.2.2.2.2.2.2.1).bind fun y1=>((AX x0.2.2.2.2.2.2.2.1).bind fun y2=>((B3 x0.2.2.2.2.2.2.2.2.2.2.2.2.2).bind fun y3=>(some (x0.1,x0.2.1,x0.2.2.1,x0.2.2.2.1,x0.2.2.2.2.1,x0.2.2.2.2.2.1,y1,y2,x0.2.2.2.2.2.2.2.2.1,x0.2.2.2.2.2.2.2.2.2.1,x0.2.2.2.2.2.2.2.2.2.2.1,x0.2.2.2.2.2.2.2.2.2.2.2.1,x0.2.2.2.2.2.2.2.2.2.2.2.2.1,y3)))))
theorem Xm:N2 O7 Ej:=cT GN rfl ⟨rfl,rfl⟩ (by kernel_rfl)
def ZT:=cG OQ (AF BV) (AF BV) kx
def Kw:=kE 0 [] [0] 0 ZT kx
def O8:St→Option (RT (BN.outs BV)):=lG OP [] [0,7,8,9] 0 (AF BV) Kw
def ZU:=kB [] [0,7,8,9] 0 O8
def Qj:=cG OO ZU (AF BV) Kw
def Qk:=kB [] [0,7,8,9] 0 Qj
def Kx:=kE 1 [] [0,7,8,9] 0 Qj Kw
def ZV:=cG Ko Qk (AF BV) Kx
def ZW:=kE 2 [] [0,4,7,8,9] 0 ZV Kx
def Xn:St→Option (RT (BN.outs BV)):=lG QE [] [0,4,7,8,9,13,14,15] 0 (AF BV) ZW
def Ji (x0:List (List Int)) (x1:List Int) (x2:List (List Int)) (x3 x4:Int):Option Bool:=cG Ko Qk (AF BV) Kx ⟨[(0,.lst (.slice (.int .i64)) x0),(4,.lst (.int .i64) x1),(7,.lst (.slice (.int .i64)) x2),(8,.int .i64 x3),(9,.int .i64 x4)],[]⟩
def GS (x0:List (List Int)) (x1:List Int) (x2:List (List Int)) (x3 x4:Int) (x5:List Int) (x6 x7:Int):Option Bool:=Xn ⟨[(0,.lst (.slice (.int .i64)) x0),(4,.lst (.int .i64) x1),(7,.lst (.slice (.int .i64)) x2),(8,.int .i64 x3),(9,.int .i64 x4),(13,.lst (.int .i64) x5),(14,.int .i64 x6),(15,.int .i64 x7)],[]⟩
def GT (x0 x1:List (List Int)) (x2 x3:Int):Option Bool:=O8 ⟨[(0,.lst (.slice (.int .i64)) x0),(7,.lst (.slice (.int .i64)) x1),(8,.int .i64 x2),(9,.int .i64 x3)],[]⟩
def O9 (x0:List (List Int)) (x1:List Int) (x2:List (List Int)) (x3 x4:Int):Option Bool:=((Aw (x1.length:Int) 1 4).bind fun y3=>(if (!y3)=true then (some false) else (GT x0 x2 x3 (i64.wrap (x4+1)))))
def Jj (x0:List (List Int)) (x1:List Int) (x2:List (List Int)) (x3 x4:Int) (x5:List Int) (x6 x7:Int):Option Bool:=(if (decide (x7<x6))=true then (if 0≤x7 then (if x7<(x5.length:Int) then ((F9 (x5.getD x7.toNat 0)).bind fun y1=>(if (!y1)=false then ((CY x1 (x5.getD x7.toNat 0)).bind fun y2=>(if (y2 != x7)=true then (some false) else (GS x0 x1 x2 x3 x4 x5 x6 (i64.wrap (x7+1))))) else (some false))) else none) else none) else (Ji x0 x1 x2 x3 x4))
def Jk (x0 x1:List (List Int)) (x2 x3:Int):Option Bool:=(if (decide (x3<x2))=true then (if 0≤x3 then (if x3<(x1.length:Int) then (GS x0 (x1.getD x3.toNat ([]:List Int)) x1 x2 x3 (x1.getD x3.toNat ([]:List Int)) ((x1.getD x3.toNat ([]:List Int)).length:Int) 0) else none) else none) else ((Aw (x0.length:Int) 1 9).bind fun y4=>(some y4)))
def UG (x0:List (List Int)):Option Bool:=(GT x0 x0 (x0.length:Int) 0)
theorem Xo:jC O9 Ji:=jS (by kernel_rfl)
theorem O_:n8 Jj GS:=lS (by kernel_rfl)
theorem PA:dj Jk GT:=lS (by kernel_rfl)
theorem eP:N2 UG JY:=cT BV rfl ⟨rfl,rfl⟩ (by kernel_rfl)
def UH:=cG T4 (AF Dn) (AF Dn) kx
def eQ:=kB [] [1] 1 UH
def eR:=kE 0 [] [1] 1 UH kx
def H8 (x0:Int) (x1:Bool) (x2:Y):Option Bool:=cG T3 eQ (AF Dn) eR ⟨[(1,.ptr 0 0),(38,.int .i64 x0),(39,.bool x1)],[.var (AC.enc x2)]⟩
def MM (x0:Bool) (x1:Y):Option Bool:=cG T5 (AF Dn) (AF Dn) kx ⟨[(1,.ptr 0 0),(36,.bool x0)],[.var (AC.enc x1)]⟩
def Sv (x0:Int) (x1:Bool) (x2:Y):Option Bool:=(if x1=true then (some true) else (if (x0==5)=true then (some ((x2.2.2.2.2.2.length:Int)==1)) else (some ((x2.2.2.2.2.2.length:Int)==0))))
def Sw (x0:Bool) (x1:Y):Option Bool:=(if (x1.1==2)=true then (H8 x1.1 (x1.1==2) x1) else (H8 x1.1 (x1.1==3) x1))
def Xp (x0:Y):Option Bool:=((Aw x0.1 1 8).bind fun y1=>(if (!y1)=false then ((F9 x0.2.1).bind fun y2=>(if (!y2)=false then ((F9 x0.2.2.1).bind fun y3=>(if (!y3)=false then ((Aw x0.2.2.2.1 1 9).bind fun y4=>(if (!y4)=false then ((Aw x0.2.2.2.2.1 0 1000000000).bind fun y5=>(if (!y5)=false then ((ED x0.2.2.2.2.2).bind fun y6=>(if (!y6)=true then (some false) else (MM (!y6) x0))) else (some false))) else (some false))) else (some false))) else (some false))) else (some false)))
theorem bo:Rk Sv H8:=jS (by kernel_rfl)
theorem bp:TI Sw MM:=jS (by kernel_rfl)
theorem iT:N2 Xp Rq:=cT Dn rfl ⟨rfl,rfl⟩ (by kernel_rfl)
def Lr:=cG KN (AF Bh) (AF Bh) kx
def Gt:=kB [] [] 2 Lr
def Gu:=kE 0 [] [] 2 Lr kx
def Cm (x0:List (List Int)) (x1:Bool) (x2:O) (x3:Y):Option (List Y×List AD×O):=cG Lf Gt (AF Bh) Gu ⟨[(0,.ptr 0 0),(1,.lst (.slice (.int .i64)) x0),(5,.ptr 1 0),(37,.bool x1)],[.var (U.enc x2),.var (AC.enc x3)]⟩
def EP (x0:Bool) (x1:O) (x2:Y):Option (List Y×List AD×O):=cG Lg Gt (AF Bh) Gu ⟨[(0,.ptr 0 0),(5,.ptr 1 0),(75,.bool x0)],[.var (U.enc x1),.var (AC.enc x2)]⟩
def EQ (x0:Int) (x1:Bool) (x2:O) (x3:Y):Option (List Y×List AD×O):=cG KM Gt (AF Bh) Gu ⟨[(0,.ptr 0 0),(5,.ptr 1 0),(9,.int .i64 x0),(107,.bool x1)],[.var (U.enc x2),.var (AC.enc x3)]⟩
def KU (x0:List (List Int)) (x1:Bool) (x2:O) (x3:Y):Option (List Y×List AD×O):=(if x1=true then (if 0≤(i64.wrap (x2.2.1-1)) then (if (i64.wrap (x2.2.1-1))<(x0.length:Int) then ((Fl (x0.getD (i64.wrap (x2.2.1-1)).toNat ([]:List Int)) x3.2.2.2.2.2 x2).bind fun y2=>(some (y2.1,[],y2.2))) else none) else none) else (some ([],[],x2)))
def KV (x0:Bool) (x1:O) (x2:Y):Option (List Y×List AD×O):=(if x0=true then ((Ja x1.2.2.2.2.2.2.1 x2.2.1).bind fun y4=>(if x1.2.2.2.2.2.1=false then (if ((y4.length:Int)==0)=true then (some ([],[],(x1.1,x1.2.1,x1.2.2.1,x1.2.2.2.1,x1.2.2.2.2.1,x1.2.2.2.1,y4,x1.2.2.2.2.2.2.2))) else (some ([],[],(x1.1,x1.2.1,x1.2.2.1,x1.2.2.2.1,x1.2.2.2.2.1,false,y4,x1.2.2.2.2.2.2.2)))) else (some ([],[],(x1.1,x1.2.1,x1.2.2.1,x1.2.2.2.1,x1.2.2.2.2.1,true,y4,x1.2.2.2.2.2.2.2))))) else (some ([],[],x1)))
def KW (x0:Int) (x1:Bool) (x2:O) (x3:Y):Option (List Y×List AD×O):=(if x1=true then ((HS x3 x2).bind fun y5=>(some (y5.1,[],y5.2))) else (if (x0==6)=true then ((Ek 1 x3 x2).bind fun y6=>(some ([],y6.1,y6.2))) else (if (x0==8)=true then ((Ek 2 x3 x2).bind fun y7=>(some ([],y7.1,y7.2))) else (some ([],[],x2)))))
def Ng (x1:List (List Int)) (x2:Y) (b0:O):Option (List Y×List AD×O):=(if (x2.1==1)=true then ((IH x1 x2 b0).bind fun y1=>(some (y1.1,[],y1.2))) else (if (x2.1==2)=true then (if (x2.2.2.2.1==b0.2.1)=true then (if b0.2.2.2.2.1=true then (Cm x1 (!b0.2.2.2.1) b0 x2) else (Cm x1 false b0 x2)) else (Cm x1 false b0 x2)) else (if (x2.1==3)=true then (if 0≤(i64.wrap (x2.2.2.2.1-1)) then (if (i64.wrap (x2.2.2.2.1-1))<(x1.length:Int) then ((GC (x1.getD (i64.wrap (x2.2.2.2.1-1)).toNat ([]:List Int)) x2 b0).bind fun y3=>(some (y3.1,[],y3.2))) else none) else none) else (if (x2.1==4)=true then (if (x2.2.2.2.1==b0.2.1)=true then (EP b0.2.2.2.2.1 b0 x2) else (EP false b0 x2)) else (if (x2.1==5)=true then (EQ x2.1 (x2.1==5) b0 x2) else (EQ x2.1 (x2.1==7) b0 x2))))))
theorem TM:dj KU Cm:=jS (by kernel_rfl)
theorem TN:Rk KV EP:=jS (by kernel_rfl)
theorem TO:dj KW EQ:=jS (by kernel_rfl)
theorem WS:Rk Ng IF:=cT Bh rfl ⟨rfl,rfl⟩ (by kernel_rfl)
def UI (x0:O):Option O:=(if ([]:List Int).length+x0.2.2.2.2.2.2.1.length≤68719476736 then (if ([]:List X).length+x0.2.2.2.2.2.2.2.1.length≤68719476736 then (if ([]:List Int).length+x0.2.2.2.2.2.2.2.2.2.2.2.2.2.length≤68719476736 then (some (x0.1,x0.2.1,x0.2.2.1,x0.2.2.2.1,x0.2.2.2.2.1,x0.2.2.2.2.2.1,(([]:List Int)++x0.2.2.2.2.2.2.1),(([]:List X)++x0.2.2.2.2.2.2.2.1),x0.2.2.2.2.2.2.2.2.1,x0.2.2.2.2.2.2.2.2.2.1,x0.2.2.2.2.2.2.2.2.2.2.1,x0.2.2.2.2.2.2.2.2.2.2.2.1,x0.2.2.2.2.2.2.2.2.2.2.2.2.1,(([]:List Int)++x0.2.2.2.2.2.2.2.2.2.2.2.2.2))) else none) else none) else none)
theorem eS:N2 UI CW:=cT JI rfl ⟨rfl,rfl⟩ (by kernel_rfl)
end
end Go.Proofs.YtaedipailemlcaaGreat.Core

namespace Go.Proofs.YtaedipailemlcaaGreat.Core
open Go IntKind
set_option linter.unusedVariables false
set_option maxRecDepth 100000
noncomputable section
def Cv (x0:Bool) (x1:O):Option Bool:=cG OR (AF EY) (AF EY) kx ⟨[(1,.ptr 0 0),(70,.bool x0)],[.var (U.enc x1)]⟩
def Nh (x0:Bool) (x1:O):Option Bool:=((Kr x1.2.2.2.2.2.2.2.2.2).bind fun y7=>(if y7=false then (if (x1.2.2.2.2.2.2.2.2.2.1==1)=false then (if (x1.2.2.2.2.2.2.2.2.2.1==2)=true then (if x1.2.2.2.2.2.1=true then ((AO x1.2.2.2.2.2.2.2.2.2.2.1 0 1000).bind fun y8=>(if y8=true then ((AO x1.2.2.2.2.2.2.2.2.2.2.2.1 1 900).bind fun y9=>(some y9)) else (some false))) else (some false)) else (some false)) else (if x1.2.2.2.2.2.1=true then ((AO x1.2.2.2.2.2.2.2.2.2.2.1 0 1000).bind fun y10=>(if y10=true then ((AO x1.2.2.2.2.2.2.2.2.2.2.2.1 1 900).bind fun y11=>(some y11)) else (some false))) else (some false))) else (some true)))
def Sx (x0:O):Option Bool:=((AO x0.1 1 6).bind fun y1=>(if (!y1)=false then ((AO x0.2.1 1 9).bind fun y2=>(if (!y2)=false then (if x0.2.2.2.2.2.1=true then (if (!x0.2.2.2.1)=false then (if (!x0.2.2.2.2.1)=false then (if (decide ((x0.2.2.2.2.2.2.1.length:Int)>0))=false then (if x0.2.2.1=true then (if x0.2.2.2.1=false then (if x0.2.2.2.2.1=false then ((CS x0.2.2.2.2.2.2.1).bind fun y3=>(if (!y3)=false then ((CS x0.2.2.2.2.2.2.2.2.2.2.2.2.2).bind fun y4=>(if (!y4)=false then ((CX x0.2.2.2.2.2.2.2.1).bind fun y5=>(if (!y5)=false then ((AO x0.2.2.2.2.2.2.2.2.1 0 900).bind fun y6=>(if (!y6)=true then (some false) else (Cv (!y6) x0))) else (some false))) else (some false))) else (some false))) else (some false)) else (some false)) else ((CS x0.2.2.2.2.2.2.1).bind fun y12=>(if (!y12)=false then ((CS x0.2.2.2.2.2.2.2.2.2.2.2.2.2).bind fun y13=>(if (!y13)=false then ((CX x0.2.2.2.2.2.2.2.1).bind fun y14=>(if (!y14)=false then ((AO x0.2.2.2.2.2.2.2.2.1 0 900).bind fun y15=>(if (!y15)=true then (some false) else (Cv (!y15) x0))) else (some false))) else (some false))) else (some false)))) else (some false)) else (some false)) else (some false)) else (if x0.2.2.1=true then (if x0.2.2.2.1=false then (if x0.2.2.2.2.1=false then ((CS x0.2.2.2.2.2.2.1).bind fun y16=>(if (!y16)=false then ((CS x0.2.2.2.2.2.2.2.2.2.2.2.2.2).bind fun y17=>(if (!y17)=false then ((CX x0.2.2.2.2.2.2.2.1).bind fun y18=>(if (!y18)=false then ((AO x0.2.2.2.2.2.2.2.2.1 0 900).bind fun y19=>(if (!y19)=true then (some false) else (Cv (!y19) x0))) else (some false))) else (some false))) else (some false))) else (some false)) else (some false)) else ((CS x0.2.2.2.2.2.2.1).bind fun y20=>(if (!y20)=false then ((CS x0.2.2.2.2.2.2.2.2.2.2.2.2.2).bind fun y21=>(if (!y21)=false then ((CX x0.2.2.2.2.2.2.2.1).bind fun y22=>(if (!y22)=false then ((AO x0.2.2.2.2.2.2.2.2.1 0 900).bind fun y23=>(if (!y23)=true then (some false) else (Cv (!y23) x0))) else (some false))) else (some false))) else (some false))))) else (some false))) else (some false)))
theorem WT:TI Nh Cv:=jS (by kernel_rfl)
theorem br:N2 Sx EZ:=cT EY rfl ⟨rfl,rfl⟩ (by kernel_rfl)
def ZX:=cG QG (AF C_) (AF C_) kx
def ZY:=kE 0 [] [0] 0 ZX kx
def Xq:St→Option (RT (BN.outs C_)):=lG QF [] [0,3] 0 (AF C_) ZY
def GU (x0:List (List Int)) (x1:Int):Option Bool:=Xq ⟨[(0,.lst (.slice (.int .i64)) x0),(3,.int .i64 x1)],[]⟩
def Jl (x0:List (List Int)) (x1:Int):Option Bool:=(if (decide (x1<(x0.length:Int)))=true then (if 0≤x1 then (if x1<(x0.length:Int) then ((NV (x0.getD x1.toNat ([]:List Int))).bind fun y1=>(if (!y1)=true then (some false) else (GU x0 (i64.wrap (x1+1))))) else none) else none) else ((AO (x0.length:Int) 1 9).bind fun y2=>(some y2)))
def UJ (x0:List (List Int)):Option Bool:=(GU x0 0)
theorem PB:TI Jl GU:=lS (by kernel_rfl)
theorem eT:N2 UJ DH:=cT C_ rfl ⟨rfl,rfl⟩ (by kernel_rfl)
def Sy:=cG QK (AF B1) (AF B1) kx
def Ea:=kB [] [6,9,10,11] 4 Sy
def Eb:=kE 0 [] [6,9,10,11] 4 Sy kx
def HD (x0:List Int) (x1:List Y) (x2:List AD) (x3:Bool) (x4:O) (x5:Y) (x6 x7:O):Option (O×List Y×List AD):=cG SO Ea (AF B1) Eb ⟨[(1,.lst (.int .i64) x0),(5,.ptr 1 0),(6,.ptr 2 0),(9,.ptr 3 0),(10,.lst AC x1),(11,.lst Au x2),(28,.bool x3)],[.var (U.enc x4),.var (AC.enc x5),.var (U.enc x6),.var (U.enc x7)]⟩
def HE (x0:List Y) (x1:List AD) (x2:Bool) (x3:O) (x4:Y) (x5 x6:O):Option (O×List Y×List AD):=cG SP Ea (AF B1) Eb ⟨[(3,.ptr 0 0),(5,.ptr 1 0),(6,.ptr 2 0),(9,.ptr 3 0),(10,.lst AC x0),(11,.lst Au x1),(60,.bool x2)],[.var (U.enc x3),.var (AC.enc x4),.var (U.enc x5),.var (U.enc x6)]⟩
def Ky (x0:List Y) (x1:List AD) (x2:Bool) (x3:O) (x4:Y) (x5 x6:O):Option (O×List Y×List AD):=cG SQ Ea (AF B1) Eb ⟨[(3,.ptr 0 0),(5,.ptr 1 0),(6,.ptr 2 0),(9,.ptr 3 0),(10,.lst AC x0),(11,.lst Au x1),(50,.bool x2)],[.var (U.enc x3),.var (AC.enc x4),.var (U.enc x5),.var (U.enc x6)]⟩
def Kz (x0:List Y) (x1:List AD) (x2:Bool) (x3:O) (x4:Y) (x5 x6:O):Option (O×List Y×List AD):=cG QH Ea (AF B1) Eb ⟨[(5,.ptr 1 0),(6,.ptr 2 0),(9,.ptr 3 0),(10,.lst AC x0),(11,.lst Au x1),(145,.bool x2)],[.var (U.enc x3),.var (AC.enc x4),.var (U.enc x5),.var (U.enc x6)]⟩
def HF (x0:List Y) (x1:List AD) (x2:Int) (x3:O) (x4:Y) (x5 x6:O):Option (O×List Y×List AD):=cG QI Ea (AF B1) Eb ⟨[(5,.ptr 1 0),(6,.ptr 2 0),(9,.ptr 3 0),(10,.lst AC x0),(11,.lst Au x1),(13,.int .i64 x2)],[.var (U.enc x3),.var (AC.enc x4),.var (U.enc x5),.var (U.enc x6)]⟩
def HG (x0:List Y) (x1:List AD) (x2:Bool) (x3:O) (x4:Y) (x5 x6:O):Option (O×List Y×List AD):=cG QJ Ea (AF B1) Eb ⟨[(5,.ptr 1 0),(6,.ptr 2 0),(9,.ptr 3 0),(10,.lst AC x0),(11,.lst Au x1),(127,.bool x2)],[.var (U.enc x3),.var (AC.enc x4),.var (U.enc x5),.var (U.enc x6)]⟩
def Ql (x0:List Int) (x1:List Y) (x2:List AD) (x3:Bool) (x4:O) (x5:Y) (x6 x7:O):Option (O×List Y×List AD):=(if x3=true then ((LV x0 x5.2.2.2.2.2 x7).bind fun y2=>(some (y2.2,y2.1,x2))) else (some (x7,x1,x2)))
def Qm (x0:List Y) (x1:List AD) (x2:Bool) (x3:O) (x4:Y) (x5 x6:O):Option (O×List Y×List AD):=(if (!x6.2.2.2.1)=true then ((JZ x3 x3.2.1).bind fun y4=>(if ([]:List X).length+x4.2.2.2.2.2.length≤68719476736 then ((DU x3 x4 4).bind fun y5=>(some ((y4.1,y4.2.1,y4.2.2.1,true,y4.2.2.2.2.1,y4.2.2.2.2.2.1,y4.2.2.2.2.2.2.1,(([]:List X)++x4.2.2.2.2.2),y4.2.2.2.2.2.2.2.2),y5,x1))) else none)) else ((DU x3 x4 4).bind fun y6=>(some (x6,y6,x1))))
def Qn (x0:List Y) (x1:List AD) (x2:Bool) (x3:O) (x4:Y) (x5 x6:O):Option (O×List Y×List AD):=(if (!x6.2.2.2.1)=true then (if x6.2.2.1=true then (some (x6,x0,x1)) else (HE x0 x1 x6.2.2.1 x3 x4 x5 x6)) else (HE x0 x1 false x3 x4 x5 x6))
def Qo (x0:List Y) (x1:List AD) (x2:Bool) (x3:O) (x4:Y) (x5 x6:O):Option (O×List Y×List AD):=((GQ x6.2.2.2.2.2.2.2.2.2.2.2.2.2 x4.2.1).bind fun y11=>(if ((y11.length:Int)==0)=true then ((FT (x6.1,x6.2.1,x6.2.2.1,x6.2.2.2.1,x6.2.2.2.2.1,x6.2.2.2.2.2.1,x6.2.2.2.2.2.2.1,x6.2.2.2.2.2.2.2.1,x6.2.2.2.2.2.2.2.2.1,x6.2.2.2.2.2.2.2.2.2.1,x6.2.2.2.2.2.2.2.2.2.2.1,x6.2.2.2.2.2.2.2.2.2.2.2.1,x6.2.2.2.2.2.2.2.2.2.2.2.2.1,y11)).bind fun y12=>(some (y12.2,x0,y12.1))) else (some ((x6.1,x6.2.1,x6.2.2.1,x6.2.2.2.1,x6.2.2.2.2.1,x6.2.2.2.2.2.1,x6.2.2.2.2.2.2.1,x6.2.2.2.2.2.2.2.1,x6.2.2.2.2.2.2.2.2.1,x6.2.2.2.2.2.2.2.2.2.1,x6.2.2.2.2.2.2.2.2.2.2.1,x6.2.2.2.2.2.2.2.2.2.2.2.1,x6.2.2.2.2.2.2.2.2.2.2.2.2.1,y11),x0,x1))))
def Qp (x0:List Y) (x1:List AD) (x2:Int) (x3:O) (x4:Y) (x5 x6:O):Option (O×List Y×List AD):=(if (x6.2.2.2.2.2.2.2.2.2.1 != x2)=false then (if (x6.2.2.2.2.2.2.2.2.2.2.2.1 != x4.2.2.2.2.1)=true then (some (x6,x0,x1)) else (Kz x0 x1 (x6.2.2.2.2.2.2.2.2.2.2.2.1 != x4.2.2.2.2.1) x3 x4 x5 x6)) else (some (x6,x0,x1)))
def Qq (x0:List Y) (x1:List AD) (x2:Bool) (x3:O) (x4:Y) (x5 x6:O):Option (O×List Y×List AD):=(if x2=true then (if (x4.1==8)=true then (HF x0 x1 2 x3 x4 x5 x6) else (HF x0 x1 1 x3 x4 x5 x6)) else (some (x6,x0,x1)))
def Vl (x0:O) (x1:List Int) (x2:Y):Option (O×List Y×List AD):=((CW x0).bind fun y1=>(if (x2.1==2)=true then (if y1.2.2.2.2.1=true then (HD x1 ([]:List Y) ([]:List AD) (!y1.2.2.2.1) x0 x2 (0,0,false,false,false,false,([]:List Int),([]:List X),0,0,0,0,(ByteArray.empty,ByteArray.empty,0),([]:List Int)) y1) else (HD x1 ([]:List Y) ([]:List AD) false x0 x2 (0,0,false,false,false,false,([]:List Int),([]:List X),0,0,0,0,(ByteArray.empty,ByteArray.empty,0),([]:List Int)) y1)) else (if (x2.1==3)=true then ((C4 x1 x0.1).bind fun y3=>(if (!y3)=true then (some (y1,([]:List Y),([]:List AD))) else (if 0≤(0:Int) then (if 0<(x1.length:Int) then (if ((x1.getD (0:Int).toNat 0)==x0.1)=true then (some (y1,([]:List Y),([]:List AD))) else (Ky ([]:List Y) ([]:List AD) ((x1.getD (0:Int).toNat 0)==x0.1) x0 x2 (0,0,false,false,false,false,([]:List Int),([]:List X),0,0,0,0,(ByteArray.empty,ByteArray.empty,0),([]:List Int)) y1)) else none) else none))) else (if (x2.1==4)=true then (if y1.2.2.2.2.1=true then ((GQ y1.2.2.2.2.2.2.1 x2.2.1).bind fun y7=>(if y1.2.2.2.1=true then (some ((y1.1,y1.2.1,y1.2.2.1,y1.2.2.2.1,y1.2.2.2.2.1,((y7.length:Int)==0),y7,y1.2.2.2.2.2.2.2),([]:List Y),([]:List AD))) else (some ((y1.1,y1.2.1,y1.2.2.1,y1.2.2.2.1,y1.2.2.2.2.1,false,y7,y1.2.2.2.2.2.2.2),([]:List Y),([]:List AD))))) else (some (y1,([]:List Y),([]:List AD)))) else (if (x2.1==5)=true then (if y1.2.2.2.1=true then (if 0≤(0:Int) then (if 0<(x2.2.2.2.2.2.length:Int) then ((FR y1.2.2.2.2.2.2.2.1 (x2.2.2.2.2.2.getD (0:Int).toNat (ByteArray.empty,ByteArray.empty,0))).bind fun y8=>((DU x0 x2 6).bind fun y9=>(some ((y1.1,y1.2.1,y1.2.2.1,y1.2.2.2.1,y1.2.2.2.2.1,y1.2.2.2.2.2.1,y1.2.2.2.2.2.2.1,y8,y1.2.2.2.2.2.2.2.2),y9,([]:List AD))))) else none) else none) else (some (y1,([]:List Y),([]:List AD)))) else (if (x2.1==7)=true then (if y1.2.2.2.1=true then ((DU x0 x2 8).bind fun y10=>(some (y1,y10,([]:List AD)))) else (some (y1,([]:List Y),([]:List AD)))) else (if (x2.1==6)=true then (HG ([]:List Y) ([]:List AD) (x2.1==6) x0 x2 (0,0,false,false,false,false,([]:List Int),([]:List X),0,0,0,0,(ByteArray.empty,ByteArray.empty,0),([]:List Int)) y1) else (HG ([]:List Y) ([]:List AD) (x2.1==8) x0 x2 (0,0,false,false,false,false,([]:List Int),([]:List X),0,0,0,0,(ByteArray.empty,ByteArray.empty,0),([]:List Int)) y1))))))))
theorem ZZ:n8 Ql HD:=jS (by kernel_rfl)
theorem Za:n7 Qm HE:=jS (by kernel_rfl)
theorem Zb:n7 Qn Ky:=jS (by kernel_rfl)
theorem Zc:n7 Qo Kz:=jS (by kernel_rfl)
theorem Zd:n7 Qp HF:=jS (by kernel_rfl)
theorem Ze:n7 Qq HG:=jS (by kernel_rfl)
theorem f7:Rk Vl Pk:=cT B1 rfl ⟨rfl,rfl⟩ (by kernel_rfl)
def eU:=cG T7 (AF Eh) (AF Eh) kx
def eV:=kE 0 [] [] 0 eU kx
def bt:St→Option (RT (BN.outs Eh)):=lG T6 [] [0,1,5] 0 (AF Eh) eV
def H9 (x0:List Int) (x1 x2:Int):Option Bool:=bt ⟨[(0,.lst (.int .i64) x0),(1,.int .i64 x1),(5,.int .i64 x2)],[]⟩
def MN (x0:List Int) (x1 x2:Int):Option Bool:=(if (decide (x2<(x0.length:Int)))=true then (if 0≤x2 then (if x2<(x0.length:Int) then (if ((x0.getD x2.toNat 0)==x1)=true then (some true) else (H9 x0 x1 (i64.wrap (x2+1)))) else none) else none) else (some false))
def Xr (x0:List Int) (x1:Int):Option Bool:=(H9 x0 x1 0)
theorem Sz:Rk MN H9:=lS (by kernel_rfl)
theorem iU:TI Xr C4:=cT Eh rfl ⟨rfl,rfl⟩ (by kernel_rfl)
def UK (x0:O) (x1:Int):Option O:=(if ([]:List X).length+x0.2.2.2.2.2.2.2.1.length≤68719476736 then (some (x0.1,x1,false,false,false,false,([]:List Int),(([]:List X)++x0.2.2.2.2.2.2.2.1),0,0,0,0,(ByteArray.empty,ByteArray.empty,0),([]:List Int))) else none)
theorem eW:TI UK JZ:=cT JJ rfl ⟨rfl,rfl⟩ (by kernel_rfl)
def bw (x0:O) (x1:Y) (x2:Int):Option (List Y):=(some ([(x2,x0.1,x1.2.1,x1.2.2.2.1,x1.2.2.2.2.1,([]:List X))]:List Y))
theorem bz:Rk bw DU:=cT Hv rfl ⟨rfl,rfl⟩ (by kernel_rfl)
def Vm (x0:Int):Option Bool:=((Aw x0 1 6).bind fun y1=>(some y1))
theorem f8:N2 Vm F9:=cT LO rfl ⟨rfl,rfl⟩ (by kernel_rfl)
def UL (x0 x1 x2:Int):Option Bool:=(if (decide (x0≥x1))=true then (some (decide (x0≤x2))) else (some false))
theorem eX:Rk UL Aw:=cT JK rfl ⟨rfl,rfl⟩ (by kernel_rfl)
def UM:=cG Li (AF Bx) (AF Bx) kx
def UN:=kE 0 [] [] 0 UM kx
def TP:St→Option (RT (BN.outs Bx)):=lG Lh [] [0,1,2,9,10,11] 0 (AF Bx) UN
def Cn (x0:List Int) (x1 x2:Int) (x3:List Int) (x4 x5:Int):Option Bool:=TP ⟨[(0,.lst (.int .i64) x0),(1,.int .i64 x1),(2,.int .i64 x2),(9,.lst (.int .i64) x3),(10,.int .i64 x4),(11,.int .i64 x5)],[]⟩
def GE (x0:List Int) (x1 x2:Int) (x3:List Int) (x4 x5:Int):Option Bool:=(if (decide (x5<x4))=true then (if 0≤x5 then (if x5<(x3.length:Int) then ((Aw (x3.getD x5.toNat 0) x1 x2).bind fun y1=>(if (!y1)=false then (if (decide (x5>0))=true then (if 0≤(i64.wrap (x5-1)) then (if (i64.wrap (x5-1))<(x0.length:Int) then (if (decide ((x3.getD x5.toNat 0)≤(x0.getD (i64.wrap (x5-1)).toNat 0)))=true then (some false) else (Cn x0 x1 x2 x3 x4 (i64.wrap (x5+1)))) else none) else none) else (Cn x0 x1 x2 x3 x4 (i64.wrap (x5+1)))) else (some false))) else none) else none) else (some true))
def Ni (x0:List Int) (x1 x2:Int):Option Bool:=(Cn x0 x1 x2 x0 (x0.length:Int) 0)
theorem KX:jt GE Cn:=lS (by kernel_rfl)
theorem WU:Rk Ni Fk:=cT Bx rfl ⟨rfl,rfl⟩ (by kernel_rfl)
def Zf:=cG OW (AF DA) (AF DA) kx
def Zg:=kE 0 [] [0] 0 Zf kx
def Xs:St→Option (RT (BN.outs DA)):=lG OV [] [0,5,6,7] 0 (AF DA) Zg
def Em (x0 x1:List X) (x2 x3:Int):Option Bool:=Xs ⟨[(0,.lst AA x0),(5,.lst AA x1),(6,.int .i64 x2),(7,.int .i64 x3)],[]⟩
def Jm (x0 x1:List X) (x2 x3:Int):Option Bool:=(if (decide (x3<x2))=true then (if 0≤x3 then (if x3<(x1.length:Int) then ((Rr ((x1.getD x3.toNat (ByteArray.empty,ByteArray.empty,0)).1)).bind fun y1=>(if (!y1)=true then (some false) else (if (decide (((((x1.getD x3.toNat (ByteArray.empty,ByteArray.empty,0)).2).1).size:Int)>20))=true then (some false) else ((Aw (((x1.getD x3.toNat (ByteArray.empty,ByteArray.empty,0)).2).2) 1 1000000000).bind fun y2=>(if (!y2)=true then (some false) else (if (decide (x3>0))=true then (if 0≤(i64.wrap (x3-1)) then (if (i64.wrap (x3-1))<(x0.length:Int) then (if ((Op.bytesLess ((x1.getD x3.toNat (ByteArray.empty,ByteArray.empty,0)).1).toList ((x0.getD (i64.wrap (x3-1)).toNat (ByteArray.empty,ByteArray.empty,0)).1).toList)||(((x1.getD x3.toNat (ByteArray.empty,ByteArray.empty,0)).1).toList==((x0.getD (i64.wrap (x3-1)).toNat (ByteArray.empty,ByteArray.empty,0)).1).toList))=true then (some false) else (Em x0 x1 x2 (i64.wrap (x3+1)))) else none) else none) else (Em x0 x1 x2 (i64.wrap (x3+1))))))))) else none) else none) else (some (decide ((x0.length:Int)≤12))))
def UO (x0:List X):Option Bool:=(Em x0 x0 (x0.length:Int) 0)
theorem PC:dj Jm Em:=lS (by kernel_rfl)
theorem eY:N2 UO ED:=cT DA rfl ⟨rfl,rfl⟩ (by kernel_rfl)
def Ls (b0:O):Option (Bool×O):=(if (b0.2.2.2.2.2.2.2.2.2.1==0)=true then (if (b0.2.2.2.2.2.2.2.2.2.2.1==0)=true then (if (b0.2.2.2.2.2.2.2.2.2.2.2.1==0)=true then (if (false != Yp AA b0.2.2.2.2.2.2.2.2.2.2.2.2.1 (ByteArray.empty,ByteArray.empty,0))=true then (some (((b0.2.2.2.2.2.2.2.2.2.2.2.2.2.length:Int)==0),b0)) else (some (false,b0))) else (some (false,b0))) else (some (false,b0))) else ((Aw b0.2.2.2.2.2.2.2.2.2.1 1 2).bind fun y1=>(if y1=true then (if b0.2.2.2.2.2.1=true then ((Aw b0.2.2.2.2.2.2.2.2.2.2.1 0 1000).bind fun y2=>(if y2=true then ((Aw b0.2.2.2.2.2.2.2.2.2.2.2.1 1 900).bind fun y3=>(if y3=true then ((Fk b0.2.2.2.2.2.2.2.2.2.2.2.2.2 1 6).bind fun y4=>(some (y4,b0))) else (some (false,b0)))) else (some (false,b0)))) else (some (false,b0))) else (some (false,b0)))))
theorem UP:N2 Ls CN:=cT Ei rfl ⟨rfl,rfl⟩ (by kernel_rfl)
def Zh:=cG Ob (AF DB) (AF DB) kx
def Zi:=kE 0 [] [0] 0 Zh kx
def Xt:St→Option (RT (BN.outs DB)):=lG Oa [] [0,3] 0 (AF DB) Zi
def En (x0:List X) (x1:Int):Option Bool:=Xt ⟨[(0,.lst AA x0),(3,.int .i64 x1)],[]⟩
def Jn (x0:List X) (x1:Int):Option Bool:=(if (decide (x1<(x0.length:Int)))=true then (if 0≤x1 then (if x1<(x0.length:Int) then ((AO (((x0.getD x1.toNat (ByteArray.empty,ByteArray.empty,0)).1).size:Int) 1 12).bind fun y1=>(if (!y1)=true then (some false) else (if (decide (((((x0.getD x1.toNat (ByteArray.empty,ByteArray.empty,0)).2).1).size:Int)>20))=true then (some false) else ((AO (((x0.getD x1.toNat (ByteArray.empty,ByteArray.empty,0)).2).2) 1 1000000000).bind fun y2=>(if (!y2)=true then (some false) else (if (decide (x1>0))=true then (if 0≤(i64.wrap (x1-1)) then (if (i64.wrap (x1-1))<(x0.length:Int) then (if (!(Op.bytesLess ((x0.getD (i64.wrap (x1-1)).toNat (ByteArray.empty,ByteArray.empty,0)).1).toList ((x0.getD x1.toNat (ByteArray.empty,ByteArray.empty,0)).1).toList))=true then (some false) else (En x0 (i64.wrap (x1+1)))) else none) else none) else (En x0 (i64.wrap (x1+1))))))))) else none) else none) else (some (decide ((x0.length:Int)≤12))))
def UQ (x0:List X):Option Bool:=(En x0 0)
theorem PD:TI Jn En:=lS (by kernel_rfl)
theorem eZ:N2 UQ CX:=cT DB rfl ⟨rfl,rfl⟩ (by kernel_rfl)
def Rt:=cG JM (AF Bb) (AF Bb) kx
def Ru:=kE 0 [(5,1)] [5] 2 Rt kx
def Qr:St→Option (RT (BN.outs Bb)):=lG JL [(5,1)] [0,5,8,9,10] 2 (AF Bb) Ru
def CO (x0:List Int) (x1 x2:Int) (x3:O) (x4:List Int):Option (List Int×O):=Qr ⟨[(0,.ptr 0 0),(5,.row 1),(8,.lst (.int .i64) x0),(9,.int .i64 x1),(10,.int .i64 x2)],[.var (U.enc x3),.rows 3 (.int .i64) x4]⟩
def FU (x0:List Int) (x1 x2:Int) (x3:O) (x4:List Int):Option (List Int×O):=(if (decide (x2<x1))=true then (if 0≤x2 then (if x2<(x0.length:Int) then (if ((x0.getD x2.toNat 0) != x3.1)=true then (if x4.length+([(x0.getD x2.toNat 0)]:List Int).length≤68719476736 then (CO x0 x1 (i64.wrap (x2+1)) x3 (x4++([(x0.getD x2.toNat 0)]:List Int))) else none) else (CO x0 x1 (i64.wrap (x2+1)) x3 x4)) else none) else none) else (some (x4,x3)))
def Lt (x1:List Int) (b0:O):Option (List Int×O):=(CO x1 (x1.length:Int) 0 b0 ([]:List Int))
theorem Io:jC FU CO:=lS (by kernel_rfl)
theorem UR:TI Lt Gr:=cT Bb rfl ⟨rfl,rfl⟩ (by kernel_rfl)
def KY (b0:List Int):Option (List Int):=((MA (IntKind.u64.wrap (b0.length:Int))).bind fun y1=>((Bt 0 (b0.length:Int) y1 b0).bind fun y2=>(some y2)))
theorem TQ:N2 KY EO:=cT EN rfl ⟨rfl,rfl⟩ (by kernel_rfl)
def GF (x0:O) (x1:iB):Option (List AD×O):=cG Lj (AF Cs) (AF Cs) kx ⟨[(0,.ptr 0 0),(3,.ptr 1 0)],[.var (U.enc x0),.var (Kl.enc x1)]⟩
def GG (x0:O) (x1:iB):Option (List AD×O):=(some (([(x1.2.1,x0.2.1,x1.2.2.1,x1.2.2.2.1)]:List AD),(x0.1,x0.2.1,x0.2.2.1,x0.2.2.2.1,x0.2.2.2.2.1,x0.2.2.2.2.2.1,x0.2.2.2.2.2.2.1,x0.2.2.2.2.2.2.2.1,x0.2.2.2.2.2.2.2.2.1,0,0,0,(ByteArray.empty,ByteArray.empty,0),([]:List Int))))
def Nj (b0:O):Option (List AD×O):=(if (b0.2.2.2.2.2.2.2.2.2.1==1)=true then ((Jb b0.2.2.2.2.2.2.2.1 b0.2.2.2.2.2.2.2.2.2.2.2.2.1).bind fun y1=>(GF (b0.1,b0.2.1,b0.2.2.1,b0.2.2.2.1,b0.2.2.2.2.1,b0.2.2.2.2.2.1,b0.2.2.2.2.2.2.1,y1,b0.2.2.2.2.2.2.2.2) b0.2.2.2.2.2.2.2.2.2)) else ((LT b0.2.2.2.2.2.2.2.1 b0.2.2.2.2.2.2.2.2.2.2.2.2.1.1).bind fun y2=>(GF b0 (b0.2.2.2.2.2.2.2.2.2.1,b0.2.2.2.2.2.2.2.2.2.2.1,b0.2.2.2.2.2.2.2.2.2.2.2.1,y2,b0.2.2.2.2.2.2.2.2.2.2.2.2.2))))
theorem KZ:TI GG GF:=jS (by kernel_rfl)
theorem WV:N2 Nj IG:=cT Cs rfl ⟨rfl,rfl⟩ (by kernel_rfl)
def Qs:=cG Ii (AF BO) (AF BO) kx
def Qt:=kE 0 [(7,2)] [7] 3 Qs kx
def Pp:St→Option (RT (BN.outs BO)):=lG Ih [(7,2)] [0,5,7,11,12,13] 3 (AF BO) Qt
def C5 (x0:List Int) (x1 x2:Int) (x3:O) (x4:Y) (x5:List Y):Option (List Y×O):=Pp ⟨[(0,.ptr 0 0),(5,.ptr 1 0),(7,.row 2),(11,.lst (.int .i64) x0),(12,.int .i64 x1),(13,.int .i64 x2)],[.var (U.enc x3),.var (AC.enc x4),.rows 34 AC x5]⟩
def E5 (x0:List Int) (x1 x2:Int) (x3:O) (x4:Y) (x5:List Y):Option (List Y×O):=(if (decide (x2<x1))=true then (if 0≤x2 then (if x2<(x0.length:Int) then ((NW x4).bind fun y1=>(if x5.length+([(y1.1,x3.1,(x0.getD x2.toNat 0),x3.2.1,y1.2.2.2.2)]:List Y).length≤68719476736 then (C5 x0 x1 (i64.wrap (x2+1)) x3 x4 (x5++([(y1.1,x3.1,(x0.getD x2.toNat 0),x3.2.1,y1.2.2.2.2)]:List Y))) else none)) else none) else none) else (some (x5,x3)))
def Ka (x1:List Int) (x2:Y) (b0:O):Option (List Y×O):=(C5 x1 (x1.length:Int) 0 b0 x2 ([]:List Y))
theorem Hi:jt E5 C5:=lS (by kernel_rfl)
theorem TR:Rk Ka BC:=cT BO rfl ⟨rfl,rfl⟩ (by kernel_rfl)
def US (x1:Int) (b0:Z):Option (Bool×Z):=((AS x1 b0).bind fun y1=>(some ((y1.1==0),y1.2)))
theorem ed:TI US B_:=cT JN rfl ⟨rfl,rfl⟩ (by kernel_rfl)
def Mm (x0:Int) (x1:List (List Int)) (x2:Bool) (x3:O):Option (O×Bool):=cG NL (AF D7) (AF D7) kx ⟨[(0,.int .i64 x0),(1,.lst (.slice (.int .i64)) x1),(4,.ptr 0 0),(14,.bool x2)],[.var (U.enc x3)]⟩
def Mn (x0:Int) (x1:List (List Int)) (x2:Bool) (x3:O):Option (O×Bool):=(if 0≤(0:Int) then (if 0<(x1.length:Int) then ((C4 (x1.getD (0:Int).toNat ([]:List Int)) x0).bind fun y3=>(if 0≤(0:Int) then (if 0<(x1.length:Int) then (if 0≤(0:Int) then (if 0<((x1.getD (0:Int).toNat ([]:List Int)).length:Int) then (some ((x0,1,false,y3,(((x1.getD (0:Int).toNat ([]:List Int)).getD (0:Int).toNat 0)==x0),(((x1.getD (0:Int).toNat ([]:List Int)).getD (0:Int).toNat 0)==x0),([]:List Int),([]:List X),0,0,0,0,(ByteArray.empty,ByteArray.empty,0),([]:List Int)),true)) else none) else none) else none) else none)) else none) else none)
def Qu (x0:Int) (x1:List (List Int)):Option (O×Bool):=((DH x1).bind fun y1=>(if (!y1)=false then ((AO x0 1 6).bind fun y2=>(if (!y2)=true then (some ((0,0,false,false,false,false,([]:List Int),([]:List X),0,0,0,0,(ByteArray.empty,ByteArray.empty,0),([]:List Int)),false)) else (Mm x0 x1 (!y2) (0,0,false,false,false,false,([]:List Int),([]:List X),0,0,0,0,(ByteArray.empty,ByteArray.empty,0),([]:List Int))))) else (some ((0,0,false,false,false,false,([]:List Int),([]:List X),0,0,0,0,(ByteArray.empty,ByteArray.empty,0),([]:List Int)),false))))
theorem VP:dj Mn Mm:=jS (by kernel_rfl)
theorem Zj:TI Qu Kp:=cT D7 rfl ⟨rfl,rfl⟩ (by kernel_rfl)
def b6:=cG ST (AF Dw) (AF Dw) kx
def b7:=kE 0 [] [4] 1 b6 kx
def Zk:St→Option (RT (BN.outs Dw)):=lG SS [] [0,1,4,5] 1 (AF Dw) b7
def HH (x0:List X) (x1:ByteArray) (x2:Int) (x3:X):Option X:=Zk ⟨[(0,.lst AA x0),(1,.str x1),(4,.ptr 0 0),(5,.int .i64 x2)],[.var (AA.enc x3)]⟩
def K3 (x0:List X) (x1:ByteArray) (x2:Int) (x3:X):Option X:=(if (decide (x2<(x0.length:Int)))=true then (if 0≤x2 then (if x2<(x0.length:Int) then (if (((x0.getD x2.toNat (ByteArray.empty,ByteArray.empty,0)).1).toList==x1.toList)=true then (if 0≤x2 then (if x2<(x0.length:Int) then (some (x0.getD x2.toNat (ByteArray.empty,ByteArray.empty,0))) else none) else none) else (HH x0 x1 (i64.wrap (x2+1)) x3)) else none) else none) else (some (ByteArray.empty,ByteArray.empty,0)))
def Vn (x0:List X) (x1:ByteArray):Option X:=(HH x0 x1 0 (ByteArray.empty,ByteArray.empty,0))
theorem Qv:dj K3 HH:=lS (by kernel_rfl)
theorem f9:TI Vn LU:=cT Dw rfl ⟨rfl,rfl⟩ (by kernel_rfl)
def Zl:=cG JO (AF Ak) (AF Ak) kx
def Zm:=kE 2 [(5,1),(6,2)] [0,5,6] 3 Zl kx
def Xu:St→Option (RT (BN.outs Ak)):=lG Oc [(5,1),(6,2)] [0,3,5,6,8] 3 (AF Ak) Zm
def Zn:=cG JP (AF Ak) (AF Ak) kx
def K4:=kE 0 [(5,1),(6,2)] [0,3,5,6] 3 Zn kx
def PE:St→Option (RT (BN.outs Ak)):=lG QN [(5,1),(6,2)] [0,3,5,6,7] 3 (AF Ak) K4
def Zo:=kB [(5,1),(6,2)] [0,3,5,6,7] 3 PE
def Qw:=cG QM Zo (AF Ak) K4
def Zp:=kB [(5,1),(6,2)] [0,3,5,6,7] 3 Qw
def Zq:=kE 1 [(5,1),(6,2)] [0,3,5,6,7] 3 Qw K4
def GV (x0:List X) (x1:Int) (x2:X) (x3 x4:List X):Option (List X):=cG QL Zp (AF Ak) Zq ⟨[(0,.lst AA x0),(3,.ptr 0 0),(5,.row 1),(6,.row 2),(7,.int .i64 x1)],[.var (AA.enc x2),.rows 27 AA x3,.rows 27 AA x4]⟩
def Jo (x0:List X) (x1:X) (x2 x3:List X):Option (List X):=cG JO (AF Ak) (AF Ak) kx ⟨[(0,.lst AA x0),(5,.row 1),(6,.row 2)],[.var (AA.enc x1),.rows 27 AA x2,.rows 27 AA x3]⟩
def DN (x0:List X) (x1:Int) (x2:X) (x3 x4:List X):Option (List X):=Xu ⟨[(0,.lst AA x0),(3,.ptr 0 0),(5,.row 1),(6,.row 2),(8,.int .i64 x1)],[.var (AA.enc x2),.rows 27 AA x3,.rows 27 AA x4]⟩
def Jp (x0:List X) (x1:X) (x2 x3:List X):Option (List X):=cG JP (AF Ak) (AF Ak) kx ⟨[(0,.lst AA x0),(3,.ptr 0 0),(5,.row 1),(6,.row 2)],[.var (AA.enc x1),.rows 27 AA x2,.rows 27 AA x3]⟩
def DO (x0:List X) (x1:Int) (x2:X) (x3 x4:List X):Option (List X):=PE ⟨[(0,.lst AA x0),(3,.ptr 0 0),(5,.row 1),(6,.row 2),(7,.int .i64 x1)],[.var (AA.enc x2),.rows 27 AA x3,.rows 27 AA x4]⟩
def PF (x0:List X) (x1:Int) (x2:X) (x3 x4:List X):Option (List X):=(if 0≤x1 then (if x1<(x0.length:Int) then (if (((x0.getD x1.toNat (ByteArray.empty,ByteArray.empty,0)).1).toList==x2.1.toList)=true then (if 0≤x1 then (if x1<(x0.length:Int) then (if (decide ((((x0.getD x1.toNat (ByteArray.empty,ByteArray.empty,0)).2).2)≥x2.2.2))=true then (some x3) else (DO x0 (i64.wrap (x1+1)) x2 x3 x4)) else none) else none) else (DO x0 (i64.wrap (x1+1)) x2 x3 x4)) else none) else none)
def PG (x0:List X) (x1:X) (x2 x3:List X):Option (List X):=((CX x0).bind fun y1=>(if (!y1)=false then ((CX x3).bind fun y2=>(if (!y2)=true then (some x2) else (some x3))) else (some x2)))
def Jq (x0:List X) (x1:Int) (x2:X) (x3 x4:List X):Option (List X):=(if (decide (x1<(x0.length:Int)))=true then (if 0≤x1 then (if x1<(x0.length:Int) then (if (!((Op.bytesLess ((x0.getD x1.toNat (ByteArray.empty,ByteArray.empty,0)).1).toList x2.1.toList)||(((x0.getD x1.toNat (ByteArray.empty,ByteArray.empty,0)).1).toList==x2.1.toList)))=true then (if 0≤x1 then (if x1<(x0.length:Int) then (if x4.length+([x0.getD x1.toNat (ByteArray.empty,ByteArray.empty,0)]:List X).length≤68719476736 then (DN x0 (i64.wrap (x1+1)) x2 x3 (x4++([x0.getD x1.toNat (ByteArray.empty,ByteArray.empty,0)]:List X))) else none) else none) else none) else (DN x0 (i64.wrap (x1+1)) x2 x3 x4)) else none) else none) else (Jo x0 x2 x3 x4))
def PH (x0:List X) (x1:X) (x2 x3:List X):Option (List X):=(if x3.length+([x1]:List X).length≤68719476736 then (DN x0 0 x1 x2 (x3++([x1]:List X))) else none)
def Jr (x0:List X) (x1:Int) (x2:X) (x3 x4:List X):Option (List X):=(if (decide (x1<(x0.length:Int)))=true then (if 0≤x1 then (if x1<(x0.length:Int) then (if (Op.bytesLess ((x0.getD x1.toNat (ByteArray.empty,ByteArray.empty,0)).1).toList x2.1.toList)=true then (if 0≤x1 then (if x1<(x0.length:Int) then (if x4.length+([x0.getD x1.toNat (ByteArray.empty,ByteArray.empty,0)]:List X).length≤68719476736 then (GV x0 x1 x2 x3 (x4++([x0.getD x1.toNat (ByteArray.empty,ByteArray.empty,0)]:List X))) else none) else none) else none) else (GV x0 x1 x2 x3 x4)) else none) else none) else (Jp x0 x2 x3 x4))
def UT (x0:List X) (x1:X):Option (List X):=(if ([]:List X).length+x0.length≤68719476736 then (DO x0 0 x1 (([]:List X)++x0) ([]:List X)) else none)
theorem Xv:jC PF GV:=jS (by kernel_rfl)
theorem Xw:dj PG Jo:=jS (by kernel_rfl)
theorem PI:jC Jq DN:=lS (by kernel_rfl)
theorem Xx:dj PH Jp:=jS (by kernel_rfl)
theorem PJ:jC Jr DO:=lS (by kernel_rfl)
theorem ee:TI UT FR:=cT Ak rfl ⟨rfl,rfl⟩ (by kernel_rfl)
def WW:=cG NN (AF CL) (AF CL) kx
def WX:=kE 0 [(5,0)] [5] 1 WW kx
def VQ:St→Option (RT (BN.outs CL)):=lG NM [(5,0)] [0,1,5,6] 1 (AF CL) WX
def Br (x0:List Int) (x1 x2:Int) (x3:List Int):Option (List Int):=VQ ⟨[(0,.lst (.int .i64) x0),(1,.int .i64 x1),(5,.row 0),(6,.int .i64 x2)],[.rows 3 (.int .i64) x3]⟩
def HW (x0:List Int) (x1 x2:Int) (x3:List Int):Option (List Int):=(if (decide (x2≤6))=true then (if (x2 != x1)=true then ((C4 x0 x2).bind fun y1=>(if y1=true then (if x3.length+([x2]:List Int).length≤68719476736 then (Br x0 x1 (i64.wrap (x2+1)) (x3++([x2]:List Int))) else none) else (Br x0 x1 (i64.wrap (x2+1)) x3))) else (Br x0 x1 (i64.wrap (x2+1)) x3)) else (some x3))
def Qx (x0:List Int) (x1:Int):Option (List Int):=(Br x0 x1 1 ([]:List Int))
theorem Mo:dj HW Br:=lS (by kernel_rfl)
theorem Zr:TI Qx FS:=cT CL rfl ⟨rfl,rfl⟩ (by kernel_rfl)
def Qy (b0:O):Option (List AD×O):=(if (b0.2.2.2.2.2.2.2.2.2.1==1)=true then ((FR b0.2.2.2.2.2.2.2.1 b0.2.2.2.2.2.2.2.2.2.2.2.2.1).bind fun y1=>(some (([(b0.2.2.2.2.2.2.2.2.2.2.1,b0.2.1,b0.2.2.2.2.2.2.2.2.2.2.2.1,b0.2.2.2.2.2.2.2.2.2.2.2.2.1)]:List AD),(b0.1,b0.2.1,b0.2.2.1,b0.2.2.2.1,b0.2.2.2.2.1,b0.2.2.2.2.2.1,b0.2.2.2.2.2.2.1,y1,b0.2.2.2.2.2.2.2.2.1,0,0,0,(ByteArray.empty,ByteArray.empty,0),([]:List Int))))) else ((LU b0.2.2.2.2.2.2.2.1 b0.2.2.2.2.2.2.2.2.2.2.2.2.1.1).bind fun y2=>(some (([(b0.2.2.2.2.2.2.2.2.2.2.1,b0.2.1,b0.2.2.2.2.2.2.2.2.2.2.2.1,y2)]:List AD),(b0.1,b0.2.1,b0.2.2.1,b0.2.2.2.1,b0.2.2.2.2.1,b0.2.2.2.2.2.1,b0.2.2.2.2.2.2.1,b0.2.2.2.2.2.2.2.1,b0.2.2.2.2.2.2.2.2.1,0,0,0,(ByteArray.empty,ByteArray.empty,0),([]:List Int))))))
theorem Zs:N2 Qy FT:=cT G5 rfl ⟨rfl,rfl⟩ (by kernel_rfl)
def Zt:=cG QP (AF DC) (AF DC) kx
def Zu:=kE 0 [] [4,5] 6 Zt kx
def Xy:St→Option (RT (BN.outs DC)):=lG QO [] [0,4,5,6,8,9] 6 (AF DC) Zu
def DP (x0 x1:Int) (x2:Z) (x3:List Ac) (x4:List (List Int)) (x5:List Ac) (x6:List (List Int)) (x7:AJ):Option (Rh×Z):=Xy ⟨[(0,.ptr 0 0),(4,.ptr 2 0),(5,.ptr 4 0),(6,.ptr 5 0),(8,.int .i64 x0),(9,.int .i64 x1)],[.var (AM.enc x2),.rows 113 Ap x3,.var [.lst (.slice (.int .i64)) x4,.row 1],.rows 113 Ap x5,.var [.lst (.slice (.int .i64)) x6,.row 3],.var (AW.enc x7)]⟩
def Js (x0 x1:Int) (x2:Z) (x3:List Ac) (x4:List (List Int)) (x5:List Ac) (x6:List (List Int)) (x7:AJ):Option (Rh×Z):=(if (decide (x1<x0))=true then ((NX x2 x7).bind fun y3=>((M7 x1 y3.1 y3.2.2).bind fun y4=>(if x5.length+([y3.1]:List Ac).length≤68719476736 then (DP x0 (i64.wrap (x1+1)) y3.2.1 x3 x4 (x5++([y3.1]:List Ac)) x6 y4.2) else none))) else (some ((x6,x5),x2)))
def Nk (x1:List Int) (b0:Z):Option (Rh×Z):=((MB b0).bind fun y1=>((Hz y1.1).bind fun y2=>(if 4=0 then none else (if (decide ((i64.wrap (20+(i64.wrap (Int.tdiv (x1.length:Int) 4))))>69))=true then (DP 69 0 y1.2 ([]:List Ac) ([]:List (List Int)) ([]:List Ac) y1.1 y2.1) else (DP (i64.wrap (20+(i64.wrap (Int.tdiv (x1.length:Int) 4)))) 0 y1.2 ([]:List Ac) ([]:List (List Int)) ([]:List Ac) y1.1 y2.1)))))
theorem PL:n8 Js DP:=lS (by kernel_rfl)
theorem UU:TI Nk NU:=cT DC rfl ⟨rfl,rfl⟩ (by kernel_rfl)
def Xz:=cG NO (AF Ar) (AF Ar) kx
def X0:=kE 2 [(10,2)] [4,7,10] 3 Xz kx
def WY:St→Option (RT (BN.outs Ar)):=lG Of [(10,2)] [1,4,7,10,11] 3 (AF Ar) X0
def X1:=cG IE (AF Ar) (AF Ar) kx
def PM:=kE 0 [] [1,4,7,8] 2 X1 kx
def Nl:St→Option (RT (BN.outs Ar)):=lG Oe [] [1,4,7,8,9] 2 (AF Ar) PM
def X2:=kB [] [1,4,7,8,9] 2 Nl
def Nm (x0:List Ac) (x1:Bool) (x2:Int) (x3:Bool) (x4 x5:AJ):Option (AJ×List Int×Bool):=cG Od X2 (AF Ar) PM ⟨[(1,.lst Ap x0),(4,.ptr 0 0),(7,.ptr 1 0),(8,.bool x1),(9,.int .i64 x2),(23,.bool x3)],[.var (AW.enc x4),.var (AW.enc x5)]⟩
def EG (x0:List Ac) (x1:Int) (x2 x3:AJ) (x4:List Int):Option (AJ×List Int×Bool):=WY ⟨[(1,.lst Ap x0),(4,.ptr 0 0),(7,.ptr 1 0),(10,.row 2),(11,.int .i64 x1)],[.var (AW.enc x2),.var (AW.enc x3),.rows 3 (.int .i64) x4]⟩
def Fo (x0:List Ac) (x1:Bool) (x2 x3:AJ):Option (AJ×List Int×Bool):=cG IE (AF Ar) (AF Ar) kx ⟨[(1,.lst Ap x0),(4,.ptr 0 0),(7,.ptr 1 0),(8,.bool x1)],[.var (AW.enc x2),.var (AW.enc x3)]⟩
def Cw (x0:List Ac) (x1:Bool) (x2:Int) (x3 x4:AJ):Option (AJ×List Int×Bool):=Nl ⟨[(1,.lst Ap x0),(4,.ptr 0 0),(7,.ptr 1 0),(8,.bool x1),(9,.int .i64 x2)],[.var (AW.enc x3),.var (AW.enc x4)]⟩
def Nn (x0:List Ac) (x1:Bool) (x2:Int) (x3:Bool) (x4 x5:AJ):Option (AJ×List Int×Bool):=(if (decide ((x0.length:Int)≤70))=true then (if 0≤x2 then (if x2<(x0.length:Int) then ((NY (x0.getD x2.toNat (0,0,0,0,ByteArray.empty,ByteArray.empty))).bind fun y2=>(Cw x0 y2 (i64.wrap (x2+1)) x4 x5)) else none) else none) else (Cw x0 false (i64.wrap (x2+1)) x4 x5))
def IP (x0:List Ac) (x1:Int) (x2 x3:AJ) (x4:List Int):Option (AJ×List Int×Bool):=(if (decide (x1<(x0.length:Int)))=true then (if 0≤x1 then (if x1<(x0.length:Int) then ((M7 x1 (x0.getD x1.toNat (0,0,0,0,ByteArray.empty,ByteArray.empty)) x3).bind fun y3=>(if x4.length+([y3.1]:List Int).length≤68719476736 then (EG x0 (i64.wrap (x1+1)) x2 y3.2 (x4++([y3.1]:List Int))) else none)) else none) else none) else ((NZ x3).bind fun y4=>(some (y4,x4,true))))
def No (x0:List Ac) (x1:Bool) (x2 x3:AJ):Option (AJ×List Int×Bool):=(if (!x1)=true then (some ((([]:List (List Int)),([]:List O),([]:List Y),([]:List Bn)),([]:List Int),false)) else (EG x0 0 x2 x3 ([]:List Int)))
def IQ (x0:List Ac) (x1:Bool) (x2:Int) (x3 x4:AJ):Option (AJ×List Int×Bool):=(if (decide (x2<(x0.length:Int)))=true then (if x1=true then (Nm x0 x1 x2 x1 x3 x4) else (Fo x0 x1 x3 x4)) else (Fo x0 x1 x3 x4))
def S0 (x0:List (List Int)) (x1:List Ac):Option (AJ×List Int×Bool):=((Hz x0).bind fun y1=>(Cw x1 y1.2 0 (([]:List (List Int)),([]:List O),([]:List Y),([]:List Bn)) y1.1))
theorem WZ:jt Nn Nm:=jS (by kernel_rfl)
theorem Np:jC IP EG:=lS (by kernel_rfl)
theorem Wa:dj No Fo:=jS (by kernel_rfl)
theorem Nq:jC IQ Cw:=lS (by kernel_rfl)
theorem b8:TI S0 L_:=cT Ar rfl ⟨rfl,rfl⟩ (by kernel_rfl)
def Nr (b0:Z):Option (Int×Z):=(if 33<0 then none else (if 45<0 then none else (if (decide (b0.2.1<(b0.1.length:Int)))=true then (if 0≤b0.2.1 then (if b0.2.1<(b0.1.length:Int) then (some ((Iz .i64 (i64.wrap ((Iz .i64 (W0 .i64 (Int.fdiv (i64.wrap ((i64.wrap (b0.2.2*6364136223846793005))+1442695040888963407)) (2^(min (33:Int).toNat (IntKind.bits .i64)))) (Int.fdiv (i64.wrap ((i64.wrap (b0.2.2*6364136223846793005))+1442695040888963407)) (2^(min (45:Int).toNat (IntKind.bits .i64))))) 255)+(i64.wrap (b0.1.getD b0.2.1.toNat 0)))) 255),(b0.1,(i64.wrap (b0.2.1+1)),(i64.wrap ((i64.wrap (b0.2.2*6364136223846793005))+1442695040888963407))))) else none) else none) else (some ((Iz .i64 (W0 .i64 (Int.fdiv (i64.wrap ((i64.wrap (b0.2.2*6364136223846793005))+1442695040888963407)) (2^(min (33:Int).toNat (IntKind.bits .i64)))) (Int.fdiv (i64.wrap ((i64.wrap (b0.2.2*6364136223846793005))+1442695040888963407)) (2^(min (45:Int).toNat (IntKind.bits .i64))))) 255),(b0.1,b0.2.1,(i64.wrap ((i64.wrap (b0.2.2*6364136223846793005))+1442695040888963407))))))))
theorem en:N2 Nr EE:=cT JQ rfl ⟨rfl,rfl⟩ (by kernel_rfl)
def K5 (b0:Z):Option (Y×Z):=((Pl b0).bind fun y1=>((AS 20 y1.2).bind fun y2=>(if (y2.1==0)=true then ((Bu ([0,1,2,5,9]:List Int) y2.2).bind fun y3=>(some ((y3.1,y1.1.2),y3.2))) else (if (y2.1==1)=true then ((Bu ([0,6,7]:List Int) y2.2).bind fun y4=>(some ((y1.1.1,y4.1,y1.1.2.2),y4.2))) else (if (y2.1==2)=true then ((Bu ([0,9,10]:List Int) y2.2).bind fun y5=>(some ((y1.1.1,y1.1.2.1,y1.1.2.2.1,y5.1,y1.1.2.2.2.2),y5.2))) else (if (y2.1==3)=true then ((Bu ([(-1:Int),1000000000,1000000001]:List Int) y2.2).bind fun y6=>(some ((y1.1.1,y1.1.2.1,y1.1.2.2.1,y1.1.2.2.2.1,y6.1,y1.1.2.2.2.2.2),y6.2))) else (if (y2.1==4)=true then ((II y2.2).bind fun y7=>(some ((y1.1.1,y1.1.2.1,y1.1.2.2.1,y1.1.2.2.2.1,y1.1.2.2.2.2.1,y7.1),y7.2))) else (some (y1.1,y2.2)))))))))
theorem Zv:N2 K5 Kq:=cT G6 rfl ⟨rfl,rfl⟩ (by kernel_rfl)
def Pq:=cG Hg (AF BK) (AF BK) kx
def Pr:=kE 0 [] [] 0 Pq kx
def N4:St→Option (RT (BN.outs BK)):=lG Hf [] [0,1,7,8] 0 (AF BK) Pr
def B4 (x0:List Int) (x1 x2 x3:Int):Option Int:=N4 ⟨[(0,.lst (.int .i64) x0),(1,.int .i64 x1),(7,.int .i64 x2),(8,.int .i64 x3)],[]⟩
def BG (x0:List Int) (x1 x2 x3:Int):Option Int:=(if (decide (x3<x2))=true then (if 0≤x3 then (if x3<(x0.length:Int) then (if (x1==(x0.getD x3.toNat 0))=true then (some x3) else (B4 x0 x1 x2 (i64.wrap (x3+1)))) else none) else none) else (some (-1:Int)))
def Rv (x0:List Int) (x1:Int):Option Int:=(B4 x0 x1 (x0.length:Int) 0)
theorem Bd:dj BG B4:=lS (by kernel_rfl)
theorem Jt:TI Rv CY:=cT BK rfl ⟨rfl,rfl⟩ (by kernel_rfl)
def Kb (x0:Bool) (x1:O) (x2:Y):Option (List Y×O):=cG KP (AF Ct) (AF Ct) kx ⟨[(0,.ptr 0 0),(5,.ptr 1 0),(37,.bool x0)],[.var (U.enc x1),.var (AC.enc x2)]⟩
def Kc (x0:Bool) (x1:O) (x2:Y):Option (List Y×O):=((GR (x1.1,x2.2.2.2.1,x1.2.2.1,false,x1.2.2.2.2)).bind fun y2=>((BC ([x2.2.1]:List Int) (2,0,0,0,0,y2.2.2.2.2.2.2.2.1) y2).bind fun y3=>(some (y3.1,y3.2))))
def Ns (x1:List (List Int)) (x2:Y) (b0:O):Option (List Y×O):=(if (x2.2.2.2.1 != (i64.wrap (b0.2.1+1)))=true then (some ([],b0)) else (if (!b0.2.2.2.1)=true then (some ([],b0)) else (if 0≤(i64.wrap (b0.2.1-1)) then (if (i64.wrap (b0.2.1-1))<(x1.length:Int) then ((Ck (x1.getD (i64.wrap (b0.2.1-1)).toNat ([]:List Int)) b0.1).bind fun y1=>(if (!y1)=true then (some ([],b0)) else (Kb (!y1) b0 x2))) else none) else none)))
theorem TS:Rk Kc Kb:=jS (by kernel_rfl)
theorem Wb:Rk Ns IH:=cT Ct rfl ⟨rfl,rfl⟩ (by kernel_rfl)
def Ju (x1:List Int) (x2:List X) (b0:O):Option (List Y×O):=((Gr x1 b0).bind fun y1=>((AX x2).bind fun y2=>((B3 y1.1).bind fun y3=>((EO y3).bind fun y4=>(if ((y1.1.length:Int)==0)=true then ((BC y1.1 (3,0,0,0,0,x2) (y1.2.1,y1.2.2.1,y1.2.2.2.1,true,y1.2.2.2.2.2.1,true,y4,y2,y1.2.2.2.2.2.2.2.2.2)).bind fun y5=>(some (y5.1,y5.2))) else ((BC y1.1 (3,0,0,0,0,x2) (y1.2.1,y1.2.2.1,y1.2.2.2.1,true,y1.2.2.2.2.2.1,y1.2.2.2.2.2.2.1,y4,y2,y1.2.2.2.2.2.2.2.2.2)).bind fun y6=>(some (y6.1,y6.2))))))))
theorem Rw:Rk Ju Fl:=cT Do rfl ⟨rfl,rfl⟩ (by kernel_rfl)
def Ip:=cG Il (AF BB) (AF BB) kx
def Qz:=kB [] [0,5] 2 Ip
def Q0:=kE 0 [] [0,5] 2 Ip kx
def CB (x0:Bool) (x1:O) (x2:Y):Option (List Y×O):=cG Ik Qz (AF BB) Q0 ⟨[(0,.ptr 0 0),(5,.ptr 1 0),(24,.bool x0)],[.var (U.enc x1),.var (AC.enc x2)]⟩
def Hj (x0:Bool) (x1:O) (x2:Y):Option (List Y×O):=cG Im (AF BB) (AF BB) kx ⟨[(0,.ptr 0 0),(5,.ptr 1 0),(23,.bool x0)],[.var (U.enc x1),.var (AC.enc x2)]⟩
def Hk (x0:Bool) (x1:O) (x2:Y):Option (List Y×O):=(if x0=true then ((AX x2.2.2.2.2.2).bind fun y2=>((GR (x1.1,x2.2.2.2.1,false,true,x1.2.2.2.2.1,x1.2.2.2.2.2.1,x1.2.2.2.2.2.2.1,y2,x1.2.2.2.2.2.2.2.2)).bind fun y3=>((BC ([x2.2.1]:List Int) (4,0,0,0,0,([]:List X)) y3).bind fun y4=>(some (y4.1,y4.2))))) else (if (!x1.2.2.2.1)=true then (some ([],x1)) else ((BC ([x2.2.1]:List Int) (4,0,0,0,0,([]:List X)) x1).bind fun y5=>(some (y5.1,y5.2)))))
def Hl (x0:Bool) (x1:O) (x2:Y):Option (List Y×O):=(if (decide (x2.2.2.2.1>x1.2.1))=true then (CB true x1 x2) else (if (!x1.2.2.2.1)=true then (CB (!x1.2.2.1) x1 x2) else (CB false x1 x2)))
def Ke (x1:List Int) (x2:Y) (b0:O):Option (List Y×O):=((Ck x1 b0.1).bind fun y1=>(if (!y1)=true then (some ([],b0)) else (if 0≤(0:Int) then (if 0<(x1.length:Int) then (if ((x1.getD (0:Int).toNat 0)==b0.1)=true then (some ([],b0)) else (Hj ((x1.getD (0:Int).toNat 0)==b0.1) b0 x2)) else none) else none)))
theorem Ps:Rk Hk CB:=jS (by kernel_rfl)
theorem Pt:Rk Hl Hj:=jS (by kernel_rfl)
theorem TU:Rk Ke GC:=cT BB rfl ⟨rfl,rfl⟩ (by kernel_rfl)
def UV (x0:List Int) (x1:Int):Option (List Int):=((B3 x0).bind fun y1=>((Dq y1 x1).bind fun y2=>(some y2)))
theorem eo:TI UV Ja:=cT JR rfl ⟨rfl,rfl⟩ (by kernel_rfl)
def Jv (x0:Bool) (x1:O) (x2:Y):Option (List Y×O):=cG KQ (AF Cd) (AF Cd) kx ⟨[(0,.ptr 0 0),(3,.ptr 1 0),(18,.bool x0)],[.var (U.enc x1),.var (AC.enc x2)]⟩
def Jw (x0:Bool) (x1:O) (x2:Y):Option (List Y×O):=(if (x2.1==7)=true then ((BC ([x2.2.1]:List Int) (8,0,0,0,x2.2.2.2.2.1,([]:List X)) x1).bind fun y1=>(some (y1.1,y1.2))) else (if 0≤(0:Int) then (if 0<(x2.2.2.2.2.2.length:Int) then ((Jb x1.2.2.2.2.2.2.2.1 (x2.2.2.2.2.2.getD (0:Int).toNat (ByteArray.empty,ByteArray.empty,0))).bind fun y2=>((BC ([x2.2.1]:List Int) (6,0,0,0,x2.2.2.2.2.1,([]:List X)) (x1.1,x1.2.1,x1.2.2.1,x1.2.2.2.1,x1.2.2.2.2.1,x1.2.2.2.2.2.1,x1.2.2.2.2.2.2.1,y2,x1.2.2.2.2.2.2.2.2)).bind fun y3=>(some (y3.1,y3.2)))) else none) else none))
def Mp (x1:Y) (b0:O):Option (List Y×O):=(if (x1.2.2.2.1 != b0.2.1)=true then (some ([],b0)) else (if (!b0.2.2.2.1)=true then (some ([],b0)) else (Jv (!b0.2.2.2.1) b0 x1)))
theorem Rx:Rk Jw Jv:=jS (by kernel_rfl)
theorem VR:TI Mp HS:=cT Cd rfl ⟨rfl,rfl⟩ (by kernel_rfl)
end
end Go.Proofs.YtaedipailemlcaaGreat.Core

namespace Go.Proofs.YtaedipailemlcaaGreat.Core
open Go IntKind
set_option linter.unusedVariables false
set_option maxRecDepth 100000
noncomputable section
def Iq (x0:Bool) (x1:O) (x2:Y):Option (List AD×O):=cG In (AF CM) (AF CM) kx ⟨[(0,.ptr 0 0),(5,.ptr 1 0),(32,.bool x0)],[.var (U.enc x1),.var (AC.enc x2)]⟩
def Ir (x0:Bool) (x1:O) (x2:Y):Option (List AD×O):=((Ja x1.2.2.2.2.2.2.2.2.2.2.2.2.2 x2.2.1).bind fun y1=>(if (decide ((y1.length:Int)>0))=true then (some ([],(x1.1,x1.2.1,x1.2.2.1,x1.2.2.2.1,x1.2.2.2.2.1,x1.2.2.2.2.2.1,x1.2.2.2.2.2.2.1,x1.2.2.2.2.2.2.2.1,x1.2.2.2.2.2.2.2.2.1,x1.2.2.2.2.2.2.2.2.2.1,x1.2.2.2.2.2.2.2.2.2.2.1,x1.2.2.2.2.2.2.2.2.2.2.2.1,x1.2.2.2.2.2.2.2.2.2.2.2.2.1,y1))) else ((IG (x1.1,x1.2.1,x1.2.2.1,x1.2.2.2.1,x1.2.2.2.2.1,x1.2.2.2.2.2.1,x1.2.2.2.2.2.2.1,x1.2.2.2.2.2.2.2.1,x1.2.2.2.2.2.2.2.2.1,x1.2.2.2.2.2.2.2.2.2.1,x1.2.2.2.2.2.2.2.2.2.2.1,x1.2.2.2.2.2.2.2.2.2.2.2.1,x1.2.2.2.2.2.2.2.2.2.2.2.2.1,y1)).bind fun y2=>(some (y2.1,y2.2)))))
def Lu (x1:Int) (x2:Y) (b0:O):Option (List AD×O):=(if (x2.2.2.2.1 != b0.2.1)=true then (some ([],b0)) else (if (b0.2.2.2.2.2.2.2.2.2.1 != x1)=true then (some ([],b0)) else (if (b0.2.2.2.2.2.2.2.2.2.2.2.1 != x2.2.2.2.2.1)=true then (some ([],b0)) else (Iq (b0.2.2.2.2.2.2.2.2.2.2.2.1 != x2.2.2.2.2.1) b0 x2))))
theorem Q1:Rk Ir Iq:=jS (by kernel_rfl)
theorem UW:Rk Lu Ek:=cT CM rfl ⟨rfl,rfl⟩ (by kernel_rfl)
def b9:=cG SW (AF Dx) (AF Dx) kx
def b_:=kE 0 [] [] 0 b9 kx
def Zw:St→Option (RT (BN.outs Dx)):=lG SV [] [0,3] 0 (AF Dx) b_
def FV (x0:List Int) (x1:Int):Option Bool:=Zw ⟨[(0,.lst (.int .i64) x0),(3,.int .i64 x1)],[]⟩
def K6 (x0:List Int) (x1:Int):Option Bool:=(if (decide (x1<(x0.length:Int)))=true then (if 0≤x1 then (if x1<(x0.length:Int) then ((AO (x0.getD x1.toNat 0) 1 6).bind fun y1=>(if (!y1)=true then (some false) else (if (decide (x1>0))=true then (if 0≤(i64.wrap (x1-1)) then (if (i64.wrap (x1-1))<(x0.length:Int) then (if 0≤x1 then (if x1<(x0.length:Int) then (if (decide ((x0.getD (i64.wrap (x1-1)).toNat 0)≥(x0.getD x1.toNat 0)))=true then (some false) else (FV x0 (i64.wrap (x1+1)))) else none) else none) else none) else none) else (FV x0 (i64.wrap (x1+1)))))) else none) else none) else (some true))
def Vo (x0:List Int):Option Bool:=(FV x0 0)
theorem Q2:TI K6 FV:=lS (by kernel_rfl)
theorem f_:N2 Vo CS:=cT Dx rfl ⟨rfl,rfl⟩ (by kernel_rfl)
def Q3 (x0:iB):Option Bool:=(if (x0.1==0)=true then (if (x0.2.1==0)=true then (if (x0.2.2.1==0)=true then (if (false != Yp AA x0.2.2.2.1 (ByteArray.empty,ByteArray.empty,0))=true then (some ((x0.2.2.2.2.length:Int)==0)) else (some false)) else (some false)) else (some false)) else (some false))
theorem Zx:N2 Q3 Kr:=cT G7 rfl ⟨rfl,rfl⟩ (by kernel_rfl)
def Zy:=cG QR (AF DD) (AF DD) kx
def Zz:=kE 0 [] [] 0 Zy kx
def X3:St→Option (RT (BN.outs DD)):=lG QQ [] [0,3] 0 (AF DD) Zz
def GW (x0:List Int) (x1:Int):Option Bool:=X3 ⟨[(0,.lst (.int .i64) x0),(3,.int .i64 x1)],[]⟩
def Jx (x0:List Int) (x1:Int):Option Bool:=(if (decide (x1<(x0.length:Int)))=true then (if 0≤x1 then (if x1<(x0.length:Int) then ((AO (x0.getD x1.toNat 0) 1 6).bind fun y2=>(if (!y2)=true then (some false) else (if 0≤(0:Int) then (if 0≤x1 then (if x1≤(x0.length:Int) then (if 0≤x1 then (if x1<(x0.length:Int) then ((C4 ((x0.take x1.toNat).drop (0:Int).toNat) (x0.getD x1.toNat 0)).bind fun y3=>(if y3=true then (some false) else (GW x0 (i64.wrap (x1+1))))) else none) else none) else none) else none) else none))) else none) else none) else (some true))
def UX (x0:List Int):Option Bool:=((AO (x0.length:Int) 1 4).bind fun y1=>(if (!y1)=true then (some false) else (GW x0 0)))
theorem PN:TI Jx GW:=lS (by kernel_rfl)
theorem er:N2 UX NV:=cT DD rfl ⟨rfl,rfl⟩ (by kernel_rfl)
def cA:=cG SY (AF Dy) (AF Dy) kx
def cB:=kE 0 [(7,1)] [7] 3 cA kx
def Z0:St→Option (RT (BN.outs Dy)):=lG SX [(7,1)] [0,1,2,7,8] 3 (AF Dy) cB
def FW (x0:List Int) (x1:List X) (x2:Int) (x3:O) (x4:List Y) (x5:List X):Option (List Y×O):=Z0 ⟨[(0,.ptr 0 0),(1,.lst (.int .i64) x0),(2,.lst AA x1),(7,.row 1),(8,.int .i64 x2)],[.var (U.enc x3),.rows 34 AC x4,.frz AA x5]⟩
def K7 (x0:List Int) (x1:List X) (x2:Int) (x3:O) (x4:List Y) (x5:List X):Option (List Y×O):=(if (decide (x2<(x0.length:Int)))=true then (if 0≤x2 then (if x2<(x0.length:Int) then (if ((x0.getD x2.toNat 0) != x3.1)=true then (if 0≤x2 then (if x2<(x0.length:Int) then (if ([]:List X).length+x1.length≤68719476736 then (if x4.length+([(3,x3.1,(x0.getD x2.toNat 0),x3.2.1,0,(([]:List X)++x1))]:List Y).length≤68719476736 then (FW x0 x1 (i64.wrap (x2+1)) x3 (x4++([(3,x3.1,(x0.getD x2.toNat 0),x3.2.1,0,(([]:List X)++x1))]:List Y)) x5) else none) else none) else none) else none) else (FW x0 x1 (i64.wrap (x2+1)) x3 x4 x5)) else none) else none) else (some (x4,x3)))
def Vp (x1:List Int) (x2:List X) (b0:O):Option (List Y×O):=(if ([]:List X).length+x2.length≤68719476736 then ((FS x1 b0.1).bind fun y1=>(FW x1 x2 0 (b0.1,b0.2.1,b0.2.2.1,true,b0.2.2.2.2.1,((y1.length:Int)==0),y1,(([]:List X)++x2),b0.2.2.2.2.2.2.2.2) ([]:List Y) (([]:List X)++x2))) else none)
theorem Q4:jt K7 FW:=lS (by kernel_rfl)
theorem gA:Rk Vp LV:=cT Dy rfl ⟨rfl,rfl⟩ (by kernel_rfl)
def VS:=cG Ma (AF B8) (AF B8) kx
def VT:=kE 0 [(5,0)] [5] 1 VS kx
def UY:St→Option (RT (BN.outs B8)):=lG MZ [(5,0)] [0,1,5,6] 1 (AF B8) VT
def DI (x0:List Int) (x1 x2:Int) (x3:List Int):Option (List Int):=UY ⟨[(0,.lst (.int .i64) x0),(1,.int .i64 x1),(5,.row 0),(6,.int .i64 x2)],[.rows 3 (.int .i64) x3]⟩
def Gv (x0:List Int) (x1 x2:Int) (x3:List Int):Option (List Int):=(if (decide (x2<(x0.length:Int)))=true then (if 0≤x2 then (if x2<(x0.length:Int) then (if ((x0.getD x2.toNat 0) != x1)=true then (if 0≤x2 then (if x2<(x0.length:Int) then (if x3.length+([(x0.getD x2.toNat 0)]:List Int).length≤68719476736 then (DI x0 x1 (i64.wrap (x2+1)) (x3++([(x0.getD x2.toNat 0)]:List Int))) else none) else none) else none) else (DI x0 x1 (i64.wrap (x2+1)) x3)) else none) else none) else (some x3))
def PO (x0:List Int) (x1:Int):Option (List Int):=(DI x0 x1 0 ([]:List Int))
theorem Lv:dj Gv DI:=lS (by kernel_rfl)
theorem X4:TI PO GQ:=cT B8 rfl ⟨rfl,rfl⟩ (by kernel_rfl)
def X5 (x0:ByteArray):Option Bool:=((Aw (x0.size:Int) 1 12).bind fun y1=>(some y1))
theorem iV:N2 X5 Rr:=cT M2 rfl ⟨rfl,rfl⟩ (by kernel_rfl)
def Fe:=kE 0 [] [] 1 (AF AQ) kx
def FX:St→Option (RT (BN.outs AQ)):=lG FP [(0,0)] [0,1,2,3,8,9] 1 (AF AQ) Fe
def Ff:=kB [(0,0)] [0,1,2,3,8,9] 1 FX
def Bc:=kB [(0,0)] [0,1,2,3,8,9] 1 Ff
def BD:=kE 1 [(0,0)] [0,1,2,3,8,9] 1 Ff Fe
def Lw:=cG Cu Bc (AF AQ) BD
def FY (x0 x1 x2:Int) (x3 x4:Bool) (x5 x6:Int) (x7:Bool) (x8:List Int):Option (List Int):=cG Cu Bc (AF AQ) BD ⟨[(0,.row 0),(1,.int .i64 x0),(2,.int .i64 x1),(3,.int .i64 x2),(8,.bool x3),(9,.bool x4),(10,.int .i64 x5),(11,.int .i64 x6),(87,.bool x7)],[.mrow 3 (.int .i64) x8]⟩
def Cx (x0 x1 x2:Int) (x3 x4:Bool) (x5 x6:Int) (x7:Bool) (x8:List Int):Option (List Int):=cG FK Lw (AF AQ) BD ⟨[(0,.row 0),(1,.int .i64 x0),(2,.int .i64 x1),(3,.int .i64 x2),(8,.bool x3),(9,.bool x4),(10,.int .i64 x5),(11,.int .i64 x6),(87,.bool x7)],[.mrow 3 (.int .i64) x8]⟩
def BW (x0 x1 x2:Int) (x3 x4:Bool) (x5 x6:Int) (x7:List Int):Option (List Int):=cG FM Bc (AF AQ) BD ⟨[(0,.row 0),(1,.int .i64 x0),(2,.int .i64 x1),(3,.int .i64 x2),(8,.bool x3),(9,.bool x4),(10,.int .i64 x5),(11,.int .i64 x6)],[.mrow 3 (.int .i64) x7]⟩
def Cy (x0 x1 x2:Int) (x3 x4:Bool) (x5 x6 x7:Int) (x8:List Int):Option (List Int):=cG FN Bc (AF AQ) BD ⟨[(0,.row 0),(1,.int .i64 x0),(2,.int .i64 x1),(3,.int .i64 x2),(8,.bool x3),(9,.bool x4),(10,.int .i64 x5),(11,.int .i64 x6),(12,.int .i64 x7)],[.mrow 3 (.int .i64) x8]⟩
def Cz (x0 x1 x2:Int) (x3 x4:Bool) (x5:Int) (x6:List Int):Option (List Int):=cG FO Bc (AF AQ) BD ⟨[(0,.row 0),(1,.int .i64 x0),(2,.int .i64 x1),(3,.int .i64 x2),(8,.bool x3),(9,.bool x4),(10,.int .i64 x5)],[.mrow 3 (.int .i64) x6]⟩
def BX (x0 x1 x2:Int) (x3 x4:Bool) (x5:List Int):Option (List Int):=FX ⟨[(0,.row 0),(1,.int .i64 x0),(2,.int .i64 x1),(3,.int .i64 x2),(8,.bool x3),(9,.bool x4)],[.mrow 3 (.int .i64) x5]⟩
def K8 (x0 x1 x2:Int) (x3 x4:Bool) (x5 x6:Int) (x7:Bool) (x8:List Int):Option (List Int):=((Lq x0 x1 x6 x8).bind fun y9=>(if 8=0 then none else (if (decide ((i64.wrap (y9.1-x0))<(i64.wrap (x1-y9.1))))=true then ((Bt x0 y9.1 x2 y9.2.2).bind fun y10=>(BX (i64.wrap (y9.1+1)) x1 x2 (decide ((i64.wrap (y9.1-x0))≥(i64.wrap (Int.tdiv x5 8)))) y9.2.1 y10)) else ((Bt (i64.wrap (y9.1+1)) x1 x2 y9.2.2).bind fun y11=>(BX x0 y9.1 x2 (decide ((i64.wrap (x1-y9.1))≥(i64.wrap (Int.tdiv x5 8)))) y9.2.1 y11)))))
def K9 (x0 x1 x2:Int) (x3 x4:Bool) (x5 x6:Int) (x7:Bool) (x8:List Int):Option (List Int):=(if x7=true then ((IK x0 x1 x6 x8).bind fun y8=>(BX y8.1 x1 x2 x3 x4 y8.2)) else (FY x0 x1 x2 x3 x4 x5 x6 x7 x8))
def K_ (x0 x1 x2:Int) (x3 x4:Bool) (x5 x6:Int) (x7:List Int):Option (List Int):=(if (decide (x0>0))=true then (if 0≤(i64.wrap (x0-1)) then (if (i64.wrap (x0-1))<(x7.length:Int) then (if 0≤x6 then (if x6<(x7.length:Int) then ((Jc (x7.getD ((i64.wrap (x0-1)).toNat) 0) (x7.getD x6.toNat 0)).bind fun y7=>(Cx x0 x1 x2 x3 x4 x5 x6 (!y7) x7)) else none) else none) else none) else none) else (Cx x0 x1 x2 x3 x4 x5 x6 false x7))
def LA (x0 x1 x2:Int) (x3 x4:Bool) (x5 x6 x7:Int) (x8:List Int):Option (List Int):=(if x3=true then (if x4=true then (if (x7==1)=true then ((GD x0 x1 x8).bind fun y6=>(if y6.1=true then (some y6.2) else (BW x0 x1 x2 x3 x4 x5 x6 y6.2))) else (BW x0 x1 x2 x3 x4 x5 x6 x8)) else (BW x0 x1 x2 x3 x4 x5 x6 x8)) else (BW x0 x1 x2 x3 x4 x5 x6 x8))
def LB (x0 x1 x2:Int) (x3 x4:Bool) (x5:Int) (x6:List Int):Option (List Int):=((KL x0 x1 x6).bind fun y4=>(if (y4.2.1==2)=true then ((Je x0 x1 y4.2.2).bind fun y5=>(Cy x0 x1 x2 x3 x4 x5 (i64.wrap ((i64.wrap (x1-1))-(i64.wrap (y4.1-x0)))) 1 y5)) else (Cy x0 x1 x2 x3 x4 x5 y4.1 y4.2.1 y4.2.2)))
def FZ (x0 x1 x2:Int) (x3 x4:Bool) (x5:List Int):Option (List Int):=(if (decide ((i64.wrap (x1-x0))≤12))=true then ((CQ x0 x1 x5).bind fun y1=>(some y1)) else (if (x2==0)=true then ((ME x0 x1 x5).bind fun y2=>(some y2)) else (if (!x3)=true then ((Iy x0 x1 x5).bind fun y3=>(Cz x0 x1 (i64.wrap (x2-1)) x3 x4 (i64.wrap (x1-x0)) y3)) else (Cz x0 x1 x2 x3 x4 (i64.wrap (x1-x0)) x5))))
def GX (x1 x2 x3:Int) (b0:List Int):Option (List Int):=(BX x1 x2 x3 true true b0)
theorem Z1:pb K8 FY:=jS (by kernel_rfl)
theorem Z2:pb K9 Cx:=jS (by kernel_rfl)
theorem Z3:n8 K_ BW:=jS (by kernel_rfl)
theorem Z4:pb LA Cy:=jS (by kernel_rfl)
theorem Z5:n7 LB Cz:=jS (by kernel_rfl)
theorem LC:jt FZ BX:=lS (by kernel_rfl)
theorem M9:dj GX Bt:=cT AQ rfl ⟨rfl,rfl⟩ (by kernel_rfl)
def S3 (x0:Int):Option Int:=((Jd x0).bind fun y1=>(some y1))
theorem cC:N2 S3 MA:=cT Hw rfl ⟨rfl,rfl⟩ (by kernel_rfl)
def GY (x0:List X) (x1:X) (x2:List X):Option (List X):=cG QT (AF DE) (AF DE) kx ⟨[(0,.lst AA x0),(5,.row 1)],[.var (AA.enc x1),.rows 27 AA x2]⟩
def GZ (x0:List X) (x1:Int) (x2 x3:Bool) (x4:X) (x5:List X):Option (List X):=cG QU (AF DE) (AF DE) kx ⟨[(0,.lst AA x0),(3,.ptr 0 0),(5,.row 1),(6,.int .i64 x1),(7,.bool x2),(32,.bool x3)],[.var (AA.enc x4),.rows 27 AA x5]⟩
def PP (x0:List X) (x1:X) (x2:List X):Option (List X):=((ED x2).bind fun y5=>(if (!y5)=true then ((AX x0).bind fun y6=>(some y6)) else (some x2)))
def PQ (x0:List X) (x1:Int) (x2 x3:Bool) (x4:X) (x5:List X):Option (List X):=(if x2=true then (if 0≤x1 then (if x1<(x5.length:Int) then (let z4:List X:=x5.set x1.toNat x4; (GY x0 x4 z4)) else none) else none) else ((CA x5 x1 ([x4]:List X)).bind fun y7=>(GY x0 x4 y7)))
def UZ (x0:List X) (x1:X):Option (List X):=((AX x0).bind fun y1=>((Ay x0 x1.1 ()).bind fun y2=>((ED x0).bind fun y3=>(if (!y3)=true then (some y1) else (if y2.2=true then (if 0≤y2.1 then (if y2.1<(x0.length:Int) then (if (decide ((((x0.getD y2.1.toNat (ByteArray.empty,ByteArray.empty,0)).2).2)≥x1.2.2))=true then (some y1) else (GZ x0 y2.1 y2.2 (decide ((((x0.getD y2.1.toNat (ByteArray.empty,ByteArray.empty,0)).2).2)≥x1.2.2)) x1 y1)) else none) else none) else (GZ x0 y2.1 y2.2 false x1 y1))))))
theorem X6:Rk PP GY:=jS (by kernel_rfl)
theorem X7:jt PQ GZ:=jS (by kernel_rfl)
theorem eu:TI UZ Jb:=cT DE rfl ⟨rfl,rfl⟩ (by kernel_rfl)
def Ua (x0:Y):Option Y:=((AX x0.2.2.2.2.2).bind fun y1=>(some (x0.1,x0.2.1,x0.2.2.1,x0.2.2.2.1,x0.2.2.2.2.1,y1)))
theorem ew:N2 Ua NW:=cT JT rfl ⟨rfl,rfl⟩ (by kernel_rfl)
def X8:=cG NR (AF BT) (AF BT) kx
def Jy:=kE 0 [(3,1)] [3] 2 X8 kx
def Nt:St→Option (RT (BN.outs BT)):=lG NQ [(3,1)] [0,3,4] 2 (AF BT) Jy
def X9:=kB [(3,1)] [0,3,4] 2 Nt
def PR:=cG NP X9 (AF BT) Jy
def X_:=kB [(3,1)] [0,3,4] 2 PR
def PS:=kE 1 [(3,1)] [0,3,4] 2 PR Jy
def YA:=cG Oh X_ (AF BT) PS
def YB:=kE 2 [(3,1),(5,2)] [0,3,4,5] 3 YA PS
def Wc:St→Option (RT (BN.outs BT)):=lG Og [(3,1),(5,2)] [0,3,4,5,6] 3 (AF BT) YB
def EH (x0 x1:Int) (x2:Z) (x3:List (List Int)) (x4:List Int):Option (List (List Int)×Z):=Wc ⟨[(0,.ptr 0 0),(3,.row 1),(4,.int .i64 x0),(5,.row 2),(6,.int .i64 x1)],[.var (AM.enc x2),.rows 24 (.slice (.int .i64)) x3,.rows 3 (.int .i64) x4]⟩
def EI (x0:Int) (x1:Z) (x2:List (List Int)):Option (List (List Int)×Z):=Nt ⟨[(0,.ptr 0 0),(3,.row 1),(4,.int .i64 x0)],[.var (AM.enc x1),.rows 24 (.slice (.int .i64)) x2]⟩
def EJ (x0 x1:Int) (x2:Z) (x3:List (List Int)) (x4:List Int):Option (List (List Int)×Z):=((AS 3 x2).bind fun y2=>(if (decide (x1<(i64.wrap (1+y2.1))))=true then ((AS 4 y2.2).bind fun y3=>((C4 x4 (i64.wrap (1+y3.1))).bind fun y4=>(if (!y4)=true then (if x4.length+([(i64.wrap (1+y3.1))]:List Int).length≤68719476736 then (EH x0 (i64.wrap (x1+1)) y3.2 x3 (x4++([(i64.wrap (1+y3.1))]:List Int))) else none) else (EH x0 (i64.wrap (x1+1)) y3.2 x3 x4)))) else (if x3.length+([x4]:List (List Int)).length≤68719476736 then (EI (i64.wrap (x0+1)) y2.2 (x3++([x4]:List (List Int)))) else none)))
def Fp (x0:Int) (x1:Z) (x2:List (List Int)):Option (List (List Int)×Z):=((AS 5 x1).bind fun y1=>(if (decide (x0<(i64.wrap (1+y1.1))))=true then (EH x0 0 y1.2 x2 ([]:List Int)) else (some (x2,y1.2))))
def S4 (b0:Z):Option (List (List Int)×Z):=(EI 0 b0 ([]:List (List Int)))
theorem Fq:jC EJ EH:=lS (by kernel_rfl)
theorem IR:Rk Fp EI:=lS (by kernel_rfl)
theorem cD:N2 S4 MB:=cT BT rfl ⟨rfl,rfl⟩ (by kernel_rfl)
def YC:=cG Oj (AF Ce) (AF Ce) kx
def YD:=kE 0 [] [2,4] 4 YC kx
def Wd:St→Option (RT (BN.outs Ce)):=lG Oi [] [0,2,4,5] 4 (AF Ce) YD
def EK (x0:List (List Int)) (x1:Int) (x2:List O) (x3:List (List Int)) (x4:List Y) (x5:List Bn) (x6:List O) (x7:List (List Int)):Option (AJ×Bool):=Wd ⟨[(0,.lst (.slice (.int .i64)) x0),(2,.ptr 1 0),(4,.ptr 3 0),(5,.int .i64 x1)],[.rows 31 U x2,.var [.lst (.slice (.int .i64)) x3,.row 0,.lst AC x4,.lst FH x5],.rows 31 U x6,.var [.lst (.slice (.int .i64)) x7,.row 2,.nil,.nil]]⟩
def IS (x0:List (List Int)) (x1:Int) (x2:List O) (x3:List (List Int)) (x4:List Y) (x5:List Bn) (x6:List O) (x7:List (List Int)):Option (AJ×Bool):=(if (decide (x1≤6))=true then ((Kp x1 x0).bind fun y3=>(if x6.length+([y3.1]:List O).length≤68719476736 then (EK x0 (i64.wrap (x1+1)) x2 x3 x4 x5 (x6++([y3.1]:List O)) x7) else none)) else (some ((x7,x6,[],[]),true)))
def S5 (x0:List (List Int)):Option (AJ×Bool):=((DH x0).bind fun y1=>(if (!y1)=true then (some (([],([]:List O),[],[]),false)) else ((E_ x0).bind fun y2=>(EK x0 1 ([]:List O) ([]:List (List Int)) ([]:List Y) ([]:List Bn) ([]:List O) y2))))
theorem Nu:n8 IS EK:=lS (by kernel_rfl)
theorem cE:N2 S5 Hz:=cT Ce rfl ⟨rfl,rfl⟩ (by kernel_rfl)
def Q5:=cG Om (AF Av) (AF Av) kx
def Q6:=kB [] [4,5] 4 Q5
def Q7:=kE 0 [] [4,5] 4 Q5 kx
def Z6:=kE 1 [] [4,5] 6 Q6 Q7
def YE:St→Option (RT (BN.outs Av)):=lG QV [] [0,1,4,5,6] 6 (AF Av) Z6
def Z7:=kE 3 [] [4,5] 4 Q6 Q7
def YF:St→Option (RT (BN.outs Av)):=lG Ol [] [0,1,4,5,7] 4 (AF Av) Z7
def CZ (x0:Int) (x1:Z) (x2:AJ) (x3 x4:Ac) (x5:List Int) (x6:List ByteArray):Option (Ac×Z×AJ):=YE ⟨[(0,.ptr 0 0),(1,.ptr 1 0),(4,.ptr 2 0),(5,.ptr 3 0),(6,.int .i64 x0)],[.var (AM.enc x1),.var (AW.enc x2),.var (Ap.enc x3),.var (Ap.enc x4),.frz (.int .i64) x5,.frz .str x6]⟩
def Ca (x0:Int) (x1:Z) (x2:AJ) (x3 x4:Ac):Option (Ac×Z×AJ):=YF ⟨[(0,.ptr 0 0),(1,.ptr 1 0),(4,.ptr 2 0),(5,.ptr 3 0),(7,.int .i64 x0)],[.var (AM.enc x1),.var (AW.enc x2),.var (Ap.enc x3),.var (Ap.enc x4)]⟩
def Eo (x0:Z) (x1:AJ) (x2 x3:Ac):Option (Ac×Z×AJ):=cG On (AF Av) (AF Av) kx ⟨[(0,.ptr 0 0),(1,.ptr 1 0),(4,.ptr 2 0),(5,.ptr 3 0)],[.var (AM.enc x0),.var (AW.enc x1),.var (Ap.enc x2),.var (Ap.enc x3)]⟩
def Al (x0:Z) (x1:AJ) (x2 x3:Ac):Option (Ac×Z×AJ):=cG Oo (AF Av) (AF Av) kx ⟨[(0,.ptr 0 0),(1,.ptr 1 0),(4,.ptr 2 0),(5,.ptr 3 0)],[.var (AM.enc x0),.var (AW.enc x1),.var (Ap.enc x2),.var (Ap.enc x3)]⟩
def Jz (x0:Z) (x1:AJ) (x2 x3:Ac):Option (Ac×Z×AJ):=cG Oq (AF Av) (AF Av) kx ⟨[(0,.ptr 0 0),(1,.ptr 1 0),(4,.ptr 2 0),(5,.ptr 3 0)],[.var (AM.enc x0),.var (AW.enc x1),.var (Ap.enc x2),.var (Ap.enc x3)]⟩
def Ep (x0:Int) (x1:Z) (x2:AJ) (x3 x4:Ac) (x5:List Int) (x6:List ByteArray):Option (Ac×Z×AJ):=(if (decide (x0<(x2.2.1.length:Int)))=true then (if 0≤x0 then (if x0<(x2.2.1.length:Int) then (if (((((((x2.2.1.getD x0.toNat (0,0,false,false,false,false,([]:List Int),([]:List X),0,0,0,0,(ByteArray.empty,ByteArray.empty,0),([]:List Int))).2).2).2).2).2).1)=true then ((B_ 4 x1).bind fun y10=>(if (!y10.1)=true then (CZ (i64.wrap (x0+1)) y10.2 x2 x3 (x4.1,(i64.wrap (x0+1)),x4.2.2) x5 x6) else (CZ (i64.wrap (x0+1)) y10.2 x2 x3 x4 x5 x6))) else (CZ (i64.wrap (x0+1)) x1 x2 x3 x4 x5 x6)) else none) else none) else (some (x4,x1,x2)))
def DQ (x0:Int) (x1:Z) (x2:AJ) (x3 x4:Ac):Option (Ac×Z×AJ):=(if (decide (x0<(x2.2.1.length:Int)))=true then (if 0≤x0 then (if x0<(x2.2.1.length:Int) then (if (decide ((((x2.2.1.getD x0.toNat (0,0,false,false,false,false,([]:List Int),([]:List X),0,0,0,0,(ByteArray.empty,ByteArray.empty,0),([]:List Int))).2).1)<(x2.1.length:Int)))=true then (if 0≤(((x2.2.1.getD x0.toNat (0,0,false,false,false,false,([]:List Int),([]:List X),0,0,0,0,(ByteArray.empty,ByteArray.empty,0),([]:List Int))).2).1) then (if (((x2.2.1.getD x0.toNat (0,0,false,false,false,false,([]:List Int),([]:List X),0,0,0,0,(ByteArray.empty,ByteArray.empty,0),([]:List Int))).2).1)<(x2.1.length:Int) then (if 0≤(0:Int) then (if 0<((x2.1.getD (((x2.2.1.getD x0.toNat (0,0,false,false,false,false,([]:List Int),([]:List X),0,0,0,0,(ByteArray.empty,ByteArray.empty,0),([]:List Int))).2).1).toNat ([]:List Int)).length:Int) then (if (((x2.1.getD (((x2.2.1.getD x0.toNat (0,0,false,false,false,false,([]:List Int),([]:List X),0,0,0,0,(ByteArray.empty,ByteArray.empty,0),([]:List Int))).2).1).toNat ([]:List Int)).getD (0:Int).toNat 0)==((x2.2.1.getD x0.toNat (0,0,false,false,false,false,([]:List Int),([]:List X),0,0,0,0,(ByteArray.empty,ByteArray.empty,0),([]:List Int))).1))=true then ((B_ 3 x1).bind fun y11=>(if (!y11.1)=true then (Ca (i64.wrap (x0+1)) y11.2 x2 x3 (x4.1,(x2.2.1.getD x0.toNat (0,0,false,false,false,false,([]:List Int),([]:List X),0,0,0,0,(ByteArray.empty,ByteArray.empty,0),([]:List Int))).1,x4.2.2)) else (Ca (i64.wrap (x0+1)) y11.2 x2 x3 x4))) else (Ca (i64.wrap (x0+1)) x1 x2 x3 x4)) else none) else none) else none) else none) else (Ca (i64.wrap (x0+1)) x1 x2 x3 x4)) else none) else none) else (some (x4,x1,x2)))
def Er (x0:Z) (x1:AJ) (x2 x3:Ac):Option (Ac×Z×AJ):=(if (x3.1==1)=true then ((Bu ([1,1,2]:List Int) x0).bind fun y7=>((EF ([(⟨#[97]⟩:ByteArray),(⟨#[98]⟩:ByteArray),(⟨#[99]⟩:ByteArray)]:List ByteArray) y7.2).bind fun y8=>(if (y7.1==1)=true then ((EF ([(⟨#[118]⟩:ByteArray),(⟨#[119]⟩:ByteArray),(⟨#[120]⟩:ByteArray),(⟨#[121]⟩:ByteArray)]:List ByteArray) y8.2).bind fun y9=>(CZ 0 y9.2 x1 x2 (x3.1,x3.2.1,x3.2.2.1,y7.1,y8.1,y9.1) ([1,1,2]:List Int) ([(⟨#[97]⟩:ByteArray),(⟨#[98]⟩:ByteArray),(⟨#[99]⟩:ByteArray)]:List ByteArray))) else (CZ 0 y8.2 x1 x2 (x3.1,x3.2.1,x3.2.2.1,y7.1,y8.1,x3.2.2.2.2.2) ([1,1,2]:List Int) ([(⟨#[97]⟩:ByteArray),(⟨#[98]⟩:ByteArray),(⟨#[99]⟩:ByteArray)]:List ByteArray))))) else (if (x3.1==5)=true then (Ca 0 x0 x1 x2 x3) else (some (x3,x0,x1))))
def Ga (x0:Z) (x1:AJ) (x2 x3:Ac):Option (Ac×Z×AJ):=(if (x3.1==2)=true then ((B_ 2 x0).bind fun y6=>(if y6.1=true then (Eo y6.2 x1 x2 (x3.1,x3.2.1,0,x3.2.2.2)) else (Eo y6.2 x1 x2 x3))) else (Eo x0 x1 x2 x3))
def Gb (x0:Z) (x1:AJ) (x2 x3:Ac):Option (Ac×Z×AJ):=(if ((x1.2.2.1.length:Int)==0)=true then ((AO x3.1 2 4).bind fun y4=>(if y4=true then (if ((1:Int)==6)=true then ((B_ 4 x0).bind fun y5=>(if (!y5.1)=true then (Al y5.2 x1 x2 (1,x3.2)) else (Al y5.2 x1 x2 (1,x3.2)))) else (Al x0 x1 x2 (1,x3.2))) else (if (x3.1==6)=true then ((B_ 4 x0).bind fun y12=>(if (!y12.1)=true then (Al y12.2 x1 x2 (1,x3.2)) else (Al y12.2 x1 x2 x3))) else (Al x0 x1 x2 x3)))) else (if (x3.1==6)=true then ((B_ 4 x0).bind fun y13=>(if (!y13.1)=true then (Al y13.2 x1 x2 (1,x3.2)) else (Al y13.2 x1 x2 x3))) else (Al x0 x1 x2 x3)))
def Ub (b0:Z) (b1:AJ):Option (Ac×Z×AJ):=((Bu ([1,1,1,2,2,2,2,2,2,2,2,3,4,5,6]:List Int) b0).bind fun y1=>((AS 4 y1.2).bind fun y2=>((AS 20 y2.2).bind fun y3=>(Jz y3.2 b1 (0,0,0,0,ByteArray.empty,ByteArray.empty) (y1.1,(i64.wrap (1+y2.1)),y3.1,0,ByteArray.empty,ByteArray.empty)))))
theorem Gc:n7 Ep CZ:=lS (by kernel_rfl)
theorem Es:jC DQ Ca:=lS (by kernel_rfl)
theorem Gd:dj Er Eo:=jS (by kernel_rfl)
theorem J6:dj Ga Al:=jS (by kernel_rfl)
theorem J7:dj Gb Jz:=jS (by kernel_rfl)
theorem e_:TI Ub NX:=cT Av rfl ⟨rfl,rfl⟩ (by kernel_rfl)
def J8 (x1:Int) (x2:Ac) (b0:AJ):Option (Int×AJ):=(if (x2.1==1)=true then ((MC x1 x2 b0).bind fun y1=>(some (y1.1,y1.2))) else (if (x2.1==5)=true then ((MD x1 x2.2.1 b0).bind fun y2=>(some (y2.1,y2.2))) else (if (x2.1==6)=true then (if 0≤(i64.wrap (x2.2.1-1)) then (if (i64.wrap (x2.2.1-1))<(b0.2.1.length:Int) then ((UB (b0.2.1.getD (i64.wrap (x2.2.1-1)).toNat (0,0,false,false,false,false,([]:List Int),([]:List X),0,0,0,0,(ByteArray.empty,ByteArray.empty,0),([]:List Int)))).bind fun y3=>((D8 y3 ([]:List Y) ([]:List AD) x1 b0).bind fun y4=>(some (0,y4)))) else none) else none) else ((Pm x1 x2 b0).bind fun y5=>(some (y5.1,y5.2))))))
theorem M_:Rk J8 M7:=cT M4 rfl ⟨rfl,rfl⟩ (by kernel_rfl)
def J9 (x0:Bool) (x1:Ac):Option Bool:=cG QW (AF FQ) (AF FQ) kx ⟨[(1,.ptr 0 0),(17,.bool x0)],[.var (Ap.enc x1)]⟩
def PT (x0:Bool) (x1:Ac):Option Bool:=(if (x1.1 != 1)=true then (if (x1.2.2.2.1==0)=true then (if (x1.2.2.2.2.1.toList==(⟨#[]⟩:ByteArray).toList)=true then (some (x1.2.2.2.2.2.toList==(⟨#[]⟩:ByteArray).toList)) else (some false)) else (some false)) else (if (x1.2.2.2.1==1)=false then (if (x1.2.2.2.1==2)=true then ((AO (x1.2.2.2.2.1.size:Int) 1 12).bind fun y3=>(if y3=true then (if (decide ((x1.2.2.2.2.2.size:Int)≤20))=true then (if (x1.2.2.2.1==1)=false then (some (x1.2.2.2.2.2.toList==(⟨#[]⟩:ByteArray).toList)) else (some true)) else (some false)) else (some false))) else (some false)) else ((AO (x1.2.2.2.2.1.size:Int) 1 12).bind fun y4=>(if y4=true then (if (decide ((x1.2.2.2.2.2.size:Int)≤20))=true then (if (x1.2.2.2.1==1)=false then (some (x1.2.2.2.2.2.toList==(⟨#[]⟩:ByteArray).toList)) else (some true)) else (some false)) else (some false)))))
def Uc (x0:Ac):Option Bool:=((AO x0.1 1 6).bind fun y1=>(if (!y1)=false then ((AO x0.2.1 1 6).bind fun y2=>(if (!y2)=false then (if (decide (x0.2.2.1<0))=true then (some false) else (J9 (decide (x0.2.2.1<0)) x0)) else (some false))) else (some false)))
theorem YG:TI PT J9:=jS (by kernel_rfl)
theorem fA:N2 Uc NY:=cT FQ rfl ⟨rfl,rfl⟩ (by kernel_rfl)
def Z8:=cG QY (AF DF) (AF DF) kx
def Z9:=kE 0 [] [2,3] 6 Z8 kx
def YH:St→Option (RT (BN.outs DF)):=lG QX [] [1,2,3,4] 6 (AF DF) Z9
def Et (x0:Int) (x1:List (List Int)) (x2:List O) (x3:List Y) (x4:List Bn) (x5:List O) (x6:List (List Int)) (x7:List Y) (x8 x9:List Bn) (x10:List O) (x11:List (List Int)) (x12:List Y) (x13:List Bn):Option AJ:=YH ⟨[(1,.ptr 0 0),(2,.ptr 2 0),(3,.ptr 5 0),(4,.int .i64 x0)],[.var [.lst (.slice (.int .i64)) x1,.lst U x2,.lst AC x3,.lst FH x4],.rows 31 U x5,.var [.lst (.slice (.int .i64)) x6,.row 1,.lst AC x7,.lst FH x8],.frz FH x9,.rows 31 U x10,.var [.lst (.slice (.int .i64)) x11,.row 4,.lst AC x12,.lst FH x13]]⟩
def J_ (x0:Int) (x1:List (List Int)) (x2:List O) (x3:List Y) (x4:List Bn) (x5:List O) (x6:List (List Int)) (x7:List Y) (x8 x9:List Bn) (x10:List O) (x11:List (List Int)) (x12:List Y) (x13:List Bn):Option AJ:=(if (decide (x0<(x2.length:Int)))=true then (if 0≤x0 then (if x0<(x2.length:Int) then ((CW (x2.getD x0.toNat (0,0,false,false,false,false,([]:List Int),([]:List X),0,0,0,0,(ByteArray.empty,ByteArray.empty,0),([]:List Int)))).bind fun y3=>(if x10.length+([y3]:List O).length≤68719476736 then (Et (i64.wrap (x0+1)) x1 x2 x3 x4 x5 x6 x7 x8 x9 (x10++([y3]:List O)) x11 x12 x13) else none)) else none) else none) else (some (x11,x10,x12,x13)))
def Ud (x0:AJ):Option AJ:=((E_ x0.1).bind fun y1=>((IJ x0.2.2.1).bind fun y2=>(if ([]:List Bn).length+x0.2.2.2.length≤68719476736 then (Et 0 x0.1 x0.2.1 x0.2.2.1 x0.2.2.2 ([]:List O) ([]:List (List Int)) ([]:List Y) ([]:List Bn) (([]:List Bn)++x0.2.2.2) ([]:List O) y1 y2 (([]:List Bn)++x0.2.2.2)) else none)))
theorem PU:p_ J_ Et:=lS (by kernel_rfl)
theorem fB:N2 Ud NZ:=cT DF rfl ⟨rfl,rfl⟩ (by kernel_rfl)
def S6:=cG Sa (AF C3) (AF C3) kx
def cH:=kB [] [2,3] 3 S6
def cI:=kE 0 [] [2,3] 3 S6 kx
def HI (x0:Int) (x1:Bool) (x2:Z) (x3 x4:Y):Option (Y×Z):=cG SZ cH (AF C3) cI ⟨[(0,.ptr 0 0),(2,.ptr 1 0),(3,.ptr 2 0),(20,.int .i64 x0),(21,.bool x1)],[.var (AM.enc x2),.var (AC.enc x3),.var (AC.enc x4)]⟩
def LD (x0:Z) (x1 x2:Y):Option (Y×Z):=cG Sb (AF C3) (AF C3) kx ⟨[(0,.ptr 0 0),(2,.ptr 1 0),(3,.ptr 2 0)],[.var (AM.enc x0),.var (AC.enc x1),.var (AC.enc x2)]⟩
def HJ (x0:Int) (x1:Bool) (x2:Z) (x3 x4:Y):Option (Y×Z):=(if x1=true then ((H5 x2).bind fun y6=>(some ((x4.1,x4.2.1,x4.2.2.1,x4.2.2.2.1,x4.2.2.2.2.1,y6.1),y6.2))) else (if (x0==5)=true then ((Gs x2).bind fun y7=>(some ((x4.1,x4.2.1,x4.2.2.1,x4.2.2.2.1,x4.2.2.2.2.1,([y7.1]:List X)),y7.2))) else (some (x4,x2))))
def LE (x0:Z) (x1 x2:Y):Option (Y×Z):=(if (x2.1==2)=true then (HI x2.1 (x2.1==2) x0 x1 x2) else (HI x2.1 (x2.1==3) x0 x1 x2))
def Vq (b0:Z):Option (Y×Z):=((AS 8 b0).bind fun y1=>((AS 4 y1.2).bind fun y2=>((AS 4 y2.2).bind fun y3=>((AS 4 y3.2).bind fun y4=>((AS 6 y4.2).bind fun y5=>(LD y5.2 (0,0,0,0,0,([]:List X)) ((i64.wrap (1+y1.1)),(i64.wrap (1+y2.1)),(i64.wrap (1+y3.1)),(i64.wrap (1+y4.1)),y5.1,([]:List X))))))))
theorem LF:jC HJ HI:=jS (by kernel_rfl)
theorem Q8:Rk LE LD:=jS (by kernel_rfl)
theorem gC:N2 Vq Pl:=cT C3 rfl ⟨rfl,rfl⟩ (by kernel_rfl)
def PV (x1:List Int) (b0:Z):Option (Int×Z):=((AS (x1.length:Int) b0).bind fun y1=>(if 0≤y1.1 then (if y1.1<(x1.length:Int) then (some ((x1.getD y1.1.toNat 0),y1.2)) else none) else none))
theorem YI:TI PV Bu:=cT GO rfl ⟨rfl,rfl⟩ (by kernel_rfl)
def Lx:=cG KR (AF By) (AF By) kx
def Ue:=kB [(3,1)] [3] 2 Lx
def Uf:=kE 0 [(3,1)] [3] 2 Lx kx
def Ug:=kE 1 [(3,2)] [3] 3 Ue Uf
def TV:St→Option (RT (BN.outs By)):=lG Lk [(3,2)] [0,3,4] 3 (AF By) Ug
def ER (x0:Int) (x1:Z) (x2 x3:List X):Option (List X×Z):=TV ⟨[(0,.ptr 0 0),(3,.row 2),(4,.int .i64 x0)],[.var (AM.enc x1),.rows 27 AA x2,.rows 27 AA x3]⟩
def ES (x0:Int) (x1:Z) (x2 x3:List X):Option (List X×Z):=((AS 2 x1).bind fun y9=>(if (decide (x0<(i64.wrap (12+y9.1))))=true then ((Nb (i64.wrap (10+x0))).bind fun y10=>(if (⟨#[109]⟩:ByteArray).size+y10.size≤1099511627776 then (if x3.length+([(((⟨#[109]⟩:ByteArray)++y10),ByteArray.empty,5)]:List X).length≤68719476736 then (ER (i64.wrap (x0+1)) y9.2 x2 (x3++([(((⟨#[109]⟩:ByteArray)++y10),ByteArray.empty,5)]:List X))) else none) else none)) else (some (x3,y9.2))))
def IT (b0:Z):Option (List X×Z):=((H5 b0).bind fun y1=>((AS 16 y1.2).bind fun y2=>(if (y2.1==0)=true then ((Gs y2.2).bind fun y3=>(if y1.1.length+([y3.1]:List X).length≤68719476736 then (some ((y1.1++([y3.1]:List X)),y3.2)) else none)) else (if (y2.1==1)=true then (if (decide ((y1.1.length:Int)>0))=true then ((Bu ([0,(-1:Int),1000000000,1000000001]:List Int) y2.2).bind fun y4=>(if 0≤(0:Int) then (if 0<(y1.1.length:Int) then (let z5:List X:=y1.1.set ((0:Int).toNat) ((y1.1.getD ((0:Int).toNat) (ByteArray.empty,ByteArray.empty,0)).1,((y1.1.getD ((0:Int).toNat) (ByteArray.empty,ByteArray.empty,0)).2).1,y4.1); (some (z5,y4.2))) else none) else none)) else (some (y1.1,y2.2))) else (if (y2.1==2)=true then (if (decide ((y1.1.length:Int)>0))=true then ((Na 13 65).bind fun y6=>((EF ([(⟨#[]⟩:ByteArray),y6]:List ByteArray) y2.2).bind fun y7=>(if 0≤(0:Int) then (if 0<(y1.1.length:Int) then (let z8:List X:=y1.1.set ((0:Int).toNat) (y7.1,(y1.1.getD ((0:Int).toNat) (ByteArray.empty,ByteArray.empty,0)).2); (some (z8,y7.2))) else none) else none))) else (some (y1.1,y2.2))) else (if (y2.1==3)=true then (ER 0 y2.2 y1.1 ([]:List X)) else (some (y1.1,y2.2))))))))
theorem GH:dj ES ER:=lS (by kernel_rfl)
theorem We:N2 IT II:=cT By rfl ⟨rfl,rfl⟩ (by kernel_rfl)
def HM (x0:List Int) (x1:Int):Option Bool:=((CY x0 x1).bind fun y1=>(some (decide (y1≥0))))
theorem N5:TI HM Ck:=cT Cj rfl ⟨rfl,rfl⟩ (by kernel_rfl)
def YJ (b0:O):Option O:=(some (b0.1,b0.2.1,b0.2.2.1,b0.2.2.2.1,false,false,[],b0.2.2.2.2.2.2.2.1,0,0,0,0,(ByteArray.empty,ByteArray.empty,0),([]:List Int)))
theorem YK:N2 YJ GR:=cT GP rfl ⟨rfl,rfl⟩ (by kernel_rfl)
def CC:=kE 0 [] [] 1 (AF AP) kx
def Db:St→Option (RT (BN.outs AP)):=lG D2 [(0,0)] [0,1,2,6] 1 (AF AP) CC
def Hm:=kB [(0,0)] [0,1,2,6] 1 Db
def D3:=cG D1 Hm (AF AP) CC
def Hn:=kB [(0,0)] [0,1,2,6] 1 D3
def Ho:=kE 1 [(0,0)] [0,1,2,6] 1 D3 CC
def D4:=kE 2 [(0,0)] [0,1,2,6] 1 Hn Ho
def Dc:St→Option (RT (BN.outs AP)):=lG D0 [(0,0)] [0,1,2,6,7] 1 (AF AP) D4
def Hp:=kB [(0,0)] [0,1,2,6,7] 1 Dc
def Dd (x0 x1 x2 x3:Int) (x4:Bool) (x5:List Int):Option (List Int):=cG Dz Hp (AF AP) D4 ⟨[(0,.row 0),(1,.int .i64 x0),(2,.int .i64 x1),(6,.int .i64 x2),(7,.int .i64 x3),(30,.bool x4)],[.mrow 3 (.int .i64) x5]⟩
def BR (x0 x1 x2 x3:Int) (x4:List Int):Option (List Int):=Dc ⟨[(0,.row 0),(1,.int .i64 x0),(2,.int .i64 x1),(6,.int .i64 x2),(7,.int .i64 x3)],[.mrow 3 (.int .i64) x4]⟩
def Aj (x0 x1 x2:Int) (x3:List Int):Option (List Int):=Db ⟨[(0,.row 0),(1,.int .i64 x0),(2,.int .i64 x1),(6,.int .i64 x2)],[.mrow 3 (.int .i64) x3]⟩
def De (x0 x1 x2 x3:Int) (x4:Bool) (x5:List Int):Option (List Int):=(if 0≤(i64.wrap (x3-1)) then (if (i64.wrap (x3-1))<(x5.length:Int) then (if 0≤x3 then (if x3<(x5.length:Int) then (if 0≤x3 then (if x3<(x5.length:Int) then (let z2:List Int:=x5.set x3.toNat (x5.getD ((i64.wrap (x3-1)).toNat) 0); (if 0≤(i64.wrap (x3-1)) then (if (i64.wrap (x3-1))<(z2.length:Int) then (let z3:List Int:=z2.set ((i64.wrap (x3-1)).toNat) (x5.getD x3.toNat 0); (BR x0 x1 x2 (i64.wrap (x3-1)) z3)) else none) else none)) else none) else none) else none) else none) else none) else none)
def B5 (x0 x1 x2 x3:Int) (x4:List Int):Option (List Int):=(if (decide (x3>x0))=true then (if 0≤x3 then (if x3<(x4.length:Int) then (if 0≤(i64.wrap (x3-1)) then (if (i64.wrap (x3-1))<(x4.length:Int) then ((Jc (x4.getD x3.toNat 0) (x4.getD ((i64.wrap (x3-1)).toNat) 0)).bind fun y1=>(if y1=true then (Dd x0 x1 x2 x3 y1 x4) else (Aj x0 x1 (i64.wrap (x2+1)) x4))) else none) else none) else none) else none) else (Aj x0 x1 (i64.wrap (x2+1)) x4))
def BS (x0 x1 x2:Int) (x3:List Int):Option (List Int):=(if (decide (x2<x1))=true then (BR x0 x1 x2 x2 x3) else (some x3))
def CR (x1 x2:Int) (b0:List Int):Option (List Int):=(Aj x1 x2 (i64.wrap (x1+1)) b0)
theorem HX:jt De Dd:=jS (by kernel_rfl)
theorem Df:jC B5 BR:=lS (by kernel_rfl)
theorem B6:dj BS Aj:=lS (by kernel_rfl)
theorem EV:Rk CR CQ:=cT AP rfl ⟨rfl,rfl⟩ (by kernel_rfl)
def Uh (x0 x1:Int):Option Bool:=((H6 x0).bind fun y1=>(if y1=true then ((H6 x1).bind fun y2=>(if (!y2)=false then (some (decide (x0<x1))) else (some true))) else (some (decide (x0<x1)))))
theorem fC:TI Uh Jc:=cT JU rfl ⟨rfl,rfl⟩ (by kernel_rfl)
def Eu (x0 x1:Int):Option Int:=cG Mb (AF B9) (AF B9) kx ⟨[(0,.int .u64 x0),(2,.int .i64 x1)],[]⟩
def Gw (x0 x1:Int):Option Int:=cG Mc (AF B9) (AF B9) kx ⟨[(0,.int .u64 x0),(2,.int .i64 x1)],[]⟩
def Gx (x0 x1:Int):Option Int:=(if (decide (x0≥256))=true then (if 8<0 then none else (if 0≤(IntKind.u8.wrap (Int.fdiv x0 (2^(min (8:Int).toNat (IntKind.bits .u64))))) then (if (IntKind.u8.wrap (Int.fdiv x0 (2^(min (8:Int).toNat (IntKind.bits .u64)))))<((⟨#[0,1,2,2,3,3,3,3,4,4,4,4,4,4,4,4,5,5,5,5,5,5,5,5,5,5,5,5,5,5,5,5,6,6,6,6,6,6,6,6,6,6,6,6,6,6,6,6,6,6,6,6,6,6,6,6,6,6,6,6,6,6,6,6,7,7,7,7,7,7,7,7,7,7,7,7,7,7,7,7,7,7,7,7,7,7,7,7,7,7,7,7,7,7,7,7,7,7,7,7,7,7,7,7,7,7,7,7,7,7,7,7,7,7,7,7,7,7,7,7,7,7,7,7,7,7,7,7,8,8,8,8,8,8,8,8,8,8,8,8,8,8,8,8,8,8,8,8,8,8,8,8,8,8,8,8,8,8,8,8,8,8,8,8,8,8,8,8,8,8,8,8,8,8,8,8,8,8,8,8,8,8,8,8,8,8,8,8,8,8,8,8,8,8,8,8,8,8,8,8,8,8,8,8,8,8,8,8,8,8,8,8,8,8,8,8,8,8,8,8,8,8,8,8,8,8,8,8,8,8,8,8,8,8,8,8,8,8,8,8,8,8,8,8,8,8,8,8,8,8,8,8,8,8,8,8]⟩:ByteArray).size:Int) then (some (i64.wrap ((i64.wrap (x1+8))+(i64.wrap (((⟨#[0,1,2,2,3,3,3,3,4,4,4,4,4,4,4,4,5,5,5,5,5,5,5,5,5,5,5,5,5,5,5,5,6,6,6,6,6,6,6,6,6,6,6,6,6,6,6,6,6,6,6,6,6,6,6,6,6,6,6,6,6,6,6,6,7,7,7,7,7,7,7,7,7,7,7,7,7,7,7,7,7,7,7,7,7,7,7,7,7,7,7,7,7,7,7,7,7,7,7,7,7,7,7,7,7,7,7,7,7,7,7,7,7,7,7,7,7,7,7,7,7,7,7,7,7,7,7,7,8,8,8,8,8,8,8,8,8,8,8,8,8,8,8,8,8,8,8,8,8,8,8,8,8,8,8,8,8,8,8,8,8,8,8,8,8,8,8,8,8,8,8,8,8,8,8,8,8,8,8,8,8,8,8,8,8,8,8,8,8,8,8,8,8,8,8,8,8,8,8,8,8,8,8,8,8,8,8,8,8,8,8,8,8,8,8,8,8,8,8,8,8,8,8,8,8,8,8,8,8,8,8,8,8,8,8,8,8,8,8,8,8,8,8,8,8,8,8,8,8,8,8,8,8,8,8,8]⟩:ByteArray).data.toList.getD (IntKind.u8.wrap (Int.fdiv x0 (2^(min (8:Int).toNat (IntKind.bits .u64))))).toNat 0).toNat:Int))))) else none) else none)) else (if 0≤(IntKind.u8.wrap x0) then (if (IntKind.u8.wrap x0)<((⟨#[0,1,2,2,3,3,3,3,4,4,4,4,4,4,4,4,5,5,5,5,5,5,5,5,5,5,5,5,5,5,5,5,6,6,6,6,6,6,6,6,6,6,6,6,6,6,6,6,6,6,6,6,6,6,6,6,6,6,6,6,6,6,6,6,7,7,7,7,7,7,7,7,7,7,7,7,7,7,7,7,7,7,7,7,7,7,7,7,7,7,7,7,7,7,7,7,7,7,7,7,7,7,7,7,7,7,7,7,7,7,7,7,7,7,7,7,7,7,7,7,7,7,7,7,7,7,7,7,8,8,8,8,8,8,8,8,8,8,8,8,8,8,8,8,8,8,8,8,8,8,8,8,8,8,8,8,8,8,8,8,8,8,8,8,8,8,8,8,8,8,8,8,8,8,8,8,8,8,8,8,8,8,8,8,8,8,8,8,8,8,8,8,8,8,8,8,8,8,8,8,8,8,8,8,8,8,8,8,8,8,8,8,8,8,8,8,8,8,8,8,8,8,8,8,8,8,8,8,8,8,8,8,8,8,8,8,8,8,8,8,8,8,8,8,8,8,8,8,8,8,8,8,8,8,8,8]⟩:ByteArray).size:Int) then (some (i64.wrap (x1+(i64.wrap (((⟨#[0,1,2,2,3,3,3,3,4,4,4,4,4,4,4,4,5,5,5,5,5,5,5,5,5,5,5,5,5,5,5,5,6,6,6,6,6,6,6,6,6,6,6,6,6,6,6,6,6,6,6,6,6,6,6,6,6,6,6,6,6,6,6,6,7,7,7,7,7,7,7,7,7,7,7,7,7,7,7,7,7,7,7,7,7,7,7,7,7,7,7,7,7,7,7,7,7,7,7,7,7,7,7,7,7,7,7,7,7,7,7,7,7,7,7,7,7,7,7,7,7,7,7,7,7,7,7,7,8,8,8,8,8,8,8,8,8,8,8,8,8,8,8,8,8,8,8,8,8,8,8,8,8,8,8,8,8,8,8,8,8,8,8,8,8,8,8,8,8,8,8,8,8,8,8,8,8,8,8,8,8,8,8,8,8,8,8,8,8,8,8,8,8,8,8,8,8,8,8,8,8,8,8,8,8,8,8,8,8,8,8,8,8,8,8,8,8,8,8,8,8,8,8,8,8,8,8,8,8,8,8,8,8,8,8,8,8,8,8,8,8,8,8,8,8,8,8,8,8,8,8,8,8,8,8,8]⟩:ByteArray).data.toList.getD (IntKind.u8.wrap x0).toNat 0).toNat:Int))))) else none) else none))
def Ly (x0 x1:Int):Option Int:=(if (decide (x0≥65536))=true then (if 16<0 then none else (Eu (Int.fdiv x0 (2^(min (16:Int).toNat (IntKind.bits .u64)))) (i64.wrap (x1+16)))) else (Eu x0 x1))
def PW (x0:Int):Option Int:=(if (decide (x0≥4294967296))=true then (if 32<0 then none else (Gw (Int.fdiv x0 (2^(min (32:Int).toNat (IntKind.bits .u64)))) 32)) else (Gw x0 0))
theorem Ui:TI Gx Eu:=jS (by kernel_rfl)
theorem Uj:TI Ly Gw:=jS (by kernel_rfl)
theorem YL:N2 PW Jd:=cT B9 rfl ⟨rfl,rfl⟩ (by kernel_rfl)
end
end Go.Proofs.YtaedipailemlcaaGreat.Core

namespace Go.Proofs.YtaedipailemlcaaGreat.Core
open Go IntKind
set_option linter.unusedVariables false
set_option maxRecDepth 100000
noncomputable section
def DX:=cG As (AF AE) (AF AE) kx
def DY:=kE 0 [] [0,1,2,8,9] 0 DX kx
def DK:St→Option (RT (BN.outs AE)):=lG Bo [] [0,1,2,8,9,10] 0 (AF AE) DY
def Bi (x0:List X) (x1:ByteArray) (x2 x3:Int):Option (Int×Bool):=cG As (AF AE) (AF AE) kx ⟨[(0,.lst AA x0),(1,.str x1),(2,.fn 101 []),(8,.int .i64 x2),(9,.int .i64 x3)],[]⟩
def AI (x0:List X) (x1:ByteArray) (x2 x3 x4:Int):Option (Int×Bool):=DK ⟨[(0,.lst AA x0),(1,.str x1),(2,.fn 101 []),(8,.int .i64 x2),(9,.int .i64 x3),(10,.int .i64 x4)],[]⟩
def Bj (x0:List X) (x1:ByteArray) (x2 x3:Int):Option (Int×Bool):=(if (decide (x3<x2))=true then (if 0≤x3 then (if x3<(x0.length:Int) then ((G_ (x0.getD x3.toNat (ByteArray.empty,ByteArray.empty,0)) x1).bind fun y2=>(some (x3,(y2==0)))) else none) else none) else (some (x3,false)))
def Aq (x0:List X) (x1:ByteArray) (x2 x3 x4:Int):Option (Int×Bool):=(if (decide (x3<x4))=true then (if 1<0 then none else (if 0≤(i64.wrap (Int.fdiv (IntKind.u64.wrap (i64.wrap (x3+x4))) (2^(min (1:Int).toNat (IntKind.bits .u64))))) then (if (i64.wrap (Int.fdiv (IntKind.u64.wrap (i64.wrap (x3+x4))) (2^(min (1:Int).toNat (IntKind.bits .u64)))))<(x0.length:Int) then ((G_ (x0.getD (i64.wrap (Int.fdiv (IntKind.u64.wrap (i64.wrap (x3+x4))) (2^(min (1:Int).toNat (IntKind.bits .u64))))).toNat (ByteArray.empty,ByteArray.empty,0)) x1).bind fun y1=>(if (decide (y1<0))=true then (AI x0 x1 x2 (i64.wrap ((i64.wrap (Int.fdiv (IntKind.u64.wrap (i64.wrap (x3+x4))) (2^(min (1:Int).toNat (IntKind.bits .u64)))))+1)) x4) else (AI x0 x1 x2 x3 (i64.wrap (Int.fdiv (IntKind.u64.wrap (i64.wrap (x3+x4))) (2^(min (1:Int).toNat (IntKind.bits .u64)))))))) else none) else none)) else (Bi x0 x1 x2 x3))
def Bv (x0:List X) (x1:ByteArray) (x2:Unit):Option (Int×Bool):=(AI x0 x1 (x0.length:Int) 0 (x0.length:Int))
theorem DL:dj Bj Bi:=jS (by kernel_rfl)
theorem Bk:jC Aq AI:=lS (by kernel_rfl)
theorem Ds:Rk Bv Ay:=cT AE rfl ⟨rfl,rfl⟩ (by kernel_rfl)
def Q9 (x0:X) (x1:ByteArray):Option Int:=((Jf x0.1 x1).bind fun y1=>(some y1))
theorem Z_:TI Q9 G_:=cT G8 rfl ⟨rfl,rfl⟩ (by kernel_rfl)
def TW:=cG KT (AF Bq) (AF Bq) kx
def TX:=kE 0 [(3,0)] [3] 1 TW kx
def Ry:St→Option (RT (BN.outs Bq)):=lG KS [(3,0)] [0,3,4] 1 (AF Bq) TX
def Dt (x0:List (List Int)) (x1:Int) (x2:List (List Int)):Option (List (List Int)):=Ry ⟨[(0,.lst (.slice (.int .i64)) x0),(3,.row 0),(4,.int .i64 x1)],[.rows 24 (.slice (.int .i64)) x2]⟩
def Fs (x0:List (List Int)) (x1:Int) (x2:List (List Int)):Option (List (List Int)):=(if (decide (x1<(x0.length:Int)))=true then (if 0≤x1 then (if x1<(x0.length:Int) then (if ([]:List Int).length+(x0.getD x1.toNat ([]:List Int)).length≤68719476736 then (if x2.length+([(([]:List Int)++(x0.getD x1.toNat ([]:List Int)))]:List (List Int)).length≤68719476736 then (Dt x0 (i64.wrap (x1+1)) (x2++([(([]:List Int)++(x0.getD x1.toNat ([]:List Int)))]:List (List Int)))) else none) else none) else none) else none) else (some x2))
def Mq (x0:List (List Int)):Option (List (List Int)):=(Dt x0 0 ([]:List (List Int)))
theorem KA:Rk Fs Dt:=lS (by kernel_rfl)
theorem VU:N2 Mq E_:=cT Bq rfl ⟨rfl,rfl⟩ (by kernel_rfl)
def Uk (x1:List ByteArray) (b0:Z):Option (ByteArray×Z):=((AS (x1.length:Int) b0).bind fun y1=>(if 0≤y1.1 then (if y1.1<(x1.length:Int) then (some ((x1.getD y1.1.toNat ByteArray.empty),y1.2)) else none) else none))
theorem fD:TI Uk EF:=cT JV rfl ⟨rfl,rfl⟩ (by kernel_rfl)
def S7 (x1:Int) (x2:Ac) (b0:AJ):Option (Int×AJ):=(if ([]:List Bn).length+b0.2.2.2.length≤68719476736 then (if (([]:List Bn)++b0.2.2.2).length+([(x2.2.2.2.1,x2.2.2.2.2.1,x2.2.2.2.2.2,x1,(-1:Int),0,0,0,ByteArray.empty)]:List Bn).length≤68719476736 then (if 0≤(i64.wrap (x2.2.1-1)) then (if (i64.wrap (x2.2.1-1))<(b0.2.1.length:Int) then ((Rp (b0.2.1.getD (i64.wrap (x2.2.1-1)).toNat (0,0,false,false,false,false,([]:List Int),([]:List X),0,0,0,0,(ByteArray.empty,ByteArray.empty,0),([]:List Int))) b0.1 x2.2.2.2.1 (i64.wrap ((((([]:List Bn)++b0.2.2.2)++([(x2.2.2.2.1,x2.2.2.2.2.1,x2.2.2.2.2.2,x1,(-1:Int),0,0,0,ByteArray.empty)]:List Bn)).length:Int)-1)) x2.2.2.2.2.1 x2.2.2.2.2.2).bind fun y1=>(if (!y1.2.2.2)=true then (some (1,(b0.1,b0.2.1,b0.2.2.1,((([]:List Bn)++b0.2.2.2)++([(x2.2.2.2.1,x2.2.2.2.2.1,x2.2.2.2.2.2,x1,(-1:Int),0,0,0,ByteArray.empty)]:List Bn))))) else ((D8 y1.1 y1.2.1 y1.2.2.1 x1 (b0.1,b0.2.1,b0.2.2.1,((([]:List Bn)++b0.2.2.2)++([(x2.2.2.2.1,x2.2.2.2.2.1,x2.2.2.2.2.2,x1,(-1:Int),0,0,0,ByteArray.empty)]:List Bn)))).bind fun y2=>(some (0,y2))))) else none) else none) else none) else none)
theorem cJ:Rk S7 MC:=cT Hx rfl ⟨rfl,rfl⟩ (by kernel_rfl)
def YM:=cG NS (AF Cf) (AF Cf) kx
def YN:=kE 0 [] [] 2 YM kx
def Wf:St→Option (RT (BN.outs Cf)):=lG Ot [] [0,1,2,7,8] 2 (AF Cf) YN
def Ft (x0 x1 x2:Int) (x3:AJ) (x4:O):Option (Int×AJ):=Wf ⟨[(0,.ptr 0 0),(1,.int .i64 x0),(2,.int .i64 x1),(7,.ptr 1 0),(8,.int .i64 x2)],[.var (AW.enc x3),.var (U.enc x4)]⟩
def Fu (x0 x1 x2:Int) (x3:AJ) (x4:O):Option (Int×AJ):=(if (decide (x2≤(x3.1.length:Int)))=true then (if 0≤(i64.wrap (x2-1)) then (if (i64.wrap (x2-1))<(x3.1.length:Int) then (if 0≤(0:Int) then (if 0<((x3.1.getD (i64.wrap (x2-1)).toNat ([]:List Int)).length:Int) then (if (((x3.1.getD (i64.wrap (x2-1)).toNat ([]:List Int)).getD (0:Int).toNat 0) != x1)=true then (Ft x0 x1 (i64.wrap (x2+1)) x3 x4) else ((Rs x4 x3.1 x2).bind fun y1=>(if (!y1.2.2)=true then (some (1,x3)) else ((D8 y1.1 y1.2.1 ([]:List AD) x0 x3).bind fun y2=>(some (0,y2)))))) else none) else none) else none) else none) else (some (1,x3)))
def MO (x1 x2:Int) (b0:AJ):Option (Int×AJ):=(if 0≤(i64.wrap (x2-1)) then (if (i64.wrap (x2-1))<(b0.2.1.length:Int) then (Ft x1 x2 (i64.wrap ((((b0.2.1.getD (i64.wrap (x2-1)).toNat (0,0,false,false,false,false,([]:List Int),([]:List X),0,0,0,0,(ByteArray.empty,ByteArray.empty,0),([]:List Int))).2).1)+1)) b0 (b0.2.1.getD (i64.wrap (x2-1)).toNat (0,0,false,false,false,false,([]:List Int),([]:List X),0,0,0,0,(ByteArray.empty,ByteArray.empty,0),([]:List Int)))) else none) else none)
theorem IU:jC Fu Ft:=lS (by kernel_rfl)
theorem S8:Rk MO MD:=cT Cf rfl ⟨rfl,rfl⟩ (by kernel_rfl)
def IV:=kE 0 [] [] 4 (AF B2) kx
def Mr:St→Option (RT (BN.outs B2)):=lG Mf [] [0,3,4,11] 4 (AF B2) IV
def Wg:=kB [] [0,3,4,11] 4 Mr
def Nv:=cG Me Wg (AF B2) IV
def Wh:=kB [] [0,3,4,11] 4 Nv
def Wi:=kE 1 [] [0,3,4,11] 4 Nv IV
def Ms (x0:List AD) (x1 x2:Int) (x3:Bool) (x4:AJ) (x5:O) (x6:List O) (x7:List Y) (x8:AD):Option AJ:=cG Md Wh (AF B2) Wi ⟨[(0,.ptr 0 0),(3,.lst Au x0),(4,.int .i64 x1),(11,.int .i64 x2),(12,.ptr 4 0),(71,.bool x3)],[.var (AW.enc x4),.var (U.enc x5),.frz U x6,.frz AC x7,.var (Au.enc x8)]⟩
def B7 (x0:List AD) (x1 x2:Int) (x3:AJ) (x4:O) (x5:List O) (x6:List Y):Option AJ:=Mr ⟨[(0,.ptr 0 0),(3,.lst Au x0),(4,.int .i64 x1),(11,.int .i64 x2)],[.var (AW.enc x3),.var (U.enc x4),.frz U x5,.frz AC x6]⟩
def Mt (x0:List AD) (x1 x2:Int) (x3:Bool) (x4:AJ) (x5:O) (x6:List O) (x7:List Y) (x8:AD):Option AJ:=(if ([]:List Bn).length+x4.2.2.2.length≤68719476736 then (if 0≤x8.1 then (if x8.1<((([]:List Bn)++x4.2.2.2).length:Int) then (let z2:List Bn:=(([]:List Bn)++x4.2.2.2).set x8.1.toNat (((([]:List Bn)++x4.2.2.2).getD x8.1.toNat (0,ByteArray.empty,ByteArray.empty,0,0,0,0,0,ByteArray.empty)).1,(((([]:List Bn)++x4.2.2.2).getD x8.1.toNat (0,ByteArray.empty,ByteArray.empty,0,0,0,0,0,ByteArray.empty)).2).1,((((([]:List Bn)++x4.2.2.2).getD x8.1.toNat (0,ByteArray.empty,ByteArray.empty,0,0,0,0,0,ByteArray.empty)).2).2).1,(((((([]:List Bn)++x4.2.2.2).getD x8.1.toNat (0,ByteArray.empty,ByteArray.empty,0,0,0,0,0,ByteArray.empty)).2).2).2).1,x1,((((((([]:List Bn)++x4.2.2.2).getD x8.1.toNat (0,ByteArray.empty,ByteArray.empty,0,0,0,0,0,ByteArray.empty)).2).2).2).2).2); (let z3:List Bn:=z2.set x8.1.toNat ((z2.getD x8.1.toNat (0,ByteArray.empty,ByteArray.empty,0,0,0,0,0,ByteArray.empty)).1,((z2.getD x8.1.toNat (0,ByteArray.empty,ByteArray.empty,0,0,0,0,0,ByteArray.empty)).2).1,(((z2.getD x8.1.toNat (0,ByteArray.empty,ByteArray.empty,0,0,0,0,0,ByteArray.empty)).2).2).1,((((z2.getD x8.1.toNat (0,ByteArray.empty,ByteArray.empty,0,0,0,0,0,ByteArray.empty)).2).2).2).1,(((((z2.getD x8.1.toNat (0,ByteArray.empty,ByteArray.empty,0,0,0,0,0,ByteArray.empty)).2).2).2).2).1,x8.2.2.2.2.2,((((((z2.getD x8.1.toNat (0,ByteArray.empty,ByteArray.empty,0,0,0,0,0,ByteArray.empty)).2).2).2).2).2).2); (let z4:List Bn:=z3.set x8.1.toNat ((z3.getD x8.1.toNat (0,ByteArray.empty,ByteArray.empty,0,0,0,0,0,ByteArray.empty)).1,((z3.getD x8.1.toNat (0,ByteArray.empty,ByteArray.empty,0,0,0,0,0,ByteArray.empty)).2).1,(((z3.getD x8.1.toNat (0,ByteArray.empty,ByteArray.empty,0,0,0,0,0,ByteArray.empty)).2).2).1,((((z3.getD x8.1.toNat (0,ByteArray.empty,ByteArray.empty,0,0,0,0,0,ByteArray.empty)).2).2).2).1,(((((z3.getD x8.1.toNat (0,ByteArray.empty,ByteArray.empty,0,0,0,0,0,ByteArray.empty)).2).2).2).2).1,((((((z3.getD x8.1.toNat (0,ByteArray.empty,ByteArray.empty,0,0,0,0,0,ByteArray.empty)).2).2).2).2).2).1,x8.2.1,(((((((z3.getD x8.1.toNat (0,ByteArray.empty,ByteArray.empty,0,0,0,0,0,ByteArray.empty)).2).2).2).2).2).2).2); (let z5:List Bn:=z4.set x8.1.toNat ((z4.getD x8.1.toNat (0,ByteArray.empty,ByteArray.empty,0,0,0,0,0,ByteArray.empty)).1,((z4.getD x8.1.toNat (0,ByteArray.empty,ByteArray.empty,0,0,0,0,0,ByteArray.empty)).2).1,(((z4.getD x8.1.toNat (0,ByteArray.empty,ByteArray.empty,0,0,0,0,0,ByteArray.empty)).2).2).1,((((z4.getD x8.1.toNat (0,ByteArray.empty,ByteArray.empty,0,0,0,0,0,ByteArray.empty)).2).2).2).1,(((((z4.getD x8.1.toNat (0,ByteArray.empty,ByteArray.empty,0,0,0,0,0,ByteArray.empty)).2).2).2).2).1,((((((z4.getD x8.1.toNat (0,ByteArray.empty,ByteArray.empty,0,0,0,0,0,ByteArray.empty)).2).2).2).2).2).1,(((((((z4.getD x8.1.toNat (0,ByteArray.empty,ByteArray.empty,0,0,0,0,0,ByteArray.empty)).2).2).2).2).2).2).1,x8.2.2.1,((((((((z4.getD x8.1.toNat (0,ByteArray.empty,ByteArray.empty,0,0,0,0,0,ByteArray.empty)).2).2).2).2).2).2).2).2); (if (((z5.getD x8.1.toNat (0,ByteArray.empty,ByteArray.empty,0,0,0,0,0,ByteArray.empty)).1)==2)=true then (let z6:List Bn:=z5.set x8.1.toNat ((z5.getD x8.1.toNat (0,ByteArray.empty,ByteArray.empty,0,0,0,0,0,ByteArray.empty)).1,((z5.getD x8.1.toNat (0,ByteArray.empty,ByteArray.empty,0,0,0,0,0,ByteArray.empty)).2).1,(((z5.getD x8.1.toNat (0,ByteArray.empty,ByteArray.empty,0,0,0,0,0,ByteArray.empty)).2).2).1,((((z5.getD x8.1.toNat (0,ByteArray.empty,ByteArray.empty,0,0,0,0,0,ByteArray.empty)).2).2).2).1,(((((z5.getD x8.1.toNat (0,ByteArray.empty,ByteArray.empty,0,0,0,0,0,ByteArray.empty)).2).2).2).2).1,((((((z5.getD x8.1.toNat (0,ByteArray.empty,ByteArray.empty,0,0,0,0,0,ByteArray.empty)).2).2).2).2).2).1,(((((((z5.getD x8.1.toNat (0,ByteArray.empty,ByteArray.empty,0,0,0,0,0,ByteArray.empty)).2).2).2).2).2).2).1,((((((((z5.getD x8.1.toNat (0,ByteArray.empty,ByteArray.empty,0,0,0,0,0,ByteArray.empty)).2).2).2).2).2).2).2).1,x8.2.2.2.2.1); (B7 x0 x1 (i64.wrap (x2+1)) (x4.1,x4.2.1,x4.2.2.1,z6) x5 x6 x7)) else (B7 x0 x1 (i64.wrap (x2+1)) (x4.1,x4.2.1,x4.2.2.1,z5) x5 x6 x7)))))) else none) else none) else none)
def HY (x0:List AD) (x1 x2:Int) (x3:AJ) (x4:O) (x5:List O) (x6:List Y):Option AJ:=(if (decide (x2<(x0.length:Int)))=true then (if 0≤x2 then (if x2<(x0.length:Int) then (if (decide (((x0.getD x2.toNat (0,0,0,ByteArray.empty,ByteArray.empty,0)).1)≥(x3.2.2.2.length:Int)))=true then (B7 x0 x1 (i64.wrap (x2+1)) x3 x4 x5 x6) else (if 0≤((x0.getD x2.toNat (0,0,0,ByteArray.empty,ByteArray.empty,0)).1) then (if ((x0.getD x2.toNat (0,0,0,ByteArray.empty,ByteArray.empty,0)).1)<(x3.2.2.2.length:Int) then (if (decide (((((((x3.2.2.2.getD ((x0.getD x2.toNat (0,0,0,ByteArray.empty,ByteArray.empty,0)).1).toNat (0,ByteArray.empty,ByteArray.empty,0,0,0,0,0,ByteArray.empty)).2).2).2).2).1)≥0))=true then (B7 x0 x1 (i64.wrap (x2+1)) x3 x4 x5 x6) else (Ms x0 x1 x2 (decide (((((((x3.2.2.2.getD ((x0.getD x2.toNat (0,0,0,ByteArray.empty,ByteArray.empty,0)).1).toNat (0,ByteArray.empty,ByteArray.empty,0,0,0,0,0,ByteArray.empty)).2).2).2).2).1)≥0)) x3 x4 x5 x6 (x0.getD x2.toNat (0,0,0,ByteArray.empty,ByteArray.empty,0)))) else none) else none)) else none) else none) else (some x3))
def Q_ (x1:O) (x2:List Y) (x3:List AD) (x4:Int) (b0:AJ):Option AJ:=(if ([]:List O).length+b0.2.1.length≤68719476736 then (if 0≤(i64.wrap (x1.1-1)) then (if (i64.wrap (x1.1-1))<((([]:List O)++b0.2.1).length:Int) then (let z1:List O:=(([]:List O)++b0.2.1).set ((i64.wrap (x1.1-1)).toNat) x1; (if ([]:List Y).length+b0.2.2.1.length≤68719476736 then (if (([]:List Y)++b0.2.2.1).length+x2.length≤68719476736 then (B7 x3 x4 0 (b0.1,z1,((([]:List Y)++b0.2.2.1)++x2),b0.2.2.2) x1 z1 ((([]:List Y)++b0.2.2.1)++x2)) else none) else none)) else none) else none) else none)
theorem VV:pb Mt Ms:=jS (by kernel_rfl)
theorem Mu:n7 HY B7:=lS (by kernel_rfl)
theorem aA:jC Q_ D8:=cT B2 rfl ⟨rfl,rfl⟩ (by kernel_rfl)
def jQ (x0:O):Option O:=(some (x0.1,x0.2.1,true,false,false,false,([]:List Int),([]:List X),0,0,0,0,(ByteArray.empty,ByteArray.empty,0),([]:List Int)))
theorem jR:N2 jQ UB:=cT Ou rfl ⟨rfl,rfl⟩ (by kernel_rfl)
def Pu (x1:Int) (x2:Ac) (b0:AJ):Option (Int×AJ):=(if ((b0.2.2.1.length:Int)==0)=true then (some (1,b0)) else (if (b0.2.2.1.length:Int)=0 then none else (if 0≤(Int.tmod x2.2.2.1 (b0.2.2.1.length:Int)) then (if (Int.tmod x2.2.2.1 (b0.2.2.1.length:Int))<(b0.2.2.1.length:Int) then (if (x2.1==4)=true then (if ([]:List Y).length+b0.2.2.1.length≤68719476736 then (if (([]:List Y)++b0.2.2.1).length+([b0.2.2.1.getD (Int.tmod x2.2.2.1 (b0.2.2.1.length:Int)).toNat (0,0,0,0,0,([]:List X))]:List Y).length≤68719476736 then (some (0,(b0.1,b0.2.1,((([]:List Y)++b0.2.2.1)++([b0.2.2.1.getD (Int.tmod x2.2.2.1 (b0.2.2.1.length:Int)).toNat (0,0,0,0,0,([]:List X))]:List Y)),b0.2.2.2))) else none) else none) else (if 0≤(0:Int) then (if 0≤(Int.tmod x2.2.2.1 (b0.2.2.1.length:Int)) then (if (Int.tmod x2.2.2.1 (b0.2.2.1.length:Int))≤(b0.2.2.1.length:Int) then (if 0≤(i64.wrap ((Int.tmod x2.2.2.1 (b0.2.2.1.length:Int))+1)) then (if (i64.wrap ((Int.tmod x2.2.2.1 (b0.2.2.1.length:Int))+1))≤(b0.2.2.1.length:Int) then (if (b0.2.2.1.length:Int)≤(b0.2.2.1.length:Int) then (if ([]:List Y).length+((b0.2.2.1.take (Int.tmod x2.2.2.1 (b0.2.2.1.length:Int)).toNat).drop (0:Int).toNat).length≤68719476736 then (if (([]:List Y)++((b0.2.2.1.take (Int.tmod x2.2.2.1 (b0.2.2.1.length:Int)).toNat).drop (0:Int).toNat)).length+((b0.2.2.1.take (b0.2.2.1.length:Int).toNat).drop (i64.wrap ((Int.tmod x2.2.2.1 (b0.2.2.1.length:Int))+1)).toNat).length≤68719476736 then (if (x2.1==3)=true then (some (0,(b0.1,b0.2.1,((([]:List Y)++((b0.2.2.1.take (Int.tmod x2.2.2.1 (b0.2.2.1.length:Int)).toNat).drop (0:Int).toNat))++((b0.2.2.1.take (b0.2.2.1.length:Int).toNat).drop (i64.wrap ((Int.tmod x2.2.2.1 (b0.2.2.1.length:Int))+1)).toNat)),b0.2.2.2))) else (if 0≤(i64.wrap (((((b0.2.2.1.getD (Int.tmod x2.2.2.1 (b0.2.2.1.length:Int)).toNat (0,0,0,0,0,([]:List X))).2).2).1)-1)) then (if (i64.wrap (((((b0.2.2.1.getD (Int.tmod x2.2.2.1 (b0.2.2.1.length:Int)).toNat (0,0,0,0,0,([]:List X))).2).2).1)-1))<(b0.2.1.length:Int) then ((JX (b0.2.1.getD (i64.wrap (((((b0.2.2.1.getD (Int.tmod x2.2.2.1 (b0.2.2.1.length:Int)).toNat (0,0,0,0,0,([]:List X))).2).2).1)-1)).toNat (0,0,false,false,false,false,([]:List Int),([]:List X),0,0,0,0,(ByteArray.empty,ByteArray.empty,0),([]:List Int))) b0.1 (b0.2.2.1.getD (Int.tmod x2.2.2.1 (b0.2.2.1.length:Int)).toNat (0,0,0,0,0,([]:List X)))).bind fun y1=>((D8 y1.1 y1.2.1 y1.2.2 x1 (b0.1,b0.2.1,((([]:List Y)++((b0.2.2.1.take (Int.tmod x2.2.2.1 (b0.2.2.1.length:Int)).toNat).drop (0:Int).toNat))++((b0.2.2.1.take (b0.2.2.1.length:Int).toNat).drop (i64.wrap ((Int.tmod x2.2.2.1 (b0.2.2.1.length:Int))+1)).toNat)),b0.2.2.2)).bind fun y2=>(some (0,y2)))) else none) else none)) else none) else none) else none) else none) else none) else none) else none) else none)) else none) else none)))
theorem Vr:Rk Pu Pm:=cT LP rfl ⟨rfl,rfl⟩ (by kernel_rfl)
def Ul:=cG Ln (AF Bz) (AF Bz) kx
def Um:=kE 0 [(3,0)] [3] 1 Ul kx
def TY:St→Option (RT (BN.outs Bz)):=lG Ll [(3,0)] [0,3,4] 1 (AF Bz) Um
def Co (x0:List Y) (x1:Int) (x2:List Y):Option (List Y):=TY ⟨[(0,.lst AC x0),(3,.row 0),(4,.int .i64 x1)],[.rows 34 AC x2]⟩
def GI (x0:List Y) (x1:Int) (x2:List Y):Option (List Y):=(if (decide (x1<(x0.length:Int)))=true then (if 0≤x1 then (if x1<(x0.length:Int) then (if ([]:List X).length+((((((x0.getD x1.toNat (0,0,0,0,0,([]:List X))).2).2).2).2).2).length≤68719476736 then (if x2.length+([((x0.getD x1.toNat (0,0,0,0,0,([]:List X))).1,((x0.getD x1.toNat (0,0,0,0,0,([]:List X))).2).1,(((x0.getD x1.toNat (0,0,0,0,0,([]:List X))).2).2).1,((((x0.getD x1.toNat (0,0,0,0,0,([]:List X))).2).2).2).1,(((((x0.getD x1.toNat (0,0,0,0,0,([]:List X))).2).2).2).2).1,(([]:List X)++((((((x0.getD x1.toNat (0,0,0,0,0,([]:List X))).2).2).2).2).2)))]:List Y).length≤68719476736 then (Co x0 (i64.wrap (x1+1)) (x2++([((x0.getD x1.toNat (0,0,0,0,0,([]:List X))).1,((x0.getD x1.toNat (0,0,0,0,0,([]:List X))).2).1,(((x0.getD x1.toNat (0,0,0,0,0,([]:List X))).2).2).1,((((x0.getD x1.toNat (0,0,0,0,0,([]:List X))).2).2).2).1,(((((x0.getD x1.toNat (0,0,0,0,0,([]:List X))).2).2).2).2).1,(([]:List X)++((((((x0.getD x1.toNat (0,0,0,0,0,([]:List X))).2).2).2).2).2)))]:List Y))) else none) else none) else none) else none) else (some x2))
def Nw (x0:List Y):Option (List Y):=(Co x0 0 ([]:List Y))
theorem Kf:Rk GI Co:=lS (by kernel_rfl)
theorem Wj:N2 Nw IJ:=cT Bz rfl ⟨rfl,rfl⟩ (by kernel_rfl)
def YO:=cG Ow (AF Cg) (AF Cg) kx
def YP:=kE 0 [(3,1)] [3] 2 YO kx
def Wk:St→Option (RT (BN.outs Cg)):=lG Ov [(3,1)] [0,3,4] 2 (AF Cg) YP
def Fv (x0:Int) (x1:Z) (x2:List X):Option (List X×Z):=Wk ⟨[(0,.ptr 0 0),(3,.row 1),(4,.int .i64 x0)],[.var (AM.enc x1),.rows 27 AA x2]⟩
def Fw (x0:Int) (x1:Z) (x2:List X):Option (List X×Z):=((AS 6 x1).bind fun y1=>(if (decide (x0<y1.1))=true then ((Gs y1.2).bind fun y2=>((FR x2 y2.1).bind fun y3=>(Fv (i64.wrap (x0+1)) y2.2 y3))) else (some (x2,y1.2))))
def S9 (b0:Z):Option (List X×Z):=(Fv 0 b0 ([]:List X))
theorem IW:Rk Fw Fv:=lS (by kernel_rfl)
theorem cK:N2 S9 H5:=cT Cg rfl ⟨rfl,rfl⟩ (by kernel_rfl)
def Un (b0:Z):Option (X×Z):=((Pn b0).bind fun y1=>((Po y1.2).bind fun y2=>((AS 30 y2.2).bind fun y3=>(some ((y1.1,y2.1,(i64.wrap (1001+y3.1))),y3.2)))))
theorem fE:N2 Un Gs:=cT JW rfl ⟨rfl,rfl⟩ (by kernel_rfl)
def aB:=cG Qa (AF DG) (AF DG) kx
def aC:=kE 0 [(5,0)] [5] 1 aB kx
def YQ:St→Option (RT (BN.outs DG)):=lG QZ [(5,0)] [0,1,5,6] 1 (AF DG) aC
def Ge (x0 x1 x2:Int) (x3:List Int):Option ByteArray:=YQ ⟨[(0,.int .i64 x0),(1,.int .u8 x1),(5,.row 0),(6,.int .i64 x2)],[.rows 5 (.int .u8) x3]⟩
def KB (x0 x1 x2:Int) (x3:List Int):Option ByteArray:=(if (decide (x2<x0))=true then (if 0≤x2 then (if x2<(x3.length:Int) then (let z1:List Int:=x3.set x2.toNat x1; (Ge x0 x1 (i64.wrap (x2+1)) z1)) else none) else none) else (some (Mw x3)))
def Uo (x0 x1:Int):Option ByteArray:=(if 0≤x0 then (if x0≤68719476736 then (Ge x0 x1 0 (List.replicate x0.toNat 0)) else none) else none)
theorem PX:dj KB Ge:=lS (by kernel_rfl)
theorem fF:TI Uo Na:=cT DG rfl ⟨rfl,rfl⟩ (by kernel_rfl)
def aD:=cG Ox (AF CV) (AF CV) kx
def RA:=kE 0 [] [3,4] 0 aD kx
def PY:St→Option (RT (BN.outs CV)):=lG Qc [] [0,3,4] 0 (AF CV) RA
def RB:=kB [] [0,3,4] 0 PY
def aE:=kB [] [0,3,4] 0 RB
def aF:=kE 1 [] [0,3,4] 0 RB RA
def KC (x0:Int) (x1:Bool) (x2:ByteArray) (x3:Int):Option ByteArray:=cG Qb aE (AF CV) aF ⟨[(0,.int .i64 x0),(3,.bool x1),(4,.str x2),(5,.int .i64 x3)],[]⟩
def Gf (x0:Int) (x1:Bool) (x2:ByteArray):Option ByteArray:=PY ⟨[(0,.int .i64 x0),(3,.bool x1),(4,.str x2)],[]⟩
def PZ (x0:Int) (x1:Bool) (x2:ByteArray) (x3:Int):Option ByteArray:=((Kt x3).bind fun y1=>(if (Mw ([y1]:List Int)).size+x2.size≤1099511627776 then (if 10=0 then none else (Gf (i64.wrap (Int.tdiv x0 10)) x1 ((Mw ([y1]:List Int))++x2))) else none))
def Gg (x0:Int) (x1:Bool) (x2:ByteArray):Option ByteArray:=(if (x0 != 0)=true then (if 10=0 then none else (if (decide ((Int.tmod x0 10)<0))=true then (KC x0 x1 x2 (i64.wrap (0-(Int.tmod x0 10)))) else (KC x0 x1 x2 (Int.tmod x0 10)))) else (if x1=true then (if (⟨#[45]⟩:ByteArray).size+x2.size≤1099511627776 then (some ((⟨#[45]⟩:ByteArray)++x2)) else none) else (some x2)))
def Nx (x0:Int):Option ByteArray:=(if (x0==0)=true then (some (⟨#[48]⟩:ByteArray)) else (Gf x0 (decide (x0<0)) (⟨#[]⟩:ByteArray)))
theorem YR:dj PZ KC:=jS (by kernel_rfl)
theorem KD:Rk Gg Gf:=lS (by kernel_rfl)
theorem Up:N2 Nx Nb:=cT CV rfl ⟨rfl,rfl⟩ (by kernel_rfl)
def S_ (x0:Int):Option Bool:=(some (x0 != x0))
theorem cL:N2 S_ H6:=cT Hy rfl ⟨rfl,rfl⟩ (by kernel_rfl)
def fG:=cG Sg (AF CE) (AF CE) kx
def fH:=kE 0 [(9,2)] [6,9,11] 5 fG kx
def cM:St→Option (RT (BN.outs CE)):=lG Sf [(9,2)] [1,2,3,6,9,11,13] 5 (AF CE) fH
def Ec (x0:List (List Int)) (x1 x2:Int) (x3 x4:O) (x5:List Y) (x6:List X) (x7:O):Option (O×List Y×Bool):=cM ⟨[(1,.lst (.slice (.int .i64)) x0),(2,.int .i64 x1),(3,.ptr 0 0),(6,.ptr 1 0),(9,.row 2),(11,.ptr 4 0),(13,.int .i64 x2)],[.var (U.enc x3),.var (U.enc x4),.rows 34 AC x5,.frz AA x6,.var (U.enc x7)]⟩
def F4 (x0:List (List Int)) (x1:Int) (x2:Bool) (x3 x4:O) (x5:List Y):Option (O×List Y×Bool):=cG Sh (AF CE) (AF CE) kx ⟨[(1,.lst (.slice (.int .i64)) x0),(2,.int .i64 x1),(3,.ptr 0 0),(6,.ptr 1 0),(9,.row 2),(10,.bool x2)],[.var (U.enc x3),.var (U.enc x4),.rows 34 AC x5]⟩
def TA (x0:List (List Int)) (x1:Int) (x2:Bool) (x3 x4:O) (x5:List Y):Option (O×List Y×Bool):=cG Si (AF CE) (AF CE) kx ⟨[(1,.lst (.slice (.int .i64)) x0),(2,.int .i64 x1),(3,.ptr 0 0),(6,.ptr 1 0),(9,.row 2),(48,.bool x2)],[.var (U.enc x3),.var (U.enc x4),.rows 34 AC x5]⟩
def MP (x0:List (List Int)) (x1 x2:Int) (x3 x4:O) (x5:List Y) (x6:List X) (x7:O):Option (O×List Y×Bool):=(if 0≤(i64.wrap (x1-2)) then (if (i64.wrap (x1-2))<(x0.length:Int) then (if (decide (x2<((x0.getD (i64.wrap (x1-2)).toNat ([]:List Int)).length:Int)))=true then (if 0≤(i64.wrap (x1-2)) then (if (i64.wrap (x1-2))<(x0.length:Int) then (if 0≤x2 then (if x2<((x0.getD (i64.wrap (x1-2)).toNat ([]:List Int)).length:Int) then (if (((x0.getD (i64.wrap (x1-2)).toNat ([]:List Int)).getD x2.toNat 0) != x3.1)=true then (if x5.length+([(1,x3.1,((x0.getD (i64.wrap (x1-2)).toNat ([]:List Int)).getD x2.toNat 0),x1,0,([]:List X))]:List Y).length≤68719476736 then (Ec x0 x1 (i64.wrap (x2+1)) x3 x4 (x5++([(1,x3.1,((x0.getD (i64.wrap (x1-2)).toNat ([]:List Int)).getD x2.toNat 0),x1,0,([]:List X))]:List Y)) x6 x7) else none) else (Ec x0 x1 (i64.wrap (x2+1)) x3 x4 x5 x6 x7)) else none) else none) else none) else none) else ((CW x7).bind fun y7=>(some (y7,x5,true)))) else none) else none)
def TB (x0:List (List Int)) (x1:Int) (x2:Bool) (x3 x4:O) (x5:List Y):Option (O×List Y×Bool):=(if ([]:List X).length+x3.2.2.2.2.2.2.2.1.length≤68719476736 then (if x2=true then (if 0≤(i64.wrap (x1-1)) then (if (i64.wrap (x1-1))<(x0.length:Int) then ((LV (x0.getD (i64.wrap (x1-1)).toNat ([]:List Int)) x3.2.2.2.2.2.2.2.1 (x3.1,x1,false,false,true,false,([]:List Int),(([]:List X)++x3.2.2.2.2.2.2.2.1),0,0,0,0,(ByteArray.empty,ByteArray.empty,0),([]:List Int))).bind fun y5=>((CW y5.2).bind fun y6=>(some (y6,y5.1,true)))) else none) else none) else (Ec x0 x1 0 x3 x4 x5 (([]:List X)++x3.2.2.2.2.2.2.2.1) (x3.1,x1,false,false,true,false,([]:List Int),(([]:List X)++x3.2.2.2.2.2.2.2.1),0,0,0,0,(ByteArray.empty,ByteArray.empty,0),([]:List Int)))) else none)
def TC (x0:List (List Int)) (x1:Int) (x2:Bool) (x3 x4:O) (x5:List Y):Option (O×List Y×Bool):=(if x3.2.2.2.1=true then (if (x3.2.1==(i64.wrap (x1-1)))=true then (if 0≤(i64.wrap (x1-2)) then (if (i64.wrap (x1-2))<(x0.length:Int) then ((C4 (x0.getD (i64.wrap (x1-2)).toNat ([]:List Int)) x3.1).bind fun y4=>(F4 x0 x1 y4 x3 x4 x5)) else none) else none) else (F4 x0 x1 false x3 x4 x5)) else (F4 x0 x1 false x3 x4 x5))
def YS (x0:O) (x1:List (List Int)) (x2:Int):Option (O×List Y×Bool):=((EZ x0).bind fun y1=>(if (!y1)=true then (some ((0,0,false,false,false,false,([]:List Int),([]:List X),0,0,0,0,(ByteArray.empty,ByteArray.empty,0),([]:List Int)),([]:List Y),false)) else ((DH x1).bind fun y2=>(if (!y2)=true then (some ((0,0,false,false,false,false,([]:List Int),([]:List X),0,0,0,0,(ByteArray.empty,ByteArray.empty,0),([]:List Int)),([]:List Y),false)) else ((AO x2 2 (x1.length:Int)).bind fun y3=>(if (!y3)=true then (some ((0,0,false,false,false,false,([]:List Int),([]:List X),0,0,0,0,(ByteArray.empty,ByteArray.empty,0),([]:List Int)),([]:List Y),false)) else (if (decide (x2≤x0.2.1))=true then (some ((0,0,false,false,false,false,([]:List Int),([]:List X),0,0,0,0,(ByteArray.empty,ByteArray.empty,0),([]:List Int)),([]:List Y),false)) else (if 0≤(i64.wrap (x2-1)) then (if (i64.wrap (x2-1))<(x1.length:Int) then (if 0≤(0:Int) then (if 0<((x1.getD (i64.wrap (x2-1)).toNat ([]:List Int)).length:Int) then (if (((x1.getD (i64.wrap (x2-1)).toNat ([]:List Int)).getD (0:Int).toNat 0) != x0.1)=true then (some ((0,0,false,false,false,false,([]:List Int),([]:List X),0,0,0,0,(ByteArray.empty,ByteArray.empty,0),([]:List Int)),([]:List Y),false)) else (TA x1 x2 (((x1.getD (i64.wrap (x2-1)).toNat ([]:List Int)).getD (0:Int).toNat 0) != x0.1) x0 (0,0,false,false,false,false,([]:List Int),([]:List X),0,0,0,0,(ByteArray.empty,ByteArray.empty,0),([]:List Int)) ([]:List Y))) else none) else none) else none) else none))))))))
theorem TD:n8 MP Ec:=lS (by kernel_rfl)
theorem cN:jt TB F4:=jS (by kernel_rfl)
theorem cO:jt TC TA:=jS (by kernel_rfl)
theorem iW:Rk YS Rs:=cT CE rfl ⟨rfl,rfl⟩ (by kernel_rfl)
def Vs (b0:Z):Option (ByteArray×Z):=((EF ([(⟨#[97]⟩:ByteArray),(⟨#[98]⟩:ByteArray),(⟨#[99]⟩:ByteArray),(⟨#[100]⟩:ByteArray),(⟨#[101]⟩:ByteArray),(⟨#[102]⟩:ByteArray),(⟨#[103]⟩:ByteArray),(⟨#[104]⟩:ByteArray),(⟨#[107,49]⟩:ByteArray),(⟨#[107,50]⟩:ByteArray),(⟨#[107,51]⟩:ByteArray),(⟨#[107,101,121]⟩:ByteArray)]:List ByteArray) b0).bind fun y1=>(some (y1.1,y1.2)))
theorem gD:N2 Vs Pn:=cT LQ rfl ⟨rfl,rfl⟩ (by kernel_rfl)
def Vt (b0:Z):Option (ByteArray×Z):=((EF ([(⟨#[]⟩:ByteArray),(⟨#[118]⟩:ByteArray),(⟨#[119]⟩:ByteArray),(⟨#[120,120]⟩:ByteArray),(⟨#[121,121,121]⟩:ByteArray)]:List ByteArray) b0).bind fun y1=>(some (y1.1,y1.2)))
theorem gE:N2 Vt Po:=cT LR rfl ⟨rfl,rfl⟩ (by kernel_rfl)
def LG (x0:Int):Option Int:=(if (decide (x0<10))=true then (some (IntKind.u8.wrap (i64.wrap (48+x0)))) else (some (IntKind.u8.wrap (i64.wrap ((i64.wrap (97+x0))-10)))))
theorem RC:N2 LG Kt:=cT G9 rfl ⟨rfl,rfl⟩ (by kernel_rfl)
end
end Go.Proofs.YtaedipailemlcaaGreat.Core


namespace Go.Proofs.YtaedipailemlcaaGreat.Core
open Go
set_option linter.unusedVariables false
theorem AZ {n:Int} (h:-9223372036854775808≤n∧n≤9223372036854775807):IntKind.i64.wrap n=n:=IntWalk.i64_in n h
theorem AR {i:Nat} (h:i<9223372036854775807):IntKind.i64.wrap ((i:Int)+1)=((i+1:Nat):Int):=by
 rw [AZ (by omega)]
 omega
theorem Gy {P:Nat→Prop} {n:Nat} (h0:P n) (h:∀ i,i<n→P (i+1)→P i):∀ i,i≤n→P i:=by
 intro i hi
 induction hk:n-i generalizing i with
 | zero =>
  have:i=n:=by omega
  subst this
  exact h0
 | succ k ih=>exact h i (by omega) (ih (i+1) (by omega) (by omega))
theorem Ad {α:Type} {xs:List α} {i:Nat} {d:α} (h:i<xs.length):xs.getD i d=xs[i]:=by
 simp [List.getD,h]
end Go.Proofs.YtaedipailemlcaaGreat.Core

namespace Go.Proofs.YtaedipailemlcaaGreat.Core
open Go
set_option linter.unusedVariables false
theorem Ah (a b c:Int):AO a b c=some (decide (b≤a)&&decide (a≤c)):=iS (by
 unfold Xl
 by_cases h:b≤a<;>simp [h])
theorem Bw (a b c:Int):Aw a b c=some (decide (b≤a)&&decide (a≤c)):=eX (by
 unfold UL
 by_cases h:b≤a<;>simp [h])
end Go.Proofs.YtaedipailemlcaaGreat.Core

namespace Go.Proofs.YtaedipailemlcaaGreat.Core
open Go
set_option linter.unusedVariables false
def Fa (x:List (ByteArray×ByteArray×Int)) (k:ByteArray):ByteArray×ByteArray×Int :=
 (x.find? fun a=>a.1.toList==k.toList).getD (ByteArray.empty,ByteArray.empty,0)
theorem Bp {α:Type} {x:List α} {i:Nat} (h:i<x.length):x.drop i=x[i]::x.drop (i+1):=List.drop_eq_getElem_cons h
theorem RD (x k) (h:x.length≤maxLen):LU x k=some (Fa x k):=f9 (by
 have hm:x.length≤9223372036854775807:=h
 unfold Vn
 exact Gy (n:=x.length) (P:=fun i=>∀ z,HH x k (i:Int) z=some (Fa (x.drop i) k)) (fun z=>Qv (by
  unfold K3
  rw [if_neg (by simp),List.drop_length]
  rfl)) (fun i hi ih z=>Qv (by
  unfold K3
  simp only [show ((i:Int)<(x.length:Int)) from by omega,decide_true,if_true,show (0:Int)≤(i:Int) from by omega,Int.toNat_natCast,Ad hi,AR (show i<9223372036854775807 by omega)]
  rw [Bp hi]
  by_cases hk:(x[i].1.toList==k.toList)=true
  ·rw [if_pos hk]
   unfold Fa
   rw [List.find?_cons,hk]
   rfl
  ·rw [if_neg hk,ih]
   unfold Fa
   rw [List.find?_cons,Bool.eq_false_iff.2 hk])) 0 (by omega) _)
theorem RE (x k) (h:x.length≤maxLen):LT x k=some (Fa x k):=fw (by
 have hm:x.length≤9223372036854775807:=h
 unfold Vk
 exact Gy (n:=x.length) (P:=fun i=>∀ z,HA k x (x.length:Int) (i:Int) z=some (Fa (x.drop i) k)) (fun z=>Qf (by
  unfold Ku
  rw [if_neg (by simp),List.drop_length]
  rfl)) (fun i hi ih z=>Qf (by
  unfold Ku
  simp only [show ((i:Int)<(x.length:Int)) from by omega,decide_true,if_true,show (0:Int)≤(i:Int) from by omega,Int.toNat_natCast,Ad hi,AR (show i<9223372036854775807 by omega)]
  rw [Bp hi]
  by_cases hk:(x[i].1.toList==k.toList)=true
  ·rw [if_pos hk]
   unfold Fa
   rw [List.find?_cons,hk]
   rfl
  ·rw [if_neg hk,ih]
   unfold Fa
   rw [List.find?_cons,Bool.eq_false_iff.2 hk])) 0 (by omega) _)
end Go.Proofs.YtaedipailemlcaaGreat.Core

namespace Go.Proofs.YtaedipailemlcaaGreat.Core
open Go
set_option linter.unusedVariables false
theorem cQ k:Rr k=some (decide (1≤(k.size:Int))&&decide ((k.size:Int)≤12)):=iV (by simp [X5,Bw])
theorem LH n:F9 n=some (decide (1≤n)&&decide (n≤6)):=f8 (by simp [Vm,Bw])
def lX (v:ByteArray):Bool:=v.toList==(⟨#[]⟩:ByteArray).toList
theorem jz (v:ByteArray):(v.toList==(⟨#[]⟩:ByteArray).toList)=lX v:=rfl
def gf (op:Int) (k v:ByteArray):Bool :=
 (decide (op=1)||decide (op=2))&&(decide (1≤(k.size:Int))&&decide ((k.size:Int)≤12))&&decide ((v.size:Int)≤20)&&(decide (op=1)||lX v)
def Pv (x:Int×Int×Int×Int×ByteArray×ByteArray):Bool :=
 decide (1≤x.1)&&decide (x.1≤6)&&(decide (1≤x.2.1)&&decide (x.2.1≤6))&&decide (0≤x.2.2.1) &&
  (if x.1=1 then gf x.2.2.2.1 x.2.2.2.2.1 x.2.2.2.2.2 else decide (x.2.2.2.1=0)&&lX x.2.2.2.2.1&&lX x.2.2.2.2.2)
theorem YT x:NY x=some (Pv x):=fA (by
 have w:∀ b,J9 b x=some (if x.1=1 then gf x.2.2.2.1 x.2.2.2.2.1 x.2.2.2.2.2 else decide (x.2.2.2.1=0)&&lX x.2.2.2.2.1&&lX x.2.2.2.2.2):=fun b=>YG (by
  unfold PT gf
  simp only [jz]
  by_cases h:x.1=1
  ·simp only [Ah,Option.bind_some]
   by_cases g1:x.2.2.2.1=1
   ·by_cases h2:1≤(x.2.2.2.2.1.size:Int)<;>by_cases h3:(x.2.2.2.2.1.size:Int)≤12<;>by_cases h4:(x.2.2.2.2.2.size:Int)≤20<;>simp [h,g1,h2,h3,h4]
   ·by_cases g2:x.2.2.2.1=2
    ·by_cases h2:1≤(x.2.2.2.2.1.size:Int)<;>by_cases h3:(x.2.2.2.2.1.size:Int)≤12<;>by_cases h4:(x.2.2.2.2.2.size:Int)≤20<;>simp [h,g2,h2,h3,h4]
    ·simp [h,g1,g2]
  ·by_cases h2:x.2.2.2.1=0<;>rcases Bool.eq_false_or_eq_true (lX x.2.2.2.2.1) with h3 | h3<;>simp [h,h2,h3])
 unfold Uc Pv
 simp only [Ah,Option.bind_some,w]
 by_cases h1:1≤x.1<;>by_cases h2:x.1≤6<;>by_cases h3:1≤x.2.1<;>by_cases h4:x.2.1≤6<;>by_cases h5:0≤x.2.2.1<;>simp [h1,h2,h3,h4,h5]<;>omega)
end Go.Proofs.YtaedipailemlcaaGreat.Core

namespace Go.Proofs.YtaedipailemlcaaGreat.Core
open Go
set_option linter.unusedVariables false
def Pa (a:ByteArray×ByteArray×Int):Bool:=(decide (1≤(a.1.size:Int))&&decide ((a.1.size:Int)≤12))&&decide ((a.2.1.size:Int)≤20)&&(decide (1≤a.2.2)&&decide (a.2.2≤1000000000))
def Be (x:List (ByteArray×ByteArray×Int)) (i:Nat):Nat→Bool
 | 0=>decide ((x.length:Int)≤12)
 | k+1=>Pa (x.getD i (ByteArray.empty,ByteArray.empty,0))&&(decide (i=0)||Op.bytesLess (x.getD (i-1) (ByteArray.empty,ByteArray.empty,0)).1.toList (x.getD i (ByteArray.empty,ByteArray.empty,0)).1.toList)&&Be x (i+1) k
theorem pf (n:Int):decide (n>20)=!decide (n≤20):=by
 by_cases h:n≤20<;>simp [h]
 omega
theorem U8 {i:Nat} (h:i<9223372036854775807) (h0:0<i):IntKind.i64.wrap ((i:Int)-1)=((i-1:Nat):Int):=by
 rw [AZ (by omega)]
 omega
theorem Gh (x) (h:x.length≤maxLen):CX x=some (Be x 0 x.length):=eZ (by
 have hm:x.length≤9223372036854775807:=h
 unfold UQ
 have:=Gy (n:=x.length) (P:=fun i=>En x (i:Int)=some (Be x i (x.length-i))) (PD (by
  unfold Jn
  rw [if_neg (by simp),Nat.sub_self]
  rfl)) (fun i hi ih=>PD (by
  unfold Jn
  have e:x.length-i=(x.length-(i+1))+1:=by omega
  simp only [show ((i:Int)<(x.length:Int)) from by omega,decide_true,if_true,show (0:Int)≤(i:Int) from by omega,Int.toNat_natCast,AR (show i<9223372036854775807 by omega),ih,Ah,Option.bind_some,pf]
  rw [e,Be,Pa]
  generalize (decide (1≤((x.getD i (ByteArray.empty,ByteArray.empty,0)).1.size:Int))&&decide (((x.getD i (ByteArray.empty,ByteArray.empty,0)).1.size:Int)≤12))=a
  generalize decide (((x.getD i (ByteArray.empty,ByteArray.empty,0)).2.1.size:Int)≤20)=b
  generalize (decide (1≤(x.getD i (ByteArray.empty,ByteArray.empty,0)).2.2)&&decide ((x.getD i (ByteArray.empty,ByteArray.empty,0)).2.2≤1000000000))=c
  cases a
  ·simp
  cases b
  ·simp
  cases c
  ·simp
  by_cases h0:0<i
  ·rw [U8 (by omega) h0]
   simp only [Int.toNat_natCast,show ((0:Int)≤((i-1:Nat):Int)) from by omega,show (((i-1:Nat):Int)<(x.length:Int)) from by omega,if_true]
   rcases Bool.eq_false_or_eq_true (Op.bytesLess (x.getD (i-1) (ByteArray.empty,ByteArray.empty,0)).1.toList (x.getD i (ByteArray.empty,ByteArray.empty,0)).1.toList) with hb | hb<;>simp only [hb]<;>simp [h0,show i≠0 by omega]
  ·have:i=0:=by omega
   subst this
   simp)) 0 (by omega)
 simpa using this)
theorem KE (x) (h:x.length≤maxLen) (hl:∀ a b:List UInt8,(Op.bytesLess a b||a==b)=!Op.bytesLess b a):ED x=some (Be x 0 x.length):=eY (by
 have hm:x.length≤9223372036854775807:=h
 unfold UO
 have:=Gy (n:=x.length) (P:=fun i=>Em x x (x.length:Int) (i:Int)=some (Be x i (x.length-i))) (PC (by
  unfold Jm
  rw [if_neg (by simp),Nat.sub_self]
  rfl)) (fun i hi ih=>PC (by
  unfold Jm
  have e:x.length-i=(x.length-(i+1))+1:=by omega
  simp only [show ((i:Int)<(x.length:Int)) from by omega,decide_true,if_true,show (0:Int)≤(i:Int) from by omega,Int.toNat_natCast,AR (show i<9223372036854775807 by omega),ih,Bw,cQ,Option.bind_some,pf,hl]
  rw [e,Be,Pa]
  generalize (decide (1≤((x.getD i (ByteArray.empty,ByteArray.empty,0)).1.size:Int))&&decide (((x.getD i (ByteArray.empty,ByteArray.empty,0)).1.size:Int)≤12))=a
  generalize decide (((x.getD i (ByteArray.empty,ByteArray.empty,0)).2.1.size:Int)≤20)=b
  generalize (decide (1≤(x.getD i (ByteArray.empty,ByteArray.empty,0)).2.2)&&decide ((x.getD i (ByteArray.empty,ByteArray.empty,0)).2.2≤1000000000))=c
  cases a
  ·simp
  cases b
  ·simp
  cases c
  ·simp
  by_cases h0:0<i
  ·rw [U8 (by omega) h0]
   simp only [Int.toNat_natCast,show ((0:Int)≤((i-1:Nat):Int)) from by omega,show (((i-1:Nat):Int)<(x.length:Int)) from by omega,if_true]
   rcases Bool.eq_false_or_eq_true (Op.bytesLess (x.getD (i-1) (ByteArray.empty,ByteArray.empty,0)).1.toList (x.getD i (ByteArray.empty,ByteArray.empty,0)).1.toList) with hb | hb<;>simp only [hb]<;>simp [h0,show i≠0 by omega]
  ·have:i=0:=by omega
   subst this
   simp)) 0 (by omega)
 simpa using this)
theorem Pb:∀ a b:List UInt8,(Op.bytesLess a b||a==b)=!Op.bytesLess b a
 | [],[]=>rfl
 | [],_::_=>rfl
 | _::_,[]=>rfl
 | a::l,b::m=>by
  have ih:=Pb l m
  simp only [Op.bytesLess]
  by_cases h1:a<b
  ·have h2:¬ b<a:=by exact UInt8.not_lt.2 (UInt8.le_of_lt h1)
   have h3:¬ b=a:=fun h=>by subst h; exact absurd h1 (UInt8.lt_irrefl _)
   simp [h1,h2,h3]
  ·by_cases h2:b<a
   ·have h3:¬ a=b:=fun h=>by subst h; exact absurd h2 (UInt8.lt_irrefl _)
    simp [h1,h2,h3]
   ·have h3:a=b:=UInt8.le_antisymm (UInt8.not_lt.1 h2) (UInt8.not_lt.1 h1)
    subst h3
    simpa [h1] using ih
end Go.Proofs.YtaedipailemlcaaGreat.Core

namespace Go.Proofs.YtaedipailemlcaaGreat.Core
open Go
set_option linter.unusedVariables false
abbrev AT:Type:=ByteArray×ByteArray×Int
abbrev fI:AT:=(ByteArray.empty,ByteArray.empty,(0:Int))
theorem aG:∀ a:List UInt8,Op.bytesLess a a=false
 | []=>rfl
 | a::l=>by simp [Op.bytesLess,aG l,UInt8.lt_irrefl]
theorem YU:∀ {a b c:List UInt8},Op.bytesLess a b=true→Op.bytesLess b c=true→Op.bytesLess a c=true
 | _,[],_,h,_=>by cases ‹List UInt8› <;> simp [Op.bytesLess] at h
 | _,_::_,[],_,h=>by simp [Op.bytesLess] at h
 | [],_::_,_::_,_,_=>rfl
 | a::x,b::y,c::z,h,g=>by
  simp only [Op.bytesLess,Bool.or_eq_true,decide_eq_true_eq,Bool.and_eq_true,beq_iff_eq] at h g ⊢
  rcases h with h | ⟨rfl,h⟩
  ·rcases g with g | ⟨rfl,g⟩
   ·exact .inl (UInt8.lt_trans h g)
   ·exact .inl h
  ·rcases g with g | ⟨rfl,g⟩
   ·exact .inl g
   ·exact .inr ⟨rfl,YU h g⟩
theorem fJ:∀ a b:List UInt8,decide (Lib.compareBytes a b<0)=Op.bytesLess a b∧(Lib.compareBytes a b==0)=(a==b)
 | [],[]=>⟨rfl,rfl⟩
 | [],_::_=>⟨rfl,rfl⟩
 | _::_,[]=>⟨rfl,rfl⟩
 | a::l,b::m=>by
  have ih:=fJ l m
  simp only [Lib.compareBytes,Op.bytesLess]
  by_cases h1:a<b
  ·have h3:¬ a=b:=fun h=>by subst h; exact absurd h1 (UInt8.lt_irrefl _)
   simp [h1,h3]
  ·by_cases h2:b<a
   ·have h3:¬ a=b:=fun h=>by subst h; exact absurd h2 (UInt8.lt_irrefl _)
    simp [h1,h2,h3]
   ·have h3:a=b:=UInt8.le_antisymm (UInt8.not_lt.1 h2) (UInt8.not_lt.1 h1)
    subst h3
    simpa [h1] using ih
theorem Mv (a:AT) (k:ByteArray):G_ a k=some (Lib.compareBytes a.1.toList k.toList):=Z_ (by
 unfold Q9
 rw [Xc,ByteArray.toList_eq,ByteArray.toList_eq]
 rfl)
def RF (x:List AT) (i:Nat) (k:ByteArray):Bool:=match x[i]? with
 | some b=>b.1.toList==k.toList
 | none=>false
def Tc (k:ByteArray) (b:AT):Bool:=Op.bytesLess b.1.toList k.toList
def NA (x:List AT):Prop:=∀ a b (ha:a<x.length) (hb:b<x.length),a<b→Op.bytesLess x[a].1.toList x[b].1.toList=true
def am (x:List AT) (k:ByteArray) (i j:Nat):Prop:=∀ a (ha:a<x.length),(a<i→Tc k x[a]=true)∧(j≤a→Tc k x[a]=false)
theorem pG {i j:Nat} (h:i+j≤137438953472):IntKind.i64.wrap (Int.fdiv (IntKind.u64.wrap (IntKind.i64.wrap ((i:Int)+(j:Int)))) (2^(min (1:Int).toNat (IntKind.bits .u64))))=(((i+j) / 2:Nat):Int):=by
 have e1:IntKind.i64.wrap ((i:Int)+(j:Int))=((i+j:Nat):Int):=by rw [AZ (by omega)]; omega
 have e2:IntKind.u64.wrap ((i+j:Nat):Int)=((i+j:Nat):Int):=by
  simp only [IntKind.wrap,IntKind.bits,IntKind.signed]
  simp
  omega
 have e3:(2:Int)^(min (1:Int).toNat (IntKind.bits .u64))=2:=by decide
 rw [e1,e2,e3,Int.fdiv_eq_ediv_of_nonneg _ (by omega)]
 rw [AZ (by omega)]
 omega
theorem jT (x:List AT) (k:ByteArray) (hx:x.length≤68719476736):∀ (m i j:Nat),j-i≤m→i≤j→j≤x.length →
  ∃ r:Nat,i≤r∧r≤j∧AI x k (x.length:Int) (i:Int) (j:Int)=some ((r:Int),RF x r k)∧(NA x→am x k i j→am x k r r):=by
 intro m
 induction m with
 | zero =>
  intro i j hm hij hj
  have:i=j:=by omega
  subst this
  refine ⟨i,Nat.le_refl _,Nat.le_refl _,Bk ?_,fun _ h=>h⟩
  unfold Aq
  rw [if_neg (by simp)]
  refine DL ?_
  unfold Bj RF
  by_cases h:i<x.length
  ·simp only [show ((i:Int)<(x.length:Int)) from by omega,decide_true,if_true,show (0:Int)≤(i:Int) from by omega,Int.toNat_natCast,Ad h,Mv,Option.bind_some,(fJ _ _).2,List.getElem?_eq_getElem h]
  ·rw [if_neg (by simp; omega),List.getElem?_eq_none (by omega)]
 | succ m ih =>
  intro i j hm hij hj
  by_cases hlt:i<j
  ·have hmid:i≤(i+j) / 2∧(i+j) / 2<j:=by omega
   generalize hh:(i+j) / 2=h at hmid
   have hb:h<x.length:=by omega
   have step:∀ r,(if Tc k x[h]=true then AI x k (x.length:Int) ((h+1:Nat):Int) (j:Int) else AI x k (x.length:Int) (i:Int) (h:Int))=some r→AI x k (x.length:Int) (i:Int) (j:Int)=some r:=fun r hr=>Bk (by
    unfold Aq
    simp only [show ((i:Int)<(j:Int)) from by omega,decide_true,if_true,pG (show i+j≤137438953472 by omega),hh,show ¬ ((1:Int)<0) from by decide,if_false,show ((0:Int)≤(h:Int)) from by omega,show ((h:Int)<(x.length:Int)) from by omega,Int.toNat_natCast,Ad hb,Mv,Option.bind_some,(fJ _ _).1,AR (show h<9223372036854775807 by omega)]
    exact hr)
   cases hl:Tc k x[h] with
   | true =>
    obtain ⟨r,h1,h2,h3,h4⟩:=ih (h+1) j (by omega) (by omega) hj
    refine ⟨r,by omega,h2,step _ (by rw [hl]; exact h3),fun ho hc=>h4 ho fun a ha=>⟨fun hlt=>?_,(hc a ha).2⟩⟩
    by_cases e:a=h
    ·subst e; exact hl
    ·exact YU (ho a h ha hb (by omega)) hl
   | false =>
    obtain ⟨r,h1,h2,h3,h4⟩:=ih i h (by omega) hmid.1 (by omega)
    refine ⟨r,h1,by omega,step _ (by rw [hl]; exact h3),fun ho hc=>h4 ho fun a ha=>⟨(hc a ha).1,fun hle=>?_⟩⟩
    by_cases e:a=h
    ·subst e; exact hl
    ·cases q:Tc k x[a] with
     | false=>rfl
     | true =>
      have:=YU (ho h a hb ha (by omega)) q
      rw [show Op.bytesLess x[h].1.toList k.toList=false from hl] at this
      cases this
  ·have:i=j:=by omega
   subst this
   exact ih i i (by omega) (Nat.le_refl _) hj
theorem lY (x:List AT) (k:ByteArray) (hx:x.length≤68719476736):∃ r:Nat,r≤x.length∧Ay x k ()=some ((r:Int),RF x r k)∧(NA x→am x k r r):=by
 obtain ⟨r,_,h2,h3,h4⟩:=jT x k hx x.length 0 x.length (by omega) (by omega) (Nat.le_refl _)
 refine ⟨r,h2,Ds (by unfold Bv; exact h3),fun ho=>h4 ho fun a ha=>⟨fun h=>by omega,fun h=>by omega⟩⟩
theorem Uq {x:List AT}:∀ (m i:Nat),Be x i m=true→∀ a,i≤a→a<i+m→a≠0→Op.bytesLess (x.getD (a-1) fI).1.toList (x.getD a fI).1.toList=true
 | 0,i,_,a,h1,h2,_=>by omega
 | m+1,i,h,a,h1,h2,h0=>by
  simp only [Be,Bool.and_eq_true,Bool.or_eq_true,decide_eq_true_eq] at h
  obtain ⟨⟨_,h3⟩,h4⟩:=h
  by_cases e:a=i
  ·subst e
   exact h3.resolve_left h0
  ·exact Uq m (i+1) h4 a (by omega) (by omega) h0
theorem Ur {x:List AT} (h:Be x 0 x.length=true):NA x:=by
 have st:=Uq _ _ h
 have:∀ d a (ha:a+d+1<x.length),Op.bytesLess (x.getD a fI).1.toList (x.getD (a+d+1) fI).1.toList=true:=by
  intro d
  induction d with
  | zero=>intro a ha; exact st (a+1) (by omega) (by omega) (by omega)
  | succ d ih =>
   intro a ha
   exact YU (ih a (by omega)) (st (a+(d+1)+1) (by omega) (by omega) (by omega))
 intro a b ha hb hab
 have:=this (b-a-1) a (by omega)
 rw [show a+(b-a-1)+1=b by omega,Ad ha,Ad hb] at this
 exact this
theorem jU {x:List AT} {k:ByteArray} {r:Nat} (hr:r≤x.length) (h:am x k r r):x.take r=x.filter (Tc k)∧x.drop r=x.filter (fun b=>!Tc k b):=by
 have e1:(x.take r).filter (Tc k)=x.take r:=List.filter_eq_self.2 fun b hb=>by
  obtain ⟨a,ha,rfl⟩:=List.getElem_of_mem hb
  rw [List.length_take] at ha
  rw [List.getElem_take]
  exact (h a (by omega)).1 (by omega)
 have e2:(x.drop r).filter (Tc k)=[]:=List.filter_eq_nil_iff.2 fun b hb=>by
  obtain ⟨a,ha,rfl⟩:=List.getElem_of_mem hb
  rw [List.length_drop] at ha
  rw [List.getElem_drop]
  have:=(h (r+a) (by omega)).2 (by omega)
  simp [this]
 have e3:(x.take r).filter (fun b=>!Tc k b)=[]:=List.filter_eq_nil_iff.2 fun b hb=>by
  obtain ⟨a,ha,rfl⟩:=List.getElem_of_mem hb
  rw [List.length_take] at ha
  rw [List.getElem_take]
  have:=(h a (by omega)).1 (by omega)
  simp [this]
 have e4:(x.drop r).filter (fun b=>!Tc k b)=x.drop r:=List.filter_eq_self.2 fun b hb=>by
  obtain ⟨a,ha,rfl⟩:=List.getElem_of_mem hb
  rw [List.length_drop] at ha
  rw [List.getElem_drop]
  have:=(h (r+a) (by omega)).2 (by omega)
  simp [this]
 have f1:x.filter (Tc k)=(x.take r).filter (Tc k)++(x.drop r).filter (Tc k):=by rw [← List.filter_append,List.take_append_drop]
 have f2:x.filter (fun b=>!Tc k b)=(x.take r).filter (fun b=>!Tc k b)++(x.drop r).filter (fun b=>!Tc k b):=by rw [← List.filter_append,List.take_append_drop]
 rw [f1,f2,e1,e2,e3,e4]
 simp
theorem j1 {x:List AT} {k:ByteArray} {r:Nat} (ho:NA x) (h:am x k r r) (j:Nat) (hj:j<x.length) (e:x[j].1.toList=k.toList):j=r:=by
 rcases Nat.lt_trichotomy j r with g | g | g
 ·have:=(h j hj).1 g
  simp only [Tc,e,aG] at this
  cases this
 ·exact g
 ·have h1:=ho r j (by omega) hj g
  have h2:=(h r (by omega)).2 (Nat.le_refl _)
  rw [e] at h1
  rw [show Tc k x[r]=true from h1] at h2
  cases h2
def YV (x:List AT) (a:AT):Bool:=x.any fun b=>(b.1.toList==a.1.toList)&&decide (b.2.2≥a.2.2)
def RG (k:ByteArray) (b:AT):Bool:=!(Op.bytesLess b.1.toList k.toList||(b.1.toList==k.toList))
def Wl (x:List AT) (a:AT):List AT:=x.filter (Tc a.1)++[a]++x.filter (RG a.1)
def Az (x:List AT):Bool:=Be x 0 x.length
def Cb (x:List AT) (a:AT):List AT:=if YV x a=true then x else if Az x=true then (if Az (Wl x a)=true then Wl x a else x) else x
theorem j3 {x:List AT} {k:ByteArray} {r:Nat} (hr:r≤x.length) (h:am x k r r):x.filter (RG k)=(x.drop r).filter fun b=>!(b.1.toList==k.toList):=by
 rw [(jU hr h).2,List.filter_filter]
 congr 1
 funext b
 simp only [RG,Tc,Bool.not_or]
 exact Bool.and_comm _ _
theorem Gi (x:List AT) (a:AT) (hx:x.length≤34359738367):FR x a=some (Cb x a):=ee (by
 have J4:∀ same out:List AT,out.length≤maxLen→Jo x a same out=some (if Az x=true then (if Az out=true then out else same) else same):=fun same out ho=>Xw (by
  unfold PG Az
  rw [Gh x (by unfold maxLen; omega),Gh out ho]
  cases Be x 0 x.length<;>cases Be out 0 out.length<;>simp)
 have L3:∀ same out:List AT,out.length≤x.length+1→DN x ((0:Nat):Int) a same out=some (if Az x=true then (if Az (out++(x.drop 0).filter (RG a.1))=true then out++(x.drop 0).filter (RG a.1) else same) else same):=by
  intro same out ho
  refine Gy (n:=x.length) (P:=fun i=>∀ out:List AT,out.length≤x.length+1+i→DN x (i:Int) a same out=some (if Az x=true then (if Az (out++(x.drop i).filter (RG a.1))=true then out++(x.drop i).filter (RG a.1) else same) else same)) (fun out ho=>PI ?_) (fun i hi ih out ho=>PI ?_) 0 (by omega) out ho
  ·unfold Jq
   rw [if_neg (by simp),J4 same out (by unfold maxLen; omega)]
   simp
  ·unfold Jq
   simp only [show ((i:Int)<(x.length:Int)) from by omega,decide_true,if_true,show (0:Int)≤(i:Int) from by omega,Int.toNat_natCast,Ad hi,AR (show i<9223372036854775807 by omega)]
   rw [Bp hi,List.filter_cons]
   change (if RG a.1 x[i]=true then _ else _)=_
   by_cases hh:RG a.1 x[i]=true
   ·rw [if_pos hh,if_pos (by simp; omega),ih _ (by simp; omega),if_pos hh,List.append_assoc]
    rfl
   ·rw [if_neg hh,ih _ (by omega),if_neg hh]
 have J2:∀ same out:List AT,out.length≤x.length→Jp x a same out=some (if Az x=true then (if Az (out++[a]++x.filter (RG a.1))=true then out++[a]++x.filter (RG a.1) else same) else same):=fun same out ho=>Xx (by
  unfold PH
  rw [if_pos (by simp; omega)]
  have:=L3 same (out++[a]) (by simp; omega)
  simpa using this)
 have L0:∀ same:List AT,DO x ((0:Nat):Int) a same []=some (if YV (x.drop 0) a=true then same else if Az x=true then (if Az (([]++(x.drop 0).filter (Tc a.1))++[a]++x.filter (RG a.1))=true then ([]++(x.drop 0).filter (Tc a.1))++[a]++x.filter (RG a.1) else same) else same):=by
  intro same
  refine Gy (n:=x.length) (P:=fun i=>∀ out:List AT,out.length≤i→DO x (i:Int) a same out=some (if YV (x.drop i) a=true then same else if Az x=true then (if Az ((out++(x.drop i).filter (Tc a.1))++[a]++x.filter (RG a.1))=true then (out++(x.drop i).filter (Tc a.1))++[a]++x.filter (RG a.1) else same) else same)) (fun out ho=>PJ ?_) (fun i hi ih out ho=>PJ ?_) 0 (by omega) [] (by simp)
  ·unfold Jr
   rw [if_neg (by simp),J2 same out ho]
   simp [YV]
  ·unfold Jr
   simp only [show ((i:Int)<(x.length:Int)) from by omega,decide_true,if_true,show (0:Int)≤(i:Int) from by omega,Int.toNat_natCast,Ad hi]
   have J1:∀ out:List AT,out.length≤i+1→GV x (i:Int) a same out=some (if YV (x.drop i) a=true then same else if Az x=true then (if Az ((out++(x.drop (i+1)).filter (Tc a.1))++[a]++x.filter (RG a.1))=true then (out++(x.drop (i+1)).filter (Tc a.1))++[a]++x.filter (RG a.1) else same) else same):=fun out ho=>Xv (by
    unfold PF
    simp only [show ((i:Int)<(x.length:Int)) from by omega,decide_true,if_true,show (0:Int)≤(i:Int) from by omega,Int.toNat_natCast,Ad hi,AR (show i<9223372036854775807 by omega),ih out ho]
    rw [Bp hi]
    rw [show YV (x[i]::x.drop (i+1)) a=(((x[i].1.toList==a.1.toList)&&decide (x[i].2.2≥a.2.2))||YV (x.drop (i+1)) a) from List.any_cons]
    generalize (x[i].1.toList==a.1.toList)=p
    generalize decide (x[i].2.2≥a.2.2)=q
    cases p<;>cases q<;>simp)
   rw [Bp hi,List.filter_cons]
   change (if Tc a.1 x[i]=true then _ else _)=_
   rw [Bp hi] at J1
   by_cases hh:Tc a.1 x[i]=true
   ·rw [if_pos hh,if_pos (by simp; omega),J1 _ (by simp; omega),if_pos hh]
    simp only [List.append_assoc,List.cons_append,List.nil_append]
   ·rw [if_neg hh,J1 _ (by omega),if_neg hh]
 unfold UT
 rw [if_pos (by simp; omega)]
 have:=L0 ([]++x)
 simpa [Cb,Wl] using this)
theorem mq {x:List AT} {a:AT} {r:Nat} (hr:r≤x.length) (ho:NA x) (h:am x a.1 r r):YV x a=(RF x r a.1&&decide ((x.getD r fI).2.2≥a.2.2)):=by
 unfold YV RF
 by_cases hl:r<x.length
 ·rw [List.getElem?_eq_getElem hl,Ad hl]
  rw [Bool.eq_iff_iff,List.any_eq_true]
  simp only [Bool.and_eq_true,beq_iff_eq,decide_eq_true_eq]
  refine ⟨fun ⟨b,hb,e,hv⟩=>?_,fun ⟨e,hv⟩=>⟨_,List.getElem_mem hl,e,hv⟩⟩
  obtain ⟨j,hj,rfl⟩:=List.getElem_of_mem hb
  have:=j1 ho h j hj e
  subst this
  exact ⟨e,hv⟩
 ·rw [List.getElem?_eq_none (by omega),Bool.false_and,List.any_eq_false]
  intro b hb
  obtain ⟨j,hj,rfl⟩:=List.getElem_of_mem hb
  intro hc
  simp only [Bool.and_eq_true,beq_iff_eq] at hc
  have:=j1 ho h j hj hc.1
  omega
theorem oI {x:List AT} {a:AT} {r:Nat} (hr:r≤x.length) (ho:NA x) (h:am x a.1 r r):Wl x a=if RF x r a.1=true then x.set r a else x.take r++[a]++x.drop r:=by
 unfold Wl
 rw [j3 hr h,← (jU hr h).1]
 have hk:∀ (j:Nat) (hj:j<x.length),j≠r→(x[j].1.toList==a.1.toList)=false:=fun j hj hne=>by
  cases q:(x[j].1.toList==a.1.toList) with
  | false=>rfl
  | true=>exact absurd (j1 ho h j hj (by simpa using q)) hne
 have tail:(x.drop (r+1)).filter (fun b=>!(b.1.toList==a.1.toList))=x.drop (r+1):=List.filter_eq_self.2 fun b hb=>by
  obtain ⟨j,hj,rfl⟩:=List.getElem_of_mem hb
  rw [List.length_drop] at hj
  rw [List.getElem_drop,hk (r+1+j) (by omega) (by omega)]
  rfl
 by_cases hl:r<x.length
 ·rw [Bp hl,List.filter_cons,tail]
  unfold RF
  rw [List.getElem?_eq_getElem hl]
  cases q:(x[r].1.toList==a.1.toList) with
  | true=>simp [q,List.set_eq_take_append_cons_drop,hl]
  | false=>simp [q]
 ·have:x.drop r=[]:=List.drop_eq_nil_of_le (by omega)
  rw [this]
  unfold RF
  rw [List.getElem?_eq_none (by omega)]
  simp
theorem Pc (x:List AT) (a:AT) (hx:x.length≤34359738367):Jb x a=some (Cb x a):=eu (by
 obtain ⟨r,hr,hs,hc⟩:=lY x a.1 (by omega)
 have ok:∀ y:List AT,y.length≤68719476736→ED y=some (Az y):=fun y hy=>KE y (by unfold maxLen; omega) Pb
 have J1:∀ y:List AT,y.length≤68719476736→GY x a y=some (if Az y=true then y else x):=fun y hy=>X6 (by
  unfold PP
  rw [ok y hy,An (by omega)]
  cases Az y<;>simp)
 have hl:RF x r a.1=true→r<x.length:=fun h=>by
  by_cases hl:r<x.length
  ·exact hl
  ·unfold RF at h
   rw [List.getElem?_eq_none (by omega)] at h
   cases h
 have J0:∀ b,Az x=true→GZ x (r:Int) (RF x r a.1) b a x=some (if Az (Wl x a)=true then Wl x a else x):=fun b hok=>X7 (by
  unfold PQ
  rw [oI hr (Ur hok) (hc (Ur hok))]
  cases hh:RF x r a.1 with
  | true =>
   have:=hl hh
   simp only [if_true,show (0:Int)≤(r:Int) from by omega,show ((r:Int)<(x.length:Int)) from by omega,Int.toNat_natCast]
   rw [J1 _ (by simp; omega)]
  | false =>
   rw [if_neg (by simp),Hh (by simp; omega) hr (by simp),Option.bind_some,J1 _ (by simp; omega)]
   simp)
 unfold UZ
 rw [An (by omega),Option.bind_some,hs,Option.bind_some,ok x (by omega),Option.bind_some]
 cases hok:Az x with
 | false=>simp [Cb,hok]
 | true =>
  have hst:=mq hr (Ur hok) (hc (Ur hok))
  have j0:=J0
  unfold Cb
  rw [hst,hok]
  cases hh:RF x r a.1 with
  | false =>
   have:=J0 false hok
   rw [hh] at this
   simp [this]
  | true =>
   have hlr:=hl hh
   have:=J0 false hok
   rw [hh] at this
   simp only [if_true,show (0:Int)≤(r:Int) from by omega,show ((r:Int)<(x.length:Int)) from by omega,Int.toNat_natCast,Bool.true_and]
   cases q:decide ((x.getD r fI).2.2≥a.2.2) with
   | true=>simp
   | false=>simp [this])
end Go.Proofs.YtaedipailemlcaaGreat.Core

namespace Go.Proofs.YtaedipailemlcaaGreat.Core
open Go
set_option linter.unusedVariables false
abbrev E8:Type:=List Int×Int×Int
def H_ (d:E8):Prop:=0≤d.2.1∧d.1.length≤maxLen
theorem an (a:Int):0≤Iz .i64 a 255∧Iz .i64 a 255≤255:=by
 unfold Iz
 have h:(BitVec.ofInt (IntKind.bits .i64) a &&& BitVec.ofInt (IntKind.bits .i64) 255).toNat≤255:=by
  rw [BitVec.toNat_and]
  refine Nat.le_trans Nat.and_le_right ?_
  decide
 rw [AZ (by omega)]
 omega
theorem Ew (d:E8) (h:H_ d):∃ b d',EE d=some (b,d')∧H_ d'∧0≤b∧b≤255:=by
 have hm:d.1.length≤9223372036854775807:=h.2
 have hp:=h.1
 suffices g:∃ b d',Nr d=some (b,d')∧H_ d'∧0≤b∧b≤255 from g.imp fun b g=>g.imp fun d' g=>⟨en g.1,g.2⟩
 unfold Nr
 rw [if_neg (by omega),if_neg (by omega)]
 by_cases h1:d.2.1<(d.1.length:Int)
 ·rw [if_pos (by simpa using h1),if_pos hp,if_pos h1]
  refine ⟨_,_,rfl,⟨?_,h.2⟩,an _⟩
  show 0≤IntKind.i64.wrap (d.2.1+1)
  rw [AZ (by omega)]
  omega
 ·rw [if_neg (by simpa using h1)]
  exact ⟨_,_,rfl,h,an _⟩
theorem AL (n:Int) (d:E8) (h:H_ d):∃ v d',AS n d=some (v,d')∧H_ d'∧0≤v∧(0<n→v<n):=by
 suffices g:∃ b d',MK n d=some (b,d')∧H_ d'∧0≤b∧(0<n→b<n) from g.imp fun b g=>g.imp fun d' g=>⟨bn g.1,g.2⟩
 unfold MK
 by_cases h1:n≤0
 ·exact ⟨0,d,by rw [if_pos (by simpa using h1)],h,by omega,by omega⟩
 ·rw [if_neg (by simpa using h1)]
  by_cases h2:n≤256
  ·obtain ⟨b,d1,e1,k1,b0,b1⟩:=Ew d h
   refine ⟨_,_,by rw [if_pos (by simpa using h2),e1,Option.bind_some,if_neg (by omega)],k1,Int.tmod_nonneg _ b0,fun _=>Int.tmod_lt_of_pos _ (by omega)⟩
  ·obtain ⟨b1,d1,e1,k1,b10,b11⟩:=Ew d h
   obtain ⟨b2,d2,e2,k2,b20,b21⟩:=Ew d1 k1
   obtain ⟨b3,d3,e3,k3,b30,b31⟩:=Ew d2 k2
   obtain ⟨b4,d4,e4,k4,b40,b41⟩:=Ew d3 k3
   refine ⟨_,_,by rw [if_neg (by simpa using h2),e1,Option.bind_some,e2,Option.bind_some,e3,Option.bind_some,e4,Option.bind_some,if_neg (by omega)],k4,Int.tmod_nonneg _ ?_,fun _=>Int.tmod_lt_of_pos _ (by omega)⟩
   rw [AZ (n:=b1*16777216) (by omega),AZ (n:=b2*65536) (by omega),AZ (n:=b3*256) (by omega),AZ (n:=b1*16777216+b2*65536) (by omega),AZ (n:=b1*16777216+b2*65536+b3*256) (by omega),AZ (by omega)]
   omega
theorem Ex (n:Int) (d:E8) (h:H_ d):∃ v d',B_ n d=some (v,d')∧H_ d':=by
 obtain ⟨v,d',e,k,_⟩:=AL n d h
 exact ⟨_,_,ed (by unfold US; rw [e,Option.bind_some]),k⟩
theorem B0 (x:List Int) (hx:0<x.length) (d:E8) (h:H_ d):∃ v d',Bu x d=some (v,d')∧H_ d'∧v∈x:=by
 obtain ⟨v,d',e,k,v0,v1⟩:=AL (x.length:Int) d h
 have v1:=v1 (by omega)
 have hv:v.toNat<x.length:=by omega
 exact ⟨_,_,YI (by unfold PV; rw [e,Option.bind_some,if_pos v0,if_pos v1]),k,by rw [Ad hv]; exact List.getElem_mem hv⟩
theorem aH (x:List Int) (h:x.length≤maxLen):∃ d,Pj x=some d∧H_ d:=by
 have hm:x.length≤9223372036854775807:=h
 have key:=Gy (n:=x.length) (P:=fun i=>∀ a,∃ d,HB x a (i:Int)=some d∧H_ d) (fun a=>⟨(x,0,a),Kv (by
  unfold HC
  rw [if_neg (by simp)]),⟨Int.le_refl _,h⟩⟩) (fun i hi ih a=>by
  by_cases h4:(i:Int)<4000
  ·obtain ⟨d,e,k⟩:=ih (Iz .i64 (IntKind.i64.wrap ((IntKind.i64.wrap ((IntKind.i64.wrap (a*(131:Int)))+(IntKind.i64.wrap (x.getD (i:Int).toNat (0:Int)))))+(7:Int))) (1073741823:Int))
   refine ⟨d,Kv ?_,k⟩
   unfold HC
   rw [if_pos (by simpa using hi),if_pos (by simpa using h4)]
   refine ZS ?_
   unfold Qi
   rw [if_pos (by omega),if_pos (by omega),AR (show i<9223372036854775807 by omega)]
   exact e
  ·refine ⟨(x,0,a),Kv ?_,⟨Int.le_refl _,h⟩⟩
   unfold HC
   rw [if_pos (by simpa using hi),if_neg (by simpa using h4)]) 0 (by omega)
 obtain ⟨d,e,k⟩:=key (IntKind.i64.wrap ((14301:Int)+(x.length:Int)))
 exact ⟨d,f5 e,k⟩
end Go.Proofs.YtaedipailemlcaaGreat.Core

namespace Go.Proofs.YtaedipailemlcaaGreat.Core
open Go
set_option linter.unusedVariables false
theorem Pw {x:List AT}:∀ (m i:Nat),i+m=x.length→(Be x i m=true↔(∀ a (ha:a<x.length),i≤a→Pa x[a]=true∧(a≠0→Op.bytesLess (x.getD (a-1) fI).1.toList x[a].1.toList=true))∧x.length≤12)
 | 0,i,h=>by
  simp only [Be,decide_eq_true_eq]
  refine ⟨fun h2=>⟨fun a ha hi=>by omega,by omega⟩,fun h2=>by have:=h2.2; omega⟩
 | m+1,i,h=>by
  have hi:i<x.length:=by omega
  rw [Be,Bool.and_eq_true,Bool.and_eq_true,Pw m (i+1) (by omega),Ad hi]
  simp only [Bool.or_eq_true,decide_eq_true_eq]
  constructor
  ·rintro ⟨⟨h1,h2⟩,h3,h4⟩
   refine ⟨fun a ha hia=>?_,h4⟩
   by_cases e:a=i
   ·subst e
    exact ⟨h1,fun h0=>h2.resolve_left h0⟩
   ·exact h3 a ha (by omega)
  ·rintro ⟨h3,h4⟩
   refine ⟨⟨(h3 i hi (Nat.le_refl _)).1,?_⟩,fun a ha hia=>h3 a ha (by omega),h4⟩
   by_cases e:i=0
   ·exact .inl e
   ·exact .inr ((h3 i hi (Nat.le_refl _)).2 e)
theorem Lz {x:List AT}:Az x=true↔(∀ b∈x,Pa b=true)∧NA x∧x.length≤12:=by
 constructor
 ·intro h
  have h1:=(Pw x.length 0 (by omega)).1 h
  refine ⟨fun b hb=>?_,Ur h,h1.2⟩
  obtain ⟨a,ha,rfl⟩:=List.getElem_of_mem hb
  exact (h1.1 a ha (Nat.zero_le _)).1
 ·rintro ⟨h1,h2,h3⟩
  refine (Pw x.length 0 (by omega)).2 ⟨fun a ha _=>⟨h1 _ (List.getElem_mem ha),fun h0=>?_⟩,h3⟩
  rw [Ad (show a-1<x.length by omega)]
  exact h2 (a-1) a (by omega) ha (by omega)
theorem lZ {x:List AT}:NA x↔x.Pairwise fun b c=>Op.bytesLess b.1.toList c.1.toList=true:=by
 rw [List.pairwise_iff_getElem]
 rfl
theorem mr (x:List AT) (a:AT):(Wl x a).length≤x.length+1:=by
 have h1:(x.filter (RG a.1)).length≤(x.filter fun b=>!Tc a.1 b).length:=by
  rw [← List.countP_eq_length_filter,← List.countP_eq_length_filter]
  refine List.countP_mono_left fun b _ hb=>?_
  simp only [RG,Tc,Bool.not_eq_true',Bool.or_eq_false_iff] at hb ⊢
  exact hb.1
 have h2:(x.filter (Tc a.1)).length+(x.filter fun b=>!Tc a.1 b).length=x.length:=by
  rw [← List.countP_eq_length_filter,← List.countP_eq_length_filter]
  have:=List.length_eq_countP_add_countP (Tc a.1) (l:=x)
  rw [this]
  congr 2
  funext b
  cases Tc a.1 b<;>rfl
 simp only [Wl,List.length_append,List.length_cons,List.length_nil]
 omega
theorem mt {x:List AT} {a:AT}:a∈Wl x a:=by simp [Wl]
theorem pg {x:List AT} {a b:AT} (h:b∈Wl x a):b=a∨b∈x:=by
 simp only [Wl,List.mem_append,List.mem_filter,List.mem_singleton] at h
 rcases h with (h | h) | h
 ·exact .inr h.1
 ·exact .inl h
 ·exact .inr h.1
theorem j4 {x:List AT} {a b:AT} (h:b∈x) (hk:(b.1.toList==a.1.toList)=false):b∈Wl x a:=by
 simp only [Wl,List.mem_append,List.mem_filter,List.mem_singleton]
 cases q:Tc a.1 b with
 | true=>exact .inl (.inl ⟨h,rfl⟩)
 | false =>
  refine .inr ⟨h,?_⟩
  unfold RG
  rw [show Op.bytesLess b.1.toList a.1.toList=false from q,hk]
  rfl
theorem Rz {x:List AT} (ho:NA x) {b:AT} (hb:b∈x):Fa x b.1=b:=by
 obtain ⟨j,hj,rfl⟩:=List.getElem_of_mem hb
 have:x.find? (fun a=>a.1.toList==x[j].1.toList)=some x[j]:=by
  rw [List.find?_eq_some_iff_getElem]
  refine ⟨by simp,j,hj,rfl,fun i hi=>?_⟩
  have:=ho i j (by omega) hj hi
  cases q:(x[i].1.toList==x[j].1.toList) with
  | false=>rfl
  | true =>
   rw [beq_iff_eq] at q
   rw [q,aG] at this
   cases this
 unfold Fa
 rw [this]
 rfl
theorem Ey (x:List ByteArray) (hx:0<x.length) (d:E8) (h:H_ d):∃ v d',EF x d=some (v,d')∧H_ d'∧v∈x:=by
 obtain ⟨v,d',e,k,v0,v1⟩:=AL (x.length:Int) d h
 have v1:=v1 (by omega)
 have hv:v.toNat<x.length:=by omega
 exact ⟨_,_,fD (by unfold Uk; rw [e,Option.bind_some,if_pos v0,if_pos v1]),k,by rw [Ad hv]; exact List.getElem_mem hv⟩
theorem KF (d:E8) (h:H_ d):∃ a d',Gs d=some (a,d')∧H_ d'∧Pa a=true:=by
 obtain ⟨k,d1,e1,k1,m1⟩:=Ey [(⟨#[97]⟩:ByteArray),(⟨#[98]⟩:ByteArray),(⟨#[99]⟩:ByteArray),(⟨#[100]⟩:ByteArray),(⟨#[101]⟩:ByteArray),(⟨#[102]⟩:ByteArray),(⟨#[103]⟩:ByteArray),(⟨#[104]⟩:ByteArray),(⟨#[107,49]⟩:ByteArray),(⟨#[107,50]⟩:ByteArray),(⟨#[107,51]⟩:ByteArray),(⟨#[107,101,121]⟩:ByteArray)] (by simp) d h
 obtain ⟨v,d2,e2,k2,m2⟩:=Ey [(⟨#[]⟩:ByteArray),(⟨#[118]⟩:ByteArray),(⟨#[119]⟩:ByteArray),(⟨#[120,120]⟩:ByteArray),(⟨#[121,121,121]⟩:ByteArray)] (by simp) d1 k1
 obtain ⟨n,d3,e3,k3,n0,n1⟩:=AL 30 d2 k2
 have n1:=n1 (by omega)
 have f1:Pn d=some (k,d1):=gD (by unfold Vs; rw [e1]; rfl)
 have f2:Po d1=some (v,d2):=gE (by unfold Vt; rw [e2]; rfl)
 refine ⟨(k,v,1001+n),d3,fE (by unfold Un; rw [f1,Option.bind_some,f2,Option.bind_some,e3,Option.bind_some,AZ (n:=1001+n) (by omega)]),k3,?_⟩
 have hk:∀ k∈[(⟨#[97]⟩:ByteArray),(⟨#[98]⟩:ByteArray),(⟨#[99]⟩:ByteArray),(⟨#[100]⟩:ByteArray),(⟨#[101]⟩:ByteArray),(⟨#[102]⟩:ByteArray),(⟨#[103]⟩:ByteArray),(⟨#[104]⟩:ByteArray),(⟨#[107,49]⟩:ByteArray),(⟨#[107,50]⟩:ByteArray),(⟨#[107,51]⟩:ByteArray),(⟨#[107,101,121]⟩:ByteArray)],1≤k.size∧k.size≤12:=by decide
 have hv:∀ k∈[(⟨#[]⟩:ByteArray),(⟨#[118]⟩:ByteArray),(⟨#[119]⟩:ByteArray),(⟨#[120,120]⟩:ByteArray),(⟨#[121,121,121]⟩:ByteArray)],k.size≤20:=by decide
 have a1:=hk k m1
 have a2:=hv v m2
 simp only [Pa,Bool.and_eq_true,decide_eq_true_eq]
 omega
theorem Wm {x:List AT} {a:AT} (h:Az x=true):Az (Cb x a)=true:=by
 unfold Cb
 rw [if_pos h]
 split
 ·exact h
 ·split
  ·assumption
  ·exact h
theorem aq (x:List AT) (a:AT):(Cb x a).length≤x.length+1:=by
 have:=mr x a
 unfold Cb
 (repeat' split)<;>omega
theorem Ny (d:E8) (h:H_ d):∃ x d',H5 d=some (x,d')∧H_ d'∧Az x=true∧x.length≤5:=by
 have key:=Gy (n:=5) (P:=fun i=>∀ (d:E8) (x:List AT),H_ d→Az x=true→x.length≤i→∃ y d',Fv (i:Int) d x=some (y,d')∧H_ d'∧Az y=true∧y.length≤5)
  (fun d x hd hx hl=>by
   obtain ⟨v,d1,e1,k1,v0,v1⟩:=AL 6 d hd
   have v1:=v1 (by omega)
   refine ⟨x,d1,IW ?_,k1,hx,hl⟩
   unfold Fw
   rw [e1,Option.bind_some,if_neg (by simp; omega)])
  (fun i hi ih d x hd hx hl=>by
   obtain ⟨v,d1,e1,k1,v0,v1⟩:=AL 6 d hd
   by_cases hv:(i:Int)<v
   ·obtain ⟨a,d2,e2,k2,o2⟩:=KF d1 k1
    obtain ⟨y,d3,e3,k3⟩:=ih d2 (Cb x a) k2 (Wm hx) (by have:=aq x a; omega)
    refine ⟨y,d3,IW ?_,k3⟩
    unfold Fw
    rw [e1,Option.bind_some,if_pos (by simpa using hv),e2,Option.bind_some,Gi x a (by omega),Option.bind_some,AR (by omega)]
    exact e3
   ·refine ⟨x,d1,IW ?_,k1,hx,by omega⟩
    unfold Fw
    rw [e1,Option.bind_some,if_neg (by simpa using hv)]) 0 (by omega) d [] h (by decide) (by simp)
 obtain ⟨y,d',e,k⟩:=key
 exact ⟨y,d',cK (by unfold S9; exact e),k⟩
end Go.Proofs.YtaedipailemlcaaGreat.Core

namespace Go.Proofs.YtaedipailemlcaaGreat.Core
open Go
set_option linter.unusedVariables false
end Go.Proofs.YtaedipailemlcaaGreat.Core

namespace Go.Proofs.YtaedipailemlcaaGreat.Core
open Go
set_option linter.unusedVariables false
theorem CG (x:List Int) (n:Int) (h:x.length≤maxLen):C4 x n=some (x.contains n):=iU (by
 have hm:x.length≤9223372036854775807:=h
 unfold Xr
 have:=Gy (n:=x.length) (P:=fun i=>H9 x n (i:Int)=some ((x.drop i).contains n)) (Sz (by
  unfold MN
  rw [if_neg (by simp),List.drop_length]
  rfl)) (fun i hi ih=>Sz (by
  unfold MN
  simp only [show ((i:Int)<(x.length:Int)) from by omega,decide_true,if_true,show (0:Int)≤(i:Int) from by omega,Int.toNat_natCast,Ad hi,AR (show i<9223372036854775807 by omega)]
  rw [Bp hi,List.contains_cons,ih]
  by_cases e:x[i]=n
  ·subst e
   simp
  ·simp [e,Ne.symm e])) 0 (by omega)
 simpa using this)
theorem pH (x:List Int) (i:Nat) (hi:i<x.length) (h:x.length≤maxLen):∃ r,CY x x[i]=some r∧((r=(i:Int))↔x[i]∉x.take i):=by
 have hm:x.length≤9223372036854775807:=h
 have key:=Gy (n:=i) (P:=fun k=>∃ r,B4 x x[i] (x.length:Int) (k:Int)=some r∧(k:Int)≤r∧((r=(i:Int))↔∀ m (hm:m<i),k≤m→x[m]≠x[i])) ⟨i,Bd (by
  unfold BG
  simp only [show ((i:Int)<(x.length:Int)) from by omega,decide_true,if_true,show (0:Int)≤(i:Int) from by omega,Int.toNat_natCast,Ad hi]
  simp),by omega,⟨fun _ m hm hk=>by omega,fun _=>rfl⟩⟩ (fun k hk ⟨r,hr,hkr,hiff⟩=>by
  have hk2:k<x.length:=by omega
  by_cases e:x[i]=x[k]
  ·refine ⟨k,Bd ?_,by omega,⟨fun he=>by omega,fun hall=>absurd e.symm (hall k hk (by omega))⟩⟩
   unfold BG
   simp only [show ((k:Int)<(x.length:Int)) from by omega,decide_true,if_true,show (0:Int)≤(k:Int) from by omega,Int.toNat_natCast,Ad hk2]
   rw [if_pos (by simpa using e)]
  ·refine ⟨r,Bd ?_,by omega,hiff.trans ⟨fun hall m hm hkm=>?_,fun hall m hm hkm=>hall m hm (by omega)⟩⟩
   ·unfold BG
    simp only [show ((k:Int)<(x.length:Int)) from by omega,decide_true,if_true,show (0:Int)≤(k:Int) from by omega,Int.toNat_natCast,Ad hk2,AR (show k<9223372036854775807 by omega)]
    rw [if_neg (by simpa using e)]
    exact hr
   ·rcases Nat.lt_or_ge k m with h1 | h1
    ·exact hall m hm h1
    ·have:m=k:=by omega
     subst this
     exact fun h=>e h.symm) 0 (by omega)
 obtain ⟨r,hr,_,hiff⟩:=key
 refine ⟨r,Jt hr,hiff.trans ⟨fun hall hmem=>?_,fun hn m hm _ he=>hn ?_⟩⟩
 ·obtain ⟨m,hm,he⟩:=List.mem_take_iff_getElem.1 hmem
  exact hall m (by omega) (by omega) he
 ·exact List.mem_take_iff_getElem.2 ⟨m,by omega,he⟩
def F_ (v:List Int) (i:Nat):Nat→Bool
 | 0=>true
 | k+1=>(decide (1≤v.getD i 0)&&decide (v.getD i 0≤6))&&!(v.take i).contains (v.getD i 0)&&F_ v (i+1) k
def R0 (v:List Int):Bool:=(decide (1≤(v.length:Int))&&decide ((v.length:Int)≤4))&&F_ v 0 v.length
def D9 (x:List (List Int)) (n:Nat):List (List Int)→Bool
 | []=>decide (1≤(n:Int))&&decide ((n:Int)≤9)
 | v::r=>R0 v&&D9 x n r
theorem YW (v:List Int) (h:v.length≤maxLen):NV v=some (R0 v):=er (by
 have hm:v.length≤9223372036854775807:=h
 unfold UX R0
 simp only [Ah,Option.bind_some]
 have:=Gy (n:=v.length) (P:=fun i=>GW v (i:Int)=some (F_ v i (v.length-i))) (PN (by
  unfold Jx
  rw [if_neg (by simp),Nat.sub_self]
  rfl)) (fun i hi ih=>PN (by
  unfold Jx
  have e:v.length-i=(v.length-(i+1))+1:=by omega
  rw [e,F_]
  simp only [show ((i:Int)<(v.length:Int)) from by omega,show ((i:Int)≤(v.length:Int)) from by omega,decide_true,if_true,show (0:Int)≤(i:Int) from by omega,Int.toNat_natCast,Ah,Option.bind_some,AR (show i<9223372036854775807 by omega),ih,Int.toNat_zero,List.drop_zero,Int.le_refl,
   CG (v.take i) _ (by rw [List.length_take]; omega)]
  generalize (decide (1≤v.getD i 0)&&decide (v.getD i 0≤6))=a
  generalize (v.take i).contains (v.getD i 0)=b
  cases a<;>cases b<;>simp)) 0 (by omega)
 simp only [Int.ofNat_zero,Nat.sub_zero] at this
 generalize (decide (1≤(v.length:Int))&&decide ((v.length:Int)≤4))=a
 cases a
 ·simp
 ·simpa using this)
theorem YX (x:List (List Int)) (h:x.length≤maxLen) (ho:∀ a∈x,a.length≤maxLen):DH x=some (D9 x x.length x):=eT (by
 have hm:x.length≤9223372036854775807:=h
 unfold UJ
 exact Gy (n:=x.length) (P:=fun i=>GU x (i:Int)=some (D9 x x.length (x.drop i))) (PB (by
  unfold Jl
  rw [if_neg (by simp),List.drop_length,Ah]
  rfl)) (fun i hi ih=>PB (by
  unfold Jl
  simp only [show ((i:Int)<(x.length:Int)) from by omega,decide_true,if_true,show (0:Int)≤(i:Int) from by omega,Int.toNat_natCast,Ad hi,YW x[i] (ho _ (List.getElem_mem _)),Option.bind_some,AR (show i<9223372036854775807 by omega),ih]
  rw [Bp hi,D9]
  generalize R0 x[i]=a
  cases a<;>simp)) 0 (by omega))
theorem YY (x:List (List Int)) (h:x.length≤maxLen) (ho:∀ a∈x,a.length≤maxLen):JY x=some (D9 x x.length x):=eP (by
 have hm:x.length≤9223372036854775807:=h
 unfold UG
 exact Gy (n:=x.length) (P:=fun i=>GT x x (x.length:Int) (i:Int)=some (D9 x x.length (x.drop i))) (PA (by
  unfold Jk
  rw [if_neg (by simp),List.drop_length,Bw]
  rfl)) (fun i hi ih=>PA (by
  unfold Jk
  simp only [show ((i:Int)<(x.length:Int)) from by omega,decide_true,if_true,show (0:Int)≤(i:Int) from by omega,Int.toNat_natCast,Ad hi]
  rw [Bp hi,D9]
  have hv:=ho x[i] (List.getElem_mem _)
  generalize x[i]=v at hv
  have hvm:v.length≤9223372036854775807:=hv
  have wj:Ji x v x (x.length:Int) (i:Int)=some ((decide (1≤(v.length:Int))&&decide ((v.length:Int)≤4))&&D9 x x.length (x.drop (i+1))):=Xo (by
   unfold O9
   rw [Bw,Option.bind_some,AR (show i<9223372036854775807 by omega),ih]
   generalize (decide (1≤(v.length:Int))&&decide ((v.length:Int)≤4))=a
   cases a<;>simp)
  have:=Gy (n:=v.length) (P:=fun j=>GS x v x (x.length:Int) (i:Int) v (v.length:Int) (j:Int)=some (F_ v j (v.length-j)&&((decide (1≤(v.length:Int))&&decide ((v.length:Int)≤4))&&D9 x x.length (x.drop (i+1))))) (O_ (by
   unfold Jj
   rw [if_neg (by simp),Nat.sub_self,wj]
   rfl)) (fun j hj ihj=>O_ (by
   unfold Jj
   have e:v.length-j=(v.length-(j+1))+1:=by omega
   obtain ⟨r,hr,hiff⟩:=pH v j hj hv
   rw [e,F_]
   simp only [show ((j:Int)<(v.length:Int)) from by omega,decide_true,if_true,show (0:Int)≤(j:Int) from by omega,Int.toNat_natCast,LH,Option.bind_some,AR (show j<9223372036854775807 by omega),ihj,Ad hj,hr]
   have hb:(r != (j:Int))=(v.take j).contains v[j]:=by
    by_cases e2:r=(j:Int)
    ·have:=hiff.1 e2
     simp [e2,this]
    ·have:v[j]∈v.take j:=Classical.byContradiction fun hn=>e2 (hiff.2 hn)
     simp [e2,this]
   rw [hb]
   generalize (decide (1≤v[j])&&decide (v[j]≤6))=a
   generalize (v.take j).contains v[j]=b
   cases a<;>cases b<;>simp)) 0 (by omega)
  simp only [Int.ofNat_zero,Nat.sub_zero] at this
  unfold R0
  refine Eq.trans this ?_
  congr 1
  generalize F_ v 0 v.length=a
  generalize (decide (1≤(v.length:Int))&&decide ((v.length:Int)≤4))=b
  cases a<;>cases b<;>simp)) 0 (by omega))
end Go.Proofs.YtaedipailemlcaaGreat.Core

namespace Go.Proofs.YtaedipailemlcaaGreat.Core
open Go
set_option linter.unusedVariables false
abbrev kV:Type:=Int×Int×Int×(ByteArray×ByteArray×Int)×List Int
abbrev AB:Type:=Int×Int×Bool×Bool×Bool×Bool×List Int×List (ByteArray×ByteArray×Int)×Int×kV
def EL (v:List Int) (i:Nat):Nat→Bool
 | 0=>true
 | k+1=>(decide (1≤v.getD i 0)&&decide (v.getD i 0≤6))&&(decide (i=0)||decide (v.getD (i-1) 0<v.getD i 0))&&EL v (i+1) k
theorem RH (x:List Int) (h:x.length≤maxLen):CS x=some (EL x 0 x.length):=f_ (by
 have hm:x.length≤9223372036854775807:=h
 unfold Vo
 have:=Gy (n:=x.length) (P:=fun i=>FV x (i:Int)=some (EL x i (x.length-i))) (Q2 (by
  unfold K6
  rw [if_neg (by simp),Nat.sub_self]
  rfl)) (fun i hi ih=>Q2 (by
  unfold K6
  have e:x.length-i=(x.length-(i+1))+1:=by omega
  simp only [show ((i:Int)<(x.length:Int)) from by omega,decide_true,if_true,show (0:Int)≤(i:Int) from by omega,Int.toNat_natCast,AR (show i<9223372036854775807 by omega),ih,Ah,Option.bind_some]
  rw [e,EL]
  generalize (decide (1≤x.getD i 0)&&decide (x.getD i 0≤6))=a
  cases a
  ·simp
  by_cases h0:0<i
  ·rw [U8 (by omega) h0]
   simp only [Int.toNat_natCast,show ((0:Int)≤((i-1:Nat):Int)) from by omega,show (((i-1:Nat):Int)<(x.length:Int)) from by omega,if_true]
   rcases Int.lt_or_le (x.getD (i-1) 0) (x.getD i 0) with hb | hb
   ·have d1:decide (x.getD (i-1) 0≥x.getD i 0)=false:=decide_eq_false (by omega)
    have d2:decide (x.getD (i-1) 0<x.getD i 0)=true:=decide_eq_true hb
    simp only [d1,d2]
    simp [h0,show i≠0 by omega]
   ·have d1:decide (x.getD (i-1) 0≥x.getD i 0)=true:=decide_eq_true (by omega)
    have d2:decide (x.getD (i-1) 0<x.getD i 0)=false:=decide_eq_false (by omega)
    simp only [d1,d2]
    simp [h0,show i≠0 by omega]
  ·have:i=0:=by omega
   subst this
   simp)) 0 (by omega)
 simpa using this)
theorem Kg (x:List Int) (h:x.length≤maxLen):Fk x 1 6=some (EL x 0 x.length):=WU (by
 have hm:x.length≤9223372036854775807:=h
 unfold Ni
 have:=Gy (n:=x.length) (P:=fun i=>Cn x 1 6 x (x.length:Int) (i:Int)=some (EL x i (x.length-i))) (KX (by
  unfold GE
  rw [if_neg (by simp),Nat.sub_self]
  rfl)) (fun i hi ih=>KX (by
  unfold GE
  have e:x.length-i=(x.length-(i+1))+1:=by omega
  simp only [show ((i:Int)<(x.length:Int)) from by omega,decide_true,if_true,show (0:Int)≤(i:Int) from by omega,Int.toNat_natCast,AR (show i<9223372036854775807 by omega),ih,Bw,Option.bind_some]
  rw [e,EL]
  generalize (decide (1≤x.getD i 0)&&decide (x.getD i 0≤6))=a
  cases a
  ·simp
  by_cases h0:0<i
  ·rw [U8 (by omega) h0]
   simp only [Int.toNat_natCast,show ((0:Int)≤((i-1:Nat):Int)) from by omega,show (((i-1:Nat):Int)<(x.length:Int)) from by omega,if_true]
   rcases Int.lt_or_le (x.getD (i-1) 0) (x.getD i 0) with hb | hb
   ·have d1:decide (x.getD i 0≤x.getD (i-1) 0)=false:=decide_eq_false (by omega)
    have d2:decide (x.getD (i-1) 0<x.getD i 0)=true:=decide_eq_true hb
    simp only [d1,d2]
    simp [h0,show i≠0 by omega]
   ·have d1:decide (x.getD i 0≤x.getD (i-1) 0)=true:=decide_eq_true (by omega)
    have d2:decide (x.getD (i-1) 0<x.getD i 0)=false:=decide_eq_false (by omega)
    simp only [d1,d2]
    simp [h0,show i≠0 by omega]
  ·have:i=0:=by omega
   subst this
   simp)) 0 (by omega)
 simpa using this)
def HZ (t:kV):Bool:=(t.1==0)&&(t.2.1==0)&&(t.2.2.1==0)&&Yp (.pair .str (.pair .str (.int .i64))) t.2.2.2.1 (ByteArray.empty,ByteArray.empty,(0:Int))&&((t.2.2.2.2.length:Int)==0)
def EM (t:kV) (serves:Bool):Bool:=(t.1==1||t.1==2)&&serves&&(decide (0≤t.2.1)&&decide (t.2.1≤1000))&&(decide (1≤t.2.2.1)&&decide (t.2.2.1≤900))
def RI (x:AB):Bool :=
 (decide (1≤x.1)&&decide (x.1≤6))&&(decide (1≤x.2.1)&&decide (x.2.1≤9))&&(!x.2.2.2.2.2.1||(x.2.2.2.1&&x.2.2.2.2.1&&!decide ((x.2.2.2.2.2.2.1.length:Int)>0)))&&(!x.2.2.1||(!x.2.2.2.1&&!x.2.2.2.2.1)) &&
  EL x.2.2.2.2.2.2.1 0 x.2.2.2.2.2.2.1.length&&EL x.2.2.2.2.2.2.2.2.2.2.2.2.2 0 x.2.2.2.2.2.2.2.2.2.2.2.2.2.length&&Be x.2.2.2.2.2.2.2.1 0 x.2.2.2.2.2.2.2.1.length&&(decide (0≤x.2.2.2.2.2.2.2.2.1)&&decide (x.2.2.2.2.2.2.2.2.1≤900)) &&
  (HZ x.2.2.2.2.2.2.2.2.2||EM x.2.2.2.2.2.2.2.2.2 x.2.2.2.2.2.1)
theorem VX (t:kV):Kr t=some (HZ t):=Zx (by
 unfold Q3 HZ
 generalize (t.1==0)=a
 generalize (t.2.1==0)=b
 generalize (t.2.2.1==0)=c
 generalize Yp (.pair .str (.pair .str (.int .i64))) t.2.2.2.1 (ByteArray.empty,ByteArray.empty,(0:Int))=d
 cases a<;>cases b<;>cases c<;>cases d<;>simp)
theorem Wn (x:AB) (h1:x.2.2.2.2.2.2.1.length≤maxLen) (h2:x.2.2.2.2.2.2.2.1.length≤maxLen) (h3:x.2.2.2.2.2.2.2.2.2.2.2.2.2.length≤maxLen):EZ x=some (RI x):=br (by
 have w0:∀ b,Cv b x=some (HZ x.2.2.2.2.2.2.2.2.2||EM x.2.2.2.2.2.2.2.2.2 x.2.2.2.2.2.1):=fun b=>WT (by
  unfold Nh EM
  simp only [Ah,VX,Option.bind_some]
  generalize HZ x.2.2.2.2.2.2.2.2.2=a
  generalize (x.2.2.2.2.2.2.2.2.2.1==1)=b
  generalize (x.2.2.2.2.2.2.2.2.2.1==2)=c
  generalize x.2.2.2.2.2.1=d
  generalize (decide (0≤x.2.2.2.2.2.2.2.2.2.2.1)&&decide (x.2.2.2.2.2.2.2.2.2.2.1≤1000))=e
  generalize (decide (1≤x.2.2.2.2.2.2.2.2.2.2.2.1)&&decide (x.2.2.2.2.2.2.2.2.2.2.2.1≤900))=f
  cases a<;>cases b<;>cases c<;>cases d<;>cases e<;>simp)
 unfold Sx RI
 simp only [Ah,RH _ h1,RH _ h3,Gh _ h2,Option.bind_some,w0]
 generalize (decide (1≤x.1)&&decide (x.1≤6))=a
 generalize (decide (1≤x.2.1)&&decide (x.2.1≤9))=b
 generalize decide ((x.2.2.2.2.2.2.1.length:Int)>0)=c
 generalize EL x.2.2.2.2.2.2.1 0 x.2.2.2.2.2.2.1.length=d
 generalize EL x.2.2.2.2.2.2.2.2.2.2.2.2.2 0 x.2.2.2.2.2.2.2.2.2.2.2.2.2.length=e
 generalize Be x.2.2.2.2.2.2.2.1 0 x.2.2.2.2.2.2.2.1.length=f
 generalize (decide (0≤x.2.2.2.2.2.2.2.2.1)&&decide (x.2.2.2.2.2.2.2.2.1≤900))=g
 generalize (HZ x.2.2.2.2.2.2.2.2.2||EM x.2.2.2.2.2.2.2.2.2 x.2.2.2.2.2.1)=t
 generalize x.2.2.2.2.2.1=s
 generalize x.2.2.2.2.1=l
 generalize x.2.2.2.1=m
 generalize x.2.2.1=n
 cases a
 ·simp
 cases b
 ·simp
 cases d<;>cases e<;>cases f<;>cases g<;>cases s<;>cases n<;>cases m<;>cases l<;>cases c<;>simp)
theorem RJ (x:AB) (h3:x.2.2.2.2.2.2.2.2.2.2.2.2.2.length≤maxLen):CN x=some (EL x.2.2.2.2.2.2.2.2.2.2.2.2.2 0 x.2.2.2.2.2.2.2.2.2.2.2.2.2.length&&(HZ x.2.2.2.2.2.2.2.2.2||EM x.2.2.2.2.2.2.2.2.2 x.2.2.2.2.2.1),x):=UP (by
 unfold Ls HZ EM
 simp only [Bw,Kg _ h3,Option.bind_some]
 by_cases hk:x.2.2.2.2.2.2.2.2.2.1=0
 ·rw [if_pos (by simp [hk])]
  have k1:(x.2.2.2.2.2.2.2.2.2.1==1)=false:=by simp [hk]
  have k2:(x.2.2.2.2.2.2.2.2.2.1==2)=false:=by simp [hk]
  have k0:(x.2.2.2.2.2.2.2.2.2.1==0)=true:=by simp [hk]
  rw [k1,k2,k0]
  have hl:((x.2.2.2.2.2.2.2.2.2.2.2.2.2.length:Int)==0)=true→EL x.2.2.2.2.2.2.2.2.2.2.2.2.2 0 x.2.2.2.2.2.2.2.2.2.2.2.2.2.length=true:=by
   intro h
   have:x.2.2.2.2.2.2.2.2.2.2.2.2.2.length=0:=by simpa using h
   rw [this]
   rfl
  generalize ((x.2.2.2.2.2.2.2.2.2.2.2.2.2.length:Int)==0)=l at hl
  generalize EL x.2.2.2.2.2.2.2.2.2.2.2.2.2 0 x.2.2.2.2.2.2.2.2.2.2.2.2.2.length=u at hl
  generalize (x.2.2.2.2.2.2.2.2.2.2.1==0)=b
  generalize (x.2.2.2.2.2.2.2.2.2.2.2.1==0)=c
  generalize Yp (.pair .str (.pair .str (.int .i64))) x.2.2.2.2.2.2.2.2.2.2.2.2.1 (ByteArray.empty,ByteArray.empty,(0:Int))=d
  cases b<;>cases c<;>cases d<;>cases l<;>cases u<;>simp at hl ⊢
 ·rw [if_neg (by simp [hk])]
  have k0:(x.2.2.2.2.2.2.2.2.2.1==0)=false:=by simp [hk]
  have k12:(decide (1≤x.2.2.2.2.2.2.2.2.2.1)&&decide (x.2.2.2.2.2.2.2.2.2.1≤2))=(x.2.2.2.2.2.2.2.2.2.1==1||x.2.2.2.2.2.2.2.2.2.1==2):=by
   rw [Bool.eq_iff_iff]
   simp
   omega
  rw [k12,k0]
  generalize (x.2.2.2.2.2.2.2.2.2.1==1||x.2.2.2.2.2.2.2.2.2.1==2)=k
  generalize EL x.2.2.2.2.2.2.2.2.2.2.2.2.2 0 x.2.2.2.2.2.2.2.2.2.2.2.2.2.length=u
  generalize (decide (0≤x.2.2.2.2.2.2.2.2.2.2.1)&&decide (x.2.2.2.2.2.2.2.2.2.2.1≤1000))=e
  generalize (decide (1≤x.2.2.2.2.2.2.2.2.2.2.2.1)&&decide (x.2.2.2.2.2.2.2.2.2.2.2.1≤900))=f
  cases k<;>cases u<;>cases e<;>cases f<;>rcases Bool.eq_false_or_eq_true x.2.2.2.2.2.1 with hs | hs<;>simp [hs])
theorem Wo (x:AB) (h1:x.2.2.2.2.2.2.1.length≤maxLen) (h2:x.2.2.2.2.2.2.2.1.length≤maxLen) (h3:x.2.2.2.2.2.2.2.2.2.2.2.2.2.length≤maxLen):DS x=some (RI x):=bW (by
 have w0:∀ b,IL b x=some ((!x.2.2.2.2.2.1||(x.2.2.2.1&&x.2.2.2.2.1&&!decide ((x.2.2.2.2.2.2.1.length:Int)>0)))&&(!x.2.2.1||(!x.2.2.2.1&&!x.2.2.2.2.1))&&(EL x.2.2.2.2.2.2.2.2.2.2.2.2.2 0 x.2.2.2.2.2.2.2.2.2.2.2.2.2.length&&(HZ x.2.2.2.2.2.2.2.2.2||EM x.2.2.2.2.2.2.2.2.2 x.2.2.2.2.2.1))):=fun b=>WQ (by
  unfold Nc
  simp only [RJ x h3,Option.bind_some]
  generalize (EL x.2.2.2.2.2.2.2.2.2.2.2.2.2 0 x.2.2.2.2.2.2.2.2.2.2.2.2.2.length&&(HZ x.2.2.2.2.2.2.2.2.2||EM x.2.2.2.2.2.2.2.2.2 x.2.2.2.2.2.1))=t
  generalize decide ((x.2.2.2.2.2.2.1.length:Int)>0)=c
  generalize x.2.2.2.2.2.1=s
  generalize x.2.2.2.2.1=l
  generalize x.2.2.2.1=m
  generalize x.2.2.1=n
  cases s<;>cases n<;>cases m<;>cases l<;>cases c<;>simp)
 unfold Sj RI
 simp only [Bw,LH,Kg _ h1,KE _ h2 Pb,Option.bind_some,w0]
 generalize (decide (1≤x.1)&&decide (x.1≤6))=a
 generalize (decide (1≤x.2.1)&&decide (x.2.1≤9))=b
 generalize EL x.2.2.2.2.2.2.1 0 x.2.2.2.2.2.2.1.length=d
 generalize EL x.2.2.2.2.2.2.2.2.2.2.2.2.2 0 x.2.2.2.2.2.2.2.2.2.2.2.2.2.length=e
 generalize Be x.2.2.2.2.2.2.2.1 0 x.2.2.2.2.2.2.2.1.length=f
 generalize (decide (0≤x.2.2.2.2.2.2.2.2.1)&&decide (x.2.2.2.2.2.2.2.2.1≤900))=g
 generalize (HZ x.2.2.2.2.2.2.2.2.2||EM x.2.2.2.2.2.2.2.2.2 x.2.2.2.2.2.1)=t
 generalize (!x.2.2.2.2.2.1||(x.2.2.2.1&&x.2.2.2.2.1&&!decide ((x.2.2.2.2.2.2.1.length:Int)>0)))=p
 generalize (!x.2.2.1||(!x.2.2.2.1&&!x.2.2.2.2.1))=q
 cases a
 ·simp
 cases b
 ·simp
 cases d<;>cases e<;>cases f<;>cases g<;>cases p<;>cases q<;>simp)
end Go.Proofs.YtaedipailemlcaaGreat.Core

namespace Go.Proofs.YtaedipailemlcaaGreat.Core
open Go
set_option linter.unusedVariables false
abbrev BL:Type:=Int×Int×Int×Int×Int×List (ByteArray×ByteArray×Int)
def Nz (x:BL):Bool :=
 (decide (1≤x.1)&&decide (x.1≤8))&&(decide (1≤x.2.1)&&decide (x.2.1≤6))&&(decide (1≤x.2.2.1)&&decide (x.2.2.1≤6))&&(decide (1≤x.2.2.2.1)&&decide (x.2.2.2.1≤9))&&(decide (0≤x.2.2.2.2.1)&&decide (x.2.2.2.2.1≤1000000000))&&Be x.2.2.2.2.2 0 x.2.2.2.2.2.length &&
  (if x.1=2∨x.1=3 then true else if x.1=5 then ((x.2.2.2.2.2.length:Int)==1) else ((x.2.2.2.2.2.length:Int)==0))
theorem TE (x:BL) (h:x.2.2.2.2.2.length≤maxLen):M6 x=some (Nz x):=iQ (by
 have w1:∀ a b,H7 a b x=some (if b=true then true else if a=5 then ((x.2.2.2.2.2.length:Int)==1) else ((x.2.2.2.2.2.length:Int)==0)):=fun a b=>bX (by
  unfold Sk
  by_cases h1:b=true<;>by_cases h2:a=5<;>simp [h1,h2])
 have w0:∀ b,MF b x=some (if x.1=2∨x.1=3 then true else if x.1=5 then ((x.2.2.2.2.2.length:Int)==1) else ((x.2.2.2.2.2.length:Int)==0)):=fun b=>bY (by
  unfold Sl
  by_cases h1:x.1=2<;>by_cases h2:x.1=3<;>simp [h1,h2,w1])
 unfold Xi Nz
 simp only [Ah,Gh _ h,Option.bind_some,w0]
 generalize (decide (1≤x.1)&&decide (x.1≤8))=a
 generalize (decide (1≤x.2.1)&&decide (x.2.1≤6))=b
 generalize (decide (1≤x.2.2.1)&&decide (x.2.2.1≤6))=c
 generalize (decide (1≤x.2.2.2.1)&&decide (x.2.2.2.1≤9))=d
 generalize (decide (0≤x.2.2.2.2.1)&&decide (x.2.2.2.2.1≤1000000000))=e
 generalize Be x.2.2.2.2.2 0 x.2.2.2.2.2.length=f
 cases a<;>cases b<;>cases c<;>cases d<;>cases e<;>cases f<;>simp)
theorem cR (x:BL) (h:x.2.2.2.2.2.length≤maxLen):Rq x=some (Nz x):=iT (by
 have w1:∀ a b,H8 a b x=some (if b=true then true else if a=5 then ((x.2.2.2.2.2.length:Int)==1) else ((x.2.2.2.2.2.length:Int)==0)):=fun a b=>bo (by
  unfold Sv
  by_cases h1:b=true<;>by_cases h2:a=5<;>simp [h1,h2])
 have w0:∀ b,MM b x=some (if x.1=2∨x.1=3 then true else if x.1=5 then ((x.2.2.2.2.2.length:Int)==1) else ((x.2.2.2.2.2.length:Int)==0)):=fun b=>bp (by
  unfold Sw
  by_cases h1:x.1=2<;>by_cases h2:x.1=3<;>simp [h1,h2,w1])
 unfold Xp Nz
 simp only [Bw,LH,KE _ h Pb,Option.bind_some,w0]
 generalize (decide (1≤x.1)&&decide (x.1≤8))=a
 generalize (decide (1≤x.2.1)&&decide (x.2.1≤6))=b
 generalize (decide (1≤x.2.2.1)&&decide (x.2.2.1≤6))=c
 generalize (decide (1≤x.2.2.2.1)&&decide (x.2.2.2.1≤9))=d
 generalize (decide (0≤x.2.2.2.2.1)&&decide (x.2.2.2.2.1≤1000000000))=e
 generalize Be x.2.2.2.2.2 0 x.2.2.2.2.2.length=f
 cases a<;>cases b<;>cases c<;>cases d<;>cases e<;>cases f<;>simp)
end Go.Proofs.YtaedipailemlcaaGreat.Core

namespace Go.Proofs.YtaedipailemlcaaGreat.Core
open Go
set_option linter.unusedVariables false
set_option linter.unusedSimpArgs false
abbrev DR:Type:=Int×Int×Int×AT
def pI (v:List Int):Prop:=(∀ a∈v,1≤a∧a≤6)∧v.Pairwise (· < ·)
theorem fK {v:List Int}:∀ (m i:Nat),i+m=v.length→(EL v i m=true↔∀ a (ha:a<v.length),i≤a→(1≤v[a]∧v[a]≤6)∧(a≠0→v.getD (a-1) 0<v[a]))
 | 0,i,h=>by
  simp only [EL,true_iff]
  intro a ha hi
  omega
 | m+1,i,h=>by
  have hi:i<v.length:=by omega
  rw [EL,Bool.and_eq_true,Bool.and_eq_true,fK m (i+1) (by omega),Ad hi]
  simp only [Bool.or_eq_true,Bool.and_eq_true,decide_eq_true_eq]
  constructor
  ·rintro ⟨⟨h1,h2⟩,h3⟩ a ha hia
   by_cases e:a=i
   ·subst e
    exact ⟨h1,fun h0=>h2.resolve_left h0⟩
   ·exact h3 a ha (by omega)
  ·intro h3
   refine ⟨⟨(h3 i hi (Nat.le_refl _)).1,?_⟩,fun a ha hia=>h3 a ha (by omega)⟩
   by_cases e:i=0
   ·exact .inl e
   ·exact .inr ((h3 i hi (Nat.le_refl _)).2 e)
theorem oJ {v:List Int}:EL v 0 v.length=true↔pI v:=by
 rw [fK _ _ (by omega)]
 constructor
 ·intro h
  refine ⟨fun a ha=>?_,?_⟩
  ·obtain ⟨i,hi,rfl⟩:=List.getElem_of_mem ha
   exact (h i hi (Nat.zero_le _)).1
  ·have st:∀ d a (ha:a+d+1<v.length),v.getD a 0<v.getD (a+d+1) 0:=by
    intro d
    induction d with
    | zero =>
     intro a ha
     have:=(h (a+1) (by omega) (Nat.zero_le _)).2 (by omega)
     rw [Ad (show a+0+1<v.length from ha)]
     simpa using this
    | succ d ih =>
     intro a ha
     have h1:=ih a (by omega)
     have h2:=(h (a+(d+1)+1) ha (Nat.zero_le _)).2 (by omega)
     rw [Ad ha]
     simp only [Nat.add_sub_cancel] at h2
     have h3:v.getD (a+d+1) 0<v[a+(d+1)+1]:=h2
     omega
   rw [List.pairwise_iff_getElem]
   intro i j hi hj hij
   have:=st (j-i-1) i (by omega)
   rw [show i+(j-i-1)+1=j by omega,Ad hi,Ad hj] at this
   exact this
 ·rintro ⟨h1,h2⟩ a ha _
  refine ⟨h1 _ (List.getElem_mem ha),fun h0=>?_⟩
  rw [Ad (show a-1<v.length by omega)]
  exact (List.pairwise_iff_getElem.1 h2) (a-1) a (by omega) ha (by omega)
theorem kW {v:List Int} (h:pI v):v.length≤6:=by
 have hs:v.Sublist [1,2,3,4,5,6]:=by
  have key:∀ (l:List Int) (n:Nat),n≤6→(∀ a∈l,(6-n:Int)<a∧a≤6)→l.Pairwise (· < ·)→l.length≤n:=by
   intro l
   induction l with
   | nil=>intro n _ _ _; simp
   | cons a l ih =>
    intro n hn hb hp
    have ha:=hb a (by simp)
    have hp2:=List.pairwise_cons.1 hp
    have:=ih ((6-a).toNat) (by omega) (fun b hb'=>⟨by have:=hp2.1 b hb'; omega,(hb b (by simp [hb'])).2⟩) hp2.2
    simp only [List.length_cons]
    omega
  have hl:=key v 6 (by omega) (fun a ha=>by have:=h.1 a ha; omega) h.2
  exact List.Sublist.trans (List.Sublist.refl v) (by
   have:∀ (l:List Int) (s:List Int),s.Pairwise (· < ·)→l.Pairwise (· < ·)→(∀ a∈l,a∈s)→l.Sublist s:=by
    intro l s
    induction s generalizing l with
    | nil =>
     intro _ _ hm
     cases l with
     | nil=>exact List.Sublist.slnil
     | cons a l=>exact absurd (hm a (by simp)) (by simp)
    | cons b s ih =>
     intro hs hl hm
     cases l with
     | nil=>exact List.nil_sublist _
     | cons a l =>
      have hs2:=List.pairwise_cons.1 hs
      have hl2:=List.pairwise_cons.1 hl
      rcases List.mem_cons.1 (hm a (by simp)) with e | e
      ·subst e
       refine (ih l hs2.2 hl2.2 fun c hc=>?_).cons_cons _
       rcases List.mem_cons.1 (hm c (by simp [hc])) with e | e
       ·have:=hl2.1 c hc; omega
       ·exact e
      ·refine (ih (a::l) hs2.2 hl fun c hc=>?_).cons _
       rcases List.mem_cons.1 (hm c hc) with e2 | e2
       ·have h1:=hs2.1 a e
        rcases List.mem_cons.1 hc with e3 | e3
        ·omega
        ·have:=hl2.1 c e3; omega
       ·exact e2
   refine this v [1,2,3,4,5,6] (by decide) h.2 fun a ha=>?_
   have:=h.1 a ha
   have h5:a=1∨a=2∨a=3∨a=4∨a=5∨a=6:=by omega
   rcases h5 with h | h | h | h | h | h<;>simp [h])
 simpa using hs.length_le
structure IX (m:AB):Prop where
 id:1≤m.1∧m.1≤6
 ep:1≤m.2.1∧m.2.1≤9
 serves:m.2.2.2.2.2.1=true→m.2.2.2.1=true∧m.2.2.2.2.1=true∧m.2.2.2.2.2.2.1=[]
 fell:m.2.2.1=true→m.2.2.2.1=false∧m.2.2.2.2.1=false
 waits:pI m.2.2.2.2.2.2.1
 left:pI m.2.2.2.2.2.2.2.2.2.2.2.2.2
 items:Az m.2.2.2.2.2.2.2.1=true
 count:0≤m.2.2.2.2.2.2.2.2.1∧m.2.2.2.2.2.2.2.2.1≤900
 task:HZ m.2.2.2.2.2.2.2.2.2=true∨EM m.2.2.2.2.2.2.2.2.2 m.2.2.2.2.2.1=true
theorem kX {m:AB}:RI m=true↔IX m:=by
 unfold RI
 simp only [Bool.and_eq_true,Bool.or_eq_true,Bool.not_eq_true',decide_eq_true_eq,oJ,decide_eq_false_iff_not]
 constructor
 ·rintro ⟨⟨⟨⟨⟨⟨⟨⟨h1,h2⟩,h3⟩,h4⟩,h5⟩,h6⟩,h7⟩,h8⟩,h9⟩
  refine ⟨h1,h2,fun h=>?_,fun h=>?_,h5,h6,h7,h8,h9⟩
  ·rcases h3 with h3 | ⟨⟨a,b⟩,c⟩
   ·rw [h] at h3; cases h3
   ·exact ⟨a,b,List.length_eq_zero_iff.1 (by omega)⟩
  ·rcases h4 with h4 | h4
   ·rw [h] at h4; cases h4
   ·exact h4
 ·rintro ⟨h1,h2,h3,h4,h5,h6,h7,h8,h9⟩
  refine ⟨⟨⟨⟨⟨⟨⟨⟨h1,h2⟩,?_⟩,?_⟩,h5⟩,h6⟩,h7⟩,h8⟩,h9⟩
  ·cases hs:m.2.2.2.2.2.1 with
   | false=>exact .inl rfl
   | true =>
    obtain ⟨a,b,c⟩:=h3 hs
    exact .inr ⟨⟨a,b⟩,by rw [c]; simp⟩
  ·cases hs:m.2.2.1 with
   | false=>exact .inl rfl
   | true=>exact .inr (h4 hs)
theorem HK {x:List AT} (h:Az x=true):x.length≤12:=(Lz.1 h).2.2
theorem IX.lens {m:AB} (h:IX m):m.2.2.2.2.2.2.1.length≤6∧m.2.2.2.2.2.2.2.1.length≤12∧m.2.2.2.2.2.2.2.2.2.2.2.2.2.length≤6:=⟨kW h.waits,HK h.items,kW h.left⟩
theorem YZ (m:AB) (h1:m.2.2.2.2.2.2.1.length≤68719476736) (h2:m.2.2.2.2.2.2.2.1.length≤68719476736) (h3:m.2.2.2.2.2.2.2.2.2.2.2.2.2.length≤68719476736):CW m=some m:=eS (by
 unfold UI
 rw [if_pos (by simpa using h1),if_pos (by simpa using h2),if_pos (by simpa using h3)]
 rfl)
theorem IX.copy {m:AB} (h:IX m):CW m=some m:=by
 obtain ⟨h1,h2,h3⟩:=h.lens
 exact YZ m (by omega) (by omega) (by omega)
def Fb (view:List Int) (id:Int):List Int:=[1,2,3,4,5,6].filter fun v=>v != id&&view.contains v
theorem R1 (view:List Int) (id:Int):pI (Fb view id):=by
 refine ⟨fun a ha=>?_,List.Pairwise.filter _ (by decide)⟩
 have:=(List.mem_filter.1 ha).1
 simp at this
 omega
theorem Ha (view:List Int) (id:Int) (h:view.length≤maxLen):FS view id=some (Fb view id):=Zr (by
 unfold Qx
 have step:∀ (v:Nat) (acc r:List Int),v≤6→1≤v→acc.length≤6→Br view id ((v+1:Nat):Int) (if ((v:Int) != id&&view.contains (v:Int))=true then acc++[(v:Int)] else acc)=some r→Br view id (v:Int) acc=some r:=by
  intro v acc r hv hv1 ha hr
  refine Mo ?_
  unfold HW
  rw [if_pos (by simp; omega),AR (show v<9223372036854775807 by omega),CG view _ h]
  by_cases h1:((v:Int) != id)=true
  ·rw [if_pos h1,Option.bind_some]
   by_cases h2:view.contains (v:Int)=true
   ·rw [if_pos h2,if_pos (by simp; omega)]
    rw [if_pos (by rw [h1,h2]; rfl)] at hr
    exact hr
   ·rw [if_neg h2]
    rw [if_neg (fun hc=>h2 (by simp only [Bool.and_eq_true] at hc; exact hc.2))] at hr
    exact hr
  ·rw [if_neg h1]
   rw [if_neg (fun hc=>h1 (by simp only [Bool.and_eq_true] at hc; exact hc.1))] at hr
   exact hr
 have fin:∀ acc,Br view id ((7:Nat):Int) acc=some acc:=fun acc=>Mo (by
  unfold HW
  rw [if_neg (by decide)])
 have g:∀ (acc:List Int) (v:Int),(if (v != id&&view.contains v)=true then acc++[v] else acc).length≤acc.length+1:=by
  intro acc v; split<;>simp
 refine step 1 [] _ (by omega) (by omega) (by simp) ?_
 refine step 2 _ _ (by omega) (by omega) (by have:=g [] ((1:Nat):Int); simp only [List.length_nil] at this; omega) ?_
 have l2:=g [] ((1:Nat):Int)
 generalize e1:(if (((1:Nat):Int) != id&&view.contains ((1:Nat):Int))=true then ([]:List Int)++[((1:Nat):Int)] else [])=a1 at l2 ⊢
 have l3:=g a1 ((2:Nat):Int)
 generalize e2:(if (((2:Nat):Int) != id&&view.contains ((2:Nat):Int))=true then a1++[((2:Nat):Int)] else a1)=a2 at l3 ⊢
 have l4:=g a2 ((3:Nat):Int)
 simp only [List.length_nil] at l2
 refine step 3 _ _ (by omega) (by omega) (by omega) ?_
 generalize e3:(if (((3:Nat):Int) != id&&view.contains ((3:Nat):Int))=true then a2++[((3:Nat):Int)] else a2)=a3 at l4 ⊢
 have l5:=g a3 ((4:Nat):Int)
 refine step 4 _ _ (by omega) (by omega) (by omega) ?_
 generalize e4:(if (((4:Nat):Int) != id&&view.contains ((4:Nat):Int))=true then a3++[((4:Nat):Int)] else a3)=a4 at l5 ⊢
 have l6:=g a4 ((5:Nat):Int)
 refine step 5 _ _ (by omega) (by omega) (by omega) ?_
 generalize e5:(if (((5:Nat):Int) != id&&view.contains ((5:Nat):Int))=true then a4++[((5:Nat):Int)] else a4)=a5 at l6 ⊢
 refine step 6 _ _ (by omega) (by omega) (by omega) ?_
 rw [fin]
 congr 1
 unfold Fb
 have fl:∀ (p:Int→Bool) (v:Int) (l:List Int),(v::l).filter p=(if p v=true then [v] else [])++l.filter p:=by
  intro p v l; rw [List.filter_cons]; split<;>simp
 have ap:∀ (c:Bool) (a:List Int) (v:Int),(if c=true then a++[v] else a)=a++(if c=true then [v] else []):=by
  intro c a v; split<;>simp
 rw [ap,← e5,ap,← e4,ap,← e3,ap,← e2,ap,← e1,ap]
 simp only [fl,List.filter_nil,List.append_nil,List.nil_append,List.append_assoc]
 rfl)
theorem fL {v:List Int} (h:pI v) (p:Int→Bool):pI (v.filter p):=⟨fun a ha=>h.1 a (List.mem_filter.1 ha).1,h.2.filter p⟩
theorem L1 (v:List Int) (x:Int) (h:v.length≤68719476736):GQ v x=some (v.filter (· != x)):=X4 (by
 unfold PO
 have key:=Gy (n:=v.length) (P:=fun i=>∀ acc:List Int,acc.length≤i→DI v x (i:Int) acc=some (acc++(v.drop i).filter (· != x))) (fun acc ha=>Lv (by
  unfold Gv
  rw [if_neg (by simp)]
  simp)) (fun i hi ih acc ha=>Lv (by
  unfold Gv
  simp only [show ((i:Int)<(v.length:Int)) from by omega,decide_true,if_true,show (0:Int)≤(i:Int) from by omega,Int.toNat_natCast,Ad hi,AR (show i<9223372036854775807 by omega)]
  rw [Bp hi,List.filter_cons]
  by_cases hh:(v[i] != x)=true
  ·rw [if_pos hh,if_pos (by simp; omega),ih _ (by simp; omega),if_pos hh,List.append_assoc]
   rfl
  ·rw [if_neg hh,ih _ (by omega),if_neg hh])) 0 (by omega) [] (by simp)
 simpa using key)
end Go.Proofs.YtaedipailemlcaaGreat.Core

namespace Go.Proofs.YtaedipailemlcaaGreat.Core
open Go
set_option linter.unusedVariables false
set_option linter.unusedSimpArgs false
def DJ (view:List Int) (id:Int):List Int:=view.filter (· != id)
def Us (m:AB) (view:List Int) (its:List AT):AB :=
 (m.1,m.2.1,m.2.2.1,true,m.2.2.2.2.1,(((Fb view m.1).length:Int)==0),Fb view m.1,its,m.2.2.2.2.2.2.2.2)
def TF (m:AB) (e:Int):AB :=
 (m.1,e,false,false,false,false,([]:List Int),m.2.2.2.2.2.2.2.1,(0:Int),(0:Int),(0:Int),(0:Int),(ByteArray.empty,ByteArray.empty,(0:Int)),([]:List Int))
def DZ (m:AB) (x:BL) (k:Int):List BL:=[(k,m.1,x.2.1,x.2.2.2.1,x.2.2.2.2.1,([]:List AT))]
def RK (m:AB) (its:List AT):AB :=
 (m.1,m.2.1,m.2.2.1,m.2.2.2.1,m.2.2.2.2.1,m.2.2.2.2.2.1,m.2.2.2.2.2.2.1,its,m.2.2.2.2.2.2.2.2.1,(0:Int),(0:Int),(0:Int),(ByteArray.empty,ByteArray.empty,(0:Int)),([]:List Int))
def Ez (m:AB):List DR×AB :=
 if (m.2.2.2.2.2.2.2.2.2.1==1)=true then ([(m.2.2.2.2.2.2.2.2.2.2.1,m.2.1,m.2.2.2.2.2.2.2.2.2.2.2.1,m.2.2.2.2.2.2.2.2.2.2.2.2.1)],RK m (Cb m.2.2.2.2.2.2.2.1 m.2.2.2.2.2.2.2.2.2.2.2.2.1))
 else ([(m.2.2.2.2.2.2.2.2.2.2.1,m.2.1,m.2.2.2.2.2.2.2.2.2.2.2.1,Fa m.2.2.2.2.2.2.2.1 m.2.2.2.2.2.2.2.2.2.2.2.2.1.1)],RK m m.2.2.2.2.2.2.2.1)
theorem RL (view:List Int) (its:List AT) (m:AB) (h:view.length≤68719476736) (hi:its.length≤68719476736) :
  LV view its m=some ((DJ view m.1).map (fun v=>(3,m.1,v,m.2.1,0,its)),Us m view its):=gA (by
 unfold Vp
 rw [if_pos (by simpa using hi),Ha view _ (by unfold maxLen; omega),Option.bind_some]
 have key:=Gy (n:=view.length) (P:=fun i=>∀ acc:List BL,acc.length≤i→FW view its (i:Int) (Us m view its) acc ([]++its)=some (acc++((view.drop i).filter (· != m.1)).map (fun v=>((3:Int),m.1,v,m.2.1,(0:Int),its)),Us m view its)) (fun acc ha=>Q4 (by
  unfold K7
  rw [if_neg (by simp)]
  simp)) (fun i hi2 ih acc ha=>Q4 (by
  unfold K7
  simp only [show ((i:Int)<(view.length:Int)) from by omega,decide_true,if_true,show (0:Int)≤(i:Int) from by omega,Int.toNat_natCast,Ad hi2,AR (show i<9223372036854775807 by omega)]
  rw [show (Us m view its).1=m.1 from rfl,show (Us m view its).2.1=m.2.1 from rfl,Bp hi2,List.filter_cons]
  by_cases hh:(view[i] != m.1)=true
  ·rw [if_pos hh,if_pos (by simpa using hi),if_pos (by simp; omega),ih _ (by simp; omega),if_pos hh,List.map_cons,List.append_assoc]
   rfl
  ·rw [if_neg hh,ih _ (by omega),if_neg hh])) 0 (by omega) [] (by simp)
 exact key)
theorem Pd (m:AB) (e:Int) (h:m.2.2.2.2.2.2.2.1.length≤68719476736):JZ m e=some (TF m e):=eW (by
 unfold UK
 rw [if_pos (by simpa using h)]
 rfl)
theorem Fx (m:AB) (x:BL) (k:Int):DU m x k=some (DZ m x k):=bz rfl
theorem Hc (m:AB) (h:m.2.2.2.2.2.2.2.1.length≤34359738367):FT m=some (Ez m):=Zs (by
 unfold Qy Ez
 rw [Gi _ _ h,RD _ _ (by unfold maxLen; omega)]
 split<;>rfl)
def kY (m:AB) (f:Int):AB :=
 (m.1,m.2.1,m.2.2.1,m.2.2.2.1,m.2.2.2.2.1,m.2.2.2.2.2.1,m.2.2.2.2.2.2.1,m.2.2.2.2.2.2.2.1,m.2.2.2.2.2.2.2.2.1,m.2.2.2.2.2.2.2.2.2.1,m.2.2.2.2.2.2.2.2.2.2.1,m.2.2.2.2.2.2.2.2.2.2.2.1,m.2.2.2.2.2.2.2.2.2.2.2.2.1,m.2.2.2.2.2.2.2.2.2.2.2.2.2.filter (· != f))
def Du (m:AB) (f:Int):AB×List BL×List DR :=
 if (((m.2.2.2.2.2.2.2.2.2.2.2.2.2.filter (· != f)).length:Int)==0)=true then ((Ez (kY m f)).2,[],(Ez (kY m f)).1) else (kY m f,[],[])
def TZ (m:AB) (view:List Int) (x:BL):AB×List BL×List DR :=
 if x.1=2 then (if (m.2.2.2.2.1&&!m.2.2.2.1)=true then (Us m view x.2.2.2.2.2,(DJ view m.1).map (fun v=>(3,m.1,v,m.2.1,0,x.2.2.2.2.2)),[]) else (m,[],[]))
 else if x.1=3 then (if (!view.contains m.1||(view.getD 0 0==m.1))=true then (m,[],[]) else if (!m.2.2.2.1&&m.2.2.1)=true then (m,[],[])
  else if m.2.2.2.1=true then (m,DZ m x 4,[]) else
   ((m.1,m.2.1,false,true,false,false,([]:List Int),x.2.2.2.2.2,(0:Int),(0:Int),(0:Int),(0:Int),(ByteArray.empty,ByteArray.empty,(0:Int)),([]:List Int)),DZ m x 4,[]))
 else if x.1=4 then (if m.2.2.2.2.1=true then
   ((m.1,m.2.1,m.2.2.1,m.2.2.2.1,m.2.2.2.2.1,m.2.2.2.1&&(((m.2.2.2.2.2.2.1.filter (· != x.2.1)).length:Int)==0),m.2.2.2.2.2.2.1.filter (· != x.2.1),m.2.2.2.2.2.2.2),[],[]) else (m,[],[]))
 else if x.1=5 then (if m.2.2.2.1=true then
   ((m.1,m.2.1,m.2.2.1,m.2.2.2.1,m.2.2.2.2.1,m.2.2.2.2.2.1,m.2.2.2.2.2.2.1,Cb m.2.2.2.2.2.2.2.1 (x.2.2.2.2.2.getD 0 (ByteArray.empty,ByteArray.empty,(0:Int))),m.2.2.2.2.2.2.2.2),DZ m x 6,[]) else (m,[],[]))
 else if x.1=7 then (if m.2.2.2.1=true then (m,DZ m x 8,[]) else (m,[],[]))
 else if (x.1=6∨x.1=8)∧m.2.2.2.2.2.2.2.2.2.1=(if x.1=8 then 2 else 1)∧m.2.2.2.2.2.2.2.2.2.2.2.1=x.2.2.2.2.1 then
  (Du m x.2.1)
 else (m,[],[])
theorem aI (m:AB) (view:List Int) (x:BL) (hm:IX m) (hv:view.length≤68719476736) (hv0:0<view.length) (hx:x.2.2.2.2.2.length≤68719476736) (h5:x.1=5→0<x.2.2.2.2.2.length) :
  Pk m view x=some (TZ m view x):=f7 (by
 obtain ⟨l1,l2,l3⟩:=hm.lens
 unfold Vl
 rw [hm.copy,Option.bind_some]
 unfold TZ
 by_cases k2:x.1=2
 ·rw [if_pos (by simpa using k2),if_pos k2]
  have J:∀ b y,HD view [] [] b m x y m=some (if b=true then (Us m view x.2.2.2.2.2,(DJ view m.1).map (fun v=>(3,m.1,v,m.2.1,0,x.2.2.2.2.2)),[]) else (m,[],[])):=fun b y=>ZZ (by
   unfold Ql
   cases b
   ·rfl
   ·rw [if_pos rfl,RL view _ m hv hx]
    rfl)
  rw [J,J]
  cases m.2.2.2.2.1<;>cases m.2.2.2.1<;>rfl
 ·rw [if_neg (by simpa using k2),if_neg k2]
  by_cases k3:x.1=3
  ·rw [if_pos (by simpa using k3),if_pos k3,CG view _ (by unfold maxLen; omega),Option.bind_some]
   have J2:∀ b y,HE [] [] b m x y m=some (if m.2.2.2.1=true then (m,DZ m x 4,[]) else
     ((m.1,m.2.1,false,true,false,false,([]:List Int),x.2.2.2.2.2,(0:Int),(0:Int),(0:Int),(0:Int),(ByteArray.empty,ByteArray.empty,(0:Int)),([]:List Int)),DZ m x 4,[])):=fun b y=>Za (by
    unfold Qm
    rw [Pd m _ (by omega),Fx,Option.bind_some,Option.bind_some]
    have hx':([]:List AT).length+x.2.2.2.2.2.length≤68719476736:=by simpa using hx
    cases m.2.2.2.1
    ·rw [if_pos (show (!false)=true from rfl),if_pos hx']; rfl
    ·rfl)
   have J1:∀ b y,Ky [] [] b m x y m=some (if (!m.2.2.2.1&&m.2.2.1)=true then (m,[],[]) else if m.2.2.2.1=true then (m,DZ m x 4,[]) else
     ((m.1,m.2.1,false,true,false,false,([]:List Int),x.2.2.2.2.2,(0:Int),(0:Int),(0:Int),(0:Int),(ByteArray.empty,ByteArray.empty,(0:Int)),([]:List Int)),DZ m x 4,[])):=fun b y=>Zb (by
    unfold Qn
    rw [J2,J2]
    cases m.2.2.2.1<;>cases m.2.2.1<;>rfl)
   rw [show view.getD (0:Int).toNat 0=view.getD 0 0 from rfl]
   cases view.contains m.1
   ·rfl
   ·rw [if_neg (by simp),if_pos (by omega),if_pos (by omega),J1]
    cases (view.getD 0 0==m.1)<;>rfl
  ·rw [if_neg (by simpa using k3),if_neg k3]
   by_cases k4:x.1=4
   ·rw [if_pos (by simpa using k4),if_pos k4,L1 _ _ (by omega),Option.bind_some]
    cases m.2.2.2.2.1<;>cases m.2.2.2.1<;>rfl
   ·rw [if_neg (by simpa using k4),if_neg k4]
    by_cases k5:x.1=5
    ·have:=h5 k5
     rw [if_pos (by simpa using k5),if_pos k5,Gi _ _ (by omega),Option.bind_some,Fx,Option.bind_some,show x.2.2.2.2.2.getD (0:Int).toNat (ByteArray.empty,ByteArray.empty,(0:Int))=x.2.2.2.2.2.getD 0 (ByteArray.empty,ByteArray.empty,(0:Int)) from rfl]
     cases m.2.2.2.1
     ·rfl
     ·rw [if_pos rfl,if_pos rfl,if_pos (by omega),if_pos (by omega)]
    ·rw [if_neg (by simpa using k5),if_neg k5]
     by_cases k7:x.1=7
     ·rw [if_pos (by simpa using k7),if_pos k7,Fx,Option.bind_some]
      cases m.2.2.2.1<;>rfl
     ·rw [if_neg (by simpa using k7),if_neg k7]
      have J5:∀ b y,Kz [] [] b m x y m=some (Du m x.2.1):=fun b y=>Zc (by
       unfold Qo
       rw [L1 _ _ (by omega),Option.bind_some,Hc _ (by simp only; omega),Option.bind_some]
       unfold Du
       split<;>rfl)
      have J4:∀ op y,HF [] [] op m x y m=some (if m.2.2.2.2.2.2.2.2.2.1=op∧m.2.2.2.2.2.2.2.2.2.2.2.1=x.2.2.2.2.1 then (Du m x.2.1) else (m,[],[])):=fun op y=>Zd (by
       unfold Qp
       rw [J5]
       by_cases h1:m.2.2.2.2.2.2.2.2.2.1=op
       ·rw [if_pos (by simp [h1])]
        by_cases h2:m.2.2.2.2.2.2.2.2.2.2.2.1=x.2.2.2.2.1
        ·rw [if_neg (by simp [h2]),if_pos (show _∧_ from ⟨h1,h2⟩)]
        ·rw [if_pos (by simp [h2]),if_neg (show ¬(_∧_) from fun h=>h2 h.2)]
       ·rw [if_neg (by simp [h1]),if_neg (fun h=>h1 h.1)])
      have J3:∀ b y,HG [] [] b m x y m=some (if b=true∧m.2.2.2.2.2.2.2.2.2.1=(if x.1=8 then 2 else 1)∧m.2.2.2.2.2.2.2.2.2.2.2.1=x.2.2.2.2.1 then (Du m x.2.1) else (m,[],[])):=fun b y=>Ze (by
       unfold Qq
       rw [J4,J4]
       cases b
       ·rw [if_neg (by simp),if_neg (by simp)]
       ·rw [if_pos rfl]
        by_cases k8:x.1=8
        ·simp only [k8,beq_self_eq_true,if_true,true_and]
        ·rw [if_neg (by simpa using k8)]
         simp only [k8,if_false,true_and])
      rw [J3,J3]
      by_cases k6:x.1=6
      ·simp only [k6,beq_self_eq_true,if_true,true_and,true_or]
      ·rw [if_neg (by simpa using k6)]
       simp only [k6,false_or,beq_iff_eq])
structure Vu (views:List (List Int)):Prop where
 ok:D9 views views.length views=true
theorem Hq {n:Nat}:∀ {l:List (List Int)} {x:List (List Int)},D9 x n l=true↔(∀ v∈l,R0 v=true)∧1≤n∧n≤9
 | [],x=>by simp [D9]; omega
 | v::l,x=>by
  rw [D9,Bool.and_eq_true,Hq]
  simp [and_assoc]
theorem Vu.len {views:List (List Int)} (h:Vu views):1≤views.length∧views.length≤9:=(Hq.1 h.ok).2
theorem Vu.view {views:List (List Int)} (h:Vu views) {v:List Int} (hv:v∈views):1≤v.length∧v.length≤4:=by
 have:=(Hq.1 h.ok).1 v hv
 unfold R0 at this
 simp only [Bool.and_eq_true,decide_eq_true_eq] at this
 omega
theorem Vu.get {views:List (List Int)} (h:Vu views) {i:Nat} (hi:i<views.length):1≤(views.getD i []).length∧(views.getD i []).length≤4:=by
 rw [Ad hi]
 exact h.view (List.getElem_mem hi)
theorem E0 {views:List (List Int)} (h:Vu views):DH views=some true:=by
 rw [YX views (by have:=h.len; unfold maxLen; omega) (fun a ha=>by have:=h.view ha; unfold maxLen; omega),h.ok]
theorem IY {m:AB} (h:IX m):EZ m=some true:=by
 obtain ⟨h1,h2,h3⟩:=h.lens
 rw [Wn m (by unfold maxLen; omega) (by unfold maxLen; omega) (by unfold maxLen; omega),kX.2 h]
def C1 (m:AB) (views:List (List Int)) (x:BL):AB×List BL×List DR :=
 if (Nz x&&(x.2.2.1==m.1)&&decide (m.2.1≤x.2.2.2.1)&&decide (x.2.2.2.1≤(views.length:Int)))=true then
  if x.2.2.2.1=m.2.1 then TZ m (views.getD (m.2.1-1).toNat []) x
  else if (x.1==1&&(x.2.2.2.1==m.2.1+1)&&m.2.2.2.1&&(views.getD (m.2.1-1).toNat []).contains m.1)=true then (TF m x.2.2.2.1,[(2,m.1,x.2.1,x.2.2.2.1,0,m.2.2.2.2.2.2.2.1)],[])
  else if (x.1==3&&(views.getD (x.2.2.2.1-1).toNat []).contains m.1&&((views.getD (x.2.2.2.1-1).toNat []).getD 0 0 != m.1))=true then
   ((m.1,x.2.2.2.1,false,true,false,false,([]:List Int),x.2.2.2.2.2,(0:Int),(0:Int),(0:Int),(0:Int),(ByteArray.empty,ByteArray.empty,(0:Int)),([]:List Int)),DZ m x 4,[])
  else (m,[],[])
 else (m,[],[])
theorem oK {x:BL} (h:Nz x=true):x.2.2.2.2.2.length≤12∧(x.1=5→x.2.2.2.2.2.length=1):=by
 unfold Nz at h
 simp only [Bool.and_eq_true] at h
 refine ⟨HK (x:=x.2.2.2.2.2) h.1.2,fun h5=>?_⟩
 have:=h.2
 rw [if_neg (by omega),if_pos h5] at this
 simp only [beq_iff_eq] at this
 omega
theorem Pe (m:AB) (views:List (List Int)) (x:BL) (hm:IX m) (hv:Vu views) (hx:x.2.2.2.2.2.length≤68719476736) :
  JX m views x=some (C1 m views x):=eK (by
 have hvl:=hv.len
 have hep:=hm.ep
 unfold UD C1
 rw [hm.copy,Option.bind_some,IY hm,Option.bind_some,if_pos (by rfl),E0 hv,Option.bind_some,if_pos (by rfl),TE x (by unfold maxLen; omega),Option.bind_some]
 cases hmo:Nz x with
 | false=>rfl
 | true =>
  obtain ⟨xl,x5⟩:=oK hmo
  rw [if_pos (by rfl)]
  by_cases h1:x.2.2.1=m.1
  ·rw [if_pos (by simp [h1])]
   by_cases h2:x.2.2.2.1<m.2.1
   ·rw [if_neg (by simpa using h2),if_neg (by simp; omega)]
   ·rw [if_pos (by simpa using h2)]
    by_cases h3:x.2.2.2.1>(views.length:Int)
    ·rw [if_neg (by simpa using h3),if_neg (by simp; omega)]
    ·rw [if_pos (by simpa using h3),if_neg (by simp; omega),if_pos (by simp [h1]; omega)]
     have wm:IntKind.i64.wrap (m.2.1-1)=m.2.1-1:=AZ (by omega)
     have wp:IntKind.i64.wrap (m.2.1+1)=m.2.1+1:=AZ (by omega)
     have wx:IntKind.i64.wrap (x.2.2.2.1-1)=x.2.2.2.1-1:=AZ (by omega)
     have g1:=hv.get (i:=(m.2.1-1).toNat) (by omega)
     have g2:=hv.get (i:=(x.2.2.2.1-1).toNat) (by omega)
     have J3:∀ b y,El [] [] b m x y m=some (if b=true then ((m.1,x.2.2.2.1,false,true,false,false,([]:List Int),x.2.2.2.2.2,(0:Int),(0:Int),(0:Int),(0:Int),(ByteArray.empty,ByteArray.empty,(0:Int)),([]:List Int)),DZ m x 4,[]) else (m,[],[])):=fun b y=>Xe (by
      unfold O3
      cases b
      ·rfl
      ·rw [if_pos rfl,if_pos (by simpa using hx),Fx]
       rfl)
     have J2:∀ b y,Jh views [] [] b m x y m=some (if (x.1==3&&(views.getD (x.2.2.2.1-1).toNat []).contains m.1&&((views.getD (x.2.2.2.1-1).toNat []).getD 0 0 != m.1))=true then
       ((m.1,x.2.2.2.1,false,true,false,false,([]:List Int),x.2.2.2.2.2,(0:Int),(0:Int),(0:Int),(0:Int),(ByteArray.empty,ByteArray.empty,(0:Int)),([]:List Int)),DZ m x 4,[]) else (m,[],[])):=fun b y=>Xf (by
      unfold O4
      rw [wx,if_pos (by omega),if_pos (by omega),CG _ _ (by unfold maxLen; omega),Option.bind_some,show (views.getD (x.2.2.2.1-1).toNat ([]:List Int)).getD (0:Int).toNat 0=(views.getD (x.2.2.2.1-1).toNat []).getD 0 0 from rfl]
      simp only [J3]
      rw [if_pos (show (0:Int)≤0 by omega),if_pos (show (0:Int)<((views.getD (x.2.2.2.1-1).toNat ([]:List Int)).length:Int) by omega)]
      cases (x.1==3)<;>cases (views.getD (x.2.2.2.1-1).toNat ([]:List Int)).contains m.1<;>rfl)
     have J1:∀ b y,DM views [] [] b m x y m=some (if b=true then (TF m x.2.2.2.1,[(2,m.1,x.2.1,x.2.2.2.1,0,m.2.2.2.2.2.2.2.1)],[]) else
       if (x.1==3&&(views.getD (x.2.2.2.1-1).toNat []).contains m.1&&((views.getD (x.2.2.2.1-1).toNat []).getD 0 0 != m.1))=true then
       ((m.1,x.2.2.2.1,false,true,false,false,([]:List Int),x.2.2.2.2.2,(0:Int),(0:Int),(0:Int),(0:Int),(ByteArray.empty,ByteArray.empty,(0:Int)),([]:List Int)),DZ m x 4,[]) else (m,[],[])):=fun b y=>Xg (by
      unfold O5
      have hl:([]:List AT).length+m.2.2.2.2.2.2.2.1.length≤68719476736:=by have:=hm.lens; simp; omega
      rw [J2,Pd m _ (by have:=hm.lens; omega),Option.bind_some,if_pos hl]
      cases b<;>rfl)
     refine Xh ?_
     unfold O6
     rw [wm,wp]
     by_cases h4:x.2.2.2.1=m.2.1
     ·rw [if_pos (by simpa using h4),if_pos (by omega),if_pos (by omega),if_pos h4,aI m _ x hm (by omega) (by omega) hx (fun h=>by have:=x5 h; omega)]
      rfl
     ·rw [if_neg (by simpa using h4),if_neg h4,CG _ _ (by unfold maxLen; omega),Option.bind_some]
      simp only [J1]
      rw [if_pos (show (0:Int)≤m.2.1-1 by omega),if_pos (show m.2.1-1<(views.length:Int) by omega)]
      cases (x.1==1)<;>cases (x.2.2.2.1==m.2.1+1)<;>cases m.2.2.2.1<;>cases (views.getD (m.2.1-1).toNat ([]:List Int)).contains m.1<;>rfl
  ·rw [if_neg (by simp [h1]),if_neg (by simp [h1])])
end Go.Proofs.YtaedipailemlcaaGreat.Core

namespace Go.Proofs.YtaedipailemlcaaGreat.Core
open Go
set_option linter.unusedVariables false
set_option linter.unusedSimpArgs false
theorem Vv {v:List Int}:∀ (m i:Nat),i+m=v.length→(F_ v i m=true↔∀ a (ha:a<v.length),i≤a→(1≤v[a]∧v[a]≤6)∧v[a]∉v.take a)
 | 0,i,h=>by
  simp only [F_,true_iff]
  intro a ha hi
  omega
 | m+1,i,h=>by
  have hi:i<v.length:=by omega
  rw [F_,Bool.and_eq_true,Bool.and_eq_true,Vv m (i+1) (by omega),Ad hi]
  simp only [Bool.and_eq_true,decide_eq_true_eq,Bool.not_eq_true',List.contains_eq_mem,decide_eq_false_iff_not]
  constructor
  ·rintro ⟨⟨h1,h2⟩,h3⟩ a ha hia
   by_cases e:a=i
   ·subst e
    exact ⟨h1,h2⟩
   ·exact h3 a ha (by omega)
  ·intro h3
   exact ⟨⟨(h3 i hi (Nat.le_refl _)).1,(h3 i hi (Nat.le_refl _)).2⟩,fun a ha hia=>h3 a ha (by omega)⟩
structure mw (v:List Int):Prop where
 len:1≤v.length∧v.length≤4
 mem:∀ a∈v,1≤a∧a≤6
 nd:v.Nodup
theorem kZ {v:List Int}:R0 v=true↔mw v:=by
 unfold R0
 simp only [Bool.and_eq_true,decide_eq_true_eq]
 rw [Vv _ _ (by omega)]
 constructor
 ·rintro ⟨h1,h2⟩
  refine ⟨by omega,fun a ha=>?_,?_⟩
  ·obtain ⟨i,hi,rfl⟩:=List.getElem_of_mem ha
   exact (h2 i hi (Nat.zero_le _)).1
  ·rw [List.nodup_iff_pairwise_ne,List.pairwise_iff_getElem]
   intro i j hi hj hij e
   have:=(h2 j hj (Nat.zero_le _)).2
   apply this
   rw [← e]
   exact List.mem_iff_getElem.2 ⟨i,by rw [List.length_take]; omega,by rw [List.getElem_take]⟩
 ·rintro ⟨h1,h2,h3⟩
  refine ⟨by omega,fun a ha _=>⟨h2 _ (List.getElem_mem ha),fun hm=>?_⟩⟩
  obtain ⟨i,hi,e⟩:=List.getElem_of_mem hm
  rw [List.length_take] at hi
  rw [List.getElem_take] at e
  have:=(List.getElem_inj h3).1 e
  omega
theorem Vu.wok {views:List (List Int)} (h:Vu views) {i:Nat} (hi:i<views.length):mw (views.getD i []):=by
 rw [Ad hi]
 exact kZ.1 ((Hq.1 h.ok).1 _ (List.getElem_mem hi))
structure nF (x:BL):Prop where
 kind:1≤x.1∧x.1≤8
 frm:1≤x.2.1∧x.2.1≤6
 to:1≤x.2.2.1∧x.2.2.1≤6
 ep:1≤x.2.2.2.1∧x.2.2.2.1≤9
 num:0≤x.2.2.2.2.1∧x.2.2.2.2.1≤1000000000
 items:Az x.2.2.2.2.2=true
 shape:if x.1=2∨x.1=3 then True else if x.1=5 then x.2.2.2.2.2.length=1 else x.2.2.2.2.2=[]
theorem R2 {x:BL}:Nz x=true↔nF x:=by
 unfold Nz
 simp only [Bool.and_eq_true,decide_eq_true_eq]
 constructor
 ·rintro ⟨⟨⟨⟨⟨⟨h1,h2⟩,h3⟩,h4⟩,h5⟩,h6⟩,h7⟩
  refine ⟨h1,h2,h3,h4,h5,h6,?_⟩
  split at h7
  ·rename_i e; rw [if_pos e]; trivial
  ·rename_i e
   rw [if_neg e]
   split at h7
   ·rename_i e2; rw [if_pos e2]; simp only [beq_iff_eq] at h7; omega
   ·rename_i e2; rw [if_neg e2]; simp only [beq_iff_eq] at h7; exact List.length_eq_zero_iff.1 (by omega)
 ·rintro ⟨h1,h2,h3,h4,h5,h6,h7⟩
  refine ⟨⟨⟨⟨⟨⟨h1,h2⟩,h3⟩,h4⟩,h5⟩,h6⟩,?_⟩
  split
  ·rfl
  ·rename_i e
   rw [if_neg e] at h7
   split
   ·rename_i e2; rw [if_pos e2] at h7; simp; omega
   ·rename_i e2; rw [if_neg e2] at h7; simp [h7]
theorem RM:Az []=true:=rfl
def Wp (m n:AB) (l:List BL):Prop:=∀ y∈l,nF y∧y.2.1=m.1∧y.2.2.2.1=n.2.1
theorem Ya {m n:AB} {view:List Int} {k num:Int} {its:List AT} (hm:1≤m.1∧m.1≤6) (he:1≤n.2.1∧n.2.1≤9) (hv:∀ a∈view,1≤a∧a≤6) (hk:1≤k∧k≤8) (hn:0≤num∧num≤1000000000) (hi:Az its=true)
  (hs:if k=2∨k=3 then True else if k=5 then its.length=1 else its=[]):Wp m n ((DJ view m.1).map fun v=>(k,m.1,v,n.2.1,num,its)):=by
 intro y hy
 obtain ⟨v,hv2,rfl⟩:=List.mem_map.1 hy
 exact ⟨⟨hk,hm,hv v (List.mem_filter.1 hv2).1,he,hn,hi,hs⟩,rfl,rfl⟩
theorem N0 {m n:AB} {x:BL} {k:Int} (hm:1≤m.1∧m.1≤6) (hx:nF x) (he:x.2.2.2.1=n.2.1) (hk:k=4∨k=6∨k=8):Wp m n (DZ m x k):=by
 intro y hy
 simp only [DZ,List.mem_singleton] at hy
 subst hy
 refine ⟨⟨by show 1≤k∧k≤8; omega,hm,hx.frm,hx.ep,hx.num,RM,?_⟩,rfl,he⟩
 show if k=2∨k=3 then True else if k=5 then ([]:List AT).length=1 else ([]:List AT)=[]
 rw [if_neg (by omega),if_neg (by omega)]
theorem Ut {m n:AB}:Wp m n []:=fun y hy=>by cases hy
theorem U9:HZ ((0:Int),(0:Int),(0:Int),(ByteArray.empty,ByteArray.empty,(0:Int)),([]:List Int))=true:=by simp [HZ,Yp]
theorem IX.has {m:AB} {view:List Int} {its:List AT} (h:IX m) (hl:m.2.2.2.2.1=true) (hb:m.2.2.2.1=false) (hi:Az its=true):IX (Us m view its):=by
 have hns:m.2.2.2.2.2.1=false:=by
  cases hs:m.2.2.2.2.2.1 with
  | false=>rfl
  | true=>have:=(h.serves hs).1; rw [hb] at this; cases this
 refine ⟨h.id,h.ep,fun hs=>⟨rfl,hl,?_⟩,fun hf=>?_,R1 _ _,h.left,hi,h.count,?_⟩
 ·simp only [Us,beq_iff_eq] at hs ⊢
  exact List.length_eq_zero_iff.1 (by omega)
 ·have:=(h.fell hf).2; rw [hl] at this; cases this
 ·rcases h.task with h1 | h1
  ·exact .inl h1
  ·unfold EM at h1
   rw [hns] at h1
   simp at h1
theorem IX.bare {m:AB} (h:IX m) {e:Int} (he:1≤e∧e≤9):IX (TF m e) :=
 ⟨h.id,he,fun hs=>(by cases hs),fun hf=>(by cases hf),⟨by simp [TF],by simp [TF]⟩,⟨by simp [TF],by simp [TF]⟩,h.items,⟨by simp [TF],by simp [TF]⟩,.inl U9⟩
theorem IX.install {m:AB} (h:IX m) {e:Int} {its:List AT} (he:1≤e∧e≤9) (hi:Az its=true) :
  IX (m.1,e,false,true,false,false,([]:List Int),its,(0:Int),(0:Int),(0:Int),(0:Int),(ByteArray.empty,ByteArray.empty,(0:Int)),([]:List Int)) :=
 ⟨h.id,he,fun hs=>(by cases hs),fun hf=>(by cases hf),⟨by simp,by simp⟩,⟨by simp,by simp⟩,hi,⟨by simp,by simp⟩,.inl U9⟩
theorem IX.clear {m:AB} (h:IX m) {its:List AT} (hi:Az its=true):IX (RK m its) :=
 ⟨h.id,h.ep,h.serves,h.fell,h.waits,⟨by simp [RK],by simp [RK]⟩,hi,h.count,.inl U9⟩
theorem IX.finish {m:AB} (h:IX m):IX (Ez m).2:=by
 unfold Ez
 split
 ·exact h.clear (Wm h.items)
 ·exact h.clear h.items
theorem oL {m:AB} (h:IX m) (h0:m.2.2.2.2.2.2.2.2.2.1≠0):EM m.2.2.2.2.2.2.2.2.2 m.2.2.2.2.2.1=true:=by
 rcases h.task with h1 | h1
 ·unfold HZ at h1
  simp only [Bool.and_eq_true,beq_iff_eq] at h1
  exact absurd h1.1.1.1.1 h0
 ·exact h1
def fM (l:List DR):Prop:=l.length≤1∧∀ s∈l,0≤s.1∧s.1≤1000
theorem E1:fM []:=⟨by simp,fun s hs=>by cases hs⟩
theorem ar {m:AB} (h:IX m) (h0:m.2.2.2.2.2.2.2.2.2.1≠0):fM (Ez m).1:=by
 have h1:=oL h h0
 unfold EM at h1
 simp only [Bool.and_eq_true,decide_eq_true_eq] at h1
 unfold Ez
 split
 ·exact ⟨by simp,fun s hs=>by simp at hs; subst hs; exact h1.1.2⟩
 ·exact ⟨by simp,fun s hs=>by simp at hs; subst hs; exact h1.1.2⟩
structure cc (m:AB) (r:AB×List BL×List DR):Prop where
 mok:IX r.1
 id:r.1.1=m.1
 ep:m.2.1≤r.1.2.1
 told:Wp m r.1 r.2.1
 tlen:r.2.1.length≤4
 said:fM r.2.2
theorem E6 {m:AB} (h:IX m):cc m (m,[],[]):=⟨h,rfl,Int.le_refl _,Ut,by simp,E1⟩
theorem IZ (view:List Int) (id:Int):(DJ view id).length≤view.length:=List.length_filter_le _ _
theorem IX.left_filter {m:AB} (h:IX m) (f:Int):IX (kY m f):=by
 refine ⟨h.id,h.ep,h.serves,h.fell,h.waits,fL h.left _,h.items,h.count,?_⟩
 rcases h.task with h1 | h1
 ·left
  unfold HZ at h1 ⊢
  simp only [Bool.and_eq_true,beq_iff_eq] at h1 ⊢
  refine ⟨h1.1,?_⟩
  have h2:=List.length_filter_le (· != f) m.2.2.2.2.2.2.2.2.2.2.2.2.2
  have h3:=h1.2
  show (((m.2.2.2.2.2.2.2.2.2.2.2.2.2.filter (· != f)).length:Nat):Int)=0
  omega
 ·exact .inr h1
theorem oM {m:AB} {view:List Int} {x:BL} (hm:IX m) (hv:mw view) (hx:nF x) (he:x.2.2.2.1=m.2.1):cc m (TZ m view x):=by
 unfold TZ
 split
 ·split
  ·rename_i h1 h2
   simp only [Bool.and_eq_true,Bool.not_eq_true'] at h2
   refine ⟨hm.has h2.1 h2.2 hx.items,rfl,Int.le_refl _,?_,by simp only [List.length_map]; have:=IZ view m.1; have:=hv.len; omega,E1⟩
   exact Ya (n:=Us m view x.2.2.2.2.2) hm.id hm.ep hv.mem (by omega) (by omega) hx.items (by simp)
  ·exact E6 hm
 ·split
  ·split
   ·exact E6 hm
   ·split
    ·exact E6 hm
    ·split
     ·exact ⟨hm,rfl,Int.le_refl _,N0 hm.id hx he (by omega),by simp [DZ],E1⟩
     ·exact ⟨hm.install hm.ep hx.items,rfl,Int.le_refl _,N0 hm.id hx he (by omega),by simp [DZ],E1⟩
  ·split
   ·split
    ·rename_i hl
     refine ⟨⟨hm.id,hm.ep,fun hs=>?_,hm.fell,fL hm.waits _,hm.left,hm.items,hm.count,?_⟩,rfl,Int.le_refl _,Ut,by simp,E1⟩
     ·simp only [Bool.and_eq_true,beq_iff_eq] at hs
      exact ⟨hs.1,hl,List.length_eq_zero_iff.1 (show (List.filter (· != x.2.1) m.2.2.2.2.2.2.1).length=0 by have h:((List.filter (· != x.2.1) m.2.2.2.2.2.2.1).length:Int)=0:=hs.2; omega)⟩
     ·rcases hm.task with h1 | h1
      ·exact .inl h1
      ·right
       have hs:m.2.2.2.2.2.1=true:=by
        unfold EM at h1
        simp only [Bool.and_eq_true] at h1
        exact h1.1.1.2
       obtain ⟨a,b,c⟩:=hm.serves hs
       rw [hs] at h1
       simp only [c,List.filter_nil,List.length_nil,a,Bool.true_and]
       exact h1
    ·exact E6 hm
   ·split
    ·split
     ·exact ⟨⟨hm.id,hm.ep,hm.serves,hm.fell,hm.waits,hm.left,Wm hm.items,hm.count,hm.task⟩,rfl,Int.le_refl _,N0 hm.id hx he (by omega),by simp [DZ],E1⟩
     ·exact E6 hm
    ·split
     ·split
      ·exact ⟨hm,rfl,Int.le_refl _,N0 hm.id hx he (by omega),by simp [DZ],E1⟩
      ·exact E6 hm
     ·by_cases hc:(x.1=6∨x.1=8)∧m.2.2.2.2.2.2.2.2.2.1=(if x.1=8 then 2 else 1)∧m.2.2.2.2.2.2.2.2.2.2.2.1=x.2.2.2.2.1
      ·rw [if_pos hc]
       have hn:=hm.left_filter x.2.1
       unfold Du
       split
       ·refine ⟨hn.finish,?_,?_,Ut,by simp,ar hn ?_⟩
        ·unfold Ez; split<;>rfl
        ·unfold Ez; split<;>exact Int.le_refl _
        ·have:=hc.2.1
         show m.2.2.2.2.2.2.2.2.2.1≠0
         rw [this]
         split<;>omega
       ·exact ⟨hn,rfl,Int.le_refl _,Ut,by simp,E1⟩
      ·rw [if_neg hc]
       exact E6 hm
theorem fN {m:AB} {views:List (List Int)} {x:BL} (hm:IX m) (hv:Vu views):cc m (C1 m views x):=by
 unfold C1
 split
 ·rename_i hc
  simp only [Bool.and_eq_true,decide_eq_true_eq,beq_iff_eq] at hc
  obtain ⟨⟨⟨h1,h2⟩,h3⟩,h4⟩:=hc
  have hx:=R2.1 h1
  have hvl:=hv.len
  have he:=hm.ep
  split
  ·rename_i e
   exact oM hm (hv.wok (by omega)) hx e
  ·split
   ·refine ⟨hm.bare hx.ep,rfl,h3,fun y hy=>?_,by simp,E1⟩
    simp only [List.mem_singleton] at hy
    subst hy
    exact ⟨⟨by simp,hm.id,hx.frm,hx.ep,by simp,hm.items,by simp⟩,rfl,rfl⟩
   ·split
    ·exact ⟨hm.install hx.ep hx.items,rfl,h3,N0 hm.id hx rfl (by omega),by simp [DZ],E1⟩
    ·exact E6 hm
 ·exact E6 hm
end Go.Proofs.YtaedipailemlcaaGreat.Core

namespace Go.Proofs.YtaedipailemlcaaGreat.Core
open Go
set_option linter.unusedVariables false
set_option linter.unusedSimpArgs false
theorem Yb (a b:Int):Jc a b=some (decide (a<b)):=fC (by
 have h:∀ a,H6 a=some false:=fun a=>cL (by unfold S_; simp)
 unfold Uh
 rw [h,Option.bind_some,if_neg (by simp)])
def iX (l:List Int) (j:Nat):List Int:=(l.set (j+1) (l.getD j 0)).set j (l.getD (j+1) 0)
def mx:Nat→List Int→List Int
 | 0,l=>l
 | j+1,l=>if l.getD (j+1) 0<l.getD j 0 then mx j (iX l j) else l
def pQ:Nat→Nat→List Int→List Int
 | 0,_,l=>l
 | k+1,i,l=>pQ k (i+1) (mx i l)
theorem Yc (l:List Int) (j:Nat):(iX l j).length=l.length:=by simp [iX]
theorem cd:∀ (j:Nat) (l:List Int),(mx j l).length=l.length
 | 0,l=>rfl
 | j+1,l=>by
  unfold mx
  split
  ·rw [cd j,Yc]
  ·rfl
theorem la {l:List Int} {j:Nat} (h:j+1<l.length):(iX l j).Perm l:=by
 obtain ⟨p,a,b,q,rfl,rfl⟩:∃ p a b q,l=p++a::b::q∧p.length=j :=
  ⟨l.take j,l[j],l[j+1],l.drop (j+2),by rw [← List.drop_eq_getElem_cons h,← List.drop_eq_getElem_cons (show j<l.length by omega),List.take_append_drop],by rw [List.length_take]; omega⟩
 have e:iX (p++a::b::q) p.length=p++b::a::q:=by
  unfold iX
  have e1:(p++a::b::q).getD p.length 0=a:=by simp [List.getD]
  have e2:(p++a::b::q).getD (p.length+1) 0=b:=by simp [List.getD]
  rw [e1,e2,List.set_append_right _ _ (by omega),List.set_append_right _ _ (by omega)]
  simp
 rw [e]
 exact List.Perm.append_left p (List.Perm.swap a b q)
theorem jV:∀ (j:Nat) (l:List Int),j<l.length→(mx j l).Perm l
 | 0,l,_=>List.Perm.refl l
 | j+1,l,h=>by
  unfold mx
  split
  ·exact (jV j _ (by rw [Yc]; omega)).trans (la h)
  ·exact List.Perm.refl l
theorem fO:∀ (k i:Nat) (l:List Int),i+k=l.length→(pQ k i l).Perm l
 | 0,_,l,_=>List.Perm.refl l
 | k+1,i,l,h=>(fO k (i+1) _ (by rw [cd]; omega)).trans (jV i l (by omega))
theorem ka {l:List Int} {j:Nat} (h:j+1<l.length) (a:Nat):(iX l j).getD a 0=if a=j then l.getD (j+1) 0 else if a=j+1 then l.getD j 0 else l.getD a 0:=by
 unfold iX
 simp only [List.getD_eq_getElem?_getD,List.getElem?_set,List.length_set]
 by_cases h1:a=j
 ·subst h1
  rw [if_pos rfl,if_pos (by omega),if_pos rfl]
  simp
 ·rw [if_neg (fun e=>h1 e.symm),if_neg h1]
  by_cases h2:a=j+1
  ·subst h2
   rw [if_pos rfl,if_pos (by omega),if_pos rfl]
   simp
  ·rw [if_neg (fun e=>h2 e.symm),if_neg h2]
def pJ (i:Nat) (l:List Int):Prop:=∀ a b,a<b→b≤i→l.getD a 0≤l.getD b 0
theorem my (i:Nat):∀ (j:Nat) (l:List Int),j≤i→i<l.length→(∀ a b,a<b→b≤i→b≠j→l.getD a 0≤l.getD b 0)→pJ i (mx j l)
 | 0,l,_,_,h=>fun a b h1 h2=>h a b h1 h2 (by omega)
 | j+1,l,hj,hi,h=>by
  unfold mx
  split
  ·rename_i hlt
   refine my i j _ (by omega) (by rw [Yc]; exact hi) fun a b h1 h2 h3=>?_
   rw [ka (by omega),ka (by omega)]
   rw [if_neg h3]
   by_cases hb:b=j+1
   ·subst hb
    rw [if_pos rfl]
    by_cases ha:a=j
    ·rw [if_pos ha]; omega
    ·rw [if_neg ha,if_neg (by omega)]
     exact h a j (by omega) (by omega) (by omega)
   ·rw [if_neg hb]
    by_cases ha:a=j
    ·rw [if_pos ha]; exact h (j+1) b (by omega) h2 hb
    ·rw [if_neg ha]
     by_cases ha2:a=j+1
     ·rw [if_pos ha2]; exact h j b (by omega) h2 hb
     ·rw [if_neg ha2]; exact h a b h1 h2 hb
  ·rename_i hlt
   intro a b h1 h2
   by_cases hb:b=j+1
   ·subst hb
    by_cases ha:a=j
    ·subst ha; omega
    ·have:=h a j (by omega) (by omega) (by omega)
     omega
   ·exact h a b h1 h2 hb
theorem mz:∀ (k i:Nat) (l:List Int),i+k=l.length→1≤i→pJ (i-1) l→pJ (l.length-1) (pQ k i l)
 | 0,i,l,h,hi,hu=>by
  have:i-1=l.length-1:=by omega
  rw [← this]; exact hu
 | k+1,i,l,h,hi,hu=>by
  have:=mz k (i+1) (mx i l) (by rw [cd]; omega) (by omega) (by
   rw [Nat.add_sub_cancel]
   exact my i i l (Nat.le_refl _) (by omega) fun a b h1 h2 h3=>hu a b h1 (by omega))
  rw [cd] at this
  exact this
theorem kb (n i:Nat) (hn:n≤12) (g:List Int→List Int) (K:∀ l:List Int,l.length=n→Aj 0 (n:Int) ((i:Int)+1) l=some (g l)) (hi:i<n) :
  ∀ (j:Nat) (l:List Int),j<n→l.length=n→BR 0 (n:Int) (i:Int) (j:Int) l=some (g (mx j l))
 | 0,l,hj,hl=>Df (by
  unfold B5
  rw [if_neg (by simp),AZ (by omega)]
  exact K l hl)
 | j+1,l,hj,hl=>Df (by
  unfold B5
  have e1:IntKind.i64.wrap (((j+1:Nat):Int)-1)=(j:Int):=by rw [AZ (by omega)]; omega
  have e2:((j+1:Nat):Int).toNat=j+1:=by omega
  have e3:((j:Nat):Int).toNat=j:=by omega
  rw [if_pos (by simp<;>omega),if_pos (by omega),if_pos (by omega),e1,if_pos (by omega),if_pos (by omega),Yb,Option.bind_some,e2,e3]
  unfold mx
  by_cases h:l.getD (j+1) 0<l.getD j 0
  ·rw [if_pos (by simpa using h),if_pos h]
   refine HX ?_
   unfold De
   simp only [e1,e2,e3]
   rw [if_pos (by omega),if_pos (by omega),if_pos (by omega),if_pos (by omega),if_pos (by omega),if_pos (by omega),if_pos (by omega),if_pos (by rw [List.length_set]; omega)]
   exact kb n i hn g K hi j (iX l j) (by omega) (by rw [Yc]; exact hl)
  ·rw [if_neg (by simpa using h),if_neg h,AZ (by omega)]
   exact K l hl)
theorem kc (n:Nat) (hn:n≤12):∀ (k i:Nat) (l:List Int),i+k=n→l.length=n→Aj 0 (n:Int) (i:Int) l=some (pQ k i l)
 | 0,i,l,h,hl=>B6 (by
  unfold BS
  rw [if_neg (by simp; omega)]
  rfl)
 | k+1,i,l,h,hl=>B6 (by
  unfold BS
  rw [if_pos (by simp; omega)]
  exact kb n i hn (pQ k (i+1)) (fun l hl=>by have:=kc n hn k (i+1) l (by omega) hl; rw [← this]; congr 1) (by omega) i l (by omega) hl)
set_option maxRecDepth 100000 in
theorem pK (n:Nat) (h:n≤12):∃ r,MA (IntKind.u64.wrap (n:Int))=some r:=by
 have h1:∃ r,Eu (n:Int) 0=some r:=by
  have hs:IntKind.u8.wrap (n:Int)=(n:Int):=by
   have:n=0∨n=1∨n=2∨n=3∨n=4∨n=5∨n=6∨n=7∨n=8∨n=9∨n=10∨n=11∨n=12:=by omega
   rcases this with h | h | h | h | h | h | h | h | h | h | h | h | h<;>subst h<;>rfl
  have ht:∃ r,Gx (n:Int) 0=some r:=by
   unfold Gx
   rw [if_neg (by simp; omega),if_pos (by rw [hs]; omega),if_pos (by
    rw [hs]
    exact Int.lt_of_lt_of_le (show (n:Int)<13 by omega) (by decide))]
   exact ⟨_,rfl⟩
  obtain ⟨r,hr⟩:=ht
  exact ⟨r,Ui hr⟩
 obtain ⟨r,hr⟩:=h1
 have h2:Jd (n:Int)=some r:=YL (by
  unfold PW
  rw [if_neg (by simp; omega)]
  exact Uj (by
   unfold Ly
   rw [if_neg (by simp; omega)]
   exact hr))
 have hu:IntKind.u64.wrap (n:Int)=(n:Int):=by
  have:n=0∨n=1∨n=2∨n=3∨n=4∨n=5∨n=6∨n=7∨n=8∨n=9∨n=10∨n=11∨n=12:=by omega
  rcases this with h | h | h | h | h | h | h | h | h | h | h | h | h<;>subst h<;>rfl
 exact ⟨r,cC (by unfold S3; rw [hu,h2]; rfl)⟩
theorem kf (l:List Int) (h:l.length≤12):∃ r,EO l=some r∧r.Perm l∧r.Pairwise (· ≤ ·):=by
 obtain ⟨b,hb⟩:=pK l.length h
 have hins:∃ r,CQ 0 (l.length:Int) l=some r∧r.Perm l∧r.Pairwise (· ≤ ·):=by
  by_cases h0:l.length=0
  ·have:l=[]:=List.length_eq_zero_iff.1 h0
   subst this
   refine ⟨[],EV ?_,List.Perm.refl _,List.Pairwise.nil⟩
   unfold CR
   refine B6 ?_
   unfold BS
   rw [if_neg (by rw [AZ (by omega)]; simp)]
  ·refine ⟨pQ (l.length-1) 1 l,EV ?_,fO _ _ _ (by omega),?_⟩
   ·unfold CR
    rw [AZ (by omega)]
    exact kc l.length h (l.length-1) 1 l (by omega) rfl
   ·have hu:=mz (l.length-1) 1 l (by omega) (Nat.le_refl _) (fun a b h1 h2=>by omega)
    have hp:=(fO (l.length-1) 1 l (by omega)).length_eq
    rw [List.pairwise_iff_getElem]
    intro i j hi hj hij
    have:=hu i j hij (by omega)
    rwa [Ad hi,Ad hj] at this
 obtain ⟨r,h1,h2,h3⟩:=hins
 refine ⟨r,TQ ?_,h2,h3⟩
 unfold KY
 have hq:Bt 0 (l.length:Int) b l=some r:=M9 (by
  unfold GX
  refine LC ?_
  unfold FZ
  rw [if_pos (by rw [AZ (by omega)]; simp; omega),h1]
  rfl)
 rw [hb,Option.bind_some,hq]
 rfl
theorem kg:∀ {a b:List Int},a.Pairwise (· < ·)→b.Pairwise (· < ·)→(∀ x,x∈a↔x∈b)→a=b
 | [],[],_,_,_=>rfl
 | [],y::b,_,_,h=>absurd ((h y).2 (by simp)) (by simp)
 | x::a,[],_,_,h=>absurd ((h x).1 (by simp)) (by simp)
 | x::a,y::b,ha,hb,h=>by
  rw [List.pairwise_cons] at ha hb
  have hxy:x=y:=by
   have h1:=(h x).1 (by simp)
   have h2:=(h y).2 (by simp)
   rcases List.mem_cons.1 h1 with e | h1
   ·exact e
   ·rcases List.mem_cons.1 h2 with e | h2
    ·exact e.symm
    ·have:=ha.1 y h2
     have:=hb.1 x h1
     omega
  subst hxy
  rw [kg ha.2 hb.2 fun z=>?_]
  constructor
  ·intro hz
   rcases List.mem_cons.1 ((h z).1 (by simp [hz])) with e | h
   ·subst e; have:=ha.1 z hz; omega
   ·exact h
  ·intro hz
   rcases List.mem_cons.1 ((h z).2 (by simp [hz])) with e | h
   ·subst e; have:=hb.1 z hz; omega
   ·exact h
theorem j5 {view:List Int} {id x:Int} (hv:mw view):x∈Fb view id↔x∈DJ view id:=by
 unfold Fb DJ
 simp only [List.mem_filter,Bool.and_eq_true,List.contains_eq_mem,decide_eq_true_eq]
 constructor
 ·rintro ⟨_,h1,h2⟩; exact ⟨h2,h1⟩
 ·rintro ⟨h1,h2⟩
  have:=hv.mem x h1
  refine ⟨?_,h2,h1⟩
  have h5:x=1∨x=2∨x=3∨x=4∨x=5∨x=6:=by omega
  rcases h5 with h | h | h | h | h | h<;>simp [h]
theorem gh {view:List Int} (hv:mw view) (id:Int):EO (DJ view id)=some (Fb view id):=by
 have hl:=IZ view id
 have:=hv.len
 obtain ⟨r,h1,h2,h3⟩:=kf (DJ view id) (by omega)
 rw [h1]
 congr 1
 have hnd:r.Nodup:=h2.nodup_iff.2 (hv.nd.filter _)
 refine kg ?_ (R1 view id).2 fun x=>(h2.mem_iff).trans (j5 hv).symm
 have:=h3.and (List.nodup_iff_pairwise_ne.1 hnd)
 exact this.imp fun {a b} h=>by have:=h.1; have:=h.2; omega
theorem jW {view:List Int} (hv:mw view) (id:Int):(Fb view id).length=(DJ view id).length:=by
 obtain ⟨r,h1,h2,_⟩:=kf (DJ view id) (by have:=IZ view id; have:=hv.len; omega)
 rw [gh hv] at h1
 cases h1
 exact h2.length_eq
end Go.Proofs.YtaedipailemlcaaGreat.Core

namespace Go.Proofs.YtaedipailemlcaaGreat.Core
open Go
set_option linter.unusedVariables false
set_option linter.unusedSimpArgs false
def KG:AB:=((0:Int),(0:Int),false,false,false,false,([]:List Int),([]:List AT),(0:Int),(0:Int),(0:Int),(0:Int),(ByteArray.empty,ByteArray.empty,(0:Int)),([]:List Int))
def VY (m:AB) (views:List (List Int)) (op call:Int) (key val:ByteArray):Bool :=
 m.2.2.2.2.2.1&&(m.2.2.2.2.2.2.2.2.2.1==0)&&decide (m.2.2.2.2.2.2.2.2.1<900)&&(op==1||op==2)&&(decide (0≤call)&&decide (call≤1000))&&(decide (1≤(key.size:Int))&&decide ((key.size:Int)≤12))&&decide ((val.size:Int)≤20)&&(op==1||lX val)&&decide (m.2.1≤(views.length:Int))&&((views.getD (m.2.1-1).toNat []).getD 0 0==m.1)
def N1 (m:AB) (key val:ByteArray):AT:=(key,val,1000*m.2.1+(m.2.2.2.2.2.2.2.2.1+1))
def KH (m:AB) (view:List Int) (op call:Int) (key val:ByteArray):AB :=
 (m.1,m.2.1,m.2.2.1,m.2.2.2.1,m.2.2.2.2.1,m.2.2.2.2.2.1,m.2.2.2.2.2.2.1,m.2.2.2.2.2.2.2.1,m.2.2.2.2.2.2.2.2.1+1,op,call,m.2.2.2.2.2.2.2.2.1+1,N1 m key val,Fb view m.1)
def j6 (m:AB) (view:List Int) (op:Int) (key val:ByteArray):List BL :=
 (DJ view m.1).map fun v=>(if op=1 then 5 else 7,m.1,v,m.2.1,m.2.2.2.2.2.2.2.2.1+1,if op=1 then [N1 m key val] else [])
def aJ (m:AB) (view:List Int) (op call:Int) (key val:ByteArray):AB×List BL×List DR×Bool :=
 if Fb view m.1=[] then ((Ez (KH m view op call key val)).2,[],(Ez (KH m view op call key val)).1,true) else (KH m view op call key val,j6 m view op key val,[],true)
def GJ (m:AB) (views:List (List Int)) (op call:Int) (key val:ByteArray):AB×List BL×List DR×Bool :=
 if VY m views op call key val=true then
  (if op=1∧Yp (.pair .str (.pair .str (.int .i64))) (Fa (Cb m.2.2.2.2.2.2.2.1 (N1 m key val)) key) (N1 m key val)=false then (KG,[],[],false) else aJ m (views.getD (m.2.1-1).toNat []) op call key val)
 else (KG,[],[],false)
theorem cS (m:AB) (views:List (List Int)) (op call:Int) (key val:ByteArray) (hm:IX m) (hv:Vu views):Rp m views op call key val=some (GJ m views op call key val):=iR (by
 have hvl:=hv.len
 have hep:=hm.ep
 have hl:=hm.lens
 have hcnt:=hm.count
 have wm:IntKind.i64.wrap (m.2.1-1)=m.2.1-1:=AZ (by omega)
 have wc:IntKind.i64.wrap (m.2.2.2.2.2.2.2.2.1+1)=m.2.2.2.2.2.2.2.2.1+1:=AZ (by omega)
 have w1:IntKind.i64.wrap (1000*m.2.1)=1000*m.2.1:=AZ (by omega)
 have w2:IntKind.i64.wrap (1000*m.2.1+(m.2.2.2.2.2.2.2.2.1+1))=1000*m.2.1+(m.2.2.2.2.2.2.2.2.1+1):=AZ (by omega)
 unfold Xj
 rw [IY hm,Option.bind_some,if_neg (by simp),E0 hv,Option.bind_some,if_neg (by simp)]
 have bad:VY m views op call key val=false→GJ m views op call key val=(KG,[],[],false):=fun h=>by unfold GJ; rw [h]; rfl
 by_cases c1:m.2.2.2.2.2.1=true
 case neg =>
  rw [if_pos (by simpa using c1),bad (by unfold VY; simp [c1])]
  rfl
 rw [if_neg (by simpa using c1)]
 by_cases c2:m.2.2.2.2.2.2.2.2.2.1=0
 case neg =>
  rw [if_pos (by simpa using c2),bad (by unfold VY; simp [c2])]
  rfl
 rw [if_neg (by simpa using c2)]
 by_cases c3:m.2.2.2.2.2.2.2.2.1<900
 case neg =>
  rw [if_pos (by simp; omega),bad (by unfold VY; simp [c3])]
  rfl
 rw [if_neg (by simp; omega)]
 have view:∀ (hep2:m.2.1≤(views.length:Int)),1≤(views.getD (m.2.1-1).toNat []).length∧(views.getD (m.2.1-1).toNat []).length≤4:=fun h=>hv.get (by omega)
 have L2:∀ (v:List Int) (hv:v.length≤4) (y:AB) (its:List AT),op=1→DV op [] v 0 m y [] (KH m v op call key val) (N1 m key val) its=some (KH m v op call key val,j6 m v op key val,[],true):=by
  intro v hv y its ho
  have key':=Gy (n:=v.length) (P:=fun i=>∀ acc:List BL,acc.length≤i→DV op [] v (i:Int) m y acc (KH m v op call key val) (N1 m key val) its=some (KH m v op call key val,acc++((v.drop i).filter (· != m.1)).map (fun v=>((5:Int),m.1,v,m.2.1,m.2.2.2.2.2.2.2.2.1+1,[N1 m key val])),[],true)) (fun acc ha=>Sp (by
   unfold MI
   rw [if_neg (by simp)]
   simp)) (fun i hi ih acc ha=>Sp (by
   unfold MI
   simp only [show ((i:Int)<(v.length:Int)) from by omega,decide_true,if_true,show (0:Int)≤(i:Int) from by omega,Int.toNat_natCast,Ad hi,AR (show i<9223372036854775807 by omega),ho,beq_self_eq_true]
   rw [ho] at ih
   rw [Bp hi,List.filter_cons]
   by_cases hh:v[i]=m.1
   ·rw [if_pos (by simpa using hh),ih _ (by omega),if_neg (by simpa using hh)]
   ·rw [if_neg (by simpa using hh),if_pos (by simp; omega),ih _ (by simp; omega),if_pos (by simpa using hh),List.map_cons,List.append_assoc]
    rfl)) 0 (by omega) [] (by simp)
  unfold j6
  rw [if_pos ho,if_pos ho]
  exact key'
 have L4:∀ (v:List Int) (hv:v.length≤4) (y:AB),op≠1→DW op [] v 0 m y [] (KH m v op call key val) (N1 m key val)=some (KH m v op call key val,j6 m v op key val,[],true):=by
  intro v hv y ho
  have key':=Gy (n:=v.length) (P:=fun i=>∀ acc:List BL,acc.length≤i→DW op [] v (i:Int) m y acc (KH m v op call key val) (N1 m key val)=some (KH m v op call key val,acc++((v.drop i).filter (· != m.1)).map (fun v=>((7:Int),m.1,v,m.2.1,m.2.2.2.2.2.2.2.2.1+1,([]:List AT))),[],true)) (fun acc ha=>Sq (by
   unfold MJ
   rw [if_neg (by simp)]
   simp)) (fun i hi ih acc ha=>Sq (by
   unfold MJ
   have ho':¬ ((op==1)=true):=by simpa using ho
   simp only [show ((i:Int)<(v.length:Int)) from by omega,decide_true,if_true,show (0:Int)≤(i:Int) from by omega,Int.toNat_natCast,Ad hi,AR (show i<9223372036854775807 by omega),if_neg ho']
   rw [Bp hi,List.filter_cons]
   by_cases hh:v[i]=m.1
   ·rw [if_pos (by simpa using hh),ih _ (by omega),if_neg (by simpa using hh)]
   ·rw [if_neg (by simpa using hh),if_pos (by simp; omega),ih _ (by simp; omega),if_pos (by simpa using hh),List.map_cons,List.append_assoc]
    rfl)) 0 (by omega) [] (by simp)
  unfold j6
  rw [if_neg ho,if_neg ho]
  exact key'
 have nil_iff:∀ l:List Int,((l.length:Int)==0)=true↔l=[]:=fun l=>by
  rw [beq_iff_eq]
  exact ⟨fun h=>List.length_eq_zero_iff.1 (by omega),fun h=>by rw [h]; rfl⟩
 have J1:∀ (b:Bool) (y:AB) (its:List AT),op=1→m.2.1≤(views.length:Int)→MG views op call [] b m y [] (m.1,m.2.1,m.2.2.1,m.2.2.2.1,m.2.2.2.2.1,m.2.2.2.2.2.1,m.2.2.2.2.2.2.1,m.2.2.2.2.2.2.2.1,m.2.2.2.2.2.2.2.2.1+1,m.2.2.2.2.2.2.2.2.2) (N1 m key val) its=some (aJ m (views.getD (m.2.1-1).toNat []) op call key val):=fun b y its ho he=>be (by
  have:=view he
  unfold Sm aJ
  rw [wm,if_pos (by omega),if_pos (by omega),Ha _ _ (by unfold maxLen; omega),Option.bind_some]
  by_cases hz:Fb (views.getD (m.2.1-1).toNat []) m.1=[]
  ·rw [if_pos ((nil_iff _).2 hz),if_pos hz]
   have:=Hc (KH m (views.getD (m.2.1-1).toNat []) op call key val) (by show m.2.2.2.2.2.2.2.1.length≤_; omega)
   unfold KH at this
   simp only
   rw [this]
   rfl
  ·rw [if_neg (fun h=>hz ((nil_iff _).1 h)),if_neg hz]
   exact L2 _ (by omega) y its ho)
 have J3:∀ (b:Bool) (y:AB),op≠1→m.2.1≤(views.length:Int)→MH views op call [] b m y [] (m.1,m.2.1,m.2.2.1,m.2.2.2.1,m.2.2.2.2.1,m.2.2.2.2.2.1,m.2.2.2.2.2.2.1,m.2.2.2.2.2.2.2.1,m.2.2.2.2.2.2.2.2.1+1,m.2.2.2.2.2.2.2.2.2) (N1 m key val)=some (aJ m (views.getD (m.2.1-1).toNat []) op call key val):=fun b y ho he=>bf (by
  have:=view he
  unfold Sn aJ
  rw [wm,if_pos (by omega),if_pos (by omega),Ha _ _ (by unfold maxLen; omega),Option.bind_some]
  by_cases hz:Fb (views.getD (m.2.1-1).toNat []) m.1=[]
  ·rw [if_pos ((nil_iff _).2 hz),if_pos hz]
   have:=Hc (KH m (views.getD (m.2.1-1).toNat []) op call key val) (by show m.2.2.2.2.2.2.2.1.length≤_; omega)
   unfold KH at this
   simp only
   rw [this]
   rfl
  ·rw [if_neg (fun h=>hz ((nil_iff _).1 h)),if_neg hz]
   exact L4 _ (by omega) y ho)
 have J0:∀ (b:Bool) (y:AB),VY m views op call key val=true→m.2.1≤(views.length:Int)→CF views op call key val [] b m y []=some (GJ m views op call key val):=fun b y hmay he=>bg (by
  unfold So GJ
  rw [if_pos hmay,hm.copy,Option.bind_some,wc,w1,w2]
  by_cases ho:op=1
  ·rw [if_pos (by simpa using ho),Gi _ _ (by omega),Option.bind_some,RD _ _ (by have:=aq m.2.2.2.2.2.2.2.1 (key,val,1000*m.2.1+(m.2.2.2.2.2.2.2.2.1+1)); unfold maxLen; omega),Option.bind_some]
   cases hq:Yp (.pair .str (.pair .str (.int .i64))) (Fa (Cb m.2.2.2.2.2.2.2.1 (N1 m key val)) key) (N1 m key val) with
   | false =>
    have hq':Yp AA (Fa (Cb m.2.2.2.2.2.2.2.1 (key,val,1000*m.2.1+(m.2.2.2.2.2.2.2.2.1+1))) key) (key,val,1000*m.2.1+(m.2.2.2.2.2.2.2.2.1+1))=false:=hq
    rw [hq',if_pos (show (true != false)=true from rfl),if_pos (show op=1∧false=false from ⟨ho,rfl⟩)]
    rfl
   | true =>
    have hq':Yp AA (Fa (Cb m.2.2.2.2.2.2.2.1 (key,val,1000*m.2.1+(m.2.2.2.2.2.2.2.2.1+1))) key) (key,val,1000*m.2.1+(m.2.2.2.2.2.2.2.2.1+1))=true:=hq
    rw [hq',if_neg (show ¬ (true != true)=true by simp),if_neg (show ¬ (op=1∧true=false) by rintro ⟨_,h⟩; cases h)]
    exact J1 _ y _ ho he
  ·rw [if_neg (by simpa using ho),if_neg (fun h=>ho h.1)]
   exact J3 _ y ho he)
 have tail:op=1∨op=2→((AO call 0 1000).bind fun y3=>(if (!y3)=true then (some (KG,([]:List BL),([]:List DR),false)) else ((AO (key.size:Int) 1 12).bind fun y4=>(if (!y4)=true then (some (KG,([]:List BL),([]:List DR),false)) else (if (decide ((val.size:Int)>20))=true then (some (KG,([]:List BL),([]:List DR),false)) else (if (op==2)=true then (if (!(val.toList==(⟨#[]⟩:ByteArray).toList))=true then (some (KG,([]:List BL),([]:List DR),false)) else (if (decide (m.2.1>(views.length:Int)))=true then (some (KG,([]:List BL),([]:List DR),false)) else (if 0≤(IntKind.i64.wrap (m.2.1-1)) then (if (IntKind.i64.wrap (m.2.1-1))<(views.length:Int) then (if 0≤(0:Int) then (if (0:Int)<((views.getD (IntKind.i64.wrap (m.2.1-1)).toNat ([]:List Int)).length:Int) then (if (((views.getD (IntKind.i64.wrap (m.2.1-1)).toNat ([]:List Int)).getD (0:Int).toNat 0) != m.1)=true then (some (KG,([]:List BL),([]:List DR),false)) else (CF views op call key val ([]:List DR) (((views.getD (IntKind.i64.wrap (m.2.1-1)).toNat ([]:List Int)).getD (0:Int).toNat 0) != m.1) m KG ([]:List BL))) else none) else none) else none) else none))) else (if (decide (m.2.1>(views.length:Int)))=true then (some (KG,([]:List BL),([]:List DR),false)) else (if 0≤(IntKind.i64.wrap (m.2.1-1)) then (if (IntKind.i64.wrap (m.2.1-1))<(views.length:Int) then (if 0≤(0:Int) then (if (0:Int)<((views.getD (IntKind.i64.wrap (m.2.1-1)).toNat ([]:List Int)).length:Int) then (if (((views.getD (IntKind.i64.wrap (m.2.1-1)).toNat ([]:List Int)).getD (0:Int).toNat 0) != m.1)=true then (some (KG,([]:List BL),([]:List DR),false)) else (CF views op call key val ([]:List DR) (((views.getD (IntKind.i64.wrap (m.2.1-1)).toNat ([]:List Int)).getD (0:Int).toNat 0) != m.1) m KG ([]:List BL))) else none) else none) else none) else none))))))))=some (GJ m views op call key val):=by
  intro hop
  rw [Ah,Option.bind_some,Ah,Option.bind_some,wm]
  cases c5:(decide (0≤call)&&decide (call≤1000)) with
  | false=>rw [bad (by unfold VY; rw [c5]; simp)]; rfl
  | true =>
  rw [if_neg (by simp)]
  cases c6:(decide (1≤(key.size:Int))&&decide ((key.size:Int)≤12)) with
  | false=>rw [bad (by unfold VY; rw [c6]; simp)]; rfl
  | true =>
  rw [if_neg (by simp)]
  by_cases c7:(val.size:Int)≤20
  case neg=>rw [if_pos (by simp; omega),bad (by unfold VY; simp [c7])]
  rw [if_neg (by simp; omega)]
  have last:(op==1||lX val)=true→(if (decide (m.2.1>(views.length:Int)))=true then (some (KG,([]:List BL),([]:List DR),false)) else (if 0≤m.2.1-1 then (if m.2.1-1<(views.length:Int) then (if 0≤(0:Int) then (if (0:Int)<((views.getD (m.2.1-1).toNat ([]:List Int)).length:Int) then (if (((views.getD (m.2.1-1).toNat ([]:List Int)).getD (0:Int).toNat 0) != m.1)=true then (some (KG,([]:List BL),([]:List DR),false)) else (CF views op call key val ([]:List DR) (((views.getD (m.2.1-1).toNat ([]:List Int)).getD (0:Int).toNat 0) != m.1) m KG ([]:List BL))) else none) else none) else none) else none))=some (GJ m views op call key val):=by
   intro c8
   by_cases c9:m.2.1≤(views.length:Int)
   case neg=>rw [if_pos (by simp; omega),bad (by unfold VY; simp [c9])]
   have:=view c9
   rw [if_neg (by simp; omega),if_pos (by omega),if_pos (by omega),if_pos (by omega),if_pos (by omega),show (views.getD (m.2.1-1).toNat ([]:List Int)).getD (0:Int).toNat 0=(views.getD (m.2.1-1).toNat []).getD 0 0 from rfl]
   by_cases c10:(views.getD (m.2.1-1).toNat []).getD 0 0=m.1
   case neg=>rw [if_pos (by simpa using c10),bad (by unfold VY; rw [show ((views.getD (m.2.1-1).toNat []).getD 0 0==m.1)=false from by simpa using c10,Bool.and_false])]
   rw [if_neg (by simpa using c10)]
   refine J0 _ _ ?_ c9
   unfold VY
   rw [c1,c5,c6,c8]
   simp only [c2,beq_self_eq_true,c3,c7,c9,c10,decide_true,Bool.and_true,Bool.true_and]
   rcases hop with h | h<;>simp [h]
  by_cases c8:op=2
  ·rw [if_pos (by simpa using c8)]
   cases ce:lX val with
   | false =>
    rw [if_pos (by rw [jz,ce]; rfl),bad (by unfold VY; rw [ce,show (op==1)=false from by simp [c8]]; simp)]
   | true =>
    rw [if_neg (by rw [jz,ce]; simp)]
    exact last (by rw [ce,Bool.or_true])
  ·rw [if_neg (by simpa using c8)]
   exact last (by rw [show (op==1)=true from by simp; omega]; rfl)
 by_cases c4:op=1
 ·rw [if_neg (by simpa using c4)]
  exact tail (.inl c4)
 ·rw [if_pos (by simpa using c4)]
  by_cases c4':op=2
  ·rw [if_neg (by simpa using c4')]
   exact tail (.inr c4')
  ·rw [if_pos (by simpa using c4'),bad (by unfold VY; rw [show (op==1||op==2)=false from by simp [c4,c4']]; simp)]
   rfl)
structure kh (m:AB) (r:AB×List BL×List DR×Bool):Prop where
 mok:r.2.2.2=true→IX r.1
 id:r.2.2.2=true→r.1.1=m.1
 ep:r.2.2.2=true→r.1.2.1=m.2.1
 told:r.2.2.2=true→Wp m r.1 r.2.1
 tlen:r.2.1.length≤4
 said:fM r.2.2.1
theorem gj {m:AB}:kh m (KG,[],[],false):=⟨fun h=>(by cases h),fun h=>(by cases h),fun h=>(by cases h),fun h=>(by cases h),by simp,E1⟩
theorem lc {m:AB} {views:List (List Int)} {op call:Int} {key val:ByteArray} (h:VY m views op call key val=true) :
  m.2.2.2.2.2.1=true∧m.2.2.2.2.2.2.2.2.2.1=0∧m.2.2.2.2.2.2.2.2.1<900∧(op=1∨op=2)∧(0≤call∧call≤1000)∧(1≤(key.size:Int)∧(key.size:Int)≤12)∧(val.size:Int)≤20∧(op=1∨lX val=true)∧m.2.1≤(views.length:Int)∧(views.getD (m.2.1-1).toNat []).getD 0 0=m.1:=by
 unfold VY at h
 simp only [Bool.and_eq_true,Bool.or_eq_true,decide_eq_true_eq,beq_iff_eq] at h
 obtain ⟨⟨⟨⟨⟨⟨⟨⟨⟨h1,h2⟩,h3⟩,h4⟩,h5⟩,h6⟩,h7⟩,h8⟩,h9⟩,h10⟩:=h
 exact ⟨h1,h2,h3,h4,h5,h6,h7,h8,h9,h10⟩
theorem m3 {m:AB} {key val:ByteArray} (h:IX m) (h3:m.2.2.2.2.2.2.2.2.1<900) (h6:1≤(key.size:Int)∧(key.size:Int)≤12) (h7:(val.size:Int)≤20):Az [N1 m key val]=true:=by
 refine Lz.2 ⟨fun b hb=>?_,?_,by simp⟩
 ·simp only [List.mem_singleton] at hb
  subst hb
  unfold Pa N1
  have:=h.ep
  have:=h.count
  simp only [Bool.and_eq_true,decide_eq_true_eq]
  omega
 ·exact lZ.2 (by simp)
theorem IX.task1 {m:AB} {view:List Int} {op call:Int} {key val:ByteArray} (h:IX m) (h1:m.2.2.2.2.2.1=true) (h3:m.2.2.2.2.2.2.2.2.1<900) (h4:op=1∨op=2) (h5:0≤call∧call≤1000):IX (KH m view op call key val):=by
 have hc:=h.count
 refine ⟨h.id,h.ep,h.serves,h.fell,h.waits,R1 _ _,h.items,?_,.inr ?_⟩
 ·show 0≤m.2.2.2.2.2.2.2.2.1+1∧m.2.2.2.2.2.2.2.2.1+1≤900
  omega
 ·unfold EM KH
  rw [h1]
  simp only [Bool.and_eq_true,Bool.or_eq_true,decide_eq_true_eq,beq_iff_eq]
  exact ⟨⟨⟨h4,trivial⟩,h5⟩,by omega⟩
theorem ld {m:AB} {views:List (List Int)} {op call:Int} {key val:ByteArray} (hm:IX m) (hv:Vu views):kh m (GJ m views op call key val):=by
 unfold GJ
 split
 ·rename_i hmay
  obtain ⟨h1,h2,h3,h4,h5,h6,h7,h8,h9,h10⟩:=lc hmay
  split
  ·exact gj
  ·unfold aJ
   have hep:=hm.ep
   have ht:=hm.task1 (view:=views.getD (m.2.1-1).toNat []) (key:=key) (val:=val) h1 h3 h4 h5
   have h0:(KH m (views.getD (m.2.1-1).toNat []) op call key val).2.2.2.2.2.2.2.2.2.1≠0:=by show op≠0; omega
   have hw:=hv.wok (i:=(m.2.1-1).toNat) (by omega)
   split
   ·exact ⟨fun _=>ht.finish,fun _=>(by unfold Ez; split<;>rfl),fun _=>(by unfold Ez; split<;>rfl),fun _=>Ut,by simp,ar ht h0⟩
   ·refine ⟨fun _=>ht,fun _=>rfl,fun _=>rfl,fun _=>?_,?_,E1⟩
    ·unfold j6
     have hc:=hm.count
     have hi:=m3 hm h3 h6 h7
     refine Ya (n:=KH m (views.getD (m.2.1-1).toNat []) op call key val) hm.id hm.ep hw.mem (by split<;>omega) (by omega) ?_ ?_
     ·split
      ·exact hi
      ·exact RM
     ·by_cases ho:op=1
      ·rw [if_pos ho,if_pos ho,if_neg (by omega),if_pos rfl]; rfl
      ·rw [if_neg ho,if_neg ho,if_neg (by omega),if_neg (by omega)]
    ·unfold j6
     simp only [List.length_map]
     have:=IZ (views.getD (m.2.1-1).toNat []) m.1
     have:=hw.len
     omega
 ·exact gj
def R3 (m:AB) (e:Int):AB:=(m.1,e,false,false,true,false,([]:List Int),m.2.2.2.2.2.2.2.1,(0:Int),(0:Int),(0:Int),(0:Int),(ByteArray.empty,ByteArray.empty,(0:Int)),([]:List Int))
def LI (m:AB) (views:List (List Int)) (e:Int):AB×List BL×Bool :=
 if 2≤e∧e≤(views.length:Int)∧m.2.1<e∧(views.getD (e-1).toNat []).getD 0 0=m.1 then
  if (m.2.2.2.1&&(m.2.1==e-1)&&(views.getD (e-2).toNat []).contains m.1)=true then
   (Us (R3 m e) (views.getD (e-1).toNat []) m.2.2.2.2.2.2.2.1,(DJ (views.getD (e-1).toNat []) m.1).map (fun v=>(3,m.1,v,e,0,m.2.2.2.2.2.2.2.1)),true)
  else (R3 m e,(DJ (views.getD (e-2).toNat []) m.1).map (fun v=>(1,m.1,v,e,0,[])),true)
 else (KG,[],false)
theorem IX.new1 {m:AB} (h:IX m) {e:Int} (he:1≤e∧e≤9):IX (R3 m e) :=
 ⟨h.id,he,fun hs=>(by cases hs),fun hf=>(by cases hf),⟨by simp [R3],by simp [R3]⟩,⟨by simp [R3],by simp [R3]⟩,h.items,⟨by simp [R3],by simp [R3]⟩,.inl U9⟩
theorem cU (m:AB) (views:List (List Int)) (e:Int) (hm:IX m) (hv:Vu views):Rs m views e=some (LI m views e):=iW (by
 have hvl:=hv.len
 have hep:=hm.ep
 have hl:=hm.lens
 unfold YS LI
 rw [IY hm,Option.bind_some,if_neg (by simp),E0 hv,Option.bind_some,if_neg (by simp),Ah,Option.bind_some]
 by_cases h1:2≤e∧e≤(views.length:Int)
 case neg =>
  rw [if_pos (by rw [← Bool.decide_and,decide_eq_false h1]; rfl),if_neg (fun h=>h1 ⟨h.1,h.2.1⟩)]
  rfl
 have we:IntKind.i64.wrap (e-1)=e-1:=AZ (by omega)
 have we2:IntKind.i64.wrap (e-2)=e-2:=AZ (by omega)
 rw [if_neg (by rw [← Bool.decide_and,decide_eq_true h1]; simp),we]
 by_cases h2:m.2.1<e
 case neg =>
  rw [if_pos (by simp; omega),if_neg (fun h=>h2 h.2.2.1)]
  rfl
 have g1:=hv.get (i:=(e-1).toNat) (by omega)
 have g2:=hv.get (i:=(e-2).toNat) (by omega)
 rw [if_neg (by simp; omega),if_pos (by omega),if_pos (by omega),if_pos (by omega),if_pos (by omega),show (views.getD (e-1).toNat ([]:List Int)).getD (0:Int).toNat 0=(views.getD (e-1).toNat []).getD 0 0 from rfl]
 by_cases h3:(views.getD (e-1).toNat []).getD 0 0=m.1
 case neg =>
  rw [if_pos (by simpa using h3),if_neg (fun h=>h3 h.2.2.2)]
  rfl
 rw [if_neg (by simpa using h3),if_pos ⟨h1.1,h1.2,h2,h3⟩]
 have L2:∀ y,Ec views e 0 m y [] ([]++m.2.2.2.2.2.2.2.1) (R3 m e)=some (R3 m e,(DJ (views.getD (e-2).toNat []) m.1).map (fun v=>(1,m.1,v,e,0,[])),true):=by
  intro y
  have hcopy:=(hm.new1 (e:=e) (by omega)).copy
  have key':=Gy (n:=(views.getD (e-2).toNat []).length) (P:=fun i=>∀ acc:List BL,acc.length≤i→Ec views e (i:Int) m y acc ([]++m.2.2.2.2.2.2.2.1) (R3 m e)=some (R3 m e,acc++(((views.getD (e-2).toNat []).drop i).filter (· != m.1)).map (fun v=>((1:Int),m.1,v,e,(0:Int),([]:List AT))),true)) (fun acc ha=>TD (by
   unfold MP
   rw [we2,if_pos (by omega),if_pos (by omega),if_neg (by simp),hcopy]
   simp)) (fun i hi ih acc ha=>TD (by
   unfold MP
   rw [we2,if_pos (by omega),if_pos (by omega)]
   simp only [show ((i:Int)<((views.getD (e-2).toNat ([]:List Int)).length:Int)) from by omega,decide_true,if_true,show (0:Int)≤(i:Int) from by omega,Int.toNat_natCast,AR (show i<9223372036854775807 by omega),show (0:Int)≤e-2 from by omega,show e-2<(views.length:Int) from by omega]
   rw [Ad hi,Bp hi,List.filter_cons]
   by_cases hh:((views.getD (e-2).toNat ([]:List Int))[i] != m.1)=true
   ·rw [if_pos hh,if_pos (by simp; omega),ih _ (by simp; omega),if_pos hh,List.map_cons,List.append_assoc]
    rfl
   ·rw [if_neg hh,ih _ (by omega),if_neg hh])) 0 (by omega) [] (by simp)
  exact key'
 have J1:∀ (b:Bool) y,F4 views e b m y []=some (if b=true then (Us (R3 m e) (views.getD (e-1).toNat []) m.2.2.2.2.2.2.2.1,(DJ (views.getD (e-1).toNat []) m.1).map (fun v=>(3,m.1,v,e,0,m.2.2.2.2.2.2.2.1)),true) else (R3 m e,(DJ (views.getD (e-2).toNat []) m.1).map (fun v=>(1,m.1,v,e,0,[])),true)):=fun b y=>cN (by
  unfold TB
  rw [we,if_pos (by simp; omega)]
  cases b
  ·rw [if_neg (by simp)]
   exact L2 y
  ·rw [if_pos rfl,if_pos (by omega),if_pos (by omega)]
   have hh:=RL (views.getD (e-1).toNat []) m.2.2.2.2.2.2.2.1 (R3 m e) (by omega) (by omega)
   have hc:=((hm.new1 (e:=e) (by omega)).has (view:=views.getD (e-1).toNat []) (its:=m.2.2.2.2.2.2.2.1) rfl rfl hm.items).copy
   unfold R3 at hh hc ⊢
   simp only [List.nil_append]
   rw [hh,Option.bind_some,hc]
   rfl)
 refine cO ?_
 unfold TC
 rw [we,we2,CG _ _ (by unfold maxLen; omega),Option.bind_some]
 simp only [J1]
 rw [if_pos (show (0:Int)≤e-2 by omega),if_pos (show e-2<(views.length:Int) by omega)]
 cases m.2.2.2.1<;>cases (m.2.1==e-1)<;>cases (views.getD (e-2).toNat ([]:List Int)).contains m.1<;>rfl)
theorem lf {m:AB} {views:List (List Int)} {e:Int} (hm:IX m) (hv:Vu views):(LI m views e).2.2=true→IX (LI m views e).1∧(LI m views e).1.1=m.1∧Wp m (LI m views e).1 (LI m views e).2.1∧(LI m views e).2.1.length≤4:=by
 intro h
 have hvl:=hv.len
 have hep:=hm.ep
 unfold LI at h ⊢
 split
 ·rename_i hc
  have he:1≤e∧e≤9:=by omega
  split
  ·have hw:=hv.wok (i:=(e-1).toNat) (by omega)
   refine ⟨(hm.new1 he).has rfl rfl hm.items,rfl,Ya (n:=Us (R3 m e) (views.getD (e-1).toNat []) m.2.2.2.2.2.2.2.1) hm.id he hw.mem (by omega) (by omega) hm.items (by simp),?_⟩
   simp only [List.length_map]
   have:=IZ (views.getD (e-1).toNat []) m.1
   have:=hw.len
   omega
  ·have hw:=hv.wok (i:=(e-2).toNat) (by omega)
   refine ⟨hm.new1 he,rfl,Ya (n:=R3 m e) hm.id he hw.mem (by omega) (by omega) RM (by simp),?_⟩
   simp only [List.length_map]
   have:=IZ (views.getD (e-2).toNat []) m.1
   have:=hw.len
   omega
 ·rename_i hc
  rw [if_neg hc] at h
  cases h
def Uu (m:AB):AB:=(m.1,m.2.1,true,false,false,false,([]:List Int),([]:List AT),(0:Int),(0:Int),(0:Int),(0:Int),(ByteArray.empty,ByteArray.empty,(0:Int)),([]:List Int))
theorem gF (m:AB):UB m=some (Uu m):=jR rfl
theorem IX.fall1 {m:AB} (h:IX m):IX (Uu m) :=
 ⟨h.id,h.ep,fun hs=>(by cases hs),fun hf=>⟨rfl,rfl⟩,⟨by simp [Uu],by simp [Uu]⟩,⟨by simp [Uu],by simp [Uu]⟩,RM,⟨by simp [Uu],by simp [Uu]⟩,.inl U9⟩
def Gz (id:Int) (views:List (List Int)):AB :=
 (id,(1:Int),false,(views.getD 0 []).contains id,((views.getD 0 []).getD 0 0==id),((views.getD 0 []).getD 0 0==id),([]:List Int),([]:List AT),(0:Int),(0:Int),(0:Int),(0:Int),(ByteArray.empty,ByteArray.empty,(0:Int)),([]:List Int))
theorem VZ (id:Int) (views:List (List Int)) (hi:1≤id∧id≤6) (hv:Vu views):Kp id views=some (Gz id views,true):=Zj (by
 have hvl:=hv.len
 have g:=hv.get (i:=0) (by omega)
 unfold Qu
 rw [E0 hv,Option.bind_some,if_pos (by rfl),Ah,Option.bind_some,if_neg (by rw [← Bool.decide_and,decide_eq_true hi]; simp)]
 refine VP ?_
 unfold Mn
 rw [show views.getD (0:Int).toNat ([]:List Int)=views.getD 0 [] from rfl,CG _ _ (by unfold maxLen; omega),Option.bind_some]
 repeat rw [if_pos (by omega)]
 rfl)
theorem IX.first1 {id:Int} {views:List (List Int)} (hi:1≤id∧id≤6) (hv:Vu views):IX (Gz id views):=by
 have hvl:=hv.len
 have g:=hv.get (i:=0) (by omega)
 refine ⟨hi,by simp [Gz],fun hs=>⟨?_,hs,rfl⟩,fun hf=>(by cases hf),⟨by simp [Gz],by simp [Gz]⟩,⟨by simp [Gz],by simp [Gz]⟩,RM,⟨by simp [Gz],by simp [Gz]⟩,.inl U9⟩
 simp only [Gz,beq_iff_eq] at hs ⊢
 rw [← hs,List.contains_iff_mem,Ad (show 0<(views.getD 0 []).length by omega)]
 exact List.getElem_mem _
end Go.Proofs.YtaedipailemlcaaGreat.Core

namespace Go.Proofs.YtaedipailemlcaaGreat.Core
open Go
set_option linter.unusedVariables false
set_option linter.unusedSimpArgs false
theorem au (x:List Int) (n:Int) (h:x.length≤maxLen):Ck x n=some (x.contains n):=N5 (by
 have hm:x.length≤9223372036854775807:=h
 have key:=Gy (n:=x.length) (P:=fun i=>∃ r,B4 x n (x.length:Int) (i:Int)=some r∧(decide (r≥0)=(x.drop i).contains n)) ⟨-1,Bd (by
  unfold BG
  rw [if_neg (by simp)]),by simp⟩ (fun i hi ⟨r,hr,hc⟩=>by
  by_cases e:n=x[i]
  ·refine ⟨(i:Int),Bd ?_,?_⟩
   ·unfold BG
    simp only [show ((i:Int)<(x.length:Int)) from by omega,decide_true,if_true,show (0:Int)≤(i:Int) from by omega,Int.toNat_natCast,Ad hi]
    rw [if_pos (by simpa using e)]
   ·rw [Bp hi,List.contains_cons,e]
    simp only [beq_self_eq_true,Bool.true_or]
    exact decide_eq_true (by omega)
  ·refine ⟨r,Bd ?_,?_⟩
   ·unfold BG
    simp only [show ((i:Int)<(x.length:Int)) from by omega,decide_true,if_true,show (0:Int)≤(i:Int) from by omega,Int.toNat_natCast,Ad hi,AR (show i<9223372036854775807 by omega)]
    rw [if_neg (by simpa using e)]
    exact hr
   ·rw [Bp hi,hc,List.contains_cons]
    simp [e]) 0 (by omega)
 obtain ⟨r,hr,hc⟩:=key
 unfold HM
 have:CY x n=some r:=Jt hr
 rw [this,Option.bind_some,hc,List.drop_zero])
theorem Uv (m:AB) (h1:m.2.2.2.2.2.2.1.length≤68719476736) (h2:m.2.2.2.2.2.2.2.1.length≤68719476736) (h3:m.2.2.2.2.2.2.2.2.2.2.2.2.2.length≤68719476736):Ej m=some m:=Xm (by
 unfold O7
 rw [Dr h1,Option.bind_some,An h2,Option.bind_some,Dr h3,Option.bind_some])
theorem IX.icopy {m:AB} (h:IX m):Ej m=some m:=by
 obtain ⟨h1,h2,h3⟩:=h.lens
 exact Uv m (by omega) (by omega) (by omega)
theorem Yd (x:BL) (h:x.2.2.2.2.2.length≤68719476736):NW x=some x:=ew (by
 unfold Ua
 rw [An h,Option.bind_some])
theorem aK (view:List Int) (m:AB) (h:view.length≤68719476736):Gr view m=some (DJ view m.1,m):=UR (by
 unfold Lt
 have key:=Gy (n:=view.length) (P:=fun i=>∀ acc:List Int,acc.length≤i→CO view (view.length:Int) (i:Int) m acc=some (acc++(view.drop i).filter (· != m.1),m)) (fun acc ha=>Io (by
  unfold FU
  rw [if_neg (by simp)]
  simp)) (fun i hi ih acc ha=>Io (by
  unfold FU
  simp only [show ((i:Int)<(view.length:Int)) from by omega,decide_true,if_true,show (0:Int)≤(i:Int) from by omega,Int.toNat_natCast,Ad hi,AR (show i<9223372036854775807 by omega)]
  rw [Bp hi,List.filter_cons]
  by_cases hh:(view[i] != m.1)=true
  ·rw [if_pos hh,if_pos (by simp; omega),ih _ (by simp; omega),if_pos hh,List.append_assoc]
   rfl
  ·rw [if_neg hh,ih _ (by omega),if_neg hh])) 0 (by omega) [] (by simp)
 exact key)
def ph (m:AB) (ids:List Int) (x:BL):List BL:=ids.map fun v=>(x.1,m.1,v,m.2.1,x.2.2.2.2)
theorem Cc (ids:List Int) (x:BL) (m:AB) (h:ids.length≤68719476736) (hx:x.2.2.2.2.2.length≤68719476736):BC ids x m=some (ph m ids x,m):=TR (by
 unfold Ka
 have key:=Gy (n:=ids.length) (P:=fun i=>∀ acc:List BL,acc.length≤i→C5 ids (ids.length:Int) (i:Int) m x acc=some (acc++(ids.drop i).map (fun v=>(x.1,m.1,v,m.2.1,x.2.2.2.2)),m)) (fun acc ha=>Hi (by
  unfold E5
  rw [if_neg (by simp)]
  simp)) (fun i hi ih acc ha=>Hi (by
  unfold E5
  simp only [show ((i:Int)<(ids.length:Int)) from by omega,decide_true,if_true,show (0:Int)≤(i:Int) from by omega,Int.toNat_natCast,Ad hi,AR (show i<9223372036854775807 by omega)]
  rw [Yd x hx,Option.bind_some,if_pos (by simp; omega),ih _ (by simp; omega),Bp hi,List.map_cons,List.append_assoc]
  rfl)) 0 (by omega) [] (by simp)
 exact key)
def qB (m:AB):AB:=(m.1,m.2.1,m.2.2.1,m.2.2.2.1,false,false,([]:List Int),m.2.2.2.2.2.2.2.1,(0:Int),(0:Int),(0:Int),(0:Int),(ByteArray.empty,ByteArray.empty,(0:Int)),([]:List Int))
theorem Vw (m:AB):GR m=some (qB m):=YK rfl
theorem Wq (view:List Int) (its:List AT) (m:AB) (hv:mw view) (hi:its.length≤68719476736) (hs:m.2.2.2.2.2.1=false) :
  Fl view its m=some ((DJ view m.1).map (fun v=>(3,m.1,v,m.2.1,0,its)),Us m view its):=Rw (by
 have hvl:=hv.len
 have hrl:=IZ view m.1
 unfold Ju
 rw [aK view m (by omega),Option.bind_some,An hi,Option.bind_some,Dr (by show (DJ view m.1).length≤_; omega),Option.bind_some,gh hv,Option.bind_some]
 have ho:=jW hv m.1
 unfold Us
 rw [ho]
 by_cases h0:(DJ view m.1).length=0
 ·rw [if_pos (by simpa using h0),Cc _ _ _ (by show (DJ view m.1).length≤_; omega) hi,Option.bind_some,h0]
  rfl
 ·rw [if_neg (by simpa using h0),Cc _ _ _ (by show (DJ view m.1).length≤_; omega) hi,Option.bind_some]
  have:(((DJ view m.1).length:Int)==0)=false:=by simpa using h0
  rw [this]
  show some (_,(m.1,m.2.1,m.2.2.1,true,m.2.2.2.2.1,m.2.2.2.2.2.1,_))=_
  rw [hs]
  rfl)
theorem Pf (v:List Int) (x:Int) (h:v.length≤68719476736):Ja v x=some (v.filter (· != x)):=eo (by
 unfold UV
 rw [Dr h,Option.bind_some,M8,Option.bind_some]
 rfl)
theorem fP (m:AB) (h:m.2.2.2.2.2.2.2.1.length≤34359738367):IG m=some (Ez m):=WV (by
 unfold Nj Ez
 rw [Pc _ _ h,RE _ _ (by unfold maxLen; omega)]
 split
 ·rw [Option.bind_some]
  refine KZ ?_
  unfold GG
  rfl
 ·rw [Option.bind_some]
  refine KZ ?_
  unfold GG
  rfl)
def m4 (m:AB) (views:List (List Int)) (x:BL):List BL×AB :=
 if (x.2.2.2.1==m.2.1+1&&m.2.2.2.1&&(views.getD (m.2.1-1).toNat []).contains m.1)=true then ([(2,m.1,x.2.1,x.2.2.2.1,0,m.2.2.2.2.2.2.2.1)],TF m x.2.2.2.1) else ([],m)
theorem fQ (m:AB) (views:List (List Int)) (x:BL) (hm:IX m) (hv:Vu views) (he:m.2.1≤views.length) :
  IH views x m=some (m4 m views x):=Wb (by
 have hvl:=hv.len
 have hep:=hm.ep
 obtain ⟨l1,l2,l3⟩:=hm.lens
 have hf:m.2.2.2.1=true→m.2.2.1=false:=fun h=>by
  cases hh:m.2.2.1 with
  | false=>rfl
  | true=>rw [(hm.fell hh).1] at h; cases h
 unfold Ns m4
 rw [AZ (n:=m.2.1+1) (by omega),AZ (n:=m.2.1-1) (by omega)]
 by_cases c1:x.2.2.2.1=m.2.1+1
 case neg=>rw [if_pos (by simpa using c1),if_neg (by simp [c1])]
 rw [if_neg (by simpa using c1)]
 by_cases c2:m.2.2.2.1=true
 case neg=>rw [if_pos (by simpa using c2),if_neg (by simp [c2])]
 rw [if_neg (by simpa using c2),if_pos (by omega),if_pos (by omega),au _ _ (by have:=(hv.get (i:=(m.2.1-1).toNat) (by omega)).2; unfold maxLen; omega),Option.bind_some]
 cases c3:(views.getD (m.2.1-1).toNat []).contains m.1 with
 | false=>rw [if_pos (by rfl),if_neg (by simp)]
 | true =>
  rw [if_neg (by simp),if_pos (by simp [c1,c2])]
  exact TS (by
   unfold Kc
   rw [Vw,Option.bind_some,Cc _ _ _ (by simp) (by show m.2.2.2.2.2.2.2.1.length≤_; omega),Option.bind_some]
   show some (_,(m.1,x.2.2.2.1,m.2.2.1,_))=_
   rw [hf c2]
   rfl))
def m5 (m:AB) (e:Int) (its:List AT):AB:=(m.1,e,false,true,false,false,([]:List Int),its,(0:Int),(0:Int),(0:Int),(0:Int),(ByteArray.empty,ByteArray.empty,(0:Int)),([]:List Int))
def m6 (m:AB) (view:List Int) (x:BL):List BL×AB :=
 if (!view.contains m.1||(view.getD 0 0==m.1))=true then ([],m)
 else if x.2.2.2.1>m.2.1∨(m.2.2.2.1=false∧m.2.2.1=false) then ([(4,m.1,x.2.1,x.2.2.2.1,0,([]:List AT))],m5 m x.2.2.2.1 x.2.2.2.2.2)
 else if m.2.2.2.1=false then ([],m) else ([(4,m.1,x.2.1,m.2.1,0,([]:List AT))],m)
theorem Ye (m:AB) (view:List Int) (x:BL) (hv:mw view) (hx:x.2.2.2.2.2.length≤68719476736) :
  GC view x m=some (m6 m view x):=TU (by
 have hvl:=hv.len
 unfold Ke m6
 rw [au _ _ (by unfold maxLen; omega),Option.bind_some]
 cases c3:view.contains m.1 with
 | false=>rw [if_pos (by rfl),if_pos (by rfl)]
 | true =>
  rw [if_neg (by simp),if_pos (by omega),if_pos (by omega)]
  by_cases c4:view.getD 0 0=m.1
  ·rw [if_pos (by simpa using c4),if_pos (by rw [c4]; simp)]
  ·rw [if_neg (by simpa using c4),if_neg (by have:(view.getD 0 0==m.1)=false:=(by simpa using c4); rw [this]; simp)]
   have J1:∀ b:Bool,CB b m x=some (if b=true then ([(4,m.1,x.2.1,x.2.2.2.1,0,([]:List AT))],m5 m x.2.2.2.1 x.2.2.2.2.2) else if m.2.2.2.1=false then ([],m) else ([(4,m.1,x.2.1,m.2.1,0,([]:List AT))],m)):=fun b=>Ps (by
    unfold Hk
    cases b with
    | true =>
     rw [if_pos rfl,if_pos rfl,An hx,Option.bind_some,Vw,Option.bind_some,Cc _ _ _ (by simp) (by simp),Option.bind_some]
     rfl
    | false =>
     simp only [Bool.false_eq_true,if_false]
     cases hb:m.2.2.2.1 with
     | false=>simp
     | true =>
      simp only [Bool.not_true,Bool.false_eq_true,if_false,Bool.true_eq_false]
      rw [Cc _ _ _ (by simp) (by simp),Option.bind_some]
      rfl)
   refine Pt ?_
   unfold Hl
   rw [J1,J1,J1]
   by_cases c5:x.2.2.2.1>m.2.1
   ·rw [if_pos (by simpa using c5)]
    simp [c5]
   ·rw [if_neg (by simpa using c5)]
    cases hb:m.2.2.2.1<;>cases hf:m.2.2.1<;>simp [c5])
def iY (m:AB) (x:BL):List BL×AB :=
 if (x.2.2.2.1==m.2.1&&m.2.2.2.1)=true then
  (if x.1=7 then ([(8,m.1,x.2.1,m.2.1,x.2.2.2.2.1,([]:List AT))],m)
  else ([(6,m.1,x.2.1,m.2.1,x.2.2.2.2.1,([]:List AT))],(m.1,m.2.1,m.2.2.1,m.2.2.2.1,m.2.2.2.2.1,m.2.2.2.2.2.1,m.2.2.2.2.2.2.1,Cb m.2.2.2.2.2.2.2.1 (x.2.2.2.2.2.getD 0 (ByteArray.empty,ByteArray.empty,(0:Int))),m.2.2.2.2.2.2.2.2)))
 else ([],m)
theorem cV (m:AB) (x:BL) (hm:m.2.2.2.2.2.2.2.1.length≤12) (h5:x.1≠7→0<x.2.2.2.2.2.length) :
  HS x m=some (iY m x):=VR (by
 unfold Mp iY
 by_cases c1:x.2.2.2.1=m.2.1
 case neg=>rw [if_pos (by simpa using c1),if_neg (by simp [c1])]
 rw [if_neg (by simpa using c1)]
 by_cases c2:m.2.2.2.1=true
 case neg=>rw [if_pos (by simpa using c2),if_neg (by simp [c2])]
 rw [if_neg (by simpa using c2),if_pos (by simp [c1,c2])]
 refine Rx ?_
 unfold Jw
 by_cases c7:x.1=7
 ·rw [if_pos (by simpa using c7),if_pos c7,Cc _ _ _ (by simp) (by simp),Option.bind_some]
  rfl
 ·have:=h5 c7
  rw [if_neg (by simpa using c7),if_neg c7,if_pos (by omega),if_pos (by omega),Pc _ _ (by omega),Option.bind_some,Cc _ _ _ (by simp) (by simp),Option.bind_some]
  rfl)
theorem RN (m:AB) (op:Int) (x:BL) (hm:IX m) :
  Ek op x m=some (if (x.2.2.2.1==m.2.1&&m.2.2.2.2.2.2.2.2.2.1==op&&m.2.2.2.2.2.2.2.2.2.2.2.1==x.2.2.2.2.1)=true then ((Du m x.2.1).2.2,(Du m x.2.1).1) else ([],m)):=UW (by
 obtain ⟨l1,l2,l3⟩:=hm.lens
 unfold Lu
 by_cases c1:x.2.2.2.1=m.2.1
 case neg=>rw [if_pos (by simpa using c1),if_neg (by simp [c1])]
 rw [if_neg (by simpa using c1)]
 by_cases c2:m.2.2.2.2.2.2.2.2.2.1=op
 case neg=>rw [if_pos (by simpa using c2),if_neg (by simp [c2])]
 rw [if_neg (by simpa using c2)]
 by_cases c3:m.2.2.2.2.2.2.2.2.2.2.2.1=x.2.2.2.2.1
 case neg=>rw [if_pos (by simpa using c3),if_neg (by simp [c3])]
 rw [if_neg (by simpa using c3),if_pos (by simp [c1,c2,c3])]
 refine Q1 ?_
 unfold Ir Du
 rw [Pf _ _ (by omega),Option.bind_some]
 by_cases c4:(m.2.2.2.2.2.2.2.2.2.2.2.2.2.filter (· != x.2.1)).length=0
 ·rw [if_neg (by rw [c4]; decide),if_pos (by rw [c4]; decide),fP _ (by show m.2.2.2.2.2.2.2.1.length≤_; omega)]
  rfl
 ·rw [if_pos (decide_eq_true (by omega)),if_neg (by rw [beq_iff_eq]; omega)]
  rfl)
end Go.Proofs.YtaedipailemlcaaGreat.Core

namespace Go.Proofs.YtaedipailemlcaaGreat.Core
open Go
set_option linter.unusedVariables false
set_option linter.unusedSimpArgs false
def iZ (x:BL):BL:=if x.1=3 then (x.1,x.2.1,x.2.2.1,x.2.2.2.1,0,x.2.2.2.2.2) else x
def Is (m:AB) (views:List (List Int)) (x:BL):AB×List BL×List DR:=if Nz x=true then C1 m views (iZ x) else (m,[],[])
theorem m7 (x:BL):(iZ x).2.2.1=x.2.2.1∧(iZ x).2.2.2.1=x.2.2.2.1:=by unfold iZ; split<;>exact ⟨rfl,rfl⟩
theorem U_ {m:AB} {views:List (List Int)} {x:BL} (h:¬ (x.2.2.1=m.1∧m.2.1≤x.2.2.2.1∧x.2.2.2.1≤(views.length:Int)∧Nz x=true)):Is m views x=(m,[],[]):=by
 unfold Is
 split
 ·rename_i hx
  unfold C1
  rw [if_neg (by
   rw [(m7 x).1,(m7 x).2]
   simp only [Bool.and_eq_true,beq_iff_eq,decide_eq_true_eq]
   exact fun g=>h ⟨g.1.1.2,g.1.2,g.2,hx⟩)]
 ·rfl
theorem cf {x:BL} (h:x.1≠3):iZ x=x:=if_neg h
theorem jX {m:AB} {views:List (List Int)} {x:BL} (hx:nF x) (h1:x.2.2.1=m.1) (h2:m.2.1≤x.2.2.2.1) (h3:x.2.2.2.1≤(views.length:Int)):C1 m views x =
  (if x.2.2.2.1=m.2.1 then TZ m (views.getD (m.2.1-1).toNat []) x
  else if (x.1==1&&(x.2.2.2.1==m.2.1+1)&&m.2.2.2.1&&(views.getD (m.2.1-1).toNat []).contains m.1)=true then (TF m x.2.2.2.1,[(2,m.1,x.2.1,x.2.2.2.1,0,m.2.2.2.2.2.2.2.1)],[])
  else if (x.1==3&&(views.getD (x.2.2.2.1-1).toNat []).contains m.1&&((views.getD (x.2.2.2.1-1).toNat []).getD 0 0 != m.1))=true then
   ((m.1,x.2.2.2.1,false,true,false,false,([]:List Int),x.2.2.2.2.2,(0:Int),(0:Int),(0:Int),(0:Int),(ByteArray.empty,ByteArray.empty,(0:Int)),([]:List Int)),DZ m x 4,[])
  else (m,[],[])):=by
 unfold C1
 rw [if_pos (by rw [R2.2 hx]; simp [h1,h2,h3])]
theorem Yf {a:AB} {b:List BL} {c:List DR} {r:AB×List BL×List DR} (h:r=(a,b,c)):(b,c,a)=(r.2.1,r.2.2,r.1):=by rw [h]
theorem fR (m:AB) (views:List (List Int)) (x:BL) (hm:IX m) (hv:Vu views) (hx:nF x) (h1:x.2.2.1=m.1) (h2:m.2.1≤x.2.2.2.1) (h3:x.2.2.2.1≤(views.length:Int)) :
  IF views x m=some ((Is m views x).2.1,(Is m views x).2.2,(Is m views x).1):=WS (by
 have hvl:=hv.len
 have hep:=hm.ep
 have hxe:=hx.ep
 have hxi:=HK hx.items
 obtain ⟨l1,l2,l3⟩:=hm.lens
 have hin:=jX hx h1 h2 h3
 unfold Ng Is
 rw [if_pos (R2.2 hx)]
 have hV:=hv.wok (i:=(m.2.1-1).toNat) (by omega)
 generalize hVe:views.getD (m.2.1-1).toNat []=V at hV hin
 have hk:=hx.kind
 by_cases k1:x.1=1
 ·rw [if_pos (by simpa using k1),fQ m views x hm hv (by omega),Option.bind_some,cf (by omega)]
  congr 1
  apply Yf
  rw [hin]
  unfold m4
  rw [hVe]
  by_cases e:x.2.2.2.1=m.2.1
  ·rw [if_pos e,if_neg (by rw [e]; simp; omega)]
   unfold TZ
   simp [k1]
  ·rw [if_neg e]
   cases hc:(x.2.2.2.1==m.2.1+1&&m.2.2.2.1&&V.contains m.1) with
   | true =>
    rw [if_pos (by rw [k1]; simpa using hc),if_pos rfl]
   | false =>
    rw [if_neg (by rw [k1]; simpa using hc),if_neg (by simp [k1]),if_neg (by simp)]
 rw [if_neg (by simpa using k1)]
 by_cases k2:x.1=2
 ·have J:∀ b:Bool,(b=true→m.2.2.2.1=false)→Cm views b m x=some (if b=true then ((DJ V m.1).map (fun v=>(3,m.1,v,m.2.1,0,x.2.2.2.2.2)),[],Us m V x.2.2.2.2.2) else ([],[],m)):=fun b hb=>TM (by
   unfold KU
   cases b with
   | false=>rw [if_neg (by simp),if_neg (by simp)]
   | true =>
    have hs:m.2.2.2.2.2.1=false:=by
     cases hh:m.2.2.2.2.2.1 with
     | false=>rfl
     | true=>have:=(hm.serves hh).1; rw [hb rfl] at this; cases this
    rw [if_pos rfl,if_pos rfl,AZ (by omega),if_pos (by omega),if_pos (by omega),hVe,Wq V _ m hV (by omega) hs,Option.bind_some])
  rw [if_pos (by simpa using k2),cf (by omega)]
  by_cases e:x.2.2.2.1=m.2.1
  ·rw [if_pos (by simpa using e)]
   have ho:C1 m views x=(if (m.2.2.2.2.1&&!m.2.2.2.1)=true then (Us m V x.2.2.2.2.2,(DJ V m.1).map (fun v=>(3,m.1,v,m.2.1,0,x.2.2.2.2.2)),[]) else (m,[],[])):=by
    rw [hin,if_pos e]; unfold TZ; rw [if_pos k2]
   rw [ho]
   cases hl:m.2.2.2.2.1 with
   | false=>rw [if_neg (by simp),J false (by simp),if_neg (by simp),if_neg (by simp)]
   | true =>
    rw [if_pos (by rfl),J _ (by simp)]
    cases hb:m.2.2.2.1 with
    | true=>rw [if_neg (by simp),if_neg (by simp)]
    | false=>rw [if_pos (by rfl),if_pos (by rfl)]
  ·rw [if_neg (by simpa using e),J false (by simp),if_neg (by simp)]
   congr 1
   apply Yf
   rw [hin,if_neg e,if_neg (by simp [k2]),if_neg (by simp [k2])]
 rw [if_neg (by simpa using k2)]
 by_cases k3:x.1=3
 ·have hW:=hv.wok (i:=(x.2.2.2.1-1).toNat) (by omega)
  rw [if_pos (by simpa using k3),AZ (by omega),if_pos (by omega),if_pos (by omega)]
  have hx':nF (iZ x):=by
   unfold iZ
   rw [if_pos k3]
   exact ⟨hx.kind,hx.frm,hx.to,hx.ep,(show (0:Int)≤0∧(0:Int)≤1000000000 from by decide),hx.items,hx.shape⟩
  have hf:iZ x=(x.1,x.2.1,x.2.2.1,x.2.2.2.1,0,x.2.2.2.2.2):=if_pos k3
  have hin2:=jX (m:=m) (views:=views) hx' (by rw [hf]; exact h1) (by rw [hf]; exact h2) (by rw [hf]; exact h3)
  rw [hVe] at hin2
  generalize hWe:views.getD (x.2.2.2.1-1).toNat []=Wv at hW
  rw [Ye m Wv x hW (by omega),Option.bind_some]
  congr 1
  apply Yf
  rw [hin2,hf]
  dsimp only
  rw [hWe]
  unfold m6
  by_cases e:x.2.2.2.1=m.2.1
  ·have hVW:Wv=V:=by rw [← hWe,← hVe,e]
   rw [if_pos e]
   unfold TZ
   rw [if_neg (by rw [k3]; decide),if_pos k3,hVW]
   dsimp only
   cases hc:(!V.contains m.1||(V.getD 0 0==m.1)) with
   | true=>simp only [if_true]
   | false =>
    simp only [Bool.false_eq_true,if_false]
    cases hb:m.2.2.2.1<;>cases hf2:m.2.2.1<;>simp [e,DZ,m5]
  ·rw [if_neg e,if_neg (by rw [k3]; simp)]
   cases hc:(!Wv.contains m.1||(Wv.getD 0 0==m.1)) with
   | true =>
    rw [if_neg (by
     intro h
     simp only [Bool.and_eq_true,bne_iff_ne,Bool.or_eq_true,Bool.not_eq_true',beq_iff_eq] at h hc
     rcases hc with hc | hc
     ·rw [hc] at h; exact absurd h.1.2 (by simp)
     ·exact h.2 hc),if_pos rfl]
   | false =>
    rw [if_pos (by
     simp only [Bool.or_eq_false_iff,Bool.not_eq_false'] at hc
     rw [k3,hc.1]
     simpa using hc.2),if_neg (by simp),if_pos (Or.inl (by omega))]
    rfl
 rw [if_neg (by simpa using k3),cf k3]
 by_cases k4:x.1=4
 ·rw [if_pos (by simpa using k4)]
  have J:∀ b:Bool,EP b m x=some (if b=true then ([],[],(m.1,m.2.1,m.2.2.1,m.2.2.2.1,m.2.2.2.2.1,m.2.2.2.1&&(((m.2.2.2.2.2.2.1.filter (· != x.2.1)).length:Int)==0),m.2.2.2.2.2.2.1.filter (· != x.2.1),m.2.2.2.2.2.2.2)) else ([],[],m)):=fun b=>TN (by
   unfold KV
   cases b with
   | false=>rw [if_neg (by simp),if_neg (by simp)]
   | true =>
    rw [if_pos rfl,if_pos rfl,Pf _ _ (by omega),Option.bind_some]
    cases hs:m.2.2.2.2.2.1 with
    | true =>
     obtain ⟨q1,q2,q3⟩:=hm.serves hs
     rw [if_neg (by simp),q3,q1]
     rfl
    | false =>
     rw [if_pos rfl]
     cases hq:(((m.2.2.2.2.2.2.1.filter (· != x.2.1)).length:Int)==0) with
     | true=>rw [if_pos rfl,Bool.and_true]
     | false=>rw [if_neg (by simp),Bool.and_false])
  by_cases e:x.2.2.2.1=m.2.1
  ·rw [if_pos (by simpa using e),J]
   have ho:C1 m views x=(if m.2.2.2.2.1=true then
     ((m.1,m.2.1,m.2.2.1,m.2.2.2.1,m.2.2.2.2.1,m.2.2.2.1&&(((m.2.2.2.2.2.2.1.filter (· != x.2.1)).length:Int)==0),m.2.2.2.2.2.2.1.filter (· != x.2.1),m.2.2.2.2.2.2.2),[],[]) else (m,[],[])):=by
    rw [hin,if_pos e]; unfold TZ; rw [if_neg k2,if_neg k3,if_pos k4]
   rw [ho]
   cases hl:m.2.2.2.2.1 with
   | false=>rw [if_neg (by simp),if_neg (by simp)]
   | true=>rw [if_pos rfl,if_pos rfl]
  ·rw [if_neg (by simpa using e),J,if_neg (by simp)]
   congr 1
   apply Yf
   rw [hin,if_neg e,if_neg (by simp [k4]),if_neg (by simp [k4])]
 rw [if_neg (by simpa using k4)]
 have st:x.1=5∨x.1=7→iY m x=((C1 m views x).2.1,(C1 m views x).1)∧(C1 m views x).2.2=[]:=fun hk=>by
  rw [hin]
  unfold iY
  by_cases e:x.2.2.2.1=m.2.1
  ·rw [if_pos e]
   unfold TZ DZ
   rw [if_neg k2,if_neg k3,if_neg k4,e]
   cases hb:m.2.2.2.1 with
   | true =>
    rcases hk with hk | hk
    ·rw [if_pos (by simp),if_neg (by omega),if_pos hk,if_pos rfl]
     exact ⟨rfl,rfl⟩
    ·rw [if_pos (by simp),if_pos hk,if_neg (by omega),if_pos hk,if_pos rfl]
     exact ⟨rfl,rfl⟩
   | false =>
    rcases hk with hk | hk
    ·rw [if_neg (by simp),if_pos hk,if_neg (by simp)]
     exact ⟨rfl,rfl⟩
    ·rw [if_neg (by simp),if_neg (by omega),if_pos hk,if_neg (by simp)]
     exact ⟨rfl,rfl⟩
  ·simp [e,k1,k3]
 have sd:∀ op,x.1=6∧op=1∨x.1=8∧op=2→(if (x.2.2.2.1==m.2.1&&m.2.2.2.2.2.2.2.2.2.1==op&&m.2.2.2.2.2.2.2.2.2.2.2.1==x.2.2.2.2.1)=true then ((Du m x.2.1).2.2,(Du m x.2.1).1) else ([],m))=((C1 m views x).2.2,(C1 m views x).1)∧(C1 m views x).2.1=[]:=fun op hk=>by
  have ht:(Du m x.2.1).2.1=[]:=by unfold Du; split<;>rfl
  rw [hin]
  by_cases e:x.2.2.2.1=m.2.1
  ·rw [if_pos e]
   unfold TZ
   rw [if_neg k2,if_neg k3,if_neg k4,if_neg (show ¬ x.1=5 by omega),if_neg (show ¬ x.1=7 by omega),e]
   have hop:(if x.1=8 then (2:Int) else 1)=op:=by
    rcases hk with ⟨h,h'⟩ | ⟨h,h'⟩
    ·rw [if_neg (by omega),h']
    ·rw [if_pos h,h']
   rw [hop]
   by_cases c1:m.2.2.2.2.2.2.2.2.2.1=op
   ·by_cases c2:m.2.2.2.2.2.2.2.2.2.2.2.1=x.2.2.2.2.1
    ·rw [if_pos (by simp [c1,c2]),if_pos ⟨by omega,c1,c2⟩]
     exact ⟨rfl,ht⟩
    ·simp [c2]
   ·simp [c1]
  ·simp [e,k1,k3]
 have h7:x.1≠7→x.1=5→0<x.2.2.2.2.2.length:=fun _ h5=>by
  have:=hx.shape
  rw [if_neg (by omega),if_pos h5] at this
  omega
 have J2:∀ b:Bool,(b=true↔x.1=5∨x.1=7)→EQ x.1 b m x=some ((C1 m views x).2.1,(C1 m views x).2.2,(C1 m views x).1):=fun b hb=>TO (by
  unfold KW
  cases b with
  | true =>
   have hk5:=hb.1 rfl
   obtain ⟨q1,q2⟩:=st hk5
   rw [if_pos rfl,cV m x l2 (fun h=>h7 h (by omega)),Option.bind_some,q1,q2]
  | false =>
   have hn:¬ (x.1=5∨x.1=7):=fun h=>by have:=hb.2 h; cases this
   rw [if_neg (by simp)]
   by_cases k6:x.1=6
   ·obtain ⟨q1,q2⟩:=sd 1 (.inl ⟨k6,rfl⟩)
    rw [if_pos (by simpa using k6),RN m 1 x hm,Option.bind_some,q1,q2]
   ·obtain ⟨q1,q2⟩:=sd 2 (.inr ⟨by omega,rfl⟩)
    rw [if_neg (by simpa using k6),if_pos (by rw [beq_iff_eq]; omega),RN m 2 x hm,Option.bind_some,q1,q2])
 by_cases k5:x.1=5
 ·rw [if_pos (by simpa using k5),J2 _ (by simp [k5])]
 ·rw [if_neg (by simpa using k5),J2 _ (by simp [k5])])
theorem Fy {m:AB} (h:IX m):DS m=some true:=by
 obtain ⟨h1,h2,h3⟩:=h.lens
 rw [Wo m (by unfold maxLen; omega) (by unfold maxLen; omega) (by unfold maxLen; omega),kX.2 h]
theorem Yg {views:List (List Int)} (h:Vu views):JY views=some true:=by
 have:=h.len
 rw [YY views (by unfold maxLen; omega) (fun a ha=>by have:=(h.view ha).2; unfold maxLen; omega),h.ok]
theorem Yh (m:AB) (views:List (List Int)) (x:BL) (hm:IX m) (hv:Vu views) (hx:x.2.2.2.2.2.length≤68719476736) :
  NT m views x=some (Is m views x):=eJ (by
 have hxm:x.2.2.2.2.2.length≤maxLen:=by unfold maxLen; omega
 unfold UC
 rw [hm.icopy,Option.bind_some]
 by_cases c1:x.2.2.1=m.1
 case neg=>rw [if_neg (by simpa using c1),U_ (fun h=>c1 h.1)]
 rw [if_pos (by simpa using c1)]
 by_cases c2:x.2.2.2.1<m.2.1
 ·rw [if_neg (by simpa using c2),U_ (fun h=>by omega)]
 rw [if_pos (by simpa using c2)]
 by_cases c3:x.2.2.2.1>(views.length:Int)
 ·rw [if_neg (by simpa using c3),U_ (fun h=>by omega)]
 rw [if_pos (by simpa using c3),Fy hm,Option.bind_some,if_pos (by rfl),Yg hv,Option.bind_some,if_pos (by rfl),cR x hxm,Option.bind_some]
 cases hmo:Nz x with
 | false=>rw [if_pos (by rfl),U_ (fun h=>by rw [hmo] at h; cases h.2.2.2)]
 | true =>
  rw [if_neg (by simp)]
  have hx':=R2.1 hmo
  refine Xd ?_
  unfold O1
  have hok:IX (Is m views x).1:=by
   unfold Is
   rw [if_pos hmo]
   exact (fN hm hv).mok
  rw [fR m views x hm hv hx' c1 (by omega) (by omega),Option.bind_some,hok.icopy,Option.bind_some])
end Go.Proofs.YtaedipailemlcaaGreat.Core
