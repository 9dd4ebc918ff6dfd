/- Texts of the proof, packed: part 4. -/
import Derived.Test.YtaedipailemlcaaGreatP2
import Derived.IntWalk
set_option linter.unusedVariables false
set_option linter.unusedSimpArgs false
namespace Go.Proofs.YtaedipailemlcaaGreat.Core
open Go IntKind
set_option linter.unusedVariables false
set_option maxRecDepth 100000
noncomputable section
def O4 (x0:List (List Int)) (x1:Bool) (x2:O) (x3:Y) (x4:O):Option Bool:=cG OI (AF DB) (AF DB) kx ⟨[(3,.ptr 0 0),(4,.lst (.slice (.int .i64)) x0),(6,.ptr 2 0),(102,.bool x1)],[.var (U.enc x2),.var (AB.enc x3),.var (U.enc x4)]⟩
def O5 (x0:List (List Int)) (x1:Bool) (x2:O) (x3:Y):Option Bool:=cG OJ (AF DB) (AF DB) kx ⟨[(3,.ptr 0 0),(4,.lst (.slice (.int .i64)) x0),(51,.bool x1)],[.var (U.enc x2),.var (AB.enc x3)]⟩
def O6 (x0:List (List Int)) (x1:Bool) (x2:O) (x3:Y) (x4:O):Option Bool:=((FR x4 x0 (7,5,x2.1,x2.2.1,0,([]:List X))).bind fun y9=>((FR x4 x0 (7,5,x2.1,x4.2.1,0,([]:List X))).bind fun y10=>((FR x4 x0 (1,5,x2.1,x4.2.1,0,([]:List X))).bind fun y11=>((R1 x4 x0 2 0 (⟨#[97]⟩:ByteArray) (⟨#[]⟩:ByteArray)).bind fun y12=>(if ((y9.2.1.length:Int)==0)=true then (if ((y10.2.1.length:Int)==0)=true then (if ((y11.2.1.length:Int)==0)=true then (some (!y12.2.2.2)) else (some false)) else (some false)) else (some false))))))
def O7 (x0:List (List Int)) (x1:Bool) (x2:O) (x3:Y):Option Bool:=((FR x2 x0 (1,5,x2.1,(i64.wrap (x2.2.1+1)),0,([]:List X))).bind fun y7=>(if ((y7.2.1.length:Int) != 1)=true then (some false) else (if 0≤(0:Int) then (if 0<(y7.2.1.length:Int) then (if (((y7.2.1.getD (0:Int).toNat (0,0,0,0,0,([]:List X))).1) != 2)=true then (some false) else (if 0≤(0:Int) then (if 0<(y7.2.1.length:Int) then ((HD ((((((y7.2.1.getD (0:Int).toNat (0,0,0,0,0,([]:List X))).2).2).2).2).2) x2.2.2.2.2.2.2.2.1).bind fun y8=>(if (!y8)=true then (some false) else (if y7.1.2.2.2.1=true then (some false) else (if y7.1.2.2.2.2.2.1=true then (some false) else (if (y7.1.2.1 != (i64.wrap (x2.2.1+1)))=true then (some false) else (O4 x0 (y7.1.2.1 != (i64.wrap (x2.2.1+1))) x2 x3 y7.1)))))) else none) else none)) else none) else none)))
def UR (x0:List Int):Option Bool:=((WW x0).bind fun y1=>(if y1=true then (some true) else ((Fl x0).bind fun y2=>(if (decide (y2.1.2.1≥(y2.2.1.length:Int)))=true then ((Cj y2.1).bind fun y3=>(some y3)) else (if (!y2.1.2.2.2.1)=true then ((Cj y2.1).bind fun y4=>(some y4)) else (if 0≤(i64.wrap (y2.1.2.1-1)) then (if (i64.wrap (y2.1.2.1-1))<(y2.2.1.length:Int) then ((Ze (y2.2.1.getD (i64.wrap (y2.1.2.1-1)).toNat ([]:List Int)) y2.1.1).bind fun y5=>(if (!y5)=true then ((Cj y2.1).bind fun y6=>(some y6)) else (O5 y2.2.1 (!y5) y2.1 y2.2.2))) else none) else none))))))
theorem Xm:kC O6 O4:=jS (by kernel_rfl)
theorem Xn:dN O7 O5:=jS (by kernel_rfl)
theorem fB:N1 UR UP:=cT DB rfl ⟨rfl,rfl⟩ (by kernel_rfl)
def kb (x0:List Int):Option Bool:=(some (decide ((x0.length:Int)>1048576)))
theorem kc:N1 kb WW:=cT Rv rfl ⟨rfl,rfl⟩ (by kernel_rfl)
def Fq (x0:List Int):Option (O×List (List Int)×Y):=((Ps x0).bind fun y1=>((MF x0 y1).bind fun y2=>((AS (y2.1.2.1.length:Int) y2.2).bind fun y3=>(if 0≤y3.1 then (if y3.1<(y2.1.2.1.length:Int) then ((F6 y2.1 (y2.1.2.1.getD y3.1.toNat (0,0,false,false,false,false,([]:List Int),([]:List X),0,0,0,0,(ByteArray.empty,ByteArray.empty,0),([]:List Int))) y3.2).bind fun y4=>((AO y4.1.2.2.1 1 (y2.1.2.1.length:Int)).bind fun y5=>(if y5=true then (if 0≤(i64.wrap (y4.1.2.2.1-1)) then (if (i64.wrap (y4.1.2.2.1-1))<(y2.1.2.1.length:Int) then (some (y2.1.2.1.getD (i64.wrap (y4.1.2.2.1-1)).toNat (0,0,false,false,false,false,([]:List Int),([]:List X),0,0,0,0,(ByteArray.empty,ByteArray.empty,0),([]:List Int)),y2.1.1,y4.1)) else none) else none) else (some (y2.1.2.1.getD y3.1.toNat (0,0,false,false,false,false,([]:List Int),([]:List X),0,0,0,0,(ByteArray.empty,ByteArray.empty,0),([]:List Int)),y2.1.1,y4.1))))) else none) else none))))
theorem Jk:N1 Fq Fl:=cT Dn rfl ⟨rfl,rfl⟩ (by kernel_rfl)
def O8 (x0:List (List Int)) (x1:Bool) (x2:O) (x3:Y) (x4 x5:O):Option (O×List Y×List AD):=cG QI (AF FJ) (AF FJ) kx ⟨[(1,.lst (.slice (.int .i64)) x0),(5,.ptr 1 0),(6,.ptr 2 0),(9,.ptr 3 0),(47,.bool x1)],[.var (U.enc x2),.var (AB.enc x3),.var (U.enc x4),.var (U.enc x5)]⟩
def O9 (x0:List (List Int)) (x1:Bool) (x2:O) (x3:Y) (x4 x5:O):Option (O×List Y×List AD):=((IJ x0 x3 x5).bind fun y5=>((DQ y5.2.2).bind fun y6=>(some (y6,y5.1,y5.2.1))))
def US (x0:O) (x1:List (List Int)) (x2:Y):Option (O×List Y×List AD):=((DQ x0).bind fun y1=>(if (x2.2.2.1 != x0.1)=false then (if (decide (x2.2.2.2.1<x0.2.1))=false then (if (decide (x2.2.2.2.1>(x1.length:Int)))=false then ((Cj x0).bind fun y2=>(if (!y2)=false then ((Gv x1).bind fun y3=>(if (!y3)=false then ((R3 x2).bind fun y4=>(if (!y4)=true then (some (y1,[],[])) else (O8 x1 (!y4) x0 x2 (0,0,false,false,false,false,([]:List Int),([]:List X),0,0,0,0,(ByteArray.empty,ByteArray.empty,0),([]:List Int)) y1))) else (some (y1,[],[])))) else (some (y1,[],[])))) else (some (y1,[],[]))) else (some (y1,[],[]))) else (some (y1,[],[]))))
theorem Xo:lK O9 O8:=jS (by kernel_rfl)
theorem fC:Pr US FR:=cT FJ rfl ⟨rfl,rfl⟩ (by kernel_rfl)
def Zf:=cG OO (AF BI) (AF BI) kx
def Zg:=cG JM (AF BI) (AF BI) kx
def En (x0:List Y) (x1:List AD) (x2:Bool) (x3:O) (x4:Y) (x5 x6:O):Option (O×List Y×List AD):=cG ON Zf (AF BI) kx ⟨[(3,.ptr 0 0),(5,.ptr 1 0),(6,.ptr 2 0),(9,.ptr 3 0),(10,.lst AB x0),(11,.lst Ar x1),(146,.bool x2)],[.var (U.enc x3),.var (AB.enc x4),.var (U.enc x5),.var (U.enc x6)]⟩
def Jl (x0:List (List Int)) (x1:List Y) (x2:List AD) (x3:Bool) (x4:O) (x5:Y) (x6 x7:O):Option (O×List Y×List AD):=cG JM (AF BI) (AF BI) kx ⟨[(1,.lst (.slice (.int .i64)) x0),(3,.ptr 0 0),(5,.ptr 1 0),(6,.ptr 2 0),(9,.ptr 3 0),(10,.lst AB x1),(11,.lst Ar x2),(105,.bool x3)],[.var (U.enc x4),.var (AB.enc x5),.var (U.enc x6),.var (U.enc x7)]⟩
def DR (x0:List (List Int)) (x1:List Y) (x2:List AD) (x3:Bool) (x4:O) (x5:Y) (x6 x7:O):Option (O×List Y×List AD):=cG OL Zg (AF BI) kx ⟨[(1,.lst (.slice (.int .i64)) x0),(3,.ptr 0 0),(5,.ptr 1 0),(6,.ptr 2 0),(9,.ptr 3 0),(10,.lst AB x1),(11,.lst Ar x2),(105,.bool x3)],[.var (U.enc x4),.var (AB.enc x5),.var (U.enc x6),.var (U.enc x7)]⟩
def O_ (x0:List (List Int)) (x1:List Y) (x2:List AD) (x3:Bool) (x4:O) (x5:Y) (x6 x7:O):Option (O×List Y×List AD):=cG OP (AF BI) (AF BI) kx ⟨[(1,.lst (.slice (.int .i64)) x0),(3,.ptr 0 0),(5,.ptr 1 0),(6,.ptr 2 0),(9,.ptr 3 0),(10,.lst AB x1),(11,.lst Ar x2),(59,.bool x3)],[.var (U.enc x4),.var (AB.enc x5),.var (U.enc x6),.var (U.enc x7)]⟩
def PA (x0:List Y) (x1:List AD) (x2:Bool) (x3:O) (x4:Y) (x5 x6:O):Option (O×List Y×List AD):=(if x2=true then (if ([]:List X).length+x4.2.2.2.2.2.length≤68719476736 then ((DX x3 x4 4).bind fun y9=>(some ((x3.1,x4.2.2.2.1,false,true,false,false,([]:List Int),(([]:List X)++x4.2.2.2.2.2),0,0,0,0,(ByteArray.empty,ByteArray.empty,0),([]:List Int)),y9,x1))) else none) else (some (x6,x0,x1)))
def PB (x0:List (List Int)) (x1:List Y) (x2:List AD) (x3:Bool) (x4:O) (x5:Y) (x6 x7:O):Option (O×List Y×List AD):=(if 0≤(i64.wrap (x5.2.2.2.1-1)) then (if (i64.wrap (x5.2.2.2.1-1))<(x0.length:Int) then (if (x5.1==3)=true then ((C6 (x0.getD (i64.wrap (x5.2.2.2.1-1)).toNat ([]:List Int)) x4.1).bind fun y8=>(if y8=true then (if 0≤(0:Int) then (if 0<((x0.getD (i64.wrap (x5.2.2.2.1-1)).toNat ([]:List Int)).length:Int) then (En x1 x2 (((x0.getD (i64.wrap (x5.2.2.2.1-1)).toNat ([]:List Int)).getD (0:Int).toNat 0) != x4.1) x4 x5 x6 x7) else none) else none) else (En x1 x2 false x4 x5 x6 x7))) else (En x1 x2 false x4 x5 x6 x7)) else none) else none)
def PC (x0:List (List Int)) (x1:List Y) (x2:List AD) (x3:Bool) (x4:O) (x5:Y) (x6 x7:O):Option (O×List Y×List AD):=(if x3=true then ((Jd x4 x5.2.2.2.1).bind fun y7=>(if ([]:List X).length+x4.2.2.2.2.2.2.2.1.length≤68719476736 then (some (y7,([(2,x4.1,x5.2.1,x5.2.2.2.1,0,(([]:List X)++x4.2.2.2.2.2.2.2.1))]:List Y),x2)) else none)) else (Jl x0 x1 x2 x3 x4 x5 x6 x7))
def PD (x0:List (List Int)) (x1:List Y) (x2:List AD) (x3:Bool) (x4:O) (x5:Y) (x6 x7:O):Option (O×List Y×List AD):=(if (x5.2.2.2.1==x4.2.1)=true then (if 0≤(i64.wrap (x4.2.1-1)) then (if (i64.wrap (x4.2.1-1))<(x0.length:Int) then ((Pt x4 (x0.getD (i64.wrap (x4.2.1-1)).toNat ([]:List Int)) x5).bind fun y5=>(some (y5.1,y5.2.1,y5.2.2))) else none) else none) else (if (x5.1==1)=true then (if (x5.2.2.2.1==(i64.wrap (x4.2.1+1)))=true then (if x4.2.2.2.1=true then (if 0≤(i64.wrap (x4.2.1-1)) then (if (i64.wrap (x4.2.1-1))<(x0.length:Int) then ((C6 (x0.getD (i64.wrap (x4.2.1-1)).toNat ([]:List Int)) x4.1).bind fun y6=>(DR x0 x1 x2 y6 x4 x5 x6 x7)) else none) else none) else (DR x0 x1 x2 false x4 x5 x6 x7)) else (DR x0 x1 x2 false x4 x5 x6 x7)) else (DR x0 x1 x2 false x4 x5 x6 x7)))
def UT (x0:O) (x1:List (List Int)) (x2:Y):Option (O×List Y×List AD):=((CZ x0).bind fun y1=>((Eb x0).bind fun y2=>(if (!y2)=false then ((DK x1).bind fun y3=>(if (!y3)=false then ((R0 x2).bind fun y4=>(if (!y4)=false then (if (x2.2.2.1 != x0.1)=false then (if (decide (x2.2.2.2.1<x0.2.1))=false then (if (decide (x2.2.2.2.1>(x1.length:Int)))=false then (if (decide (x0.2.1>(x1.length:Int)))=true then (some (y1,([]:List Y),([]:List AD))) else (O_ x1 ([]:List Y) ([]:List AD) (decide (x0.2.1>(x1.length:Int))) x0 x2 (0,0,false,false,false,false,([]:List Int),([]:List X),0,0,0,0,(ByteArray.empty,ByteArray.empty,0),([]:List Int)) y1)) else (some (y1,([]:List Y),([]:List AD)))) else (some (y1,([]:List Y),([]:List AD)))) else (some (y1,([]:List Y),([]:List AD)))) else (some (y1,([]:List Y),([]:List AD))))) else (some (y1,([]:List Y),([]:List AD))))) else (some (y1,([]:List Y),([]:List AD))))))
theorem Xp:n7 PA En:=jS (by kernel_rfl)
theorem Xq:nU PB Jl:=jS (by kernel_rfl)
theorem Xr:nU PC DR:=jS (by kernel_rfl)
theorem Xs:nU PD O_:=jS (by kernel_rfl)
theorem fD:Pr UT NT:=cT BI rfl ⟨rfl,rfl⟩ (by kernel_rfl)
def IP (x0:Bool) (x1:O):Option Bool:=cG OQ (AF EZ) (AF EZ) kx ⟨[(1,.ptr 0 0),(30,.bool x0)],[.var (U.enc x1)]⟩
def Nc (x0:Bool) (x1:O):Option Bool:=(if x1.2.2.2.2.2.1=true then (if (!x1.2.2.2.1)=false then (if (!x1.2.2.2.2.1)=false then (if (decide ((x1.2.2.2.2.2.2.1.length:Int)>0))=false then (if x1.2.2.1=true then (if x1.2.2.2.1=false then (if x1.2.2.2.2.1=true then (some false) else ((CP x1).bind fun y6=>(some y6.1))) else (some false)) else ((CP x1).bind fun y7=>(some y7.1))) else (some false)) else (some false)) else (some false)) else (if x1.2.2.1=true then (if x1.2.2.2.1=false then (if x1.2.2.2.2.1=true then (some false) else ((CP x1).bind fun y8=>(some y8.1))) else (some false)) else ((CP x1).bind fun y9=>(some y9.1))))
def S0 (x0:O):Option Bool:=((GB x0.1).bind fun y1=>(if (!y1)=false then ((Ak x0.2.1 1 9).bind fun y2=>(if (!y2)=false then ((Fm x0.2.2.2.2.2.2.1 1 6).bind fun y3=>(if (!y3)=false then ((EE x0.2.2.2.2.2.2.2.1).bind fun y4=>(if (!y4)=false then ((Ak x0.2.2.2.2.2.2.2.2.1 0 900).bind fun y5=>(if (!y5)=true then (some false) else (IP (!y5) x0))) else (some false))) else (some false))) else (some false))) else (some false)))
theorem WX:RY Nc IP:=jS (by kernel_rfl)
theorem b9:N1 S0 Cj:=cT EZ rfl ⟨rfl,rfl⟩ (by kernel_rfl)
def UU:=cG UA (AF Do) (AF Do) kx
def fE:=kB [] [1] 1 UU
def fF:=kE 0 [] [1] 1 UU kx
def H_ (x0:Int) (x1:Bool) (x2:Y):Option Bool:=cG T_ fE (AF Do) fF ⟨[(1,.ptr 0 0),(38,.int .i64 x0),(39,.bool x1)],[.var (AB.enc x2)]⟩
def MM (x0:Bool) (x1:Y):Option Bool:=cG UB (AF Do) (AF Do) kx ⟨[(1,.ptr 0 0),(36,.bool x0)],[.var (AB.enc x1)]⟩
def S3 (x0:Int) (x1:Bool) (x2:Y):Option Bool:=(if x1=true then (some true) else (if (x0==5)=true then (some ((x2.2.2.2.2.2.length:Int)==1)) else (some ((x2.2.2.2.2.2.length:Int)==0))))
def S4 (x0:Bool) (x1:Y):Option Bool:=(if (x1.1==2)=true then (H_ x1.1 (x1.1==2) x1) else (H_ x1.1 (x1.1==3) x1))
def Xt (x0:Y):Option Bool:=((AO x0.1 1 8).bind fun y1=>(if (!y1)=false then ((AO x0.2.1 1 6).bind fun y2=>(if (!y2)=false then ((AO x0.2.2.1 1 6).bind fun y3=>(if (!y3)=false then ((AO x0.2.2.2.1 1 9).bind fun y4=>(if (!y4)=false then ((AO x0.2.2.2.2.1 0 1000000000).bind fun y5=>(if (!y5)=false then ((Ca x0.2.2.2.2.2).bind fun y6=>(if (!y6)=true then (some false) else (MM (!y6) x0))) else (some false))) else (some false))) else (some false))) else (some false))) else (some false)))
theorem b_:Pr S3 H_:=jS (by kernel_rfl)
theorem cA:RY S4 MM:=jS (by kernel_rfl)
theorem i9:N1 Xt R0:=cT Do rfl ⟨rfl,rfl⟩ (by kernel_rfl)
def cB:=cG SO (AF Dw) (AF Dw) kx
def cC:=kE 0 [] [4] 1 cB kx
def Zh:St→Option (RT (BK.outs Dw)):=lG SN [] [1,4,7,8,9] 1 (AF Dw) cC
def HF (x0:ByteArray) (x1:List X) (x2 x3:Int) (x4:X):Option X:=Zh ⟨[(1,.str x0),(4,.ptr 0 0),(7,.lst Z x1),(8,.int .i64 x2),(9,.int .i64 x3)],[.var (Z.enc x4)]⟩
def Kz (x0:ByteArray) (x1:List X) (x2 x3:Int) (x4:X):Option X:=(if (decide (x3<x2))=true then (if 0≤x3 then (if x3<(x1.length:Int) then (if (((x1.getD x3.toNat (ByteArray.empty,ByteArray.empty,0)).1).toList==x0.toList)=true then (some (x1.getD x3.toNat (ByteArray.empty,ByteArray.empty,0))) else (HF x0 x1 x2 (i64.wrap (x3+1)) x4)) else none) else none) else (some (ByteArray.empty,ByteArray.empty,0)))
def Vx (x0:List X) (x1:ByteArray):Option X:=(HF x1 x0 (x0.length:Int) 0 (ByteArray.empty,ByteArray.empty,0))
theorem Qm:kC Kz HF:=lS (by kernel_rfl)
theorem gY:RY Vx La:=cT Dw rfl ⟨rfl,rfl⟩ (by kernel_rfl)
def jy:=cG bM (AF Ij) (AF Ij) kx
def jz:=kE 0 [] [] 0 jy kx
def i_:St→Option (RT (BK.outs Ij)):=lG bL [] [0,1,5] 0 (AF Ij) jz
def M7 (x0:List Int) (x1 x2:Int):Option Bool:=i_ ⟨[(0,.lst (.int .i64) x0),(1,.int .i64 x1),(5,.int .i64 x2)],[]⟩
def R5 (x0:List Int) (x1 x2:Int):Option Bool:=(if (decide (x2<(x0.length:Int)))=true then (if 0≤x2 then (if x2<(x0.length:Int) then (if ((x0.getD x2.toNat 0)==x1)=true then (some true) else (M7 x0 x1 (i64.wrap (x2+1)))) else none) else none) else (some false))
def iE (x0:List Int) (x1:Int):Option Bool:=(M7 x0 x1 0)
theorem Xu:Pr R5 M7:=lS (by kernel_rfl)
theorem mQ:RY iE Ze:=cT Ij rfl ⟨rfl,rfl⟩ (by kernel_rfl)
def WY:=cG NK (AF CM) (AF CM) kx
def WZ:=kE 0 [] [] 0 WY kx
def Vb:St→Option (RT (BK.outs CM)):=lG NJ [] [0,1,5] 0 (AF CM) WZ
def FB (x0 x1:List X) (x2:Int):Option Bool:=Vb ⟨[(0,.lst Z x0),(1,.lst Z x1),(5,.int .i64 x2)],[]⟩
def HX (x0 x1:List X) (x2:Int):Option Bool:=(if (decide (x2<(x0.length:Int)))=true then (if 0≤x2 then (if x2<(x0.length:Int) then (if 0≤x2 then (if x2<(x1.length:Int) then (if (true != Vn Z (x0.getD x2.toNat (ByteArray.empty,ByteArray.empty,0)) (x1.getD x2.toNat (ByteArray.empty,ByteArray.empty,0)))=true then (some false) else (FB x0 x1 (i64.wrap (x2+1)))) else none) else none) else none) else none) else (some true))
def Qn (x0 x1:List X):Option Bool:=(if ((x0.length:Int) != (x1.length:Int))=true then (some false) else (FB x0 x1 0))
theorem Mj:Pr HX FB:=lS (by kernel_rfl)
theorem Zi:RY Qn HD:=cT CM rfl ⟨rfl,rfl⟩ (by kernel_rfl)
def MN (x0:List Int) (x1 x2 x3:O) (x4:X) (x5:List Int) (x6:Y):Option (O×List Y×List AD×Bool):=cG UD (AF C3) (AF C3) kx ⟨[(12,.ptr 1 0),(16,.ptr 2 0),(18,.lst (.int .i64) x0),(20,.ptr 5 0)],[.var (U.enc x1),.var (U.enc x2),.var (U.enc x3),.var (Z.enc x4),.frz (.int .i64) x5,.var (AB.enc x6)]⟩
def IA (x0:List (List Int)) (x1 x2:Int) (x3:Bool) (x4 x5 x6:O) (x7:X):Option (O×List Y×List AD×Bool):=cG SP (AF C3) (AF C3) kx ⟨[(1,.lst (.slice (.int .i64)) x0),(2,.int .i64 x1),(3,.int .i64 x2),(6,.ptr 0 0),(12,.ptr 1 0),(16,.ptr 2 0),(17,.ptr 3 0),(69,.bool x3)],[.var (U.enc x4),.var (U.enc x5),.var (U.enc x6),.var (Z.enc x7)]⟩
def S5 (x0:List (List Int)) (x1 x2:Int) (x3 x4:ByteArray) (x5:Bool) (x6 x7:O):Option (O×List Y×List AD×Bool):=cG SQ (AF C3) (AF C3) kx ⟨[(1,.lst (.slice (.int .i64)) x0),(2,.int .i64 x1),(3,.int .i64 x2),(4,.str x3),(5,.str x4),(6,.ptr 0 0),(12,.ptr 1 0),(37,.bool x5)],[.var (U.enc x6),.var (U.enc x7)]⟩
def cD (x0:List Int) (x1 x2 x3:O) (x4:X) (x5:List Int) (x6:Y):Option (O×List Y×List AD×Bool):=(if ((x0.length:Int)==0)=true then ((Fo x3).bind fun y9=>(some (y9.2,[],y9.1,true))) else (mf ((Al x0 x6 x3).bind fun y10=>(some (x3,y10.1,[],true))) ((Al x0 x6 x3).bind fun y11=>(some (y11.2,y11.1,[],true)))))
def cE (x0:List (List Int)) (x1 x2:Int) (x3:Bool) (x4 x5 x6:O) (x7:X):Option (O×List Y×List AD×Bool):=(if 0≤(i64.wrap (x4.2.1-1)) then (if (i64.wrap (x4.2.1-1))<(x0.length:Int) then ((El (x0.getD (i64.wrap (x4.2.1-1)).toNat ([]:List Int)) x6).bind fun y6=>((Bi y6.1).bind fun y7=>((Co y7).bind fun y8=>(if (x1==1)=true then (MN y6.1 x4 x5 (y6.2.1,y6.2.2.1,y6.2.2.2.1,y6.2.2.2.2.1,y6.2.2.2.2.2.1,y6.2.2.2.2.2.2.1,y6.2.2.2.2.2.2.2.1,y6.2.2.2.2.2.2.2.2.1,y6.2.2.2.2.2.2.2.2.2.1,x1,x2,y6.2.2.2.2.2.2.2.2.2.1,x7,y8) x7 y8 (5,0,0,0,y6.2.2.2.2.2.2.2.2.2.1,([x7]:List X))) else (MN y6.1 x4 x5 (y6.2.1,y6.2.2.1,y6.2.2.2.1,y6.2.2.2.2.1,y6.2.2.2.2.2.1,y6.2.2.2.2.2.2.1,y6.2.2.2.2.2.2.2.1,y6.2.2.2.2.2.2.2.2.1,y6.2.2.2.2.2.2.2.2.2.1,x1,x2,y6.2.2.2.2.2.2.2.2.2.1,x7,y8) x7 y8 (7,0,0,0,y6.2.2.2.2.2.2.2.2.2.1,([]:List X))))))) else none) else none)
def cH (x0:List (List Int)) (x1 x2:Int) (x3 x4:ByteArray) (x5:Bool) (x6 x7:O):Option (O×List Y×List AD×Bool):=((DQ x6).bind fun y4=>(if (x1==1)=true then (if ((x6.2.2.2.2.2.2.2.1.length:Int)==12)=true then ((La x6.2.2.2.2.2.2.2.1 x3).bind fun y5=>(if (false != Vn Z y5 (ByteArray.empty,ByteArray.empty,0))=true then (some ((0,0,false,false,false,false,([]:List Int),([]:List X),0,0,0,0,(ByteArray.empty,ByteArray.empty,0),([]:List Int)),[],[],false)) else (IA x0 x1 x2 (false != Vn Z y5 (ByteArray.empty,ByteArray.empty,0)) x6 x7 (y4.1,y4.2.1,y4.2.2.1,y4.2.2.2.1,y4.2.2.2.2.1,y4.2.2.2.2.2.1,y4.2.2.2.2.2.2.1,y4.2.2.2.2.2.2.2.1,(i64.wrap (y4.2.2.2.2.2.2.2.2.1+1)),y4.2.2.2.2.2.2.2.2.2) (x3,x4,(i64.wrap ((i64.wrap (1000*x6.2.1))+(i64.wrap (y4.2.2.2.2.2.2.2.2.1+1)))))))) else (IA x0 x1 x2 false x6 x7 (y4.1,y4.2.1,y4.2.2.1,y4.2.2.2.1,y4.2.2.2.2.1,y4.2.2.2.2.2.1,y4.2.2.2.2.2.2.1,y4.2.2.2.2.2.2.2.1,(i64.wrap (y4.2.2.2.2.2.2.2.2.1+1)),y4.2.2.2.2.2.2.2.2.2) (x3,x4,(i64.wrap ((i64.wrap (1000*x6.2.1))+(i64.wrap (y4.2.2.2.2.2.2.2.2.1+1))))))) else (IA x0 x1 x2 false x6 x7 (y4.1,y4.2.1,y4.2.2.1,y4.2.2.2.1,y4.2.2.2.2.1,y4.2.2.2.2.2.1,y4.2.2.2.2.2.2.1,y4.2.2.2.2.2.2.2.1,(i64.wrap (y4.2.2.2.2.2.2.2.2.1+1)),y4.2.2.2.2.2.2.2.2.2) (x3,x4,(i64.wrap ((i64.wrap (1000*x6.2.1))+(i64.wrap (y4.2.2.2.2.2.2.2.2.1+1))))))))
def Xv (x0:O) (x1:List (List Int)) (x2 x3:Int) (x4 x5:ByteArray):Option (O×List Y×List AD×Bool):=((Cj x0).bind fun y1=>(if (!y1)=false then ((Fn x1 x0).bind fun y2=>(if (!y2.1)=false then ((Xk x2 x3 x4 x5).bind fun y3=>(if (!y3)=true then (some ((0,0,false,false,false,false,([]:List Int),([]:List X),0,0,0,0,(ByteArray.empty,ByteArray.empty,0),([]:List Int)),[],[],false)) else (S5 x1 x2 x3 x4 x5 (!y3) y2.2 (0,0,false,false,false,false,([]:List Int),([]:List X),0,0,0,0,(ByteArray.empty,ByteArray.empty,0),([]:List Int))))) else (some ((0,0,false,false,false,false,([]:List Int),([]:List X),0,0,0,0,(ByteArray.empty,ByteArray.empty,0),([]:List Int)),[],[],false)))) else (some ((0,0,false,false,false,false,([]:List Int),([]:List X),0,0,0,0,(ByteArray.empty,ByteArray.empty,0),([]:List Int)),[],[],false))))
theorem mb:n7 cD MN:=jS (by kernel_rfl)
theorem mc:nU cE IA:=jS (by kernel_rfl)
theorem md:nU cH S5:=jS (by kernel_rfl)
theorem jA:lK Xv R1:=cT C3 rfl ⟨rfl,rfl⟩ (by kernel_rfl)
def UV:=cG QL (AF BO) (AF BO) kx
def fG:=kE 0 [(16,2)] [12,16,17,18] 6 UV kx
def cI:St→Option (RT (BK.outs BO)):=lG Kr [(16,2)] [2,6,12,16,17,18,19,20,21] 6 (AF BO) fG
def fH:=kE 0 [(16,2)] [12,16,17,18] 5 UV kx
def cJ:St→Option (RT (BK.outs BO)):=lG Kr [(16,2)] [2,6,12,16,17,18,19,20,21] 5 (AF BO) fH
def DY (x0:Int) (x1:List AD) (x2:List Int) (x3:Int) (x4 x5:O) (x6:List Y) (x7:O) (x8:X) (x9:List X):Option (O×List Y×List AD×Bool):=cI ⟨[(2,.int .i64 x0),(6,.ptr 0 0),(12,.ptr 1 0),(16,.row 2),(17,.lst Ar x1),(18,.ptr 3 0),(19,.ptr 4 0),(20,.lst (.int .i64) x2),(21,.int .i64 x3)],[.var (U.enc x4),.var (U.enc x5),.rows 34 AB x6,.var (U.enc x7),.var (Z.enc x8),.rows 27 Z x9]⟩
def MO (x0:List (List Int)) (x1 x2:Int) (x3:List AD) (x4:Bool) (x5 x6:O) (x7:List Y) (x8:O) (x9:X) (x10:List X):Option (O×List Y×List AD×Bool):=cG Kt (AF BO) (AF BO) kx ⟨[(1,.lst (.slice (.int .i64)) x0),(2,.int .i64 x1),(3,.int .i64 x2),(6,.ptr 0 0),(12,.ptr 1 0),(16,.row 2),(17,.lst Ar x3),(18,.ptr 3 0),(19,.ptr 4 0),(130,.bool x4)],[.var (U.enc x5),.var (U.enc x6),.rows 34 AB x7,.var (U.enc x8),.var (Z.enc x9),.rows 27 Z x10]⟩
def DZ (x0:Int) (x1:List AD) (x2:List Int) (x3:Int) (x4 x5:O) (x6:List Y) (x7:O) (x8:X):Option (O×List Y×List AD×Bool):=cJ ⟨[(2,.int .i64 x0),(6,.ptr 0 0),(12,.ptr 1 0),(16,.row 2),(17,.lst Ar x1),(18,.ptr 3 0),(19,.ptr 4 0),(20,.lst (.int .i64) x2),(21,.int .i64 x3)],[.var (U.enc x4),.var (U.enc x5),.rows 34 AB x6,.var (U.enc x7),.var (Z.enc x8)]⟩
def MP (x0:List (List Int)) (x1 x2:Int) (x3:List AD) (x4:Bool) (x5 x6:O) (x7:List Y) (x8:O) (x9:X):Option (O×List Y×List AD×Bool):=cG Kt (AF BO) (AF BO) kx ⟨[(1,.lst (.slice (.int .i64)) x0),(2,.int .i64 x1),(3,.int .i64 x2),(6,.ptr 0 0),(12,.ptr 1 0),(16,.row 2),(17,.lst Ar x3),(18,.ptr 3 0),(19,.ptr 4 0),(130,.bool x4)],[.var (U.enc x5),.var (U.enc x6),.rows 34 AB x7,.var (U.enc x8),.var (Z.enc x9)]⟩
def CG (x0:List (List Int)) (x1 x2:Int) (x3 x4:ByteArray) (x5:List AD) (x6:Bool) (x7 x8:O) (x9:List Y):Option (O×List Y×List AD×Bool):=cG QM (AF BO) (AF BO) kx ⟨[(1,.lst (.slice (.int .i64)) x0),(2,.int .i64 x1),(3,.int .i64 x2),(4,.str x3),(5,.str x4),(6,.ptr 0 0),(12,.ptr 1 0),(16,.row 2),(17,.lst Ar x5),(100,.bool x6)],[.var (U.enc x7),.var (U.enc x8),.rows 34 AB x9]⟩
def MQ (x0:Int) (x1:List AD) (x2:List Int) (x3:Int) (x4 x5:O) (x6:List Y) (x7:O) (x8:X) (x9:List X):Option (O×List Y×List AD×Bool):=(if (decide (x3<(x2.length:Int)))=true then (if 0≤x3 then (if x3<(x2.length:Int) then (if ((x2.getD x3.toNat 0)==x4.1)=true then (DY x0 x1 x2 (i64.wrap (x3+1)) x4 x5 x6 x7 x8 x9) else (if 0≤x3 then (if x3<(x2.length:Int) then (if (x0==1)=true then (if x6.length+([(5,x4.1,(x2.getD x3.toNat 0),x4.2.1,x7.2.2.2.2.2.2.2.2.1,([x8]:List X))]:List Y).length≤68719476736 then (DY x0 x1 x2 (i64.wrap (x3+1)) x4 x5 (x6++([(5,x4.1,(x2.getD x3.toNat 0),x4.2.1,x7.2.2.2.2.2.2.2.2.1,([x8]:List X))]:List Y)) x7 x8 x9) else none) else (if x6.length+([(7,x4.1,(x2.getD x3.toNat 0),x4.2.1,x7.2.2.2.2.2.2.2.2.1,([]:List X))]:List Y).length≤68719476736 then (DY x0 x1 x2 (i64.wrap (x3+1)) x4 x5 (x6++([(7,x4.1,(x2.getD x3.toNat 0),x4.2.1,x7.2.2.2.2.2.2.2.2.1,([]:List X))]:List Y)) x7 x8 x9) else none)) else none) else none)) else none) else none) else (some (x7,x6,x1,true)))
def S6 (x0:List (List Int)) (x1 x2:Int) (x3:List AD) (x4:Bool) (x5 x6:O) (x7:List Y) (x8:O) (x9:X) (x10:List X):Option (O×List Y×List AD×Bool):=(if 0≤(i64.wrap (x5.2.1-1)) then (if (i64.wrap (x5.2.1-1))<(x0.length:Int) then ((FT (x0.getD (i64.wrap (x5.2.1-1)).toNat ([]:List Int)) x5.1).bind fun y8=>(if ((y8.length:Int)==0)=true then ((FU (x8.1,x8.2.1,x8.2.2.1,x8.2.2.2.1,x8.2.2.2.2.1,x8.2.2.2.2.2.1,x8.2.2.2.2.2.2.1,x8.2.2.2.2.2.2.2.1,x8.2.2.2.2.2.2.2.2.1,x1,x2,x8.2.2.2.2.2.2.2.2.1,x9,y8)).bind fun y9=>(some (y9.2,x7,y9.1,true))) else (DY x1 x3 (x0.getD (i64.wrap (x5.2.1-1)).toNat ([]:List Int)) 0 x5 x6 x7 (x8.1,x8.2.1,x8.2.2.1,x8.2.2.2.1,x8.2.2.2.2.1,x8.2.2.2.2.2.1,x8.2.2.2.2.2.2.1,x8.2.2.2.2.2.2.2.1,x8.2.2.2.2.2.2.2.2.1,x1,x2,x8.2.2.2.2.2.2.2.2.1,x9,y8) x9 x10))) else none) else none)
def MR (x0:Int) (x1:List AD) (x2:List Int) (x3:Int) (x4 x5:O) (x6:List Y) (x7:O) (x8:X):Option (O×List Y×List AD×Bool):=(if (decide (x3<(x2.length:Int)))=true then (if 0≤x3 then (if x3<(x2.length:Int) then (if ((x2.getD x3.toNat 0)==x4.1)=true then (DZ x0 x1 x2 (i64.wrap (x3+1)) x4 x5 x6 x7 x8) else (if 0≤x3 then (if x3<(x2.length:Int) then (if (x0==1)=true then (if x6.length+([(5,x4.1,(x2.getD x3.toNat 0),x4.2.1,x7.2.2.2.2.2.2.2.2.1,([x8]:List X))]:List Y).length≤68719476736 then (DZ x0 x1 x2 (i64.wrap (x3+1)) x4 x5 (x6++([(5,x4.1,(x2.getD x3.toNat 0),x4.2.1,x7.2.2.2.2.2.2.2.2.1,([x8]:List X))]:List Y)) x7 x8) else none) else (if x6.length+([(7,x4.1,(x2.getD x3.toNat 0),x4.2.1,x7.2.2.2.2.2.2.2.2.1,([]:List X))]:List Y).length≤68719476736 then (DZ x0 x1 x2 (i64.wrap (x3+1)) x4 x5 (x6++([(7,x4.1,(x2.getD x3.toNat 0),x4.2.1,x7.2.2.2.2.2.2.2.2.1,([]:List X))]:List Y)) x7 x8) else none)) else none) else none)) else none) else none) else (some (x7,x6,x1,true)))
def S7 (x0:List (List Int)) (x1 x2:Int) (x3:List AD) (x4:Bool) (x5 x6:O) (x7:List Y) (x8:O) (x9:X):Option (O×List Y×List AD×Bool):=(if 0≤(i64.wrap (x5.2.1-1)) then (if (i64.wrap (x5.2.1-1))<(x0.length:Int) then ((FT (x0.getD (i64.wrap (x5.2.1-1)).toNat ([]:List Int)) x5.1).bind fun y10=>(if ((y10.length:Int)==0)=true then ((FU (x8.1,x8.2.1,x8.2.2.1,x8.2.2.2.1,x8.2.2.2.2.1,x8.2.2.2.2.2.1,x8.2.2.2.2.2.2.1,x8.2.2.2.2.2.2.2.1,x8.2.2.2.2.2.2.2.2.1,x1,x2,x8.2.2.2.2.2.2.2.2.1,x9,y10)).bind fun y11=>(some (y11.2,x7,y11.1,true))) else (DZ x1 x3 (x0.getD (i64.wrap (x5.2.1-1)).toNat ([]:List Int)) 0 x5 x6 x7 (x8.1,x8.2.1,x8.2.2.1,x8.2.2.2.1,x8.2.2.2.2.1,x8.2.2.2.2.2.1,x8.2.2.2.2.2.2.1,x8.2.2.2.2.2.2.2.1,x8.2.2.2.2.2.2.2.2.1,x1,x2,x8.2.2.2.2.2.2.2.2.1,x9,y10) x9))) else none) else none)
def S8 (x0:List (List Int)) (x1 x2:Int) (x3 x4:ByteArray) (x5:List AD) (x6:Bool) (x7 x8:O) (x9:List Y):Option (O×List Y×List AD×Bool):=((CZ x7).bind fun y5=>(if (x1==1)=true then ((FS x7.2.2.2.2.2.2.2.1 (x3,x4,(i64.wrap ((i64.wrap (1000*x7.2.1))+(i64.wrap (x7.2.2.2.2.2.2.2.2.1+1)))))).bind fun y6=>((Lb y6 x3).bind fun y7=>(if (true != Vn Z y7 (x3,x4,(i64.wrap ((i64.wrap (1000*x7.2.1))+(i64.wrap (x7.2.2.2.2.2.2.2.2.1+1))))))=true then (some ((0,0,false,false,false,false,([]:List Int),([]:List X),0,0,0,0,(ByteArray.empty,ByteArray.empty,0),([]:List Int)),x9,x5,false)) else (MO x0 x1 x2 x5 (true != Vn Z y7 (x3,x4,(i64.wrap ((i64.wrap (1000*x7.2.1))+(i64.wrap (x7.2.2.2.2.2.2.2.2.1+1)))))) x7 x8 x9 (y5.1,y5.2.1,y5.2.2.1,y5.2.2.2.1,y5.2.2.2.2.1,y5.2.2.2.2.2.1,y5.2.2.2.2.2.2.1,y5.2.2.2.2.2.2.2.1,(i64.wrap (x7.2.2.2.2.2.2.2.2.1+1)),y5.2.2.2.2.2.2.2.2.2) (x3,x4,(i64.wrap ((i64.wrap (1000*x7.2.1))+(i64.wrap (x7.2.2.2.2.2.2.2.2.1+1))))) y6)))) else (MP x0 x1 x2 x5 false x7 x8 x9 (y5.1,y5.2.1,y5.2.2.1,y5.2.2.2.1,y5.2.2.2.2.1,y5.2.2.2.2.2.1,y5.2.2.2.2.2.2.1,y5.2.2.2.2.2.2.2.1,(i64.wrap (x7.2.2.2.2.2.2.2.2.1+1)),y5.2.2.2.2.2.2.2.2.2) (x3,x4,(i64.wrap ((i64.wrap (1000*x7.2.1))+(i64.wrap (x7.2.2.2.2.2.2.2.2.1+1))))))))
def Xw (x0:O) (x1:List (List Int)) (x2 x3:Int) (x4 x5:ByteArray):Option (O×List Y×List AD×Bool):=((Eb x0).bind fun y1=>(if (!y1)=true then (some ((0,0,false,false,false,false,([]:List Int),([]:List X),0,0,0,0,(ByteArray.empty,ByteArray.empty,0),([]:List Int)),([]:List Y),([]:List AD),false)) else ((DK x1).bind fun y2=>(if (!y2)=true then (some ((0,0,false,false,false,false,([]:List Int),([]:List X),0,0,0,0,(ByteArray.empty,ByteArray.empty,0),([]:List Int)),([]:List Y),([]:List AD),false)) else (if (!x0.2.2.2.2.2.1)=true then (some ((0,0,false,false,false,false,([]:List Int),([]:List X),0,0,0,0,(ByteArray.empty,ByteArray.empty,0),([]:List Int)),([]:List Y),([]:List AD),false)) else (if (x0.2.2.2.2.2.2.2.2.2.1 != 0)=true then (some ((0,0,false,false,false,false,([]:List Int),([]:List X),0,0,0,0,(ByteArray.empty,ByteArray.empty,0),([]:List Int)),([]:List Y),([]:List AD),false)) else (if (decide (x0.2.2.2.2.2.2.2.2.1≥900))=true then (some ((0,0,false,false,false,false,([]:List Int),([]:List X),0,0,0,0,(ByteArray.empty,ByteArray.empty,0),([]:List Int)),([]:List Y),([]:List AD),false)) else (if (x2 != 1)=true then (if (x2 != 2)=true then (some ((0,0,false,false,false,false,([]:List Int),([]:List X),0,0,0,0,(ByteArray.empty,ByteArray.empty,0),([]:List Int)),([]:List Y),([]:List AD),false)) else ((AO x3 0 1000).bind fun y3=>(if (!y3)=true then (some ((0,0,false,false,false,false,([]:List Int),([]:List X),0,0,0,0,(ByteArray.empty,ByteArray.empty,0),([]:List Int)),([]:List Y),([]:List AD),false)) else ((AO (x4.size:Int) 1 12).bind fun y4=>(if (!y4)=true then (some ((0,0,false,false,false,false,([]:List Int),([]:List X),0,0,0,0,(ByteArray.empty,ByteArray.empty,0),([]:List Int)),([]:List Y),([]:List AD),false)) else (if (decide ((x5.size:Int)>20))=true then (some ((0,0,false,false,false,false,([]:List Int),([]:List X),0,0,0,0,(ByteArray.empty,ByteArray.empty,0),([]:List Int)),([]:List Y),([]:List AD),false)) else (if (x2==2)=true then (if (!(x5.toList==(⟨#[]⟩:ByteArray).toList))=true then (some ((0,0,false,false,false,false,([]:List Int),([]:List X),0,0,0,0,(ByteArray.empty,ByteArray.empty,0),([]:List Int)),([]:List Y),([]:List AD),false)) else (if (decide (x0.2.1>(x1.length:Int)))=true then (some ((0,0,false,false,false,false,([]:List Int),([]:List X),0,0,0,0,(ByteArray.empty,ByteArray.empty,0),([]:List Int)),([]:List Y),([]:List AD),false)) else (if 0≤(i64.wrap (x0.2.1-1)) then (if (i64.wrap (x0.2.1-1))<(x1.length:Int) then (if 0≤(0:Int) then (if 0<((x1.getD (i64.wrap (x0.2.1-1)).toNat ([]:List Int)).length:Int) then (if (((x1.getD (i64.wrap (x0.2.1-1)).toNat ([]:List Int)).getD (0:Int).toNat 0) != x0.1)=true then (some ((0,0,false,false,false,false,([]:List Int),([]:List X),0,0,0,0,(ByteArray.empty,ByteArray.empty,0),([]:List Int)),([]:List Y),([]:List AD),false)) else (CG x1 x2 x3 x4 x5 ([]:List AD) (((x1.getD (i64.wrap (x0.2.1-1)).toNat ([]:List Int)).getD (0:Int).toNat 0) != x0.1) x0 (0,0,false,false,false,false,([]:List Int),([]:List X),0,0,0,0,(ByteArray.empty,ByteArray.empty,0),([]:List Int)) ([]:List Y))) else none) else none) else none) else none))) else (if (decide (x0.2.1>(x1.length:Int)))=true then (some ((0,0,false,false,false,false,([]:List Int),([]:List X),0,0,0,0,(ByteArray.empty,ByteArray.empty,0),([]:List Int)),([]:List Y),([]:List AD),false)) else (if 0≤(i64.wrap (x0.2.1-1)) then (if (i64.wrap (x0.2.1-1))<(x1.length:Int) then (if 0≤(0:Int) then (if 0<((x1.getD (i64.wrap (x0.2.1-1)).toNat ([]:List Int)).length:Int) then (if (((x1.getD (i64.wrap (x0.2.1-1)).toNat ([]:List Int)).getD (0:Int).toNat 0) != x0.1)=true then (some ((0,0,false,false,false,false,([]:List Int),([]:List X),0,0,0,0,(ByteArray.empty,ByteArray.empty,0),([]:List Int)),([]:List Y),([]:List AD),false)) else (CG x1 x2 x3 x4 x5 ([]:List AD) (((x1.getD (i64.wrap (x0.2.1-1)).toNat ([]:List Int)).getD (0:Int).toNat 0) != x0.1) x0 (0,0,false,false,false,false,([]:List Int),([]:List X),0,0,0,0,(ByteArray.empty,ByteArray.empty,0),([]:List Int)) ([]:List Y))) else none) else none) else none) else none))))))))) else ((AO x3 0 1000).bind fun y12=>(if (!y12)=true then (some ((0,0,false,false,false,false,([]:List Int),([]:List X),0,0,0,0,(ByteArray.empty,ByteArray.empty,0),([]:List Int)),([]:List Y),([]:List AD),false)) else ((AO (x4.size:Int) 1 12).bind fun y13=>(if (!y13)=true then (some ((0,0,false,false,false,false,([]:List Int),([]:List X),0,0,0,0,(ByteArray.empty,ByteArray.empty,0),([]:List Int)),([]:List Y),([]:List AD),false)) else (if (decide ((x5.size:Int)>20))=true then (some ((0,0,false,false,false,false,([]:List Int),([]:List X),0,0,0,0,(ByteArray.empty,ByteArray.empty,0),([]:List Int)),([]:List Y),([]:List AD),false)) else (if (x2==2)=true then (if (!(x5.toList==(⟨#[]⟩:ByteArray).toList))=true then (some ((0,0,false,false,false,false,([]:List Int),([]:List X),0,0,0,0,(ByteArray.empty,ByteArray.empty,0),([]:List Int)),([]:List Y),([]:List AD),false)) else (if (decide (x0.2.1>(x1.length:Int)))=true then (some ((0,0,false,false,false,false,([]:List Int),([]:List X),0,0,0,0,(ByteArray.empty,ByteArray.empty,0),([]:List Int)),([]:List Y),([]:List AD),false)) else (if 0≤(i64.wrap (x0.2.1-1)) then (if (i64.wrap (x0.2.1-1))<(x1.length:Int) then (if 0≤(0:Int) then (if 0<((x1.getD (i64.wrap (x0.2.1-1)).toNat ([]:List Int)).length:Int) then (if (((x1.getD (i64.wrap (x0.2.1-1)).toNat ([]:List Int)).getD (0:Int).toNat 0) != x0.1)=true then (some ((0,0,false,false,false,false,([]:List Int),([]:List X),0,0,0,0,(ByteArray.empty,ByteArray.empty,0),([]:List Int)),([]:List Y),([]:List AD),false)) else (CG x1 x2 x3 x4 x5 ([]:List AD) (((x1.getD (i64.wrap (x0.2.1-1)).toNat ([]:List Int)).getD (0:Int).toNat 0) != x0.1) x0 (0,0,false,false,false,false,([]:List Int),([]:List X),0,0,0,0,(ByteArray.empty,ByteArray.empty,0),([]:List Int)) ([]:List Y))) else none) else none) else none) else none))) else (if (decide (x0.2.1>(x1.length:Int)))=true then (some ((0,0,false,false,false,false,([]:List Int),([]:List X),0,0,0,0,(ByteArray.empty,ByteArray.empty,0),([]:List Int)),([]:List Y),([]:List AD),false)) else (if 0≤(i64.wrap (x0.2.1-1)) then (if (i64.wrap (x0.2.1-1))<(x1.length:Int) then (if 0≤(0:Int) then (if 0<((x1.getD (i64.wrap (x0.2.1-1)).toNat ([]:List Int)).length:Int) then (if (((x1.getD (i64.wrap (x0.2.1-1)).toNat ([]:List Int)).getD (0:Int).toNat 0) != x0.1)=true then (some ((0,0,false,false,false,false,([]:List Int),([]:List X),0,0,0,0,(ByteArray.empty,ByteArray.empty,0),([]:List Int)),([]:List Y),([]:List AD),false)) else (CG x1 x2 x3 x4 x5 ([]:List AD) (((x1.getD (i64.wrap (x0.2.1-1)).toNat ([]:List Int)).getD (0:Int).toNat 0) != x0.1) x0 (0,0,false,false,false,false,([]:List Int),([]:List X),0,0,0,0,(ByteArray.empty,ByteArray.empty,0),([]:List Int)) ([]:List Y))) else none) else none) else none) else none))))))))))))))))
theorem S9:pq MQ DY:=lS (by kernel_rfl)
theorem cK:qj S6 MO:=jS (by kernel_rfl)
theorem S_:qR MR DZ:=lS (by kernel_rfl)
theorem cL:pq S7 MP:=jS (by kernel_rfl)
theorem cM:pq S8 CG:=jS (by kernel_rfl)
theorem jB:lK Xw R2:=cT BO rfl ⟨rfl,rfl⟩ (by kernel_rfl)
def cN:=cG Se (AF C4) (AF C4) kx
def TA:=kE 0 [] [0,3] 0 cN kx
def Qo:St→Option (RT (BK.outs C4)):=lG Sd [] [0,3,4] 0 (AF C4) TA
def cO:=kB [] [0,3,4] 0 Qo
def Qp (x0:List Int) (x1 x2:Int) (x3:Bool):Option AA:=cG Sc cO (AF C4) TA ⟨[(0,.lst (.int .u8) x0),(3,.int .i64 x1),(4,.int .i64 x2),(15,.bool x3)],[]⟩
def HG (x0:List Int) (x1 x2:Int):Option AA:=Qo ⟨[(0,.lst (.int .u8) x0),(3,.int .i64 x1),(4,.int .i64 x2)],[]⟩
def Qq (x0:List Int) (x1 x2:Int) (x3:Bool):Option AA:=(if 0≤x2 then (if x2<(x0.length:Int) then (HG x0 (I2 .i64 (i64.wrap ((i64.wrap ((i64.wrap (x1*131))+(i64.wrap (x0.getD x2.toNat 0))))+7)) 1073741823) (i64.wrap (x2+1))) else none) else none)
def HH (x0:List Int) (x1 x2:Int):Option AA:=(if (decide (x2<(x0.length:Int)))=true then (if (decide (x2<4000))=true then (Qp x0 x1 x2 (decide (x2<4000))) else (some (x0,0,x1))) else (some (x0,0,x1)))
def gZ (x0:List Int):Option AA:=(HG x0 (i64.wrap (14301+(x0.length:Int))) 0)
theorem Zj:dN Qq Qp:=jS (by kernel_rfl)
theorem K3:Pr HH HG:=lS (by kernel_rfl)
theorem ga:N1 gZ Ps:=cT C4 rfl ⟨rfl,rfl⟩ (by kernel_rfl)
def TB (x1:List Int) (b0:AA):Option (AJ×AA):=((NU x1 b0).bind fun y1=>((MG y1.1.1 y1.1.2).bind fun y2=>(some (y2.1,y1.2))))
theorem cQ:RY TB MF:=cT Hw rfl ⟨rfl,rfl⟩ (by kernel_rfl)
def MS (x1:Int) (b0:AA):Option (Int×AA):=(if (decide (x1≤0))=true then (some (0,b0)) else (if (decide (x1≤256))=true then ((EF b0).bind fun y1=>(if x1=0 then none else (some ((Int.tmod y1.1 x1),y1.2)))) else ((EF b0).bind fun y2=>((EF y2.2).bind fun y3=>((EF y3.2).bind fun y4=>((EF y4.2).bind fun y5=>(if x1=0 then none else (some ((Int.tmod (i64.wrap ((i64.wrap ((i64.wrap ((i64.wrap (y2.1*16777216))+(i64.wrap (y3.1*65536))))+(i64.wrap (y4.1*256))))+y5.1)) x1),y5.2)))))))))
theorem cR:RY MS AS:=cT Hx rfl ⟨rfl,rfl⟩ (by kernel_rfl)
def Xx:=cG JN (AF CE) (AF CE) kx
def IQ (x0:Bool) (x1:AA) (x2:AJ) (x3:O) (x4 x5:Y):Option (Y×AA):=cG JN (AF CE) (AF CE) kx ⟨[(0,.ptr 0 0),(4,.ptr 1 0),(5,.ptr 2 0),(6,.ptr 3 0),(7,.ptr 4 0),(21,.bool x0)],[.var (AM.enc x1),.var (AU.enc x2),.var (U.enc x3),.var (AB.enc x4),.var (AB.enc x5)]⟩
def Fs (x0:Bool) (x1:AA) (x2:AJ) (x3:O) (x4 x5:Y):Option (Y×AA):=cG OR Xx (AF CE) kx ⟨[(0,.ptr 0 0),(4,.ptr 1 0),(5,.ptr 2 0),(6,.ptr 3 0),(7,.ptr 4 0),(21,.bool x0)],[.var (AM.enc x1),.var (AU.enc x2),.var (U.enc x3),.var (AB.enc x4),.var (AB.enc x5)]⟩
def Nd (x0:Bool) (x1:AA) (x2:AJ) (x3:O) (x4 x5:Y):Option (Y×AA):=((AS 2 x1).bind fun y4=>(some ((x5.1,x5.2.1,x5.2.2.1,(i64.wrap (x3.2.1+y4.1)),x3.2.2.2.2.2.2.2.2.2.2.2.1,x5.2.2.2.2.2),y4.2)))
def IR (x0:Bool) (x1:AA) (x2:AJ) (x3:O) (x4 x5:Y):Option (Y×AA):=(if x0=true then ((AS (x2.2.2.1.length:Int) x1).bind fun y3=>(if 0≤y3.1 then (if y3.1<(x2.2.2.1.length:Int) then (some (x2.2.2.1.getD y3.1.toNat (0,0,0,0,0,([]:List X)),y3.2)) else none) else none)) else (IQ x0 x1 x2 x3 x4 x5))
def MT (x1:AJ) (x2:O) (b0:AA):Option (Y×AA):=((Kw b0).bind fun y1=>(if (decide ((x1.2.2.1.length:Int)>0))=true then ((CA 3 y1.2).bind fun y2=>(Fs (!y2.1) y2.2 x1 x2 (0,0,0,0,0,([]:List X)) (y1.1.1,y1.1.2.1,x2.1,y1.1.2.2.2))) else (Fs false y1.2 x1 x2 (0,0,0,0,0,([]:List X)) (y1.1.1,y1.1.2.1,x2.1,y1.1.2.2.2))))
theorem Wa:lK Nd IQ:=jS (by kernel_rfl)
theorem Nf:lK IR Fs:=jS (by kernel_rfl)
theorem TC:Pr MT F6:=cT CE rfl ⟨rfl,rfl⟩ (by kernel_rfl)
def Xy (x0 x1 x2:Int):Option Bool:=(if (decide (x0≥x1))=true then (some (decide (x0≤x2))) else (some false))
theorem jC:Pr Xy AO:=cT Mz rfl ⟨rfl,rfl⟩ (by kernel_rfl)
def PE (x0:O):Option O:=((Bi x0.2.2.2.2.2.2.1).bind fun y1=>((AY x0.2.2.2.2.2.2.2.1).bind fun y2=>((Bi x0.2.2.2.2.2.2.2.2.2.2.2.2.2).bind fun y3=>(some (x0.1,x0.2.1,x0.2.2.1,x0.2.2.2.1,x0.2.2.2.2.1,x0.2.2.2.2.2.1,y1,y2,x0.2.2.2.2.2.2.2.2.1,x0.2.2.2.2.2.2.2.2.2.1,x0.2.2.2.2.2.2.2.2.2.2.1,x0.2.2.2.2.2.2.2.2.2.2.2.1,x0.2.2.2.2.2.2.2.2.2.2.2.2.1,y3)))))
theorem Xz:N1 PE DQ:=cT GQ rfl ⟨rfl,rfl⟩ (by kernel_rfl)
def Zk:=cG OU (AF BT) (AF BT) kx
def K4:=kE 0 [] [0] 0 Zk kx
def PF:St→Option (RT (BK.outs BT)):=lG OT [] [0,7,8,9] 0 (AF BT) K4
def Zl:=kB [] [0,7,8,9] 0 PF
def Qr:=cG OS Zl (AF BT) K4
def Qs:=kB [] [0,7,8,9] 0 Qr
def K5:=kE 1 [] [0,7,8,9] 0 Qr K4
def Zm:=cG Ku Qs (AF BT) K5
def Zn:=kE 2 [] [0,4,7,8,9] 0 Zm K5
def X0:St→Option (RT (BK.outs BT)):=lG QN [] [0,4,7,8,9,13,14,15] 0 (AF BT) Zn
def Jm (x0:List (List Int)) (x1:List Int) (x2:List (List Int)) (x3 x4:Int):Option Bool:=cG Ku Qs (AF BT) K5 ⟨[(0,.lst (.slice (.int .i64)) x0),(4,.lst (.int .i64) x1),(7,.lst (.slice (.int .i64)) x2),(8,.int .i64 x3),(9,.int .i64 x4)],[]⟩
def GV (x0:List (List Int)) (x1:List Int) (x2:List (List Int)) (x3 x4:Int) (x5:List Int) (x6 x7:Int):Option Bool:=X0 ⟨[(0,.lst (.slice (.int .i64)) x0),(4,.lst (.int .i64) x1),(7,.lst (.slice (.int .i64)) x2),(8,.int .i64 x3),(9,.int .i64 x4),(13,.lst (.int .i64) x5),(14,.int .i64 x6),(15,.int .i64 x7)],[]⟩
def GW (x0 x1:List (List Int)) (x2 x3:Int):Option Bool:=PF ⟨[(0,.lst (.slice (.int .i64)) x0),(7,.lst (.slice (.int .i64)) x1),(8,.int .i64 x2),(9,.int .i64 x3)],[]⟩
def PG (x0:List (List Int)) (x1:List Int) (x2:List (List Int)) (x3 x4:Int):Option Bool:=((Ak (x1.length:Int) 1 4).bind fun y3=>(if (!y3)=true then (some false) else (GW x0 x2 x3 (i64.wrap (x4+1)))))
def Jn (x0:List (List Int)) (x1:List Int) (x2:List (List Int)) (x3 x4:Int) (x5:List Int) (x6 x7:Int):Option Bool:=(if (decide (x7<x6))=true then (if 0≤x7 then (if x7<(x5.length:Int) then ((GB (x5.getD x7.toNat 0)).bind fun y1=>(if (!y1)=false then ((Cb x1 (x5.getD x7.toNat 0)).bind fun y2=>(if (y2 != x7)=true then (some false) else (GV x0 x1 x2 x3 x4 x5 x6 (i64.wrap (x7+1))))) else (some false))) else none) else none) else (Jm x0 x1 x2 x3 x4))
def Jo (x0 x1:List (List Int)) (x2 x3:Int):Option Bool:=(if (decide (x3<x2))=true then (if 0≤x3 then (if x3<(x1.length:Int) then (GV x0 (x1.getD x3.toNat ([]:List Int)) x1 x2 x3 (x1.getD x3.toNat ([]:List Int)) ((x1.getD x3.toNat ([]:List Int)).length:Int) 0) else none) else none) else ((Ak (x0.length:Int) 1 9).bind fun y4=>(some y4)))
def UW (x0:List (List Int)):Option Bool:=(GW x0 x0 (x0.length:Int) 0)
theorem X1:kC PG Jm:=jS (by kernel_rfl)
theorem PH:nU Jn GV:=lS (by kernel_rfl)
theorem PI:dN Jo GW:=lS (by kernel_rfl)
theorem fI:N1 UW Gv:=cT BT rfl ⟨rfl,rfl⟩ (by kernel_rfl)
end
end Go.Proofs.YtaedipailemlcaaGreat.Core

namespace Go.Proofs.YtaedipailemlcaaGreat.Core
open Go IntKind
set_option linter.unusedVariables false
set_option maxRecDepth 100000
noncomputable section
def UX:=cG UG (AF Dp) (AF Dp) kx
def fJ:=kB [] [1] 1 UX
def fK:=kE 0 [] [1] 1 UX kx
def IB (x0:Int) (x1:Bool) (x2:Y):Option Bool:=cG UF fJ (AF Dp) fK ⟨[(1,.ptr 0 0),(38,.int .i64 x0),(39,.bool x1)],[.var (AB.enc x2)]⟩
def MU (x0:Bool) (x1:Y):Option Bool:=cG UH (AF Dp) (AF Dp) kx ⟨[(1,.ptr 0 0),(36,.bool x0)],[.var (AB.enc x1)]⟩
def TD (x0:Int) (x1:Bool) (x2:Y):Option Bool:=(if x1=true then (some true) else (if (x0==5)=true then (some ((x2.2.2.2.2.2.length:Int)==1)) else (some ((x2.2.2.2.2.2.length:Int)==0))))
def TE (x0:Bool) (x1:Y):Option Bool:=(if (x1.1==2)=true then (IB x1.1 (x1.1==2) x1) else (IB x1.1 (x1.1==3) x1))
def X2 (x0:Y):Option Bool:=((Ak x0.1 1 8).bind fun y1=>(if (!y1)=false then ((GB x0.2.1).bind fun y2=>(if (!y2)=false then ((GB x0.2.2.1).bind fun y3=>(if (!y3)=false then ((Ak x0.2.2.2.1 1 9).bind fun y4=>(if (!y4)=false then ((Ak x0.2.2.2.2.1 0 1000000000).bind fun y5=>(if (!y5)=false then ((EE x0.2.2.2.2.2).bind fun y6=>(if (!y6)=true then (some false) else (MU (!y6) x0))) else (some false))) else (some false))) else (some false))) else (some false))) else (some false)))
theorem cS:Pr TD IB:=jS (by kernel_rfl)
theorem cU:RY TE MU:=jS (by kernel_rfl)
theorem jD:N1 X2 R3:=cT Dp rfl ⟨rfl,rfl⟩ (by kernel_rfl)
def Ly:=cG KT (AF Bh) (AF Bh) kx
def Gx:=kB [] [] 2 Ly
def Gy:=kE 0 [] [] 2 Ly kx
def Cp (x0:List (List Int)) (x1:Bool) (x2:O) (x3:Y):Option (List Y×List AD×O):=cG Lo Gx (AF Bh) Gy ⟨[(0,.ptr 0 0),(1,.lst (.slice (.int .i64)) x0),(5,.ptr 1 0),(37,.bool x1)],[.var (U.enc x2),.var (AB.enc x3)]⟩
def ER (x0:Bool) (x1:O) (x2:Y):Option (List Y×List AD×O):=cG Lq Gx (AF Bh) Gy ⟨[(0,.ptr 0 0),(5,.ptr 1 0),(75,.bool x0)],[.var (U.enc x1),.var (AB.enc x2)]⟩
def ES (x0:Int) (x1:Bool) (x2:O) (x3:Y):Option (List Y×List AD×O):=cG KS Gx (AF Bh) Gy ⟨[(0,.ptr 0 0),(5,.ptr 1 0),(9,.int .i64 x0),(107,.bool x1)],[.var (U.enc x2),.var (AB.enc x3)]⟩
def Ka (x0:List (List Int)) (x1:Bool) (x2:O) (x3:Y):Option (List Y×List AD×O):=(if x1=true then (if 0≤(i64.wrap (x2.2.1-1)) then (if (i64.wrap (x2.2.1-1))<(x0.length:Int) then ((Fp (x0.getD (i64.wrap (x2.2.1-1)).toNat ([]:List Int)) x3.2.2.2.2.2 x2).bind fun y2=>(some (y2.1,[],y2.2))) else none) else none) else (some ([],[],x2)))
def Kb (x0:Bool) (x1:O) (x2:Y):Option (List Y×List AD×O):=(if x0=true then ((Je x1.2.2.2.2.2.2.1 x2.2.1).bind fun y4=>(if x1.2.2.2.2.2.1=false then (if ((y4.length:Int)==0)=true then (some ([],[],(x1.1,x1.2.1,x1.2.2.1,x1.2.2.2.1,x1.2.2.2.2.1,x1.2.2.2.1,y4,x1.2.2.2.2.2.2.2))) else (some ([],[],(x1.1,x1.2.1,x1.2.2.1,x1.2.2.2.1,x1.2.2.2.2.1,false,y4,x1.2.2.2.2.2.2.2)))) else (some ([],[],(x1.1,x1.2.1,x1.2.2.1,x1.2.2.2.1,x1.2.2.2.2.1,true,y4,x1.2.2.2.2.2.2.2))))) else (some ([],[],x1)))
def Kc (x0:Int) (x1:Bool) (x2:O) (x3:Y):Option (List Y×List AD×O):=(if x1=true then ((HW x3 x2).bind fun y5=>(some (y5.1,[],y5.2))) else (if (x0==6)=true then ((Em 1 x3 x2).bind fun y6=>(some ([],y6.1,y6.2))) else (if (x0==8)=true then ((Em 2 x3 x2).bind fun y7=>(some ([],y7.1,y7.2))) else (some ([],[],x2)))))
def Ng (x1:List (List Int)) (x2:Y) (b0:O):Option (List Y×List AD×O):=(if (x2.1==1)=true then ((IK x1 x2 b0).bind fun y1=>(some (y1.1,[],y1.2))) else (if (x2.1==2)=true then (if (x2.2.2.2.1==b0.2.1)=true then (if b0.2.2.2.2.1=true then (Cp x1 (!b0.2.2.2.1) b0 x2) else (Cp x1 false b0 x2)) else (Cp x1 false b0 x2)) else (if (x2.1==3)=true then (if 0≤(i64.wrap (x2.2.2.2.1-1)) then (if (i64.wrap (x2.2.2.2.1-1))<(x1.length:Int) then ((GF (x1.getD (i64.wrap (x2.2.2.2.1-1)).toNat ([]:List Int)) x2 b0).bind fun y3=>(some (y3.1,[],y3.2))) else none) else none) else (if (x2.1==4)=true then (if (x2.2.2.2.1==b0.2.1)=true then (ER b0.2.2.2.2.1 b0 x2) else (ER false b0 x2)) else (if (x2.1==5)=true then (ES x2.1 (x2.1==5) b0 x2) else (ES x2.1 (x2.1==7) b0 x2))))))
theorem Tb:dN Ka Cp:=jS (by kernel_rfl)
theorem Tc:Pr Kb ER:=jS (by kernel_rfl)
theorem Td:dN Kc ES:=jS (by kernel_rfl)
theorem Wb:Pr Ng IJ:=cT Bh rfl ⟨rfl,rfl⟩ (by kernel_rfl)
def UY (x0:O):Option O:=(if ([]:List Int).length+x0.2.2.2.2.2.2.1.length≤68719476736 then (if ([]:List X).length+x0.2.2.2.2.2.2.2.1.length≤68719476736 then (if ([]:List Int).length+x0.2.2.2.2.2.2.2.2.2.2.2.2.2.length≤68719476736 then (some (x0.1,x0.2.1,x0.2.2.1,x0.2.2.2.1,x0.2.2.2.2.1,x0.2.2.2.2.2.1,(([]:List Int)++x0.2.2.2.2.2.2.1),(([]:List X)++x0.2.2.2.2.2.2.2.1),x0.2.2.2.2.2.2.2.2.1,x0.2.2.2.2.2.2.2.2.2.1,x0.2.2.2.2.2.2.2.2.2.2.1,x0.2.2.2.2.2.2.2.2.2.2.2.1,x0.2.2.2.2.2.2.2.2.2.2.2.2.1,(([]:List Int)++x0.2.2.2.2.2.2.2.2.2.2.2.2.2))) else none) else none) else none)
theorem fL:N1 UY CZ:=cT JO rfl ⟨rfl,rfl⟩ (by kernel_rfl)
def Cy (x0:Bool) (x1:O):Option Bool:=cG OV (AF Ea) (AF Ea) kx ⟨[(1,.ptr 0 0),(70,.bool x0)],[.var (U.enc x1)]⟩
def Nh (x0:Bool) (x1:O):Option Bool:=((Kx x1.2.2.2.2.2.2.2.2.2).bind fun y7=>(if y7=false then (if (x1.2.2.2.2.2.2.2.2.2.1==1)=false then (if (x1.2.2.2.2.2.2.2.2.2.1==2)=true then (if x1.2.2.2.2.2.1=true then ((AO x1.2.2.2.2.2.2.2.2.2.2.1 0 1000).bind fun y8=>(if y8=true then ((AO x1.2.2.2.2.2.2.2.2.2.2.2.1 1 900).bind fun y9=>(some y9)) else (some false))) else (some false)) else (some false)) else (if x1.2.2.2.2.2.1=true then ((AO x1.2.2.2.2.2.2.2.2.2.2.1 0 1000).bind fun y10=>(if y10=true then ((AO x1.2.2.2.2.2.2.2.2.2.2.2.1 1 900).bind fun y11=>(some y11)) else (some false))) else (some false))) else (some true)))
def TF (x0:O):Option Bool:=((AO x0.1 1 6).bind fun y1=>(if (!y1)=false then ((AO x0.2.1 1 9).bind fun y2=>(if (!y2)=false then (if x0.2.2.2.2.2.1=true then (if (!x0.2.2.2.1)=false then (if (!x0.2.2.2.2.1)=false then (if (decide ((x0.2.2.2.2.2.2.1.length:Int)>0))=false then (if x0.2.2.1=true then (if x0.2.2.2.1=false then (if x0.2.2.2.2.1=false then ((CU x0.2.2.2.2.2.2.1).bind fun y3=>(if (!y3)=false then ((CU x0.2.2.2.2.2.2.2.2.2.2.2.2.2).bind fun y4=>(if (!y4)=false then ((Ca x0.2.2.2.2.2.2.2.1).bind fun y5=>(if (!y5)=false then ((AO x0.2.2.2.2.2.2.2.2.1 0 900).bind fun y6=>(if (!y6)=true then (some false) else (Cy (!y6) x0))) else (some false))) else (some false))) else (some false))) else (some false)) else (some false)) else ((CU x0.2.2.2.2.2.2.1).bind fun y12=>(if (!y12)=false then ((CU x0.2.2.2.2.2.2.2.2.2.2.2.2.2).bind fun y13=>(if (!y13)=false then ((Ca x0.2.2.2.2.2.2.2.1).bind fun y14=>(if (!y14)=false then ((AO x0.2.2.2.2.2.2.2.2.1 0 900).bind fun y15=>(if (!y15)=true then (some false) else (Cy (!y15) x0))) else (some false))) else (some false))) else (some false)))) else (some false)) else (some false)) else (some false)) else (if x0.2.2.1=true then (if x0.2.2.2.1=false then (if x0.2.2.2.2.1=false then ((CU x0.2.2.2.2.2.2.1).bind fun y16=>(if (!y16)=false then ((CU x0.2.2.2.2.2.2.2.2.2.2.2.2.2).bind fun y17=>(if (!y17)=false then ((Ca x0.2.2.2.2.2.2.2.1).bind fun y18=>(if (!y18)=false then ((AO x0.2.2.2.2.2.2.2.2.1 0 900).bind fun y19=>(if (!y19)=true then (some false) else (Cy (!y19) x0))) else (some false))) else (some false))) else (some false))) else (some false)) else (some false)) else ((CU x0.2.2.2.2.2.2.1).bind fun y20=>(if (!y20)=false then ((CU x0.2.2.2.2.2.2.2.2.2.2.2.2.2).bind fun y21=>(if (!y21)=false then ((Ca x0.2.2.2.2.2.2.2.1).bind fun y22=>(if (!y22)=false then ((AO x0.2.2.2.2.2.2.2.2.1 0 900).bind fun y23=>(if (!y23)=true then (some false) else (Cy (!y23) x0))) else (some false))) else (some false))) else (some false))))) else (some false))) else (some false)))
theorem Wc:RY Nh Cy:=jS (by kernel_rfl)
theorem cV:N1 TF Eb:=cT Ea rfl ⟨rfl,rfl⟩ (by kernel_rfl)
def Zo:=cG QP (AF DC) (AF DC) kx
def Zp:=kE 0 [] [0] 0 Zo kx
def X3:St→Option (RT (BK.outs DC)):=lG QO [] [0,3] 0 (AF DC) Zp
def GX (x0:List (List Int)) (x1:Int):Option Bool:=X3 ⟨[(0,.lst (.slice (.int .i64)) x0),(3,.int .i64 x1)],[]⟩
def Jp (x0:List (List Int)) (x1:Int):Option Bool:=(if (decide (x1<(x0.length:Int)))=true then (if 0≤x1 then (if x1<(x0.length:Int) then ((NV (x0.getD x1.toNat ([]:List Int))).bind fun y1=>(if (!y1)=true then (some false) else (GX x0 (i64.wrap (x1+1))))) else none) else none) else ((AO (x0.length:Int) 1 9).bind fun y2=>(some y2)))
def UZ (x0:List (List Int)):Option Bool:=(GX x0 0)
theorem PJ:RY Jp GX:=lS (by kernel_rfl)
theorem fM:N1 UZ DK:=cT DC rfl ⟨rfl,rfl⟩ (by kernel_rfl)
def TG:=cG QT (AF B2) (AF B2) kx
def Ec:=kB [] [6,9,10,11] 4 TG
def Ed:=kE 0 [] [6,9,10,11] 4 TG kx
def HI (x0:List Int) (x1:List Y) (x2:List AD) (x3:Bool) (x4:O) (x5:Y) (x6 x7:O):Option (O×List Y×List AD):=cG Sf Ec (AF B2) Ed ⟨[(1,.lst (.int .i64) x0),(5,.ptr 1 0),(6,.ptr 2 0),(9,.ptr 3 0),(10,.lst AB x1),(11,.lst Ar x2),(28,.bool x3)],[.var (U.enc x4),.var (AB.enc x5),.var (U.enc x6),.var (U.enc x7)]⟩
def HJ (x0:List Y) (x1:List AD) (x2:Bool) (x3:O) (x4:Y) (x5 x6:O):Option (O×List Y×List AD):=cG Sg Ec (AF B2) Ed ⟨[(3,.ptr 0 0),(5,.ptr 1 0),(6,.ptr 2 0),(9,.ptr 3 0),(10,.lst AB x0),(11,.lst Ar x1),(60,.bool x2)],[.var (U.enc x3),.var (AB.enc x4),.var (U.enc x5),.var (U.enc x6)]⟩
def K6 (x0:List Y) (x1:List AD) (x2:Bool) (x3:O) (x4:Y) (x5 x6:O):Option (O×List Y×List AD):=cG Sh Ec (AF B2) Ed ⟨[(3,.ptr 0 0),(5,.ptr 1 0),(6,.ptr 2 0),(9,.ptr 3 0),(10,.lst AB x0),(11,.lst Ar x1),(50,.bool x2)],[.var (U.enc x3),.var (AB.enc x4),.var (U.enc x5),.var (U.enc x6)]⟩
def K7 (x0:List Y) (x1:List AD) (x2:Bool) (x3:O) (x4:Y) (x5 x6:O):Option (O×List Y×List AD):=cG QQ Ec (AF B2) Ed ⟨[(5,.ptr 1 0),(6,.ptr 2 0),(9,.ptr 3 0),(10,.lst AB x0),(11,.lst Ar x1),(145,.bool x2)],[.var (U.enc x3),.var (AB.enc x4),.var (U.enc x5),.var (U.enc x6)]⟩
def HK (x0:List Y) (x1:List AD) (x2:Int) (x3:O) (x4:Y) (x5 x6:O):Option (O×List Y×List AD):=cG QR Ec (AF B2) Ed ⟨[(5,.ptr 1 0),(6,.ptr 2 0),(9,.ptr 3 0),(10,.lst AB x0),(11,.lst Ar x1),(13,.int .i64 x2)],[.var (U.enc x3),.var (AB.enc x4),.var (U.enc x5),.var (U.enc x6)]⟩
def HL (x0:List Y) (x1:List AD) (x2:Bool) (x3:O) (x4:Y) (x5 x6:O):Option (O×List Y×List AD):=cG QS Ec (AF B2) Ed ⟨[(5,.ptr 1 0),(6,.ptr 2 0),(9,.ptr 3 0),(10,.lst AB x0),(11,.lst Ar x1),(127,.bool x2)],[.var (U.enc x3),.var (AB.enc x4),.var (U.enc x5),.var (U.enc x6)]⟩
def Qt (x0:List Int) (x1:List Y) (x2:List AD) (x3:Bool) (x4:O) (x5:Y) (x6 x7:O):Option (O×List Y×List AD):=(if x3=true then ((Lc x0 x5.2.2.2.2.2 x7).bind fun y2=>(some (y2.2,y2.1,x2))) else (some (x7,x1,x2)))
def Qu (x0:List Y) (x1:List AD) (x2:Bool) (x3:O) (x4:Y) (x5 x6:O):Option (O×List Y×List AD):=(if (!x6.2.2.2.1)=true then ((Jd x3 x3.2.1).bind fun y4=>(if ([]:List X).length+x4.2.2.2.2.2.length≤68719476736 then ((DX x3 x4 4).bind fun y5=>(some ((y4.1,y4.2.1,y4.2.2.1,true,y4.2.2.2.2.1,y4.2.2.2.2.2.1,y4.2.2.2.2.2.2.1,(([]:List X)++x4.2.2.2.2.2),y4.2.2.2.2.2.2.2.2),y5,x1))) else none)) else ((DX x3 x4 4).bind fun y6=>(some (x6,y6,x1))))
def Qv (x0:List Y) (x1:List AD) (x2:Bool) (x3:O) (x4:Y) (x5 x6:O):Option (O×List Y×List AD):=(if (!x6.2.2.2.1)=true then (if x6.2.2.1=true then (some (x6,x0,x1)) else (HJ x0 x1 x6.2.2.1 x3 x4 x5 x6)) else (HJ x0 x1 false x3 x4 x5 x6))
def Qw (x0:List Y) (x1:List AD) (x2:Bool) (x3:O) (x4:Y) (x5 x6:O):Option (O×List Y×List AD):=((GT x6.2.2.2.2.2.2.2.2.2.2.2.2.2 x4.2.1).bind fun y11=>(if ((y11.length:Int)==0)=true then ((FU (x6.1,x6.2.1,x6.2.2.1,x6.2.2.2.1,x6.2.2.2.2.1,x6.2.2.2.2.2.1,x6.2.2.2.2.2.2.1,x6.2.2.2.2.2.2.2.1,x6.2.2.2.2.2.2.2.2.1,x6.2.2.2.2.2.2.2.2.2.1,x6.2.2.2.2.2.2.2.2.2.2.1,x6.2.2.2.2.2.2.2.2.2.2.2.1,x6.2.2.2.2.2.2.2.2.2.2.2.2.1,y11)).bind fun y12=>(some (y12.2,x0,y12.1))) else (some ((x6.1,x6.2.1,x6.2.2.1,x6.2.2.2.1,x6.2.2.2.2.1,x6.2.2.2.2.2.1,x6.2.2.2.2.2.2.1,x6.2.2.2.2.2.2.2.1,x6.2.2.2.2.2.2.2.2.1,x6.2.2.2.2.2.2.2.2.2.1,x6.2.2.2.2.2.2.2.2.2.2.1,x6.2.2.2.2.2.2.2.2.2.2.2.1,x6.2.2.2.2.2.2.2.2.2.2.2.2.1,y11),x0,x1))))
def Qx (x0:List Y) (x1:List AD) (x2:Int) (x3:O) (x4:Y) (x5 x6:O):Option (O×List Y×List AD):=(if (x6.2.2.2.2.2.2.2.2.2.1 != x2)=false then (if (x6.2.2.2.2.2.2.2.2.2.2.2.1 != x4.2.2.2.2.1)=true then (some (x6,x0,x1)) else (K7 x0 x1 (x6.2.2.2.2.2.2.2.2.2.2.2.1 != x4.2.2.2.2.1) x3 x4 x5 x6)) else (some (x6,x0,x1)))
def Qy (x0:List Y) (x1:List AD) (x2:Bool) (x3:O) (x4:Y) (x5 x6:O):Option (O×List Y×List AD):=(if x2=true then (if (x4.1==8)=true then (HK x0 x1 2 x3 x4 x5 x6) else (HK x0 x1 1 x3 x4 x5 x6)) else (some (x6,x0,x1)))
def Vy (x0:O) (x1:List Int) (x2:Y):Option (O×List Y×List AD):=((CZ x0).bind fun y1=>(if (x2.1==2)=true then (if y1.2.2.2.2.1=true then (HI x1 ([]:List Y) ([]:List AD) (!y1.2.2.2.1) x0 x2 (0,0,false,false,false,false,([]:List Int),([]:List X),0,0,0,0,(ByteArray.empty,ByteArray.empty,0),([]:List Int)) y1) else (HI x1 ([]:List Y) ([]:List AD) false x0 x2 (0,0,false,false,false,false,([]:List Int),([]:List X),0,0,0,0,(ByteArray.empty,ByteArray.empty,0),([]:List Int)) y1)) else (if (x2.1==3)=true then ((C6 x1 x0.1).bind fun y3=>(if (!y3)=true then (some (y1,([]:List Y),([]:List AD))) else (if 0≤(0:Int) then (if 0<(x1.length:Int) then (if ((x1.getD (0:Int).toNat 0)==x0.1)=true then (some (y1,([]:List Y),([]:List AD))) else (K6 ([]:List Y) ([]:List AD) ((x1.getD (0:Int).toNat 0)==x0.1) x0 x2 (0,0,false,false,false,false,([]:List Int),([]:List X),0,0,0,0,(ByteArray.empty,ByteArray.empty,0),([]:List Int)) y1)) else none) else none))) else (if (x2.1==4)=true then (if y1.2.2.2.2.1=true then ((GT y1.2.2.2.2.2.2.1 x2.2.1).bind fun y7=>(if y1.2.2.2.1=true then (some ((y1.1,y1.2.1,y1.2.2.1,y1.2.2.2.1,y1.2.2.2.2.1,((y7.length:Int)==0),y7,y1.2.2.2.2.2.2.2),([]:List Y),([]:List AD))) else (some ((y1.1,y1.2.1,y1.2.2.1,y1.2.2.2.1,y1.2.2.2.2.1,false,y7,y1.2.2.2.2.2.2.2),([]:List Y),([]:List AD))))) else (some (y1,([]:List Y),([]:List AD)))) else (if (x2.1==5)=true then (if y1.2.2.2.1=true then (if 0≤(0:Int) then (if 0<(x2.2.2.2.2.2.length:Int) then ((FS y1.2.2.2.2.2.2.2.1 (x2.2.2.2.2.2.getD (0:Int).toNat (ByteArray.empty,ByteArray.empty,0))).bind fun y8=>((DX x0 x2 6).bind fun y9=>(some ((y1.1,y1.2.1,y1.2.2.1,y1.2.2.2.1,y1.2.2.2.2.1,y1.2.2.2.2.2.1,y1.2.2.2.2.2.2.1,y8,y1.2.2.2.2.2.2.2.2),y9,([]:List AD))))) else none) else none) else (some (y1,([]:List Y),([]:List AD)))) else (if (x2.1==7)=true then (if y1.2.2.2.1=true then ((DX x0 x2 8).bind fun y10=>(some (y1,y10,([]:List AD)))) else (some (y1,([]:List Y),([]:List AD)))) else (if (x2.1==6)=true then (HL ([]:List Y) ([]:List AD) (x2.1==6) x0 x2 (0,0,false,false,false,false,([]:List Int),([]:List X),0,0,0,0,(ByteArray.empty,ByteArray.empty,0),([]:List Int)) y1) else (HL ([]:List Y) ([]:List AD) (x2.1==8) x0 x2 (0,0,false,false,false,false,([]:List Int),([]:List X),0,0,0,0,(ByteArray.empty,ByteArray.empty,0),([]:List Int)) y1))))))))
theorem Zq:nU Qt HI:=jS (by kernel_rfl)
theorem Zr:n7 Qu HJ:=jS (by kernel_rfl)
theorem Zs:n7 Qv K6:=jS (by kernel_rfl)
theorem Zt:n7 Qw K7:=jS (by kernel_rfl)
theorem Zu:n7 Qx HK:=jS (by kernel_rfl)
theorem Zv:n7 Qy HL:=jS (by kernel_rfl)
theorem gd:Pr Vy Pt:=cT B2 rfl ⟨rfl,rfl⟩ (by kernel_rfl)
def fN:=cG UJ (AF Ej) (AF Ej) kx
def fO:=kE 0 [] [] 0 fN kx
def cW:St→Option (RT (BK.outs Ej)):=lG UI [] [0,1,5] 0 (AF Ej) fO
def IC (x0:List Int) (x1 x2:Int):Option Bool:=cW ⟨[(0,.lst (.int .i64) x0),(1,.int .i64 x1),(5,.int .i64 x2)],[]⟩
def MV (x0:List Int) (x1 x2:Int):Option Bool:=(if (decide (x2<(x0.length:Int)))=true then (if 0≤x2 then (if x2<(x0.length:Int) then (if ((x0.getD x2.toNat 0)==x1)=true then (some true) else (IC x0 x1 (i64.wrap (x2+1)))) else none) else none) else (some false))
def X4 (x0:List Int) (x1:Int):Option Bool:=(IC x0 x1 0)
theorem TH:Pr MV IC:=lS (by kernel_rfl)
theorem jE:RY X4 C6:=cT Ej rfl ⟨rfl,rfl⟩ (by kernel_rfl)
def Ua (x0:O) (x1:Int):Option O:=(if ([]:List X).length+x0.2.2.2.2.2.2.2.1.length≤68719476736 then (some (x0.1,x1,false,false,false,false,([]:List Int),(([]:List X)++x0.2.2.2.2.2.2.2.1),0,0,0,0,(ByteArray.empty,ByteArray.empty,0),([]:List Int))) else none)
theorem fP:RY Ua Jd:=cT JP rfl ⟨rfl,rfl⟩ (by kernel_rfl)
def cX (x0:O) (x1:Y) (x2:Int):Option (List Y):=(some ([(x2,x0.1,x1.2.1,x1.2.2.2.1,x1.2.2.2.2.1,([]:List X))]:List Y))
theorem cY:Pr cX DX:=cT Hy rfl ⟨rfl,rfl⟩ (by kernel_rfl)
def Vz (x0:Int):Option Bool:=((Ak x0 1 6).bind fun y1=>(some y1))
theorem ge:N1 Vz GB:=cT LW rfl ⟨rfl,rfl⟩ (by kernel_rfl)
def Ub (x0 x1 x2:Int):Option Bool:=(if (decide (x0≥x1))=true then (some (decide (x0≤x2))) else (some false))
theorem fQ:Pr Ub Ak:=cT JQ rfl ⟨rfl,rfl⟩ (by kernel_rfl)
def Uc:=cG Ls (AF By) (AF By) kx
def Ud:=kE 0 [] [] 0 Uc kx
def Te:St→Option (RT (BK.outs By)):=lG Lr [] [0,1,2,9,10,11] 0 (AF By) Ud
def Cq (x0:List Int) (x1 x2:Int) (x3:List Int) (x4 x5:Int):Option Bool:=Te ⟨[(0,.lst (.int .i64) x0),(1,.int .i64 x1),(2,.int .i64 x2),(9,.lst (.int .i64) x3),(10,.int .i64 x4),(11,.int .i64 x5)],[]⟩
def GH (x0:List Int) (x1 x2:Int) (x3:List Int) (x4 x5:Int):Option Bool:=(if (decide (x5<x4))=true then (if 0≤x5 then (if x5<(x3.length:Int) then ((Ak (x3.getD x5.toNat 0) x1 x2).bind fun y1=>(if (!y1)=false then (if (decide (x5>0))=true then (if 0≤(i64.wrap (x5-1)) then (if (i64.wrap (x5-1))<(x0.length:Int) then (if (decide ((x3.getD x5.toNat 0)≤(x0.getD (i64.wrap (x5-1)).toNat 0)))=true then (some false) else (Cq x0 x1 x2 x3 x4 (i64.wrap (x5+1)))) else none) else none) else (Cq x0 x1 x2 x3 x4 (i64.wrap (x5+1)))) else (some false))) else none) else none) else (some true))
def Ni (x0:List Int) (x1 x2:Int):Option Bool:=(Cq x0 x1 x2 x0 (x0.length:Int) 0)
theorem Ke:lK GH Cq:=lS (by kernel_rfl)
theorem Wd:Pr Ni Fm:=cT By rfl ⟨rfl,rfl⟩ (by kernel_rfl)
def Zw:=cG Oa (AF DD) (AF DD) kx
def Zx:=kE 0 [] [0] 0 Zw kx
def X5:St→Option (RT (BK.outs DD)):=lG OZ [] [0,5,6,7] 0 (AF DD) Zx
def Eo (x0 x1:List X) (x2 x3:Int):Option Bool:=X5 ⟨[(0,.lst Z x0),(5,.lst Z x1),(6,.int .i64 x2),(7,.int .i64 x3)],[]⟩
def Jq (x0 x1:List X) (x2 x3:Int):Option Bool:=(if (decide (x3<x2))=true then (if 0≤x3 then (if x3<(x1.length:Int) then ((M4 ((x1.getD x3.toNat (ByteArray.empty,ByteArray.empty,0)).1)).bind fun y1=>(if (!y1)=true then (some false) else (if (decide (((((x1.getD x3.toNat (ByteArray.empty,ByteArray.empty,0)).2).1).size:Int)>20))=true then (some false) else ((Ak (((x1.getD x3.toNat (ByteArray.empty,ByteArray.empty,0)).2).2) 1 1000000000).bind fun y2=>(if (!y2)=true then (some false) else (if (decide (x3>0))=true then (if 0≤(i64.wrap (x3-1)) then (if (i64.wrap (x3-1))<(x0.length:Int) then (if ((Op.bytesLess ((x1.getD x3.toNat (ByteArray.empty,ByteArray.empty,0)).1).toList ((x0.getD (i64.wrap (x3-1)).toNat (ByteArray.empty,ByteArray.empty,0)).1).toList)||(((x1.getD x3.toNat (ByteArray.empty,ByteArray.empty,0)).1).toList==((x0.getD (i64.wrap (x3-1)).toNat (ByteArray.empty,ByteArray.empty,0)).1).toList))=true then (some false) else (Eo x0 x1 x2 (i64.wrap (x3+1)))) else none) else none) else (Eo x0 x1 x2 (i64.wrap (x3+1))))))))) else none) else none) else (some (decide ((x0.length:Int)≤12))))
def Ue (x0:List X):Option Bool:=(Eo x0 x0 (x0.length:Int) 0)
theorem PL:dN Jq Eo:=lS (by kernel_rfl)
theorem fR:N1 Ue EE:=cT DD rfl ⟨rfl,rfl⟩ (by kernel_rfl)
def Lz (b0:O):Option (Bool×O):=(if (b0.2.2.2.2.2.2.2.2.2.1==0)=true then (if (b0.2.2.2.2.2.2.2.2.2.2.1==0)=true then (if (b0.2.2.2.2.2.2.2.2.2.2.2.1==0)=true then (if (false != Vn Z b0.2.2.2.2.2.2.2.2.2.2.2.2.1 (ByteArray.empty,ByteArray.empty,0))=true then (some (((b0.2.2.2.2.2.2.2.2.2.2.2.2.2.length:Int)==0),b0)) else (some (false,b0))) else (some (false,b0))) else (some (false,b0))) else ((Ak b0.2.2.2.2.2.2.2.2.2.1 1 2).bind fun y1=>(if y1=true then (if b0.2.2.2.2.2.1=true then ((Ak b0.2.2.2.2.2.2.2.2.2.2.1 0 1000).bind fun y2=>(if y2=true then ((Ak b0.2.2.2.2.2.2.2.2.2.2.2.1 1 900).bind fun y3=>(if y3=true then ((Fm b0.2.2.2.2.2.2.2.2.2.2.2.2.2 1 6).bind fun y4=>(some (y4,b0))) else (some (false,b0)))) else (some (false,b0)))) else (some (false,b0))) else (some (false,b0)))))
theorem Uf:N1 Lz CP:=cT Ek rfl ⟨rfl,rfl⟩ (by kernel_rfl)
def Zy:=cG Of (AF DE) (AF DE) kx
def Zz:=kE 0 [] [0] 0 Zy kx
def X6:St→Option (RT (BK.outs DE)):=lG Oe [] [0,3] 0 (AF DE) Zz
def Ep (x0:List X) (x1:Int):Option Bool:=X6 ⟨[(0,.lst Z x0),(3,.int .i64 x1)],[]⟩
def Jr (x0:List X) (x1:Int):Option Bool:=(if (decide (x1<(x0.length:Int)))=true then (if 0≤x1 then (if x1<(x0.length:Int) then ((AO (((x0.getD x1.toNat (ByteArray.empty,ByteArray.empty,0)).1).size:Int) 1 12).bind fun y1=>(if (!y1)=true then (some false) else (if (decide (((((x0.getD x1.toNat (ByteArray.empty,ByteArray.empty,0)).2).1).size:Int)>20))=true then (some false) else ((AO (((x0.getD x1.toNat (ByteArray.empty,ByteArray.empty,0)).2).2) 1 1000000000).bind fun y2=>(if (!y2)=true then (some false) else (if (decide (x1>0))=true then (if 0≤(i64.wrap (x1-1)) then (if (i64.wrap (x1-1))<(x0.length:Int) then (if (!(Op.bytesLess ((x0.getD (i64.wrap (x1-1)).toNat (ByteArray.empty,ByteArray.empty,0)).1).toList ((x0.getD x1.toNat (ByteArray.empty,ByteArray.empty,0)).1).toList))=true then (some false) else (Ep x0 (i64.wrap (x1+1)))) else none) else none) else (Ep x0 (i64.wrap (x1+1))))))))) else none) else none) else (some (decide ((x0.length:Int)≤12))))
def Ug (x0:List X):Option Bool:=(Ep x0 0)
theorem PM:RY Jr Ep:=lS (by kernel_rfl)
theorem fS:N1 Ug Ca:=cT DE rfl ⟨rfl,rfl⟩ (by kernel_rfl)
def HS (x0:List (List Int)) (x1:Bool) (x2:O):Option (Bool×O):=cG Hi (AF B3) (AF B3) kx ⟨[(0,.ptr 0 0),(1,.lst (.slice (.int .i64)) x0),(33,.bool x1)],[.var (U.enc x2)]⟩
def N3 (x0:List (List Int)) (x1:Bool) (x2:O):Option (Bool×O):=((Gv x0).bind fun y1=>(if y1=true then (if 0≤(i64.wrap (x2.2.1-1)) then (if (i64.wrap (x2.2.1-1))<(x0.length:Int) then (if 0≤(0:Int) then (if 0<((x0.getD (i64.wrap (x2.2.1-1)).toNat ([]:List Int)).length:Int) then (some ((((x0.getD (i64.wrap (x2.2.1-1)).toNat ([]:List Int)).getD (0:Int).toNat 0)==x2.1),x2)) else none) else none) else none) else none) else (some (false,x2))))
def Js (x1:List (List Int)) (b0:O):Option (Bool×O):=(if (!b0.2.2.2.2.2.1)=false then (if (b0.2.2.2.2.2.2.2.2.2.1 != 0)=false then (if (b0.2.2.2.2.2.2.2.2.1==900)=false then (if (decide (b0.2.1>(x1.length:Int)))=true then (some (false,b0)) else (HS x1 (decide (b0.2.1>(x1.length:Int))) b0)) else (some (false,b0))) else (some (false,b0))) else (some (false,b0)))
theorem gD:Pr N3 HS:=jS (by kernel_rfl)
theorem R6:RY Js Fn:=cT B3 rfl ⟨rfl,rfl⟩ (by kernel_rfl)
def TI (x0:Int) (x1:ByteArray) (x2:Bool):Option Bool:=cG UL (AF G8) (AF G8) kx ⟨[(0,.int .i64 x0),(3,.str x1),(26,.bool x2)],[]⟩
def cZ (x0:Int) (x1:ByteArray) (x2:Bool):Option Bool:=(if (x0==1)=false then (some (x1.toList==(⟨#[]⟩:ByteArray).toList)) else (some true))
def jF (x0 x1:Int) (x2 x3:ByteArray):Option Bool:=((Ak x0 1 2).bind fun y1=>(if (!y1)=false then ((Ak x1 0 1000).bind fun y2=>(if (!y2)=false then ((M4 x2).bind fun y3=>(if (!y3)=false then (if (decide ((x3.size:Int)>20))=true then (some false) else (TI x0 x3 (decide ((x3.size:Int)>20)))) else (some false))) else (some false))) else (some false)))
theorem me:Pr cZ TI:=jS (by kernel_rfl)
theorem pB:dN jF Xk:=cT G8 rfl ⟨rfl,rfl⟩ (by kernel_rfl)
def R7:=cG JS (AF Ba) (AF Ba) kx
def R8:=kE 0 [(5,1)] [5] 2 R7 kx
def Qz:St→Option (RT (BK.outs Ba)):=lG JR [(5,1)] [0,5,8,9,10] 2 (AF Ba) R8
def CQ (x0:List Int) (x1 x2:Int) (x3:O) (x4:List Int):Option (List Int×O):=Qz ⟨[(0,.ptr 0 0),(5,.row 1),(8,.lst (.int .i64) x0),(9,.int .i64 x1),(10,.int .i64 x2)],[.var (U.enc x3),.rows 3 (.int .i64) x4]⟩
def FV (x0:List Int) (x1 x2:Int) (x3:O) (x4:List Int):Option (List Int×O):=(if (decide (x2<x1))=true then (if 0≤x2 then (if x2<(x0.length:Int) then (if ((x0.getD x2.toNat 0) != x3.1)=true then (if x4.length+([(x0.getD x2.toNat 0)]:List Int).length≤68719476736 then (CQ x0 x1 (i64.wrap (x2+1)) x3 (x4++([(x0.getD x2.toNat 0)]:List Int))) else none) else (CQ x0 x1 (i64.wrap (x2+1)) x3 x4)) else none) else none) else (some (x4,x3)))
def L1 (x1:List Int) (b0:O):Option (List Int×O):=(CQ x1 (x1.length:Int) 0 b0 ([]:List Int))
theorem Ir:kC FV CQ:=lS (by kernel_rfl)
theorem Uh:RY L1 El:=cT Ba rfl ⟨rfl,rfl⟩ (by kernel_rfl)
def Kf (b0:List Int):Option (List Int):=((MH (IntKind.u64.wrap (b0.length:Int))).bind fun y1=>((Bu 0 (b0.length:Int) y1 b0).bind fun y2=>(some y2)))
theorem Tf:N1 Kf Co:=cT EQ rfl ⟨rfl,rfl⟩ (by kernel_rfl)
def GI (x0:O) (x1:ii):Option (List AD×O):=cG Lt (AF Cv) (AF Cv) kx ⟨[(0,.ptr 0 0),(3,.ptr 1 0)],[.var (U.enc x0),.var (JE.enc x1)]⟩
def GJ (x0:O) (x1:ii):Option (List AD×O):=(some (([(x1.2.1,x0.2.1,x1.2.2.1,x1.2.2.2.1)]:List AD),(x0.1,x0.2.1,x0.2.2.1,x0.2.2.2.1,x0.2.2.2.2.1,x0.2.2.2.2.2.1,x0.2.2.2.2.2.2.1,x0.2.2.2.2.2.2.2.1,x0.2.2.2.2.2.2.2.2.1,0,0,0,(ByteArray.empty,ByteArray.empty,0),([]:List Int))))
def Nj (b0:O):Option (List AD×O):=(if (b0.2.2.2.2.2.2.2.2.2.1==1)=true then ((Jf b0.2.2.2.2.2.2.2.1 b0.2.2.2.2.2.2.2.2.2.2.2.2.1).bind fun y1=>(GI (b0.1,b0.2.1,b0.2.2.1,b0.2.2.2.1,b0.2.2.2.2.1,b0.2.2.2.2.2.1,b0.2.2.2.2.2.2.1,y1,b0.2.2.2.2.2.2.2.2) b0.2.2.2.2.2.2.2.2.2)) else ((La b0.2.2.2.2.2.2.2.1 b0.2.2.2.2.2.2.2.2.2.2.2.2.1.1).bind fun y2=>(GI b0 (b0.2.2.2.2.2.2.2.2.2.1,b0.2.2.2.2.2.2.2.2.2.2.1,b0.2.2.2.2.2.2.2.2.2.2.2.1,y2,b0.2.2.2.2.2.2.2.2.2.2.2.2.2))))
theorem Kg:RY GJ GI:=jS (by kernel_rfl)
theorem We:N1 Nj Fo:=cT Cv rfl ⟨rfl,rfl⟩ (by kernel_rfl)
def Q0:=cG Il (AF BM) (AF BM) kx
def Q1:=kE 0 [(7,2)] [7] 3 Q0 kx
def Py:St→Option (RT (BK.outs BM)):=lG Ik [(7,2)] [0,5,7,11,12,13] 3 (AF BM) Q1
def C7 (x0:List Int) (x1 x2:Int) (x3:O) (x4:Y) (x5:List Y):Option (List Y×O):=Py ⟨[(0,.ptr 0 0),(5,.ptr 1 0),(7,.row 2),(11,.lst (.int .i64) x0),(12,.int .i64 x1),(13,.int .i64 x2)],[.var (U.enc x3),.var (AB.enc x4),.rows 34 AB x5]⟩
def E7 (x0:List Int) (x1 x2:Int) (x3:O) (x4:Y) (x5:List Y):Option (List Y×O):=(if (decide (x2<x1))=true then (if 0≤x2 then (if x2<(x0.length:Int) then ((NW x4).bind fun y1=>(if x5.length+([(y1.1,x3.1,(x0.getD x2.toNat 0),x3.2.1,y1.2.2.2.2)]:List Y).length≤68719476736 then (C7 x0 x1 (i64.wrap (x2+1)) x3 x4 (x5++([(y1.1,x3.1,(x0.getD x2.toNat 0),x3.2.1,y1.2.2.2.2)]:List Y))) else none)) else none) else none) else (some (x5,x3)))
def Kh (x1:List Int) (x2:Y) (b0:O):Option (List Y×O):=(C7 x1 (x1.length:Int) 0 b0 x2 ([]:List Y))
theorem Hm:lK E7 C7:=lS (by kernel_rfl)
theorem Tg:Pr Kh Al:=cT BM rfl ⟨rfl,rfl⟩ (by kernel_rfl)
def Ui (x1:Int) (b0:AA):Option (Bool×AA):=((AS x1 b0).bind fun y1=>(some ((y1.1==0),y1.2)))
theorem fT:RY Ui CA:=cT JT rfl ⟨rfl,rfl⟩ (by kernel_rfl)
def Mk (x0:Int) (x1:List (List Int)) (x2:Bool) (x3:O):Option (O×Bool):=cG NL (AF D8) (AF D8) kx ⟨[(0,.int .i64 x0),(1,.lst (.slice (.int .i64)) x1),(4,.ptr 0 0),(14,.bool x2)],[.var (U.enc x3)]⟩
def Ml (x0:Int) (x1:List (List Int)) (x2:Bool) (x3:O):Option (O×Bool):=(if 0≤(0:Int) then (if 0<(x1.length:Int) then ((C6 (x1.getD (0:Int).toNat ([]:List Int)) x0).bind fun y3=>(if 0≤(0:Int) then (if 0<(x1.length:Int) then (if 0≤(0:Int) then (if 0<((x1.getD (0:Int).toNat ([]:List Int)).length:Int) then (some ((x0,1,false,y3,(((x1.getD (0:Int).toNat ([]:List Int)).getD (0:Int).toNat 0)==x0),(((x1.getD (0:Int).toNat ([]:List Int)).getD (0:Int).toNat 0)==x0),([]:List Int),([]:List X),0,0,0,0,(ByteArray.empty,ByteArray.empty,0),([]:List Int)),true)) else none) else none) else none) else none)) else none) else none)
def Q2 (x0:Int) (x1:List (List Int)):Option (O×Bool):=((DK x1).bind fun y1=>(if (!y1)=false then ((AO x0 1 6).bind fun y2=>(if (!y2)=true then (some ((0,0,false,false,false,false,([]:List Int),([]:List X),0,0,0,0,(ByteArray.empty,ByteArray.empty,0),([]:List Int)),false)) else (Mk x0 x1 (!y2) (0,0,false,false,false,false,([]:List Int),([]:List X),0,0,0,0,(ByteArray.empty,ByteArray.empty,0),([]:List Int))))) else (some ((0,0,false,false,false,false,([]:List Int),([]:List X),0,0,0,0,(ByteArray.empty,ByteArray.empty,0),([]:List Int)),false))))
theorem Vc:dN Ml Mk:=jS (by kernel_rfl)
theorem Z0:RY Q2 Kv:=cT D8 rfl ⟨rfl,rfl⟩ (by kernel_rfl)
def ca:=cG Sj (AF Dx) (AF Dx) kx
def cc:=kE 0 [] [4] 1 ca kx
def Z1:St→Option (RT (BK.outs Dx)):=lG Si [] [0,1,4,5] 1 (AF Dx) cc
def HM (x0:List X) (x1:ByteArray) (x2:Int) (x3:X):Option X:=Z1 ⟨[(0,.lst Z x0),(1,.str x1),(4,.ptr 0 0),(5,.int .i64 x2)],[.var (Z.enc x3)]⟩
def K8 (x0:List X) (x1:ByteArray) (x2:Int) (x3:X):Option X:=(if (decide (x2<(x0.length:Int)))=true then (if 0≤x2 then (if x2<(x0.length:Int) then (if (((x0.getD x2.toNat (ByteArray.empty,ByteArray.empty,0)).1).toList==x1.toList)=true then (if 0≤x2 then (if x2<(x0.length:Int) then (some (x0.getD x2.toNat (ByteArray.empty,ByteArray.empty,0))) else none) else none) else (HM x0 x1 (i64.wrap (x2+1)) x3)) else none) else none) else (some (ByteArray.empty,ByteArray.empty,0)))
def V0 (x0:List X) (x1:ByteArray):Option X:=(HM x0 x1 0 (ByteArray.empty,ByteArray.empty,0))
theorem Q3:dN K8 HM:=lS (by kernel_rfl)
theorem gf:RY V0 Lb:=cT Dx rfl ⟨rfl,rfl⟩ (by kernel_rfl)
def Z2:=cG JU (AF Aj) (AF Aj) kx
def Z3:=kE 2 [(5,1),(6,2)] [0,5,6] 3 Z2 kx
def X7:St→Option (RT (BK.outs Aj)):=lG Og [(5,1),(6,2)] [0,3,5,6,8] 3 (AF Aj) Z3
def Z4:=cG JV (AF Aj) (AF Aj) kx
def K9:=kE 0 [(5,1),(6,2)] [0,3,5,6] 3 Z4 kx
def PN:St→Option (RT (BK.outs Aj)):=lG QW [(5,1),(6,2)] [0,3,5,6,7] 3 (AF Aj) K9
def Z5:=kB [(5,1),(6,2)] [0,3,5,6,7] 3 PN
def Q4:=cG QV Z5 (AF Aj) K9
def Z6:=kB [(5,1),(6,2)] [0,3,5,6,7] 3 Q4
def Z7:=kE 1 [(5,1),(6,2)] [0,3,5,6,7] 3 Q4 K9
def GY (x0:List X) (x1:Int) (x2:X) (x3 x4:List X):Option (List X):=cG QU Z6 (AF Aj) Z7 ⟨[(0,.lst Z x0),(3,.ptr 0 0),(5,.row 1),(6,.row 2),(7,.int .i64 x1)],[.var (Z.enc x2),.rows 27 Z x3,.rows 27 Z x4]⟩
def Jt (x0:List X) (x1:X) (x2 x3:List X):Option (List X):=cG JU (AF Aj) (AF Aj) kx ⟨[(0,.lst Z x0),(5,.row 1),(6,.row 2)],[.var (Z.enc x1),.rows 27 Z x2,.rows 27 Z x3]⟩
def DS (x0:List X) (x1:Int) (x2:X) (x3 x4:List X):Option (List X):=X7 ⟨[(0,.lst Z x0),(3,.ptr 0 0),(5,.row 1),(6,.row 2),(8,.int .i64 x1)],[.var (Z.enc x2),.rows 27 Z x3,.rows 27 Z x4]⟩
def Ju (x0:List X) (x1:X) (x2 x3:List X):Option (List X):=cG JV (AF Aj) (AF Aj) kx ⟨[(0,.lst Z x0),(3,.ptr 0 0),(5,.row 1),(6,.row 2)],[.var (Z.enc x1),.rows 27 Z x2,.rows 27 Z x3]⟩
def DU (x0:List X) (x1:Int) (x2:X) (x3 x4:List X):Option (List X):=PN ⟨[(0,.lst Z x0),(3,.ptr 0 0),(5,.row 1),(6,.row 2),(7,.int .i64 x1)],[.var (Z.enc x2),.rows 27 Z x3,.rows 27 Z x4]⟩
def PO (x0:List X) (x1:Int) (x2:X) (x3 x4:List X):Option (List X):=(if 0≤x1 then (if x1<(x0.length:Int) then (if (((x0.getD x1.toNat (ByteArray.empty,ByteArray.empty,0)).1).toList==x2.1.toList)=true then (if 0≤x1 then (if x1<(x0.length:Int) then (if (decide ((((x0.getD x1.toNat (ByteArray.empty,ByteArray.empty,0)).2).2)≥x2.2.2))=true then (some x3) else (DU x0 (i64.wrap (x1+1)) x2 x3 x4)) else none) else none) else (DU x0 (i64.wrap (x1+1)) x2 x3 x4)) else none) else none)
def PP (x0:List X) (x1:X) (x2 x3:List X):Option (List X):=((Ca x0).bind fun y1=>(if (!y1)=false then ((Ca x3).bind fun y2=>(if (!y2)=true then (some x2) else (some x3))) else (some x2)))
def Jv (x0:List X) (x1:Int) (x2:X) (x3 x4:List X):Option (List X):=(if (decide (x1<(x0.length:Int)))=true then (if 0≤x1 then (if x1<(x0.length:Int) then (if (!((Op.bytesLess ((x0.getD x1.toNat (ByteArray.empty,ByteArray.empty,0)).1).toList x2.1.toList)||(((x0.getD x1.toNat (ByteArray.empty,ByteArray.empty,0)).1).toList==x2.1.toList)))=true then (if 0≤x1 then (if x1<(x0.length:Int) then (if x4.length+([x0.getD x1.toNat (ByteArray.empty,ByteArray.empty,0)]:List X).length≤68719476736 then (DS x0 (i64.wrap (x1+1)) x2 x3 (x4++([x0.getD x1.toNat (ByteArray.empty,ByteArray.empty,0)]:List X))) else none) else none) else none) else (DS x0 (i64.wrap (x1+1)) x2 x3 x4)) else none) else none) else (Jt x0 x2 x3 x4))
def PQ (x0:List X) (x1:X) (x2 x3:List X):Option (List X):=(if x3.length+([x1]:List X).length≤68719476736 then (DS x0 0 x1 x2 (x3++([x1]:List X))) else none)
def Jw (x0:List X) (x1:Int) (x2:X) (x3 x4:List X):Option (List X):=(if (decide (x1<(x0.length:Int)))=true then (if 0≤x1 then (if x1<(x0.length:Int) then (if (Op.bytesLess ((x0.getD x1.toNat (ByteArray.empty,ByteArray.empty,0)).1).toList x2.1.toList)=true then (if 0≤x1 then (if x1<(x0.length:Int) then (if x4.length+([x0.getD x1.toNat (ByteArray.empty,ByteArray.empty,0)]:List X).length≤68719476736 then (GY x0 x1 x2 x3 (x4++([x0.getD x1.toNat (ByteArray.empty,ByteArray.empty,0)]:List X))) else none) else none) else none) else (GY x0 x1 x2 x3 x4)) else none) else none) else (Ju x0 x2 x3 x4))
def Uj (x0:List X) (x1:X):Option (List X):=(if ([]:List X).length+x0.length≤68719476736 then (DU x0 0 x1 (([]:List X)++x0) ([]:List X)) else none)
theorem X8:kC PO GY:=jS (by kernel_rfl)
theorem X9:dN PP Jt:=jS (by kernel_rfl)
theorem PR:kC Jv DS:=lS (by kernel_rfl)
theorem X_:dN PQ Ju:=jS (by kernel_rfl)
theorem PS:kC Jw DU:=lS (by kernel_rfl)
theorem fU:RY Uj FS:=cT Aj rfl ⟨rfl,rfl⟩ (by kernel_rfl)
def Wf:=cG NN (AF CN) (AF CN) kx
def Wg:=kE 0 [(5,0)] [5] 1 Wf kx
def Vd:St→Option (RT (BK.outs CN)):=lG NM [(5,0)] [0,1,5,6] 1 (AF CN) Wg
def Br (x0:List Int) (x1 x2:Int) (x3:List Int):Option (List Int):=Vd ⟨[(0,.lst (.int .i64) x0),(1,.int .i64 x1),(5,.row 0),(6,.int .i64 x2)],[.rows 3 (.int .i64) x3]⟩
def HY (x0:List Int) (x1 x2:Int) (x3:List Int):Option (List Int):=(if (decide (x2≤6))=true then (if (x2 != x1)=true then ((C6 x0 x2).bind fun y1=>(if y1=true then (if x3.length+([x2]:List Int).length≤68719476736 then (Br x0 x1 (i64.wrap (x2+1)) (x3++([x2]:List Int))) else none) else (Br x0 x1 (i64.wrap (x2+1)) x3))) else (Br x0 x1 (i64.wrap (x2+1)) x3)) else (some x3))
def Q5 (x0:List Int) (x1:Int):Option (List Int):=(Br x0 x1 1 ([]:List Int))
theorem Mm:dN HY Br:=lS (by kernel_rfl)
theorem Z8:RY Q5 FT:=cT CN rfl ⟨rfl,rfl⟩ (by kernel_rfl)
def Q6 (b0:O):Option (List AD×O):=(if (b0.2.2.2.2.2.2.2.2.2.1==1)=true then ((FS b0.2.2.2.2.2.2.2.1 b0.2.2.2.2.2.2.2.2.2.2.2.2.1).bind fun y1=>(some (([(b0.2.2.2.2.2.2.2.2.2.2.1,b0.2.1,b0.2.2.2.2.2.2.2.2.2.2.2.1,b0.2.2.2.2.2.2.2.2.2.2.2.2.1)]:List AD),(b0.1,b0.2.1,b0.2.2.1,b0.2.2.2.1,b0.2.2.2.2.1,b0.2.2.2.2.2.1,b0.2.2.2.2.2.2.1,y1,b0.2.2.2.2.2.2.2.2.1,0,0,0,(ByteArray.empty,ByteArray.empty,0),([]:List Int))))) else ((Lb b0.2.2.2.2.2.2.2.1 b0.2.2.2.2.2.2.2.2.2.2.2.2.1.1).bind fun y2=>(some (([(b0.2.2.2.2.2.2.2.2.2.2.1,b0.2.1,b0.2.2.2.2.2.2.2.2.2.2.2.1,y2)]:List AD),(b0.1,b0.2.1,b0.2.2.1,b0.2.2.2.1,b0.2.2.2.2.1,b0.2.2.2.2.2.1,b0.2.2.2.2.2.2.1,b0.2.2.2.2.2.2.2.1,b0.2.2.2.2.2.2.2.2.1,0,0,0,(ByteArray.empty,ByteArray.empty,0),([]:List Int))))))
theorem Z9:N1 Q6 FU:=cT G9 rfl ⟨rfl,rfl⟩ (by kernel_rfl)
def Z_:=cG QY (AF DF) (AF DF) kx
def aA:=kE 0 [] [4,5] 6 Z_ kx
def YA:St→Option (RT (BK.outs DF)):=lG QX [] [0,4,5,6,8,9] 6 (AF DF) aA
def DV (x0 x1:Int) (x2:AA) (x3:List Ab) (x4:List (List Int)) (x5:List Ab) (x6:List (List Int)) (x7:AJ):Option (Rq×AA):=YA ⟨[(0,.ptr 0 0),(4,.ptr 2 0),(5,.ptr 4 0),(6,.ptr 5 0),(8,.int .i64 x0),(9,.int .i64 x1)],[.var (AM.enc x2),.rows 113 Aq x3,.var [.lst (.slice (.int .i64)) x4,.row 1],.rows 113 Aq x5,.var [.lst (.slice (.int .i64)) x6,.row 3],.var (AU.enc x7)]⟩
def Jx (x0 x1:Int) (x2:AA) (x3:List Ab) (x4:List (List Int)) (x5:List Ab) (x6:List (List Int)) (x7:AJ):Option (Rq×AA):=(if (decide (x1<x0))=true then ((NX x2 x7).bind fun y3=>((M5 x1 y3.1 y3.2.2).bind fun y4=>(if x5.length+([y3.1]:List Ab).length≤68719476736 then (DV x0 (i64.wrap (x1+1)) y3.2.1 x3 x4 (x5++([y3.1]:List Ab)) x6 y4.2) else none))) else (some ((x6,x5),x2)))
def Nk (x1:List Int) (b0:AA):Option (Rq×AA):=((MI b0).bind fun y1=>((H7 y1.1).bind fun y2=>(if 4=0 then none else (if (decide ((i64.wrap (20+(i64.wrap (Int.tdiv (x1.length:Int) 4))))>69))=true then (DV 69 0 y1.2 ([]:List Ab) ([]:List (List Int)) ([]:List Ab) y1.1 y2.1) else (DV (i64.wrap (20+(i64.wrap (Int.tdiv (x1.length:Int) 4)))) 0 y1.2 ([]:List Ab) ([]:List (List Int)) ([]:List Ab) y1.1 y2.1)))))
theorem PT:nU Jx DV:=lS (by kernel_rfl)
theorem Uk:RY Nk NU:=cT DF rfl ⟨rfl,rfl⟩ (by kernel_rfl)
def YB:=cG NO (AF Au) (AF Au) kx
def YC:=kE 2 [(10,2)] [4,7,10] 3 YB kx
def Wh:St→Option (RT (BK.outs Au)):=lG Oj [(10,2)] [1,4,7,10,11] 3 (AF Au) YC
def YD:=cG II (AF Au) (AF Au) kx
def PU:=kE 0 [] [1,4,7,8] 2 YD kx
def Nl:St→Option (RT (BK.outs Au)):=lG Oi [] [1,4,7,8,9] 2 (AF Au) PU
def YE:=kB [] [1,4,7,8,9] 2 Nl
def Nm (x0:List Ab) (x1:Bool) (x2:Int) (x3:Bool) (x4 x5:AJ):Option (AJ×List Int×Bool):=cG Oh YE (AF Au) PU ⟨[(1,.lst Aq x0),(4,.ptr 0 0),(7,.ptr 1 0),(8,.bool x1),(9,.int .i64 x2),(23,.bool x3)],[.var (AU.enc x4),.var (AU.enc x5)]⟩
def EH (x0:List Ab) (x1:Int) (x2 x3:AJ) (x4:List Int):Option (AJ×List Int×Bool):=Wh ⟨[(1,.lst Aq x0),(4,.ptr 0 0),(7,.ptr 1 0),(10,.row 2),(11,.int .i64 x1)],[.var (AU.enc x2),.var (AU.enc x3),.rows 3 (.int .i64) x4]⟩
def Ft (x0:List Ab) (x1:Bool) (x2 x3:AJ):Option (AJ×List Int×Bool):=cG II (AF Au) (AF Au) kx ⟨[(1,.lst Aq x0),(4,.ptr 0 0),(7,.ptr 1 0),(8,.bool x1)],[.var (AU.enc x2),.var (AU.enc x3)]⟩
def Cz (x0:List Ab) (x1:Bool) (x2:Int) (x3 x4:AJ):Option (AJ×List Int×Bool):=Nl ⟨[(1,.lst Aq x0),(4,.ptr 0 0),(7,.ptr 1 0),(8,.bool x1),(9,.int .i64 x2)],[.var (AU.enc x3),.var (AU.enc x4)]⟩
def Nn (x0:List Ab) (x1:Bool) (x2:Int) (x3:Bool) (x4 x5:AJ):Option (AJ×List Int×Bool):=(if (decide ((x0.length:Int)≤70))=true then (if 0≤x2 then (if x2<(x0.length:Int) then ((NY (x0.getD x2.toNat (0,0,0,0,ByteArray.empty,ByteArray.empty))).bind fun y2=>(Cz x0 y2 (i64.wrap (x2+1)) x4 x5)) else none) else none) else (Cz x0 false (i64.wrap (x2+1)) x4 x5))
def IS (x0:List Ab) (x1:Int) (x2 x3:AJ) (x4:List Int):Option (AJ×List Int×Bool):=(if (decide (x1<(x0.length:Int)))=true then (if 0≤x1 then (if x1<(x0.length:Int) then ((M5 x1 (x0.getD x1.toNat (0,0,0,0,ByteArray.empty,ByteArray.empty)) x3).bind fun y3=>(if x4.length+([y3.1]:List Int).length≤68719476736 then (EH x0 (i64.wrap (x1+1)) x2 y3.2 (x4++([y3.1]:List Int))) else none)) else none) else none) else ((NZ x3).bind fun y4=>(some (y4,x4,true))))
def No (x0:List Ab) (x1:Bool) (x2 x3:AJ):Option (AJ×List Int×Bool):=(if (!x1)=true then (some ((([]:List (List Int)),([]:List O),([]:List Y),([]:List Bo)),([]:List Int),false)) else (EH x0 0 x2 x3 ([]:List Int)))
def IT (x0:List Ab) (x1:Bool) (x2:Int) (x3 x4:AJ):Option (AJ×List Int×Bool):=(if (decide (x2<(x0.length:Int)))=true then (if x1=true then (Nm x0 x1 x2 x1 x3 x4) else (Ft x0 x1 x3 x4)) else (Ft x0 x1 x3 x4))
def TJ (x0:List (List Int)) (x1:List Ab):Option (AJ×List Int×Bool):=((H7 x0).bind fun y1=>(Cz x1 y1.2 0 (([]:List (List Int)),([]:List O),([]:List Y),([]:List Bo)) y1.1))
theorem Wi:lK Nn Nm:=jS (by kernel_rfl)
theorem Np:kC IS EH:=lS (by kernel_rfl)
theorem Wj:dN No Ft:=jS (by kernel_rfl)
theorem Nq:kC IT Cz:=lS (by kernel_rfl)
theorem cd:RY TJ MG:=cT Au rfl ⟨rfl,rfl⟩ (by kernel_rfl)
end
end Go.Proofs.YtaedipailemlcaaGreat.Core

namespace Go.Proofs.YtaedipailemlcaaGreat.Core
open Go IntKind
set_option linter.unusedVariables false
set_option maxRecDepth 100000
noncomputable section
def Nr (b0:AA):Option (Int×AA):=(if 33<0 then none else (if 45<0 then none else (if (decide (b0.2.1<(b0.1.length:Int)))=true then (if 0≤b0.2.1 then (if b0.2.1<(b0.1.length:Int) then (some ((I2 .i64 (i64.wrap ((I2 .i64 (W9 .i64 (Int.fdiv (i64.wrap ((i64.wrap (b0.2.2*6364136223846793005))+1442695040888963407)) (2^(min (33:Int).toNat (IntKind.bits .i64)))) (Int.fdiv (i64.wrap ((i64.wrap (b0.2.2*6364136223846793005))+1442695040888963407)) (2^(min (45:Int).toNat (IntKind.bits .i64))))) 255)+(i64.wrap (b0.1.getD b0.2.1.toNat 0)))) 255),(b0.1,(i64.wrap (b0.2.1+1)),(i64.wrap ((i64.wrap (b0.2.2*6364136223846793005))+1442695040888963407))))) else none) else none) else (some ((I2 .i64 (W9 .i64 (Int.fdiv (i64.wrap ((i64.wrap (b0.2.2*6364136223846793005))+1442695040888963407)) (2^(min (33:Int).toNat (IntKind.bits .i64)))) (Int.fdiv (i64.wrap ((i64.wrap (b0.2.2*6364136223846793005))+1442695040888963407)) (2^(min (45:Int).toNat (IntKind.bits .i64))))) 255),(b0.1,b0.2.1,(i64.wrap ((i64.wrap (b0.2.2*6364136223846793005))+1442695040888963407))))))))
theorem fV:N1 Nr EF:=cT JW rfl ⟨rfl,rfl⟩ (by kernel_rfl)
def K_ (b0:AA):Option (Y×AA):=((Pu b0).bind fun y1=>((AS 20 y1.2).bind fun y2=>(if (y2.1==0)=true then ((Bv ([0,1,2,5,9]:List Int) y2.2).bind fun y3=>(some ((y3.1,y1.1.2),y3.2))) else (if (y2.1==1)=true then ((Bv ([0,6,7]:List Int) y2.2).bind fun y4=>(some ((y1.1.1,y4.1,y1.1.2.2),y4.2))) else (if (y2.1==2)=true then ((Bv ([0,9,10]:List Int) y2.2).bind fun y5=>(some ((y1.1.1,y1.1.2.1,y1.1.2.2.1,y5.1,y1.1.2.2.2.2),y5.2))) else (if (y2.1==3)=true then ((Bv ([(-1:Int),1000000000,1000000001]:List Int) y2.2).bind fun y6=>(some ((y1.1.1,y1.1.2.1,y1.1.2.2.1,y1.1.2.2.2.1,y6.1,y1.1.2.2.2.2.2),y6.2))) else (if (y2.1==4)=true then ((IL y2.2).bind fun y7=>(some ((y1.1.1,y1.1.2.1,y1.1.2.2.1,y1.1.2.2.2.1,y1.1.2.2.2.2.1,y7.1),y7.2))) else (some (y1.1,y2.2)))))))))
theorem aB:N1 K_ Kw:=cT G_ rfl ⟨rfl,rfl⟩ (by kernel_rfl)
def Pz:=cG Hk (AF BJ) (AF BJ) kx
def P0:=kE 0 [] [] 0 Pz kx
def N4:St→Option (RT (BK.outs BJ)):=lG Hj [] [0,1,7,8] 0 (AF BJ) P0
def B5 (x0:List Int) (x1 x2 x3:Int):Option Int:=N4 ⟨[(0,.lst (.int .i64) x0),(1,.int .i64 x1),(7,.int .i64 x2),(8,.int .i64 x3)],[]⟩
def BG (x0:List Int) (x1 x2 x3:Int):Option Int:=(if (decide (x3<x2))=true then (if 0≤x3 then (if x3<(x0.length:Int) then (if (x1==(x0.getD x3.toNat 0))=true then (some x3) else (B5 x0 x1 x2 (i64.wrap (x3+1)))) else none) else none) else (some (-1:Int)))
def R9 (x0:List Int) (x1:Int):Option Int:=(B5 x0 x1 (x0.length:Int) 0)
theorem Bc:dN BG B5:=lS (by kernel_rfl)
theorem Jy:RY R9 Cb:=cT BJ rfl ⟨rfl,rfl⟩ (by kernel_rfl)
def Ki (x0:Bool) (x1:O) (x2:Y):Option (List Y×O):=cG KV (AF Cw) (AF Cw) kx ⟨[(0,.ptr 0 0),(5,.ptr 1 0),(37,.bool x0)],[.var (U.enc x1),.var (AB.enc x2)]⟩
def Kj (x0:Bool) (x1:O) (x2:Y):Option (List Y×O):=((GU (x1.1,x2.2.2.2.1,x1.2.2.1,false,x1.2.2.2.2)).bind fun y2=>((Al ([x2.2.1]:List Int) (2,0,0,0,0,y2.2.2.2.2.2.2.2.1) y2).bind fun y3=>(some (y3.1,y3.2))))
def Ns (x1:List (List Int)) (x2:Y) (b0:O):Option (List Y×O):=(if (x2.2.2.2.1 != (i64.wrap (b0.2.1+1)))=true then (some ([],b0)) else (if (!b0.2.2.2.1)=true then (some ([],b0)) else (if 0≤(i64.wrap (b0.2.1-1)) then (if (i64.wrap (b0.2.1-1))<(x1.length:Int) then ((Cn (x1.getD (i64.wrap (b0.2.1-1)).toNat ([]:List Int)) b0.1).bind fun y1=>(if (!y1)=true then (some ([],b0)) else (Ki (!y1) b0 x2))) else none) else none)))
theorem Th:Pr Kj Ki:=jS (by kernel_rfl)
theorem Wk:Pr Ns IK:=cT Cw rfl ⟨rfl,rfl⟩ (by kernel_rfl)
def Jz (x1:List Int) (x2:List X) (b0:O):Option (List Y×O):=((El x1 b0).bind fun y1=>((AY x2).bind fun y2=>((Bi y1.1).bind fun y3=>((Co y3).bind fun y4=>(if ((y1.1.length:Int)==0)=true then ((Al y1.1 (3,0,0,0,0,x2) (y1.2.1,y1.2.2.1,y1.2.2.2.1,true,y1.2.2.2.2.2.1,true,y4,y2,y1.2.2.2.2.2.2.2.2.2)).bind fun y5=>(some (y5.1,y5.2))) else ((Al y1.1 (3,0,0,0,0,x2) (y1.2.1,y1.2.2.1,y1.2.2.2.1,true,y1.2.2.2.2.2.1,y1.2.2.2.2.2.2.1,y4,y2,y1.2.2.2.2.2.2.2.2.2)).bind fun y6=>(some (y6.1,y6.2))))))))
theorem R_:Pr Jz Fp:=cT Dq rfl ⟨rfl,rfl⟩ (by kernel_rfl)
def Is:=cG Io (AF BC) (AF BC) kx
def Q7:=kB [] [0,5] 2 Is
def Q8:=kE 0 [] [0,5] 2 Is kx
def CC (x0:Bool) (x1:O) (x2:Y):Option (List Y×O):=cG In Q7 (AF BC) Q8 ⟨[(0,.ptr 0 0),(5,.ptr 1 0),(24,.bool x0)],[.var (U.enc x1),.var (AB.enc x2)]⟩
def Hn (x0:Bool) (x1:O) (x2:Y):Option (List Y×O):=cG Ip (AF BC) (AF BC) kx ⟨[(0,.ptr 0 0),(5,.ptr 1 0),(23,.bool x0)],[.var (U.enc x1),.var (AB.enc x2)]⟩
def Ho (x0:Bool) (x1:O) (x2:Y):Option (List Y×O):=(if x0=true then ((AY x2.2.2.2.2.2).bind fun y2=>((GU (x1.1,x2.2.2.2.1,false,true,x1.2.2.2.2.1,x1.2.2.2.2.2.1,x1.2.2.2.2.2.2.1,y2,x1.2.2.2.2.2.2.2.2)).bind fun y3=>((Al ([x2.2.1]:List Int) (4,0,0,0,0,([]:List X)) y3).bind fun y4=>(some (y4.1,y4.2))))) else (if (!x1.2.2.2.1)=true then (some ([],x1)) else ((Al ([x2.2.1]:List Int) (4,0,0,0,0,([]:List X)) x1).bind fun y5=>(some (y5.1,y5.2)))))
def Hp (x0:Bool) (x1:O) (x2:Y):Option (List Y×O):=(if (decide (x2.2.2.2.1>x1.2.1))=true then (CC true x1 x2) else (if (!x1.2.2.2.1)=true then (CC (!x1.2.2.1) x1 x2) else (CC false x1 x2)))
def Kk (x1:List Int) (x2:Y) (b0:O):Option (List Y×O):=((Cn x1 b0.1).bind fun y1=>(if (!y1)=true then (some ([],b0)) else (if 0≤(0:Int) then (if 0<(x1.length:Int) then (if ((x1.getD (0:Int).toNat 0)==b0.1)=true then (some ([],b0)) else (Hn ((x1.getD (0:Int).toNat 0)==b0.1) b0 x2)) else none) else none)))
theorem P1:Pr Ho CC:=jS (by kernel_rfl)
theorem P2:Pr Hp Hn:=jS (by kernel_rfl)
theorem Ti:Pr Kk GF:=cT BC rfl ⟨rfl,rfl⟩ (by kernel_rfl)
def Ul (x0:List Int) (x1:Int):Option (List Int):=((Bi x0).bind fun y1=>((Ds y1 x1).bind fun y2=>(some y2)))
theorem fW:RY Ul Je:=cT JX rfl ⟨rfl,rfl⟩ (by kernel_rfl)
def J6 (x0:Bool) (x1:O) (x2:Y):Option (List Y×O):=cG KW (AF Cf) (AF Cf) kx ⟨[(0,.ptr 0 0),(3,.ptr 1 0),(18,.bool x0)],[.var (U.enc x1),.var (AB.enc x2)]⟩
def J7 (x0:Bool) (x1:O) (x2:Y):Option (List Y×O):=(if (x2.1==7)=true then ((Al ([x2.2.1]:List Int) (8,0,0,0,x2.2.2.2.2.1,([]:List X)) x1).bind fun y1=>(some (y1.1,y1.2))) else (if 0≤(0:Int) then (if 0<(x2.2.2.2.2.2.length:Int) then ((Jf x1.2.2.2.2.2.2.2.1 (x2.2.2.2.2.2.getD (0:Int).toNat (ByteArray.empty,ByteArray.empty,0))).bind fun y2=>((Al ([x2.2.1]:List Int) (6,0,0,0,x2.2.2.2.2.1,([]:List X)) (x1.1,x1.2.1,x1.2.2.1,x1.2.2.2.1,x1.2.2.2.2.1,x1.2.2.2.2.2.1,x1.2.2.2.2.2.2.1,y2,x1.2.2.2.2.2.2.2.2)).bind fun y3=>(some (y3.1,y3.2)))) else none) else none))
def Mn (x1:Y) (b0:O):Option (List Y×O):=(if (x1.2.2.2.1 != b0.2.1)=true then (some ([],b0)) else (if (!b0.2.2.2.1)=true then (some ([],b0)) else (J6 (!b0.2.2.2.1) b0 x1)))
theorem SA:Pr J7 J6:=jS (by kernel_rfl)
theorem Ve:RY Mn HW:=cT Cf rfl ⟨rfl,rfl⟩ (by kernel_rfl)
def It (x0:Bool) (x1:O) (x2:Y):Option (List AD×O):=cG Iq (AF CO) (AF CO) kx ⟨[(0,.ptr 0 0),(5,.ptr 1 0),(32,.bool x0)],[.var (U.enc x1),.var (AB.enc x2)]⟩
def Iu (x0:Bool) (x1:O) (x2:Y):Option (List AD×O):=((Je x1.2.2.2.2.2.2.2.2.2.2.2.2.2 x2.2.1).bind fun y1=>(if (decide ((y1.length:Int)>0))=true then (some ([],(x1.1,x1.2.1,x1.2.2.1,x1.2.2.2.1,x1.2.2.2.2.1,x1.2.2.2.2.2.1,x1.2.2.2.2.2.2.1,x1.2.2.2.2.2.2.2.1,x1.2.2.2.2.2.2.2.2.1,x1.2.2.2.2.2.2.2.2.2.1,x1.2.2.2.2.2.2.2.2.2.2.1,x1.2.2.2.2.2.2.2.2.2.2.2.1,x1.2.2.2.2.2.2.2.2.2.2.2.2.1,y1))) else ((Fo (x1.1,x1.2.1,x1.2.2.1,x1.2.2.2.1,x1.2.2.2.2.1,x1.2.2.2.2.2.1,x1.2.2.2.2.2.2.1,x1.2.2.2.2.2.2.2.1,x1.2.2.2.2.2.2.2.2.1,x1.2.2.2.2.2.2.2.2.2.1,x1.2.2.2.2.2.2.2.2.2.2.1,x1.2.2.2.2.2.2.2.2.2.2.2.1,x1.2.2.2.2.2.2.2.2.2.2.2.2.1,y1)).bind fun y2=>(some (y2.1,y2.2)))))
def L5 (x1:Int) (x2:Y) (b0:O):Option (List AD×O):=(if (x2.2.2.2.1 != b0.2.1)=true then (some ([],b0)) else (if (b0.2.2.2.2.2.2.2.2.2.1 != x1)=true then (some ([],b0)) else (if (b0.2.2.2.2.2.2.2.2.2.2.2.1 != x2.2.2.2.2.1)=true then (some ([],b0)) else (It (b0.2.2.2.2.2.2.2.2.2.2.2.1 != x2.2.2.2.2.1) b0 x2))))
theorem Q9:Pr Iu It:=jS (by kernel_rfl)
theorem Um:Pr L5 Em:=cT CO rfl ⟨rfl,rfl⟩ (by kernel_rfl)
def cf:=cG Sm (AF Dy) (AF Dy) kx
def cg:=kE 0 [] [] 0 cf kx
def aC:St→Option (RT (BK.outs Dy)):=lG Sl [] [0,3] 0 (AF Dy) cg
def FW (x0:List Int) (x1:Int):Option Bool:=aC ⟨[(0,.lst (.int .i64) x0),(3,.int .i64 x1)],[]⟩
def LA (x0:List Int) (x1:Int):Option Bool:=(if (decide (x1<(x0.length:Int)))=true then (if 0≤x1 then (if x1<(x0.length:Int) then ((AO (x0.getD x1.toNat 0) 1 6).bind fun y1=>(if (!y1)=true then (some false) else (if (decide (x1>0))=true then (if 0≤(i64.wrap (x1-1)) then (if (i64.wrap (x1-1))<(x0.length:Int) then (if 0≤x1 then (if x1<(x0.length:Int) then (if (decide ((x0.getD (i64.wrap (x1-1)).toNat 0)≥(x0.getD x1.toNat 0)))=true then (some false) else (FW x0 (i64.wrap (x1+1)))) else none) else none) else none) else none) else (FW x0 (i64.wrap (x1+1)))))) else none) else none) else (some true))
def V1 (x0:List Int):Option Bool:=(FW x0 0)
theorem Q_:RY LA FW:=lS (by kernel_rfl)
theorem gh:N1 V1 CU:=cT Dy rfl ⟨rfl,rfl⟩ (by kernel_rfl)
def RA (x0:ii):Option Bool:=(if (x0.1==0)=true then (if (x0.2.1==0)=true then (if (x0.2.2.1==0)=true then (if (false != Vn Z x0.2.2.2.1 (ByteArray.empty,ByteArray.empty,0))=true then (some ((x0.2.2.2.2.length:Int)==0)) else (some false)) else (some false)) else (some false)) else (some false))
theorem aD:N1 RA Kx:=cT HA rfl ⟨rfl,rfl⟩ (by kernel_rfl)
def aE:=cG Qa (AF DG) (AF DG) kx
def aF:=kE 0 [] [] 0 aE kx
def YF:St→Option (RT (BK.outs DG)):=lG QZ [] [0,3] 0 (AF DG) aF
def GZ (x0:List Int) (x1:Int):Option Bool:=YF ⟨[(0,.lst (.int .i64) x0),(3,.int .i64 x1)],[]⟩
def J8 (x0:List Int) (x1:Int):Option Bool:=(if (decide (x1<(x0.length:Int)))=true then (if 0≤x1 then (if x1<(x0.length:Int) then ((AO (x0.getD x1.toNat 0) 1 6).bind fun y2=>(if (!y2)=true then (some false) else (if 0≤(0:Int) then (if 0≤x1 then (if x1≤(x0.length:Int) then (if 0≤x1 then (if x1<(x0.length:Int) then ((C6 ((x0.take x1.toNat).drop (0:Int).toNat) (x0.getD x1.toNat 0)).bind fun y3=>(if y3=true then (some false) else (GZ x0 (i64.wrap (x1+1))))) else none) else none) else none) else none) else none))) else none) else none) else (some true))
def Un (x0:List Int):Option Bool:=((AO (x0.length:Int) 1 4).bind fun y1=>(if (!y1)=true then (some false) else (GZ x0 0)))
theorem PV:RY J8 GZ:=lS (by kernel_rfl)
theorem fX:N1 Un NV:=cT DG rfl ⟨rfl,rfl⟩ (by kernel_rfl)
def ci:=cG So (AF Dz) (AF Dz) kx
def cj:=kE 0 [(7,1)] [7] 3 ci kx
def aG:St→Option (RT (BK.outs Dz)):=lG Sn [(7,1)] [0,1,2,7,8] 3 (AF Dz) cj
def FX (x0:List Int) (x1:List X) (x2:Int) (x3:O) (x4:List Y) (x5:List X):Option (List Y×O):=aG ⟨[(0,.ptr 0 0),(1,.lst (.int .i64) x0),(2,.lst Z x1),(7,.row 1),(8,.int .i64 x2)],[.var (U.enc x3),.rows 34 AB x4,.frz Z x5]⟩
def LB (x0:List Int) (x1:List X) (x2:Int) (x3:O) (x4:List Y) (x5:List X):Option (List Y×O):=(if (decide (x2<(x0.length:Int)))=true then (if 0≤x2 then (if x2<(x0.length:Int) then (if ((x0.getD x2.toNat 0) != x3.1)=true then (if 0≤x2 then (if x2<(x0.length:Int) then (if ([]:List X).length+x1.length≤68719476736 then (if x4.length+([(3,x3.1,(x0.getD x2.toNat 0),x3.2.1,0,(([]:List X)++x1))]:List Y).length≤68719476736 then (FX x0 x1 (i64.wrap (x2+1)) x3 (x4++([(3,x3.1,(x0.getD x2.toNat 0),x3.2.1,0,(([]:List X)++x1))]:List Y)) x5) else none) else none) else none) else none) else (FX x0 x1 (i64.wrap (x2+1)) x3 x4 x5)) else none) else none) else (some (x4,x3)))
def V2 (x1:List Int) (x2:List X) (b0:O):Option (List Y×O):=(if ([]:List X).length+x2.length≤68719476736 then ((FT x1 b0.1).bind fun y1=>(FX x1 x2 0 (b0.1,b0.2.1,b0.2.2.1,true,b0.2.2.2.2.1,((y1.length:Int)==0),y1,(([]:List X)++x2),b0.2.2.2.2.2.2.2.2) ([]:List Y) (([]:List X)++x2))) else none)
theorem RB:lK LB FX:=lS (by kernel_rfl)
theorem gj:Pr V2 Lc:=cT Dz rfl ⟨rfl,rfl⟩ (by kernel_rfl)
def Vf:=cG Md (AF B9) (AF B9) kx
def Vg:=kE 0 [(5,0)] [5] 1 Vf kx
def Uo:St→Option (RT (BK.outs B9)):=lG Mc [(5,0)] [0,1,5,6] 1 (AF B9) Vg
def DL (x0:List Int) (x1 x2:Int) (x3:List Int):Option (List Int):=Uo ⟨[(0,.lst (.int .i64) x0),(1,.int .i64 x1),(5,.row 0),(6,.int .i64 x2)],[.rows 3 (.int .i64) x3]⟩
def Gz (x0:List Int) (x1 x2:Int) (x3:List Int):Option (List Int):=(if (decide (x2<(x0.length:Int)))=true then (if 0≤x2 then (if x2<(x0.length:Int) then (if ((x0.getD x2.toNat 0) != x1)=true then (if 0≤x2 then (if x2<(x0.length:Int) then (if x3.length+([(x0.getD x2.toNat 0)]:List Int).length≤68719476736 then (DL x0 x1 (i64.wrap (x2+1)) (x3++([(x0.getD x2.toNat 0)]:List Int))) else none) else none) else none) else (DL x0 x1 (i64.wrap (x2+1)) x3)) else none) else none) else (some x3))
def PW (x0:List Int) (x1:Int):Option (List Int):=(DL x0 x1 0 ([]:List Int))
theorem L6:dN Gz DL:=lS (by kernel_rfl)
theorem YG:RY PW GT:=cT B9 rfl ⟨rfl,rfl⟩ (by kernel_rfl)
def YH (x0:ByteArray):Option Bool:=((Ak (x0.size:Int) 1 12).bind fun y1=>(some y1))
theorem jG:N1 YH M4:=cT M0 rfl ⟨rfl,rfl⟩ (by kernel_rfl)
def Ff:=kE 0 [] [] 1 (AF AQ) kx
def FY:St→Option (RT (BK.outs AQ)):=lG FP [(0,0)] [0,1,2,3,8,9] 1 (AF AQ) Ff
def Fg:=kB [(0,0)] [0,1,2,3,8,9] 1 FY
def Bb:=kB [(0,0)] [0,1,2,3,8,9] 1 Fg
def BD:=kE 1 [(0,0)] [0,1,2,3,8,9] 1 Fg Ff
def L7:=cG Cx Bb (AF AQ) BD
def FZ (x0 x1 x2:Int) (x3 x4:Bool) (x5 x6:Int) (x7:Bool) (x8:List Int):Option (List Int):=cG Cx Bb (AF AQ) BD ⟨[(0,.row 0),(1,.int .i64 x0),(2,.int .i64 x1),(3,.int .i64 x2),(8,.bool x3),(9,.bool x4),(10,.int .i64 x5),(11,.int .i64 x6),(87,.bool x7)],[.mrow 3 (.int .i64) x8]⟩
def C0 (x0 x1 x2:Int) (x3 x4:Bool) (x5 x6:Int) (x7:Bool) (x8:List Int):Option (List Int):=cG FK L7 (AF AQ) BD ⟨[(0,.row 0),(1,.int .i64 x0),(2,.int .i64 x1),(3,.int .i64 x2),(8,.bool x3),(9,.bool x4),(10,.int .i64 x5),(11,.int .i64 x6),(87,.bool x7)],[.mrow 3 (.int .i64) x8]⟩
def BU (x0 x1 x2:Int) (x3 x4:Bool) (x5 x6:Int) (x7:List Int):Option (List Int):=cG FM Bb (AF AQ) BD ⟨[(0,.row 0),(1,.int .i64 x0),(2,.int .i64 x1),(3,.int .i64 x2),(8,.bool x3),(9,.bool x4),(10,.int .i64 x5),(11,.int .i64 x6)],[.mrow 3 (.int .i64) x7]⟩
def C1 (x0 x1 x2:Int) (x3 x4:Bool) (x5 x6 x7:Int) (x8:List Int):Option (List Int):=cG FN Bb (AF AQ) BD ⟨[(0,.row 0),(1,.int .i64 x0),(2,.int .i64 x1),(3,.int .i64 x2),(8,.bool x3),(9,.bool x4),(10,.int .i64 x5),(11,.int .i64 x6),(12,.int .i64 x7)],[.mrow 3 (.int .i64) x8]⟩
def C2 (x0 x1 x2:Int) (x3 x4:Bool) (x5:Int) (x6:List Int):Option (List Int):=cG FO Bb (AF AQ) BD ⟨[(0,.row 0),(1,.int .i64 x0),(2,.int .i64 x1),(3,.int .i64 x2),(8,.bool x3),(9,.bool x4),(10,.int .i64 x5)],[.mrow 3 (.int .i64) x6]⟩
def BV (x0 x1 x2:Int) (x3 x4:Bool) (x5:List Int):Option (List Int):=FY ⟨[(0,.row 0),(1,.int .i64 x0),(2,.int .i64 x1),(3,.int .i64 x2),(8,.bool x3),(9,.bool x4)],[.mrow 3 (.int .i64) x5]⟩
def LC (x0 x1 x2:Int) (x3 x4:Bool) (x5 x6:Int) (x7:Bool) (x8:List Int):Option (List Int):=((Lx x0 x1 x6 x8).bind fun y9=>(if 8=0 then none else (if (decide ((i64.wrap (y9.1-x0))<(i64.wrap (x1-y9.1))))=true then ((Bu x0 y9.1 x2 y9.2.2).bind fun y10=>(BV (i64.wrap (y9.1+1)) x1 x2 (decide ((i64.wrap (y9.1-x0))≥(i64.wrap (Int.tdiv x5 8)))) y9.2.1 y10)) else ((Bu (i64.wrap (y9.1+1)) x1 x2 y9.2.2).bind fun y11=>(BV x0 y9.1 x2 (decide ((i64.wrap (x1-y9.1))≥(i64.wrap (Int.tdiv x5 8)))) y9.2.1 y11)))))
def LD (x0 x1 x2:Int) (x3 x4:Bool) (x5 x6:Int) (x7:Bool) (x8:List Int):Option (List Int):=(if x7=true then ((IN x0 x1 x6 x8).bind fun y8=>(BV y8.1 x1 x2 x3 x4 y8.2)) else (FZ x0 x1 x2 x3 x4 x5 x6 x7 x8))
def LE (x0 x1 x2:Int) (x3 x4:Bool) (x5 x6:Int) (x7:List Int):Option (List Int):=(if (decide (x0>0))=true then (if 0≤(i64.wrap (x0-1)) then (if (i64.wrap (x0-1))<(x7.length:Int) then (if 0≤x6 then (if x6<(x7.length:Int) then ((Jg (x7.getD ((i64.wrap (x0-1)).toNat) 0) (x7.getD x6.toNat 0)).bind fun y7=>(C0 x0 x1 x2 x3 x4 x5 x6 (!y7) x7)) else none) else none) else none) else none) else (C0 x0 x1 x2 x3 x4 x5 x6 false x7))
def LF (x0 x1 x2:Int) (x3 x4:Bool) (x5 x6 x7:Int) (x8:List Int):Option (List Int):=(if x3=true then (if x4=true then (if (x7==1)=true then ((GG x0 x1 x8).bind fun y6=>(if y6.1=true then (some y6.2) else (BU x0 x1 x2 x3 x4 x5 x6 y6.2))) else (BU x0 x1 x2 x3 x4 x5 x6 x8)) else (BU x0 x1 x2 x3 x4 x5 x6 x8)) else (BU x0 x1 x2 x3 x4 x5 x6 x8))
def LG (x0 x1 x2:Int) (x3 x4:Bool) (x5:Int) (x6:List Int):Option (List Int):=((KQ x0 x1 x6).bind fun y4=>(if (y4.2.1==2)=true then ((Ji x0 x1 y4.2.2).bind fun y5=>(C1 x0 x1 x2 x3 x4 x5 (i64.wrap ((i64.wrap (x1-1))-(i64.wrap (y4.1-x0)))) 1 y5)) else (C1 x0 x1 x2 x3 x4 x5 y4.1 y4.2.1 y4.2.2)))
def Fa (x0 x1 x2:Int) (x3 x4:Bool) (x5:List Int):Option (List Int):=(if (decide ((i64.wrap (x1-x0))≤12))=true then ((CS x0 x1 x5).bind fun y1=>(some y1)) else (if (x2==0)=true then ((ML x0 x1 x5).bind fun y2=>(some y2)) else (if (!x3)=true then ((I1 x0 x1 x5).bind fun y3=>(C2 x0 x1 (i64.wrap (x2-1)) x3 x4 (i64.wrap (x1-x0)) y3)) else (C2 x0 x1 x2 x3 x4 (i64.wrap (x1-x0)) x5))))
def Ga (x1 x2 x3:Int) (b0:List Int):Option (List Int):=(BV x1 x2 x3 true true b0)
theorem aH:qR LC FZ:=jS (by kernel_rfl)
theorem aI:qR LD C0:=jS (by kernel_rfl)
theorem aJ:nU LE BU:=jS (by kernel_rfl)
theorem aK:qR LF C1:=jS (by kernel_rfl)
theorem aL:n7 LG C2:=jS (by kernel_rfl)
theorem LH:lK Fa BV:=lS (by kernel_rfl)
theorem M8:dN Ga Bu:=cT AQ rfl ⟨rfl,rfl⟩ (by kernel_rfl)
def TK (x0:Int):Option Int:=((Jh x0).bind fun y1=>(some y1))
theorem cm:N1 TK MH:=cT Hz rfl ⟨rfl,rfl⟩ (by kernel_rfl)
def Gb (x0:List X) (x1:X) (x2:List X):Option (List X):=cG Qc (AF DH) (AF DH) kx ⟨[(0,.lst Z x0),(5,.row 1)],[.var (Z.enc x1),.rows 27 Z x2]⟩
def Gc (x0:List X) (x1:Int) (x2 x3:Bool) (x4:X) (x5:List X):Option (List X):=cG Qd (AF DH) (AF DH) kx ⟨[(0,.lst Z x0),(3,.ptr 0 0),(5,.row 1),(6,.int .i64 x1),(7,.bool x2),(32,.bool x3)],[.var (Z.enc x4),.rows 27 Z x5]⟩
def PX (x0:List X) (x1:X) (x2:List X):Option (List X):=((EE x2).bind fun y5=>(if (!y5)=true then ((AY x0).bind fun y6=>(some y6)) else (some x2)))
def PY (x0:List X) (x1:Int) (x2 x3:Bool) (x4:X) (x5:List X):Option (List X):=(if x2=true then (if 0≤x1 then (if x1<(x5.length:Int) then (let z4:List X:=x5.set x1.toNat x4; (Gb x0 x4 z4)) else none) else none) else ((CB x5 x1 ([x4]:List X)).bind fun y7=>(Gb x0 x4 y7)))
def Up (x0:List X) (x1:X):Option (List X):=((AY x0).bind fun y1=>((Az x0 x1.1 ()).bind fun y2=>((EE x0).bind fun y3=>(if (!y3)=true then (some y1) else (if y2.2=true then (if 0≤y2.1 then (if y2.1<(x0.length:Int) then (if (decide ((((x0.getD y2.1.toNat (ByteArray.empty,ByteArray.empty,0)).2).2)≥x1.2.2))=true then (some y1) else (Gc x0 y2.1 y2.2 (decide ((((x0.getD y2.1.toNat (ByteArray.empty,ByteArray.empty,0)).2).2)≥x1.2.2)) x1 y1)) else none) else none) else (Gc x0 y2.1 y2.2 false x1 y1))))))
theorem YI:Pr PX Gb:=jS (by kernel_rfl)
theorem YJ:lK PY Gc:=jS (by kernel_rfl)
theorem fY:RY Up Jf:=cT DH rfl ⟨rfl,rfl⟩ (by kernel_rfl)
def Uq (x0:Y):Option Y:=((AY x0.2.2.2.2.2).bind fun y1=>(some (x0.1,x0.2.1,x0.2.2.1,x0.2.2.2.1,x0.2.2.2.2.1,y1)))
theorem fZ:N1 Uq NW:=cT JZ rfl ⟨rfl,rfl⟩ (by kernel_rfl)
def YK:=cG NR (AF BR) (AF BR) kx
def J9:=kE 0 [(3,1)] [3] 2 YK kx
def Nt:St→Option (RT (BK.outs BR)):=lG NQ [(3,1)] [0,3,4] 2 (AF BR) J9
def YL:=kB [(3,1)] [0,3,4] 2 Nt
def PZ:=cG NP YL (AF BR) J9
def YM:=kB [(3,1)] [0,3,4] 2 PZ
def Pa:=kE 1 [(3,1)] [0,3,4] 2 PZ J9
def YN:=cG Ol YM (AF BR) Pa
def YO:=kE 2 [(3,1),(5,2)] [0,3,4,5] 3 YN Pa
def Wl:St→Option (RT (BK.outs BR)):=lG Ok [(3,1),(5,2)] [0,3,4,5,6] 3 (AF BR) YO
def EI (x0 x1:Int) (x2:AA) (x3:List (List Int)) (x4:List Int):Option (List (List Int)×AA):=Wl ⟨[(0,.ptr 0 0),(3,.row 1),(4,.int .i64 x0),(5,.row 2),(6,.int .i64 x1)],[.var (AM.enc x2),.rows 24 (.slice (.int .i64)) x3,.rows 3 (.int .i64) x4]⟩
def EJ (x0:Int) (x1:AA) (x2:List (List Int)):Option (List (List Int)×AA):=Nt ⟨[(0,.ptr 0 0),(3,.row 1),(4,.int .i64 x0)],[.var (AM.enc x1),.rows 24 (.slice (.int .i64)) x2]⟩
def EK (x0 x1:Int) (x2:AA) (x3:List (List Int)) (x4:List Int):Option (List (List Int)×AA):=((AS 3 x2).bind fun y2=>(if (decide (x1<(i64.wrap (1+y2.1))))=true then ((AS 4 y2.2).bind fun y3=>((C6 x4 (i64.wrap (1+y3.1))).bind fun y4=>(if (!y4)=true then (if x4.length+([(i64.wrap (1+y3.1))]:List Int).length≤68719476736 then (EI x0 (i64.wrap (x1+1)) y3.2 x3 (x4++([(i64.wrap (1+y3.1))]:List Int))) else none) else (EI x0 (i64.wrap (x1+1)) y3.2 x3 x4)))) else (if x3.length+([x4]:List (List Int)).length≤68719476736 then (EJ (i64.wrap (x0+1)) y2.2 (x3++([x4]:List (List Int)))) else none)))
def Fu (x0:Int) (x1:AA) (x2:List (List Int)):Option (List (List Int)×AA):=((AS 5 x1).bind fun y1=>(if (decide (x0<(i64.wrap (1+y1.1))))=true then (EI x0 0 y1.2 x2 ([]:List Int)) else (some (x2,y1.2))))
def TL (b0:AA):Option (List (List Int)×AA):=(EJ 0 b0 ([]:List (List Int)))
theorem Fv:kC EK EI:=lS (by kernel_rfl)
theorem IU:Pr Fu EJ:=lS (by kernel_rfl)
theorem cn:N1 TL MI:=cT BR rfl ⟨rfl,rfl⟩ (by kernel_rfl)
def YP:=cG On (AF Cg) (AF Cg) kx
def YQ:=kE 0 [] [2,4] 4 YP kx
def Wm:St→Option (RT (BK.outs Cg)):=lG Om [] [0,2,4,5] 4 (AF Cg) YQ
def EL (x0:List (List Int)) (x1:Int) (x2:List O) (x3:List (List Int)) (x4:List Y) (x5:List Bo) (x6:List O) (x7:List (List Int)):Option (AJ×Bool):=Wm ⟨[(0,.lst (.slice (.int .i64)) x0),(2,.ptr 1 0),(4,.ptr 3 0),(5,.int .i64 x1)],[.rows 31 U x2,.var [.lst (.slice (.int .i64)) x3,.row 0,.lst AB x4,.lst FH x5],.rows 31 U x6,.var [.lst (.slice (.int .i64)) x7,.row 2,.nil,.nil]]⟩
def IV (x0:List (List Int)) (x1:Int) (x2:List O) (x3:List (List Int)) (x4:List Y) (x5:List Bo) (x6:List O) (x7:List (List Int)):Option (AJ×Bool):=(if (decide (x1≤6))=true then ((Kv x1 x0).bind fun y3=>(if x6.length+([y3.1]:List O).length≤68719476736 then (EL x0 (i64.wrap (x1+1)) x2 x3 x4 x5 (x6++([y3.1]:List O)) x7) else none)) else (some ((x7,x6,[],[]),true)))
def TM (x0:List (List Int)):Option (AJ×Bool):=((DK x0).bind fun y1=>(if (!y1)=true then (some (([],([]:List O),[],[]),false)) else ((FA x0).bind fun y2=>(EL x0 1 ([]:List O) ([]:List (List Int)) ([]:List Y) ([]:List Bo) ([]:List O) y2))))
theorem Nu:nU IV EL:=lS (by kernel_rfl)
theorem cp:N1 TM H7:=cT Cg rfl ⟨rfl,rfl⟩ (by kernel_rfl)
def RC:=cG Ot (AF Ay) (AF Ay) kx
def RD:=kB [] [4,5] 4 RC
def RE:=kE 0 [] [4,5] 4 RC kx
def aM:=kE 1 [] [4,5] 6 RD RE
def YR:St→Option (RT (BK.outs Ay)):=lG Qe [] [0,1,4,5,6] 6 (AF Ay) aM
def aN:=kE 3 [] [4,5] 4 RD RE
def YS:St→Option (RT (BK.outs Ay)):=lG Oq [] [0,1,4,5,7] 4 (AF Ay) aN
def Cc (x0:Int) (x1:AA) (x2:AJ) (x3 x4:Ab) (x5:List Int) (x6:List ByteArray):Option (Ab×AA×AJ):=YR ⟨[(0,.ptr 0 0),(1,.ptr 1 0),(4,.ptr 2 0),(5,.ptr 3 0),(6,.int .i64 x0)],[.var (AM.enc x1),.var (AU.enc x2),.var (Aq.enc x3),.var (Aq.enc x4),.frz (.int .i64) x5,.frz .str x6]⟩
def Cd (x0:Int) (x1:AA) (x2:AJ) (x3 x4:Ab):Option (Ab×AA×AJ):=YS ⟨[(0,.ptr 0 0),(1,.ptr 1 0),(4,.ptr 2 0),(5,.ptr 3 0),(7,.int .i64 x0)],[.var (AM.enc x1),.var (AU.enc x2),.var (Aq.enc x3),.var (Aq.enc x4)]⟩
def Er (x0:AA) (x1:AJ) (x2 x3:Ab):Option (Ab×AA×AJ):=cG Ou (AF Ay) (AF Ay) kx ⟨[(0,.ptr 0 0),(1,.ptr 1 0),(4,.ptr 2 0),(5,.ptr 3 0)],[.var (AM.enc x0),.var (AU.enc x1),.var (Aq.enc x2),.var (Aq.enc x3)]⟩
def Am (x0:AA) (x1:AJ) (x2 x3:Ab):Option (Ab×AA×AJ):=cG Ov (AF Ay) (AF Ay) kx ⟨[(0,.ptr 0 0),(1,.ptr 1 0),(4,.ptr 2 0),(5,.ptr 3 0)],[.var (AM.enc x0),.var (AU.enc x1),.var (Aq.enc x2),.var (Aq.enc x3)]⟩
def J_ (x0:AA) (x1:AJ) (x2 x3:Ab):Option (Ab×AA×AJ):=cG Ow (AF Ay) (AF Ay) kx ⟨[(0,.ptr 0 0),(1,.ptr 1 0),(4,.ptr 2 0),(5,.ptr 3 0)],[.var (AM.enc x0),.var (AU.enc x1),.var (Aq.enc x2),.var (Aq.enc x3)]⟩
def Es (x0:Int) (x1:AA) (x2:AJ) (x3 x4:Ab) (x5:List Int) (x6:List ByteArray):Option (Ab×AA×AJ):=(if (decide (x0<(x2.2.1.length:Int)))=true then (if 0≤x0 then (if x0<(x2.2.1.length:Int) then (if (((((((x2.2.1.getD x0.toNat (0,0,false,false,false,false,([]:List Int),([]:List X),0,0,0,0,(ByteArray.empty,ByteArray.empty,0),([]:List Int))).2).2).2).2).2).1)=true then ((CA 4 x1).bind fun y10=>(if (!y10.1)=true then (Cc (i64.wrap (x0+1)) y10.2 x2 x3 (x4.1,(i64.wrap (x0+1)),x4.2.2) x5 x6) else (Cc (i64.wrap (x0+1)) y10.2 x2 x3 x4 x5 x6))) else (Cc (i64.wrap (x0+1)) x1 x2 x3 x4 x5 x6)) else none) else none) else (some (x4,x1,x2)))
def DW (x0:Int) (x1:AA) (x2:AJ) (x3 x4:Ab):Option (Ab×AA×AJ):=(if (decide (x0<(x2.2.1.length:Int)))=true then (if 0≤x0 then (if x0<(x2.2.1.length:Int) then (if (decide ((((x2.2.1.getD x0.toNat (0,0,false,false,false,false,([]:List Int),([]:List X),0,0,0,0,(ByteArray.empty,ByteArray.empty,0),([]:List Int))).2).1)<(x2.1.length:Int)))=true then (if 0≤(((x2.2.1.getD x0.toNat (0,0,false,false,false,false,([]:List Int),([]:List X),0,0,0,0,(ByteArray.empty,ByteArray.empty,0),([]:List Int))).2).1) then (if (((x2.2.1.getD x0.toNat (0,0,false,false,false,false,([]:List Int),([]:List X),0,0,0,0,(ByteArray.empty,ByteArray.empty,0),([]:List Int))).2).1)<(x2.1.length:Int) then (if 0≤(0:Int) then (if 0<((x2.1.getD (((x2.2.1.getD x0.toNat (0,0,false,false,false,false,([]:List Int),([]:List X),0,0,0,0,(ByteArray.empty,ByteArray.empty,0),([]:List Int))).2).1).toNat ([]:List Int)).length:Int) then (if (((x2.1.getD (((x2.2.1.getD x0.toNat (0,0,false,false,false,false,([]:List Int),([]:List X),0,0,0,0,(ByteArray.empty,ByteArray.empty,0),([]:List Int))).2).1).toNat ([]:List Int)).getD (0:Int).toNat 0)==((x2.2.1.getD x0.toNat (0,0,false,false,false,false,([]:List Int),([]:List X),0,0,0,0,(ByteArray.empty,ByteArray.empty,0),([]:List Int))).1))=true then ((CA 3 x1).bind fun y11=>(if (!y11.1)=true then (Cd (i64.wrap (x0+1)) y11.2 x2 x3 (x4.1,(x2.2.1.getD x0.toNat (0,0,false,false,false,false,([]:List Int),([]:List X),0,0,0,0,(ByteArray.empty,ByteArray.empty,0),([]:List Int))).1,x4.2.2)) else (Cd (i64.wrap (x0+1)) y11.2 x2 x3 x4))) else (Cd (i64.wrap (x0+1)) x1 x2 x3 x4)) else none) else none) else none) else none) else (Cd (i64.wrap (x0+1)) x1 x2 x3 x4)) else none) else none) else (some (x4,x1,x2)))
def Et (x0:AA) (x1:AJ) (x2 x3:Ab):Option (Ab×AA×AJ):=(if (x3.1==1)=true then ((Bv ([1,1,2]:List Int) x0).bind fun y7=>((EG ([(⟨#[97]⟩:ByteArray),(⟨#[98]⟩:ByteArray),(⟨#[99]⟩:ByteArray)]:List ByteArray) y7.2).bind fun y8=>(if (y7.1==1)=true then ((EG ([(⟨#[118]⟩:ByteArray),(⟨#[119]⟩:ByteArray),(⟨#[120]⟩:ByteArray),(⟨#[121]⟩:ByteArray)]:List ByteArray) y8.2).bind fun y9=>(Cc 0 y9.2 x1 x2 (x3.1,x3.2.1,x3.2.2.1,y7.1,y8.1,y9.1) ([1,1,2]:List Int) ([(⟨#[97]⟩:ByteArray),(⟨#[98]⟩:ByteArray),(⟨#[99]⟩:ByteArray)]:List ByteArray))) else (Cc 0 y8.2 x1 x2 (x3.1,x3.2.1,x3.2.2.1,y7.1,y8.1,x3.2.2.2.2.2) ([1,1,2]:List Int) ([(⟨#[97]⟩:ByteArray),(⟨#[98]⟩:ByteArray),(⟨#[99]⟩:ByteArray)]:List ByteArray))))) else (if (x3.1==5)=true then (Cd 0 x0 x1 x2 x3) else (some (x3,x0,x1))))
def Gd (x0:AA) (x1:AJ) (x2 x3:Ab):Option (Ab×AA×AJ):=(if (x3.1==2)=true then ((CA 2 x0).bind fun y6=>(if y6.1=true then (Er y6.2 x1 x2 (x3.1,x3.2.1,0,x3.2.2.2)) else (Er y6.2 x1 x2 x3))) else (Er x0 x1 x2 x3))
def Ge (x0:AA) (x1:AJ) (x2 x3:Ab):Option (Ab×AA×AJ):=(if ((x1.2.2.1.length:Int)==0)=true then ((AO x3.1 2 4).bind fun y4=>(if y4=true then (if ((1:Int)==6)=true then ((CA 4 x0).bind fun y5=>(if (!y5.1)=true then (Am y5.2 x1 x2 (1,x3.2)) else (Am y5.2 x1 x2 (1,x3.2)))) else (Am x0 x1 x2 (1,x3.2))) else (if (x3.1==6)=true then ((CA 4 x0).bind fun y12=>(if (!y12.1)=true then (Am y12.2 x1 x2 (1,x3.2)) else (Am y12.2 x1 x2 x3))) else (Am x0 x1 x2 x3)))) else (if (x3.1==6)=true then ((CA 4 x0).bind fun y13=>(if (!y13.1)=true then (Am y13.2 x1 x2 (1,x3.2)) else (Am y13.2 x1 x2 x3))) else (Am x0 x1 x2 x3)))
def Ur (b0:AA) (b1:AJ):Option (Ab×AA×AJ):=((Bv ([1,1,1,2,2,2,2,2,2,2,2,3,4,5,6]:List Int) b0).bind fun y1=>((AS 4 y1.2).bind fun y2=>((AS 20 y2.2).bind fun y3=>(J_ y3.2 b1 (0,0,0,0,ByteArray.empty,ByteArray.empty) (y1.1,(i64.wrap (1+y2.1)),y3.1,0,ByteArray.empty,ByteArray.empty)))))
theorem Gf:n7 Es Cc:=lS (by kernel_rfl)
theorem Eu:kC DW Cd:=lS (by kernel_rfl)
theorem Gg:dN Et Er:=jS (by kernel_rfl)
theorem KA:dN Gd Am:=jS (by kernel_rfl)
theorem KB:dN Ge J_:=jS (by kernel_rfl)
theorem fa:RY Ur NX:=cT Ay rfl ⟨rfl,rfl⟩ (by kernel_rfl)
def KC (x1:Int) (x2:Ab) (b0:AJ):Option (Int×AJ):=(if (x2.1==1)=true then ((MJ x1 x2 b0).bind fun y1=>(some (y1.1,y1.2))) else (if (x2.1==5)=true then ((MK x1 x2.2.1 b0).bind fun y2=>(some (y2.1,y2.2))) else (if (x2.1==6)=true then (if 0≤(i64.wrap (x2.2.1-1)) then (if (i64.wrap (x2.2.1-1))<(b0.2.1.length:Int) then ((UQ (b0.2.1.getD (i64.wrap (x2.2.1-1)).toNat (0,0,false,false,false,false,([]:List Int),([]:List X),0,0,0,0,(ByteArray.empty,ByteArray.empty,0),([]:List Int)))).bind fun y3=>((D9 y3 ([]:List Y) ([]:List AD) x1 b0).bind fun y4=>(some (0,y4)))) else none) else none) else ((Pv x1 x2 b0).bind fun y5=>(some (y5.1,y5.2))))))
theorem M9:Pr KC M5:=cT M2 rfl ⟨rfl,rfl⟩ (by kernel_rfl)
def KD (x0:Bool) (x1:Ab):Option Bool:=cG Qf (AF FQ) (AF FQ) kx ⟨[(1,.ptr 0 0),(17,.bool x0)],[.var (Aq.enc x1)]⟩
def Pb (x0:Bool) (x1:Ab):Option Bool:=(if (x1.1 != 1)=true then (if (x1.2.2.2.1==0)=true then (if (x1.2.2.2.2.1.toList==(⟨#[]⟩:ByteArray).toList)=true then (some (x1.2.2.2.2.2.toList==(⟨#[]⟩:ByteArray).toList)) else (some false)) else (some false)) else (if (x1.2.2.2.1==1)=false then (if (x1.2.2.2.1==2)=true then ((AO (x1.2.2.2.2.1.size:Int) 1 12).bind fun y3=>(if y3=true then (if (decide ((x1.2.2.2.2.2.size:Int)≤20))=true then (if (x1.2.2.2.1==1)=false then (some (x1.2.2.2.2.2.toList==(⟨#[]⟩:ByteArray).toList)) else (some true)) else (some false)) else (some false))) else (some false)) else ((AO (x1.2.2.2.2.1.size:Int) 1 12).bind fun y4=>(if y4=true then (if (decide ((x1.2.2.2.2.2.size:Int)≤20))=true then (if (x1.2.2.2.1==1)=false then (some (x1.2.2.2.2.2.toList==(⟨#[]⟩:ByteArray).toList)) else (some true)) else (some false)) else (some false)))))
def Us (x0:Ab):Option Bool:=((AO x0.1 1 6).bind fun y1=>(if (!y1)=false then ((AO x0.2.1 1 6).bind fun y2=>(if (!y2)=false then (if (decide (x0.2.2.1<0))=true then (some false) else (KD (decide (x0.2.2.1<0)) x0)) else (some false))) else (some false)))
theorem YT:RY Pb KD:=jS (by kernel_rfl)
theorem fb:N1 Us NY:=cT FQ rfl ⟨rfl,rfl⟩ (by kernel_rfl)
def aO:=cG Qh (AF DI) (AF DI) kx
def aP:=kE 0 [] [2,3] 6 aO kx
def YU:St→Option (RT (BK.outs DI)):=lG Qg [] [1,2,3,4] 6 (AF DI) aP
def Ew (x0:Int) (x1:List (List Int)) (x2:List O) (x3:List Y) (x4:List Bo) (x5:List O) (x6:List (List Int)) (x7:List Y) (x8 x9:List Bo) (x10:List O) (x11:List (List Int)) (x12:List Y) (x13:List Bo):Option AJ:=YU ⟨[(1,.ptr 0 0),(2,.ptr 2 0),(3,.ptr 5 0),(4,.int .i64 x0)],[.var [.lst (.slice (.int .i64)) x1,.lst U x2,.lst AB x3,.lst FH x4],.rows 31 U x5,.var [.lst (.slice (.int .i64)) x6,.row 1,.lst AB x7,.lst FH x8],.frz FH x9,.rows 31 U x10,.var [.lst (.slice (.int .i64)) x11,.row 4,.lst AB x12,.lst FH x13]]⟩
def KE (x0:Int) (x1:List (List Int)) (x2:List O) (x3:List Y) (x4:List Bo) (x5:List O) (x6:List (List Int)) (x7:List Y) (x8 x9:List Bo) (x10:List O) (x11:List (List Int)) (x12:List Y) (x13:List Bo):Option AJ:=(if (decide (x0<(x2.length:Int)))=true then (if 0≤x0 then (if x0<(x2.length:Int) then ((CZ (x2.getD x0.toNat (0,0,false,false,false,false,([]:List Int),([]:List X),0,0,0,0,(ByteArray.empty,ByteArray.empty,0),([]:List Int)))).bind fun y3=>(if x10.length+([y3]:List O).length≤68719476736 then (Ew (i64.wrap (x0+1)) x1 x2 x3 x4 x5 x6 x7 x8 x9 (x10++([y3]:List O)) x11 x12 x13) else none)) else none) else none) else (some (x11,x10,x12,x13)))
def Ut (x0:AJ):Option AJ:=((FA x0.1).bind fun y1=>((IM x0.2.2.1).bind fun y2=>(if ([]:List Bo).length+x0.2.2.2.length≤68719476736 then (Ew 0 x0.1 x0.2.1 x0.2.2.1 x0.2.2.2 ([]:List O) ([]:List (List Int)) ([]:List Y) ([]:List Bo) (([]:List Bo)++x0.2.2.2) ([]:List O) y1 y2 (([]:List Bo)++x0.2.2.2)) else none)))
theorem Pc:qk KE Ew:=lS (by kernel_rfl)
theorem fc:N1 Ut NZ:=cT DI rfl ⟨rfl,rfl⟩ (by kernel_rfl)
def TN:=cG Sq (AF C5) (AF C5) kx
def cq:=kB [] [2,3] 3 TN
def cr:=kE 0 [] [2,3] 3 TN kx
def HN (x0:Int) (x1:Bool) (x2:AA) (x3 x4:Y):Option (Y×AA):=cG Sp cq (AF C5) cr ⟨[(0,.ptr 0 0),(2,.ptr 1 0),(3,.ptr 2 0),(20,.int .i64 x0),(21,.bool x1)],[.var (AM.enc x2),.var (AB.enc x3),.var (AB.enc x4)]⟩
def LI (x0:AA) (x1 x2:Y):Option (Y×AA):=cG Sr (AF C5) (AF C5) kx ⟨[(0,.ptr 0 0),(2,.ptr 1 0),(3,.ptr 2 0)],[.var (AM.enc x0),.var (AB.enc x1),.var (AB.enc x2)]⟩
def HO (x0:Int) (x1:Bool) (x2:AA) (x3 x4:Y):Option (Y×AA):=(if x1=true then ((H8 x2).bind fun y6=>(some ((x4.1,x4.2.1,x4.2.2.1,x4.2.2.2.1,x4.2.2.2.2.1,y6.1),y6.2))) else (if (x0==5)=true then ((Gw x2).bind fun y7=>(some ((x4.1,x4.2.1,x4.2.2.1,x4.2.2.2.1,x4.2.2.2.2.1,([y7.1]:List X)),y7.2))) else (some (x4,x2))))
def LJ (x0:AA) (x1 x2:Y):Option (Y×AA):=(if (x2.1==2)=true then (HN x2.1 (x2.1==2) x0 x1 x2) else (HN x2.1 (x2.1==3) x0 x1 x2))
def V3 (b0:AA):Option (Y×AA):=((AS 8 b0).bind fun y1=>((AS 4 y1.2).bind fun y2=>((AS 4 y2.2).bind fun y3=>((AS 4 y3.2).bind fun y4=>((AS 6 y4.2).bind fun y5=>(LI y5.2 (0,0,0,0,0,([]:List X)) ((i64.wrap (1+y1.1)),(i64.wrap (1+y2.1)),(i64.wrap (1+y3.1)),(i64.wrap (1+y4.1)),y5.1,([]:List X))))))))
theorem LK:kC HO HN:=jS (by kernel_rfl)
theorem RF:Pr LJ LI:=jS (by kernel_rfl)
theorem gm:N1 V3 Pu:=cT C5 rfl ⟨rfl,rfl⟩ (by kernel_rfl)
def Pd (x1:List Int) (b0:AA):Option (Int×AA):=((AS (x1.length:Int) b0).bind fun y1=>(if 0≤y1.1 then (if y1.1<(x1.length:Int) then (some ((x1.getD y1.1.toNat 0),y1.2)) else none) else none))
theorem YV:RY Pd Bv:=cT GR rfl ⟨rfl,rfl⟩ (by kernel_rfl)
def L8:=cG KX (AF Bz) (AF Bz) kx
def Uu:=kB [(3,1)] [3] 2 L8
def Uv:=kE 0 [(3,1)] [3] 2 L8 kx
def Uw:=kE 1 [(3,2)] [3] 3 Uu Uv
def Tj:St→Option (RT (BK.outs Bz)):=lG Lu [(3,2)] [0,3,4] 3 (AF Bz) Uw
def ET (x0:Int) (x1:AA) (x2 x3:List X):Option (List X×AA):=Tj ⟨[(0,.ptr 0 0),(3,.row 2),(4,.int .i64 x0)],[.var (AM.enc x1),.rows 27 Z x2,.rows 27 Z x3]⟩
def EU (x0:Int) (x1:AA) (x2 x3:List X):Option (List X×AA):=((AS 2 x1).bind fun y9=>(if (decide (x0<(i64.wrap (12+y9.1))))=true then ((Nb (i64.wrap (10+x0))).bind fun y10=>(if (⟨#[109]⟩:ByteArray).size+y10.size≤1099511627776 then (if x3.length+([(((⟨#[109]⟩:ByteArray)++y10),ByteArray.empty,5)]:List X).length≤68719476736 then (ET (i64.wrap (x0+1)) y9.2 x2 (x3++([(((⟨#[109]⟩:ByteArray)++y10),ByteArray.empty,5)]:List X))) else none) else none)) else (some (x3,y9.2))))
def IW (b0:AA):Option (List X×AA):=((H8 b0).bind fun y1=>((AS 16 y1.2).bind fun y2=>(if (y2.1==0)=true then ((Gw y2.2).bind fun y3=>(if y1.1.length+([y3.1]:List X).length≤68719476736 then (some ((y1.1++([y3.1]:List X)),y3.2)) else none)) else (if (y2.1==1)=true then (if (decide ((y1.1.length:Int)>0))=true then ((Bv ([0,(-1:Int),1000000000,1000000001]:List Int) y2.2).bind fun y4=>(if 0≤(0:Int) then (if 0<(y1.1.length:Int) then (let z5:List X:=y1.1.set ((0:Int).toNat) ((y1.1.getD ((0:Int).toNat) (ByteArray.empty,ByteArray.empty,0)).1,((y1.1.getD ((0:Int).toNat) (ByteArray.empty,ByteArray.empty,0)).2).1,y4.1); (some (z5,y4.2))) else none) else none)) else (some (y1.1,y2.2))) else (if (y2.1==2)=true then (if (decide ((y1.1.length:Int)>0))=true then ((Na 13 65).bind fun y6=>((EG ([(⟨#[]⟩:ByteArray),y6]:List ByteArray) y2.2).bind fun y7=>(if 0≤(0:Int) then (if 0<(y1.1.length:Int) then (let z8:List X:=y1.1.set ((0:Int).toNat) (y7.1,(y1.1.getD ((0:Int).toNat) (ByteArray.empty,ByteArray.empty,0)).2); (some (z8,y7.2))) else none) else none))) else (some (y1.1,y2.2))) else (if (y2.1==3)=true then (ET 0 y2.2 y1.1 ([]:List X)) else (some (y1.1,y2.2))))))))
theorem GK:dN EU ET:=lS (by kernel_rfl)
theorem Wn:N1 IW IL:=cT Bz rfl ⟨rfl,rfl⟩ (by kernel_rfl)
def HT (x0:List Int) (x1:Int):Option Bool:=((Cb x0 x1).bind fun y1=>(some (decide (y1≥0))))
theorem N5:RY HT Cn:=cT Cm rfl ⟨rfl,rfl⟩ (by kernel_rfl)
def YW (b0:O):Option O:=(some (b0.1,b0.2.1,b0.2.2.1,b0.2.2.2.1,false,false,[],b0.2.2.2.2.2.2.2.1,0,0,0,0,(ByteArray.empty,ByteArray.empty,0),([]:List Int)))
theorem YX:N1 YW GU:=cT GS rfl ⟨rfl,rfl⟩ (by kernel_rfl)
end
end Go.Proofs.YtaedipailemlcaaGreat.Core

namespace Go.Proofs.YtaedipailemlcaaGreat.Core
open Go IntKind
set_option linter.unusedVariables false
set_option maxRecDepth 100000
noncomputable section
def CD:=kE 0 [] [] 1 (AF AP) kx
def Dd:St→Option (RT (BK.outs AP)):=lG D3 [(0,0)] [0,1,2,6] 1 (AF AP) CD
def Hq:=kB [(0,0)] [0,1,2,6] 1 Dd
def D4:=cG D2 Hq (AF AP) CD
def Hr:=kB [(0,0)] [0,1,2,6] 1 D4
def Hs:=kE 1 [(0,0)] [0,1,2,6] 1 D4 CD
def D5:=kE 2 [(0,0)] [0,1,2,6] 1 Hr Hs
def De:St→Option (RT (BK.outs AP)):=lG D1 [(0,0)] [0,1,2,6,7] 1 (AF AP) D5
def Ht:=kB [(0,0)] [0,1,2,6,7] 1 De
def Df (x0 x1 x2 x3:Int) (x4:Bool) (x5:List Int):Option (List Int):=cG D0 Ht (AF AP) D5 ⟨[(0,.row 0),(1,.int .i64 x0),(2,.int .i64 x1),(6,.int .i64 x2),(7,.int .i64 x3),(30,.bool x4)],[.mrow 3 (.int .i64) x5]⟩
def BP (x0 x1 x2 x3:Int) (x4:List Int):Option (List Int):=De ⟨[(0,.row 0),(1,.int .i64 x0),(2,.int .i64 x1),(6,.int .i64 x2),(7,.int .i64 x3)],[.mrow 3 (.int .i64) x4]⟩
def Ai (x0 x1 x2:Int) (x3:List Int):Option (List Int):=Dd ⟨[(0,.row 0),(1,.int .i64 x0),(2,.int .i64 x1),(6,.int .i64 x2)],[.mrow 3 (.int .i64) x3]⟩
def Dg (x0 x1 x2 x3:Int) (x4:Bool) (x5:List Int):Option (List Int):=(if 0≤(i64.wrap (x3-1)) then (if (i64.wrap (x3-1))<(x5.length:Int) then (if 0≤x3 then (if x3<(x5.length:Int) then (if 0≤x3 then (if x3<(x5.length:Int) then (let z2:List Int:=x5.set x3.toNat (x5.getD ((i64.wrap (x3-1)).toNat) 0); (if 0≤(i64.wrap (x3-1)) then (if (i64.wrap (x3-1))<(z2.length:Int) then (let z3:List Int:=z2.set ((i64.wrap (x3-1)).toNat) (x5.getD x3.toNat 0); (BP x0 x1 x2 (i64.wrap (x3-1)) z3)) else none) else none)) else none) else none) else none) else none) else none) else none)
def B6 (x0 x1 x2 x3:Int) (x4:List Int):Option (List Int):=(if (decide (x3>x0))=true then (if 0≤x3 then (if x3<(x4.length:Int) then (if 0≤(i64.wrap (x3-1)) then (if (i64.wrap (x3-1))<(x4.length:Int) then ((Jg (x4.getD x3.toNat 0) (x4.getD ((i64.wrap (x3-1)).toNat) 0)).bind fun y1=>(if y1=true then (Df x0 x1 x2 x3 y1 x4) else (Ai x0 x1 (i64.wrap (x2+1)) x4))) else none) else none) else none) else none) else (Ai x0 x1 (i64.wrap (x2+1)) x4))
def BQ (x0 x1 x2:Int) (x3:List Int):Option (List Int):=(if (decide (x2<x1))=true then (BP x0 x1 x2 x2 x3) else (some x3))
def CT (x1 x2:Int) (b0:List Int):Option (List Int):=(Ai x1 x2 (i64.wrap (x1+1)) b0)
theorem HZ:lK Dg Df:=jS (by kernel_rfl)
theorem Dh:kC B6 BP:=lS (by kernel_rfl)
theorem B7:dN BQ Ai:=lS (by kernel_rfl)
theorem EX:Pr CT CS:=cT AP rfl ⟨rfl,rfl⟩ (by kernel_rfl)
def Ux (x0 x1:Int):Option Bool:=((H9 x0).bind fun y1=>(if y1=true then ((H9 x1).bind fun y2=>(if (!y2)=false then (some (decide (x0<x1))) else (some true))) else (some (decide (x0<x1)))))
theorem ff:RY Ux Jg:=cT Ja rfl ⟨rfl,rfl⟩ (by kernel_rfl)
def Ex (x0 x1:Int):Option Int:=cG Me (AF B_) (AF B_) kx ⟨[(0,.int .u64 x0),(2,.int .i64 x1)],[]⟩
def G0 (x0 x1:Int):Option Int:=cG Mf (AF B_) (AF B_) kx ⟨[(0,.int .u64 x0),(2,.int .i64 x1)],[]⟩
def G1 (x0 x1:Int):Option Int:=(if (decide (x0≥256))=true then (if 8<0 then none else (if 0≤(IntKind.u8.wrap (Int.fdiv x0 (2^(min (8:Int).toNat (IntKind.bits .u64))))) then (if (IntKind.u8.wrap (Int.fdiv x0 (2^(min (8:Int).toNat (IntKind.bits .u64)))))<((⟨#[0,1,2,2,3,3,3,3,4,4,4,4,4,4,4,4,5,5,5,5,5,5,5,5,5,5,5,5,5,5,5,5,6,6,6,6,6,6,6,6,6,6,6,6,6,6,6,6,6,6,6,6,6,6,6,6,6,6,6,6,6,6,6,6,7,7,7,7,7,7,7,7,7,7,7,7,7,7,7,7,7,7,7,7,7,7,7,7,7,7,7,7,7,7,7,7,7,7,7,7,7,7,7,7,7,7,7,7,7,7,7,7,7,7,7,7,7,7,7,7,7,7,7,7,7,7,7,7,8,8,8,8,8,8,8,8,8,8,8,8,8,8,8,8,8,8,8,8,8,8,8,8,8,8,8,8,8,8,8,8,8,8,8,8,8,8,8,8,8,8,8,8,8,8,8,8,8,8,8,8,8,8,8,8,8,8,8,8,8,8,8,8,8,8,8,8,8,8,8,8,8,8,8,8,8,8,8,8,8,8,8,8,8,8,8,8,8,8,8,8,8,8,8,8,8,8,8,8,8,8,8,8,8,8,8,8,8,8,8,8,8,8,8,8,8,8,8,8,8,8,8,8,8,8,8,8]⟩:ByteArray).size:Int) then (some (i64.wrap ((i64.wrap (x1+8))+(i64.wrap (((⟨#[0,1,2,2,3,3,3,3,4,4,4,4,4,4,4,4,5,5,5,5,5,5,5,5,5,5,5,5,5,5,5,5,6,6,6,6,6,6,6,6,6,6,6,6,6,6,6,6,6,6,6,6,6,6,6,6,6,6,6,6,6,6,6,6,7,7,7,7,7,7,7,7,7,7,7,7,7,7,7,7,7,7,7,7,7,7,7,7,7,7,7,7,7,7,7,7,7,7,7,7,7,7,7,7,7,7,7,7,7,7,7,7,7,7,7,7,7,7,7,7,7,7,7,7,7,7,7,7,8,8,8,8,8,8,8,8,8,8,8,8,8,8,8,8,8,8,8,8,8,8,8,8,8,8,8,8,8,8,8,8,8,8,8,8,8,8,8,8,8,8,8,8,8,8,8,8,8,8,8,8,8,8,8,8,8,8,8,8,8,8,8,8,8,8,8,8,8,8,8,8,8,8,8,8,8,8,8,8,8,8,8,8,8,8,8,8,8,8,8,8,8,8,8,8,8,8,8,8,8,8,8,8,8,8,8,8,8,8,8,8,8,8,8,8,8,8,8,8,8,8,8,8,8,8,8,8]⟩:ByteArray).data.toList.getD (IntKind.u8.wrap (Int.fdiv x0 (2^(min (8:Int).toNat (IntKind.bits .u64))))).toNat 0).toNat:Int))))) else none) else none)) else (if 0≤(IntKind.u8.wrap x0) then (if (IntKind.u8.wrap x0)<((⟨#[0,1,2,2,3,3,3,3,4,4,4,4,4,4,4,4,5,5,5,5,5,5,5,5,5,5,5,5,5,5,5,5,6,6,6,6,6,6,6,6,6,6,6,6,6,6,6,6,6,6,6,6,6,6,6,6,6,6,6,6,6,6,6,6,7,7,7,7,7,7,7,7,7,7,7,7,7,7,7,7,7,7,7,7,7,7,7,7,7,7,7,7,7,7,7,7,7,7,7,7,7,7,7,7,7,7,7,7,7,7,7,7,7,7,7,7,7,7,7,7,7,7,7,7,7,7,7,7,8,8,8,8,8,8,8,8,8,8,8,8,8,8,8,8,8,8,8,8,8,8,8,8,8,8,8,8,8,8,8,8,8,8,8,8,8,8,8,8,8,8,8,8,8,8,8,8,8,8,8,8,8,8,8,8,8,8,8,8,8,8,8,8,8,8,8,8,8,8,8,8,8,8,8,8,8,8,8,8,8,8,8,8,8,8,8,8,8,8,8,8,8,8,8,8,8,8,8,8,8,8,8,8,8,8,8,8,8,8,8,8,8,8,8,8,8,8,8,8,8,8,8,8,8,8,8,8]⟩:ByteArray).size:Int) then (some (i64.wrap (x1+(i64.wrap (((⟨#[0,1,2,2,3,3,3,3,4,4,4,4,4,4,4,4,5,5,5,5,5,5,5,5,5,5,5,5,5,5,5,5,6,6,6,6,6,6,6,6,6,6,6,6,6,6,6,6,6,6,6,6,6,6,6,6,6,6,6,6,6,6,6,6,7,7,7,7,7,7,7,7,7,7,7,7,7,7,7,7,7,7,7,7,7,7,7,7,7,7,7,7,7,7,7,7,7,7,7,7,7,7,7,7,7,7,7,7,7,7,7,7,7,7,7,7,7,7,7,7,7,7,7,7,7,7,7,7,8,8,8,8,8,8,8,8,8,8,8,8,8,8,8,8,8,8,8,8,8,8,8,8,8,8,8,8,8,8,8,8,8,8,8,8,8,8,8,8,8,8,8,8,8,8,8,8,8,8,8,8,8,8,8,8,8,8,8,8,8,8,8,8,8,8,8,8,8,8,8,8,8,8,8,8,8,8,8,8,8,8,8,8,8,8,8,8,8,8,8,8,8,8,8,8,8,8,8,8,8,8,8,8,8,8,8,8,8,8,8,8,8,8,8,8,8,8,8,8,8,8,8,8,8,8,8,8]⟩:ByteArray).data.toList.getD (IntKind.u8.wrap x0).toNat 0).toNat:Int))))) else none) else none))
def L9 (x0 x1:Int):Option Int:=(if (decide (x0≥65536))=true then (if 16<0 then none else (Ex (Int.fdiv x0 (2^(min (16:Int).toNat (IntKind.bits .u64)))) (i64.wrap (x1+16)))) else (Ex x0 x1))
def Pe (x0:Int):Option Int:=(if (decide (x0≥4294967296))=true then (if 32<0 then none else (G0 (Int.fdiv x0 (2^(min (32:Int).toNat (IntKind.bits .u64)))) 32)) else (G0 x0 0))
theorem Uy:RY G1 Ex:=jS (by kernel_rfl)
theorem Uz:RY L9 G0:=jS (by kernel_rfl)
theorem YY:N1 Pe Jh:=cT B_ rfl ⟨rfl,rfl⟩ (by kernel_rfl)
def Da:=cG Av (AF AE) (AF AE) kx
def Db:=kE 0 [] [0,1,2,8,9] 0 Da kx
def DO:St→Option (RT (BK.outs AE)):=lG Bp [] [0,1,2,8,9,10] 0 (AF AE) Db
def Bj (x0:List X) (x1:ByteArray) (x2 x3:Int):Option (Int×Bool):=cG Av (AF AE) (AF AE) kx ⟨[(0,.lst Z x0),(1,.str x1),(2,.fn 101 []),(8,.int .i64 x2),(9,.int .i64 x3)],[]⟩
def AI (x0:List X) (x1:ByteArray) (x2 x3 x4:Int):Option (Int×Bool):=DO ⟨[(0,.lst Z x0),(1,.str x1),(2,.fn 101 []),(8,.int .i64 x2),(9,.int .i64 x3),(10,.int .i64 x4)],[]⟩
def Bk (x0:List X) (x1:ByteArray) (x2 x3:Int):Option (Int×Bool):=(if (decide (x3<x2))=true then (if 0≤x3 then (if x3<(x0.length:Int) then ((HE (x0.getD x3.toNat (ByteArray.empty,ByteArray.empty,0)) x1).bind fun y2=>(some (x3,(y2==0)))) else none) else none) else (some (x3,false)))
def As (x0:List X) (x1:ByteArray) (x2 x3 x4:Int):Option (Int×Bool):=(if (decide (x3<x4))=true then (if 1<0 then none else (if 0≤(i64.wrap (Int.fdiv (IntKind.u64.wrap (i64.wrap (x3+x4))) (2^(min (1:Int).toNat (IntKind.bits .u64))))) then (if (i64.wrap (Int.fdiv (IntKind.u64.wrap (i64.wrap (x3+x4))) (2^(min (1:Int).toNat (IntKind.bits .u64)))))<(x0.length:Int) then ((HE (x0.getD (i64.wrap (Int.fdiv (IntKind.u64.wrap (i64.wrap (x3+x4))) (2^(min (1:Int).toNat (IntKind.bits .u64))))).toNat (ByteArray.empty,ByteArray.empty,0)) x1).bind fun y1=>(if (decide (y1<0))=true then (AI x0 x1 x2 (i64.wrap ((i64.wrap (Int.fdiv (IntKind.u64.wrap (i64.wrap (x3+x4))) (2^(min (1:Int).toNat (IntKind.bits .u64)))))+1)) x4) else (AI x0 x1 x2 x3 (i64.wrap (Int.fdiv (IntKind.u64.wrap (i64.wrap (x3+x4))) (2^(min (1:Int).toNat (IntKind.bits .u64)))))))) else none) else none)) else (Bj x0 x1 x2 x3))
def Bw (x0:List X) (x1:ByteArray) (x2:Unit):Option (Int×Bool):=(AI x0 x1 (x0.length:Int) 0 (x0.length:Int))
theorem DP:dN Bk Bj:=jS (by kernel_rfl)
theorem Bl:kC As AI:=lS (by kernel_rfl)
theorem Du:Pr Bw Az:=cT AE rfl ⟨rfl,rfl⟩ (by kernel_rfl)
def RG (x0:X) (x1:ByteArray):Option Int:=((Jj x0.1 x1).bind fun y1=>(some y1))
theorem aQ:RY RG HE:=cT HB rfl ⟨rfl,rfl⟩ (by kernel_rfl)
def Tk:=cG KZ (AF Bq) (AF Bq) kx
def Tl:=kE 0 [(3,0)] [3] 1 Tk kx
def SB:St→Option (RT (BK.outs Bq)):=lG KY [(3,0)] [0,3,4] 1 (AF Bq) Tl
def Dv (x0:List (List Int)) (x1:Int) (x2:List (List Int)):Option (List (List Int)):=SB ⟨[(0,.lst (.slice (.int .i64)) x0),(3,.row 0),(4,.int .i64 x1)],[.rows 24 (.slice (.int .i64)) x2]⟩
def Fw (x0:List (List Int)) (x1:Int) (x2:List (List Int)):Option (List (List Int)):=(if (decide (x1<(x0.length:Int)))=true then (if 0≤x1 then (if x1<(x0.length:Int) then (if ([]:List Int).length+(x0.getD x1.toNat ([]:List Int)).length≤68719476736 then (if x2.length+([(([]:List Int)++(x0.getD x1.toNat ([]:List Int)))]:List (List Int)).length≤68719476736 then (Dv x0 (i64.wrap (x1+1)) (x2++([(([]:List Int)++(x0.getD x1.toNat ([]:List Int)))]:List (List Int)))) else none) else none) else none) else none) else (some x2))
def Mo (x0:List (List Int)):Option (List (List Int)):=(Dv x0 0 ([]:List (List Int)))
theorem KF:Pr Fw Dv:=lS (by kernel_rfl)
theorem Vh:N1 Mo FA:=cT Bq rfl ⟨rfl,rfl⟩ (by kernel_rfl)
def U0 (x1:List ByteArray) (b0:AA):Option (ByteArray×AA):=((AS (x1.length:Int) b0).bind fun y1=>(if 0≤y1.1 then (if y1.1<(x1.length:Int) then (some ((x1.getD y1.1.toNat ByteArray.empty),y1.2)) else none) else none))
theorem fg:RY U0 EG:=cT Jb rfl ⟨rfl,rfl⟩ (by kernel_rfl)
def TO (x1:Int) (x2:Ab) (b0:AJ):Option (Int×AJ):=(if ([]:List Bo).length+b0.2.2.2.length≤68719476736 then (if (([]:List Bo)++b0.2.2.2).length+([(x2.2.2.2.1,x2.2.2.2.2.1,x2.2.2.2.2.2,x1,(-1:Int),0,0,0,ByteArray.empty)]:List Bo).length≤68719476736 then (if 0≤(i64.wrap (x2.2.1-1)) then (if (i64.wrap (x2.2.1-1))<(b0.2.1.length:Int) then ((R2 (b0.2.1.getD (i64.wrap (x2.2.1-1)).toNat (0,0,false,false,false,false,([]:List Int),([]:List X),0,0,0,0,(ByteArray.empty,ByteArray.empty,0),([]:List Int))) b0.1 x2.2.2.2.1 (i64.wrap ((((([]:List Bo)++b0.2.2.2)++([(x2.2.2.2.1,x2.2.2.2.2.1,x2.2.2.2.2.2,x1,(-1:Int),0,0,0,ByteArray.empty)]:List Bo)).length:Int)-1)) x2.2.2.2.2.1 x2.2.2.2.2.2).bind fun y1=>(if (!y1.2.2.2)=true then (some (1,(b0.1,b0.2.1,b0.2.2.1,((([]:List Bo)++b0.2.2.2)++([(x2.2.2.2.1,x2.2.2.2.2.1,x2.2.2.2.2.2,x1,(-1:Int),0,0,0,ByteArray.empty)]:List Bo))))) else ((D9 y1.1 y1.2.1 y1.2.2.1 x1 (b0.1,b0.2.1,b0.2.2.1,((([]:List Bo)++b0.2.2.2)++([(x2.2.2.2.1,x2.2.2.2.2.1,x2.2.2.2.2.2,x1,(-1:Int),0,0,0,ByteArray.empty)]:List Bo)))).bind fun y2=>(some (0,y2))))) else none) else none) else none) else none)
theorem ct:Pr TO MJ:=cT H5 rfl ⟨rfl,rfl⟩ (by kernel_rfl)
def YZ:=cG NS (AF Ch) (AF Ch) kx
def Ya:=kE 0 [] [] 2 YZ kx
def Wo:St→Option (RT (BK.outs Ch)):=lG Ox [] [0,1,2,7,8] 2 (AF Ch) Ya
def Fx (x0 x1 x2:Int) (x3:AJ) (x4:O):Option (Int×AJ):=Wo ⟨[(0,.ptr 0 0),(1,.int .i64 x0),(2,.int .i64 x1),(7,.ptr 1 0),(8,.int .i64 x2)],[.var (AU.enc x3),.var (U.enc x4)]⟩
def Fy (x0 x1 x2:Int) (x3:AJ) (x4:O):Option (Int×AJ):=(if (decide (x2≤(x3.1.length:Int)))=true then (if 0≤(i64.wrap (x2-1)) then (if (i64.wrap (x2-1))<(x3.1.length:Int) then (if 0≤(0:Int) then (if 0<((x3.1.getD (i64.wrap (x2-1)).toNat ([]:List Int)).length:Int) then (if (((x3.1.getD (i64.wrap (x2-1)).toNat ([]:List Int)).getD (0:Int).toNat 0) != x1)=true then (Fx x0 x1 (i64.wrap (x2+1)) x3 x4) else ((R4 x4 x3.1 x2).bind fun y1=>(if (!y1.2.2)=true then (some (1,x3)) else ((D9 y1.1 y1.2.1 ([]:List AD) x0 x3).bind fun y2=>(some (0,y2)))))) else none) else none) else none) else none) else (some (1,x3)))
def MW (x1 x2:Int) (b0:AJ):Option (Int×AJ):=(if 0≤(i64.wrap (x2-1)) then (if (i64.wrap (x2-1))<(b0.2.1.length:Int) then (Fx x1 x2 (i64.wrap ((((b0.2.1.getD (i64.wrap (x2-1)).toNat (0,0,false,false,false,false,([]:List Int),([]:List X),0,0,0,0,(ByteArray.empty,ByteArray.empty,0),([]:List Int))).2).1)+1)) b0 (b0.2.1.getD (i64.wrap (x2-1)).toNat (0,0,false,false,false,false,([]:List Int),([]:List X),0,0,0,0,(ByteArray.empty,ByteArray.empty,0),([]:List Int)))) else none) else none)
theorem IX:kC Fy Fx:=lS (by kernel_rfl)
theorem TP:Pr MW MK:=cT Ch rfl ⟨rfl,rfl⟩ (by kernel_rfl)
def IY:=kE 0 [] [] 4 (AF B4) kx
def Mp:St→Option (RT (BK.outs B4)):=lG Mi [] [0,3,4,11] 4 (AF B4) IY
def Wp:=kB [] [0,3,4,11] 4 Mp
def Nv:=cG Mh Wp (AF B4) IY
def Wq:=kB [] [0,3,4,11] 4 Nv
def Wr:=kE 1 [] [0,3,4,11] 4 Nv IY
def Mq (x0:List AD) (x1 x2:Int) (x3:Bool) (x4:AJ) (x5:O) (x6:List O) (x7:List Y) (x8:AD):Option AJ:=cG Mg Wq (AF B4) Wr ⟨[(0,.ptr 0 0),(3,.lst Ar x0),(4,.int .i64 x1),(11,.int .i64 x2),(12,.ptr 4 0),(71,.bool x3)],[.var (AU.enc x4),.var (U.enc x5),.frz U x6,.frz AB x7,.var (Ar.enc x8)]⟩
def B8 (x0:List AD) (x1 x2:Int) (x3:AJ) (x4:O) (x5:List O) (x6:List Y):Option AJ:=Mp ⟨[(0,.ptr 0 0),(3,.lst Ar x0),(4,.int .i64 x1),(11,.int .i64 x2)],[.var (AU.enc x3),.var (U.enc x4),.frz U x5,.frz AB x6]⟩
def Mr (x0:List AD) (x1 x2:Int) (x3:Bool) (x4:AJ) (x5:O) (x6:List O) (x7:List Y) (x8:AD):Option AJ:=(if ([]:List Bo).length+x4.2.2.2.length≤68719476736 then (if 0≤x8.1 then (if x8.1<((([]:List Bo)++x4.2.2.2).length:Int) then (let z2:List Bo:=(([]:List Bo)++x4.2.2.2).set x8.1.toNat (((([]:List Bo)++x4.2.2.2).getD x8.1.toNat (0,ByteArray.empty,ByteArray.empty,0,0,0,0,0,ByteArray.empty)).1,(((([]:List Bo)++x4.2.2.2).getD x8.1.toNat (0,ByteArray.empty,ByteArray.empty,0,0,0,0,0,ByteArray.empty)).2).1,((((([]:List Bo)++x4.2.2.2).getD x8.1.toNat (0,ByteArray.empty,ByteArray.empty,0,0,0,0,0,ByteArray.empty)).2).2).1,(((((([]:List Bo)++x4.2.2.2).getD x8.1.toNat (0,ByteArray.empty,ByteArray.empty,0,0,0,0,0,ByteArray.empty)).2).2).2).1,x1,((((((([]:List Bo)++x4.2.2.2).getD x8.1.toNat (0,ByteArray.empty,ByteArray.empty,0,0,0,0,0,ByteArray.empty)).2).2).2).2).2); (let z3:List Bo:=z2.set x8.1.toNat ((z2.getD x8.1.toNat (0,ByteArray.empty,ByteArray.empty,0,0,0,0,0,ByteArray.empty)).1,((z2.getD x8.1.toNat (0,ByteArray.empty,ByteArray.empty,0,0,0,0,0,ByteArray.empty)).2).1,(((z2.getD x8.1.toNat (0,ByteArray.empty,ByteArray.empty,0,0,0,0,0,ByteArray.empty)).2).2).1,((((z2.getD x8.1.toNat (0,ByteArray.empty,ByteArray.empty,0,0,0,0,0,ByteArray.empty)).2).2).2).1,(((((z2.getD x8.1.toNat (0,ByteArray.empty,ByteArray.empty,0,0,0,0,0,ByteArray.empty)).2).2).2).2).1,x8.2.2.2.2.2,((((((z2.getD x8.1.toNat (0,ByteArray.empty,ByteArray.empty,0,0,0,0,0,ByteArray.empty)).2).2).2).2).2).2); (let z4:List Bo:=z3.set x8.1.toNat ((z3.getD x8.1.toNat (0,ByteArray.empty,ByteArray.empty,0,0,0,0,0,ByteArray.empty)).1,((z3.getD x8.1.toNat (0,ByteArray.empty,ByteArray.empty,0,0,0,0,0,ByteArray.empty)).2).1,(((z3.getD x8.1.toNat (0,ByteArray.empty,ByteArray.empty,0,0,0,0,0,ByteArray.empty)).2).2).1,((((z3.getD x8.1.toNat (0,ByteArray.empty,ByteArray.empty,0,0,0,0,0,ByteArray.empty)).2).2).2).1,(((((z3.getD x8.1.toNat (0,ByteArray.empty,ByteArray.empty,0,0,0,0,0,ByteArray.empty)).2).2).2).2).1,((((((z3.getD x8.1.toNat (0,ByteArray.empty,ByteArray.empty,0,0,0,0,0,ByteArray.empty)).2).2).2).2).2).1,x8.2.1,(((((((z3.getD x8.1.toNat (0,ByteArray.empty,ByteArray.empty,0,0,0,0,0,ByteArray.empty)).2).2).2).2).2).2).2); (let z5:List Bo:=z4.set x8.1.toNat ((z4.getD x8.1.toNat (0,ByteArray.empty,ByteArray.empty,0,0,0,0,0,ByteArray.empty)).1,((z4.getD x8.1.toNat (0,ByteArray.empty,ByteArray.empty,0,0,0,0,0,ByteArray.empty)).2).1,(((z4.getD x8.1.toNat (0,ByteArray.empty,ByteArray.empty,0,0,0,0,0,ByteArray.empty)).2).2).1,((((z4.getD x8.1.toNat (0,ByteArray.empty,ByteArray.empty,0,0,0,0,0,ByteArray.empty)).2).2).2).1,(((((z4.getD x8.1.toNat (0,ByteArray.empty,ByteArray.empty,0,0,0,0,0,ByteArray.empty)).2).2).2).2).1,((((((z4.getD x8.1.toNat (0,ByteArray.empty,ByteArray.empty,0,0,0,0,0,ByteArray.empty)).2).2).2).2).2).1,(((((((z4.getD x8.1.toNat (0,ByteArray.empty,ByteArray.empty,0,0,0,0,0,ByteArray.empty)).2).2).2).2).2).2).1,x8.2.2.1,((((((((z4.getD x8.1.toNat (0,ByteArray.empty,ByteArray.empty,0,0,0,0,0,ByteArray.empty)).2).2).2).2).2).2).2).2); (if (((z5.getD x8.1.toNat (0,ByteArray.empty,ByteArray.empty,0,0,0,0,0,ByteArray.empty)).1)==2)=true then (let z6:List Bo:=z5.set x8.1.toNat ((z5.getD x8.1.toNat (0,ByteArray.empty,ByteArray.empty,0,0,0,0,0,ByteArray.empty)).1,((z5.getD x8.1.toNat (0,ByteArray.empty,ByteArray.empty,0,0,0,0,0,ByteArray.empty)).2).1,(((z5.getD x8.1.toNat (0,ByteArray.empty,ByteArray.empty,0,0,0,0,0,ByteArray.empty)).2).2).1,((((z5.getD x8.1.toNat (0,ByteArray.empty,ByteArray.empty,0,0,0,0,0,ByteArray.empty)).2).2).2).1,(((((z5.getD x8.1.toNat (0,ByteArray.empty,ByteArray.empty,0,0,0,0,0,ByteArray.empty)).2).2).2).2).1,((((((z5.getD x8.1.toNat (0,ByteArray.empty,ByteArray.empty,0,0,0,0,0,ByteArray.empty)).2).2).2).2).2).1,(((((((z5.getD x8.1.toNat (0,ByteArray.empty,ByteArray.empty,0,0,0,0,0,ByteArray.empty)).2).2).2).2).2).2).1,((((((((z5.getD x8.1.toNat (0,ByteArray.empty,ByteArray.empty,0,0,0,0,0,ByteArray.empty)).2).2).2).2).2).2).2).1,x8.2.2.2.2.1); (B8 x0 x1 (i64.wrap (x2+1)) (x4.1,x4.2.1,x4.2.2.1,z6) x5 x6 x7)) else (B8 x0 x1 (i64.wrap (x2+1)) (x4.1,x4.2.1,x4.2.2.1,z5) x5 x6 x7)))))) else none) else none) else none)
def Ha (x0:List AD) (x1 x2:Int) (x3:AJ) (x4:O) (x5:List O) (x6:List Y):Option AJ:=(if (decide (x2<(x0.length:Int)))=true then (if 0≤x2 then (if x2<(x0.length:Int) then (if (decide (((x0.getD x2.toNat (0,0,0,ByteArray.empty,ByteArray.empty,0)).1)≥(x3.2.2.2.length:Int)))=true then (B8 x0 x1 (i64.wrap (x2+1)) x3 x4 x5 x6) else (if 0≤((x0.getD x2.toNat (0,0,0,ByteArray.empty,ByteArray.empty,0)).1) then (if ((x0.getD x2.toNat (0,0,0,ByteArray.empty,ByteArray.empty,0)).1)<(x3.2.2.2.length:Int) then (if (decide (((((((x3.2.2.2.getD ((x0.getD x2.toNat (0,0,0,ByteArray.empty,ByteArray.empty,0)).1).toNat (0,ByteArray.empty,ByteArray.empty,0,0,0,0,0,ByteArray.empty)).2).2).2).2).1)≥0))=true then (B8 x0 x1 (i64.wrap (x2+1)) x3 x4 x5 x6) else (Mq x0 x1 x2 (decide (((((((x3.2.2.2.getD ((x0.getD x2.toNat (0,0,0,ByteArray.empty,ByteArray.empty,0)).1).toNat (0,ByteArray.empty,ByteArray.empty,0,0,0,0,0,ByteArray.empty)).2).2).2).2).1)≥0)) x3 x4 x5 x6 (x0.getD x2.toNat (0,0,0,ByteArray.empty,ByteArray.empty,0)))) else none) else none)) else none) else none) else (some x3))
def RH (x1:O) (x2:List Y) (x3:List AD) (x4:Int) (b0:AJ):Option AJ:=(if ([]:List O).length+b0.2.1.length≤68719476736 then (if 0≤(i64.wrap (x1.1-1)) then (if (i64.wrap (x1.1-1))<((([]:List O)++b0.2.1).length:Int) then (let z1:List O:=(([]:List O)++b0.2.1).set ((i64.wrap (x1.1-1)).toNat) x1; (if ([]:List Y).length+b0.2.2.1.length≤68719476736 then (if (([]:List Y)++b0.2.2.1).length+x2.length≤68719476736 then (B8 x3 x4 0 (b0.1,z1,((([]:List Y)++b0.2.2.1)++x2),b0.2.2.2) x1 z1 ((([]:List Y)++b0.2.2.1)++x2)) else none) else none)) else none) else none) else none)
theorem Vi:qR Mr Mq:=jS (by kernel_rfl)
theorem Ms:n7 Ha B8:=lS (by kernel_rfl)
theorem aR:kC RH D9:=cT B4 rfl ⟨rfl,rfl⟩ (by kernel_rfl)
def j1 (x0:O):Option O:=(some (x0.1,x0.2.1,true,false,false,false,([]:List Int),([]:List X),0,0,0,0,(ByteArray.empty,ByteArray.empty,0),([]:List Int)))
theorem j3:N1 j1 UQ:=cT Oy rfl ⟨rfl,rfl⟩ (by kernel_rfl)
def P3 (x1:Int) (x2:Ab) (b0:AJ):Option (Int×AJ):=(if ((b0.2.2.1.length:Int)==0)=true then (some (1,b0)) else (if (b0.2.2.1.length:Int)=0 then none else (if 0≤(Int.tmod x2.2.2.1 (b0.2.2.1.length:Int)) then (if (Int.tmod x2.2.2.1 (b0.2.2.1.length:Int))<(b0.2.2.1.length:Int) then (if (x2.1==4)=true then (if ([]:List Y).length+b0.2.2.1.length≤68719476736 then (if (([]:List Y)++b0.2.2.1).length+([b0.2.2.1.getD (Int.tmod x2.2.2.1 (b0.2.2.1.length:Int)).toNat (0,0,0,0,0,([]:List X))]:List Y).length≤68719476736 then (some (0,(b0.1,b0.2.1,((([]:List Y)++b0.2.2.1)++([b0.2.2.1.getD (Int.tmod x2.2.2.1 (b0.2.2.1.length:Int)).toNat (0,0,0,0,0,([]:List X))]:List Y)),b0.2.2.2))) else none) else none) else (if 0≤(0:Int) then (if 0≤(Int.tmod x2.2.2.1 (b0.2.2.1.length:Int)) then (if (Int.tmod x2.2.2.1 (b0.2.2.1.length:Int))≤(b0.2.2.1.length:Int) then (if 0≤(i64.wrap ((Int.tmod x2.2.2.1 (b0.2.2.1.length:Int))+1)) then (if (i64.wrap ((Int.tmod x2.2.2.1 (b0.2.2.1.length:Int))+1))≤(b0.2.2.1.length:Int) then (if (b0.2.2.1.length:Int)≤(b0.2.2.1.length:Int) then (if ([]:List Y).length+((b0.2.2.1.take (Int.tmod x2.2.2.1 (b0.2.2.1.length:Int)).toNat).drop (0:Int).toNat).length≤68719476736 then (if (([]:List Y)++((b0.2.2.1.take (Int.tmod x2.2.2.1 (b0.2.2.1.length:Int)).toNat).drop (0:Int).toNat)).length+((b0.2.2.1.take (b0.2.2.1.length:Int).toNat).drop (i64.wrap ((Int.tmod x2.2.2.1 (b0.2.2.1.length:Int))+1)).toNat).length≤68719476736 then (if (x2.1==3)=true then (some (0,(b0.1,b0.2.1,((([]:List Y)++((b0.2.2.1.take (Int.tmod x2.2.2.1 (b0.2.2.1.length:Int)).toNat).drop (0:Int).toNat))++((b0.2.2.1.take (b0.2.2.1.length:Int).toNat).drop (i64.wrap ((Int.tmod x2.2.2.1 (b0.2.2.1.length:Int))+1)).toNat)),b0.2.2.2))) else (if 0≤(i64.wrap (((((b0.2.2.1.getD (Int.tmod x2.2.2.1 (b0.2.2.1.length:Int)).toNat (0,0,0,0,0,([]:List X))).2).2).1)-1)) then (if (i64.wrap (((((b0.2.2.1.getD (Int.tmod x2.2.2.1 (b0.2.2.1.length:Int)).toNat (0,0,0,0,0,([]:List X))).2).2).1)-1))<(b0.2.1.length:Int) then ((NT (b0.2.1.getD (i64.wrap (((((b0.2.2.1.getD (Int.tmod x2.2.2.1 (b0.2.2.1.length:Int)).toNat (0,0,0,0,0,([]:List X))).2).2).1)-1)).toNat (0,0,false,false,false,false,([]:List Int),([]:List X),0,0,0,0,(ByteArray.empty,ByteArray.empty,0),([]:List Int))) b0.1 (b0.2.2.1.getD (Int.tmod x2.2.2.1 (b0.2.2.1.length:Int)).toNat (0,0,0,0,0,([]:List X)))).bind fun y1=>((D9 y1.1 y1.2.1 y1.2.2 x1 (b0.1,b0.2.1,((([]:List Y)++((b0.2.2.1.take (Int.tmod x2.2.2.1 (b0.2.2.1.length:Int)).toNat).drop (0:Int).toNat))++((b0.2.2.1.take (b0.2.2.1.length:Int).toNat).drop (i64.wrap ((Int.tmod x2.2.2.1 (b0.2.2.1.length:Int))+1)).toNat)),b0.2.2.2)).bind fun y2=>(some (0,y2)))) else none) else none)) else none) else none) else none) else none) else none) else none) else none) else none)) else none) else none)))
theorem V4:Pr P3 Pv:=cT LX rfl ⟨rfl,rfl⟩ (by kernel_rfl)
def U1:=cG Lw (AF B0) (AF B0) kx
def U2:=kE 0 [(3,0)] [3] 1 U1 kx
def Tm:St→Option (RT (BK.outs B0)):=lG Lv [(3,0)] [0,3,4] 1 (AF B0) U2
def Cr (x0:List Y) (x1:Int) (x2:List Y):Option (List Y):=Tm ⟨[(0,.lst AB x0),(3,.row 0),(4,.int .i64 x1)],[.rows 34 AB x2]⟩
def GL (x0:List Y) (x1:Int) (x2:List Y):Option (List Y):=(if (decide (x1<(x0.length:Int)))=true then (if 0≤x1 then (if x1<(x0.length:Int) then (if ([]:List X).length+((((((x0.getD x1.toNat (0,0,0,0,0,([]:List X))).2).2).2).2).2).length≤68719476736 then (if x2.length+([((x0.getD x1.toNat (0,0,0,0,0,([]:List X))).1,((x0.getD x1.toNat (0,0,0,0,0,([]:List X))).2).1,(((x0.getD x1.toNat (0,0,0,0,0,([]:List X))).2).2).1,((((x0.getD x1.toNat (0,0,0,0,0,([]:List X))).2).2).2).1,(((((x0.getD x1.toNat (0,0,0,0,0,([]:List X))).2).2).2).2).1,(([]:List X)++((((((x0.getD x1.toNat (0,0,0,0,0,([]:List X))).2).2).2).2).2)))]:List Y).length≤68719476736 then (Cr x0 (i64.wrap (x1+1)) (x2++([((x0.getD x1.toNat (0,0,0,0,0,([]:List X))).1,((x0.getD x1.toNat (0,0,0,0,0,([]:List X))).2).1,(((x0.getD x1.toNat (0,0,0,0,0,([]:List X))).2).2).1,((((x0.getD x1.toNat (0,0,0,0,0,([]:List X))).2).2).2).1,(((((x0.getD x1.toNat (0,0,0,0,0,([]:List X))).2).2).2).2).1,(([]:List X)++((((((x0.getD x1.toNat (0,0,0,0,0,([]:List X))).2).2).2).2).2)))]:List Y))) else none) else none) else none) else none) else (some x2))
def Nw (x0:List Y):Option (List Y):=(Cr x0 0 ([]:List Y))
theorem Kl:Pr GL Cr:=lS (by kernel_rfl)
theorem Ws:N1 Nw IM:=cT B0 rfl ⟨rfl,rfl⟩ (by kernel_rfl)
def Yb:=cG O0 (AF Ci) (AF Ci) kx
def Yc:=kE 0 [(3,1)] [3] 2 Yb kx
def Wt:St→Option (RT (BK.outs Ci)):=lG Oz [(3,1)] [0,3,4] 2 (AF Ci) Yc
def Fz (x0:Int) (x1:AA) (x2:List X):Option (List X×AA):=Wt ⟨[(0,.ptr 0 0),(3,.row 1),(4,.int .i64 x0)],[.var (AM.enc x1),.rows 27 Z x2]⟩
def F0 (x0:Int) (x1:AA) (x2:List X):Option (List X×AA):=((AS 6 x1).bind fun y1=>(if (decide (x0<y1.1))=true then ((Gw y1.2).bind fun y2=>((FS x2 y2.1).bind fun y3=>(Fz (i64.wrap (x0+1)) y2.2 y3))) else (some (x2,y1.2))))
def TQ (b0:AA):Option (List X×AA):=(Fz 0 b0 ([]:List X))
theorem IZ:Pr F0 Fz:=lS (by kernel_rfl)
theorem cv:N1 TQ H8:=cT Ci rfl ⟨rfl,rfl⟩ (by kernel_rfl)
def U3 (b0:AA):Option (X×AA):=((Pw b0).bind fun y1=>((Px y1.2).bind fun y2=>((AS 30 y2.2).bind fun y3=>(some ((y1.1,y2.1,(i64.wrap (1001+y3.1))),y3.2)))))
theorem fh:N1 U3 Gw:=cT Jc rfl ⟨rfl,rfl⟩ (by kernel_rfl)
def aS:=cG Qj (AF DJ) (AF DJ) kx
def aT:=kE 0 [(5,0)] [5] 1 aS kx
def Yd:St→Option (RT (BK.outs DJ)):=lG Qi [(5,0)] [0,1,5,6] 1 (AF DJ) aT
def Gh (x0 x1 x2:Int) (x3:List Int):Option ByteArray:=Yd ⟨[(0,.int .i64 x0),(1,.int .u8 x1),(5,.row 0),(6,.int .i64 x2)],[.rows 5 (.int .u8) x3]⟩
def KG (x0 x1 x2:Int) (x3:List Int):Option ByteArray:=(if (decide (x2<x0))=true then (if 0≤x2 then (if x2<(x3.length:Int) then (let z1:List Int:=x3.set x2.toNat x1; (Gh x0 x1 (i64.wrap (x2+1)) z1)) else none) else none) else (some (Mu x3)))
def U4 (x0 x1:Int):Option ByteArray:=(if 0≤x0 then (if x0≤68719476736 then (Gh x0 x1 0 (List.replicate x0.toNat 0)) else none) else none)
theorem Pf:dN KG Gh:=lS (by kernel_rfl)
theorem fi:RY U4 Na:=cT DJ rfl ⟨rfl,rfl⟩ (by kernel_rfl)
def aU:=cG O1 (AF CY) (AF CY) kx
def RI:=kE 0 [] [3,4] 0 aU kx
def Pg:St→Option (RT (BK.outs CY)):=lG Ql [] [0,3,4] 0 (AF CY) RI
def RJ:=kB [] [0,3,4] 0 Pg
def aV:=kB [] [0,3,4] 0 RJ
def aW:=kE 1 [] [0,3,4] 0 RJ RI
def KH (x0:Int) (x1:Bool) (x2:ByteArray) (x3:Int):Option ByteArray:=cG Qk aV (AF CY) aW ⟨[(0,.int .i64 x0),(3,.bool x1),(4,.str x2),(5,.int .i64 x3)],[]⟩
def Gi (x0:Int) (x1:Bool) (x2:ByteArray):Option ByteArray:=Pg ⟨[(0,.int .i64 x0),(3,.bool x1),(4,.str x2)],[]⟩
def Ph (x0:Int) (x1:Bool) (x2:ByteArray) (x3:Int):Option ByteArray:=((Ky x3).bind fun y1=>(if (Mu ([y1]:List Int)).size+x2.size≤1099511627776 then (if 10=0 then none else (Gi (i64.wrap (Int.tdiv x0 10)) x1 ((Mu ([y1]:List Int))++x2))) else none))
def Gj (x0:Int) (x1:Bool) (x2:ByteArray):Option ByteArray:=(if (x0 != 0)=true then (if 10=0 then none else (if (decide ((Int.tmod x0 10)<0))=true then (KH x0 x1 x2 (i64.wrap (0-(Int.tmod x0 10)))) else (KH x0 x1 x2 (Int.tmod x0 10)))) else (if x1=true then (if (⟨#[45]⟩:ByteArray).size+x2.size≤1099511627776 then (some ((⟨#[45]⟩:ByteArray)++x2)) else none) else (some x2)))
def Nx (x0:Int):Option ByteArray:=(if (x0==0)=true then (some (⟨#[48]⟩:ByteArray)) else (Gi x0 (decide (x0<0)) (⟨#[]⟩:ByteArray)))
theorem Ye:dN Ph KH:=jS (by kernel_rfl)
theorem KI:Pr Gj Gi:=lS (by kernel_rfl)
theorem U5:N1 Nx Nb:=cT CY rfl ⟨rfl,rfl⟩ (by kernel_rfl)
def TR (x0:Int):Option Bool:=(some (x0 != x0))
theorem cw:N1 TR H9:=cT H6 rfl ⟨rfl,rfl⟩ (by kernel_rfl)
def fj:=cG Sx (AF CF) (AF CF) kx
def fk:=kE 0 [(9,2)] [6,9,11] 5 fj kx
def cz:St→Option (RT (BK.outs CF)):=lG Sw [(9,2)] [1,2,3,6,9,11,13] 5 (AF CF) fk
def Ee (x0:List (List Int)) (x1 x2:Int) (x3 x4:O) (x5:List Y) (x6:List X) (x7:O):Option (O×List Y×Bool):=cz ⟨[(1,.lst (.slice (.int .i64)) x0),(2,.int .i64 x1),(3,.ptr 0 0),(6,.ptr 1 0),(9,.row 2),(11,.ptr 4 0),(13,.int .i64 x2)],[.var (U.enc x3),.var (U.enc x4),.rows 34 AB x5,.frz Z x6,.var (U.enc x7)]⟩
def F7 (x0:List (List Int)) (x1:Int) (x2:Bool) (x3 x4:O) (x5:List Y):Option (O×List Y×Bool):=cG Sy (AF CF) (AF CF) kx ⟨[(1,.lst (.slice (.int .i64)) x0),(2,.int .i64 x1),(3,.ptr 0 0),(6,.ptr 1 0),(9,.row 2),(10,.bool x2)],[.var (U.enc x3),.var (U.enc x4),.rows 34 AB x5]⟩
def TS (x0:List (List Int)) (x1:Int) (x2:Bool) (x3 x4:O) (x5:List Y):Option (O×List Y×Bool):=cG Sz (AF CF) (AF CF) kx ⟨[(1,.lst (.slice (.int .i64)) x0),(2,.int .i64 x1),(3,.ptr 0 0),(6,.ptr 1 0),(9,.row 2),(48,.bool x2)],[.var (U.enc x3),.var (U.enc x4),.rows 34 AB x5]⟩
def MX (x0:List (List Int)) (x1 x2:Int) (x3 x4:O) (x5:List Y) (x6:List X) (x7:O):Option (O×List Y×Bool):=(if 0≤(i64.wrap (x1-2)) then (if (i64.wrap (x1-2))<(x0.length:Int) then (if (decide (x2<((x0.getD (i64.wrap (x1-2)).toNat ([]:List Int)).length:Int)))=true then (if 0≤(i64.wrap (x1-2)) then (if (i64.wrap (x1-2))<(x0.length:Int) then (if 0≤x2 then (if x2<((x0.getD (i64.wrap (x1-2)).toNat ([]:List Int)).length:Int) then (if (((x0.getD (i64.wrap (x1-2)).toNat ([]:List Int)).getD x2.toNat 0) != x3.1)=true then (if x5.length+([(1,x3.1,((x0.getD (i64.wrap (x1-2)).toNat ([]:List Int)).getD x2.toNat 0),x1,0,([]:List X))]:List Y).length≤68719476736 then (Ee x0 x1 (i64.wrap (x2+1)) x3 x4 (x5++([(1,x3.1,((x0.getD (i64.wrap (x1-2)).toNat ([]:List Int)).getD x2.toNat 0),x1,0,([]:List X))]:List Y)) x6 x7) else none) else (Ee x0 x1 (i64.wrap (x2+1)) x3 x4 x5 x6 x7)) else none) else none) else none) else none) else ((CZ x7).bind fun y7=>(some (y7,x5,true)))) else none) else none)
def TU (x0:List (List Int)) (x1:Int) (x2:Bool) (x3 x4:O) (x5:List Y):Option (O×List Y×Bool):=(if ([]:List X).length+x3.2.2.2.2.2.2.2.1.length≤68719476736 then (if x2=true then (if 0≤(i64.wrap (x1-1)) then (if (i64.wrap (x1-1))<(x0.length:Int) then ((Lc (x0.getD (i64.wrap (x1-1)).toNat ([]:List Int)) x3.2.2.2.2.2.2.2.1 (x3.1,x1,false,false,true,false,([]:List Int),(([]:List X)++x3.2.2.2.2.2.2.2.1),0,0,0,0,(ByteArray.empty,ByteArray.empty,0),([]:List Int))).bind fun y5=>((CZ y5.2).bind fun y6=>(some (y6,y5.1,true)))) else none) else none) else (Ee x0 x1 0 x3 x4 x5 (([]:List X)++x3.2.2.2.2.2.2.2.1) (x3.1,x1,false,false,true,false,([]:List Int),(([]:List X)++x3.2.2.2.2.2.2.2.1),0,0,0,0,(ByteArray.empty,ByteArray.empty,0),([]:List Int)))) else none)
def TV (x0:List (List Int)) (x1:Int) (x2:Bool) (x3 x4:O) (x5:List Y):Option (O×List Y×Bool):=(if x3.2.2.2.1=true then (if (x3.2.1==(i64.wrap (x1-1)))=true then (if 0≤(i64.wrap (x1-2)) then (if (i64.wrap (x1-2))<(x0.length:Int) then ((C6 (x0.getD (i64.wrap (x1-2)).toNat ([]:List Int)) x3.1).bind fun y4=>(F7 x0 x1 y4 x3 x4 x5)) else none) else none) else (F7 x0 x1 false x3 x4 x5)) else (F7 x0 x1 false x3 x4 x5))
def Yf (x0:O) (x1:List (List Int)) (x2:Int):Option (O×List Y×Bool):=((Eb x0).bind fun y1=>(if (!y1)=true then (some ((0,0,false,false,false,false,([]:List Int),([]:List X),0,0,0,0,(ByteArray.empty,ByteArray.empty,0),([]:List Int)),([]:List Y),false)) else ((DK x1).bind fun y2=>(if (!y2)=true then (some ((0,0,false,false,false,false,([]:List Int),([]:List X),0,0,0,0,(ByteArray.empty,ByteArray.empty,0),([]:List Int)),([]:List Y),false)) else ((AO x2 2 (x1.length:Int)).bind fun y3=>(if (!y3)=true then (some ((0,0,false,false,false,false,([]:List Int),([]:List X),0,0,0,0,(ByteArray.empty,ByteArray.empty,0),([]:List Int)),([]:List Y),false)) else (if (decide (x2≤x0.2.1))=true then (some ((0,0,false,false,false,false,([]:List Int),([]:List X),0,0,0,0,(ByteArray.empty,ByteArray.empty,0),([]:List Int)),([]:List Y),false)) else (if 0≤(i64.wrap (x2-1)) then (if (i64.wrap (x2-1))<(x1.length:Int) then (if 0≤(0:Int) then (if 0<((x1.getD (i64.wrap (x2-1)).toNat ([]:List Int)).length:Int) then (if (((x1.getD (i64.wrap (x2-1)).toNat ([]:List Int)).getD (0:Int).toNat 0) != x0.1)=true then (some ((0,0,false,false,false,false,([]:List Int),([]:List X),0,0,0,0,(ByteArray.empty,ByteArray.empty,0),([]:List Int)),([]:List Y),false)) else (TS x1 x2 (((x1.getD (i64.wrap (x2-1)).toNat ([]:List Int)).getD (0:Int).toNat 0) != x0.1) x0 (0,0,false,false,false,false,([]:List Int),([]:List X),0,0,0,0,(ByteArray.empty,ByteArray.empty,0),([]:List Int)) ([]:List Y))) else none) else none) else none) else none))))))))
theorem TW:nU MX Ee:=lS (by kernel_rfl)
theorem c_:lK TU F7:=jS (by kernel_rfl)
theorem dA:lK TV TS:=jS (by kernel_rfl)
theorem jH:Pr Yf R4:=cT CF rfl ⟨rfl,rfl⟩ (by kernel_rfl)
def V5 (b0:AA):Option (ByteArray×AA):=((EG ([(⟨#[97]⟩:ByteArray),(⟨#[98]⟩:ByteArray),(⟨#[99]⟩:ByteArray),(⟨#[100]⟩:ByteArray),(⟨#[101]⟩:ByteArray),(⟨#[102]⟩:ByteArray),(⟨#[103]⟩:ByteArray),(⟨#[104]⟩:ByteArray),(⟨#[107,49]⟩:ByteArray),(⟨#[107,50]⟩:ByteArray),(⟨#[107,51]⟩:ByteArray),(⟨#[107,101,121]⟩:ByteArray)]:List ByteArray) b0).bind fun y1=>(some (y1.1,y1.2)))
theorem gp:N1 V5 Pw:=cT LY rfl ⟨rfl,rfl⟩ (by kernel_rfl)
def V6 (b0:AA):Option (ByteArray×AA):=((EG ([(⟨#[]⟩:ByteArray),(⟨#[118]⟩:ByteArray),(⟨#[119]⟩:ByteArray),(⟨#[120,120]⟩:ByteArray),(⟨#[121,121,121]⟩:ByteArray)]:List ByteArray) b0).bind fun y1=>(some (y1.1,y1.2)))
theorem gq:N1 V6 Px:=cT LZ rfl ⟨rfl,rfl⟩ (by kernel_rfl)
def LL (x0:Int):Option Int:=(if (decide (x0<10))=true then (some (IntKind.u8.wrap (i64.wrap (48+x0)))) else (some (IntKind.u8.wrap (i64.wrap ((i64.wrap (97+x0))-10)))))
theorem RK:N1 LL Ky:=cT HC rfl ⟨rfl,rfl⟩ (by kernel_rfl)
end
end Go.Proofs.YtaedipailemlcaaGreat.Core


namespace Go.Proofs.YtaedipailemlcaaGreat.Core
open Go
set_option linter.unusedVariables false
theorem AW {n:Int} (h:-9223372036854775808≤n∧n≤9223372036854775807):IntKind.i64.wrap n=n:=IntWalk.i64_in n h
theorem AR {i:Nat} (h:i<9223372036854775807):IntKind.i64.wrap ((i:Int)+1)=((i+1:Nat):Int):=by
 rw [AW (by omega)]
 omega
theorem G2 {P:Nat→Prop} {n:Nat} (h0:P n) (h:∀ i,i<n→P (i+1)→P i):∀ i,i≤n→P i:=by
 intro i hi
 induction hk:n-i generalizing i with
 | zero =>
  have:i=n:=by omega
  subst this
  exact h0
 | succ k ih=>exact h i (by omega) (ih (i+1) (by omega) (by omega))
theorem Ac {α:Type} {xs:List α} {i:Nat} {d:α} (h:i<xs.length):xs.getD i d=xs[i]:=by
 simp [List.getD,h]
end Go.Proofs.YtaedipailemlcaaGreat.Core

namespace Go.Proofs.YtaedipailemlcaaGreat.Core
open Go
set_option linter.unusedVariables false
theorem Ag (a b c:Int):AO a b c=some (decide (b≤a)&&decide (a≤c)):=jC (by
 unfold Xy
 by_cases h:b≤a<;>simp [h])
theorem Bx (a b c:Int):Ak a b c=some (decide (b≤a)&&decide (a≤c)):=fQ (by
 unfold Ub
 by_cases h:b≤a<;>simp [h])
end Go.Proofs.YtaedipailemlcaaGreat.Core

namespace Go.Proofs.YtaedipailemlcaaGreat.Core
open Go
set_option linter.unusedVariables false
def LN (x:List (ByteArray×ByteArray×Int)) (k:ByteArray):ByteArray×ByteArray×Int :=
 (x.find? fun a=>a.1.toList==k.toList).getD (ByteArray.empty,ByteArray.empty,0)
theorem Bd {α:Type} {x:List α} {i:Nat} (h:i<x.length):x.drop i=x[i]::x.drop (i+1):=List.drop_eq_getElem_cons h
theorem RL (x k) (h:x.length≤maxLen):Lb x k=some (LN x k):=gf (by
 have hm:x.length≤9223372036854775807:=h
 unfold V0
 exact G2 (n:=x.length) (P:=fun i=>∀ z,HM x k (i:Int) z=some (LN (x.drop i) k)) (fun z=>Q3 (by
  unfold K8
  rw [if_neg (by simp),List.drop_length]
  rfl)) (fun i hi ih z=>Q3 (by
  unfold K8
  simp only [show ((i:Int)<(x.length:Int)) from by omega,decide_true,if_true,show (0:Int)≤(i:Int) from by omega,Int.toNat_natCast,Ac hi,AR (show i<9223372036854775807 by omega)]
  rw [Bd hi]
  by_cases hk:(x[i].1.toList==k.toList)=true
  ·rw [if_pos hk]
   unfold LN
   rw [List.find?_cons,hk]
   rfl
  ·rw [if_neg hk,ih]
   unfold LN
   rw [List.find?_cons,Bool.eq_false_iff.2 hk])) 0 (by omega) _)
theorem aX (x k) (h:x.length≤maxLen):La x k=some (LN x k):=gY (by
 have hm:x.length≤9223372036854775807:=h
 unfold Vx
 exact G2 (n:=x.length) (P:=fun i=>∀ z,HF k x (x.length:Int) (i:Int) z=some (LN (x.drop i) k)) (fun z=>Qm (by
  unfold Kz
  rw [if_neg (by simp),List.drop_length]
  rfl)) (fun i hi ih z=>Qm (by
  unfold Kz
  simp only [show ((i:Int)<(x.length:Int)) from by omega,decide_true,if_true,show (0:Int)≤(i:Int) from by omega,Int.toNat_natCast,Ac hi,AR (show i<9223372036854775807 by omega)]
  rw [Bd hi]
  by_cases hk:(x[i].1.toList==k.toList)=true
  ·rw [if_pos hk]
   unfold LN
   rw [List.find?_cons,hk]
   rfl
  ·rw [if_neg hk,ih]
   unfold LN
   rw [List.find?_cons,Bool.eq_false_iff.2 hk])) 0 (by omega) _)
end Go.Proofs.YtaedipailemlcaaGreat.Core

namespace Go.Proofs.YtaedipailemlcaaGreat.Core
open Go
set_option linter.unusedVariables false
theorem dB k:M4 k=some (decide (1≤(k.size:Int))&&decide ((k.size:Int)≤12)):=jG (by simp [YH,Bx])
theorem LO n:GB n=some (decide (1≤n)&&decide (n≤6)):=ge (by simp [Vz,Bx])
def mR (v:ByteArray):Bool:=v.toList==(⟨#[]⟩:ByteArray).toList
theorem kf (v:ByteArray):(v.toList==(⟨#[]⟩:ByteArray).toList)=mR v:=rfl
def iF (op:Int) (k v:ByteArray):Bool :=
 (decide (op=1)||decide (op=2))&&(decide (1≤(k.size:Int))&&decide ((k.size:Int)≤12))&&decide ((v.size:Int)≤20)&&(decide (op=1)||mR v)
def RM (x:Int×Int×Int×Int×ByteArray×ByteArray):Bool :=
 decide (1≤x.1)&&decide (x.1≤6)&&(decide (1≤x.2.1)&&decide (x.2.1≤6))&&decide (0≤x.2.2.1) &&
  (if x.1=1 then iF x.2.2.2.1 x.2.2.2.2.1 x.2.2.2.2.2 else decide (x.2.2.2.1=0)&&mR x.2.2.2.2.1&&mR x.2.2.2.2.2)
theorem Yg x:NY x=some (RM x):=fb (by
 have w:∀ b,KD b x=some (if x.1=1 then iF x.2.2.2.1 x.2.2.2.2.1 x.2.2.2.2.2 else decide (x.2.2.2.1=0)&&mR x.2.2.2.2.1&&mR x.2.2.2.2.2):=fun b=>YT (by
  unfold Pb iF
  simp only [kf]
  by_cases h:x.1=1
  ·simp only [Ag,Option.bind_some]
   by_cases g1:x.2.2.2.1=1
   ·by_cases h2:1≤(x.2.2.2.2.1.size:Int)<;>by_cases h3:(x.2.2.2.2.1.size:Int)≤12<;>by_cases h4:(x.2.2.2.2.2.size:Int)≤20<;>simp [h,g1,h2,h3,h4]
   ·by_cases g2:x.2.2.2.1=2
    ·by_cases h2:1≤(x.2.2.2.2.1.size:Int)<;>by_cases h3:(x.2.2.2.2.1.size:Int)≤12<;>by_cases h4:(x.2.2.2.2.2.size:Int)≤20<;>simp [h,g2,h2,h3,h4]
    ·simp [h,g1,g2]
  ·by_cases h2:x.2.2.2.1=0<;>rcases Bool.eq_false_or_eq_true (mR x.2.2.2.2.1) with h3 | h3<;>simp [h,h2,h3])
 unfold Us RM
 simp only [Ag,Option.bind_some,w]
 by_cases h1:1≤x.1<;>by_cases h2:x.1≤6<;>by_cases h3:1≤x.2.1<;>by_cases h4:x.2.1≤6<;>by_cases h5:0≤x.2.2.1<;>simp [h1,h2,h3,h4,h5]<;>omega)
end Go.Proofs.YtaedipailemlcaaGreat.Core

namespace Go.Proofs.YtaedipailemlcaaGreat.Core
open Go
set_option linter.unusedVariables false
def Pi (a:ByteArray×ByteArray×Int):Bool:=(decide (1≤(a.1.size:Int))&&decide ((a.1.size:Int)≤12))&&decide ((a.2.1.size:Int)≤20)&&(decide (1≤a.2.2)&&decide (a.2.2≤1000000000))
def Be (x:List (ByteArray×ByteArray×Int)) (i:Nat):Nat→Bool
 | 0=>decide ((x.length:Int)≤12)
 | k+1=>Pi (x.getD i (ByteArray.empty,ByteArray.empty,0))&&(decide (i=0)||Op.bytesLess (x.getD (i-1) (ByteArray.empty,ByteArray.empty,0)).1.toList (x.getD i (ByteArray.empty,ByteArray.empty,0)).1.toList)&&Be x (i+1) k
theorem qV (n:Int):decide (n>20)=!decide (n≤20):=by
 by_cases h:n≤20<;>simp [h]
 omega
theorem VS {i:Nat} (h:i<9223372036854775807) (h0:0<i):IntKind.i64.wrap ((i:Int)-1)=((i-1:Nat):Int):=by
 rw [AW (by omega)]
 omega
theorem Gk (x) (h:x.length≤maxLen):Ca x=some (Be x 0 x.length):=fS (by
 have hm:x.length≤9223372036854775807:=h
 unfold Ug
 have:=G2 (n:=x.length) (P:=fun i=>Ep x (i:Int)=some (Be x i (x.length-i))) (PM (by
  unfold Jr
  rw [if_neg (by simp),Nat.sub_self]
  rfl)) (fun i hi ih=>PM (by
  unfold Jr
  have e:x.length-i=(x.length-(i+1))+1:=by omega
  simp only [show ((i:Int)<(x.length:Int)) from by omega,decide_true,if_true,show (0:Int)≤(i:Int) from by omega,Int.toNat_natCast,AR (show i<9223372036854775807 by omega),ih,Ag,Option.bind_some,qV]
  rw [e,Be,Pi]
  generalize (decide (1≤((x.getD i (ByteArray.empty,ByteArray.empty,0)).1.size:Int))&&decide (((x.getD i (ByteArray.empty,ByteArray.empty,0)).1.size:Int)≤12))=a
  generalize decide (((x.getD i (ByteArray.empty,ByteArray.empty,0)).2.1.size:Int)≤20)=b
  generalize (decide (1≤(x.getD i (ByteArray.empty,ByteArray.empty,0)).2.2)&&decide ((x.getD i (ByteArray.empty,ByteArray.empty,0)).2.2≤1000000000))=c
  cases a
  ·simp
  cases b
  ·simp
  cases c
  ·simp
  by_cases h0:0<i
  ·rw [VS (by omega) h0]
   simp only [Int.toNat_natCast,show ((0:Int)≤((i-1:Nat):Int)) from by omega,show (((i-1:Nat):Int)<(x.length:Int)) from by omega,if_true]
   rcases Bool.eq_false_or_eq_true (Op.bytesLess (x.getD (i-1) (ByteArray.empty,ByteArray.empty,0)).1.toList (x.getD i (ByteArray.empty,ByteArray.empty,0)).1.toList) with hb | hb<;>simp only [hb]<;>simp [h0,show i≠0 by omega]
  ·have:i=0:=by omega
   subst this
   simp)) 0 (by omega)
 simpa using this)
theorem KJ (x) (h:x.length≤maxLen) (hl:∀ a b:List UInt8,(Op.bytesLess a b||a==b)=!Op.bytesLess b a):EE x=some (Be x 0 x.length):=fR (by
 have hm:x.length≤9223372036854775807:=h
 unfold Ue
 have:=G2 (n:=x.length) (P:=fun i=>Eo x x (x.length:Int) (i:Int)=some (Be x i (x.length-i))) (PL (by
  unfold Jq
  rw [if_neg (by simp),Nat.sub_self]
  rfl)) (fun i hi ih=>PL (by
  unfold Jq
  have e:x.length-i=(x.length-(i+1))+1:=by omega
  simp only [show ((i:Int)<(x.length:Int)) from by omega,decide_true,if_true,show (0:Int)≤(i:Int) from by omega,Int.toNat_natCast,AR (show i<9223372036854775807 by omega),ih,Bx,dB,Option.bind_some,qV,hl]
  rw [e,Be,Pi]
  generalize (decide (1≤((x.getD i (ByteArray.empty,ByteArray.empty,0)).1.size:Int))&&decide (((x.getD i (ByteArray.empty,ByteArray.empty,0)).1.size:Int)≤12))=a
  generalize decide (((x.getD i (ByteArray.empty,ByteArray.empty,0)).2.1.size:Int)≤20)=b
  generalize (decide (1≤(x.getD i (ByteArray.empty,ByteArray.empty,0)).2.2)&&decide ((x.getD i (ByteArray.empty,ByteArray.empty,0)).2.2≤1000000000))=c
  cases a
  ·simp
  cases b
  ·simp
  cases c
  ·simp
  by_cases h0:0<i
  ·rw [VS (by omega) h0]
   simp only [Int.toNat_natCast,show ((0:Int)≤((i-1:Nat):Int)) from by omega,show (((i-1:Nat):Int)<(x.length:Int)) from by omega,if_true]
   rcases Bool.eq_false_or_eq_true (Op.bytesLess (x.getD (i-1) (ByteArray.empty,ByteArray.empty,0)).1.toList (x.getD i (ByteArray.empty,ByteArray.empty,0)).1.toList) with hb | hb<;>simp only [hb]<;>simp [h0,show i≠0 by omega]
  ·have:i=0:=by omega
   subst this
   simp)) 0 (by omega)
 simpa using this)
theorem Pj:∀ a b:List UInt8,(Op.bytesLess a b||a==b)=!Op.bytesLess b a
 | [],[]=>rfl
 | [],_::_=>rfl
 | _::_,[]=>rfl
 | a::l,b::m=>by
  have ih:=Pj l m
  simp only [Op.bytesLess]
  by_cases h1:a<b
  ·have h2:¬ b<a:=by exact UInt8.not_lt.2 (UInt8.le_of_lt h1)
   have h3:¬ b=a:=fun h=>by subst h; exact absurd h1 (UInt8.lt_irrefl _)
   simp [h1,h2,h3]
  ·by_cases h2:b<a
   ·have h3:¬ a=b:=fun h=>by subst h; exact absurd h2 (UInt8.lt_irrefl _)
    simp [h1,h2,h3]
   ·have h3:a=b:=UInt8.le_antisymm (UInt8.not_lt.1 h2) (UInt8.not_lt.1 h1)
    subst h3
    simpa [h1] using ih
end Go.Proofs.YtaedipailemlcaaGreat.Core

namespace Go.Proofs.YtaedipailemlcaaGreat.Core
open Go
set_option linter.unusedVariables false
abbrev AX:Type:=ByteArray×ByteArray×Int
abbrev fm:AX:=(ByteArray.empty,ByteArray.empty,(0:Int))
theorem iG:∀ a:List UInt8,Op.bytesLess a a=false
 | []=>rfl
 | a::l=>by simp [Op.bytesLess,iG l,UInt8.lt_irrefl]
theorem Yh:∀ {a b c:List UInt8},Op.bytesLess a b=true→Op.bytesLess b c=true→Op.bytesLess a c=true
 | _,[],_,h,_=>by cases ‹List UInt8› <;> simp [Op.bytesLess] at h
 | _,_::_,[],_,h=>by simp [Op.bytesLess] at h
 | [],_::_,_::_,_,_=>rfl
 | a::x,b::y,c::z,h,g=>by
  simp only [Op.bytesLess,Bool.or_eq_true,decide_eq_true_eq,Bool.and_eq_true,beq_iff_eq] at h g ⊢
  rcases h with h | ⟨rfl,h⟩
  ·rcases g with g | ⟨rfl,g⟩
   ·exact .inl (UInt8.lt_trans h g)
   ·exact .inl h
  ·rcases g with g | ⟨rfl,g⟩
   ·exact .inl g
   ·exact .inr ⟨rfl,Yh h g⟩
theorem fo:∀ a b:List UInt8,decide (Lib.compareBytes a b<0)=Op.bytesLess a b∧(Lib.compareBytes a b==0)=(a==b)
 | [],[]=>⟨rfl,rfl⟩
 | [],_::_=>⟨rfl,rfl⟩
 | _::_,[]=>⟨rfl,rfl⟩
 | a::l,b::m=>by
  have ih:=fo l m
  simp only [Lib.compareBytes,Op.bytesLess]
  by_cases h1:a<b
  ·have h3:¬ a=b:=fun h=>by subst h; exact absurd h1 (UInt8.lt_irrefl _)
   simp [h1,h3]
  ·by_cases h2:b<a
   ·have h3:¬ a=b:=fun h=>by subst h; exact absurd h2 (UInt8.lt_irrefl _)
    simp [h1,h2,h3]
   ·have h3:a=b:=UInt8.le_antisymm (UInt8.not_lt.1 h2) (UInt8.not_lt.1 h1)
    subst h3
    simpa [h1] using ih
theorem Mt (a:AX) (k:ByteArray):HE a k=some (Lib.compareBytes a.1.toList k.toList):=aQ (by
 unfold RG
 rw [Xl,ByteArray.toList_eq,ByteArray.toList_eq]
 rfl)
def RN (x:List AX) (i:Nat) (k:ByteArray):Bool:=match x[i]? with
 | some b=>b.1.toList==k.toList
 | none=>false
def U6 (k:ByteArray) (b:AX):Bool:=Op.bytesLess b.1.toList k.toList
def Pk (x:List AX):Prop:=∀ a b (ha:a<x.length) (hb:b<x.length),a<b→Op.bytesLess x[a].1.toList x[b].1.toList=true
def bN (x:List AX) (k:ByteArray) (i j:Nat):Prop:=∀ a (ha:a<x.length),(a<i→U6 k x[a]=true)∧(j≤a→U6 k x[a]=false)
theorem p8 {i j:Nat} (h:i+j≤137438953472):IntKind.i64.wrap (Int.fdiv (IntKind.u64.wrap (IntKind.i64.wrap ((i:Int)+(j:Int)))) (2^(min (1:Int).toNat (IntKind.bits .u64))))=(((i+j) / 2:Nat):Int):=by
 have e1:IntKind.i64.wrap ((i:Int)+(j:Int))=((i+j:Nat):Int):=by rw [AW (by omega)]; omega
 have e2:IntKind.u64.wrap ((i+j:Nat):Int)=((i+j:Nat):Int):=by
  simp only [IntKind.wrap,IntKind.bits,IntKind.signed]
  simp
  omega
 have e3:(2:Int)^(min (1:Int).toNat (IntKind.bits .u64))=2:=by decide
 rw [e1,e2,e3,Int.fdiv_eq_ediv_of_nonneg _ (by omega)]
 rw [AW (by omega)]
 omega
theorem j4 (x:List AX) (k:ByteArray) (hx:x.length≤68719476736):∀ (m i j:Nat),j-i≤m→i≤j→j≤x.length →
  ∃ r:Nat,i≤r∧r≤j∧AI x k (x.length:Int) (i:Int) (j:Int)=some ((r:Int),RN x r k)∧(Pk x→bN x k i j→bN x k r r):=by
 intro m
 induction m with
 | zero =>
  intro i j hm hij hj
  have:i=j:=by omega
  subst this
  refine ⟨i,Nat.le_refl _,Nat.le_refl _,Bl ?_,fun _ h=>h⟩
  unfold As
  rw [if_neg (by simp)]
  refine DP ?_
  unfold Bk RN
  by_cases h:i<x.length
  ·simp only [show ((i:Int)<(x.length:Int)) from by omega,decide_true,if_true,show (0:Int)≤(i:Int) from by omega,Int.toNat_natCast,Ac h,Mt,Option.bind_some,(fo _ _).2,List.getElem?_eq_getElem h]
  ·rw [if_neg (by simp; omega),List.getElem?_eq_none (by omega)]
 | succ m ih =>
  intro i j hm hij hj
  by_cases hlt:i<j
  ·have hmid:i≤(i+j) / 2∧(i+j) / 2<j:=by omega
   generalize hh:(i+j) / 2=h at hmid
   have hb:h<x.length:=by omega
   have step:∀ r,(if U6 k x[h]=true then AI x k (x.length:Int) ((h+1:Nat):Int) (j:Int) else AI x k (x.length:Int) (i:Int) (h:Int))=some r→AI x k (x.length:Int) (i:Int) (j:Int)=some r:=fun r hr=>Bl (by
    unfold As
    simp only [show ((i:Int)<(j:Int)) from by omega,decide_true,if_true,p8 (show i+j≤137438953472 by omega),hh,show ¬ ((1:Int)<0) from by decide,if_false,show ((0:Int)≤(h:Int)) from by omega,show ((h:Int)<(x.length:Int)) from by omega,Int.toNat_natCast,Ac hb,Mt,Option.bind_some,(fo _ _).1,AR (show h<9223372036854775807 by omega)]
    exact hr)
   cases hl:U6 k x[h] with
   | true =>
    obtain ⟨r,h1,h2,h3,h4⟩:=ih (h+1) j (by omega) (by omega) hj
    refine ⟨r,by omega,h2,step _ (by rw [hl]; exact h3),fun ho hc=>h4 ho fun a ha=>⟨fun hlt=>?_,(hc a ha).2⟩⟩
    by_cases e:a=h
    ·subst e; exact hl
    ·exact Yh (ho a h ha hb (by omega)) hl
   | false =>
    obtain ⟨r,h1,h2,h3,h4⟩:=ih i h (by omega) hmid.1 (by omega)
    refine ⟨r,h1,by omega,step _ (by rw [hl]; exact h3),fun ho hc=>h4 ho fun a ha=>⟨(hc a ha).1,fun hle=>?_⟩⟩
    by_cases e:a=h
    ·subst e; exact hl
    ·cases q:U6 k x[a] with
     | false=>rfl
     | true =>
      have:=Yh (ho h a hb ha (by omega)) q
      rw [show Op.bytesLess x[h].1.toList k.toList=false from hl] at this
      cases this
  ·have:i=j:=by omega
   subst this
   exact ih i i (by omega) (Nat.le_refl _) hj
theorem mS (x:List AX) (k:ByteArray) (hx:x.length≤68719476736):∃ r:Nat,r≤x.length∧Az x k ()=some ((r:Int),RN x r k)∧(Pk x→bN x k r r):=by
 obtain ⟨r,_,h2,h3,h4⟩:=j4 x k hx x.length 0 x.length (by omega) (by omega) (Nat.le_refl _)
 refine ⟨r,h2,Du (by unfold Bw; exact h3),fun ho=>h4 ho fun a ha=>⟨fun h=>by omega,fun h=>by omega⟩⟩
theorem U7 {x:List AX}:∀ (m i:Nat),Be x i m=true→∀ a,i≤a→a<i+m→a≠0→Op.bytesLess (x.getD (a-1) fm).1.toList (x.getD a fm).1.toList=true
 | 0,i,_,a,h1,h2,_=>by omega
 | m+1,i,h,a,h1,h2,h0=>by
  simp only [Be,Bool.and_eq_true,Bool.or_eq_true,decide_eq_true_eq] at h
  obtain ⟨⟨_,h3⟩,h4⟩:=h
  by_cases e:a=i
  ·subst e
   exact h3.resolve_left h0
  ·exact U7 m (i+1) h4 a (by omega) (by omega) h0
theorem U8 {x:List AX} (h:Be x 0 x.length=true):Pk x:=by
 have st:=U7 _ _ h
 have:∀ d a (ha:a+d+1<x.length),Op.bytesLess (x.getD a fm).1.toList (x.getD (a+d+1) fm).1.toList=true:=by
  intro d
  induction d with
  | zero=>intro a ha; exact st (a+1) (by omega) (by omega) (by omega)
  | succ d ih =>
   intro a ha
   exact Yh (ih a (by omega)) (st (a+(d+1)+1) (by omega) (by omega) (by omega))
 intro a b ha hb hab
 have:=this (b-a-1) a (by omega)
 rw [show a+(b-a-1)+1=b by omega,Ac ha,Ac hb] at this
 exact this
theorem j5 {x:List AX} {k:ByteArray} {r:Nat} (hr:r≤x.length) (h:bN x k r r):x.take r=x.filter (U6 k)∧x.drop r=x.filter (fun b=>!U6 k b):=by
 have e1:(x.take r).filter (U6 k)=x.take r:=List.filter_eq_self.2 fun b hb=>by
  obtain ⟨a,ha,rfl⟩:=List.getElem_of_mem hb
  rw [List.length_take] at ha
  rw [List.getElem_take]
  exact (h a (by omega)).1 (by omega)
 have e2:(x.drop r).filter (U6 k)=[]:=List.filter_eq_nil_iff.2 fun b hb=>by
  obtain ⟨a,ha,rfl⟩:=List.getElem_of_mem hb
  rw [List.length_drop] at ha
  rw [List.getElem_drop]
  have:=(h (r+a) (by omega)).2 (by omega)
  simp [this]
 have e3:(x.take r).filter (fun b=>!U6 k b)=[]:=List.filter_eq_nil_iff.2 fun b hb=>by
  obtain ⟨a,ha,rfl⟩:=List.getElem_of_mem hb
  rw [List.length_take] at ha
  rw [List.getElem_take]
  have:=(h a (by omega)).1 (by omega)
  simp [this]
 have e4:(x.drop r).filter (fun b=>!U6 k b)=x.drop r:=List.filter_eq_self.2 fun b hb=>by
  obtain ⟨a,ha,rfl⟩:=List.getElem_of_mem hb
  rw [List.length_drop] at ha
  rw [List.getElem_drop]
  have:=(h (r+a) (by omega)).2 (by omega)
  simp [this]
 have f1:x.filter (U6 k)=(x.take r).filter (U6 k)++(x.drop r).filter (U6 k):=by rw [← List.filter_append,List.take_append_drop]
 have f2:x.filter (fun b=>!U6 k b)=(x.take r).filter (fun b=>!U6 k b)++(x.drop r).filter (fun b=>!U6 k b):=by rw [← List.filter_append,List.take_append_drop]
 rw [f1,f2,e1,e2,e3,e4]
 simp
theorem kg {x:List AX} {k:ByteArray} {r:Nat} (ho:Pk x) (h:bN x k r r) (j:Nat) (hj:j<x.length) (e:x[j].1.toList=k.toList):j=r:=by
 rcases Nat.lt_trichotomy j r with g | g | g
 ·have:=(h j hj).1 g
  simp only [U6,e,iG] at this
  cases this
 ·exact g
 ·have h1:=ho r j (by omega) hj g
  have h2:=(h r (by omega)).2 (Nat.le_refl _)
  rw [e] at h1
  rw [show U6 k x[r]=true from h1] at h2
  cases h2
def Yi (x:List AX) (a:AX):Bool:=x.any fun b=>(b.1.toList==a.1.toList)&&decide (b.2.2≥a.2.2)
def SC (k:ByteArray) (b:AX):Bool:=!(Op.bytesLess b.1.toList k.toList||(b.1.toList==k.toList))
def fp (x:List AX) (a:AX):List AX:=x.filter (U6 a.1)++[a]++x.filter (SC a.1)
def BA (x:List AX):Bool:=Be x 0 x.length
def Ey (x:List AX) (a:AX):List AX:=if Yi x a=true then x else if BA x=true then (if BA (fp x a)=true then fp x a else x) else x
theorem kh {x:List AX} {k:ByteArray} {r:Nat} (hr:r≤x.length) (h:bN x k r r):x.filter (SC k)=(x.drop r).filter fun b=>!(b.1.toList==k.toList):=by
 rw [(j5 hr h).2,List.filter_filter]
 congr 1
 funext b
 simp only [SC,U6,Bool.not_or]
 exact Bool.and_comm _ _
theorem Gl (x:List AX) (a:AX) (hx:x.length≤34359738367):FS x a=some (Ey x a):=fU (by
 have J4:∀ same out:List AX,out.length≤maxLen→Jt x a same out=some (if BA x=true then (if BA out=true then out else same) else same):=fun same out ho=>X9 (by
  unfold PP BA
  rw [Gk x (by unfold maxLen; omega),Gk out ho]
  cases Be x 0 x.length<;>cases Be out 0 out.length<;>simp)
 have L3:∀ same out:List AX,out.length≤x.length+1→DS x ((0:Nat):Int) a same out=some (if BA x=true then (if BA (out++(x.drop 0).filter (SC a.1))=true then out++(x.drop 0).filter (SC a.1) else same) else same):=by
  intro same out ho
  refine G2 (n:=x.length) (P:=fun i=>∀ out:List AX,out.length≤x.length+1+i→DS x (i:Int) a same out=some (if BA x=true then (if BA (out++(x.drop i).filter (SC a.1))=true then out++(x.drop i).filter (SC a.1) else same) else same)) (fun out ho=>PR ?_) (fun i hi ih out ho=>PR ?_) 0 (by omega) out ho
  ·unfold Jv
   rw [if_neg (by simp),J4 same out (by unfold maxLen; omega)]
   simp
  ·unfold Jv
   simp only [show ((i:Int)<(x.length:Int)) from by omega,decide_true,if_true,show (0:Int)≤(i:Int) from by omega,Int.toNat_natCast,Ac hi,AR (show i<9223372036854775807 by omega)]
   rw [Bd hi,List.filter_cons]
   change (if SC a.1 x[i]=true then _ else _)=_
   by_cases hh:SC a.1 x[i]=true
   ·rw [if_pos hh,if_pos (by simp; omega),ih _ (by simp; omega),if_pos hh,List.append_assoc]
    rfl
   ·rw [if_neg hh,ih _ (by omega),if_neg hh]
 have J2:∀ same out:List AX,out.length≤x.length→Ju x a same out=some (if BA x=true then (if BA (out++[a]++x.filter (SC a.1))=true then out++[a]++x.filter (SC a.1) else same) else same):=fun same out ho=>X_ (by
  unfold PQ
  rw [if_pos (by simp; omega)]
  have:=L3 same (out++[a]) (by simp; omega)
  simpa using this)
 have L0:∀ same:List AX,DU x ((0:Nat):Int) a same []=some (if Yi (x.drop 0) a=true then same else if BA x=true then (if BA (([]++(x.drop 0).filter (U6 a.1))++[a]++x.filter (SC a.1))=true then ([]++(x.drop 0).filter (U6 a.1))++[a]++x.filter (SC a.1) else same) else same):=by
  intro same
  refine G2 (n:=x.length) (P:=fun i=>∀ out:List AX,out.length≤i→DU x (i:Int) a same out=some (if Yi (x.drop i) a=true then same else if BA x=true then (if BA ((out++(x.drop i).filter (U6 a.1))++[a]++x.filter (SC a.1))=true then (out++(x.drop i).filter (U6 a.1))++[a]++x.filter (SC a.1) else same) else same)) (fun out ho=>PS ?_) (fun i hi ih out ho=>PS ?_) 0 (by omega) [] (by simp)
  ·unfold Jw
   rw [if_neg (by simp),J2 same out ho]
   simp [Yi]
  ·unfold Jw
   simp only [show ((i:Int)<(x.length:Int)) from by omega,decide_true,if_true,show (0:Int)≤(i:Int) from by omega,Int.toNat_natCast,Ac hi]
   have J1:∀ out:List AX,out.length≤i+1→GY x (i:Int) a same out=some (if Yi (x.drop i) a=true then same else if BA x=true then (if BA ((out++(x.drop (i+1)).filter (U6 a.1))++[a]++x.filter (SC a.1))=true then (out++(x.drop (i+1)).filter (U6 a.1))++[a]++x.filter (SC a.1) else same) else same):=fun out ho=>X8 (by
    unfold PO
    simp only [show ((i:Int)<(x.length:Int)) from by omega,decide_true,if_true,show (0:Int)≤(i:Int) from by omega,Int.toNat_natCast,Ac hi,AR (show i<9223372036854775807 by omega),ih out ho]
    rw [Bd hi]
    rw [show Yi (x[i]::x.drop (i+1)) a=(((x[i].1.toList==a.1.toList)&&decide (x[i].2.2≥a.2.2))||Yi (x.drop (i+1)) a) from List.any_cons]
    generalize (x[i].1.toList==a.1.toList)=p
    generalize decide (x[i].2.2≥a.2.2)=q
    cases p<;>cases q<;>simp)
   rw [Bd hi,List.filter_cons]
   change (if U6 a.1 x[i]=true then _ else _)=_
   rw [Bd hi] at J1
   by_cases hh:U6 a.1 x[i]=true
   ·rw [if_pos hh,if_pos (by simp; omega),J1 _ (by simp; omega),if_pos hh]
    simp only [List.append_assoc,List.cons_append,List.nil_append]
   ·rw [if_neg hh,J1 _ (by omega),if_neg hh]
 unfold Uj
 rw [if_pos (by simp; omega)]
 have:=L0 ([]++x)
 simpa [Ey,fp] using this)
theorem ne {x:List AX} {a:AX} {r:Nat} (hr:r≤x.length) (ho:Pk x) (h:bN x a.1 r r):Yi x a=(RN x r a.1&&decide ((x.getD r fm).2.2≥a.2.2)):=by
 unfold Yi RN
 by_cases hl:r<x.length
 ·rw [List.getElem?_eq_getElem hl,Ac hl]
  rw [Bool.eq_iff_iff,List.any_eq_true]
  simp only [Bool.and_eq_true,beq_iff_eq,decide_eq_true_eq]
  refine ⟨fun ⟨b,hb,e,hv⟩=>?_,fun ⟨e,hv⟩=>⟨_,List.getElem_mem hl,e,hv⟩⟩
  obtain ⟨j,hj,rfl⟩:=List.getElem_of_mem hb
  have:=kg ho h j hj e
  subst this
  exact ⟨e,hv⟩
 ·rw [List.getElem?_eq_none (by omega),Bool.false_and,List.any_eq_false]
  intro b hb
  obtain ⟨j,hj,rfl⟩:=List.getElem_of_mem hb
  intro hc
  simp only [Bool.and_eq_true,beq_iff_eq] at hc
  have:=kg ho h j hj hc.1
  omega
theorem pC {x:List AX} {a:AX} {r:Nat} (hr:r≤x.length) (ho:Pk x) (h:bN x a.1 r r):fp x a=if RN x r a.1=true then x.set r a else x.take r++[a]++x.drop r:=by
 unfold fp
 rw [kh hr h,← (j5 hr h).1]
 have hk:∀ (j:Nat) (hj:j<x.length),j≠r→(x[j].1.toList==a.1.toList)=false:=fun j hj hne=>by
  cases q:(x[j].1.toList==a.1.toList) with
  | false=>rfl
  | true=>exact absurd (kg ho h j hj (by simpa using q)) hne
 have tail:(x.drop (r+1)).filter (fun b=>!(b.1.toList==a.1.toList))=x.drop (r+1):=List.filter_eq_self.2 fun b hb=>by
  obtain ⟨j,hj,rfl⟩:=List.getElem_of_mem hb
  rw [List.length_drop] at hj
  rw [List.getElem_drop,hk (r+1+j) (by omega) (by omega)]
  rfl
 by_cases hl:r<x.length
 ·rw [Bd hl,List.filter_cons,tail]
  unfold RN
  rw [List.getElem?_eq_getElem hl]
  cases q:(x[r].1.toList==a.1.toList) with
  | true=>simp [q,List.set_eq_take_append_cons_drop,hl]
  | false=>simp [q]
 ·have:x.drop r=[]:=List.drop_eq_nil_of_le (by omega)
  rw [this]
  unfold RN
  rw [List.getElem?_eq_none (by omega)]
  simp
theorem Pl (x:List AX) (a:AX) (hx:x.length≤34359738367):Jf x a=some (Ey x a):=fY (by
 obtain ⟨r,hr,hs,hc⟩:=mS x a.1 (by omega)
 have ok:∀ y:List AX,y.length≤68719476736→EE y=some (BA y):=fun y hy=>KJ y (by unfold maxLen; omega) Pj
 have J1:∀ y:List AX,y.length≤68719476736→Gb x a y=some (if BA y=true then y else x):=fun y hy=>YI (by
  unfold PX
  rw [ok y hy,Ao (by omega)]
  cases BA y<;>simp)
 have hl:RN x r a.1=true→r<x.length:=fun h=>by
  by_cases hl:r<x.length
  ·exact hl
  ·unfold RN at h
   rw [List.getElem?_eq_none (by omega)] at h
   cases h
 have J0:∀ b,BA x=true→Gc x (r:Int) (RN x r a.1) b a x=some (if BA (fp x a)=true then fp x a else x):=fun b hok=>YJ (by
  unfold PY
  rw [pC hr (U8 hok) (hc (U8 hok))]
  cases hh:RN x r a.1 with
  | true =>
   have:=hl hh
   simp only [if_true,show (0:Int)≤(r:Int) from by omega,show ((r:Int)<(x.length:Int)) from by omega,Int.toNat_natCast]
   rw [J1 _ (by simp; omega)]
  | false =>
   rw [if_neg (by simp),Hl (by simp; omega) hr (by simp),Option.bind_some,J1 _ (by simp; omega)]
   simp)
 unfold Up
 rw [Ao (by omega),Option.bind_some,hs,Option.bind_some,ok x (by omega),Option.bind_some]
 cases hok:BA x with
 | false=>simp [Ey,hok]
 | true =>
  have hst:=ne hr (U8 hok) (hc (U8 hok))
  have j0:=J0
  unfold Ey
  rw [hst,hok]
  cases hh:RN x r a.1 with
  | false =>
   have:=J0 false hok
   rw [hh] at this
   simp [this]
  | true =>
   have hlr:=hl hh
   have:=J0 false hok
   rw [hh] at this
   simp only [if_true,show (0:Int)≤(r:Int) from by omega,show ((r:Int)<(x.length:Int)) from by omega,Int.toNat_natCast,Bool.true_and]
   cases q:decide ((x.getD r fm).2.2≥a.2.2) with
   | true=>simp
   | false=>simp [this])
end Go.Proofs.YtaedipailemlcaaGreat.Core

namespace Go.Proofs.YtaedipailemlcaaGreat.Core
open Go
set_option linter.unusedVariables false
abbrev E9:Type:=List Int×Int×Int
def ID (d:E9):Prop:=0≤d.2.1∧d.1.length≤maxLen
theorem bO (a:Int):0≤I2 .i64 a 255∧I2 .i64 a 255≤255:=by
 unfold I2
 have h:(BitVec.ofInt (IntKind.bits .i64) a &&& BitVec.ofInt (IntKind.bits .i64) 255).toNat≤255:=by
  rw [BitVec.toNat_and]
  refine Nat.le_trans Nat.and_le_right ?_
  decide
 rw [AW (by omega)]
 omega
theorem Ez (d:E9) (h:ID d):∃ b d',EF d=some (b,d')∧ID d'∧0≤b∧b≤255:=by
 have hm:d.1.length≤9223372036854775807:=h.2
 have hp:=h.1
 suffices g:∃ b d',Nr d=some (b,d')∧ID d'∧0≤b∧b≤255 from g.imp fun b g=>g.imp fun d' g=>⟨fV g.1,g.2⟩
 unfold Nr
 rw [if_neg (by omega),if_neg (by omega)]
 by_cases h1:d.2.1<(d.1.length:Int)
 ·rw [if_pos (by simpa using h1),if_pos hp,if_pos h1]
  refine ⟨_,_,rfl,⟨?_,h.2⟩,bO _⟩
  show 0≤IntKind.i64.wrap (d.2.1+1)
  rw [AW (by omega)]
  omega
 ·rw [if_neg (by simpa using h1)]
  exact ⟨_,_,rfl,h,bO _⟩
theorem AL (n:Int) (d:E9) (h:ID d):∃ v d',AS n d=some (v,d')∧ID d'∧0≤v∧(0<n→v<n):=by
 suffices g:∃ b d',MS n d=some (b,d')∧ID d'∧0≤b∧(0<n→b<n) from g.imp fun b g=>g.imp fun d' g=>⟨cR g.1,g.2⟩
 unfold MS
 by_cases h1:n≤0
 ·exact ⟨0,d,by rw [if_pos (by simpa using h1)],h,by omega,by omega⟩
 ·rw [if_neg (by simpa using h1)]
  by_cases h2:n≤256
  ·obtain ⟨b,d1,e1,k1,b0,b1⟩:=Ez d h
   refine ⟨_,_,by rw [if_pos (by simpa using h2),e1,Option.bind_some,if_neg (by omega)],k1,Int.tmod_nonneg _ b0,fun _=>Int.tmod_lt_of_pos _ (by omega)⟩
  ·obtain ⟨b1,d1,e1,k1,b10,b11⟩:=Ez d h
   obtain ⟨b2,d2,e2,k2,b20,b21⟩:=Ez d1 k1
   obtain ⟨b3,d3,e3,k3,b30,b31⟩:=Ez d2 k2
   obtain ⟨b4,d4,e4,k4,b40,b41⟩:=Ez d3 k3
   refine ⟨_,_,by rw [if_neg (by simpa using h2),e1,Option.bind_some,e2,Option.bind_some,e3,Option.bind_some,e4,Option.bind_some,if_neg (by omega)],k4,Int.tmod_nonneg _ ?_,fun _=>Int.tmod_lt_of_pos _ (by omega)⟩
   rw [AW (n:=b1*16777216) (by omega),AW (n:=b2*65536) (by omega),AW (n:=b3*256) (by omega),AW (n:=b1*16777216+b2*65536) (by omega),AW (n:=b1*16777216+b2*65536+b3*256) (by omega),AW (by omega)]
   omega
theorem E0 (n:Int) (d:E9) (h:ID d):∃ v d',CA n d=some (v,d')∧ID d':=by
 obtain ⟨v,d',e,k,_⟩:=AL n d h
 exact ⟨_,_,fT (by unfold Ui; rw [e,Option.bind_some]),k⟩
theorem B1 (x:List Int) (hx:0<x.length) (d:E9) (h:ID d):∃ v d',Bv x d=some (v,d')∧ID d'∧v∈x:=by
 obtain ⟨v,d',e,k,v0,v1⟩:=AL (x.length:Int) d h
 have v1:=v1 (by omega)
 have hv:v.toNat<x.length:=by omega
 exact ⟨_,_,YV (by unfold Pd; rw [e,Option.bind_some,if_pos v0,if_pos v1]),k,by rw [Ac hv]; exact List.getElem_mem hv⟩
theorem aY (x:List Int) (h:x.length≤maxLen):∃ d,Ps x=some d∧ID d:=by
 have hm:x.length≤9223372036854775807:=h
 have key:=G2 (n:=x.length) (P:=fun i=>∀ a,∃ d,HG x a (i:Int)=some d∧ID d) (fun a=>⟨(x,0,a),K3 (by
  unfold HH
  rw [if_neg (by simp)]),⟨Int.le_refl _,h⟩⟩) (fun i hi ih a=>by
  by_cases h4:(i:Int)<4000
  ·obtain ⟨d,e,k⟩:=ih (I2 .i64 (IntKind.i64.wrap ((IntKind.i64.wrap ((IntKind.i64.wrap (a*(131:Int)))+(IntKind.i64.wrap (x.getD (i:Int).toNat (0:Int)))))+(7:Int))) (1073741823:Int))
   refine ⟨d,K3 ?_,k⟩
   unfold HH
   rw [if_pos (by simpa using hi),if_pos (by simpa using h4)]
   refine Zj ?_
   unfold Qq
   rw [if_pos (by omega),if_pos (by omega),AR (show i<9223372036854775807 by omega)]
   exact e
  ·refine ⟨(x,0,a),K3 ?_,⟨Int.le_refl _,h⟩⟩
   unfold HH
   rw [if_pos (by simpa using hi),if_neg (by simpa using h4)]) 0 (by omega)
 obtain ⟨d,e,k⟩:=key (IntKind.i64.wrap ((14301:Int)+(x.length:Int)))
 exact ⟨d,ga e,k⟩
end Go.Proofs.YtaedipailemlcaaGreat.Core

namespace Go.Proofs.YtaedipailemlcaaGreat.Core
open Go
set_option linter.unusedVariables false
theorem P4 {x:List AX}:∀ (m i:Nat),i+m=x.length→(Be x i m=true↔(∀ a (ha:a<x.length),i≤a→Pi x[a]=true∧(a≠0→Op.bytesLess (x.getD (a-1) fm).1.toList x[a].1.toList=true))∧x.length≤12)
 | 0,i,h=>by
  simp only [Be,decide_eq_true_eq]
  refine ⟨fun h2=>⟨fun a ha hi=>by omega,by omega⟩,fun h2=>by have:=h2.2; omega⟩
 | m+1,i,h=>by
  have hi:i<x.length:=by omega
  rw [Be,Bool.and_eq_true,Bool.and_eq_true,P4 m (i+1) (by omega),Ac hi]
  simp only [Bool.or_eq_true,decide_eq_true_eq]
  constructor
  ·rintro ⟨⟨h1,h2⟩,h3,h4⟩
   refine ⟨fun a ha hia=>?_,h4⟩
   by_cases e:a=i
   ·subst e
    exact ⟨h1,fun h0=>h2.resolve_left h0⟩
   ·exact h3 a ha (by omega)
  ·rintro ⟨h3,h4⟩
   refine ⟨⟨(h3 i hi (Nat.le_refl _)).1,?_⟩,fun a ha hia=>h3 a ha (by omega),h4⟩
   by_cases e:i=0
   ·exact .inl e
   ·exact .inr ((h3 i hi (Nat.le_refl _)).2 e)
theorem bP {x:List AX}:BA x=true↔(∀ b∈x,Pi b=true)∧Pk x∧x.length≤12:=by
 constructor
 ·intro h
  have h1:=(P4 x.length 0 (by omega)).1 h
  refine ⟨fun b hb=>?_,U8 h,h1.2⟩
  obtain ⟨a,ha,rfl⟩:=List.getElem_of_mem hb
  exact (h1.1 a ha (Nat.zero_le _)).1
 ·rintro ⟨h1,h2,h3⟩
  refine (P4 x.length 0 (by omega)).2 ⟨fun a ha _=>⟨h1 _ (List.getElem_mem ha),fun h0=>?_⟩,h3⟩
  rw [Ac (show a-1<x.length by omega)]
  exact h2 (a-1) a (by omega) ha (by omega)
theorem mT {x:List AX}:Pk x↔x.Pairwise fun b c=>Op.bytesLess b.1.toList c.1.toList=true:=by
 rw [List.pairwise_iff_getElem]
 rfl
theorem ng (x:List AX) (a:AX):(fp x a).length≤x.length+1:=by
 have h1:(x.filter (SC a.1)).length≤(x.filter fun b=>!U6 a.1 b).length:=by
  rw [← List.countP_eq_length_filter,← List.countP_eq_length_filter]
  refine List.countP_mono_left fun b _ hb=>?_
  simp only [SC,U6,Bool.not_eq_true',Bool.or_eq_false_iff] at hb ⊢
  exact hb.1
 have h2:(x.filter (U6 a.1)).length+(x.filter fun b=>!U6 a.1 b).length=x.length:=by
  rw [← List.countP_eq_length_filter,← List.countP_eq_length_filter]
  have:=List.length_eq_countP_add_countP (U6 a.1) (l:=x)
  rw [this]
  congr 2
  funext b
  cases U6 a.1 b<;>rfl
 simp only [fp,List.length_append,List.length_cons,List.length_nil]
 omega
theorem qW {x:List AX} {a b:AX} (h:b∈fp x a):b=a∨b∈x:=by
 simp only [fp,List.mem_append,List.mem_filter,List.mem_singleton] at h
 rcases h with (h | h) | h
 ·exact .inr h.1
 ·exact .inl h
 ·exact .inr h.1
theorem nh (a:AX):Vn (.pair .str (.pair .str (.int .i64))) a a=true:=by simp [Vn]
theorem Tn (x:List AX) (hx:x.length≤maxLen):HD x x=some true:=Zi (by
 have hm:x.length≤9223372036854775807:=hx
 unfold Qn
 rw [if_neg (by simp)]
 exact G2 (n:=x.length) (P:=fun i=>FB x x (i:Int)=some true) (Mj (by
  unfold HX
  rw [if_neg (by simp)])) (fun i hi ih=>Mj (by
  unfold HX
  simp only [show ((i:Int)<(x.length:Int)) from by omega,decide_true,if_true,show (0:Int)≤(i:Int) from by omega,Int.toNat_natCast,Ac hi,AR (show i<9223372036854775807 by omega),ih]
  rw [if_neg (by simp [nh])])) 0 (by omega))
theorem E1 (x:List ByteArray) (hx:0<x.length) (d:E9) (h:ID d):∃ v d',EG x d=some (v,d')∧ID d'∧v∈x:=by
 obtain ⟨v,d',e,k,v0,v1⟩:=AL (x.length:Int) d h
 have v1:=v1 (by omega)
 have hv:v.toNat<x.length:=by omega
 exact ⟨_,_,fg (by unfold U0; rw [e,Option.bind_some,if_pos v0,if_pos v1]),k,by rw [Ac hv]; exact List.getElem_mem hv⟩
theorem KK (d:E9) (h:ID d):∃ a d',Gw d=some (a,d')∧ID d'∧Pi a=true:=by
 obtain ⟨k,d1,e1,k1,m1⟩:=E1 [(⟨#[97]⟩:ByteArray),(⟨#[98]⟩:ByteArray),(⟨#[99]⟩:ByteArray),(⟨#[100]⟩:ByteArray),(⟨#[101]⟩:ByteArray),(⟨#[102]⟩:ByteArray),(⟨#[103]⟩:ByteArray),(⟨#[104]⟩:ByteArray),(⟨#[107,49]⟩:ByteArray),(⟨#[107,50]⟩:ByteArray),(⟨#[107,51]⟩:ByteArray),(⟨#[107,101,121]⟩:ByteArray)] (by simp) d h
 obtain ⟨v,d2,e2,k2,m2⟩:=E1 [(⟨#[]⟩:ByteArray),(⟨#[118]⟩:ByteArray),(⟨#[119]⟩:ByteArray),(⟨#[120,120]⟩:ByteArray),(⟨#[121,121,121]⟩:ByteArray)] (by simp) d1 k1
 obtain ⟨n,d3,e3,k3,n0,n1⟩:=AL 30 d2 k2
 have n1:=n1 (by omega)
 have f1:Pw d=some (k,d1):=gp (by unfold V5; rw [e1]; rfl)
 have f2:Px d1=some (v,d2):=gq (by unfold V6; rw [e2]; rfl)
 refine ⟨(k,v,1001+n),d3,fh (by unfold U3; rw [f1,Option.bind_some,f2,Option.bind_some,e3,Option.bind_some,AW (n:=1001+n) (by omega)]),k3,?_⟩
 have hk:∀ k∈[(⟨#[97]⟩:ByteArray),(⟨#[98]⟩:ByteArray),(⟨#[99]⟩:ByteArray),(⟨#[100]⟩:ByteArray),(⟨#[101]⟩:ByteArray),(⟨#[102]⟩:ByteArray),(⟨#[103]⟩:ByteArray),(⟨#[104]⟩:ByteArray),(⟨#[107,49]⟩:ByteArray),(⟨#[107,50]⟩:ByteArray),(⟨#[107,51]⟩:ByteArray),(⟨#[107,101,121]⟩:ByteArray)],1≤k.size∧k.size≤12:=by decide
 have hv:∀ k∈[(⟨#[]⟩:ByteArray),(⟨#[118]⟩:ByteArray),(⟨#[119]⟩:ByteArray),(⟨#[120,120]⟩:ByteArray),(⟨#[121,121,121]⟩:ByteArray)],k.size≤20:=by decide
 have a1:=hk k m1
 have a2:=hv v m2
 simp only [Pi,Bool.and_eq_true,decide_eq_true_eq]
 omega
theorem Wu {x:List AX} {a:AX} (h:BA x=true):BA (Ey x a)=true:=by
 unfold Ey
 rw [if_pos h]
 split
 ·exact h
 ·split
  ·assumption
  ·exact h
theorem bQ (x:List AX) (a:AX):(Ey x a).length≤x.length+1:=by
 have:=ng x a
 unfold Ey
 (repeat' split)<;>omega
theorem Ny (d:E9) (h:ID d):∃ x d',H8 d=some (x,d')∧ID d'∧BA x=true∧x.length≤5:=by
 have key:=G2 (n:=5) (P:=fun i=>∀ (d:E9) (x:List AX),ID d→BA x=true→x.length≤i→∃ y d',Fz (i:Int) d x=some (y,d')∧ID d'∧BA y=true∧y.length≤5)
  (fun d x hd hx hl=>by
   obtain ⟨v,d1,e1,k1,v0,v1⟩:=AL 6 d hd
   have v1:=v1 (by omega)
   refine ⟨x,d1,IZ ?_,k1,hx,hl⟩
   unfold F0
   rw [e1,Option.bind_some,if_neg (by simp; omega)])
  (fun i hi ih d x hd hx hl=>by
   obtain ⟨v,d1,e1,k1,v0,v1⟩:=AL 6 d hd
   by_cases hv:(i:Int)<v
   ·obtain ⟨a,d2,e2,k2,o2⟩:=KK d1 k1
    obtain ⟨y,d3,e3,k3⟩:=ih d2 (Ey x a) k2 (Wu hx) (by have:=bQ x a; omega)
    refine ⟨y,d3,IZ ?_,k3⟩
    unfold F0
    rw [e1,Option.bind_some,if_pos (by simpa using hv),e2,Option.bind_some,Gl x a (by omega),Option.bind_some,AR (by omega)]
    exact e3
   ·refine ⟨x,d1,IZ ?_,k1,hx,by omega⟩
    unfold F0
    rw [e1,Option.bind_some,if_neg (by simpa using hv)]) 0 (by omega) d [] h (by decide) (by simp)
 obtain ⟨y,d',e,k⟩:=key
 exact ⟨y,d',cv (by unfold TQ; exact e),k⟩
end Go.Proofs.YtaedipailemlcaaGreat.Core

namespace Go.Proofs.YtaedipailemlcaaGreat.Core
open Go
set_option linter.unusedVariables false
end Go.Proofs.YtaedipailemlcaaGreat.Core

namespace Go.Proofs.YtaedipailemlcaaGreat.Core
open Go
set_option linter.unusedVariables false
theorem CH (x:List Int) (n:Int) (h:x.length≤maxLen):C6 x n=some (x.contains n):=jE (by
 have hm:x.length≤9223372036854775807:=h
 unfold X4
 have:=G2 (n:=x.length) (P:=fun i=>IC x n (i:Int)=some ((x.drop i).contains n)) (TH (by
  unfold MV
  rw [if_neg (by simp),List.drop_length]
  rfl)) (fun i hi ih=>TH (by
  unfold MV
  simp only [show ((i:Int)<(x.length:Int)) from by omega,decide_true,if_true,show (0:Int)≤(i:Int) from by omega,Int.toNat_natCast,Ac hi,AR (show i<9223372036854775807 by omega)]
  rw [Bd hi,List.contains_cons,ih]
  by_cases e:x[i]=n
  ·subst e
   simp
  ·simp [e,Ne.symm e])) 0 (by omega)
 simpa using this)
theorem p9 (x:List Int) (i:Nat) (hi:i<x.length) (h:x.length≤maxLen):∃ r,Cb x x[i]=some r∧((r=(i:Int))↔x[i]∉x.take i):=by
 have hm:x.length≤9223372036854775807:=h
 have key:=G2 (n:=i) (P:=fun k=>∃ r,B5 x x[i] (x.length:Int) (k:Int)=some r∧(k:Int)≤r∧((r=(i:Int))↔∀ m (hm:m<i),k≤m→x[m]≠x[i])) ⟨i,Bc (by
  unfold BG
  simp only [show ((i:Int)<(x.length:Int)) from by omega,decide_true,if_true,show (0:Int)≤(i:Int) from by omega,Int.toNat_natCast,Ac hi]
  simp),by omega,⟨fun _ m hm hk=>by omega,fun _=>rfl⟩⟩ (fun k hk ⟨r,hr,hkr,hiff⟩=>by
  have hk2:k<x.length:=by omega
  by_cases e:x[i]=x[k]
  ·refine ⟨k,Bc ?_,by omega,⟨fun he=>by omega,fun hall=>absurd e.symm (hall k hk (by omega))⟩⟩
   unfold BG
   simp only [show ((k:Int)<(x.length:Int)) from by omega,decide_true,if_true,show (0:Int)≤(k:Int) from by omega,Int.toNat_natCast,Ac hk2]
   rw [if_pos (by simpa using e)]
  ·refine ⟨r,Bc ?_,by omega,hiff.trans ⟨fun hall m hm hkm=>?_,fun hall m hm hkm=>hall m hm (by omega)⟩⟩
   ·unfold BG
    simp only [show ((k:Int)<(x.length:Int)) from by omega,decide_true,if_true,show (0:Int)≤(k:Int) from by omega,Int.toNat_natCast,Ac hk2,AR (show k<9223372036854775807 by omega)]
    rw [if_neg (by simpa using e)]
    exact hr
   ·rcases Nat.lt_or_ge k m with h1 | h1
    ·exact hall m hm h1
    ·have:m=k:=by omega
     subst this
     exact fun h=>e h.symm) 0 (by omega)
 obtain ⟨r,hr,_,hiff⟩:=key
 refine ⟨r,Jy hr,hiff.trans ⟨fun hall hmem=>?_,fun hn m hm _ he=>hn ?_⟩⟩
 ·obtain ⟨m,hm,he⟩:=List.mem_take_iff_getElem.1 hmem
  exact hall m (by omega) (by omega) he
 ·exact List.mem_take_iff_getElem.2 ⟨m,by omega,he⟩
def GC (v:List Int) (i:Nat):Nat→Bool
 | 0=>true
 | k+1=>(decide (1≤v.getD i 0)&&decide (v.getD i 0≤6))&&!(v.take i).contains (v.getD i 0)&&GC v (i+1) k
def SD (v:List Int):Bool:=(decide (1≤(v.length:Int))&&decide ((v.length:Int)≤4))&&GC v 0 v.length
def D_ (x:List (List Int)) (n:Nat):List (List Int)→Bool
 | []=>decide (1≤(n:Int))&&decide ((n:Int)≤9)
 | v::r=>SD v&&D_ x n r
theorem Yj (v:List Int) (h:v.length≤maxLen):NV v=some (SD v):=fX (by
 have hm:v.length≤9223372036854775807:=h
 unfold Un SD
 simp only [Ag,Option.bind_some]
 have:=G2 (n:=v.length) (P:=fun i=>GZ v (i:Int)=some (GC v i (v.length-i))) (PV (by
  unfold J8
  rw [if_neg (by simp),Nat.sub_self]
  rfl)) (fun i hi ih=>PV (by
  unfold J8
  have e:v.length-i=(v.length-(i+1))+1:=by omega
  rw [e,GC]
  simp only [show ((i:Int)<(v.length:Int)) from by omega,show ((i:Int)≤(v.length:Int)) from by omega,decide_true,if_true,show (0:Int)≤(i:Int) from by omega,Int.toNat_natCast,Ag,Option.bind_some,AR (show i<9223372036854775807 by omega),ih,Int.toNat_zero,List.drop_zero,Int.le_refl,
   CH (v.take i) _ (by rw [List.length_take]; omega)]
  generalize (decide (1≤v.getD i 0)&&decide (v.getD i 0≤6))=a
  generalize (v.take i).contains (v.getD i 0)=b
  cases a<;>cases b<;>simp)) 0 (by omega)
 simp only [Int.ofNat_zero,Nat.sub_zero] at this
 generalize (decide (1≤(v.length:Int))&&decide ((v.length:Int)≤4))=a
 cases a
 ·simp
 ·simpa using this)
theorem Yk (x:List (List Int)) (h:x.length≤maxLen) (ho:∀ a∈x,a.length≤maxLen):DK x=some (D_ x x.length x):=fM (by
 have hm:x.length≤9223372036854775807:=h
 unfold UZ
 exact G2 (n:=x.length) (P:=fun i=>GX x (i:Int)=some (D_ x x.length (x.drop i))) (PJ (by
  unfold Jp
  rw [if_neg (by simp),List.drop_length,Ag]
  rfl)) (fun i hi ih=>PJ (by
  unfold Jp
  simp only [show ((i:Int)<(x.length:Int)) from by omega,decide_true,if_true,show (0:Int)≤(i:Int) from by omega,Int.toNat_natCast,Ac hi,Yj x[i] (ho _ (List.getElem_mem _)),Option.bind_some,AR (show i<9223372036854775807 by omega),ih]
  rw [Bd hi,D_]
  generalize SD x[i]=a
  cases a<;>simp)) 0 (by omega))
theorem Yl (x:List (List Int)) (h:x.length≤maxLen) (ho:∀ a∈x,a.length≤maxLen):Gv x=some (D_ x x.length x):=fI (by
 have hm:x.length≤9223372036854775807:=h
 unfold UW
 exact G2 (n:=x.length) (P:=fun i=>GW x x (x.length:Int) (i:Int)=some (D_ x x.length (x.drop i))) (PI (by
  unfold Jo
  rw [if_neg (by simp),List.drop_length,Bx]
  rfl)) (fun i hi ih=>PI (by
  unfold Jo
  simp only [show ((i:Int)<(x.length:Int)) from by omega,decide_true,if_true,show (0:Int)≤(i:Int) from by omega,Int.toNat_natCast,Ac hi]
  rw [Bd hi,D_]
  have hv:=ho x[i] (List.getElem_mem _)
  generalize x[i]=v at hv
  have hvm:v.length≤9223372036854775807:=hv
  have wj:Jm x v x (x.length:Int) (i:Int)=some ((decide (1≤(v.length:Int))&&decide ((v.length:Int)≤4))&&D_ x x.length (x.drop (i+1))):=X1 (by
   unfold PG
   rw [Bx,Option.bind_some,AR (show i<9223372036854775807 by omega),ih]
   generalize (decide (1≤(v.length:Int))&&decide ((v.length:Int)≤4))=a
   cases a<;>simp)
  have:=G2 (n:=v.length) (P:=fun j=>GV x v x (x.length:Int) (i:Int) v (v.length:Int) (j:Int)=some (GC v j (v.length-j)&&((decide (1≤(v.length:Int))&&decide ((v.length:Int)≤4))&&D_ x x.length (x.drop (i+1))))) (PH (by
   unfold Jn
   rw [if_neg (by simp),Nat.sub_self,wj]
   rfl)) (fun j hj ihj=>PH (by
   unfold Jn
   have e:v.length-j=(v.length-(j+1))+1:=by omega
   obtain ⟨r,hr,hiff⟩:=p9 v j hj hv
   rw [e,GC]
   simp only [show ((j:Int)<(v.length:Int)) from by omega,decide_true,if_true,show (0:Int)≤(j:Int) from by omega,Int.toNat_natCast,LO,Option.bind_some,AR (show j<9223372036854775807 by omega),ihj,Ac hj,hr]
   have hb:(r != (j:Int))=(v.take j).contains v[j]:=by
    by_cases e2:r=(j:Int)
    ·have:=hiff.1 e2
     simp [e2,this]
    ·have:v[j]∈v.take j:=Classical.byContradiction fun hn=>e2 (hiff.2 hn)
     simp [e2,this]
   rw [hb]
   generalize (decide (1≤v[j])&&decide (v[j]≤6))=a
   generalize (v.take j).contains v[j]=b
   cases a<;>cases b<;>simp)) 0 (by omega)
  simp only [Int.ofNat_zero,Nat.sub_zero] at this
  unfold SD
  refine Eq.trans this ?_
  congr 1
  generalize GC v 0 v.length=a
  generalize (decide (1≤(v.length:Int))&&decide ((v.length:Int)≤4))=b
  cases a<;>cases b<;>simp)) 0 (by omega))
end Go.Proofs.YtaedipailemlcaaGreat.Core

namespace Go.Proofs.YtaedipailemlcaaGreat.Core
open Go
set_option linter.unusedVariables false
abbrev lM:Type:=Int×Int×Int×(ByteArray×ByteArray×Int)×List Int
abbrev AC:Type:=Int×Int×Bool×Bool×Bool×Bool×List Int×List (ByteArray×ByteArray×Int)×Int×lM
def EM (v:List Int) (i:Nat):Nat→Bool
 | 0=>true
 | k+1=>(decide (1≤v.getD i 0)&&decide (v.getD i 0≤6))&&(decide (i=0)||decide (v.getD (i-1) 0<v.getD i 0))&&EM v (i+1) k
theorem RO (x:List Int) (h:x.length≤maxLen):CU x=some (EM x 0 x.length):=gh (by
 have hm:x.length≤9223372036854775807:=h
 unfold V1
 have:=G2 (n:=x.length) (P:=fun i=>FW x (i:Int)=some (EM x i (x.length-i))) (Q_ (by
  unfold LA
  rw [if_neg (by simp),Nat.sub_self]
  rfl)) (fun i hi ih=>Q_ (by
  unfold LA
  have e:x.length-i=(x.length-(i+1))+1:=by omega
  simp only [show ((i:Int)<(x.length:Int)) from by omega,decide_true,if_true,show (0:Int)≤(i:Int) from by omega,Int.toNat_natCast,AR (show i<9223372036854775807 by omega),ih,Ag,Option.bind_some]
  rw [e,EM]
  generalize (decide (1≤x.getD i 0)&&decide (x.getD i 0≤6))=a
  cases a
  ·simp
  by_cases h0:0<i
  ·rw [VS (by omega) h0]
   simp only [Int.toNat_natCast,show ((0:Int)≤((i-1:Nat):Int)) from by omega,show (((i-1:Nat):Int)<(x.length:Int)) from by omega,if_true]
   rcases Int.lt_or_le (x.getD (i-1) 0) (x.getD i 0) with hb | hb
   ·have d1:decide (x.getD (i-1) 0≥x.getD i 0)=false:=decide_eq_false (by omega)
    have d2:decide (x.getD (i-1) 0<x.getD i 0)=true:=decide_eq_true hb
    simp only [d1,d2]
    simp [h0,show i≠0 by omega]
   ·have d1:decide (x.getD (i-1) 0≥x.getD i 0)=true:=decide_eq_true (by omega)
    have d2:decide (x.getD (i-1) 0<x.getD i 0)=false:=decide_eq_false (by omega)
    simp only [d1,d2]
    simp [h0,show i≠0 by omega]
  ·have:i=0:=by omega
   subst this
   simp)) 0 (by omega)
 simpa using this)
theorem Km (x:List Int) (h:x.length≤maxLen):Fm x 1 6=some (EM x 0 x.length):=Wd (by
 have hm:x.length≤9223372036854775807:=h
 unfold Ni
 have:=G2 (n:=x.length) (P:=fun i=>Cq x 1 6 x (x.length:Int) (i:Int)=some (EM x i (x.length-i))) (Ke (by
  unfold GH
  rw [if_neg (by simp),Nat.sub_self]
  rfl)) (fun i hi ih=>Ke (by
  unfold GH
  have e:x.length-i=(x.length-(i+1))+1:=by omega
  simp only [show ((i:Int)<(x.length:Int)) from by omega,decide_true,if_true,show (0:Int)≤(i:Int) from by omega,Int.toNat_natCast,AR (show i<9223372036854775807 by omega),ih,Bx,Option.bind_some]
  rw [e,EM]
  generalize (decide (1≤x.getD i 0)&&decide (x.getD i 0≤6))=a
  cases a
  ·simp
  by_cases h0:0<i
  ·rw [VS (by omega) h0]
   simp only [Int.toNat_natCast,show ((0:Int)≤((i-1:Nat):Int)) from by omega,show (((i-1:Nat):Int)<(x.length:Int)) from by omega,if_true]
   rcases Int.lt_or_le (x.getD (i-1) 0) (x.getD i 0) with hb | hb
   ·have d1:decide (x.getD i 0≤x.getD (i-1) 0)=false:=decide_eq_false (by omega)
    have d2:decide (x.getD (i-1) 0<x.getD i 0)=true:=decide_eq_true hb
    simp only [d1,d2]
    simp [h0,show i≠0 by omega]
   ·have d1:decide (x.getD i 0≤x.getD (i-1) 0)=true:=decide_eq_true (by omega)
    have d2:decide (x.getD (i-1) 0<x.getD i 0)=false:=decide_eq_false (by omega)
    simp only [d1,d2]
    simp [h0,show i≠0 by omega]
  ·have:i=0:=by omega
   subst this
   simp)) 0 (by omega)
 simpa using this)
def Hc (t:lM):Bool:=(t.1==0)&&(t.2.1==0)&&(t.2.2.1==0)&&Vn (.pair .str (.pair .str (.int .i64))) t.2.2.2.1 (ByteArray.empty,ByteArray.empty,(0:Int))&&((t.2.2.2.2.length:Int)==0)
def EN (t:lM) (serves:Bool):Bool:=(t.1==1||t.1==2)&&serves&&(decide (0≤t.2.1)&&decide (t.2.1≤1000))&&(decide (1≤t.2.2.1)&&decide (t.2.2.1≤900))
def RP (x:AC):Bool :=
 (decide (1≤x.1)&&decide (x.1≤6))&&(decide (1≤x.2.1)&&decide (x.2.1≤9))&&(!x.2.2.2.2.2.1||(x.2.2.2.1&&x.2.2.2.2.1&&!decide ((x.2.2.2.2.2.2.1.length:Int)>0)))&&(!x.2.2.1||(!x.2.2.2.1&&!x.2.2.2.2.1)) &&
  EM x.2.2.2.2.2.2.1 0 x.2.2.2.2.2.2.1.length&&EM x.2.2.2.2.2.2.2.2.2.2.2.2.2 0 x.2.2.2.2.2.2.2.2.2.2.2.2.2.length&&Be x.2.2.2.2.2.2.2.1 0 x.2.2.2.2.2.2.2.1.length&&(decide (0≤x.2.2.2.2.2.2.2.2.1)&&decide (x.2.2.2.2.2.2.2.2.1≤900)) &&
  (Hc x.2.2.2.2.2.2.2.2.2||EN x.2.2.2.2.2.2.2.2.2 x.2.2.2.2.2.1)
theorem Vj (t:lM):Kx t=some (Hc t):=aD (by
 unfold RA Hc
 generalize (t.1==0)=a
 generalize (t.2.1==0)=b
 generalize (t.2.2.1==0)=c
 generalize Vn (.pair .str (.pair .str (.int .i64))) t.2.2.2.1 (ByteArray.empty,ByteArray.empty,(0:Int))=d
 cases a<;>cases b<;>cases c<;>cases d<;>simp)
theorem Ww (x:AC) (h1:x.2.2.2.2.2.2.1.length≤maxLen) (h2:x.2.2.2.2.2.2.2.1.length≤maxLen) (h3:x.2.2.2.2.2.2.2.2.2.2.2.2.2.length≤maxLen):Eb x=some (RP x):=cV (by
 have w0:∀ b,Cy b x=some (Hc x.2.2.2.2.2.2.2.2.2||EN x.2.2.2.2.2.2.2.2.2 x.2.2.2.2.2.1):=fun b=>Wc (by
  unfold Nh EN
  simp only [Ag,Vj,Option.bind_some]
  generalize Hc x.2.2.2.2.2.2.2.2.2=a
  generalize (x.2.2.2.2.2.2.2.2.2.1==1)=b
  generalize (x.2.2.2.2.2.2.2.2.2.1==2)=c
  generalize x.2.2.2.2.2.1=d
  generalize (decide (0≤x.2.2.2.2.2.2.2.2.2.2.1)&&decide (x.2.2.2.2.2.2.2.2.2.2.1≤1000))=e
  generalize (decide (1≤x.2.2.2.2.2.2.2.2.2.2.2.1)&&decide (x.2.2.2.2.2.2.2.2.2.2.2.1≤900))=f
  cases a<;>cases b<;>cases c<;>cases d<;>cases e<;>simp)
 unfold TF RP
 simp only [Ag,RO _ h1,RO _ h3,Gk _ h2,Option.bind_some,w0]
 generalize (decide (1≤x.1)&&decide (x.1≤6))=a
 generalize (decide (1≤x.2.1)&&decide (x.2.1≤9))=b
 generalize decide ((x.2.2.2.2.2.2.1.length:Int)>0)=c
 generalize EM x.2.2.2.2.2.2.1 0 x.2.2.2.2.2.2.1.length=d
 generalize EM x.2.2.2.2.2.2.2.2.2.2.2.2.2 0 x.2.2.2.2.2.2.2.2.2.2.2.2.2.length=e
 generalize Be x.2.2.2.2.2.2.2.1 0 x.2.2.2.2.2.2.2.1.length=f
 generalize (decide (0≤x.2.2.2.2.2.2.2.2.1)&&decide (x.2.2.2.2.2.2.2.2.1≤900))=g
 generalize (Hc x.2.2.2.2.2.2.2.2.2||EN x.2.2.2.2.2.2.2.2.2 x.2.2.2.2.2.1)=t
 generalize x.2.2.2.2.2.1=s
 generalize x.2.2.2.2.1=l
 generalize x.2.2.2.1=m
 generalize x.2.2.1=n
 cases a
 ·simp
 cases b
 ·simp
 cases d<;>cases e<;>cases f<;>cases g<;>cases s<;>cases n<;>cases m<;>cases l<;>cases c<;>simp)
theorem RQ (x:AC) (h3:x.2.2.2.2.2.2.2.2.2.2.2.2.2.length≤maxLen):CP x=some (EM x.2.2.2.2.2.2.2.2.2.2.2.2.2 0 x.2.2.2.2.2.2.2.2.2.2.2.2.2.length&&(Hc x.2.2.2.2.2.2.2.2.2||EN x.2.2.2.2.2.2.2.2.2 x.2.2.2.2.2.1),x):=Uf (by
 unfold Lz Hc EN
 simp only [Bx,Km _ h3,Option.bind_some]
 by_cases hk:x.2.2.2.2.2.2.2.2.2.1=0
 ·rw [if_pos (by simp [hk])]
  have k1:(x.2.2.2.2.2.2.2.2.2.1==1)=false:=by simp [hk]
  have k2:(x.2.2.2.2.2.2.2.2.2.1==2)=false:=by simp [hk]
  have k0:(x.2.2.2.2.2.2.2.2.2.1==0)=true:=by simp [hk]
  rw [k1,k2,k0]
  have hl:((x.2.2.2.2.2.2.2.2.2.2.2.2.2.length:Int)==0)=true→EM x.2.2.2.2.2.2.2.2.2.2.2.2.2 0 x.2.2.2.2.2.2.2.2.2.2.2.2.2.length=true:=by
   intro h
   have:x.2.2.2.2.2.2.2.2.2.2.2.2.2.length=0:=by simpa using h
   rw [this]
   rfl
  generalize ((x.2.2.2.2.2.2.2.2.2.2.2.2.2.length:Int)==0)=l at hl
  generalize EM x.2.2.2.2.2.2.2.2.2.2.2.2.2 0 x.2.2.2.2.2.2.2.2.2.2.2.2.2.length=u at hl
  generalize (x.2.2.2.2.2.2.2.2.2.2.1==0)=b
  generalize (x.2.2.2.2.2.2.2.2.2.2.2.1==0)=c
  generalize Vn (.pair .str (.pair .str (.int .i64))) x.2.2.2.2.2.2.2.2.2.2.2.2.1 (ByteArray.empty,ByteArray.empty,(0:Int))=d
  cases b<;>cases c<;>cases d<;>cases l<;>cases u<;>simp at hl ⊢
 ·rw [if_neg (by simp [hk])]
  have k0:(x.2.2.2.2.2.2.2.2.2.1==0)=false:=by simp [hk]
  have k12:(decide (1≤x.2.2.2.2.2.2.2.2.2.1)&&decide (x.2.2.2.2.2.2.2.2.2.1≤2))=(x.2.2.2.2.2.2.2.2.2.1==1||x.2.2.2.2.2.2.2.2.2.1==2):=by
   rw [Bool.eq_iff_iff]
   simp
   omega
  rw [k12,k0]
  generalize (x.2.2.2.2.2.2.2.2.2.1==1||x.2.2.2.2.2.2.2.2.2.1==2)=k
  generalize EM x.2.2.2.2.2.2.2.2.2.2.2.2.2 0 x.2.2.2.2.2.2.2.2.2.2.2.2.2.length=u
  generalize (decide (0≤x.2.2.2.2.2.2.2.2.2.2.1)&&decide (x.2.2.2.2.2.2.2.2.2.2.1≤1000))=e
  generalize (decide (1≤x.2.2.2.2.2.2.2.2.2.2.2.1)&&decide (x.2.2.2.2.2.2.2.2.2.2.2.1≤900))=f
  cases k<;>cases u<;>cases e<;>cases f<;>rcases Bool.eq_false_or_eq_true x.2.2.2.2.2.1 with hs | hs<;>simp [hs])
theorem Wx (x:AC) (h1:x.2.2.2.2.2.2.1.length≤maxLen) (h2:x.2.2.2.2.2.2.2.1.length≤maxLen) (h3:x.2.2.2.2.2.2.2.2.2.2.2.2.2.length≤maxLen):Cj x=some (RP x):=b9 (by
 have w0:∀ b,IP b x=some ((!x.2.2.2.2.2.1||(x.2.2.2.1&&x.2.2.2.2.1&&!decide ((x.2.2.2.2.2.2.1.length:Int)>0)))&&(!x.2.2.1||(!x.2.2.2.1&&!x.2.2.2.2.1))&&(EM x.2.2.2.2.2.2.2.2.2.2.2.2.2 0 x.2.2.2.2.2.2.2.2.2.2.2.2.2.length&&(Hc x.2.2.2.2.2.2.2.2.2||EN x.2.2.2.2.2.2.2.2.2 x.2.2.2.2.2.1))):=fun b=>WX (by
  unfold Nc
  simp only [RQ x h3,Option.bind_some]
  generalize (EM x.2.2.2.2.2.2.2.2.2.2.2.2.2 0 x.2.2.2.2.2.2.2.2.2.2.2.2.2.length&&(Hc x.2.2.2.2.2.2.2.2.2||EN x.2.2.2.2.2.2.2.2.2 x.2.2.2.2.2.1))=t
  generalize decide ((x.2.2.2.2.2.2.1.length:Int)>0)=c
  generalize x.2.2.2.2.2.1=s
  generalize x.2.2.2.2.1=l
  generalize x.2.2.2.1=m
  generalize x.2.2.1=n
  cases s<;>cases n<;>cases m<;>cases l<;>cases c<;>simp)
 unfold S0 RP
 simp only [Bx,LO,Km _ h1,KJ _ h2 Pj,Option.bind_some,w0]
 generalize (decide (1≤x.1)&&decide (x.1≤6))=a
 generalize (decide (1≤x.2.1)&&decide (x.2.1≤9))=b
 generalize EM x.2.2.2.2.2.2.1 0 x.2.2.2.2.2.2.1.length=d
 generalize EM x.2.2.2.2.2.2.2.2.2.2.2.2.2 0 x.2.2.2.2.2.2.2.2.2.2.2.2.2.length=e
 generalize Be x.2.2.2.2.2.2.2.1 0 x.2.2.2.2.2.2.2.1.length=f
 generalize (decide (0≤x.2.2.2.2.2.2.2.2.1)&&decide (x.2.2.2.2.2.2.2.2.1≤900))=g
 generalize (Hc x.2.2.2.2.2.2.2.2.2||EN x.2.2.2.2.2.2.2.2.2 x.2.2.2.2.2.1)=t
 generalize (!x.2.2.2.2.2.1||(x.2.2.2.1&&x.2.2.2.2.1&&!decide ((x.2.2.2.2.2.2.1.length:Int)>0)))=p
 generalize (!x.2.2.1||(!x.2.2.2.1&&!x.2.2.2.2.1))=q
 cases a
 ·simp
 cases b
 ·simp
 cases d<;>cases e<;>cases f<;>cases g<;>cases p<;>cases q<;>simp)
end Go.Proofs.YtaedipailemlcaaGreat.Core

namespace Go.Proofs.YtaedipailemlcaaGreat.Core
open Go
set_option linter.unusedVariables false
abbrev BW:Type:=Int×Int×Int×Int×Int×List (ByteArray×ByteArray×Int)
def RR (x:BW):Bool :=
 (decide (1≤x.1)&&decide (x.1≤8))&&(decide (1≤x.2.1)&&decide (x.2.1≤6))&&(decide (1≤x.2.2.1)&&decide (x.2.2.1≤6))&&(decide (1≤x.2.2.2.1)&&decide (x.2.2.2.1≤9))&&(decide (0≤x.2.2.2.2.1)&&decide (x.2.2.2.2.1≤1000000000))&&Be x.2.2.2.2.2 0 x.2.2.2.2.2.length &&
  (if x.1=2∨x.1=3 then true else if x.1=5 then ((x.2.2.2.2.2.length:Int)==1) else ((x.2.2.2.2.2.length:Int)==0))
theorem dC (x:BW) (h:x.2.2.2.2.2.length≤maxLen):R0 x=some (RR x):=i9 (by
 have w1:∀ a b,H_ a b x=some (if b=true then true else if a=5 then ((x.2.2.2.2.2.length:Int)==1) else ((x.2.2.2.2.2.length:Int)==0)):=fun a b=>b_ (by
  unfold S3
  by_cases h1:b=true<;>by_cases h2:a=5<;>simp [h1,h2])
 have w0:∀ b,MM b x=some (if x.1=2∨x.1=3 then true else if x.1=5 then ((x.2.2.2.2.2.length:Int)==1) else ((x.2.2.2.2.2.length:Int)==0)):=fun b=>cA (by
  unfold S4
  by_cases h1:x.1=2<;>by_cases h2:x.1=3<;>simp [h1,h2,w1])
 unfold Xt RR
 simp only [Ag,Gk _ h,Option.bind_some,w0]
 generalize (decide (1≤x.1)&&decide (x.1≤8))=a
 generalize (decide (1≤x.2.1)&&decide (x.2.1≤6))=b
 generalize (decide (1≤x.2.2.1)&&decide (x.2.2.1≤6))=c
 generalize (decide (1≤x.2.2.2.1)&&decide (x.2.2.2.1≤9))=d
 generalize (decide (0≤x.2.2.2.2.1)&&decide (x.2.2.2.2.1≤1000000000))=e
 generalize Be x.2.2.2.2.2 0 x.2.2.2.2.2.length=f
 cases a<;>cases b<;>cases c<;>cases d<;>cases e<;>cases f<;>simp)
theorem dD (x:BW) (h:x.2.2.2.2.2.length≤maxLen):R3 x=some (RR x):=jD (by
 have w1:∀ a b,IB a b x=some (if b=true then true else if a=5 then ((x.2.2.2.2.2.length:Int)==1) else ((x.2.2.2.2.2.length:Int)==0)):=fun a b=>cS (by
  unfold TD
  by_cases h1:b=true<;>by_cases h2:a=5<;>simp [h1,h2])
 have w0:∀ b,MU b x=some (if x.1=2∨x.1=3 then true else if x.1=5 then ((x.2.2.2.2.2.length:Int)==1) else ((x.2.2.2.2.2.length:Int)==0)):=fun b=>cU (by
  unfold TE
  by_cases h1:x.1=2<;>by_cases h2:x.1=3<;>simp [h1,h2,w1])
 unfold X2 RR
 simp only [Bx,LO,KJ _ h Pj,Option.bind_some,w0]
 generalize (decide (1≤x.1)&&decide (x.1≤8))=a
 generalize (decide (1≤x.2.1)&&decide (x.2.1≤6))=b
 generalize (decide (1≤x.2.2.1)&&decide (x.2.2.1≤6))=c
 generalize (decide (1≤x.2.2.2.1)&&decide (x.2.2.2.1≤9))=d
 generalize (decide (0≤x.2.2.2.2.1)&&decide (x.2.2.2.2.1≤1000000000))=e
 generalize Be x.2.2.2.2.2 0 x.2.2.2.2.2.length=f
 cases a<;>cases b<;>cases c<;>cases d<;>cases e<;>cases f<;>simp)
end Go.Proofs.YtaedipailemlcaaGreat.Core

namespace Go.Proofs.YtaedipailemlcaaGreat.Core
open Go
set_option linter.unusedVariables false
set_option linter.unusedSimpArgs false
abbrev Di:Type:=Int×Int×Int×AX
def p_ (v:List Int):Prop:=(∀ a∈v,1≤a∧a≤6)∧v.Pairwise (· < ·)
theorem fq {v:List Int}:∀ (m i:Nat),i+m=v.length→(EM v i m=true↔∀ a (ha:a<v.length),i≤a→(1≤v[a]∧v[a]≤6)∧(a≠0→v.getD (a-1) 0<v[a]))
 | 0,i,h=>by
  simp only [EM,true_iff]
  intro a ha hi
  omega
 | m+1,i,h=>by
  have hi:i<v.length:=by omega
  rw [EM,Bool.and_eq_true,Bool.and_eq_true,fq m (i+1) (by omega),Ac hi]
  simp only [Bool.or_eq_true,Bool.and_eq_true,decide_eq_true_eq]
  constructor
  ·rintro ⟨⟨h1,h2⟩,h3⟩ a ha hia
   by_cases e:a=i
   ·subst e
    exact ⟨h1,fun h0=>h2.resolve_left h0⟩
   ·exact h3 a ha (by omega)
  ·intro h3
   refine ⟨⟨(h3 i hi (Nat.le_refl _)).1,?_⟩,fun a ha hia=>h3 a ha (by omega)⟩
   by_cases e:i=0
   ·exact .inl e
   ·exact .inr ((h3 i hi (Nat.le_refl _)).2 e)
theorem pD {v:List Int}:EM v 0 v.length=true↔p_ v:=by
 rw [fq _ _ (by omega)]
 constructor
 ·intro h
  refine ⟨fun a ha=>?_,?_⟩
  ·obtain ⟨i,hi,rfl⟩:=List.getElem_of_mem ha
   exact (h i hi (Nat.zero_le _)).1
  ·have st:∀ d a (ha:a+d+1<v.length),v.getD a 0<v.getD (a+d+1) 0:=by
    intro d
    induction d with
    | zero =>
     intro a ha
     have:=(h (a+1) (by omega) (Nat.zero_le _)).2 (by omega)
     rw [Ac (show a+0+1<v.length from ha)]
     simpa using this
    | succ d ih =>
     intro a ha
     have h1:=ih a (by omega)
     have h2:=(h (a+(d+1)+1) ha (Nat.zero_le _)).2 (by omega)
     rw [Ac ha]
     simp only [Nat.add_sub_cancel] at h2
     have h3:v.getD (a+d+1) 0<v[a+(d+1)+1]:=h2
     omega
   rw [List.pairwise_iff_getElem]
   intro i j hi hj hij
   have:=st (j-i-1) i (by omega)
   rw [show i+(j-i-1)+1=j by omega,Ac hi,Ac hj] at this
   exact this
 ·rintro ⟨h1,h2⟩ a ha _
  refine ⟨h1 _ (List.getElem_mem ha),fun h0=>?_⟩
  rw [Ac (show a-1<v.length by omega)]
  exact (List.pairwise_iff_getElem.1 h2) (a-1) a (by omega) ha (by omega)
theorem lN {v:List Int} (h:p_ v):v.length≤6:=by
 have hs:v.Sublist [1,2,3,4,5,6]:=by
  have key:∀ (l:List Int) (n:Nat),n≤6→(∀ a∈l,(6-n:Int)<a∧a≤6)→l.Pairwise (· < ·)→l.length≤n:=by
   intro l
   induction l with
   | nil=>intro n _ _ _; simp
   | cons a l ih =>
    intro n hn hb hp
    have ha:=hb a (by simp)
    have hp2:=List.pairwise_cons.1 hp
    have:=ih ((6-a).toNat) (by omega) (fun b hb'=>⟨by have:=hp2.1 b hb'; omega,(hb b (by simp [hb'])).2⟩) hp2.2
    simp only [List.length_cons]
    omega
  have hl:=key v 6 (by omega) (fun a ha=>by have:=h.1 a ha; omega) h.2
  exact List.Sublist.trans (List.Sublist.refl v) (by
   have:∀ (l:List Int) (s:List Int),s.Pairwise (· < ·)→l.Pairwise (· < ·)→(∀ a∈l,a∈s)→l.Sublist s:=by
    intro l s
    induction s generalizing l with
    | nil =>
     intro _ _ hm
     cases l with
     | nil=>exact List.Sublist.slnil
     | cons a l=>exact absurd (hm a (by simp)) (by simp)
    | cons b s ih =>
     intro hs hl hm
     cases l with
     | nil=>exact List.nil_sublist _
     | cons a l =>
      have hs2:=List.pairwise_cons.1 hs
      have hl2:=List.pairwise_cons.1 hl
      rcases List.mem_cons.1 (hm a (by simp)) with e | e
      ·subst e
       refine (ih l hs2.2 hl2.2 fun c hc=>?_).cons_cons _
       rcases List.mem_cons.1 (hm c (by simp [hc])) with e | e
       ·have:=hl2.1 c hc; omega
       ·exact e
      ·refine (ih (a::l) hs2.2 hl fun c hc=>?_).cons _
       rcases List.mem_cons.1 (hm c hc) with e2 | e2
       ·have h1:=hs2.1 a e
        rcases List.mem_cons.1 hc with e3 | e3
        ·omega
        ·have:=hl2.1 c e3; omega
       ·exact e2
   refine this v [1,2,3,4,5,6] (by decide) h.2 fun a ha=>?_
   have:=h.1 a ha
   have h5:a=1∨a=2∨a=3∨a=4∨a=5∨a=6:=by omega
   rcases h5 with h | h | h | h | h | h<;>simp [h])
 simpa using hs.length_le
structure Hf (m:AC):Prop where
 id:1≤m.1∧m.1≤6
 ep:1≤m.2.1∧m.2.1≤9
 serves:m.2.2.2.2.2.1=true→m.2.2.2.1=true∧m.2.2.2.2.1=true∧m.2.2.2.2.2.2.1=[]
 fell:m.2.2.1=true→m.2.2.2.1=false∧m.2.2.2.2.1=false
 waits:p_ m.2.2.2.2.2.2.1
 left:p_ m.2.2.2.2.2.2.2.2.2.2.2.2.2
 items:BA m.2.2.2.2.2.2.2.1=true
 count:0≤m.2.2.2.2.2.2.2.2.1∧m.2.2.2.2.2.2.2.2.1≤900
 task:Hc m.2.2.2.2.2.2.2.2.2=true∨EN m.2.2.2.2.2.2.2.2.2 m.2.2.2.2.2.1=true
theorem lO {m:AC}:RP m=true↔Hf m:=by
 unfold RP
 simp only [Bool.and_eq_true,Bool.or_eq_true,Bool.not_eq_true',decide_eq_true_eq,pD,decide_eq_false_iff_not]
 constructor
 ·rintro ⟨⟨⟨⟨⟨⟨⟨⟨h1,h2⟩,h3⟩,h4⟩,h5⟩,h6⟩,h7⟩,h8⟩,h9⟩
  refine ⟨h1,h2,fun h=>?_,fun h=>?_,h5,h6,h7,h8,h9⟩
  ·rcases h3 with h3 | ⟨⟨a,b⟩,c⟩
   ·rw [h] at h3; cases h3
   ·exact ⟨a,b,List.length_eq_zero_iff.1 (by omega)⟩
  ·rcases h4 with h4 | h4
   ·rw [h] at h4; cases h4
   ·exact h4
 ·rintro ⟨h1,h2,h3,h4,h5,h6,h7,h8,h9⟩
  refine ⟨⟨⟨⟨⟨⟨⟨⟨h1,h2⟩,?_⟩,?_⟩,h5⟩,h6⟩,h7⟩,h8⟩,h9⟩
  ·cases hs:m.2.2.2.2.2.1 with
   | false=>exact .inl rfl
   | true =>
    obtain ⟨a,b,c⟩:=h3 hs
    exact .inr ⟨⟨a,b⟩,by rw [c]; simp⟩
  ·cases hs:m.2.2.1 with
   | false=>exact .inl rfl
   | true=>exact .inr (h4 hs)
theorem LP {x:List AX} (h:BA x=true):x.length≤12:=(bP.1 h).2.2
theorem Hf.lens {m:AC} (h:Hf m):m.2.2.2.2.2.2.1.length≤6∧m.2.2.2.2.2.2.2.1.length≤12∧m.2.2.2.2.2.2.2.2.2.2.2.2.2.length≤6:=⟨lN h.waits,LP h.items,lN h.left⟩
theorem Ym (m:AC) (h1:m.2.2.2.2.2.2.1.length≤68719476736) (h2:m.2.2.2.2.2.2.2.1.length≤68719476736) (h3:m.2.2.2.2.2.2.2.2.2.2.2.2.2.length≤68719476736):CZ m=some m:=fL (by
 unfold UY
 rw [if_pos (by simpa using h1),if_pos (by simpa using h2),if_pos (by simpa using h3)]
 rfl)
theorem Hf.copy {m:AC} (h:Hf m):CZ m=some m:=by
 obtain ⟨h1,h2,h3⟩:=h.lens
 exact Ym m (by omega) (by omega) (by omega)
def Fb (view:List Int) (id:Int):List Int:=[1,2,3,4,5,6].filter fun v=>v != id&&view.contains v
theorem SE (view:List Int) (id:Int):p_ (Fb view id):=by
 refine ⟨fun a ha=>?_,List.Pairwise.filter _ (by decide)⟩
 have:=(List.mem_filter.1 ha).1
 simp at this
 omega
theorem Hd (view:List Int) (id:Int) (h:view.length≤maxLen):FT view id=some (Fb view id):=Z8 (by
 unfold Q5
 have step:∀ (v:Nat) (acc r:List Int),v≤6→1≤v→acc.length≤6→Br view id ((v+1:Nat):Int) (if ((v:Int) != id&&view.contains (v:Int))=true then acc++[(v:Int)] else acc)=some r→Br view id (v:Int) acc=some r:=by
  intro v acc r hv hv1 ha hr
  refine Mm ?_
  unfold HY
  rw [if_pos (by simp; omega),AR (show v<9223372036854775807 by omega),CH view _ h]
  by_cases h1:((v:Int) != id)=true
  ·rw [if_pos h1,Option.bind_some]
   by_cases h2:view.contains (v:Int)=true
   ·rw [if_pos h2,if_pos (by simp; omega)]
    rw [if_pos (by rw [h1,h2]; rfl)] at hr
    exact hr
   ·rw [if_neg h2]
    rw [if_neg (fun hc=>h2 (by simp only [Bool.and_eq_true] at hc; exact hc.2))] at hr
    exact hr
  ·rw [if_neg h1]
   rw [if_neg (fun hc=>h1 (by simp only [Bool.and_eq_true] at hc; exact hc.1))] at hr
   exact hr
 have fin:∀ acc,Br view id ((7:Nat):Int) acc=some acc:=fun acc=>Mm (by
  unfold HY
  rw [if_neg (by decide)])
 have g:∀ (acc:List Int) (v:Int),(if (v != id&&view.contains v)=true then acc++[v] else acc).length≤acc.length+1:=by
  intro acc v; split<;>simp
 refine step 1 [] _ (by omega) (by omega) (by simp) ?_
 refine step 2 _ _ (by omega) (by omega) (by have:=g [] ((1:Nat):Int); simp only [List.length_nil] at this; omega) ?_
 have l2:=g [] ((1:Nat):Int)
 generalize e1:(if (((1:Nat):Int) != id&&view.contains ((1:Nat):Int))=true then ([]:List Int)++[((1:Nat):Int)] else [])=a1 at l2 ⊢
 have l3:=g a1 ((2:Nat):Int)
 generalize e2:(if (((2:Nat):Int) != id&&view.contains ((2:Nat):Int))=true then a1++[((2:Nat):Int)] else a1)=a2 at l3 ⊢
 have l4:=g a2 ((3:Nat):Int)
 simp only [List.length_nil] at l2
 refine step 3 _ _ (by omega) (by omega) (by omega) ?_
 generalize e3:(if (((3:Nat):Int) != id&&view.contains ((3:Nat):Int))=true then a2++[((3:Nat):Int)] else a2)=a3 at l4 ⊢
 have l5:=g a3 ((4:Nat):Int)
 refine step 4 _ _ (by omega) (by omega) (by omega) ?_
 generalize e4:(if (((4:Nat):Int) != id&&view.contains ((4:Nat):Int))=true then a3++[((4:Nat):Int)] else a3)=a4 at l5 ⊢
 have l6:=g a4 ((5:Nat):Int)
 refine step 5 _ _ (by omega) (by omega) (by omega) ?_
 generalize e5:(if (((5:Nat):Int) != id&&view.contains ((5:Nat):Int))=true then a4++[((5:Nat):Int)] else a4)=a5 at l6 ⊢
 refine step 6 _ _ (by omega) (by omega) (by omega) ?_
 rw [fin]
 congr 1
 unfold Fb
 have fl:∀ (p:Int→Bool) (v:Int) (l:List Int),(v::l).filter p=(if p v=true then [v] else [])++l.filter p:=by
  intro p v l; rw [List.filter_cons]; split<;>simp
 have ap:∀ (c:Bool) (a:List Int) (v:Int),(if c=true then a++[v] else a)=a++(if c=true then [v] else []):=by
  intro c a v; split<;>simp
 rw [ap,← e5,ap,← e4,ap,← e3,ap,← e2,ap,← e1,ap]
 simp only [fl,List.filter_nil,List.append_nil,List.nil_append,List.append_assoc]
 rfl)
theorem fu {v:List Int} (h:p_ v) (p:Int→Bool):p_ (v.filter p):=⟨fun a ha=>h.1 a (List.mem_filter.1 ha).1,h.2.filter p⟩
theorem L_ (v:List Int) (x:Int) (h:v.length≤68719476736):GT v x=some (v.filter (· != x)):=YG (by
 unfold PW
 have key:=G2 (n:=v.length) (P:=fun i=>∀ acc:List Int,acc.length≤i→DL v x (i:Int) acc=some (acc++(v.drop i).filter (· != x))) (fun acc ha=>L6 (by
  unfold Gz
  rw [if_neg (by simp)]
  simp)) (fun i hi ih acc ha=>L6 (by
  unfold Gz
  simp only [show ((i:Int)<(v.length:Int)) from by omega,decide_true,if_true,show (0:Int)≤(i:Int) from by omega,Int.toNat_natCast,Ac hi,AR (show i<9223372036854775807 by omega)]
  rw [Bd hi,List.filter_cons]
  by_cases hh:(v[i] != x)=true
  ·rw [if_pos hh,if_pos (by simp; omega),ih _ (by simp; omega),if_pos hh,List.append_assoc]
   rfl
  ·rw [if_neg hh,ih _ (by omega),if_neg hh])) 0 (by omega) [] (by simp)
 simpa using key)
end Go.Proofs.YtaedipailemlcaaGreat.Core

namespace Go.Proofs.YtaedipailemlcaaGreat.Core
open Go
set_option linter.unusedVariables false
set_option linter.unusedSimpArgs false
def DM (view:List Int) (id:Int):List Int:=view.filter (· != id)
def U9 (m:AC) (view:List Int) (its:List AX):AC :=
 (m.1,m.2.1,m.2.2.1,true,m.2.2.2.2.1,(((Fb view m.1).length:Int)==0),Fb view m.1,its,m.2.2.2.2.2.2.2.2)
def KL (m:AC) (e:Int):AC :=
 (m.1,e,false,false,false,false,([]:List Int),m.2.2.2.2.2.2.2.1,(0:Int),(0:Int),(0:Int),(0:Int),(ByteArray.empty,ByteArray.empty,(0:Int)),([]:List Int))
def EO (m:AC) (x:BW) (k:Int):List BW:=[(k,m.1,x.2.1,x.2.2.2.1,x.2.2.2.2.1,([]:List AX))]
def RS (m:AC) (its:List AX):AC :=
 (m.1,m.2.1,m.2.2.1,m.2.2.2.1,m.2.2.2.2.1,m.2.2.2.2.2.1,m.2.2.2.2.2.2.1,its,m.2.2.2.2.2.2.2.2.1,(0:Int),(0:Int),(0:Int),(ByteArray.empty,ByteArray.empty,(0:Int)),([]:List Int))
def FC (m:AC):List Di×AC :=
 if (m.2.2.2.2.2.2.2.2.2.1==1)=true then ([(m.2.2.2.2.2.2.2.2.2.2.1,m.2.1,m.2.2.2.2.2.2.2.2.2.2.2.1,m.2.2.2.2.2.2.2.2.2.2.2.2.1)],RS m (Ey m.2.2.2.2.2.2.2.1 m.2.2.2.2.2.2.2.2.2.2.2.2.1))
 else ([(m.2.2.2.2.2.2.2.2.2.2.1,m.2.1,m.2.2.2.2.2.2.2.2.2.2.2.1,LN m.2.2.2.2.2.2.2.1 m.2.2.2.2.2.2.2.2.2.2.2.2.1.1)],RS m m.2.2.2.2.2.2.2.1)
theorem RU (view:List Int) (its:List AX) (m:AC) (h:view.length≤68719476736) (hi:its.length≤68719476736) :
  Lc view its m=some ((DM view m.1).map (fun v=>(3,m.1,v,m.2.1,0,its)),U9 m view its):=gj (by
 unfold V2
 rw [if_pos (by simpa using hi),Hd view _ (by unfold maxLen; omega),Option.bind_some]
 have key:=G2 (n:=view.length) (P:=fun i=>∀ acc:List BW,acc.length≤i→FX view its (i:Int) (U9 m view its) acc ([]++its)=some (acc++((view.drop i).filter (· != m.1)).map (fun v=>((3:Int),m.1,v,m.2.1,(0:Int),its)),U9 m view its)) (fun acc ha=>RB (by
  unfold LB
  rw [if_neg (by simp)]
  simp)) (fun i hi2 ih acc ha=>RB (by
  unfold LB
  simp only [show ((i:Int)<(view.length:Int)) from by omega,decide_true,if_true,show (0:Int)≤(i:Int) from by omega,Int.toNat_natCast,Ac hi2,AR (show i<9223372036854775807 by omega)]
  rw [show (U9 m view its).1=m.1 from rfl,show (U9 m view its).2.1=m.2.1 from rfl,Bd hi2,List.filter_cons]
  by_cases hh:(view[i] != m.1)=true
  ·rw [if_pos hh,if_pos (by simpa using hi),if_pos (by simp; omega),ih _ (by simp; omega),if_pos hh,List.map_cons,List.append_assoc]
   rfl
  ·rw [if_neg hh,ih _ (by omega),if_neg hh])) 0 (by omega) [] (by simp)
 exact key)
theorem Pm (m:AC) (e:Int) (h:m.2.2.2.2.2.2.2.1.length≤68719476736):Jd m e=some (KL m e):=fP (by
 unfold Ua
 rw [if_pos (by simpa using h)]
 rfl)
theorem F3 (m:AC) (x:BW) (k:Int):DX m x k=some (EO m x k):=cY rfl
theorem He (m:AC) (h:m.2.2.2.2.2.2.2.1.length≤34359738367):FU m=some (FC m):=Z9 (by
 unfold Q6 FC
 rw [Gl _ _ h,RL _ _ (by unfold maxLen; omega)]
 split<;>rfl)
def lP (m:AC) (f:Int):AC :=
 (m.1,m.2.1,m.2.2.1,m.2.2.2.1,m.2.2.2.2.1,m.2.2.2.2.2.1,m.2.2.2.2.2.2.1,m.2.2.2.2.2.2.2.1,m.2.2.2.2.2.2.2.2.1,m.2.2.2.2.2.2.2.2.2.1,m.2.2.2.2.2.2.2.2.2.2.1,m.2.2.2.2.2.2.2.2.2.2.2.1,m.2.2.2.2.2.2.2.2.2.2.2.2.1,m.2.2.2.2.2.2.2.2.2.2.2.2.2.filter (· != f))
def HQ (m:AC) (f:Int):AC×List BW×List Di :=
 if (((m.2.2.2.2.2.2.2.2.2.2.2.2.2.filter (· != f)).length:Int)==0)=true then ((FC (lP m f)).2,[],(FC (lP m f)).1) else (lP m f,[],[])
def aZ (m:AC) (view:List Int) (x:BW):AC×List BW×List Di :=
 if x.1=2 then (if (m.2.2.2.2.1&&!m.2.2.2.1)=true then (U9 m view x.2.2.2.2.2,(DM view m.1).map (fun v=>(3,m.1,v,m.2.1,0,x.2.2.2.2.2)),[]) else (m,[],[]))
 else if x.1=3 then (if (!view.contains m.1||(view.getD 0 0==m.1))=true then (m,[],[]) else if (!m.2.2.2.1&&m.2.2.1)=true then (m,[],[])
  else if m.2.2.2.1=true then (m,EO m x 4,[]) else
   ((m.1,m.2.1,false,true,false,false,([]:List Int),x.2.2.2.2.2,(0:Int),(0:Int),(0:Int),(0:Int),(ByteArray.empty,ByteArray.empty,(0:Int)),([]:List Int)),EO m x 4,[]))
 else if x.1=4 then (if m.2.2.2.2.1=true then
   ((m.1,m.2.1,m.2.2.1,m.2.2.2.1,m.2.2.2.2.1,m.2.2.2.1&&(((m.2.2.2.2.2.2.1.filter (· != x.2.1)).length:Int)==0),m.2.2.2.2.2.2.1.filter (· != x.2.1),m.2.2.2.2.2.2.2),[],[]) else (m,[],[]))
 else if x.1=5 then (if m.2.2.2.1=true then
   ((m.1,m.2.1,m.2.2.1,m.2.2.2.1,m.2.2.2.2.1,m.2.2.2.2.2.1,m.2.2.2.2.2.2.1,Ey m.2.2.2.2.2.2.2.1 (x.2.2.2.2.2.getD 0 (ByteArray.empty,ByteArray.empty,(0:Int))),m.2.2.2.2.2.2.2.2),EO m x 6,[]) else (m,[],[]))
 else if x.1=7 then (if m.2.2.2.1=true then (m,EO m x 8,[]) else (m,[],[]))
 else if (x.1=6∨x.1=8)∧m.2.2.2.2.2.2.2.2.2.1=(if x.1=8 then 2 else 1)∧m.2.2.2.2.2.2.2.2.2.2.2.1=x.2.2.2.2.1 then
  (HQ m x.2.1)
 else (m,[],[])
theorem aa (m:AC) (view:List Int) (x:BW) (hm:Hf m) (hv:view.length≤68719476736) (hv0:0<view.length) (hx:x.2.2.2.2.2.length≤68719476736) (h5:x.1=5→0<x.2.2.2.2.2.length) :
  Pt m view x=some (aZ m view x):=gd (by
 obtain ⟨l1,l2,l3⟩:=hm.lens
 unfold Vy
 rw [hm.copy,Option.bind_some]
 unfold aZ
 by_cases k2:x.1=2
 ·rw [if_pos (by simpa using k2),if_pos k2]
  have J:∀ b y,HI view [] [] b m x y m=some (if b=true then (U9 m view x.2.2.2.2.2,(DM view m.1).map (fun v=>(3,m.1,v,m.2.1,0,x.2.2.2.2.2)),[]) else (m,[],[])):=fun b y=>Zq (by
   unfold Qt
   cases b
   ·rfl
   ·rw [if_pos rfl,RU view _ m hv hx]
    rfl)
  rw [J,J]
  cases m.2.2.2.2.1<;>cases m.2.2.2.1<;>rfl
 ·rw [if_neg (by simpa using k2),if_neg k2]
  by_cases k3:x.1=3
  ·rw [if_pos (by simpa using k3),if_pos k3,CH view _ (by unfold maxLen; omega),Option.bind_some]
   have J2:∀ b y,HJ [] [] b m x y m=some (if m.2.2.2.1=true then (m,EO m x 4,[]) else
     ((m.1,m.2.1,false,true,false,false,([]:List Int),x.2.2.2.2.2,(0:Int),(0:Int),(0:Int),(0:Int),(ByteArray.empty,ByteArray.empty,(0:Int)),([]:List Int)),EO m x 4,[])):=fun b y=>Zr (by
    unfold Qu
    rw [Pm m _ (by omega),F3,Option.bind_some,Option.bind_some]
    have hx':([]:List AX).length+x.2.2.2.2.2.length≤68719476736:=by simpa using hx
    cases m.2.2.2.1
    ·rw [if_pos (show (!false)=true from rfl),if_pos hx']; rfl
    ·rfl)
   have J1:∀ b y,K6 [] [] b m x y m=some (if (!m.2.2.2.1&&m.2.2.1)=true then (m,[],[]) else if m.2.2.2.1=true then (m,EO m x 4,[]) else
     ((m.1,m.2.1,false,true,false,false,([]:List Int),x.2.2.2.2.2,(0:Int),(0:Int),(0:Int),(0:Int),(ByteArray.empty,ByteArray.empty,(0:Int)),([]:List Int)),EO m x 4,[])):=fun b y=>Zs (by
    unfold Qv
    rw [J2,J2]
    cases m.2.2.2.1<;>cases m.2.2.1<;>rfl)
   rw [show view.getD (0:Int).toNat 0=view.getD 0 0 from rfl]
   cases view.contains m.1
   ·rfl
   ·rw [if_neg (by simp),if_pos (by omega),if_pos (by omega),J1]
    cases (view.getD 0 0==m.1)<;>rfl
  ·rw [if_neg (by simpa using k3),if_neg k3]
   by_cases k4:x.1=4
   ·rw [if_pos (by simpa using k4),if_pos k4,L_ _ _ (by omega),Option.bind_some]
    cases m.2.2.2.2.1<;>cases m.2.2.2.1<;>rfl
   ·rw [if_neg (by simpa using k4),if_neg k4]
    by_cases k5:x.1=5
    ·have:=h5 k5
     rw [if_pos (by simpa using k5),if_pos k5,Gl _ _ (by omega),Option.bind_some,F3,Option.bind_some,show x.2.2.2.2.2.getD (0:Int).toNat (ByteArray.empty,ByteArray.empty,(0:Int))=x.2.2.2.2.2.getD 0 (ByteArray.empty,ByteArray.empty,(0:Int)) from rfl]
     cases m.2.2.2.1
     ·rfl
     ·rw [if_pos rfl,if_pos rfl,if_pos (by omega),if_pos (by omega)]
    ·rw [if_neg (by simpa using k5),if_neg k5]
     by_cases k7:x.1=7
     ·rw [if_pos (by simpa using k7),if_pos k7,F3,Option.bind_some]
      cases m.2.2.2.1<;>rfl
     ·rw [if_neg (by simpa using k7),if_neg k7]
      have J5:∀ b y,K7 [] [] b m x y m=some (HQ m x.2.1):=fun b y=>Zt (by
       unfold Qw
       rw [L_ _ _ (by omega),Option.bind_some,He _ (by simp only; omega),Option.bind_some]
       unfold HQ
       split<;>rfl)
      have J4:∀ op y,HK [] [] op m x y m=some (if m.2.2.2.2.2.2.2.2.2.1=op∧m.2.2.2.2.2.2.2.2.2.2.2.1=x.2.2.2.2.1 then (HQ m x.2.1) else (m,[],[])):=fun op y=>Zu (by
       unfold Qx
       rw [J5]
       by_cases h1:m.2.2.2.2.2.2.2.2.2.1=op
       ·rw [if_pos (by simp [h1])]
        by_cases h2:m.2.2.2.2.2.2.2.2.2.2.2.1=x.2.2.2.2.1
        ·rw [if_neg (by simp [h2]),if_pos (show _∧_ from ⟨h1,h2⟩)]
        ·rw [if_pos (by simp [h2]),if_neg (show ¬(_∧_) from fun h=>h2 h.2)]
       ·rw [if_neg (by simp [h1]),if_neg (fun h=>h1 h.1)])
      have J3:∀ b y,HL [] [] b m x y m=some (if b=true∧m.2.2.2.2.2.2.2.2.2.1=(if x.1=8 then 2 else 1)∧m.2.2.2.2.2.2.2.2.2.2.2.1=x.2.2.2.2.1 then (HQ m x.2.1) else (m,[],[])):=fun b y=>Zv (by
       unfold Qy
       rw [J4,J4]
       cases b
       ·rw [if_neg (by simp),if_neg (by simp)]
       ·rw [if_pos rfl]
        by_cases k8:x.1=8
        ·simp only [k8,beq_self_eq_true,if_true,true_and]
        ·rw [if_neg (by simpa using k8)]
         simp only [k8,if_false,true_and])
      rw [J3,J3]
      by_cases k6:x.1=6
      ·simp only [k6,beq_self_eq_true,if_true,true_and,true_or]
      ·rw [if_neg (by simpa using k6)]
       simp only [k6,false_or,beq_iff_eq])
structure V7 (views:List (List Int)):Prop where
 ok:D_ views views.length views=true
theorem Hu {n:Nat}:∀ {l:List (List Int)} {x:List (List Int)},D_ x n l=true↔(∀ v∈l,SD v=true)∧1≤n∧n≤9
 | [],x=>by simp [D_]; omega
 | v::l,x=>by
  rw [D_,Bool.and_eq_true,Hu]
  simp [and_assoc]
theorem V7.len {views:List (List Int)} (h:V7 views):1≤views.length∧views.length≤9:=(Hu.1 h.ok).2
theorem V7.view {views:List (List Int)} (h:V7 views) {v:List Int} (hv:v∈views):1≤v.length∧v.length≤4:=by
 have:=(Hu.1 h.ok).1 v hv
 unfold SD at this
 simp only [Bool.and_eq_true,decide_eq_true_eq] at this
 omega
theorem V7.get {views:List (List Int)} (h:V7 views) {i:Nat} (hi:i<views.length):1≤(views.getD i []).length∧(views.getD i []).length≤4:=by
 rw [Ac hi]
 exact h.view (List.getElem_mem hi)
theorem E2 {views:List (List Int)} (h:V7 views):DK views=some true:=by
 rw [Yk views (by have:=h.len; unfold maxLen; omega) (fun a ha=>by have:=h.view ha; unfold maxLen; omega),h.ok]
theorem Ia {m:AC} (h:Hf m):Eb m=some true:=by
 obtain ⟨h1,h2,h3⟩:=h.lens
 rw [Ww m (by unfold maxLen; omega) (by unfold maxLen; omega) (by unfold maxLen; omega),lO.2 h]
def Fh (m:AC) (views:List (List Int)) (x:BW):AC×List BW×List Di :=
 if (RR x&&(x.2.2.1==m.1)&&decide (m.2.1≤x.2.2.2.1)&&decide (x.2.2.2.1≤(views.length:Int)))=true then
  if x.2.2.2.1=m.2.1 then aZ m (views.getD (m.2.1-1).toNat []) x
  else if (x.1==1&&(x.2.2.2.1==m.2.1+1)&&m.2.2.2.1&&(views.getD (m.2.1-1).toNat []).contains m.1)=true then (KL m x.2.2.2.1,[(2,m.1,x.2.1,x.2.2.2.1,0,m.2.2.2.2.2.2.2.1)],[])
  else if (x.1==3&&(views.getD (x.2.2.2.1-1).toNat []).contains m.1&&((views.getD (x.2.2.2.1-1).toNat []).getD 0 0 != m.1))=true then
   ((m.1,x.2.2.2.1,false,true,false,false,([]:List Int),x.2.2.2.2.2,(0:Int),(0:Int),(0:Int),(0:Int),(ByteArray.empty,ByteArray.empty,(0:Int)),([]:List Int)),EO m x 4,[])
  else (m,[],[])
 else (m,[],[])
theorem pE {x:BW} (h:RR x=true):x.2.2.2.2.2.length≤12∧(x.1=5→x.2.2.2.2.2.length=1):=by
 unfold RR at h
 simp only [Bool.and_eq_true] at h
 refine ⟨LP (x:=x.2.2.2.2.2) h.1.2,fun h5=>?_⟩
 have:=h.2
 rw [if_neg (by omega),if_pos h5] at this
 simp only [beq_iff_eq] at this
 omega
theorem Yn (m:AC) (views:List (List Int)) (x:BW) (hm:Hf m) (hv:V7 views) (hx:x.2.2.2.2.2.length≤68719476736) :
  NT m views x=some (Fh m views x):=fD (by
 have hvl:=hv.len
 have hep:=hm.ep
 unfold UT Fh
 rw [hm.copy,Option.bind_some,Ia hm,Option.bind_some,if_pos (by rfl),E2 hv,Option.bind_some,if_pos (by rfl),dC x (by unfold maxLen; omega),Option.bind_some]
 cases hmo:RR x with
 | false=>rfl
 | true =>
  obtain ⟨xl,x5⟩:=pE hmo
  rw [if_pos (by rfl)]
  by_cases h1:x.2.2.1=m.1
  ·rw [if_pos (by simp [h1])]
   by_cases h2:x.2.2.2.1<m.2.1
   ·rw [if_neg (by simpa using h2),if_neg (by simp; omega)]
   ·rw [if_pos (by simpa using h2)]
    by_cases h3:x.2.2.2.1>(views.length:Int)
    ·rw [if_neg (by simpa using h3),if_neg (by simp; omega)]
    ·rw [if_pos (by simpa using h3),if_neg (by simp; omega),if_pos (by simp [h1]; omega)]
     have wm:IntKind.i64.wrap (m.2.1-1)=m.2.1-1:=AW (by omega)
     have wp:IntKind.i64.wrap (m.2.1+1)=m.2.1+1:=AW (by omega)
     have wx:IntKind.i64.wrap (x.2.2.2.1-1)=x.2.2.2.1-1:=AW (by omega)
     have g1:=hv.get (i:=(m.2.1-1).toNat) (by omega)
     have g2:=hv.get (i:=(x.2.2.2.1-1).toNat) (by omega)
     have J3:∀ b y,En [] [] b m x y m=some (if b=true then ((m.1,x.2.2.2.1,false,true,false,false,([]:List Int),x.2.2.2.2.2,(0:Int),(0:Int),(0:Int),(0:Int),(ByteArray.empty,ByteArray.empty,(0:Int)),([]:List Int)),EO m x 4,[]) else (m,[],[])):=fun b y=>Xp (by
      unfold PA
      cases b
      ·rfl
      ·rw [if_pos rfl,if_pos (by simpa using hx),F3]
       rfl)
     have J2:∀ b y,Jl views [] [] b m x y m=some (if (x.1==3&&(views.getD (x.2.2.2.1-1).toNat []).contains m.1&&((views.getD (x.2.2.2.1-1).toNat []).getD 0 0 != m.1))=true then
       ((m.1,x.2.2.2.1,false,true,false,false,([]:List Int),x.2.2.2.2.2,(0:Int),(0:Int),(0:Int),(0:Int),(ByteArray.empty,ByteArray.empty,(0:Int)),([]:List Int)),EO m x 4,[]) else (m,[],[])):=fun b y=>Xq (by
      unfold PB
      rw [wx,if_pos (by omega),if_pos (by omega),CH _ _ (by unfold maxLen; omega),Option.bind_some,show (views.getD (x.2.2.2.1-1).toNat ([]:List Int)).getD (0:Int).toNat 0=(views.getD (x.2.2.2.1-1).toNat []).getD 0 0 from rfl]
      simp only [J3]
      rw [if_pos (show (0:Int)≤0 by omega),if_pos (show (0:Int)<((views.getD (x.2.2.2.1-1).toNat ([]:List Int)).length:Int) by omega)]
      cases (x.1==3)<;>cases (views.getD (x.2.2.2.1-1).toNat ([]:List Int)).contains m.1<;>rfl)
     have J1:∀ b y,DR views [] [] b m x y m=some (if b=true then (KL m x.2.2.2.1,[(2,m.1,x.2.1,x.2.2.2.1,0,m.2.2.2.2.2.2.2.1)],[]) else
       if (x.1==3&&(views.getD (x.2.2.2.1-1).toNat []).contains m.1&&((views.getD (x.2.2.2.1-1).toNat []).getD 0 0 != m.1))=true then
       ((m.1,x.2.2.2.1,false,true,false,false,([]:List Int),x.2.2.2.2.2,(0:Int),(0:Int),(0:Int),(0:Int),(ByteArray.empty,ByteArray.empty,(0:Int)),([]:List Int)),EO m x 4,[]) else (m,[],[])):=fun b y=>Xr (by
      unfold PC
      have hl:([]:List AX).length+m.2.2.2.2.2.2.2.1.length≤68719476736:=by have:=hm.lens; simp; omega
      rw [J2,Pm m _ (by have:=hm.lens; omega),Option.bind_some,if_pos hl]
      cases b<;>rfl)
     refine Xs ?_
     unfold PD
     rw [wm,wp]
     by_cases h4:x.2.2.2.1=m.2.1
     ·rw [if_pos (by simpa using h4),if_pos (by omega),if_pos (by omega),if_pos h4,aa m _ x hm (by omega) (by omega) hx (fun h=>by have:=x5 h; omega)]
      rfl
     ·rw [if_neg (by simpa using h4),if_neg h4,CH _ _ (by unfold maxLen; omega),Option.bind_some]
      simp only [J1]
      rw [if_pos (show (0:Int)≤m.2.1-1 by omega),if_pos (show m.2.1-1<(views.length:Int) by omega)]
      cases (x.1==1)<;>cases (x.2.2.2.1==m.2.1+1)<;>cases m.2.2.2.1<;>cases (views.getD (m.2.1-1).toNat ([]:List Int)).contains m.1<;>rfl
  ·rw [if_neg (by simp [h1]),if_neg (by simp [h1])])
end Go.Proofs.YtaedipailemlcaaGreat.Core

namespace Go.Proofs.YtaedipailemlcaaGreat.Core
open Go
set_option linter.unusedVariables false
set_option linter.unusedSimpArgs false
theorem V8 {v:List Int}:∀ (m i:Nat),i+m=v.length→(GC v i m=true↔∀ a (ha:a<v.length),i≤a→(1≤v[a]∧v[a]≤6)∧v[a]∉v.take a)
 | 0,i,h=>by
  simp only [GC,true_iff]
  intro a ha hi
  omega
 | m+1,i,h=>by
  have hi:i<v.length:=by omega
  rw [GC,Bool.and_eq_true,Bool.and_eq_true,V8 m (i+1) (by omega),Ac hi]
  simp only [Bool.and_eq_true,decide_eq_true_eq,Bool.not_eq_true',List.contains_eq_mem,decide_eq_false_iff_not]
  constructor
  ·rintro ⟨⟨h1,h2⟩,h3⟩ a ha hia
   by_cases e:a=i
   ·subst e
    exact ⟨h1,h2⟩
   ·exact h3 a ha (by omega)
  ·intro h3
   exact ⟨⟨(h3 i hi (Nat.le_refl _)).1,(h3 i hi (Nat.le_refl _)).2⟩,fun a ha hia=>h3 a ha (by omega)⟩
structure ni (v:List Int):Prop where
 len:1≤v.length∧v.length≤4
 mem:∀ a∈v,1≤a∧a≤6
 nd:v.Nodup
theorem lQ {v:List Int}:SD v=true↔ni v:=by
 unfold SD
 simp only [Bool.and_eq_true,decide_eq_true_eq]
 rw [V8 _ _ (by omega)]
 constructor
 ·rintro ⟨h1,h2⟩
  refine ⟨by omega,fun a ha=>?_,?_⟩
  ·obtain ⟨i,hi,rfl⟩:=List.getElem_of_mem ha
   exact (h2 i hi (Nat.zero_le _)).1
  ·rw [List.nodup_iff_pairwise_ne,List.pairwise_iff_getElem]
   intro i j hi hj hij e
   have:=(h2 j hj (Nat.zero_le _)).2
   apply this
   rw [← e]
   exact List.mem_iff_getElem.2 ⟨i,by rw [List.length_take]; omega,by rw [List.getElem_take]⟩
 ·rintro ⟨h1,h2,h3⟩
  refine ⟨by omega,fun a ha _=>⟨h2 _ (List.getElem_mem ha),fun hm=>?_⟩⟩
  obtain ⟨i,hi,e⟩:=List.getElem_of_mem hm
  rw [List.length_take] at hi
  rw [List.getElem_take] at e
  have:=(List.getElem_inj h3).1 e
  omega
theorem V7.wok {views:List (List Int)} (h:V7 views) {i:Nat} (hi:i<views.length):ni (views.getD i []):=by
 rw [Ac hi]
 exact lQ.1 ((Hu.1 h.ok).1 _ (List.getElem_mem hi))
structure nj (x:BW):Prop where
 kind:1≤x.1∧x.1≤8
 frm:1≤x.2.1∧x.2.1≤6
 to:1≤x.2.2.1∧x.2.2.1≤6
 ep:1≤x.2.2.2.1∧x.2.2.2.1≤9
 num:0≤x.2.2.2.2.1∧x.2.2.2.2.1≤1000000000
 items:BA x.2.2.2.2.2=true
 shape:if x.1=2∨x.1=3 then True else if x.1=5 then x.2.2.2.2.2.length=1 else x.2.2.2.2.2=[]
theorem Yo {x:BW}:RR x=true↔nj x:=by
 unfold RR
 simp only [Bool.and_eq_true,decide_eq_true_eq]
 constructor
 ·rintro ⟨⟨⟨⟨⟨⟨h1,h2⟩,h3⟩,h4⟩,h5⟩,h6⟩,h7⟩
  refine ⟨h1,h2,h3,h4,h5,h6,?_⟩
  split at h7
  ·rename_i e; rw [if_pos e]; trivial
  ·rename_i e
   rw [if_neg e]
   split at h7
   ·rename_i e2; rw [if_pos e2]; simp only [beq_iff_eq] at h7; omega
   ·rename_i e2; rw [if_neg e2]; simp only [beq_iff_eq] at h7; exact List.length_eq_zero_iff.1 (by omega)
 ·rintro ⟨h1,h2,h3,h4,h5,h6,h7⟩
  refine ⟨⟨⟨⟨⟨⟨h1,h2⟩,h3⟩,h4⟩,h5⟩,h6⟩,?_⟩
  split
  ·rfl
  ·rename_i e
   rw [if_neg e] at h7
   split
   ·rename_i e2; rw [if_pos e2] at h7; simp; omega
   ·rename_i e2; rw [if_neg e2] at h7; simp [h7]
theorem RV:BA []=true:=rfl
def Wy (m n:AC) (l:List BW):Prop:=∀ y∈l,nj y∧y.2.1=m.1∧y.2.2.2.1=n.2.1
theorem Yp {m n:AC} {view:List Int} {k num:Int} {its:List AX} (hm:1≤m.1∧m.1≤6) (he:1≤n.2.1∧n.2.1≤9) (hv:∀ a∈view,1≤a∧a≤6) (hk:1≤k∧k≤8) (hn:0≤num∧num≤1000000000) (hi:BA its=true)
  (hs:if k=2∨k=3 then True else if k=5 then its.length=1 else its=[]):Wy m n ((DM view m.1).map fun v=>(k,m.1,v,n.2.1,num,its)):=by
 intro y hy
 obtain ⟨v,hv2,rfl⟩:=List.mem_map.1 hy
 exact ⟨⟨hk,hm,hv v (List.mem_filter.1 hv2).1,he,hn,hi,hs⟩,rfl,rfl⟩
theorem Nz {m n:AC} {x:BW} {k:Int} (hm:1≤m.1∧m.1≤6) (hx:nj x) (he:x.2.2.2.1=n.2.1) (hk:k=4∨k=6∨k=8):Wy m n (EO m x k):=by
 intro y hy
 simp only [EO,List.mem_singleton] at hy
 subst hy
 refine ⟨⟨by show 1≤k∧k≤8; omega,hm,hx.frm,hx.ep,hx.num,RV,?_⟩,rfl,he⟩
 show if k=2∨k=3 then True else if k=5 then ([]:List AX).length=1 else ([]:List AX)=[]
 rw [if_neg (by omega),if_neg (by omega)]
theorem U_ {m n:AC}:Wy m n []:=fun y hy=>by cases hy
theorem VT:Hc ((0:Int),(0:Int),(0:Int),(ByteArray.empty,ByteArray.empty,(0:Int)),([]:List Int))=true:=by simp [Hc,Vn]
theorem Hf.has {m:AC} {view:List Int} {its:List AX} (h:Hf m) (hl:m.2.2.2.2.1=true) (hb:m.2.2.2.1=false) (hi:BA its=true):Hf (U9 m view its):=by
 have hns:m.2.2.2.2.2.1=false:=by
  cases hs:m.2.2.2.2.2.1 with
  | false=>rfl
  | true=>have:=(h.serves hs).1; rw [hb] at this; cases this
 refine ⟨h.id,h.ep,fun hs=>⟨rfl,hl,?_⟩,fun hf=>?_,SE _ _,h.left,hi,h.count,?_⟩
 ·simp only [U9,beq_iff_eq] at hs ⊢
  exact List.length_eq_zero_iff.1 (by omega)
 ·have:=(h.fell hf).2; rw [hl] at this; cases this
 ·rcases h.task with h1 | h1
  ·exact .inl h1
  ·unfold EN at h1
   rw [hns] at h1
   simp at h1
theorem Hf.bare {m:AC} (h:Hf m) {e:Int} (he:1≤e∧e≤9):Hf (KL m e) :=
 ⟨h.id,he,fun hs=>(by cases hs),fun hf=>(by cases hf),⟨by simp [KL],by simp [KL]⟩,⟨by simp [KL],by simp [KL]⟩,h.items,⟨by simp [KL],by simp [KL]⟩,.inl VT⟩
theorem Hf.install {m:AC} (h:Hf m) {e:Int} {its:List AX} (he:1≤e∧e≤9) (hi:BA its=true) :
  Hf (m.1,e,false,true,false,false,([]:List Int),its,(0:Int),(0:Int),(0:Int),(0:Int),(ByteArray.empty,ByteArray.empty,(0:Int)),([]:List Int)) :=
 ⟨h.id,he,fun hs=>(by cases hs),fun hf=>(by cases hf),⟨by simp,by simp⟩,⟨by simp,by simp⟩,hi,⟨by simp,by simp⟩,.inl VT⟩
theorem Hf.clear {m:AC} (h:Hf m) {its:List AX} (hi:BA its=true):Hf (RS m its) :=
 ⟨h.id,h.ep,h.serves,h.fell,h.waits,⟨by simp [RS],by simp [RS]⟩,hi,h.count,.inl VT⟩
theorem Hf.finish {m:AC} (h:Hf m):Hf (FC m).2:=by
 unfold FC
 split
 ·exact h.clear (Wu h.items)
 ·exact h.clear h.items
theorem pF {m:AC} (h:Hf m) (h0:m.2.2.2.2.2.2.2.2.2.1≠0):EN m.2.2.2.2.2.2.2.2.2 m.2.2.2.2.2.1=true:=by
 rcases h.task with h1 | h1
 ·unfold Hc at h1
  simp only [Bool.and_eq_true,beq_iff_eq] at h1
  exact absurd h1.1.1.1.1 h0
 ·exact h1
def fw (l:List Di):Prop:=l.length≤1∧∀ s∈l,0≤s.1∧s.1≤1000
theorem E3:fw []:=⟨by simp,fun s hs=>by cases hs⟩
theorem bR {m:AC} (h:Hf m) (h0:m.2.2.2.2.2.2.2.2.2.1≠0):fw (FC m).1:=by
 have h1:=pF h h0
 unfold EN at h1
 simp only [Bool.and_eq_true,decide_eq_true_eq] at h1
 unfold FC
 split
 ·exact ⟨by simp,fun s hs=>by simp at hs; subst hs; exact h1.1.2⟩
 ·exact ⟨by simp,fun s hs=>by simp at hs; subst hs; exact h1.1.2⟩
structure jI (m:AC) (r:AC×List BW×List Di):Prop where
 mok:Hf r.1
 id:r.1.1=m.1
 ep:m.2.1≤r.1.2.1
 told:Wy m r.1 r.2.1
 tlen:r.2.1.length≤4
 said:fw r.2.2
theorem F4 {m:AC} (h:Hf m):jI m (m,[],[]):=⟨h,rfl,Int.le_refl _,U_,by simp,E3⟩
theorem Ib (view:List Int) (id:Int):(DM view id).length≤view.length:=List.length_filter_le _ _
theorem Hf.left_filter {m:AC} (h:Hf m) (f:Int):Hf (lP m f):=by
 refine ⟨h.id,h.ep,h.serves,h.fell,h.waits,fu h.left _,h.items,h.count,?_⟩
 rcases h.task with h1 | h1
 ·left
  unfold Hc at h1 ⊢
  simp only [Bool.and_eq_true,beq_iff_eq] at h1 ⊢
  refine ⟨h1.1,?_⟩
  have h2:=List.length_filter_le (· != f) m.2.2.2.2.2.2.2.2.2.2.2.2.2
  have h3:=h1.2
  show (((m.2.2.2.2.2.2.2.2.2.2.2.2.2.filter (· != f)).length:Nat):Int)=0
  omega
 ·exact .inr h1
theorem pG {m:AC} {view:List Int} {x:BW} (hm:Hf m) (hv:ni view) (hx:nj x) (he:x.2.2.2.1=m.2.1):jI m (aZ m view x):=by
 unfold aZ
 split
 ·split
  ·rename_i h1 h2
   simp only [Bool.and_eq_true,Bool.not_eq_true'] at h2
   refine ⟨hm.has h2.1 h2.2 hx.items,rfl,Int.le_refl _,?_,by simp only [List.length_map]; have:=Ib view m.1; have:=hv.len; omega,E3⟩
   exact Yp (n:=U9 m view x.2.2.2.2.2) hm.id hm.ep hv.mem (by omega) (by omega) hx.items (by simp)
  ·exact F4 hm
 ·split
  ·split
   ·exact F4 hm
   ·split
    ·exact F4 hm
    ·split
     ·exact ⟨hm,rfl,Int.le_refl _,Nz hm.id hx he (by omega),by simp [EO],E3⟩
     ·exact ⟨hm.install hm.ep hx.items,rfl,Int.le_refl _,Nz hm.id hx he (by omega),by simp [EO],E3⟩
  ·split
   ·split
    ·rename_i hl
     refine ⟨⟨hm.id,hm.ep,fun hs=>?_,hm.fell,fu hm.waits _,hm.left,hm.items,hm.count,?_⟩,rfl,Int.le_refl _,U_,by simp,E3⟩
     ·simp only [Bool.and_eq_true,beq_iff_eq] at hs
      exact ⟨hs.1,hl,List.length_eq_zero_iff.1 (show (List.filter (· != x.2.1) m.2.2.2.2.2.2.1).length=0 by have h:((List.filter (· != x.2.1) m.2.2.2.2.2.2.1).length:Int)=0:=hs.2; omega)⟩
     ·rcases hm.task with h1 | h1
      ·exact .inl h1
      ·right
       have hs:m.2.2.2.2.2.1=true:=by
        unfold EN at h1
        simp only [Bool.and_eq_true] at h1
        exact h1.1.1.2
       obtain ⟨a,b,c⟩:=hm.serves hs
       rw [hs] at h1
       simp only [c,List.filter_nil,List.length_nil,a,Bool.true_and]
       exact h1
    ·exact F4 hm
   ·split
    ·split
     ·exact ⟨⟨hm.id,hm.ep,hm.serves,hm.fell,hm.waits,hm.left,Wu hm.items,hm.count,hm.task⟩,rfl,Int.le_refl _,Nz hm.id hx he (by omega),by simp [EO],E3⟩
     ·exact F4 hm
    ·split
     ·split
      ·exact ⟨hm,rfl,Int.le_refl _,Nz hm.id hx he (by omega),by simp [EO],E3⟩
      ·exact F4 hm
     ·by_cases hc:(x.1=6∨x.1=8)∧m.2.2.2.2.2.2.2.2.2.1=(if x.1=8 then 2 else 1)∧m.2.2.2.2.2.2.2.2.2.2.2.1=x.2.2.2.2.1
      ·rw [if_pos hc]
       have hn:=hm.left_filter x.2.1
       unfold HQ
       split
       ·refine ⟨hn.finish,?_,?_,U_,by simp,bR hn ?_⟩
        ·unfold FC; split<;>rfl
        ·unfold FC; split<;>exact Int.le_refl _
        ·have:=hc.2.1
         show m.2.2.2.2.2.2.2.2.2.1≠0
         rw [this]
         split<;>omega
       ·exact ⟨hn,rfl,Int.le_refl _,U_,by simp,E3⟩
      ·rw [if_neg hc]
       exact F4 hm
theorem j6 {m:AC} {views:List (List Int)} {x:BW} (hm:Hf m) (hv:V7 views):jI m (Fh m views x):=by
 unfold Fh
 split
 ·rename_i hc
  simp only [Bool.and_eq_true,decide_eq_true_eq,beq_iff_eq] at hc
  obtain ⟨⟨⟨h1,h2⟩,h3⟩,h4⟩:=hc
  have hx:=Yo.1 h1
  have hvl:=hv.len
  have he:=hm.ep
  split
  ·rename_i e
   exact pG hm (hv.wok (by omega)) hx e
  ·split
   ·refine ⟨hm.bare hx.ep,rfl,h3,fun y hy=>?_,by simp,E3⟩
    simp only [List.mem_singleton] at hy
    subst hy
    exact ⟨⟨by simp,hm.id,hx.frm,hx.ep,by simp,hm.items,by simp⟩,rfl,rfl⟩
   ·split
    ·exact ⟨hm.install hx.ep hx.items,rfl,h3,Nz hm.id hx rfl (by omega),by simp [EO],E3⟩
    ·exact F4 hm
 ·exact F4 hm
end Go.Proofs.YtaedipailemlcaaGreat.Core

namespace Go.Proofs.YtaedipailemlcaaGreat.Core
open Go
set_option linter.unusedVariables false
set_option linter.unusedSimpArgs false
theorem Yq (a b:Int):Jg a b=some (decide (a<b)):=ff (by
 have h:∀ a,H9 a=some false:=fun a=>cw (by unfold TR; simp)
 unfold Ux
 rw [h,Option.bind_some,if_neg (by simp)])
def jJ (l:List Int) (j:Nat):List Int:=(l.set (j+1) (l.getD j 0)).set j (l.getD (j+1) 0)
def nl:Nat→List Int→List Int
 | 0,l=>l
 | j+1,l=>if l.getD (j+1) 0<l.getD j 0 then nl j (jJ l j) else l
def qG:Nat→Nat→List Int→List Int
 | 0,_,l=>l
 | k+1,i,l=>qG k (i+1) (nl i l)
theorem Yr (l:List Int) (j:Nat):(jJ l j).length=l.length:=by simp [jJ]
theorem dO:∀ (j:Nat) (l:List Int),(nl j l).length=l.length
 | 0,l=>rfl
 | j+1,l=>by
  unfold nl
  split
  ·rw [dO j,Yr]
  ·rfl
theorem mU {l:List Int} {j:Nat} (h:j+1<l.length):(jJ l j).Perm l:=by
 obtain ⟨p,a,b,q,rfl,rfl⟩:∃ p a b q,l=p++a::b::q∧p.length=j :=
  ⟨l.take j,l[j],l[j+1],l.drop (j+2),by rw [← List.drop_eq_getElem_cons h,← List.drop_eq_getElem_cons (show j<l.length by omega),List.take_append_drop],by rw [List.length_take]; omega⟩
 have e:jJ (p++a::b::q) p.length=p++b::a::q:=by
  unfold jJ
  have e1:(p++a::b::q).getD p.length 0=a:=by simp [List.getD]
  have e2:(p++a::b::q).getD (p.length+1) 0=b:=by simp [List.getD]
  rw [e1,e2,List.set_append_right _ _ (by omega),List.set_append_right _ _ (by omega)]
  simp
 rw [e]
 exact List.Perm.append_left p (List.Perm.swap a b q)
theorem j7:∀ (j:Nat) (l:List Int),j<l.length→(nl j l).Perm l
 | 0,l,_=>List.Perm.refl l
 | j+1,l,h=>by
  unfold nl
  split
  ·exact (j7 j _ (by rw [Yr]; omega)).trans (mU h)
  ·exact List.Perm.refl l
theorem f5:∀ (k i:Nat) (l:List Int),i+k=l.length→(qG k i l).Perm l
 | 0,_,l,_=>List.Perm.refl l
 | k+1,i,l,h=>(f5 k (i+1) _ (by rw [dO]; omega)).trans (j7 i l (by omega))
theorem lR {l:List Int} {j:Nat} (h:j+1<l.length) (a:Nat):(jJ l j).getD a 0=if a=j then l.getD (j+1) 0 else if a=j+1 then l.getD j 0 else l.getD a 0:=by
 unfold jJ
 simp only [List.getD_eq_getElem?_getD,List.getElem?_set,List.length_set]
 by_cases h1:a=j
 ·subst h1
  rw [if_pos rfl,if_pos (by omega),if_pos rfl]
  simp
 ·rw [if_neg (fun e=>h1 e.symm),if_neg h1]
  by_cases h2:a=j+1
  ·subst h2
   rw [if_pos rfl,if_pos (by omega),if_pos rfl]
   simp
  ·rw [if_neg (fun e=>h2 e.symm),if_neg h2]
def qA (i:Nat) (l:List Int):Prop:=∀ a b,a<b→b≤i→l.getD a 0≤l.getD b 0
theorem nn (i:Nat):∀ (j:Nat) (l:List Int),j≤i→i<l.length→(∀ a b,a<b→b≤i→b≠j→l.getD a 0≤l.getD b 0)→qA i (nl j l)
 | 0,l,_,_,h=>fun a b h1 h2=>h a b h1 h2 (by omega)
 | j+1,l,hj,hi,h=>by
  unfold nl
  split
  ·rename_i hlt
   refine nn i j _ (by omega) (by rw [Yr]; exact hi) fun a b h1 h2 h3=>?_
   rw [lR (by omega),lR (by omega)]
   rw [if_neg h3]
   by_cases hb:b=j+1
   ·subst hb
    rw [if_pos rfl]
    by_cases ha:a=j
    ·rw [if_pos ha]; omega
    ·rw [if_neg ha,if_neg (by omega)]
     exact h a j (by omega) (by omega) (by omega)
   ·rw [if_neg hb]
    by_cases ha:a=j
    ·rw [if_pos ha]; exact h (j+1) b (by omega) h2 hb
    ·rw [if_neg ha]
     by_cases ha2:a=j+1
     ·rw [if_pos ha2]; exact h j b (by omega) h2 hb
     ·rw [if_neg ha2]; exact h a b h1 h2 hb
  ·rename_i hlt
   intro a b h1 h2
   by_cases hb:b=j+1
   ·subst hb
    by_cases ha:a=j
    ·subst ha; omega
    ·have:=h a j (by omega) (by omega) (by omega)
     omega
   ·exact h a b h1 h2 hb
theorem no:∀ (k i:Nat) (l:List Int),i+k=l.length→1≤i→qA (i-1) l→qA (l.length-1) (qG k i l)
 | 0,i,l,h,hi,hu=>by
  have:i-1=l.length-1:=by omega
  rw [← this]; exact hu
 | k+1,i,l,h,hi,hu=>by
  have:=no k (i+1) (nl i l) (by rw [dO]; omega) (by omega) (by
   rw [Nat.add_sub_cancel]
   exact nn i i l (Nat.le_refl _) (by omega) fun a b h1 h2 h3=>hu a b h1 (by omega))
  rw [dO] at this
  exact this
theorem lT (n i:Nat) (hn:n≤12) (g:List Int→List Int) (K:∀ l:List Int,l.length=n→Ai 0 (n:Int) ((i:Int)+1) l=some (g l)) (hi:i<n) :
  ∀ (j:Nat) (l:List Int),j<n→l.length=n→BP 0 (n:Int) (i:Int) (j:Int) l=some (g (nl j l))
 | 0,l,hj,hl=>Dh (by
  unfold B6
  rw [if_neg (by simp),AW (by omega)]
  exact K l hl)
 | j+1,l,hj,hl=>Dh (by
  unfold B6
  have e1:IntKind.i64.wrap (((j+1:Nat):Int)-1)=(j:Int):=by rw [AW (by omega)]; omega
  have e2:((j+1:Nat):Int).toNat=j+1:=by omega
  have e3:((j:Nat):Int).toNat=j:=by omega
  rw [if_pos (by simp<;>omega),if_pos (by omega),if_pos (by omega),e1,if_pos (by omega),if_pos (by omega),Yq,Option.bind_some,e2,e3]
  unfold nl
  by_cases h:l.getD (j+1) 0<l.getD j 0
  ·rw [if_pos (by simpa using h),if_pos h]
   refine HZ ?_
   unfold Dg
   simp only [e1,e2,e3]
   rw [if_pos (by omega),if_pos (by omega),if_pos (by omega),if_pos (by omega),if_pos (by omega),if_pos (by omega),if_pos (by omega),if_pos (by rw [List.length_set]; omega)]
   exact lT n i hn g K hi j (jJ l j) (by omega) (by rw [Yr]; exact hl)
  ·rw [if_neg (by simpa using h),if_neg h,AW (by omega)]
   exact K l hl)
theorem lU (n:Nat) (hn:n≤12):∀ (k i:Nat) (l:List Int),i+k=n→l.length=n→Ai 0 (n:Int) (i:Int) l=some (qG k i l)
 | 0,i,l,h,hl=>B7 (by
  unfold BQ
  rw [if_neg (by simp; omega)]
  rfl)
 | k+1,i,l,h,hl=>B7 (by
  unfold BQ
  rw [if_pos (by simp; omega)]
  exact lT n i hn (qG k (i+1)) (fun l hl=>by have:=lU n hn k (i+1) l (by omega) hl; rw [← this]; congr 1) (by omega) i l (by omega) hl)
set_option maxRecDepth 100000 in
theorem qB (n:Nat) (h:n≤12):∃ r,MH (IntKind.u64.wrap (n:Int))=some r:=by
 have h1:∃ r,Ex (n:Int) 0=some r:=by
  have hs:IntKind.u8.wrap (n:Int)=(n:Int):=by
   have:n=0∨n=1∨n=2∨n=3∨n=4∨n=5∨n=6∨n=7∨n=8∨n=9∨n=10∨n=11∨n=12:=by omega
   rcases this with h | h | h | h | h | h | h | h | h | h | h | h | h<;>subst h<;>rfl
  have ht:∃ r,G1 (n:Int) 0=some r:=by
   unfold G1
   rw [if_neg (by simp; omega),if_pos (by rw [hs]; omega),if_pos (by
    rw [hs]
    exact Int.lt_of_lt_of_le (show (n:Int)<13 by omega) (by decide))]
   exact ⟨_,rfl⟩
  obtain ⟨r,hr⟩:=ht
  exact ⟨r,Uy hr⟩
 obtain ⟨r,hr⟩:=h1
 have h2:Jh (n:Int)=some r:=YY (by
  unfold Pe
  rw [if_neg (by simp; omega)]
  exact Uz (by
   unfold L9
   rw [if_neg (by simp; omega)]
   exact hr))
 have hu:IntKind.u64.wrap (n:Int)=(n:Int):=by
  have:n=0∨n=1∨n=2∨n=3∨n=4∨n=5∨n=6∨n=7∨n=8∨n=9∨n=10∨n=11∨n=12:=by omega
  rcases this with h | h | h | h | h | h | h | h | h | h | h | h | h<;>subst h<;>rfl
 exact ⟨r,cm (by unfold TK; rw [hu,h2]; rfl)⟩
theorem lV (l:List Int) (h:l.length≤12):∃ r,Co l=some r∧r.Perm l∧r.Pairwise (· ≤ ·):=by
 obtain ⟨b,hb⟩:=qB l.length h
 have hins:∃ r,CS 0 (l.length:Int) l=some r∧r.Perm l∧r.Pairwise (· ≤ ·):=by
  by_cases h0:l.length=0
  ·have:l=[]:=List.length_eq_zero_iff.1 h0
   subst this
   refine ⟨[],EX ?_,List.Perm.refl _,List.Pairwise.nil⟩
   unfold CT
   refine B7 ?_
   unfold BQ
   rw [if_neg (by rw [AW (by omega)]; simp)]
  ·refine ⟨qG (l.length-1) 1 l,EX ?_,f5 _ _ _ (by omega),?_⟩
   ·unfold CT
    rw [AW (by omega)]
    exact lU l.length h (l.length-1) 1 l (by omega) rfl
   ·have hu:=no (l.length-1) 1 l (by omega) (Nat.le_refl _) (fun a b h1 h2=>by omega)
    have hp:=(f5 (l.length-1) 1 l (by omega)).length_eq
    rw [List.pairwise_iff_getElem]
    intro i j hi hj hij
    have:=hu i j hij (by omega)
    rwa [Ac hi,Ac hj] at this
 obtain ⟨r,h1,h2,h3⟩:=hins
 refine ⟨r,Tf ?_,h2,h3⟩
 unfold Kf
 have hq:Bu 0 (l.length:Int) b l=some r:=M8 (by
  unfold Ga
  refine LH ?_
  unfold Fa
  rw [if_pos (by rw [AW (by omega)]; simp; omega),h1]
  rfl)
 rw [hb,Option.bind_some,hq]
 rfl
theorem lW:∀ {a b:List Int},a.Pairwise (· < ·)→b.Pairwise (· < ·)→(∀ x,x∈a↔x∈b)→a=b
 | [],[],_,_,_=>rfl
 | [],y::b,_,_,h=>absurd ((h y).2 (by simp)) (by simp)
 | x::a,[],_,_,h=>absurd ((h x).1 (by simp)) (by simp)
 | x::a,y::b,ha,hb,h=>by
  rw [List.pairwise_cons] at ha hb
  have hxy:x=y:=by
   have h1:=(h x).1 (by simp)
   have h2:=(h y).2 (by simp)
   rcases List.mem_cons.1 h1 with e | h1
   ·exact e
   ·rcases List.mem_cons.1 h2 with e | h2
    ·exact e.symm
    ·have:=ha.1 y h2
     have:=hb.1 x h1
     omega
  subst hxy
  rw [lW ha.2 hb.2 fun z=>?_]
  constructor
  ·intro hz
   rcases List.mem_cons.1 ((h z).1 (by simp [hz])) with e | h
   ·subst e; have:=ha.1 z hz; omega
   ·exact h
  ·intro hz
   rcases List.mem_cons.1 ((h z).2 (by simp [hz])) with e | h
   ·subst e; have:=hb.1 z hz; omega
   ·exact h
theorem ki {view:List Int} {id x:Int} (hv:ni view):x∈Fb view id↔x∈DM view id:=by
 unfold Fb DM
 simp only [List.mem_filter,Bool.and_eq_true,List.contains_eq_mem,decide_eq_true_eq]
 constructor
 ·rintro ⟨_,h1,h2⟩; exact ⟨h2,h1⟩
 ·rintro ⟨h1,h2⟩
  have:=hv.mem x h1
  refine ⟨?_,h2,h1⟩
  have h5:x=1∨x=2∨x=3∨x=4∨x=5∨x=6:=by omega
  rcases h5 with h | h | h | h | h | h<;>simp [h]
theorem iH {view:List Int} (hv:ni view) (id:Int):Co (DM view id)=some (Fb view id):=by
 have hl:=Ib view id
 have:=hv.len
 obtain ⟨r,h1,h2,h3⟩:=lV (DM view id) (by omega)
 rw [h1]
 congr 1
 have hnd:r.Nodup:=h2.nodup_iff.2 (hv.nd.filter _)
 refine lW ?_ (SE view id).2 fun x=>(h2.mem_iff).trans (ki hv).symm
 have:=h3.and (List.nodup_iff_pairwise_ne.1 hnd)
 exact this.imp fun {a b} h=>by have:=h.1; have:=h.2; omega
theorem j8 {view:List Int} (hv:ni view) (id:Int):(Fb view id).length=(DM view id).length:=by
 obtain ⟨r,h1,h2,_⟩:=lV (DM view id) (by have:=Ib view id; have:=hv.len; omega)
 rw [iH hv] at h1
 cases h1
 exact h2.length_eq
end Go.Proofs.YtaedipailemlcaaGreat.Core

namespace Go.Proofs.YtaedipailemlcaaGreat.Core
open Go
set_option linter.unusedVariables false
set_option linter.unusedSimpArgs false
def Iv:AC:=((0:Int),(0:Int),false,false,false,false,([]:List Int),([]:List AX),(0:Int),(0:Int),(0:Int),(0:Int),(ByteArray.empty,ByteArray.empty,(0:Int)),([]:List Int))
def Vk (m:AC) (views:List (List Int)) (op call:Int) (key val:ByteArray):Bool :=
 m.2.2.2.2.2.1&&(m.2.2.2.2.2.2.2.2.2.1==0)&&decide (m.2.2.2.2.2.2.2.2.1<900)&&(op==1||op==2)&&(decide (0≤call)&&decide (call≤1000))&&(decide (1≤(key.size:Int))&&decide ((key.size:Int)≤12))&&decide ((val.size:Int)≤20)&&(op==1||mR val)&&decide (m.2.1≤(views.length:Int))&&((views.getD (m.2.1-1).toNat []).getD 0 0==m.1)
def N0 (m:AC) (key val:ByteArray):AX:=(key,val,1000*m.2.1+(m.2.2.2.2.2.2.2.2.1+1))
def KM (m:AC) (view:List Int) (op call:Int) (key val:ByteArray):AC :=
 (m.1,m.2.1,m.2.2.1,m.2.2.2.1,m.2.2.2.2.1,m.2.2.2.2.2.1,m.2.2.2.2.2.2.1,m.2.2.2.2.2.2.2.1,m.2.2.2.2.2.2.2.2.1+1,op,call,m.2.2.2.2.2.2.2.2.1+1,N0 m key val,Fb view m.1)
def kj (m:AC) (view:List Int) (op:Int) (key val:ByteArray):List BW :=
 (DM view m.1).map fun v=>(if op=1 then 5 else 7,m.1,v,m.2.1,m.2.2.2.2.2.2.2.2.1+1,if op=1 then [N0 m key val] else [])
def ae (m:AC) (view:List Int) (op call:Int) (key val:ByteArray):AC×List BW×List Di×Bool :=
 if Fb view m.1=[] then ((FC (KM m view op call key val)).2,[],(FC (KM m view op call key val)).1,true) else (KM m view op call key val,kj m view op key val,[],true)
def GM (m:AC) (views:List (List Int)) (op call:Int) (key val:ByteArray):AC×List BW×List Di×Bool :=
 if Vk m views op call key val=true then
  (if op=1∧Vn (.pair .str (.pair .str (.int .i64))) (LN (Ey m.2.2.2.2.2.2.2.1 (N0 m key val)) key) (N0 m key val)=false then (Iv,[],[],false) else ae m (views.getD (m.2.1-1).toNat []) op call key val)
 else (Iv,[],[],false)
theorem dE (m:AC) (views:List (List Int)) (op call:Int) (key val:ByteArray) (hm:Hf m) (hv:V7 views):R2 m views op call key val=some (GM m views op call key val):=jB (by
 have hvl:=hv.len
 have hep:=hm.ep
 have hl:=hm.lens
 have hcnt:=hm.count
 have wm:IntKind.i64.wrap (m.2.1-1)=m.2.1-1:=AW (by omega)
 have wc:IntKind.i64.wrap (m.2.2.2.2.2.2.2.2.1+1)=m.2.2.2.2.2.2.2.2.1+1:=AW (by omega)
 have w1:IntKind.i64.wrap (1000*m.2.1)=1000*m.2.1:=AW (by omega)
 have w2:IntKind.i64.wrap (1000*m.2.1+(m.2.2.2.2.2.2.2.2.1+1))=1000*m.2.1+(m.2.2.2.2.2.2.2.2.1+1):=AW (by omega)
 unfold Xw
 rw [Ia hm,Option.bind_some,if_neg (by simp),E2 hv,Option.bind_some,if_neg (by simp)]
 have bad:Vk m views op call key val=false→GM m views op call key val=(Iv,[],[],false):=fun h=>by unfold GM; rw [h]; rfl
 by_cases c1:m.2.2.2.2.2.1=true
 case neg =>
  rw [if_pos (by simpa using c1),bad (by unfold Vk; simp [c1])]
  rfl
 rw [if_neg (by simpa using c1)]
 by_cases c2:m.2.2.2.2.2.2.2.2.2.1=0
 case neg =>
  rw [if_pos (by simpa using c2),bad (by unfold Vk; simp [c2])]
  rfl
 rw [if_neg (by simpa using c2)]
 by_cases c3:m.2.2.2.2.2.2.2.2.1<900
 case neg =>
  rw [if_pos (by simp; omega),bad (by unfold Vk; simp [c3])]
  rfl
 rw [if_neg (by simp; omega)]
 have view:∀ (hep2:m.2.1≤(views.length:Int)),1≤(views.getD (m.2.1-1).toNat []).length∧(views.getD (m.2.1-1).toNat []).length≤4:=fun h=>hv.get (by omega)
 have L2:∀ (v:List Int) (hv:v.length≤4) (y:AC) (its:List AX),op=1→DY op [] v 0 m y [] (KM m v op call key val) (N0 m key val) its=some (KM m v op call key val,kj m v op key val,[],true):=by
  intro v hv y its ho
  have key':=G2 (n:=v.length) (P:=fun i=>∀ acc:List BW,acc.length≤i→DY op [] v (i:Int) m y acc (KM m v op call key val) (N0 m key val) its=some (KM m v op call key val,acc++((v.drop i).filter (· != m.1)).map (fun v=>((5:Int),m.1,v,m.2.1,m.2.2.2.2.2.2.2.2.1+1,[N0 m key val])),[],true)) (fun acc ha=>S9 (by
   unfold MQ
   rw [if_neg (by simp)]
   simp)) (fun i hi ih acc ha=>S9 (by
   unfold MQ
   simp only [show ((i:Int)<(v.length:Int)) from by omega,decide_true,if_true,show (0:Int)≤(i:Int) from by omega,Int.toNat_natCast,Ac hi,AR (show i<9223372036854775807 by omega),ho,beq_self_eq_true]
   rw [ho] at ih
   rw [Bd hi,List.filter_cons]
   by_cases hh:v[i]=m.1
   ·rw [if_pos (by simpa using hh),ih _ (by omega),if_neg (by simpa using hh)]
   ·rw [if_neg (by simpa using hh),if_pos (by simp; omega),ih _ (by simp; omega),if_pos (by simpa using hh),List.map_cons,List.append_assoc]
    rfl)) 0 (by omega) [] (by simp)
  unfold kj
  rw [if_pos ho,if_pos ho]
  exact key'
 have L4:∀ (v:List Int) (hv:v.length≤4) (y:AC),op≠1→DZ op [] v 0 m y [] (KM m v op call key val) (N0 m key val)=some (KM m v op call key val,kj m v op key val,[],true):=by
  intro v hv y ho
  have key':=G2 (n:=v.length) (P:=fun i=>∀ acc:List BW,acc.length≤i→DZ op [] v (i:Int) m y acc (KM m v op call key val) (N0 m key val)=some (KM m v op call key val,acc++((v.drop i).filter (· != m.1)).map (fun v=>((7:Int),m.1,v,m.2.1,m.2.2.2.2.2.2.2.2.1+1,([]:List AX))),[],true)) (fun acc ha=>S_ (by
   unfold MR
   rw [if_neg (by simp)]
   simp)) (fun i hi ih acc ha=>S_ (by
   unfold MR
   have ho':¬ ((op==1)=true):=by simpa using ho
   simp only [show ((i:Int)<(v.length:Int)) from by omega,decide_true,if_true,show (0:Int)≤(i:Int) from by omega,Int.toNat_natCast,Ac hi,AR (show i<9223372036854775807 by omega),if_neg ho']
   rw [Bd hi,List.filter_cons]
   by_cases hh:v[i]=m.1
   ·rw [if_pos (by simpa using hh),ih _ (by omega),if_neg (by simpa using hh)]
   ·rw [if_neg (by simpa using hh),if_pos (by simp; omega),ih _ (by simp; omega),if_pos (by simpa using hh),List.map_cons,List.append_assoc]
    rfl)) 0 (by omega) [] (by simp)
  unfold kj
  rw [if_neg ho,if_neg ho]
  exact key'
 have nil_iff:∀ l:List Int,((l.length:Int)==0)=true↔l=[]:=fun l=>by
  rw [beq_iff_eq]
  exact ⟨fun h=>List.length_eq_zero_iff.1 (by omega),fun h=>by rw [h]; rfl⟩
 have J1:∀ (b:Bool) (y:AC) (its:List AX),op=1→m.2.1≤(views.length:Int)→MO views op call [] b m y [] (m.1,m.2.1,m.2.2.1,m.2.2.2.1,m.2.2.2.2.1,m.2.2.2.2.2.1,m.2.2.2.2.2.2.1,m.2.2.2.2.2.2.2.1,m.2.2.2.2.2.2.2.2.1+1,m.2.2.2.2.2.2.2.2.2) (N0 m key val) its=some (ae m (views.getD (m.2.1-1).toNat []) op call key val):=fun b y its ho he=>cK (by
  have:=view he
  unfold S6 ae
  rw [wm,if_pos (by omega),if_pos (by omega),Hd _ _ (by unfold maxLen; omega),Option.bind_some]
  by_cases hz:Fb (views.getD (m.2.1-1).toNat []) m.1=[]
  ·rw [if_pos ((nil_iff _).2 hz),if_pos hz]
   have:=He (KM m (views.getD (m.2.1-1).toNat []) op call key val) (by show m.2.2.2.2.2.2.2.1.length≤_; omega)
   unfold KM at this
   simp only
   rw [this]
   rfl
  ·rw [if_neg (fun h=>hz ((nil_iff _).1 h)),if_neg hz]
   exact L2 _ (by omega) y its ho)
 have J3:∀ (b:Bool) (y:AC),op≠1→m.2.1≤(views.length:Int)→MP views op call [] b m y [] (m.1,m.2.1,m.2.2.1,m.2.2.2.1,m.2.2.2.2.1,m.2.2.2.2.2.1,m.2.2.2.2.2.2.1,m.2.2.2.2.2.2.2.1,m.2.2.2.2.2.2.2.2.1+1,m.2.2.2.2.2.2.2.2.2) (N0 m key val)=some (ae m (views.getD (m.2.1-1).toNat []) op call key val):=fun b y ho he=>cL (by
  have:=view he
  unfold S7 ae
  rw [wm,if_pos (by omega),if_pos (by omega),Hd _ _ (by unfold maxLen; omega),Option.bind_some]
  by_cases hz:Fb (views.getD (m.2.1-1).toNat []) m.1=[]
  ·rw [if_pos ((nil_iff _).2 hz),if_pos hz]
   have:=He (KM m (views.getD (m.2.1-1).toNat []) op call key val) (by show m.2.2.2.2.2.2.2.1.length≤_; omega)
   unfold KM at this
   simp only
   rw [this]
   rfl
  ·rw [if_neg (fun h=>hz ((nil_iff _).1 h)),if_neg hz]
   exact L4 _ (by omega) y ho)
 have J0:∀ (b:Bool) (y:AC),Vk m views op call key val=true→m.2.1≤(views.length:Int)→CG views op call key val [] b m y []=some (GM m views op call key val):=fun b y hmay he=>cM (by
  unfold S8 GM
  rw [if_pos hmay,hm.copy,Option.bind_some,wc,w1,w2]
  by_cases ho:op=1
  ·rw [if_pos (by simpa using ho),Gl _ _ (by omega),Option.bind_some,RL _ _ (by have:=bQ m.2.2.2.2.2.2.2.1 (key,val,1000*m.2.1+(m.2.2.2.2.2.2.2.2.1+1)); unfold maxLen; omega),Option.bind_some]
   cases hq:Vn (.pair .str (.pair .str (.int .i64))) (LN (Ey m.2.2.2.2.2.2.2.1 (N0 m key val)) key) (N0 m key val) with
   | false =>
    have hq':Vn Z (LN (Ey m.2.2.2.2.2.2.2.1 (key,val,1000*m.2.1+(m.2.2.2.2.2.2.2.2.1+1))) key) (key,val,1000*m.2.1+(m.2.2.2.2.2.2.2.2.1+1))=false:=hq
    rw [hq',if_pos (show (true != false)=true from rfl),if_pos (show op=1∧false=false from ⟨ho,rfl⟩)]
    rfl
   | true =>
    have hq':Vn Z (LN (Ey m.2.2.2.2.2.2.2.1 (key,val,1000*m.2.1+(m.2.2.2.2.2.2.2.2.1+1))) key) (key,val,1000*m.2.1+(m.2.2.2.2.2.2.2.2.1+1))=true:=hq
    rw [hq',if_neg (show ¬ (true != true)=true by simp),if_neg (show ¬ (op=1∧true=false) by rintro ⟨_,h⟩; cases h)]
    exact J1 _ y _ ho he
  ·rw [if_neg (by simpa using ho),if_neg (fun h=>ho h.1)]
   exact J3 _ y ho he)
 have tail:op=1∨op=2→((AO call 0 1000).bind fun y3=>(if (!y3)=true then (some (Iv,([]:List BW),([]:List Di),false)) else ((AO (key.size:Int) 1 12).bind fun y4=>(if (!y4)=true then (some (Iv,([]:List BW),([]:List Di),false)) else (if (decide ((val.size:Int)>20))=true then (some (Iv,([]:List BW),([]:List Di),false)) else (if (op==2)=true then (if (!(val.toList==(⟨#[]⟩:ByteArray).toList))=true then (some (Iv,([]:List BW),([]:List Di),false)) else (if (decide (m.2.1>(views.length:Int)))=true then (some (Iv,([]:List BW),([]:List Di),false)) else (if 0≤(IntKind.i64.wrap (m.2.1-1)) then (if (IntKind.i64.wrap (m.2.1-1))<(views.length:Int) then (if 0≤(0:Int) then (if (0:Int)<((views.getD (IntKind.i64.wrap (m.2.1-1)).toNat ([]:List Int)).length:Int) then (if (((views.getD (IntKind.i64.wrap (m.2.1-1)).toNat ([]:List Int)).getD (0:Int).toNat 0) != m.1)=true then (some (Iv,([]:List BW),([]:List Di),false)) else (CG views op call key val ([]:List Di) (((views.getD (IntKind.i64.wrap (m.2.1-1)).toNat ([]:List Int)).getD (0:Int).toNat 0) != m.1) m Iv ([]:List BW))) else none) else none) else none) else none))) else (if (decide (m.2.1>(views.length:Int)))=true then (some (Iv,([]:List BW),([]:List Di),false)) else (if 0≤(IntKind.i64.wrap (m.2.1-1)) then (if (IntKind.i64.wrap (m.2.1-1))<(views.length:Int) then (if 0≤(0:Int) then (if (0:Int)<((views.getD (IntKind.i64.wrap (m.2.1-1)).toNat ([]:List Int)).length:Int) then (if (((views.getD (IntKind.i64.wrap (m.2.1-1)).toNat ([]:List Int)).getD (0:Int).toNat 0) != m.1)=true then (some (Iv,([]:List BW),([]:List Di),false)) else (CG views op call key val ([]:List Di) (((views.getD (IntKind.i64.wrap (m.2.1-1)).toNat ([]:List Int)).getD (0:Int).toNat 0) != m.1) m Iv ([]:List BW))) else none) else none) else none) else none))))))))=some (GM m views op call key val):=by
  intro hop
  rw [Ag,Option.bind_some,Ag,Option.bind_some,wm]
  cases c5:(decide (0≤call)&&decide (call≤1000)) with
  | false=>rw [bad (by unfold Vk; rw [c5]; simp)]; rfl
  | true =>
  rw [if_neg (by simp)]
  cases c6:(decide (1≤(key.size:Int))&&decide ((key.size:Int)≤12)) with
  | false=>rw [bad (by unfold Vk; rw [c6]; simp)]; rfl
  | true =>
  rw [if_neg (by simp)]
  by_cases c7:(val.size:Int)≤20
  case neg=>rw [if_pos (by simp; omega),bad (by unfold Vk; simp [c7])]
  rw [if_neg (by simp; omega)]
  have last:(op==1||mR val)=true→(if (decide (m.2.1>(views.length:Int)))=true then (some (Iv,([]:List BW),([]:List Di),false)) else (if 0≤m.2.1-1 then (if m.2.1-1<(views.length:Int) then (if 0≤(0:Int) then (if (0:Int)<((views.getD (m.2.1-1).toNat ([]:List Int)).length:Int) then (if (((views.getD (m.2.1-1).toNat ([]:List Int)).getD (0:Int).toNat 0) != m.1)=true then (some (Iv,([]:List BW),([]:List Di),false)) else (CG views op call key val ([]:List Di) (((views.getD (m.2.1-1).toNat ([]:List Int)).getD (0:Int).toNat 0) != m.1) m Iv ([]:List BW))) else none) else none) else none) else none))=some (GM m views op call key val):=by
   intro c8
   by_cases c9:m.2.1≤(views.length:Int)
   case neg=>rw [if_pos (by simp; omega),bad (by unfold Vk; simp [c9])]
   have:=view c9
   rw [if_neg (by simp; omega),if_pos (by omega),if_pos (by omega),if_pos (by omega),if_pos (by omega),show (views.getD (m.2.1-1).toNat ([]:List Int)).getD (0:Int).toNat 0=(views.getD (m.2.1-1).toNat []).getD 0 0 from rfl]
   by_cases c10:(views.getD (m.2.1-1).toNat []).getD 0 0=m.1
   case neg=>rw [if_pos (by simpa using c10),bad (by unfold Vk; rw [show ((views.getD (m.2.1-1).toNat []).getD 0 0==m.1)=false from by simpa using c10,Bool.and_false])]
   rw [if_neg (by simpa using c10)]
   refine J0 _ _ ?_ c9
   unfold Vk
   rw [c1,c5,c6,c8]
   simp only [c2,beq_self_eq_true,c3,c7,c9,c10,decide_true,Bool.and_true,Bool.true_and]
   rcases hop with h | h<;>simp [h]
  by_cases c8:op=2
  ·rw [if_pos (by simpa using c8)]
   cases ce:mR val with
   | false =>
    rw [if_pos (by rw [kf,ce]; rfl),bad (by unfold Vk; rw [ce,show (op==1)=false from by simp [c8]]; simp)]
   | true =>
    rw [if_neg (by rw [kf,ce]; simp)]
    exact last (by rw [ce,Bool.or_true])
  ·rw [if_neg (by simpa using c8)]
   exact last (by rw [show (op==1)=true from by simp; omega]; rfl)
 by_cases c4:op=1
 ·rw [if_neg (by simpa using c4)]
  exact tail (.inl c4)
 ·rw [if_pos (by simpa using c4)]
  by_cases c4':op=2
  ·rw [if_neg (by simpa using c4')]
   exact tail (.inr c4')
  ·rw [if_pos (by simpa using c4'),bad (by unfold Vk; rw [show (op==1||op==2)=false from by simp [c4,c4']]; simp)]
   rfl)
structure lX (m:AC) (r:AC×List BW×List Di×Bool):Prop where
 mok:r.2.2.2=true→Hf r.1
 id:r.2.2.2=true→r.1.1=m.1
 ep:r.2.2.2=true→r.1.2.1=m.2.1
 told:r.2.2.2=true→Wy m r.1 r.2.1
 tlen:r.2.1.length≤4
 said:fw r.2.2.1
theorem iI {m:AC}:lX m (Iv,[],[],false):=⟨fun h=>(by cases h),fun h=>(by cases h),fun h=>(by cases h),fun h=>(by cases h),by simp,E3⟩
theorem mV {m:AC} {views:List (List Int)} {op call:Int} {key val:ByteArray} (h:Vk m views op call key val=true) :
  m.2.2.2.2.2.1=true∧m.2.2.2.2.2.2.2.2.2.1=0∧m.2.2.2.2.2.2.2.2.1<900∧(op=1∨op=2)∧(0≤call∧call≤1000)∧(1≤(key.size:Int)∧(key.size:Int)≤12)∧(val.size:Int)≤20∧(op=1∨mR val=true)∧m.2.1≤(views.length:Int)∧(views.getD (m.2.1-1).toNat []).getD 0 0=m.1:=by
 unfold Vk at h
 simp only [Bool.and_eq_true,Bool.or_eq_true,decide_eq_true_eq,beq_iff_eq] at h
 obtain ⟨⟨⟨⟨⟨⟨⟨⟨⟨h1,h2⟩,h3⟩,h4⟩,h5⟩,h6⟩,h7⟩,h8⟩,h9⟩,h10⟩:=h
 exact ⟨h1,h2,h3,h4,h5,h6,h7,h8,h9,h10⟩
theorem np {m:AC} {key val:ByteArray} (h:Hf m) (h3:m.2.2.2.2.2.2.2.2.1<900) (h6:1≤(key.size:Int)∧(key.size:Int)≤12) (h7:(val.size:Int)≤20):BA [N0 m key val]=true:=by
 refine bP.2 ⟨fun b hb=>?_,?_,by simp⟩
 ·simp only [List.mem_singleton] at hb
  subst hb
  unfold Pi N0
  have:=h.ep
  have:=h.count
  simp only [Bool.and_eq_true,decide_eq_true_eq]
  omega
 ·exact mT.2 (by simp)
theorem Hf.task1 {m:AC} {view:List Int} {op call:Int} {key val:ByteArray} (h:Hf m) (h1:m.2.2.2.2.2.1=true) (h3:m.2.2.2.2.2.2.2.2.1<900) (h4:op=1∨op=2) (h5:0≤call∧call≤1000):Hf (KM m view op call key val):=by
 have hc:=h.count
 refine ⟨h.id,h.ep,h.serves,h.fell,h.waits,SE _ _,h.items,?_,.inr ?_⟩
 ·show 0≤m.2.2.2.2.2.2.2.2.1+1∧m.2.2.2.2.2.2.2.2.1+1≤900
  omega
 ·unfold EN KM
  rw [h1]
  simp only [Bool.and_eq_true,Bool.or_eq_true,decide_eq_true_eq,beq_iff_eq]
  exact ⟨⟨⟨h4,trivial⟩,h5⟩,by omega⟩
theorem mW {m:AC} {views:List (List Int)} {op call:Int} {key val:ByteArray} (hm:Hf m) (hv:V7 views):lX m (GM m views op call key val):=by
 unfold GM
 split
 ·rename_i hmay
  obtain ⟨h1,h2,h3,h4,h5,h6,h7,h8,h9,h10⟩:=mV hmay
  split
  ·exact iI
  ·unfold ae
   have hep:=hm.ep
   have ht:=hm.task1 (view:=views.getD (m.2.1-1).toNat []) (key:=key) (val:=val) h1 h3 h4 h5
   have h0:(KM m (views.getD (m.2.1-1).toNat []) op call key val).2.2.2.2.2.2.2.2.2.1≠0:=by show op≠0; omega
   have hw:=hv.wok (i:=(m.2.1-1).toNat) (by omega)
   split
   ·exact ⟨fun _=>ht.finish,fun _=>(by unfold FC; split<;>rfl),fun _=>(by unfold FC; split<;>rfl),fun _=>U_,by simp,bR ht h0⟩
   ·refine ⟨fun _=>ht,fun _=>rfl,fun _=>rfl,fun _=>?_,?_,E3⟩
    ·unfold kj
     have hc:=hm.count
     have hi:=np hm h3 h6 h7
     refine Yp (n:=KM m (views.getD (m.2.1-1).toNat []) op call key val) hm.id hm.ep hw.mem (by split<;>omega) (by omega) ?_ ?_
     ·split
      ·exact hi
      ·exact RV
     ·by_cases ho:op=1
      ·rw [if_pos ho,if_pos ho,if_neg (by omega),if_pos rfl]; rfl
      ·rw [if_neg ho,if_neg ho,if_neg (by omega),if_neg (by omega)]
    ·unfold kj
     simp only [List.length_map]
     have:=Ib (views.getD (m.2.1-1).toNat []) m.1
     have:=hw.len
     omega
 ·exact iI
def SF (m:AC) (e:Int):AC:=(m.1,e,false,false,true,false,([]:List Int),m.2.2.2.2.2.2.2.1,(0:Int),(0:Int),(0:Int),(0:Int),(ByteArray.empty,ByteArray.empty,(0:Int)),([]:List Int))
def LQ (m:AC) (views:List (List Int)) (e:Int):AC×List BW×Bool :=
 if 2≤e∧e≤(views.length:Int)∧m.2.1<e∧(views.getD (e-1).toNat []).getD 0 0=m.1 then
  if (m.2.2.2.1&&(m.2.1==e-1)&&(views.getD (e-2).toNat []).contains m.1)=true then
   (U9 (SF m e) (views.getD (e-1).toNat []) m.2.2.2.2.2.2.2.1,(DM (views.getD (e-1).toNat []) m.1).map (fun v=>(3,m.1,v,e,0,m.2.2.2.2.2.2.2.1)),true)
  else (SF m e,(DM (views.getD (e-2).toNat []) m.1).map (fun v=>(1,m.1,v,e,0,[])),true)
 else (Iv,[],false)
theorem Hf.new1 {m:AC} (h:Hf m) {e:Int} (he:1≤e∧e≤9):Hf (SF m e) :=
 ⟨h.id,he,fun hs=>(by cases hs),fun hf=>(by cases hf),⟨by simp [SF],by simp [SF]⟩,⟨by simp [SF],by simp [SF]⟩,h.items,⟨by simp [SF],by simp [SF]⟩,.inl VT⟩
theorem dF (m:AC) (views:List (List Int)) (e:Int) (hm:Hf m) (hv:V7 views):R4 m views e=some (LQ m views e):=jH (by
 have hvl:=hv.len
 have hep:=hm.ep
 have hl:=hm.lens
 unfold Yf LQ
 rw [Ia hm,Option.bind_some,if_neg (by simp),E2 hv,Option.bind_some,if_neg (by simp),Ag,Option.bind_some]
 by_cases h1:2≤e∧e≤(views.length:Int)
 case neg =>
  rw [if_pos (by rw [← Bool.decide_and,decide_eq_false h1]; rfl),if_neg (fun h=>h1 ⟨h.1,h.2.1⟩)]
  rfl
 have we:IntKind.i64.wrap (e-1)=e-1:=AW (by omega)
 have we2:IntKind.i64.wrap (e-2)=e-2:=AW (by omega)
 rw [if_neg (by rw [← Bool.decide_and,decide_eq_true h1]; simp),we]
 by_cases h2:m.2.1<e
 case neg =>
  rw [if_pos (by simp; omega),if_neg (fun h=>h2 h.2.2.1)]
  rfl
 have g1:=hv.get (i:=(e-1).toNat) (by omega)
 have g2:=hv.get (i:=(e-2).toNat) (by omega)
 rw [if_neg (by simp; omega),if_pos (by omega),if_pos (by omega),if_pos (by omega),if_pos (by omega),show (views.getD (e-1).toNat ([]:List Int)).getD (0:Int).toNat 0=(views.getD (e-1).toNat []).getD 0 0 from rfl]
 by_cases h3:(views.getD (e-1).toNat []).getD 0 0=m.1
 case neg =>
  rw [if_pos (by simpa using h3),if_neg (fun h=>h3 h.2.2.2)]
  rfl
 rw [if_neg (by simpa using h3),if_pos ⟨h1.1,h1.2,h2,h3⟩]
 have L2:∀ y,Ee views e 0 m y [] ([]++m.2.2.2.2.2.2.2.1) (SF m e)=some (SF m e,(DM (views.getD (e-2).toNat []) m.1).map (fun v=>(1,m.1,v,e,0,[])),true):=by
  intro y
  have hcopy:=(hm.new1 (e:=e) (by omega)).copy
  have key':=G2 (n:=(views.getD (e-2).toNat []).length) (P:=fun i=>∀ acc:List BW,acc.length≤i→Ee views e (i:Int) m y acc ([]++m.2.2.2.2.2.2.2.1) (SF m e)=some (SF m e,acc++(((views.getD (e-2).toNat []).drop i).filter (· != m.1)).map (fun v=>((1:Int),m.1,v,e,(0:Int),([]:List AX))),true)) (fun acc ha=>TW (by
   unfold MX
   rw [we2,if_pos (by omega),if_pos (by omega),if_neg (by simp),hcopy]
   simp)) (fun i hi ih acc ha=>TW (by
   unfold MX
   rw [we2,if_pos (by omega),if_pos (by omega)]
   simp only [show ((i:Int)<((views.getD (e-2).toNat ([]:List Int)).length:Int)) from by omega,decide_true,if_true,show (0:Int)≤(i:Int) from by omega,Int.toNat_natCast,AR (show i<9223372036854775807 by omega),show (0:Int)≤e-2 from by omega,show e-2<(views.length:Int) from by omega]
   rw [Ac hi,Bd hi,List.filter_cons]
   by_cases hh:((views.getD (e-2).toNat ([]:List Int))[i] != m.1)=true
   ·rw [if_pos hh,if_pos (by simp; omega),ih _ (by simp; omega),if_pos hh,List.map_cons,List.append_assoc]
    rfl
   ·rw [if_neg hh,ih _ (by omega),if_neg hh])) 0 (by omega) [] (by simp)
  exact key'
 have J1:∀ (b:Bool) y,F7 views e b m y []=some (if b=true then (U9 (SF m e) (views.getD (e-1).toNat []) m.2.2.2.2.2.2.2.1,(DM (views.getD (e-1).toNat []) m.1).map (fun v=>(3,m.1,v,e,0,m.2.2.2.2.2.2.2.1)),true) else (SF m e,(DM (views.getD (e-2).toNat []) m.1).map (fun v=>(1,m.1,v,e,0,[])),true)):=fun b y=>c_ (by
  unfold TU
  rw [we,if_pos (by simp; omega)]
  cases b
  ·rw [if_neg (by simp)]
   exact L2 y
  ·rw [if_pos rfl,if_pos (by omega),if_pos (by omega)]
   have hh:=RU (views.getD (e-1).toNat []) m.2.2.2.2.2.2.2.1 (SF m e) (by omega) (by omega)
   have hc:=((hm.new1 (e:=e) (by omega)).has (view:=views.getD (e-1).toNat []) (its:=m.2.2.2.2.2.2.2.1) rfl rfl hm.items).copy
   unfold SF at hh hc ⊢
   simp only [List.nil_append]
   rw [hh,Option.bind_some,hc]
   rfl)
 refine dA ?_
 unfold TV
 rw [we,we2,CH _ _ (by unfold maxLen; omega),Option.bind_some]
 simp only [J1]
 rw [if_pos (show (0:Int)≤e-2 by omega),if_pos (show e-2<(views.length:Int) by omega)]
 cases m.2.2.2.1<;>cases (m.2.1==e-1)<;>cases (views.getD (e-2).toNat ([]:List Int)).contains m.1<;>rfl)
theorem mX {m:AC} {views:List (List Int)} {e:Int} (hm:Hf m) (hv:V7 views):(LQ m views e).2.2=true→Hf (LQ m views e).1∧(LQ m views e).1.1=m.1∧Wy m (LQ m views e).1 (LQ m views e).2.1∧(LQ m views e).2.1.length≤4:=by
 intro h
 have hvl:=hv.len
 have hep:=hm.ep
 unfold LQ at h ⊢
 split
 ·rename_i hc
  have he:1≤e∧e≤9:=by omega
  split
  ·have hw:=hv.wok (i:=(e-1).toNat) (by omega)
   refine ⟨(hm.new1 he).has rfl rfl hm.items,rfl,Yp (n:=U9 (SF m e) (views.getD (e-1).toNat []) m.2.2.2.2.2.2.2.1) hm.id he hw.mem (by omega) (by omega) hm.items (by simp),?_⟩
   simp only [List.length_map]
   have:=Ib (views.getD (e-1).toNat []) m.1
   have:=hw.len
   omega
  ·have hw:=hv.wok (i:=(e-2).toNat) (by omega)
   refine ⟨hm.new1 he,rfl,Yp (n:=SF m e) hm.id he hw.mem (by omega) (by omega) RV (by simp),?_⟩
   simp only [List.length_map]
   have:=Ib (views.getD (e-2).toNat []) m.1
   have:=hw.len
   omega
 ·rename_i hc
  rw [if_neg hc] at h
  cases h
def Ys (m:AC):AC:=(m.1,m.2.1,true,false,false,false,([]:List Int),([]:List AX),(0:Int),(0:Int),(0:Int),(0:Int),(ByteArray.empty,ByteArray.empty,(0:Int)),([]:List Int))
theorem gt (m:AC):UQ m=some (Ys m):=j3 rfl
theorem Hf.fall1 {m:AC} (h:Hf m):Hf (Ys m) :=
 ⟨h.id,h.ep,fun hs=>(by cases hs),fun hf=>⟨rfl,rfl⟩,⟨by simp [Ys],by simp [Ys]⟩,⟨by simp [Ys],by simp [Ys]⟩,RV,⟨by simp [Ys],by simp [Ys]⟩,.inl VT⟩
def G3 (id:Int) (views:List (List Int)):AC :=
 (id,(1:Int),false,(views.getD 0 []).contains id,((views.getD 0 []).getD 0 0==id),((views.getD 0 []).getD 0 0==id),([]:List Int),([]:List AX),(0:Int),(0:Int),(0:Int),(0:Int),(ByteArray.empty,ByteArray.empty,(0:Int)),([]:List Int))
theorem Vl (id:Int) (views:List (List Int)) (hi:1≤id∧id≤6) (hv:V7 views):Kv id views=some (G3 id views,true):=Z0 (by
 have hvl:=hv.len
 have g:=hv.get (i:=0) (by omega)
 unfold Q2
 rw [E2 hv,Option.bind_some,if_pos (by rfl),Ag,Option.bind_some,if_neg (by rw [← Bool.decide_and,decide_eq_true hi]; simp)]
 refine Vc ?_
 unfold Ml
 rw [show views.getD (0:Int).toNat ([]:List Int)=views.getD 0 [] from rfl,CH _ _ (by unfold maxLen; omega),Option.bind_some]
 repeat rw [if_pos (by omega)]
 rfl)
theorem Hf.first1 {id:Int} {views:List (List Int)} (hi:1≤id∧id≤6) (hv:V7 views):Hf (G3 id views):=by
 have hvl:=hv.len
 have g:=hv.get (i:=0) (by omega)
 refine ⟨hi,by simp [G3],fun hs=>⟨?_,hs,rfl⟩,fun hf=>(by cases hf),⟨by simp [G3],by simp [G3]⟩,⟨by simp [G3],by simp [G3]⟩,RV,⟨by simp [G3],by simp [G3]⟩,.inl VT⟩
 simp only [G3,beq_iff_eq] at hs ⊢
 rw [← hs,List.contains_iff_mem,Ac (show 0<(views.getD 0 []).length by omega)]
 exact List.getElem_mem _
end Go.Proofs.YtaedipailemlcaaGreat.Core

namespace Go.Proofs.YtaedipailemlcaaGreat.Core
open Go
set_option linter.unusedVariables false
set_option linter.unusedSimpArgs false
theorem bS (x:List Int) (n:Int) (h:x.length≤maxLen):Cn x n=some (x.contains n):=N5 (by
 have hm:x.length≤9223372036854775807:=h
 have key:=G2 (n:=x.length) (P:=fun i=>∃ r,B5 x n (x.length:Int) (i:Int)=some r∧(decide (r≥0)=(x.drop i).contains n)) ⟨-1,Bc (by
  unfold BG
  rw [if_neg (by simp)]),by simp⟩ (fun i hi ⟨r,hr,hc⟩=>by
  by_cases e:n=x[i]
  ·refine ⟨(i:Int),Bc ?_,?_⟩
   ·unfold BG
    simp only [show ((i:Int)<(x.length:Int)) from by omega,decide_true,if_true,show (0:Int)≤(i:Int) from by omega,Int.toNat_natCast,Ac hi]
    rw [if_pos (by simpa using e)]
   ·rw [Bd hi,List.contains_cons,e]
    simp only [beq_self_eq_true,Bool.true_or]
    exact decide_eq_true (by omega)
  ·refine ⟨r,Bc ?_,?_⟩
   ·unfold BG
    simp only [show ((i:Int)<(x.length:Int)) from by omega,decide_true,if_true,show (0:Int)≤(i:Int) from by omega,Int.toNat_natCast,Ac hi,AR (show i<9223372036854775807 by omega)]
    rw [if_neg (by simpa using e)]
    exact hr
   ·rw [Bd hi,hc,List.contains_cons]
    simp [e]) 0 (by omega)
 obtain ⟨r,hr,hc⟩:=key
 unfold HT
 have:Cb x n=some r:=Jy hr
 rw [this,Option.bind_some,hc,List.drop_zero])
theorem VD (m:AC) (h1:m.2.2.2.2.2.2.1.length≤68719476736) (h2:m.2.2.2.2.2.2.2.1.length≤68719476736) (h3:m.2.2.2.2.2.2.2.2.2.2.2.2.2.length≤68719476736):DQ m=some m:=Xz (by
 unfold PE
 rw [Dt h1,Option.bind_some,Ao h2,Option.bind_some,Dt h3,Option.bind_some])
theorem Hf.icopy {m:AC} (h:Hf m):DQ m=some m:=by
 obtain ⟨h1,h2,h3⟩:=h.lens
 exact VD m (by omega) (by omega) (by omega)
theorem Yt (x:BW) (h:x.2.2.2.2.2.length≤68719476736):NW x=some x:=fZ (by
 unfold Uq
 rw [Ao h,Option.bind_some])
theorem af (view:List Int) (m:AC) (h:view.length≤68719476736):El view m=some (DM view m.1,m):=Uh (by
 unfold L1
 have key:=G2 (n:=view.length) (P:=fun i=>∀ acc:List Int,acc.length≤i→CQ view (view.length:Int) (i:Int) m acc=some (acc++(view.drop i).filter (· != m.1),m)) (fun acc ha=>Ir (by
  unfold FV
  rw [if_neg (by simp)]
  simp)) (fun i hi ih acc ha=>Ir (by
  unfold FV
  simp only [show ((i:Int)<(view.length:Int)) from by omega,decide_true,if_true,show (0:Int)≤(i:Int) from by omega,Int.toNat_natCast,Ac hi,AR (show i<9223372036854775807 by omega)]
  rw [Bd hi,List.filter_cons]
  by_cases hh:(view[i] != m.1)=true
  ·rw [if_pos hh,if_pos (by simp; omega),ih _ (by simp; omega),if_pos hh,List.append_assoc]
   rfl
  ·rw [if_neg hh,ih _ (by omega),if_neg hh])) 0 (by omega) [] (by simp)
 exact key)
def qX (m:AC) (ids:List Int) (x:BW):List BW:=ids.map fun v=>(x.1,m.1,v,m.2.1,x.2.2.2.2)
theorem Ce (ids:List Int) (x:BW) (m:AC) (h:ids.length≤68719476736) (hx:x.2.2.2.2.2.length≤68719476736):Al ids x m=some (qX m ids x,m):=Tg (by
 unfold Kh
 have key:=G2 (n:=ids.length) (P:=fun i=>∀ acc:List BW,acc.length≤i→C7 ids (ids.length:Int) (i:Int) m x acc=some (acc++(ids.drop i).map (fun v=>(x.1,m.1,v,m.2.1,x.2.2.2.2)),m)) (fun acc ha=>Hm (by
  unfold E7
  rw [if_neg (by simp)]
  simp)) (fun i hi ih acc ha=>Hm (by
  unfold E7
  simp only [show ((i:Int)<(ids.length:Int)) from by omega,decide_true,if_true,show (0:Int)≤(i:Int) from by omega,Int.toNat_natCast,Ac hi,AR (show i<9223372036854775807 by omega)]
  rw [Yt x hx,Option.bind_some,if_pos (by simp; omega),ih _ (by simp; omega),Bd hi,List.map_cons,List.append_assoc]
  rfl)) 0 (by omega) [] (by simp)
 exact key)
def qm (m:AC):AC:=(m.1,m.2.1,m.2.2.1,m.2.2.2.1,false,false,([]:List Int),m.2.2.2.2.2.2.2.1,(0:Int),(0:Int),(0:Int),(0:Int),(ByteArray.empty,ByteArray.empty,(0:Int)),([]:List Int))
theorem V9 (m:AC):GU m=some (qm m):=YX rfl
theorem Wz (view:List Int) (its:List AX) (m:AC) (hv:ni view) (hi:its.length≤68719476736) (hs:m.2.2.2.2.2.1=false) :
  Fp view its m=some ((DM view m.1).map (fun v=>(3,m.1,v,m.2.1,0,its)),U9 m view its):=R_ (by
 have hvl:=hv.len
 have hrl:=Ib view m.1
 unfold Jz
 rw [af view m (by omega),Option.bind_some,Ao hi,Option.bind_some,Dt (by show (DM view m.1).length≤_; omega),Option.bind_some,iH hv,Option.bind_some]
 have ho:=j8 hv m.1
 unfold U9
 rw [ho]
 by_cases h0:(DM view m.1).length=0
 ·rw [if_pos (by simpa using h0),Ce _ _ _ (by show (DM view m.1).length≤_; omega) hi,Option.bind_some,h0]
  rfl
 ·rw [if_neg (by simpa using h0),Ce _ _ _ (by show (DM view m.1).length≤_; omega) hi,Option.bind_some]
  have:(((DM view m.1).length:Int)==0)=false:=by simpa using h0
  rw [this]
  show some (_,(m.1,m.2.1,m.2.2.1,true,m.2.2.2.2.1,m.2.2.2.2.2.1,_))=_
  rw [hs]
  rfl)
theorem Pn (v:List Int) (x:Int) (h:v.length≤68719476736):Je v x=some (v.filter (· != x)):=fW (by
 unfold Ul
 rw [Dt h,Option.bind_some,M6,Option.bind_some]
 rfl)
theorem f7 (m:AC) (h:m.2.2.2.2.2.2.2.1.length≤34359738367):Fo m=some (FC m):=We (by
 unfold Nj FC
 rw [Pl _ _ h,aX _ _ (by unfold maxLen; omega)]
 split
 ·rw [Option.bind_some]
  refine Kg ?_
  unfold GJ
  rfl
 ·rw [Option.bind_some]
  refine Kg ?_
  unfold GJ
  rfl)
def nq (m:AC) (views:List (List Int)) (x:BW):List BW×AC :=
 if (x.2.2.2.1==m.2.1+1&&m.2.2.2.1&&(views.getD (m.2.1-1).toNat []).contains m.1)=true then ([(2,m.1,x.2.1,x.2.2.2.1,0,m.2.2.2.2.2.2.2.1)],KL m x.2.2.2.1) else ([],m)
theorem f8 (m:AC) (views:List (List Int)) (x:BW) (hm:Hf m) (hv:V7 views) (he:m.2.1≤views.length) :
  IK views x m=some (nq m views x):=Wk (by
 have hvl:=hv.len
 have hep:=hm.ep
 obtain ⟨l1,l2,l3⟩:=hm.lens
 have hf:m.2.2.2.1=true→m.2.2.1=false:=fun h=>by
  cases hh:m.2.2.1 with
  | false=>rfl
  | true=>rw [(hm.fell hh).1] at h; cases h
 unfold Ns nq
 rw [AW (n:=m.2.1+1) (by omega),AW (n:=m.2.1-1) (by omega)]
 by_cases c1:x.2.2.2.1=m.2.1+1
 case neg=>rw [if_pos (by simpa using c1),if_neg (by simp [c1])]
 rw [if_neg (by simpa using c1)]
 by_cases c2:m.2.2.2.1=true
 case neg=>rw [if_pos (by simpa using c2),if_neg (by simp [c2])]
 rw [if_neg (by simpa using c2),if_pos (by omega),if_pos (by omega),bS _ _ (by have:=(hv.get (i:=(m.2.1-1).toNat) (by omega)).2; unfold maxLen; omega),Option.bind_some]
 cases c3:(views.getD (m.2.1-1).toNat []).contains m.1 with
 | false=>rw [if_pos (by rfl),if_neg (by simp)]
 | true =>
  rw [if_neg (by simp),if_pos (by simp [c1,c2])]
  exact Th (by
   unfold Kj
   rw [V9,Option.bind_some,Ce _ _ _ (by simp) (by show m.2.2.2.2.2.2.2.1.length≤_; omega),Option.bind_some]
   show some (_,(m.1,x.2.2.2.1,m.2.2.1,_))=_
   rw [hf c2]
   rfl))
def ns (m:AC) (e:Int) (its:List AX):AC:=(m.1,e,false,true,false,false,([]:List Int),its,(0:Int),(0:Int),(0:Int),(0:Int),(ByteArray.empty,ByteArray.empty,(0:Int)),([]:List Int))
def nt (m:AC) (view:List Int) (x:BW):List BW×AC :=
 if (!view.contains m.1||(view.getD 0 0==m.1))=true then ([],m)
 else if x.2.2.2.1>m.2.1∨(m.2.2.2.1=false∧m.2.2.1=false) then ([(4,m.1,x.2.1,x.2.2.2.1,0,([]:List AX))],ns m x.2.2.2.1 x.2.2.2.2.2)
 else if m.2.2.2.1=false then ([],m) else ([(4,m.1,x.2.1,m.2.1,0,([]:List AX))],m)
theorem Yu (m:AC) (view:List Int) (x:BW) (hv:ni view) (hx:x.2.2.2.2.2.length≤68719476736) :
  GF view x m=some (nt m view x):=Ti (by
 have hvl:=hv.len
 unfold Kk nt
 rw [bS _ _ (by unfold maxLen; omega),Option.bind_some]
 cases c3:view.contains m.1 with
 | false=>rw [if_pos (by rfl),if_pos (by rfl)]
 | true =>
  rw [if_neg (by simp),if_pos (by omega),if_pos (by omega)]
  by_cases c4:view.getD 0 0=m.1
  ·rw [if_pos (by simpa using c4),if_pos (by rw [c4]; simp)]
  ·rw [if_neg (by simpa using c4),if_neg (by have:(view.getD 0 0==m.1)=false:=(by simpa using c4); rw [this]; simp)]
   have J1:∀ b:Bool,CC b m x=some (if b=true then ([(4,m.1,x.2.1,x.2.2.2.1,0,([]:List AX))],ns m x.2.2.2.1 x.2.2.2.2.2) else if m.2.2.2.1=false then ([],m) else ([(4,m.1,x.2.1,m.2.1,0,([]:List AX))],m)):=fun b=>P1 (by
    unfold Ho
    cases b with
    | true =>
     rw [if_pos rfl,if_pos rfl,Ao hx,Option.bind_some,V9,Option.bind_some,Ce _ _ _ (by simp) (by simp),Option.bind_some]
     rfl
    | false =>
     simp only [Bool.false_eq_true,if_false]
     cases hb:m.2.2.2.1 with
     | false=>simp
     | true =>
      simp only [Bool.not_true,Bool.false_eq_true,if_false,Bool.true_eq_false]
      rw [Ce _ _ _ (by simp) (by simp),Option.bind_some]
      rfl)
   refine P2 ?_
   unfold Hp
   rw [J1,J1,J1]
   by_cases c5:x.2.2.2.1>m.2.1
   ·rw [if_pos (by simpa using c5)]
    simp [c5]
   ·rw [if_neg (by simpa using c5)]
    cases hb:m.2.2.2.1<;>cases hf:m.2.2.1<;>simp [c5])
def jK (m:AC) (x:BW):List BW×AC :=
 if (x.2.2.2.1==m.2.1&&m.2.2.2.1)=true then
  (if x.1=7 then ([(8,m.1,x.2.1,m.2.1,x.2.2.2.2.1,([]:List AX))],m)
  else ([(6,m.1,x.2.1,m.2.1,x.2.2.2.2.1,([]:List AX))],(m.1,m.2.1,m.2.2.1,m.2.2.2.1,m.2.2.2.2.1,m.2.2.2.2.2.1,m.2.2.2.2.2.2.1,Ey m.2.2.2.2.2.2.2.1 (x.2.2.2.2.2.getD 0 (ByteArray.empty,ByteArray.empty,(0:Int))),m.2.2.2.2.2.2.2.2)))
 else ([],m)
theorem dG (m:AC) (x:BW) (hm:m.2.2.2.2.2.2.2.1.length≤12) (h5:x.1≠7→0<x.2.2.2.2.2.length) :
  HW x m=some (jK m x):=Ve (by
 unfold Mn jK
 by_cases c1:x.2.2.2.1=m.2.1
 case neg=>rw [if_pos (by simpa using c1),if_neg (by simp [c1])]
 rw [if_neg (by simpa using c1)]
 by_cases c2:m.2.2.2.1=true
 case neg=>rw [if_pos (by simpa using c2),if_neg (by simp [c2])]
 rw [if_neg (by simpa using c2),if_pos (by simp [c1,c2])]
 refine SA ?_
 unfold J7
 by_cases c7:x.1=7
 ·rw [if_pos (by simpa using c7),if_pos c7,Ce _ _ _ (by simp) (by simp),Option.bind_some]
  rfl
 ·have:=h5 c7
  rw [if_neg (by simpa using c7),if_neg c7,if_pos (by omega),if_pos (by omega),Pl _ _ (by omega),Option.bind_some,Ce _ _ _ (by simp) (by simp),Option.bind_some]
  rfl)
theorem RW (m:AC) (op:Int) (x:BW) (hm:Hf m) :
  Em op x m=some (if (x.2.2.2.1==m.2.1&&m.2.2.2.2.2.2.2.2.2.1==op&&m.2.2.2.2.2.2.2.2.2.2.2.1==x.2.2.2.2.1)=true then ((HQ m x.2.1).2.2,(HQ m x.2.1).1) else ([],m)):=Um (by
 obtain ⟨l1,l2,l3⟩:=hm.lens
 unfold L5
 by_cases c1:x.2.2.2.1=m.2.1
 case neg=>rw [if_pos (by simpa using c1),if_neg (by simp [c1])]
 rw [if_neg (by simpa using c1)]
 by_cases c2:m.2.2.2.2.2.2.2.2.2.1=op
 case neg=>rw [if_pos (by simpa using c2),if_neg (by simp [c2])]
 rw [if_neg (by simpa using c2)]
 by_cases c3:m.2.2.2.2.2.2.2.2.2.2.2.1=x.2.2.2.2.1
 case neg=>rw [if_pos (by simpa using c3),if_neg (by simp [c3])]
 rw [if_neg (by simpa using c3),if_pos (by simp [c1,c2,c3])]
 refine Q9 ?_
 unfold Iu HQ
 rw [Pn _ _ (by omega),Option.bind_some]
 by_cases c4:(m.2.2.2.2.2.2.2.2.2.2.2.2.2.filter (· != x.2.1)).length=0
 ·rw [if_neg (by rw [c4]; decide),if_pos (by rw [c4]; decide),f7 _ (by show m.2.2.2.2.2.2.2.1.length≤_; omega)]
  rfl
 ·rw [if_pos (decide_eq_true (by omega)),if_neg (by rw [beq_iff_eq]; omega)]
  rfl)
end Go.Proofs.YtaedipailemlcaaGreat.Core
