/- Texts of the proof, packed: part 4. -/
import Derived.Test.YtaedipailemlcaaGreatP2
import Derived.IntWalk
set_option linter.unusedVariables false
set_option linter.unusedSimpArgs false
namespace Go.Proofs.YtaedipailemlcaaGreat.Core
open Go IntKind
set_option linter.unusedVariables false
set_option maxRecDepth 100000
noncomputable section
def Ch (x0:Bool) (x1:O):Option Bool:=cG MX (AH EB) (AH EB) kx ⟨[(1,.ptr 0 0),(70,.bool x0)],[.var (U.enc x1)]⟩
def Lr (x0:Bool) (x1:O):Option Bool:=((JM x1.2.2.2.2.2.2.2.2.2).bind fun y7=>(if y7=false then (if (x1.2.2.2.2.2.2.2.2.2.1==1)=false then (if (x1.2.2.2.2.2.2.2.2.2.1==2)=true then (if x1.2.2.2.2.2.1=true then ((AN x1.2.2.2.2.2.2.2.2.2.2.1 0 1000).bind fun y8=>(if y8=true then ((AN x1.2.2.2.2.2.2.2.2.2.2.2.1 1 900).bind fun y9=>(some y9)) else (some false))) else (some false)) else (some false)) else (if x1.2.2.2.2.2.1=true then ((AN x1.2.2.2.2.2.2.2.2.2.2.1 0 1000).bind fun y10=>(if y10=true then ((AN x1.2.2.2.2.2.2.2.2.2.2.2.1 1 900).bind fun y11=>(some y11)) else (some false))) else (some false))) else (some true)))
def Qb (x0:O):Option Bool:=((AN x0.1 1 6).bind fun y1=>(if (!y1)=false then ((AN x0.2.1 1 9).bind fun y2=>(if (!y2)=false then (if x0.2.2.2.2.2.1=true then (if (!x0.2.2.2.1)=false then (if (!x0.2.2.2.2.1)=false then (if (decide ((x0.2.2.2.2.2.2.1.length:Int)>0))=false then (if x0.2.2.1=true then (if x0.2.2.2.1=false then (if x0.2.2.2.2.1=false then ((CI x0.2.2.2.2.2.2.1).bind fun y3=>(if (!y3)=false then ((CI x0.2.2.2.2.2.2.2.2.2.2.2.2.2).bind fun y4=>(if (!y4)=false then ((CL x0.2.2.2.2.2.2.2.1).bind fun y5=>(if (!y5)=false then ((AN x0.2.2.2.2.2.2.2.2.1 0 900).bind fun y6=>(if (!y6)=true then (some false) else (Ch (!y6) x0))) else (some false))) else (some false))) else (some false))) else (some false)) else (some false)) else ((CI x0.2.2.2.2.2.2.1).bind fun y12=>(if (!y12)=false then ((CI x0.2.2.2.2.2.2.2.2.2.2.2.2.2).bind fun y13=>(if (!y13)=false then ((CL x0.2.2.2.2.2.2.2.1).bind fun y14=>(if (!y14)=false then ((AN x0.2.2.2.2.2.2.2.2.1 0 900).bind fun y15=>(if (!y15)=true then (some false) else (Ch (!y15) x0))) else (some false))) else (some false))) else (some false)))) else (some false)) else (some false)) else (some false)) else (if x0.2.2.1=true then (if x0.2.2.2.1=false then (if x0.2.2.2.2.1=false then ((CI x0.2.2.2.2.2.2.1).bind fun y16=>(if (!y16)=false then ((CI x0.2.2.2.2.2.2.2.2.2.2.2.2.2).bind fun y17=>(if (!y17)=false then ((CL x0.2.2.2.2.2.2.2.1).bind fun y18=>(if (!y18)=false then ((AN x0.2.2.2.2.2.2.2.2.1 0 900).bind fun y19=>(if (!y19)=true then (some false) else (Ch (!y19) x0))) else (some false))) else (some false))) else (some false))) else (some false)) else (some false)) else ((CI x0.2.2.2.2.2.2.1).bind fun y20=>(if (!y20)=false then ((CI x0.2.2.2.2.2.2.2.2.2.2.2.2.2).bind fun y21=>(if (!y21)=false then ((CL x0.2.2.2.2.2.2.2.1).bind fun y22=>(if (!y22)=false then ((AN x0.2.2.2.2.2.2.2.2.1 0 900).bind fun y23=>(if (!y23)=true then (some false) else (Ch (!y23) x0))) else (some false))) else (some false))) else (some false))))) else (some false))) else (some false)))
theorem Tc:SX Lr Ch:=jS (by kernel_rfl)
theorem YK:SW Qb EC:=cT EB rfl ⟨rfl,rfl⟩ (by kernel_rfl)
def WT:=cG N8 (AH Cu) (AH Cu) kx
def WU:=kE 0 [] [0] 0 WT kx
def Ut:St→Option (RT (Bi.outs Cu)):=lG N7 [] [0,3] 0 (AH Cu) WU
def Fs (x0:List (List Int)) (x1:Int):Option Bool:=Ut ⟨[(0,.lst (.slice (.int .i64)) x0),(3,.int .i64 x1)],[]⟩
def Id (x0:List (List Int)) (x1:Int):Option Bool:=(if (decide (x1<(x0.length:Int)))=true then (if 0≤x1 then (if x1<(x0.length:Int) then ((Ld (x0.getD x1.toNat ([]:List Int))).bind fun y1=>(if (!y1)=true then (some false) else (Fs x0 (i64.wrap (x1+1))))) else none) else none) else ((AN (x0.length:Int) 1 9).bind fun y2=>(some y2)))
def Rk (x0:List (List Int)):Option Bool:=(Fs x0 0)
theorem M_:SX Id Fs:=lS (by kernel_rfl)
theorem Zv:SW Rk C1:=cT Cu rfl ⟨rfl,rfl⟩ (by kernel_rfl)
def Qc:=cG OB (AH Bp) (AH Bp) kx
def ED:=kB [] [6,9,10,11] 4 Qc
def EE:=kE 0 [] [6,9,10,11] 4 Qc kx
def GV (x0:List Int) (x1:List Y) (x2:List AB) (x3:Bool) (x4:O) (x5:Y) (x6 x7:O):Option (O×List Y×List AB):=cG P5 ED (AH Bp) EE ⟨[(1,.lst (.int .i64) x0),(5,.ptr 1 0),(6,.ptr 2 0),(9,.ptr 3 0),(10,.lst AK x1),(11,.lst Aq x2),(28,.bool x3)],[.var (U.enc x4),.var (AK.enc x5),.var (U.enc x6),.var (U.enc x7)]⟩
def GW (x0:List Y) (x1:List AB) (x2:Bool) (x3:O) (x4:Y) (x5 x6:O):Option (O×List Y×List AB):=cG P6 ED (AH Bp) EE ⟨[(3,.ptr 0 0),(5,.ptr 1 0),(6,.ptr 2 0),(9,.ptr 3 0),(10,.lst AK x0),(11,.lst Aq x1),(60,.bool x2)],[.var (U.enc x3),.var (AK.enc x4),.var (U.enc x5),.var (U.enc x6)]⟩
def JR (x0:List Y) (x1:List AB) (x2:Bool) (x3:O) (x4:Y) (x5 x6:O):Option (O×List Y×List AB):=cG P7 ED (AH Bp) EE ⟨[(3,.ptr 0 0),(5,.ptr 1 0),(6,.ptr 2 0),(9,.ptr 3 0),(10,.lst AK x0),(11,.lst Aq x1),(50,.bool x2)],[.var (U.enc x3),.var (AK.enc x4),.var (U.enc x5),.var (U.enc x6)]⟩
def JS (x0:List Y) (x1:List AB) (x2:Bool) (x3:O) (x4:Y) (x5 x6:O):Option (O×List Y×List AB):=cG N9 ED (AH Bp) EE ⟨[(5,.ptr 1 0),(6,.ptr 2 0),(9,.ptr 3 0),(10,.lst AK x0),(11,.lst Aq x1),(145,.bool x2)],[.var (U.enc x3),.var (AK.enc x4),.var (U.enc x5),.var (U.enc x6)]⟩
def GX (x0:List Y) (x1:List AB) (x2:Int) (x3:O) (x4:Y) (x5 x6:O):Option (O×List Y×List AB):=cG N_ ED (AH Bp) EE ⟨[(5,.ptr 1 0),(6,.ptr 2 0),(9,.ptr 3 0),(10,.lst AK x0),(11,.lst Aq x1),(13,.int .i64 x2)],[.var (U.enc x3),.var (AK.enc x4),.var (U.enc x5),.var (U.enc x6)]⟩
def GY (x0:List Y) (x1:List AB) (x2:Bool) (x3:O) (x4:Y) (x5 x6:O):Option (O×List Y×List AB):=cG OA ED (AH Bp) EE ⟨[(5,.ptr 1 0),(6,.ptr 2 0),(9,.ptr 3 0),(10,.lst AK x0),(11,.lst Aq x1),(127,.bool x2)],[.var (U.enc x3),.var (AK.enc x4),.var (U.enc x5),.var (U.enc x6)]⟩
def OW (x0:List Int) (x1:List Y) (x2:List AB) (x3:Bool) (x4:O) (x5:Y) (x6 x7:O):Option (O×List Y×List AB):=(if x3=true then ((Jl x0 x5.2.2.2.2.2 x7).bind fun y2=>(some (y2.2,y2.1,x2))) else (some (x7,x1,x2)))
def OX (x0:List Y) (x1:List AB) (x2:Bool) (x3:O) (x4:Y) (x5 x6:O):Option (O×List Y×List AB):=(if (!x6.2.2.2.1)=true then ((IT x3 x3.2.1).bind fun y4=>(if ([]:List X).length+x4.2.2.2.2.2.length≤68719476736 then ((C_ x3 x4 4).bind fun y5=>(some ((y4.1,y4.2.1,y4.2.2.1,true,y4.2.2.2.2.1,y4.2.2.2.2.2.1,y4.2.2.2.2.2.2.1,(([]:List X)++x4.2.2.2.2.2),y4.2.2.2.2.2.2.2.2),y5,x1))) else none)) else ((C_ x3 x4 4).bind fun y6=>(some (x6,y6,x1))))
def OY (x0:List Y) (x1:List AB) (x2:Bool) (x3:O) (x4:Y) (x5 x6:O):Option (O×List Y×List AB):=(if (!x6.2.2.2.1)=true then (if x6.2.2.1=true then (some (x6,x0,x1)) else (GW x0 x1 x6.2.2.1 x3 x4 x5 x6)) else (GW x0 x1 false x3 x4 x5 x6))
def OZ (x0:List Y) (x1:List AB) (x2:Bool) (x3:O) (x4:Y) (x5 x6:O):Option (O×List Y×List AB):=((Fn x6.2.2.2.2.2.2.2.2.2.2.2.2.2 x4.2.1).bind fun y11=>(if ((y11.length:Int)==0)=true then ((Ex (x6.1,x6.2.1,x6.2.2.1,x6.2.2.2.1,x6.2.2.2.2.1,x6.2.2.2.2.2.1,x6.2.2.2.2.2.2.1,x6.2.2.2.2.2.2.2.1,x6.2.2.2.2.2.2.2.2.1,x6.2.2.2.2.2.2.2.2.2.1,x6.2.2.2.2.2.2.2.2.2.2.1,x6.2.2.2.2.2.2.2.2.2.2.2.1,x6.2.2.2.2.2.2.2.2.2.2.2.2.1,y11)).bind fun y12=>(some (y12.2,x0,y12.1))) else (some ((x6.1,x6.2.1,x6.2.2.1,x6.2.2.2.1,x6.2.2.2.2.1,x6.2.2.2.2.2.1,x6.2.2.2.2.2.2.1,x6.2.2.2.2.2.2.2.1,x6.2.2.2.2.2.2.2.2.1,x6.2.2.2.2.2.2.2.2.2.1,x6.2.2.2.2.2.2.2.2.2.2.1,x6.2.2.2.2.2.2.2.2.2.2.2.1,x6.2.2.2.2.2.2.2.2.2.2.2.2.1,y11),x0,x1))))
def Oa (x0:List Y) (x1:List AB) (x2:Int) (x3:O) (x4:Y) (x5 x6:O):Option (O×List Y×List AB):=(if (x6.2.2.2.2.2.2.2.2.2.1 != x2)=false then (if (x6.2.2.2.2.2.2.2.2.2.2.2.1 != x4.2.2.2.2.1)=true then (some (x6,x0,x1)) else (JS x0 x1 (x6.2.2.2.2.2.2.2.2.2.2.2.1 != x4.2.2.2.2.1) x3 x4 x5 x6)) else (some (x6,x0,x1)))
def Ob (x0:List Y) (x1:List AB) (x2:Bool) (x3:O) (x4:Y) (x5 x6:O):Option (O×List Y×List AB):=(if x2=true then (if (x4.1==8)=true then (GX x0 x1 2 x3 x4 x5 x6) else (GX x0 x1 1 x3 x4 x5 x6)) else (some (x6,x0,x1)))
def S0 (x0:O) (x1:List Int) (x2:Y):Option (O×List Y×List AB):=((CK x0).bind fun y1=>(if (x2.1==2)=true then (if y1.2.2.2.2.1=true then (GV x1 ([]:List Y) ([]:List AB) (!y1.2.2.2.1) x0 x2 (0,0,false,false,false,false,([]:List Int),([]:List X),0,0,0,0,(ByteArray.empty,ByteArray.empty,0),([]:List Int)) y1) else (GV x1 ([]:List Y) ([]:List AB) false x0 x2 (0,0,false,false,false,false,([]:List Int),([]:List X),0,0,0,0,(ByteArray.empty,ByteArray.empty,0),([]:List Int)) y1)) else (if (x2.1==3)=true then ((Co x1 x0.1).bind fun y3=>(if (!y3)=true then (some (y1,([]:List Y),([]:List AB))) else (if 0≤(0:Int) then (if 0<(x1.length:Int) then (if ((x1.getD (0:Int).toNat 0)==x0.1)=true then (some (y1,([]:List Y),([]:List AB))) else (JR ([]:List Y) ([]:List AB) ((x1.getD (0:Int).toNat 0)==x0.1) x0 x2 (0,0,false,false,false,false,([]:List Int),([]:List X),0,0,0,0,(ByteArray.empty,ByteArray.empty,0),([]:List Int)) y1)) else none) else none))) else (if (x2.1==4)=true then (if y1.2.2.2.2.1=true then ((Fn y1.2.2.2.2.2.2.1 x2.2.1).bind fun y7=>(if y1.2.2.2.1=true then (some ((y1.1,y1.2.1,y1.2.2.1,y1.2.2.2.1,y1.2.2.2.2.1,((y7.length:Int)==0),y7,y1.2.2.2.2.2.2.2),([]:List Y),([]:List AB))) else (some ((y1.1,y1.2.1,y1.2.2.1,y1.2.2.2.1,y1.2.2.2.2.1,false,y7,y1.2.2.2.2.2.2.2),([]:List Y),([]:List AB))))) else (some (y1,([]:List Y),([]:List AB)))) else (if (x2.1==5)=true then (if y1.2.2.2.1=true then (if 0≤(0:Int) then (if 0<(x2.2.2.2.2.2.length:Int) then ((GC y1.2.2.2.2.2.2.2.1 (x2.2.2.2.2.2.getD (0:Int).toNat (ByteArray.empty,ByteArray.empty,0))).bind fun y8=>((C_ x0 x2 6).bind fun y9=>(some ((y1.1,y1.2.1,y1.2.2.1,y1.2.2.2.1,y1.2.2.2.2.1,y1.2.2.2.2.2.1,y1.2.2.2.2.2.2.1,y8,y1.2.2.2.2.2.2.2.2),y9,([]:List AB))))) else none) else none) else (some (y1,([]:List Y),([]:List AB)))) else (if (x2.1==7)=true then (if y1.2.2.2.1=true then ((C_ x0 x2 8).bind fun y10=>(some (y1,y10,([]:List AB)))) else (some (y1,([]:List Y),([]:List AB)))) else (if (x2.1==6)=true then (GY ([]:List Y) ([]:List AB) (x2.1==6) x0 x2 (0,0,false,false,false,false,([]:List Int),([]:List X),0,0,0,0,(ByteArray.empty,ByteArray.empty,0),([]:List Int)) y1) else (GY ([]:List Y) ([]:List AB) (x2.1==8) x0 x2 (0,0,false,false,false,false,([]:List Int),([]:List X),0,0,0,0,(ByteArray.empty,ByteArray.empty,0),([]:List Int)) y1))))))))
theorem WV:gS OW GV:=jS (by kernel_rfl)
theorem WW:ir OX GW:=jS (by kernel_rfl)
theorem WX:ir OY JR:=jS (by kernel_rfl)
theorem WY:ir OZ JS:=jS (by kernel_rfl)
theorem WZ:ir Oa GX:=jS (by kernel_rfl)
theorem Wa:ir Ob GY:=jS (by kernel_rfl)
theorem ar:XU S0 Nd:=cT Bp rfl ⟨rfl,rfl⟩ (by kernel_rfl)
def Zw:=cG RV (AH EK) (AH EK) kx
def Zx:=kE 0 [] [] 0 Zw kx
def YL:St→Option (RT (Bi.outs EK)):=lG RU [] [0,1,5] 0 (AH EK) Zx
def HB (x0:List Int) (x1 x2:Int):Option Bool:=YL ⟨[(0,.lst (.int .i64) x0),(1,.int .i64 x1),(5,.int .i64 x2)],[]⟩
def KX (x0:List Int) (x1 x2:Int):Option Bool:=(if (decide (x2<(x0.length:Int)))=true then (if 0≤x2 then (if x2<(x0.length:Int) then (if ((x0.getD x2.toNat 0)==x1)=true then (some true) else (HB x0 x1 (i64.wrap (x2+1)))) else none) else none) else (some false))
def Uu (x0:List Int) (x1:Int):Option Bool:=(HB x0 x1 0)
theorem Qd:XU KX HB:=lS (by kernel_rfl)
theorem ca:SX Uu Co:=cT EK rfl ⟨rfl,rfl⟩ (by kernel_rfl)
def Rl (x0:O) (x1:Int):Option O:=(if ([]:List X).length+x0.2.2.2.2.2.2.2.1.length≤68719476736 then (some (x0.1,x1,false,false,false,false,([]:List Int),(([]:List X)++x0.2.2.2.2.2.2.2.1),0,0,0,0,(ByteArray.empty,ByteArray.empty,0),([]:List Int))) else none)
theorem Zy:SX Rl IT:=cT IG rfl ⟨rfl,rfl⟩ (by kernel_rfl)
def YM (x0:O) (x1:Y) (x2:Int):Option (List Y):=(some ([(x2,x0.1,x1.2.1,x1.2.2.2.1,x1.2.2.2.2.1,([]:List X))]:List Y))
theorem YN:XU YM C_:=cT G4 rfl ⟨rfl,rfl⟩ (by kernel_rfl)
def S3 (x0:Int):Option Bool:=((Au x0 1 6).bind fun y1=>(some y1))
theorem au:SW S3 Jj:=cT Jh rfl ⟨rfl,rfl⟩ (by kernel_rfl)
def Rm (x0 x1 x2:Int):Option Bool:=(if (decide (x0≥x1))=true then (some (decide (x0≤x2))) else (some false))
theorem Zz:XU Rm Au:=cT IH rfl ⟨rfl,rfl⟩ (by kernel_rfl)
def Rn:=cG Jx (AH Bn) (AH Bn) kx
def Ro:=kE 0 [] [] 0 Rn kx
def Qx:St→Option (RT (Bi.outs Bn)):=lG Jw [] [0,1,2,9,10,11] 0 (AH Bn) Ro
def Cb (x0:List Int) (x1 x2:Int) (x3:List Int) (x4 x5:Int):Option Bool:=Qx ⟨[(0,.lst (.int .i64) x0),(1,.int .i64 x1),(2,.int .i64 x2),(9,.lst (.int .i64) x3),(10,.int .i64 x4),(11,.int .i64 x5)],[]⟩
def Fd (x0:List Int) (x1 x2:Int) (x3:List Int) (x4 x5:Int):Option Bool:=(if (decide (x5<x4))=true then (if 0≤x5 then (if x5<(x3.length:Int) then ((Au (x3.getD x5.toNat 0) x1 x2).bind fun y1=>(if (!y1)=false then (if (decide (x5>0))=true then (if 0≤(i64.wrap (x5-1)) then (if (i64.wrap (x5-1))<(x0.length:Int) then (if (decide ((x3.getD x5.toNat 0)≤(x0.getD (i64.wrap (x5-1)).toNat 0)))=true then (some false) else (Cb x0 x1 x2 x3 x4 (i64.wrap (x5+1)))) else none) else none) else (Cb x0 x1 x2 x3 x4 (i64.wrap (x5+1)))) else (some false))) else none) else none) else (some true))
def Ls (x0:List Int) (x1 x2:Int):Option Bool:=(Cb x0 x1 x2 x0 (x0.length:Int) 0)
theorem I9:iS Fd Cb:=lS (by kernel_rfl)
theorem Td:XU Ls FB:=cT Bn rfl ⟨rfl,rfl⟩ (by kernel_rfl)
def Wb:=cG Mc (AH Cv) (AH Cv) kx
def Wc:=kE 0 [] [0] 0 Wb kx
def Uv:St→Option (RT (Bi.outs Cv)):=lG Mb [] [0,5,6,7] 0 (AH Cv) Wc
def EO (x0 x1:List X) (x2 x3:Int):Option Bool:=Uv ⟨[(0,.lst Z x0),(5,.lst Z x1),(6,.int .i64 x2),(7,.int .i64 x3)],[]⟩
def Ie (x0 x1:List X) (x2 x3:Int):Option Bool:=(if (decide (x3<x2))=true then (if 0≤x3 then (if x3<(x1.length:Int) then ((K9 ((x1.getD x3.toNat (ByteArray.empty,ByteArray.empty,0)).1)).bind fun y1=>(if (!y1)=true then (some false) else (if (decide (((((x1.getD x3.toNat (ByteArray.empty,ByteArray.empty,0)).2).1).size:Int)>20))=true then (some false) else ((Au (((x1.getD x3.toNat (ByteArray.empty,ByteArray.empty,0)).2).2) 1 1000000000).bind fun y2=>(if (!y2)=true then (some false) else (if (decide (x3>0))=true then (if 0≤(i64.wrap (x3-1)) then (if (i64.wrap (x3-1))<(x0.length:Int) then (if ((Op.bytesLess ((x1.getD x3.toNat (ByteArray.empty,ByteArray.empty,0)).1).toList ((x0.getD (i64.wrap (x3-1)).toNat (ByteArray.empty,ByteArray.empty,0)).1).toList)||(((x1.getD x3.toNat (ByteArray.empty,ByteArray.empty,0)).1).toList==((x0.getD (i64.wrap (x3-1)).toNat (ByteArray.empty,ByteArray.empty,0)).1).toList))=true then (some false) else (EO x0 x1 x2 (i64.wrap (x3+1)))) else none) else none) else (EO x0 x1 x2 (i64.wrap (x3+1))))))))) else none) else none) else (some (decide ((x0.length:Int)≤12))))
def Rp (x0:List X):Option Bool:=(EO x0 x0 (x0.length:Int) 0)
theorem NA:cH Ie EO:=lS (by kernel_rfl)
theorem Z0:SW Rp Et:=cT Cv rfl ⟨rfl,rfl⟩ (by kernel_rfl)
def J9 (b0:O):Option (Bool×O):=(if (b0.2.2.2.2.2.2.2.2.2.1==0)=true then (if (b0.2.2.2.2.2.2.2.2.2.2.1==0)=true then (if (b0.2.2.2.2.2.2.2.2.2.2.2.1==0)=true then (if (false != Nn Z b0.2.2.2.2.2.2.2.2.2.2.2.2.1 (ByteArray.empty,ByteArray.empty,0))=true then (some (((b0.2.2.2.2.2.2.2.2.2.2.2.2.2.length:Int)==0),b0)) else (some (false,b0))) else (some (false,b0))) else (some (false,b0))) else ((Au b0.2.2.2.2.2.2.2.2.2.1 1 2).bind fun y1=>(if y1=true then (if b0.2.2.2.2.2.1=true then ((Au b0.2.2.2.2.2.2.2.2.2.2.1 0 1000).bind fun y2=>(if y2=true then ((Au b0.2.2.2.2.2.2.2.2.2.2.2.1 1 900).bind fun y3=>(if y3=true then ((FB b0.2.2.2.2.2.2.2.2.2.2.2.2.2 1 6).bind fun y4=>(some (y4,b0))) else (some (false,b0)))) else (some (false,b0)))) else (some (false,b0))) else (some (false,b0)))))
theorem Rq:SW J9 CB:=cT EL rfl ⟨rfl,rfl⟩ (by kernel_rfl)
def Wd:=cG Mh (AH Cw) (AH Cw) kx
def We:=kE 0 [] [0] 0 Wd kx
def Uw:St→Option (RT (Bi.outs Cw)):=lG Mg [] [0,3] 0 (AH Cw) We
def EP (x0:List X) (x1:Int):Option Bool:=Uw ⟨[(0,.lst Z x0),(3,.int .i64 x1)],[]⟩
def If (x0:List X) (x1:Int):Option Bool:=(if (decide (x1<(x0.length:Int)))=true then (if 0≤x1 then (if x1<(x0.length:Int) then ((AN (((x0.getD x1.toNat (ByteArray.empty,ByteArray.empty,0)).1).size:Int) 1 12).bind fun y1=>(if (!y1)=true then (some false) else (if (decide (((((x0.getD x1.toNat (ByteArray.empty,ByteArray.empty,0)).2).1).size:Int)>20))=true then (some false) else ((AN (((x0.getD x1.toNat (ByteArray.empty,ByteArray.empty,0)).2).2) 1 1000000000).bind fun y2=>(if (!y2)=true then (some false) else (if (decide (x1>0))=true then (if 0≤(i64.wrap (x1-1)) then (if (i64.wrap (x1-1))<(x0.length:Int) then (if (!(Op.bytesLess ((x0.getD (i64.wrap (x1-1)).toNat (ByteArray.empty,ByteArray.empty,0)).1).toList ((x0.getD x1.toNat (ByteArray.empty,ByteArray.empty,0)).1).toList))=true then (some false) else (EP x0 (i64.wrap (x1+1)))) else none) else none) else (EP x0 (i64.wrap (x1+1))))))))) else none) else none) else (some (decide ((x0.length:Int)≤12))))
def Rr (x0:List X):Option Bool:=(EP x0 0)
theorem NB:SX If EP:=lS (by kernel_rfl)
theorem Z1:SW Rr CL:=cT Cw rfl ⟨rfl,rfl⟩ (by kernel_rfl)
def Gb (x0:List (List Int)) (x1:Bool) (x2:O):Option (Bool×O):=cG Gq (AH Br) (AH Br) kx ⟨[(0,.ptr 0 0),(1,.lst (.slice (.int .i64)) x0),(33,.bool x1)],[.var (U.enc x2)]⟩
def Gc (x0:List (List Int)) (x1:Bool) (x2:O):Option (Bool×O):=((IS x0).bind fun y1=>(if y1=true then (if 0≤(i64.wrap (x2.2.1-1)) then (if (i64.wrap (x2.2.1-1))<(x0.length:Int) then (if 0≤(0:Int) then (if 0<((x0.getD (i64.wrap (x2.2.1-1)).toNat ([]:List Int)).length:Int) then (some ((((x0.getD (i64.wrap (x2.2.1-1)).toNat ([]:List Int)).getD (0:Int).toNat 0)==x2.1),x2)) else none) else none) else none) else none) else (some (false,x2))))
def Ig (x1:List (List Int)) (b0:O):Option (Bool×O):=(if (!b0.2.2.2.2.2.1)=false then (if (b0.2.2.2.2.2.2.2.2.2.1 != 0)=false then (if (b0.2.2.2.2.2.2.2.2.1==900)=false then (if (decide (b0.2.1>(x1.length:Int)))=true then (some (false,b0)) else (Gb x1 (decide (b0.2.1>(x1.length:Int))) b0)) else (some (false,b0))) else (some (false,b0))) else (some (false,b0)))
theorem MC:XU Gc Gb:=jS (by kernel_rfl)
theorem PZ:SX Ig FC:=cT Br rfl ⟨rfl,rfl⟩ (by kernel_rfl)
def KY (x0:Int) (x1:ByteArray) (x2:Bool):Option Bool:=cG RX (AH GN) (AH GN) kx ⟨[(0,.int .i64 x0),(3,.str x1),(26,.bool x2)],[]⟩
def Qe (x0:Int) (x1:ByteArray) (x2:Bool):Option Bool:=(if (x0==1)=false then (some (x1.toList==(⟨#[]⟩:ByteArray).toList)) else (some true))
def Ux (x0 x1:Int) (x2 x3:ByteArray):Option Bool:=((Au x0 1 2).bind fun y1=>(if (!y1)=false then ((Au x1 0 1000).bind fun y2=>(if (!y2)=false then ((K9 x2).bind fun y3=>(if (!y3)=false then (if (decide ((x3.size:Int)>20))=true then (some false) else (KY x0 x3 (decide ((x3.size:Int)>20)))) else (some false))) else (some false))) else (some false)))
theorem YO:XU Qe KY:=jS (by kernel_rfl)
theorem cc:cH Ux PW:=cT GN rfl ⟨rfl,rfl⟩ (by kernel_rfl)
def Pa:=cG IJ (AH BU) (AH BU) kx
def Pb:=kE 0 [(5,1)] [5] 2 Pa kx
def Oc:St→Option (RT (Bi.outs BU)):=lG II [(5,1)] [0,5,8,9,10] 2 (AH BU) Pb
def CC (x0:List Int) (x1 x2:Int) (x3:O) (x4:List Int):Option (List Int×O):=Oc ⟨[(0,.ptr 0 0),(5,.row 1),(8,.lst (.int .i64) x0),(9,.int .i64 x1),(10,.int .i64 x2)],[.var (U.enc x3),.rows 3 (.int .i64) x4]⟩
def Ey (x0:List Int) (x1 x2:Int) (x3:O) (x4:List Int):Option (List Int×O):=(if (decide (x2<x1))=true then (if 0≤x2 then (if x2<(x0.length:Int) then (if ((x0.getD x2.toNat 0) != x3.1)=true then (if x4.length+([(x0.getD x2.toNat 0)]:List Int).length≤68719476736 then (CC x0 x1 (i64.wrap (x2+1)) x3 (x4++([(x0.getD x2.toNat 0)]:List Int))) else none) else (CC x0 x1 (i64.wrap (x2+1)) x3 x4)) else none) else none) else (some (x4,x3)))
def J_ (x1:List Int) (b0:O):Option (List Int×O):=(CC x1 (x1.length:Int) 0 b0 ([]:List Int))
theorem Hm:eL Ey CC:=lS (by kernel_rfl)
theorem Rs:SX J_ GB:=cT BU rfl ⟨rfl,rfl⟩ (by kernel_rfl)
def I_ (b0:List Int):Option (List Int):=((KM (IntKind.u64.wrap (b0.length:Int))).bind fun y1=>((Bk 0 (b0.length:Int) y1 b0).bind fun y2=>(some y2)))
theorem Qy:SW I_ CY:=cT D1 rfl ⟨rfl,rfl⟩ (by kernel_rfl)
def Fe (x0:O) (x1:cB):Option (List AB×O):=cG Jy (AH Cf) (AH Cf) kx ⟨[(0,.ptr 0 0),(3,.ptr 1 0)],[.var (U.enc x0),.var (JI.enc x1)]⟩
def Ff (x0:O) (x1:cB):Option (List AB×O):=(some (([(x1.2.1,x0.2.1,x1.2.2.1,x1.2.2.2.1)]:List AB),(x0.1,x0.2.1,x0.2.2.1,x0.2.2.2.1,x0.2.2.2.2.1,x0.2.2.2.2.2.1,x0.2.2.2.2.2.2.1,x0.2.2.2.2.2.2.2.1,x0.2.2.2.2.2.2.2.2.1,0,0,0,(ByteArray.empty,ByteArray.empty,0),([]:List Int))))
def Lt (b0:O):Option (List AB×O):=(if (b0.2.2.2.2.2.2.2.2.2.1==1)=true then ((Le b0.2.2.2.2.2.2.2.1 b0.2.2.2.2.2.2.2.2.2.2.2.2.1).bind fun y1=>(Fe (b0.1,b0.2.1,b0.2.2.1,b0.2.2.2.1,b0.2.2.2.2.1,b0.2.2.2.2.2.1,b0.2.2.2.2.2.2.1,y1,b0.2.2.2.2.2.2.2.2) b0.2.2.2.2.2.2.2.2.2)) else ((FW b0.2.2.2.2.2.2.2.1 b0.2.2.2.2.2.2.2.2.2.2.2.2.1.1).bind fun y2=>(Fe b0 (b0.2.2.2.2.2.2.2.2.2.1,b0.2.2.2.2.2.2.2.2.2.2.1,b0.2.2.2.2.2.2.2.2.2.2.2.1,y2,b0.2.2.2.2.2.2.2.2.2.2.2.2.2))))
theorem JA:SX Ff Fe:=jS (by kernel_rfl)
theorem Te:SW Lt HJ:=cT Cf rfl ⟨rfl,rfl⟩ (by kernel_rfl)
def Od:=cG Hl (AH BE) (AH BE) kx
def Oe:=kE 0 [(7,2)] [7] 3 Od kx
def Ng:St→Option (RT (Bi.outs BE)):=lG Hk [(7,2)] [0,5,7,11,12,13] 3 (AH BE) Oe
def Cp (x0:List Int) (x1 x2:Int) (x3:O) (x4:Y) (x5:List Y):Option (List Y×O):=Ng ⟨[(0,.ptr 0 0),(5,.ptr 1 0),(7,.row 2),(11,.lst (.int .i64) x0),(12,.int .i64 x1),(13,.int .i64 x2)],[.var (U.enc x3),.var (AK.enc x4),.rows 34 AK x5]⟩
def Ed (x0:List Int) (x1 x2:Int) (x3:O) (x4:Y) (x5:List Y):Option (List Y×O):=(if (decide (x2<x1))=true then (if 0≤x2 then (if x2<(x0.length:Int) then ((Lf x4).bind fun y1=>(if x5.length+([(y1.1,x3.1,(x0.getD x2.toNat 0),x3.2.1,y1.2.2.2.2)]:List Y).length≤68719476736 then (Cp x0 x1 (i64.wrap (x2+1)) x3 x4 (x5++([(y1.1,x3.1,(x0.getD x2.toNat 0),x3.2.1,y1.2.2.2.2)]:List Y))) else none)) else none) else none) else (some (x5,x3)))
def JB (x1:List Int) (x2:Y) (b0:O):Option (List Y×O):=(Cp x1 (x1.length:Int) 0 b0 x2 ([]:List Y))
theorem Gu:iS Ed Cp:=lS (by kernel_rfl)
theorem Qz:XU JB D2:=cT BE rfl ⟨rfl,rfl⟩ (by kernel_rfl)
def Rt (x1:Int) (b0:AD):Option (Bool×AD):=((Bq x1 b0).bind fun y1=>(some ((y1.1==0),y1.2)))
theorem Z2:SX Rt Bz:=cT IK rfl ⟨rfl,rfl⟩ (by kernel_rfl)
def Kl (x0:Int) (x1:List (List Int)) (x2:Bool) (x3:O):Option (O×Bool):=cG LT (AH Di) (AH Di) kx ⟨[(0,.int .i64 x0),(1,.lst (.slice (.int .i64)) x1),(4,.ptr 0 0),(14,.bool x2)],[.var (U.enc x3)]⟩
def Km (x0:Int) (x1:List (List Int)) (x2:Bool) (x3:O):Option (O×Bool):=(if 0≤(0:Int) then (if 0<(x1.length:Int) then ((Co (x1.getD (0:Int).toNat ([]:List Int)) x0).bind fun y3=>(if 0≤(0:Int) then (if 0<(x1.length:Int) then (if 0≤(0:Int) then (if 0<((x1.getD (0:Int).toNat ([]:List Int)).length:Int) then (some ((x0,1,false,y3,(((x1.getD (0:Int).toNat ([]:List Int)).getD (0:Int).toNat 0)==x0),(((x1.getD (0:Int).toNat ([]:List Int)).getD (0:Int).toNat 0)==x0),([]:List Int),([]:List X),0,0,0,0,(ByteArray.empty,ByteArray.empty,0),([]:List Int)),true)) else none) else none) else none) else none)) else none) else none)
def Of (x0:Int) (x1:List (List Int)):Option (O×Bool):=((C1 x1).bind fun y1=>(if (!y1)=false then ((AN x0 1 6).bind fun y2=>(if (!y2)=true then (some ((0,0,false,false,false,false,([]:List Int),([]:List X),0,0,0,0,(ByteArray.empty,ByteArray.empty,0),([]:List Int)),false)) else (Kl x0 x1 (!y2) (0,0,false,false,false,false,([]:List Int),([]:List X),0,0,0,0,(ByteArray.empty,ByteArray.empty,0),([]:List Int))))) else (some ((0,0,false,false,false,false,([]:List Int),([]:List X),0,0,0,0,(ByteArray.empty,ByteArray.empty,0),([]:List Int)),false))))
theorem Si:cH Km Kl:=jS (by kernel_rfl)
theorem Wf:SX Of Eu:=cT Di rfl ⟨rfl,rfl⟩ (by kernel_rfl)
def YP:=cG P9 (AH DV) (AH DV) kx
def YQ:=kE 0 [] [4] 1 YP kx
def Wg:St→Option (RT (Bi.outs DV)):=lG P8 [] [0,1,4,5] 1 (AH DV) YQ
def GZ (x0:List X) (x1:ByteArray) (x2:Int) (x3:X):Option X:=Wg ⟨[(0,.lst Z x0),(1,.str x1),(4,.ptr 0 0),(5,.int .i64 x2)],[.var (Z.enc x3)]⟩
def JT (x0:List X) (x1:ByteArray) (x2:Int) (x3:X):Option X:=(if (decide (x2<(x0.length:Int)))=true then (if 0≤x2 then (if x2<(x0.length:Int) then (if (((x0.getD x2.toNat (ByteArray.empty,ByteArray.empty,0)).1).toList==x1.toList)=true then (if 0≤x2 then (if x2<(x0.length:Int) then (some (x0.getD x2.toNat (ByteArray.empty,ByteArray.empty,0))) else none) else none) else (GZ x0 x1 (i64.wrap (x2+1)) x3)) else none) else none) else (some (ByteArray.empty,ByteArray.empty,0)))
def S4 (x0:List X) (x1:ByteArray):Option X:=(GZ x0 x1 0 (ByteArray.empty,ByteArray.empty,0))
theorem Og:cH JT GZ:=lS (by kernel_rfl)
theorem ax:SX S4 Jk:=cT DV rfl ⟨rfl,rfl⟩ (by kernel_rfl)
def Wh:=cG IL (AH Ae) (AH Ae) kx
def Wi:=kE 2 [(5,1),(6,2)] [0,5,6] 3 Wh kx
def Uy:St→Option (RT (Bi.outs Ae)):=lG Mi [(5,1),(6,2)] [0,3,5,6,8] 3 (AH Ae) Wi
def Wj:=cG IM (AH Ae) (AH Ae) kx
def JU:=kE 0 [(5,1),(6,2)] [0,3,5,6] 3 Wj kx
def NC:St→Option (RT (Bi.outs Ae)):=lG OE [(5,1),(6,2)] [0,3,5,6,7] 3 (AH Ae) JU
def Wk:=kB [(5,1),(6,2)] [0,3,5,6,7] 3 NC
def Oh:=cG OD Wk (AH Ae) JU
def Wl:=kB [(5,1),(6,2)] [0,3,5,6,7] 3 Oh
def Wm:=kE 1 [(5,1),(6,2)] [0,3,5,6,7] 3 Oh JU
def Ft (x0:List X) (x1:Int) (x2:X) (x3 x4:List X):Option (List X):=cG OC Wl (AH Ae) Wm ⟨[(0,.lst Z x0),(3,.ptr 0 0),(5,.row 1),(6,.row 2),(7,.int .i64 x1)],[.var (Z.enc x2),.rows 27 Z x3,.rows 27 Z x4]⟩
def Ih (x0:List X) (x1:X) (x2 x3:List X):Option (List X):=cG IL (AH Ae) (AH Ae) kx ⟨[(0,.lst Z x0),(5,.row 1),(6,.row 2)],[.var (Z.enc x1),.rows 27 Z x2,.rows 27 Z x3]⟩
def C6 (x0:List X) (x1:Int) (x2:X) (x3 x4:List X):Option (List X):=Uy ⟨[(0,.lst Z x0),(3,.ptr 0 0),(5,.row 1),(6,.row 2),(8,.int .i64 x1)],[.var (Z.enc x2),.rows 27 Z x3,.rows 27 Z x4]⟩
def Ii (x0:List X) (x1:X) (x2 x3:List X):Option (List X):=cG IM (AH Ae) (AH Ae) kx ⟨[(0,.lst Z x0),(3,.ptr 0 0),(5,.row 1),(6,.row 2)],[.var (Z.enc x1),.rows 27 Z x2,.rows 27 Z x3]⟩
def C7 (x0:List X) (x1:Int) (x2:X) (x3 x4:List X):Option (List X):=NC ⟨[(0,.lst Z x0),(3,.ptr 0 0),(5,.row 1),(6,.row 2),(7,.int .i64 x1)],[.var (Z.enc x2),.rows 27 Z x3,.rows 27 Z x4]⟩
def ND (x0:List X) (x1:Int) (x2:X) (x3 x4:List X):Option (List X):=(if 0≤x1 then (if x1<(x0.length:Int) then (if (((x0.getD x1.toNat (ByteArray.empty,ByteArray.empty,0)).1).toList==x2.1.toList)=true then (if 0≤x1 then (if x1<(x0.length:Int) then (if (decide ((((x0.getD x1.toNat (ByteArray.empty,ByteArray.empty,0)).2).2)≥x2.2.2))=true then (some x3) else (C7 x0 (i64.wrap (x1+1)) x2 x3 x4)) else none) else none) else (C7 x0 (i64.wrap (x1+1)) x2 x3 x4)) else none) else none)
def NE (x0:List X) (x1:X) (x2 x3:List X):Option (List X):=((CL x0).bind fun y1=>(if (!y1)=false then ((CL x3).bind fun y2=>(if (!y2)=true then (some x2) else (some x3))) else (some x2)))
def Ij (x0:List X) (x1:Int) (x2:X) (x3 x4:List X):Option (List X):=(if (decide (x1<(x0.length:Int)))=true then (if 0≤x1 then (if x1<(x0.length:Int) then (if (!((Op.bytesLess ((x0.getD x1.toNat (ByteArray.empty,ByteArray.empty,0)).1).toList x2.1.toList)||(((x0.getD x1.toNat (ByteArray.empty,ByteArray.empty,0)).1).toList==x2.1.toList)))=true then (if 0≤x1 then (if x1<(x0.length:Int) then (if x4.length+([x0.getD x1.toNat (ByteArray.empty,ByteArray.empty,0)]:List X).length≤68719476736 then (C6 x0 (i64.wrap (x1+1)) x2 x3 (x4++([x0.getD x1.toNat (ByteArray.empty,ByteArray.empty,0)]:List X))) else none) else none) else none) else (C6 x0 (i64.wrap (x1+1)) x2 x3 x4)) else none) else none) else (Ih x0 x2 x3 x4))
def NF (x0:List X) (x1:X) (x2 x3:List X):Option (List X):=(if x3.length+([x1]:List X).length≤68719476736 then (C6 x0 0 x1 x2 (x3++([x1]:List X))) else none)
def Ik (x0:List X) (x1:Int) (x2:X) (x3 x4:List X):Option (List X):=(if (decide (x1<(x0.length:Int)))=true then (if 0≤x1 then (if x1<(x0.length:Int) then (if (Op.bytesLess ((x0.getD x1.toNat (ByteArray.empty,ByteArray.empty,0)).1).toList x2.1.toList)=true then (if 0≤x1 then (if x1<(x0.length:Int) then (if x4.length+([x0.getD x1.toNat (ByteArray.empty,ByteArray.empty,0)]:List X).length≤68719476736 then (Ft x0 x1 x2 x3 (x4++([x0.getD x1.toNat (ByteArray.empty,ByteArray.empty,0)]:List X))) else none) else none) else none) else (Ft x0 x1 x2 x3 x4)) else none) else none) else (Ii x0 x2 x3 x4))
def Ru (x0:List X) (x1:X):Option (List X):=(if ([]:List X).length+x0.length≤68719476736 then (C7 x0 0 x1 (([]:List X)++x0) ([]:List X)) else none)
theorem Uz:eL ND Ft:=jS (by kernel_rfl)
theorem U0:cH NE Ih:=jS (by kernel_rfl)
theorem NG:eL Ij C6:=lS (by kernel_rfl)
theorem U1:cH NF Ii:=jS (by kernel_rfl)
theorem NH:eL Ik C7:=lS (by kernel_rfl)
theorem Z3:SX Ru GC:=cT Ae rfl ⟨rfl,rfl⟩ (by kernel_rfl)
def Tf:=cG LV (AH CA) (AH CA) kx
def Tg:=kE 0 [(5,0)] [5] 1 Tf kx
def Sj:St→Option (RT (Bi.outs CA)):=lG LU [(5,0)] [0,1,5,6] 1 (AH CA) Tg
def Bh (x0:List Int) (x1 x2:Int) (x3:List Int):Option (List Int):=Sj ⟨[(0,.lst (.int .i64) x0),(1,.int .i64 x1),(5,.row 0),(6,.int .i64 x2)],[.rows 3 (.int .i64) x3]⟩
def Gg (x0:List Int) (x1 x2:Int) (x3:List Int):Option (List Int):=(if (decide (x2≤6))=true then (if (x2 != x1)=true then ((Co x0 x2).bind fun y1=>(if y1=true then (if x3.length+([x2]:List Int).length≤68719476736 then (Bh x0 x1 (i64.wrap (x2+1)) (x3++([x2]:List Int))) else none) else (Bh x0 x1 (i64.wrap (x2+1)) x3))) else (Bh x0 x1 (i64.wrap (x2+1)) x3)) else (some x3))
def Oi (x0:List Int) (x1:Int):Option (List Int):=(Bh x0 x1 1 ([]:List Int))
theorem Kn:cH Gg Bh:=lS (by kernel_rfl)
theorem Wn:SX Oi Ew:=cT CA rfl ⟨rfl,rfl⟩ (by kernel_rfl)
def Oj (b0:O):Option (List AB×O):=(if (b0.2.2.2.2.2.2.2.2.2.1==1)=true then ((GC b0.2.2.2.2.2.2.2.1 b0.2.2.2.2.2.2.2.2.2.2.2.2.1).bind fun y1=>(some (([(b0.2.2.2.2.2.2.2.2.2.2.1,b0.2.1,b0.2.2.2.2.2.2.2.2.2.2.2.1,b0.2.2.2.2.2.2.2.2.2.2.2.2.1)]:List AB),(b0.1,b0.2.1,b0.2.2.1,b0.2.2.2.1,b0.2.2.2.2.1,b0.2.2.2.2.2.1,b0.2.2.2.2.2.2.1,y1,b0.2.2.2.2.2.2.2.2.1,0,0,0,(ByteArray.empty,ByteArray.empty,0),([]:List Int))))) else ((Jk b0.2.2.2.2.2.2.2.1 b0.2.2.2.2.2.2.2.2.2.2.2.2.1.1).bind fun y2=>(some (([(b0.2.2.2.2.2.2.2.2.2.2.1,b0.2.1,b0.2.2.2.2.2.2.2.2.2.2.2.1,y2)]:List AB),(b0.1,b0.2.1,b0.2.2.1,b0.2.2.2.1,b0.2.2.2.2.1,b0.2.2.2.2.2.1,b0.2.2.2.2.2.2.1,b0.2.2.2.2.2.2.2.1,b0.2.2.2.2.2.2.2.2.1,0,0,0,(ByteArray.empty,ByteArray.empty,0),([]:List Int))))))
theorem Wo:SW Oj Ex:=cT GO rfl ⟨rfl,rfl⟩ (by kernel_rfl)
def Wp:=cG OG (AH Cx) (AH Cx) kx
def Wq:=kE 0 [] [4,5] 6 Wp kx
def U2:St→Option (RT (Bi.outs Cx)):=lG OF [] [0,4,5,6,8,9] 6 (AH Cx) Wq
def C8 (x0 x1:Int) (x2:AD) (x3:List AW) (x4:List (List Int)) (x5:List AW) (x6:List (List Int)) (x7:AG):Option (PO×AD):=U2 ⟨[(0,.ptr 0 0),(4,.ptr 2 0),(5,.ptr 4 0),(6,.ptr 5 0),(8,.int .i64 x0),(9,.int .i64 x1)],[.var (Aa.enc x2),.rows 113 Aj x3,.var [.lst (.slice (.int .i64)) x4,.row 1],.rows 113 Aj x5,.var [.lst (.slice (.int .i64)) x6,.row 3],.var (AS.enc x7)]⟩
def Il (x0 x1:Int) (x2:AD) (x3:List AW) (x4:List (List Int)) (x5:List AW) (x6:List (List Int)) (x7:AG):Option (PO×AD):=(if (decide (x1<x0))=true then ((Lg x2 x7).bind fun y3=>((K_ x1 y3.1 y3.2.2).bind fun y4=>(if x5.length+([y3.1]:List AW).length≤68719476736 then (C8 x0 (i64.wrap (x1+1)) y3.2.1 x3 x4 (x5++([y3.1]:List AW)) x6 y4.2) else none))) else (some ((x6,x5),x2)))
def Lu (x1:List Int) (b0:AD):Option (PO×AD):=((KN b0).bind fun y1=>((G8 y1.1).bind fun y2=>(if 4=0 then none else (if (decide ((i64.wrap (20+(i64.wrap (Int.tdiv (x1.length:Int) 4))))>69))=true then (C8 69 0 y1.2 ([]:List AW) ([]:List (List Int)) ([]:List AW) y1.1 y2.1) else (C8 (i64.wrap (20+(i64.wrap (Int.tdiv (x1.length:Int) 4)))) 0 y1.2 ([]:List AW) ([]:List (List Int)) ([]:List AW) y1.1 y2.1)))))
theorem NI:gS Il C8:=lS (by kernel_rfl)
theorem Rv:SX Lu Lc:=cT Cx rfl ⟨rfl,rfl⟩ (by kernel_rfl)
def U3:=cG LW (AH Am) (AH Am) kx
def U4:=kE 2 [(10,2)] [4,7,10] 3 U3 kx
def Th:St→Option (RT (Bi.outs Am)):=lG Ml [(10,2)] [1,4,7,10,11] 3 (AH Am) U4
def U5:=cG HH (AH Am) (AH Am) kx
def NJ:=kE 0 [] [1,4,7,8] 2 U5 kx
def Lv:St→Option (RT (Bi.outs Am)):=lG Mk [] [1,4,7,8,9] 2 (AH Am) NJ
def U6:=kB [] [1,4,7,8,9] 2 Lv
def Lw (x0:List AW) (x1:Bool) (x2:Int) (x3:Bool) (x4 x5:AG):Option (AG×List Int×Bool):=cG Mj U6 (AH Am) NJ ⟨[(1,.lst Aj x0),(4,.ptr 0 0),(7,.ptr 1 0),(8,.bool x1),(9,.int .i64 x2),(23,.bool x3)],[.var (AS.enc x4),.var (AS.enc x5)]⟩
def Dr (x0:List AW) (x1:Int) (x2 x3:AG) (x4:List Int):Option (AG×List Int×Bool):=Th ⟨[(1,.lst Aj x0),(4,.ptr 0 0),(7,.ptr 1 0),(10,.row 2),(11,.int .i64 x1)],[.var (AS.enc x2),.var (AS.enc x3),.rows 3 (.int .i64) x4]⟩
def FF (x0:List AW) (x1:Bool) (x2 x3:AG):Option (AG×List Int×Bool):=cG HH (AH Am) (AH Am) kx ⟨[(1,.lst Aj x0),(4,.ptr 0 0),(7,.ptr 1 0),(8,.bool x1)],[.var (AS.enc x2),.var (AS.enc x3)]⟩
def Ci (x0:List AW) (x1:Bool) (x2:Int) (x3 x4:AG):Option (AG×List Int×Bool):=Lv ⟨[(1,.lst Aj x0),(4,.ptr 0 0),(7,.ptr 1 0),(8,.bool x1),(9,.int .i64 x2)],[.var (AS.enc x3),.var (AS.enc x4)]⟩
def Lx (x0:List AW) (x1:Bool) (x2:Int) (x3:Bool) (x4 x5:AG):Option (AG×List Int×Bool):=(if (decide ((x0.length:Int)≤70))=true then (if 0≤x2 then (if x2<(x0.length:Int) then ((Lh (x0.getD x2.toNat (0,0,0,0,ByteArray.empty,ByteArray.empty))).bind fun y2=>(Ci x0 y2 (i64.wrap (x2+1)) x4 x5)) else none) else none) else (Ci x0 false (i64.wrap (x2+1)) x4 x5))
def HQ (x0:List AW) (x1:Int) (x2 x3:AG) (x4:List Int):Option (AG×List Int×Bool):=(if (decide (x1<(x0.length:Int)))=true then (if 0≤x1 then (if x1<(x0.length:Int) then ((K_ x1 (x0.getD x1.toNat (0,0,0,0,ByteArray.empty,ByteArray.empty)) x3).bind fun y3=>(if x4.length+([y3.1]:List Int).length≤68719476736 then (Dr x0 (i64.wrap (x1+1)) x2 y3.2 (x4++([y3.1]:List Int))) else none)) else none) else none) else ((Li x3).bind fun y4=>(some (y4,x4,true))))
def Ly (x0:List AW) (x1:Bool) (x2 x3:AG):Option (AG×List Int×Bool):=(if (!x1)=true then (some ((([]:List (List Int)),([]:List O),([]:List Y),([]:List Bd)),([]:List Int),false)) else (Dr x0 0 x2 x3 ([]:List Int)))
def HR (x0:List AW) (x1:Bool) (x2:Int) (x3 x4:AG):Option (AG×List Int×Bool):=(if (decide (x2<(x0.length:Int)))=true then (if x1=true then (Lw x0 x1 x2 x1 x3 x4) else (FF x0 x1 x3 x4)) else (FF x0 x1 x3 x4))
def Qf (x0:List (List Int)) (x1:List AW):Option (AG×List Int×Bool):=((G8 x0).bind fun y1=>(Ci x1 y1.2 0 (([]:List (List Int)),([]:List O),([]:List Y),([]:List Bd)) y1.1))
theorem Ti:iS Lx Lw:=jS (by kernel_rfl)
theorem Lz:eL HQ Dr:=lS (by kernel_rfl)
theorem Tj:cH Ly FF:=jS (by kernel_rfl)
theorem L1:eL HR Ci:=lS (by kernel_rfl)
theorem YR:SX Qf KL:=cT Am rfl ⟨rfl,rfl⟩ (by kernel_rfl)
def L5 (b0:AD):Option (Int×AD):=(if 33<0 then none else (if 45<0 then none else (if (decide (b0.2.1<(b0.1.length:Int)))=true then (if 0≤b0.2.1 then (if b0.2.1<(b0.1.length:Int) then (some ((Hv .i64 (i64.wrap ((Hv .i64 (T1 .i64 (Int.fdiv (i64.wrap ((i64.wrap (b0.2.2*6364136223846793005))+1442695040888963407)) (2^(min (33:Int).toNat (IntKind.bits .i64)))) (Int.fdiv (i64.wrap ((i64.wrap (b0.2.2*6364136223846793005))+1442695040888963407)) (2^(min (45:Int).toNat (IntKind.bits .i64))))) 255)+(i64.wrap (b0.1.getD b0.2.1.toNat 0)))) 255),(b0.1,(i64.wrap (b0.2.1+1)),(i64.wrap ((i64.wrap (b0.2.2*6364136223846793005))+1442695040888963407))))) else none) else none) else (some ((Hv .i64 (T1 .i64 (Int.fdiv (i64.wrap ((i64.wrap (b0.2.2*6364136223846793005))+1442695040888963407)) (2^(min (33:Int).toNat (IntKind.bits .i64)))) (Int.fdiv (i64.wrap ((i64.wrap (b0.2.2*6364136223846793005))+1442695040888963407)) (2^(min (45:Int).toNat (IntKind.bits .i64))))) 255),(b0.1,b0.2.1,(i64.wrap ((i64.wrap (b0.2.2*6364136223846793005))+1442695040888963407))))))))
theorem Z4:SW L5 Dp:=cT IN rfl ⟨rfl,rfl⟩ (by kernel_rfl)
def Nh:=cG Gs (AH BB) (AH BB) kx
def Ni:=kE 0 [] [] 0 Nh kx
def MD:St→Option (RT (Bi.outs BB)):=lG Gr [] [0,1,7,8] 0 (AH BB) Ni
def CW (x0:List Int) (x1 x2 x3:Int):Option Int:=MD ⟨[(0,.lst (.int .i64) x0),(1,.int .i64 x1),(7,.int .i64 x2),(8,.int .i64 x3)],[]⟩
def CX (x0:List Int) (x1 x2 x3:Int):Option Int:=(if (decide (x3<x2))=true then (if 0≤x3 then (if x3<(x0.length:Int) then (if (x1==(x0.getD x3.toNat 0))=true then (some x3) else (CW x0 x1 x2 (i64.wrap (x3+1)))) else none) else none) else (some (-1:Int)))
def Pc (x0:List Int) (x1:Int):Option Int:=(CW x0 x1 (x0.length:Int) 0)
theorem D8:cH CX CW:=lS (by kernel_rfl)
theorem Pd:SX Pc FD:=cT BB rfl ⟨rfl,rfl⟩ (by kernel_rfl)
def YS:=cG QB (AH DW) (AH DW) kx
def YT:=kE 0 [] [] 0 YS kx
def Wr:St→Option (RT (Bi.outs DW)):=lG QA [] [0,3] 0 (AH DW) YT
def Ez (x0:List Int) (x1:Int):Option Bool:=Wr ⟨[(0,.lst (.int .i64) x0),(3,.int .i64 x1)],[]⟩
def JV (x0:List Int) (x1:Int):Option Bool:=(if (decide (x1<(x0.length:Int)))=true then (if 0≤x1 then (if x1<(x0.length:Int) then ((AN (x0.getD x1.toNat 0) 1 6).bind fun y1=>(if (!y1)=true then (some false) else (if (decide (x1>0))=true then (if 0≤(i64.wrap (x1-1)) then (if (i64.wrap (x1-1))<(x0.length:Int) then (if 0≤x1 then (if x1<(x0.length:Int) then (if (decide ((x0.getD (i64.wrap (x1-1)).toNat 0)≥(x0.getD x1.toNat 0)))=true then (some false) else (Ez x0 (i64.wrap (x1+1)))) else none) else none) else none) else none) else (Ez x0 (i64.wrap (x1+1)))))) else none) else none) else (some true))
def S5 (x0:List Int):Option Bool:=(Ez x0 0)
theorem Ok:SX JV Ez:=lS (by kernel_rfl)
theorem ay:SW S5 CI:=cT DW rfl ⟨rfl,rfl⟩ (by kernel_rfl)
def Ol (x0:cB):Option Bool:=(if (x0.1==0)=true then (if (x0.2.1==0)=true then (if (x0.2.2.1==0)=true then (if (false != Nn Z x0.2.2.2.1 (ByteArray.empty,ByteArray.empty,0))=true then (some ((x0.2.2.2.2.length:Int)==0)) else (some false)) else (some false)) else (some false)) else (some false))
theorem Ws:SW Ol JM:=cT GP rfl ⟨rfl,rfl⟩ (by kernel_rfl)
def Wt:=cG OI (AH Cy) (AH Cy) kx
def Wu:=kE 0 [] [] 0 Wt kx
def U7:St→Option (RT (Bi.outs Cy)):=lG OH [] [0,3] 0 (AH Cy) Wu
def Fu (x0:List Int) (x1:Int):Option Bool:=U7 ⟨[(0,.lst (.int .i64) x0),(3,.int .i64 x1)],[]⟩
def Im (x0:List Int) (x1:Int):Option Bool:=(if (decide (x1<(x0.length:Int)))=true then (if 0≤x1 then (if x1<(x0.length:Int) then ((AN (x0.getD x1.toNat 0) 1 6).bind fun y2=>(if (!y2)=true then (some false) else (if 0≤(0:Int) then (if 0≤x1 then (if x1≤(x0.length:Int) then (if 0≤x1 then (if x1<(x0.length:Int) then ((Co ((x0.take x1.toNat).drop (0:Int).toNat) (x0.getD x1.toNat 0)).bind fun y3=>(if y3=true then (some false) else (Fu x0 (i64.wrap (x1+1))))) else none) else none) else none) else none) else none))) else none) else none) else (some true))
def Rw (x0:List Int):Option Bool:=((AN (x0.length:Int) 1 4).bind fun y1=>(if (!y1)=true then (some false) else (Fu x0 0)))
theorem NK:SX Im Fu:=lS (by kernel_rfl)
theorem Z5:SW Rw Ld:=cT Cy rfl ⟨rfl,rfl⟩ (by kernel_rfl)
def YU:=cG QD (AH DX) (AH DX) kx
def YV:=kE 0 [(7,1)] [7] 3 YU kx
def Wv:St→Option (RT (Bi.outs DX)):=lG QC [(7,1)] [0,1,2,7,8] 3 (AH DX) YV
def E0 (x0:List Int) (x1:List X) (x2:Int) (x3:O) (x4:List Y) (x5:List X):Option (List Y×O):=Wv ⟨[(0,.ptr 0 0),(1,.lst (.int .i64) x0),(2,.lst Z x1),(7,.row 1),(8,.int .i64 x2)],[.var (U.enc x3),.rows 34 AK x4,.frz Z x5]⟩
def JW (x0:List Int) (x1:List X) (x2:Int) (x3:O) (x4:List Y) (x5:List X):Option (List Y×O):=(if (decide (x2<(x0.length:Int)))=true then (if 0≤x2 then (if x2<(x0.length:Int) then (if ((x0.getD x2.toNat 0) != x3.1)=true then (if 0≤x2 then (if x2<(x0.length:Int) then (if ([]:List X).length+x1.length≤68719476736 then (if x4.length+([(3,x3.1,(x0.getD x2.toNat 0),x3.2.1,0,(([]:List X)++x1))]:List Y).length≤68719476736 then (E0 x0 x1 (i64.wrap (x2+1)) x3 (x4++([(3,x3.1,(x0.getD x2.toNat 0),x3.2.1,0,(([]:List X)++x1))]:List Y)) x5) else none) else none) else none) else none) else (E0 x0 x1 (i64.wrap (x2+1)) x3 x4 x5)) else none) else none) else (some (x4,x3)))
def S6 (x1:List Int) (x2:List X) (b0:O):Option (List Y×O):=(if ([]:List X).length+x2.length≤68719476736 then ((Ew x1 b0.1).bind fun y1=>(E0 x1 x2 0 (b0.1,b0.2.1,b0.2.2.1,true,b0.2.2.2.2.1,((y1.length:Int)==0),y1,(([]:List X)++x2),b0.2.2.2.2.2.2.2.2) ([]:List Y) (([]:List X)++x2))) else none)
theorem Om:iS JW E0:=lS (by kernel_rfl)
theorem az:XU S6 Jl:=cT DX rfl ⟨rfl,rfl⟩ (by kernel_rfl)
end
end Go.Proofs.YtaedipailemlcaaGreat.Core

namespace Go.Proofs.YtaedipailemlcaaGreat.Core
open Go IntKind
set_option linter.unusedVariables false
set_option maxRecDepth 100000
noncomputable section
def Sk:=cG Kf (AH Bw) (AH Bw) kx
def Sl:=kE 0 [(5,0)] [5] 1 Sk kx
def Rx:St→Option (RT (Bi.outs Bw)):=lG Ke [(5,0)] [0,1,5,6] 1 (AH Bw) Sl
def C2 (x0:List Int) (x1 x2:Int) (x3:List Int):Option (List Int):=Rx ⟨[(0,.lst (.int .i64) x0),(1,.int .i64 x1),(5,.row 0),(6,.int .i64 x2)],[.rows 3 (.int .i64) x3]⟩
def GE (x0:List Int) (x1 x2:Int) (x3:List Int):Option (List Int):=(if (decide (x2<(x0.length:Int)))=true then (if 0≤x2 then (if x2<(x0.length:Int) then (if ((x0.getD x2.toNat 0) != x1)=true then (if 0≤x2 then (if x2<(x0.length:Int) then (if x3.length+([(x0.getD x2.toNat 0)]:List Int).length≤68719476736 then (C2 x0 x1 (i64.wrap (x2+1)) (x3++([(x0.getD x2.toNat 0)]:List Int))) else none) else none) else none) else (C2 x0 x1 (i64.wrap (x2+1)) x3)) else none) else none) else (some x3))
def NL (x0:List Int) (x1:Int):Option (List Int):=(C2 x0 x1 0 ([]:List Int))
theorem KA:cH GE C2:=lS (by kernel_rfl)
theorem U8:SX NL Fn:=cT Bw rfl ⟨rfl,rfl⟩ (by kernel_rfl)
def U9 (x0:ByteArray):Option Bool:=((Au (x0.size:Int) 1 12).bind fun y1=>(some y1))
theorem cd:SW U9 K9:=cT K3 rfl ⟨rfl,rfl⟩ (by kernel_rfl)
def E6:=kE 0 [] [] 1 (AH AO) kx
def E1:St→Option (RT (Bi.outs AO)):=lG Er [(0,0)] [0,1,2,3,8,9] 1 (AH AO) E6
def E7:=kB [(0,0)] [0,1,2,3,8,9] 1 E1
def BV:=kB [(0,0)] [0,1,2,3,8,9] 1 E7
def Ax:=kE 1 [(0,0)] [0,1,2,3,8,9] 1 E7 E6
def KB:=cG Cg BV (AH AO) Ax
def E2 (x0 x1 x2:Int) (x3 x4:Bool) (x5 x6:Int) (x7:Bool) (x8:List Int):Option (List Int):=cG Cg BV (AH AO) Ax ⟨[(0,.row 0),(1,.int .i64 x0),(2,.int .i64 x1),(3,.int .i64 x2),(8,.bool x3),(9,.bool x4),(10,.int .i64 x5),(11,.int .i64 x6),(87,.bool x7)],[.mrow 3 (.int .i64) x8]⟩
def Cj (x0 x1 x2:Int) (x3 x4:Bool) (x5 x6:Int) (x7:Bool) (x8:List Int):Option (List Int):=cG Em KB (AH AO) Ax ⟨[(0,.row 0),(1,.int .i64 x0),(2,.int .i64 x1),(3,.int .i64 x2),(8,.bool x3),(9,.bool x4),(10,.int .i64 x5),(11,.int .i64 x6),(87,.bool x7)],[.mrow 3 (.int .i64) x8]⟩
def BO (x0 x1 x2:Int) (x3 x4:Bool) (x5 x6:Int) (x7:List Int):Option (List Int):=cG En BV (AH AO) Ax ⟨[(0,.row 0),(1,.int .i64 x0),(2,.int .i64 x1),(3,.int .i64 x2),(8,.bool x3),(9,.bool x4),(10,.int .i64 x5),(11,.int .i64 x6)],[.mrow 3 (.int .i64) x7]⟩
def Ck (x0 x1 x2:Int) (x3 x4:Bool) (x5 x6 x7:Int) (x8:List Int):Option (List Int):=cG Eo BV (AH AO) Ax ⟨[(0,.row 0),(1,.int .i64 x0),(2,.int .i64 x1),(3,.int .i64 x2),(8,.bool x3),(9,.bool x4),(10,.int .i64 x5),(11,.int .i64 x6),(12,.int .i64 x7)],[.mrow 3 (.int .i64) x8]⟩
def Cl (x0 x1 x2:Int) (x3 x4:Bool) (x5:Int) (x6:List Int):Option (List Int):=cG Ep BV (AH AO) Ax ⟨[(0,.row 0),(1,.int .i64 x0),(2,.int .i64 x1),(3,.int .i64 x2),(8,.bool x3),(9,.bool x4),(10,.int .i64 x5)],[.mrow 3 (.int .i64) x6]⟩
def BP (x0 x1 x2:Int) (x3 x4:Bool) (x5:List Int):Option (List Int):=E1 ⟨[(0,.row 0),(1,.int .i64 x0),(2,.int .i64 x1),(3,.int .i64 x2),(8,.bool x3),(9,.bool x4)],[.mrow 3 (.int .i64) x5]⟩
def JX (x0 x1 x2:Int) (x3 x4:Bool) (x5 x6:Int) (x7:Bool) (x8:List Int):Option (List Int):=((J7 x0 x1 x6 x8).bind fun y9=>(if 8=0 then none else (if (decide ((i64.wrap (y9.1-x0))<(i64.wrap (x1-y9.1))))=true then ((Bk x0 y9.1 x2 y9.2.2).bind fun y10=>(BP (i64.wrap (y9.1+1)) x1 x2 (decide ((i64.wrap (y9.1-x0))≥(i64.wrap (Int.tdiv x5 8)))) y9.2.1 y10)) else ((Bk (i64.wrap (y9.1+1)) x1 x2 y9.2.2).bind fun y11=>(BP x0 y9.1 x2 (decide ((i64.wrap (x1-y9.1))≥(i64.wrap (Int.tdiv x5 8)))) y9.2.1 y11)))))
def JY (x0 x1 x2:Int) (x3 x4:Bool) (x5 x6:Int) (x7:Bool) (x8:List Int):Option (List Int):=(if x7=true then ((HL x0 x1 x6 x8).bind fun y8=>(BP y8.1 x1 x2 x3 x4 y8.2)) else (E2 x0 x1 x2 x3 x4 x5 x6 x7 x8))
def JZ (x0 x1 x2:Int) (x3 x4:Bool) (x5 x6:Int) (x7:List Int):Option (List Int):=(if (decide (x0>0))=true then (if 0≤(i64.wrap (x0-1)) then (if (i64.wrap (x0-1))<(x7.length:Int) then (if 0≤x6 then (if x6<(x7.length:Int) then ((IU (x7.getD ((i64.wrap (x0-1)).toNat) 0) (x7.getD x6.toNat 0)).bind fun y7=>(Cj x0 x1 x2 x3 x4 x5 x6 (!y7) x7)) else none) else none) else none) else none) else (Cj x0 x1 x2 x3 x4 x5 x6 false x7))
def Ja (x0 x1 x2:Int) (x3 x4:Bool) (x5 x6 x7:Int) (x8:List Int):Option (List Int):=(if x3=true then (if x4=true then (if (x7==1)=true then ((Fa x0 x1 x8).bind fun y6=>(if y6.1=true then (some y6.2) else (BO x0 x1 x2 x3 x4 x5 x6 y6.2))) else (BO x0 x1 x2 x3 x4 x5 x6 x8)) else (BO x0 x1 x2 x3 x4 x5 x6 x8)) else (BO x0 x1 x2 x3 x4 x5 x6 x8))
def Jb (x0 x1 x2:Int) (x3 x4:Bool) (x5:Int) (x6:List Int):Option (List Int):=((I2 x0 x1 x6).bind fun y4=>(if (y4.2.1==2)=true then ((IX x0 x1 y4.2.2).bind fun y5=>(Ck x0 x1 x2 x3 x4 x5 (i64.wrap ((i64.wrap (x1-1))-(i64.wrap (y4.1-x0)))) 1 y5)) else (Ck x0 x1 x2 x3 x4 x5 y4.1 y4.2.1 y4.2.2)))
def E3 (x0 x1 x2:Int) (x3 x4:Bool) (x5:List Int):Option (List Int):=(if (decide ((i64.wrap (x1-x0))≤12))=true then ((CG x0 x1 x5).bind fun y1=>(some y1)) else (if (x2==0)=true then ((KQ x0 x1 x5).bind fun y2=>(some y2)) else (if (!x3)=true then ((Hu x0 x1 x5).bind fun y3=>(Cl x0 x1 (i64.wrap (x2-1)) x3 x4 (i64.wrap (x1-x0)) y3)) else (Cl x0 x1 x2 x3 x4 (i64.wrap (x1-x0)) x5))))
def Fv (x1 x2 x3:Int) (b0:List Int):Option (List Int):=(BP x1 x2 x3 true true b0)
theorem Ww:km JX E2:=jS (by kernel_rfl)
theorem Wx:km JY Cj:=jS (by kernel_rfl)
theorem Wy:gS JZ BO:=jS (by kernel_rfl)
theorem Wz:km Ja Ck:=jS (by kernel_rfl)
theorem W0:ir Jb Cl:=jS (by kernel_rfl)
theorem Jc:iS E3 BP:=lS (by kernel_rfl)
theorem LB:cH Fv Bk:=cT AO rfl ⟨rfl,rfl⟩ (by kernel_rfl)
def Qg (x0:Int):Option Int:=((IV x0).bind fun y1=>(some y1))
theorem YW:SW Qg KM:=cT G5 rfl ⟨rfl,rfl⟩ (by kernel_rfl)
def Fw (x0:List X) (x1:X) (x2:List X):Option (List X):=cG OK (AH Cz) (AH Cz) kx ⟨[(0,.lst Z x0),(5,.row 1)],[.var (Z.enc x1),.rows 27 Z x2]⟩
def Fx (x0:List X) (x1:Int) (x2 x3:Bool) (x4:X) (x5:List X):Option (List X):=cG OL (AH Cz) (AH Cz) kx ⟨[(0,.lst Z x0),(3,.ptr 0 0),(5,.row 1),(6,.int .i64 x1),(7,.bool x2),(32,.bool x3)],[.var (Z.enc x4),.rows 27 Z x5]⟩
def NM (x0:List X) (x1:X) (x2:List X):Option (List X):=((Et x2).bind fun y5=>(if (!y5)=true then ((Ag x0).bind fun y6=>(some y6)) else (some x2)))
def NN (x0:List X) (x1:Int) (x2 x3:Bool) (x4:X) (x5:List X):Option (List X):=(if x2=true then (if 0≤x1 then (if x1<(x5.length:Int) then (let z4:List X:=x5.set x1.toNat x4; (Fw x0 x4 z4)) else none) else none) else ((B0 x5 x1 ([x4]:List X)).bind fun y7=>(Fw x0 x4 y7)))
def Ry (x0:List X) (x1:X):Option (List X):=((Ag x0).bind fun y1=>((Ar x0 x1.1 ()).bind fun y2=>((Et x0).bind fun y3=>(if (!y3)=true then (some y1) else (if y2.2=true then (if 0≤y2.1 then (if y2.1<(x0.length:Int) then (if (decide ((((x0.getD y2.1.toNat (ByteArray.empty,ByteArray.empty,0)).2).2)≥x1.2.2))=true then (some y1) else (Fx x0 y2.1 y2.2 (decide ((((x0.getD y2.1.toNat (ByteArray.empty,ByteArray.empty,0)).2).2)≥x1.2.2)) x1 y1)) else none) else none) else (Fx x0 y2.1 y2.2 false x1 y1))))))
theorem U_:XU NM Fw:=jS (by kernel_rfl)
theorem VD:iS NN Fx:=jS (by kernel_rfl)
theorem Z6:SX Ry Le:=cT Cz rfl ⟨rfl,rfl⟩ (by kernel_rfl)
def Rz (x0:Y):Option Y:=((Ag x0.2.2.2.2.2).bind fun y1=>(some (x0.1,x0.2.1,x0.2.2.1,x0.2.2.2.1,x0.2.2.2.2.1,y1)))
theorem Z7:SW Rz Lf:=cT IP rfl ⟨rfl,rfl⟩ (by kernel_rfl)
def VG:=cG LZ (AH BK) (AH BK) kx
def In:=kE 0 [(3,1)] [3] 2 VG kx
def L6:St→Option (RT (Bi.outs BK)):=lG LY [(3,1)] [0,3,4] 2 (AH BK) In
def VH:=kB [(3,1)] [0,3,4] 2 L6
def NO:=cG LX VH (AH BK) In
def VI:=kB [(3,1)] [0,3,4] 2 NO
def NP:=kE 1 [(3,1)] [0,3,4] 2 NO In
def VJ:=cG Mn VI (AH BK) NP
def VK:=kE 2 [(3,1),(5,2)] [0,3,4,5] 3 VJ NP
def Tk:St→Option (RT (Bi.outs BK)):=lG Mm [(3,1),(5,2)] [0,3,4,5,6] 3 (AH BK) VK
def Ds (x0 x1:Int) (x2:AD) (x3:List (List Int)) (x4:List Int):Option (List (List Int)×AD):=Tk ⟨[(0,.ptr 0 0),(3,.row 1),(4,.int .i64 x0),(5,.row 2),(6,.int .i64 x1)],[.var (Aa.enc x2),.rows 24 (.slice (.int .i64)) x3,.rows 3 (.int .i64) x4]⟩
def Dt (x0:Int) (x1:AD) (x2:List (List Int)):Option (List (List Int)×AD):=L6 ⟨[(0,.ptr 0 0),(3,.row 1),(4,.int .i64 x0)],[.var (Aa.enc x1),.rows 24 (.slice (.int .i64)) x2]⟩
def Du (x0 x1:Int) (x2:AD) (x3:List (List Int)) (x4:List Int):Option (List (List Int)×AD):=((Bq 3 x2).bind fun y2=>(if (decide (x1<(i64.wrap (1+y2.1))))=true then ((Bq 4 y2.2).bind fun y3=>((Co x4 (i64.wrap (1+y3.1))).bind fun y4=>(if (!y4)=true then (if x4.length+([(i64.wrap (1+y3.1))]:List Int).length≤68719476736 then (Ds x0 (i64.wrap (x1+1)) y3.2 x3 (x4++([(i64.wrap (1+y3.1))]:List Int))) else none) else (Ds x0 (i64.wrap (x1+1)) y3.2 x3 x4)))) else (if x3.length+([x4]:List (List Int)).length≤68719476736 then (Dt (i64.wrap (x0+1)) y2.2 (x3++([x4]:List (List Int)))) else none)))
def FH (x0:Int) (x1:AD) (x2:List (List Int)):Option (List (List Int)×AD):=((Bq 5 x1).bind fun y1=>(if (decide (x0<(i64.wrap (1+y1.1))))=true then (Ds x0 0 y1.2 x2 ([]:List Int)) else (some (x2,y1.2))))
def Qh (b0:AD):Option (List (List Int)×AD):=(Dt 0 b0 ([]:List (List Int)))
theorem FI:eL Du Ds:=lS (by kernel_rfl)
theorem HS:XU FH Dt:=lS (by kernel_rfl)
theorem YX:SW Qh KN:=cT BK rfl ⟨rfl,rfl⟩ (by kernel_rfl)
def VL:=cG Mp (AH CR) (AH CR) kx
def VM:=kE 0 [] [2,4] 4 VL kx
def Tl:St→Option (RT (Bi.outs CR)):=lG Mo [] [0,2,4,5] 4 (AH CR) VM
def Dv (x0:List (List Int)) (x1:Int) (x2:List O) (x3:List (List Int)) (x4:List Y) (x5:List Bd) (x6:List O) (x7:List (List Int)):Option (AG×Bool):=Tl ⟨[(0,.lst (.slice (.int .i64)) x0),(2,.ptr 1 0),(4,.ptr 3 0),(5,.int .i64 x1)],[.rows 31 U x2,.var [.lst (.slice (.int .i64)) x3,.row 0,.lst AK x4,.lst Ek x5],.rows 31 U x6,.var [.lst (.slice (.int .i64)) x7,.row 2,.nil,.nil]]⟩
def HT (x0:List (List Int)) (x1:Int) (x2:List O) (x3:List (List Int)) (x4:List Y) (x5:List Bd) (x6:List O) (x7:List (List Int)):Option (AG×Bool):=(if (decide (x1≤6))=true then ((Eu x1 x0).bind fun y3=>(if x6.length+([y3.1]:List O).length≤68719476736 then (Dv x0 (i64.wrap (x1+1)) x2 x3 x4 x5 (x6++([y3.1]:List O)) x7) else none)) else (some ((x7,x6,[],[]),true)))
def Qi (x0:List (List Int)):Option (AG×Bool):=((C1 x0).bind fun y1=>(if (!y1)=true then (some (([],([]:List O),[],[]),false)) else ((Eg x0).bind fun y2=>(Dv x0 1 ([]:List O) ([]:List (List Int)) ([]:List Y) ([]:List Bd) ([]:List O) y2))))
theorem L7:gS HT Dv:=lS (by kernel_rfl)
theorem YY:SW Qi G8:=cT CR rfl ⟨rfl,rfl⟩ (by kernel_rfl)
def On:=cG Ms (AH Ap) (AH Ap) kx
def Oo:=kB [] [4,5] 4 On
def Oq:=kE 0 [] [4,5] 4 On kx
def W2:=kE 1 [] [4,5] 6 Oo Oq
def VN:St→Option (RT (Bi.outs Ap)):=lG OM [] [0,1,4,5,6] 6 (AH Ap) W2
def W3:=kE 3 [] [4,5] 4 Oo Oq
def VO:St→Option (RT (Bi.outs Ap)):=lG Mr [] [0,1,4,5,7] 4 (AH Ap) W3
def CN (x0:Int) (x1:AD) (x2:AG) (x3 x4:AW) (x5:List Int) (x6:List ByteArray):Option (AW×AD×AG):=VN ⟨[(0,.ptr 0 0),(1,.ptr 1 0),(4,.ptr 2 0),(5,.ptr 3 0),(6,.int .i64 x0)],[.var (Aa.enc x1),.var (AS.enc x2),.var (Aj.enc x3),.var (Aj.enc x4),.frz (.int .i64) x5,.frz .str x6]⟩
def CO (x0:Int) (x1:AD) (x2:AG) (x3 x4:AW):Option (AW×AD×AG):=VO ⟨[(0,.ptr 0 0),(1,.ptr 1 0),(4,.ptr 2 0),(5,.ptr 3 0),(7,.int .i64 x0)],[.var (Aa.enc x1),.var (AS.enc x2),.var (Aj.enc x3),.var (Aj.enc x4)]⟩
def EQ (x0:AD) (x1:AG) (x2 x3:AW):Option (AW×AD×AG):=cG Mt (AH Ap) (AH Ap) kx ⟨[(0,.ptr 0 0),(1,.ptr 1 0),(4,.ptr 2 0),(5,.ptr 3 0)],[.var (Aa.enc x0),.var (AS.enc x1),.var (Aj.enc x2),.var (Aj.enc x3)]⟩
def Af (x0:AD) (x1:AG) (x2 x3:AW):Option (AW×AD×AG):=cG Mu (AH Ap) (AH Ap) kx ⟨[(0,.ptr 0 0),(1,.ptr 1 0),(4,.ptr 2 0),(5,.ptr 3 0)],[.var (Aa.enc x0),.var (AS.enc x1),.var (Aj.enc x2),.var (Aj.enc x3)]⟩
def Io (x0:AD) (x1:AG) (x2 x3:AW):Option (AW×AD×AG):=cG Mv (AH Ap) (AH Ap) kx ⟨[(0,.ptr 0 0),(1,.ptr 1 0),(4,.ptr 2 0),(5,.ptr 3 0)],[.var (Aa.enc x0),.var (AS.enc x1),.var (Aj.enc x2),.var (Aj.enc x3)]⟩
def ER (x0:Int) (x1:AD) (x2:AG) (x3 x4:AW) (x5:List Int) (x6:List ByteArray):Option (AW×AD×AG):=(if (decide (x0<(x2.2.1.length:Int)))=true then (if 0≤x0 then (if x0<(x2.2.1.length:Int) then (if (((((((x2.2.1.getD x0.toNat (0,0,false,false,false,false,([]:List Int),([]:List X),0,0,0,0,(ByteArray.empty,ByteArray.empty,0),([]:List Int))).2).2).2).2).2).1)=true then ((Bz 4 x1).bind fun y10=>(if (!y10.1)=true then (CN (i64.wrap (x0+1)) y10.2 x2 x3 (x4.1,(i64.wrap (x0+1)),x4.2.2) x5 x6) else (CN (i64.wrap (x0+1)) y10.2 x2 x3 x4 x5 x6))) else (CN (i64.wrap (x0+1)) x1 x2 x3 x4 x5 x6)) else none) else none) else (some (x4,x1,x2)))
def C9 (x0:Int) (x1:AD) (x2:AG) (x3 x4:AW):Option (AW×AD×AG):=(if (decide (x0<(x2.2.1.length:Int)))=true then (if 0≤x0 then (if x0<(x2.2.1.length:Int) then (if (decide ((((x2.2.1.getD x0.toNat (0,0,false,false,false,false,([]:List Int),([]:List X),0,0,0,0,(ByteArray.empty,ByteArray.empty,0),([]:List Int))).2).1)<(x2.1.length:Int)))=true then (if 0≤(((x2.2.1.getD x0.toNat (0,0,false,false,false,false,([]:List Int),([]:List X),0,0,0,0,(ByteArray.empty,ByteArray.empty,0),([]:List Int))).2).1) then (if (((x2.2.1.getD x0.toNat (0,0,false,false,false,false,([]:List Int),([]:List X),0,0,0,0,(ByteArray.empty,ByteArray.empty,0),([]:List Int))).2).1)<(x2.1.length:Int) then (if 0≤(0:Int) then (if 0<((x2.1.getD (((x2.2.1.getD x0.toNat (0,0,false,false,false,false,([]:List Int),([]:List X),0,0,0,0,(ByteArray.empty,ByteArray.empty,0),([]:List Int))).2).1).toNat ([]:List Int)).length:Int) then (if (((x2.1.getD (((x2.2.1.getD x0.toNat (0,0,false,false,false,false,([]:List Int),([]:List X),0,0,0,0,(ByteArray.empty,ByteArray.empty,0),([]:List Int))).2).1).toNat ([]:List Int)).getD (0:Int).toNat 0)==((x2.2.1.getD x0.toNat (0,0,false,false,false,false,([]:List Int),([]:List X),0,0,0,0,(ByteArray.empty,ByteArray.empty,0),([]:List Int))).1))=true then ((Bz 3 x1).bind fun y11=>(if (!y11.1)=true then (CO (i64.wrap (x0+1)) y11.2 x2 x3 (x4.1,(x2.2.1.getD x0.toNat (0,0,false,false,false,false,([]:List Int),([]:List X),0,0,0,0,(ByteArray.empty,ByteArray.empty,0),([]:List Int))).1,x4.2.2)) else (CO (i64.wrap (x0+1)) y11.2 x2 x3 x4))) else (CO (i64.wrap (x0+1)) x1 x2 x3 x4)) else none) else none) else none) else none) else (CO (i64.wrap (x0+1)) x1 x2 x3 x4)) else none) else none) else (some (x4,x1,x2)))
def ES (x0:AD) (x1:AG) (x2 x3:AW):Option (AW×AD×AG):=(if (x3.1==1)=true then ((Fo ([1,1,2]:List Int) x0).bind fun y7=>((IW ([(⟨#[97]⟩:ByteArray),(⟨#[98]⟩:ByteArray),(⟨#[99]⟩:ByteArray)]:List ByteArray) y7.2).bind fun y8=>(if (y7.1==1)=true then ((IW ([(⟨#[118]⟩:ByteArray),(⟨#[119]⟩:ByteArray),(⟨#[120]⟩:ByteArray),(⟨#[121]⟩:ByteArray)]:List ByteArray) y8.2).bind fun y9=>(CN 0 y9.2 x1 x2 (x3.1,x3.2.1,x3.2.2.1,y7.1,y8.1,y9.1) ([1,1,2]:List Int) ([(⟨#[97]⟩:ByteArray),(⟨#[98]⟩:ByteArray),(⟨#[99]⟩:ByteArray)]:List ByteArray))) else (CN 0 y8.2 x1 x2 (x3.1,x3.2.1,x3.2.2.1,y7.1,y8.1,x3.2.2.2.2.2) ([1,1,2]:List Int) ([(⟨#[97]⟩:ByteArray),(⟨#[98]⟩:ByteArray),(⟨#[99]⟩:ByteArray)]:List ByteArray))))) else (if (x3.1==5)=true then (CO 0 x0 x1 x2 x3) else (some (x3,x0,x1))))
def Fy (x0:AD) (x1:AG) (x2 x3:AW):Option (AW×AD×AG):=(if (x3.1==2)=true then ((Bz 2 x0).bind fun y6=>(if y6.1=true then (EQ y6.2 x1 x2 (x3.1,x3.2.1,0,x3.2.2.2)) else (EQ y6.2 x1 x2 x3))) else (EQ x0 x1 x2 x3))
def Fz (x0:AD) (x1:AG) (x2 x3:AW):Option (AW×AD×AG):=(if ((x1.2.2.1.length:Int)==0)=true then ((AN x3.1 2 4).bind fun y4=>(if y4=true then (if ((1:Int)==6)=true then ((Bz 4 x0).bind fun y5=>(if (!y5.1)=true then (Af y5.2 x1 x2 (1,x3.2)) else (Af y5.2 x1 x2 (1,x3.2)))) else (Af x0 x1 x2 (1,x3.2))) else (if (x3.1==6)=true then ((Bz 4 x0).bind fun y12=>(if (!y12.1)=true then (Af y12.2 x1 x2 (1,x3.2)) else (Af y12.2 x1 x2 x3))) else (Af x0 x1 x2 x3)))) else (if (x3.1==6)=true then ((Bz 4 x0).bind fun y13=>(if (!y13.1)=true then (Af y13.2 x1 x2 (1,x3.2)) else (Af y13.2 x1 x2 x3))) else (Af x0 x1 x2 x3)))
def R0 (b0:AD) (b1:AG):Option (AW×AD×AG):=((Fo ([1,1,1,2,2,2,2,2,2,2,2,3,4,5,6]:List Int) b0).bind fun y1=>((Bq 4 y1.2).bind fun y2=>((Bq 20 y2.2).bind fun y3=>(Io y3.2 b1 (0,0,0,0,ByteArray.empty,ByteArray.empty) (y1.1,(i64.wrap (1+y2.1)),y3.1,0,ByteArray.empty,ByteArray.empty)))))
theorem F0:ir ER CN:=lS (by kernel_rfl)
theorem ET:eL C9 CO:=lS (by kernel_rfl)
theorem F3:cH ES EQ:=jS (by kernel_rfl)
theorem Ip:cH Fy Af:=jS (by kernel_rfl)
theorem Iq:cH Fz Io:=jS (by kernel_rfl)
theorem Z8:SX R0 Lg:=cT Ap rfl ⟨rfl,rfl⟩ (by kernel_rfl)
def Ir (x1:Int) (x2:AW) (b0:AG):Option (Int×AG):=(if (x2.1==1)=true then ((KO x1 x2 b0).bind fun y1=>(some (y1.1,y1.2))) else (if (x2.1==5)=true then ((KP x1 x2.2.1 b0).bind fun y2=>(some (y2.1,y2.2))) else (if (x2.1==6)=true then (if 0≤(i64.wrap (x2.2.1-1)) then (if (i64.wrap (x2.2.1-1))<(b0.2.1.length:Int) then ((Ra (b0.2.1.getD (i64.wrap (x2.2.1-1)).toNat (0,0,false,false,false,false,([]:List Int),([]:List X),0,0,0,0,(ByteArray.empty,ByteArray.empty,0),([]:List Int)))).bind fun y3=>((Dj y3 ([]:List Y) ([]:List AB) x1 b0).bind fun y4=>(some (0,y4)))) else none) else none) else ((Nf x1 x2 b0).bind fun y5=>(some (y5.1,y5.2))))))
theorem LC:XU Ir K_:=cT K5 rfl ⟨rfl,rfl⟩ (by kernel_rfl)
def Is (x0:Bool) (x1:AW):Option Bool:=cG ON (AH Es) (AH Es) kx ⟨[(1,.ptr 0 0),(17,.bool x0)],[.var (Aj.enc x1)]⟩
def NQ (x0:Bool) (x1:AW):Option Bool:=(if (x1.1 != 1)=true then (if (x1.2.2.2.1==0)=true then (if (x1.2.2.2.2.1.toList==(⟨#[]⟩:ByteArray).toList)=true then (some (x1.2.2.2.2.2.toList==(⟨#[]⟩:ByteArray).toList)) else (some false)) else (some false)) else (if (x1.2.2.2.1==1)=false then (if (x1.2.2.2.1==2)=true then ((AN (x1.2.2.2.2.1.size:Int) 1 12).bind fun y3=>(if y3=true then (if (decide ((x1.2.2.2.2.2.size:Int)≤20))=true then (if (x1.2.2.2.1==1)=false then (some (x1.2.2.2.2.2.toList==(⟨#[]⟩:ByteArray).toList)) else (some true)) else (some false)) else (some false))) else (some false)) else ((AN (x1.2.2.2.2.1.size:Int) 1 12).bind fun y4=>(if y4=true then (if (decide ((x1.2.2.2.2.2.size:Int)≤20))=true then (if (x1.2.2.2.1==1)=false then (some (x1.2.2.2.2.2.toList==(⟨#[]⟩:ByteArray).toList)) else (some true)) else (some false)) else (some false)))))
def R1 (x0:AW):Option Bool:=((AN x0.1 1 6).bind fun y1=>(if (!y1)=false then ((AN x0.2.1 1 6).bind fun y2=>(if (!y2)=false then (if (decide (x0.2.2.1<0))=true then (some false) else (Is (decide (x0.2.2.1<0)) x0)) else (some false))) else (some false)))
theorem VP:SX NQ Is:=jS (by kernel_rfl)
theorem Z9:SW R1 Lh:=cT Es rfl ⟨rfl,rfl⟩ (by kernel_rfl)
def W4:=cG OP (AH C0) (AH C0) kx
def W5:=kE 0 [] [2,3] 6 W4 kx
def VQ:St→Option (RT (Bi.outs C0)):=lG OO [] [1,2,3,4] 6 (AH C0) W5
def EU (x0:Int) (x1:List (List Int)) (x2:List O) (x3:List Y) (x4:List Bd) (x5:List O) (x6:List (List Int)) (x7:List Y) (x8 x9:List Bd) (x10:List O) (x11:List (List Int)) (x12:List Y) (x13:List Bd):Option AG:=VQ ⟨[(1,.ptr 0 0),(2,.ptr 2 0),(3,.ptr 5 0),(4,.int .i64 x0)],[.var [.lst (.slice (.int .i64)) x1,.lst U x2,.lst AK x3,.lst Ek x4],.rows 31 U x5,.var [.lst (.slice (.int .i64)) x6,.row 1,.lst AK x7,.lst Ek x8],.frz Ek x9,.rows 31 U x10,.var [.lst (.slice (.int .i64)) x11,.row 4,.lst AK x12,.lst Ek x13]]⟩
def It (x0:Int) (x1:List (List Int)) (x2:List O) (x3:List Y) (x4:List Bd) (x5:List O) (x6:List (List Int)) (x7:List Y) (x8 x9:List Bd) (x10:List O) (x11:List (List Int)) (x12:List Y) (x13:List Bd):Option AG:=(if (decide (x0<(x2.length:Int)))=true then (if 0≤x0 then (if x0<(x2.length:Int) then ((CK (x2.getD x0.toNat (0,0,false,false,false,false,([]:List Int),([]:List X),0,0,0,0,(ByteArray.empty,ByteArray.empty,0),([]:List Int)))).bind fun y3=>(if x10.length+([y3]:List O).length≤68719476736 then (EU (i64.wrap (x0+1)) x1 x2 x3 x4 x5 x6 x7 x8 x9 (x10++([y3]:List O)) x11 x12 x13) else none)) else none) else none) else (some (x11,x10,x12,x13)))
def R2 (x0:AG):Option AG:=((Eg x0.1).bind fun y1=>((HK x0.2.2.1).bind fun y2=>(if ([]:List Bd).length+x0.2.2.2.length≤68719476736 then (EU 0 x0.1 x0.2.1 x0.2.2.1 x0.2.2.2 ([]:List O) ([]:List (List Int)) ([]:List Y) ([]:List Bd) (([]:List Bd)++x0.2.2.2) ([]:List O) y1 y2 (([]:List Bd)++x0.2.2.2)) else none)))
theorem NR:lY It EU:=lS (by kernel_rfl)
theorem Z_:SW R2 Li:=cT C0 rfl ⟨rfl,rfl⟩ (by kernel_rfl)
def NS (x1:List Int) (b0:AD):Option (Int×AD):=((Bq (x1.length:Int) b0).bind fun y1=>(if 0≤y1.1 then (if y1.1<(x1.length:Int) then (some ((x1.getD y1.1.toNat 0),y1.2)) else none) else none))
theorem VR:SX NS Fo:=cT Fl rfl ⟨rfl,rfl⟩ (by kernel_rfl)
def B1:=kE 0 [] [] 1 (AH AM) kx
def DF:St→Option (RT (Bi.outs AM)):=lG Db [(0,0)] [0,1,2,6] 1 (AH AM) B1
def Gv:=kB [(0,0)] [0,1,2,6] 1 DF
def Dc:=cG Da Gv (AH AM) B1
def Gw:=kB [(0,0)] [0,1,2,6] 1 Dc
def Gx:=kE 1 [(0,0)] [0,1,2,6] 1 Dc B1
def Dd:=kE 2 [(0,0)] [0,1,2,6] 1 Gw Gx
def DG:St→Option (RT (Bi.outs AM)):=lG DZ [(0,0)] [0,1,2,6,7] 1 (AH AM) Dd
def Gy:=kB [(0,0)] [0,1,2,6,7] 1 DG
def DH (x0 x1 x2 x3:Int) (x4:Bool) (x5:List Int):Option (List Int):=cG DY Gy (AH AM) Dd ⟨[(0,.row 0),(1,.int .i64 x0),(2,.int .i64 x1),(6,.int .i64 x2),(7,.int .i64 x3),(30,.bool x4)],[.mrow 3 (.int .i64) x5]⟩
def BH (x0 x1 x2 x3:Int) (x4:List Int):Option (List Int):=DG ⟨[(0,.row 0),(1,.int .i64 x0),(2,.int .i64 x1),(6,.int .i64 x2),(7,.int .i64 x3)],[.mrow 3 (.int .i64) x4]⟩
def Ad (x0 x1 x2:Int) (x3:List Int):Option (List Int):=DF ⟨[(0,.row 0),(1,.int .i64 x0),(2,.int .i64 x1),(6,.int .i64 x2)],[.mrow 3 (.int .i64) x3]⟩
def DI (x0 x1 x2 x3:Int) (x4:Bool) (x5:List Int):Option (List Int):=(if 0≤(i64.wrap (x3-1)) then (if (i64.wrap (x3-1))<(x5.length:Int) then (if 0≤x3 then (if x3<(x5.length:Int) then (if 0≤x3 then (if x3<(x5.length:Int) then (let z2:List Int:=x5.set x3.toNat (x5.getD ((i64.wrap (x3-1)).toNat) 0); (if 0≤(i64.wrap (x3-1)) then (if (i64.wrap (x3-1))<(z2.length:Int) then (let z3:List Int:=z2.set ((i64.wrap (x3-1)).toNat) (x5.getD x3.toNat 0); (BH x0 x1 x2 (i64.wrap (x3-1)) z3)) else none) else none)) else none) else none) else none) else none) else none) else none)
def Bt (x0 x1 x2 x3:Int) (x4:List Int):Option (List Int):=(if (decide (x3>x0))=true then (if 0≤x3 then (if x3<(x4.length:Int) then (if 0≤(i64.wrap (x3-1)) then (if (i64.wrap (x3-1))<(x4.length:Int) then ((IU (x4.getD x3.toNat 0) (x4.getD ((i64.wrap (x3-1)).toNat) 0)).bind fun y1=>(if y1=true then (DH x0 x1 x2 x3 y1 x4) else (Ad x0 x1 (i64.wrap (x2+1)) x4))) else none) else none) else none) else none) else (Ad x0 x1 (i64.wrap (x2+1)) x4))
def BI (x0 x1 x2:Int) (x3:List Int):Option (List Int):=(if (decide (x2<x1))=true then (BH x0 x1 x2 x2 x3) else (some x3))
def CH (x1 x2:Int) (b0:List Int):Option (List Int):=(Ad x1 x2 (i64.wrap (x1+1)) b0)
theorem Gh:iS DI DH:=jS (by kernel_rfl)
theorem DJ:eL Bt BH:=lS (by kernel_rfl)
theorem Bu:cH BI Ad:=lS (by kernel_rfl)
theorem D7:XU CH CG:=cT AM rfl ⟨rfl,rfl⟩ (by kernel_rfl)
def R3 (x0 x1:Int):Option Bool:=((G9 x0).bind fun y1=>(if y1=true then ((G9 x1).bind fun y2=>(if (!y2)=false then (some (decide (x0<x1))) else (some true))) else (some (decide (x0<x1)))))
theorem aA:SX R3 IU:=cT IQ rfl ⟨rfl,rfl⟩ (by kernel_rfl)
def EV (x0 x1:Int):Option Int:=cG Kg (AH Bx) (AH Bx) kx ⟨[(0,.int .u64 x0),(2,.int .i64 x1)],[]⟩
def GF (x0 x1:Int):Option Int:=cG Kh (AH Bx) (AH Bx) kx ⟨[(0,.int .u64 x0),(2,.int .i64 x1)],[]⟩
def GG (x0 x1:Int):Option Int:=(if (decide (x0≥256))=true then (if 8<0 then none else (if 0≤(IntKind.u8.wrap (Int.fdiv x0 (2^(min (8:Int).toNat (IntKind.bits .u64))))) then (if (IntKind.u8.wrap (Int.fdiv x0 (2^(min (8:Int).toNat (IntKind.bits .u64)))))<((⟨#[0,1,2,2,3,3,3,3,4,4,4,4,4,4,4,4,5,5,5,5,5,5,5,5,5,5,5,5,5,5,5,5,6,6,6,6,6,6,6,6,6,6,6,6,6,6,6,6,6,6,6,6,6,6,6,6,6,6,6,6,6,6,6,6,7,7,7,7,7,7,7,7,7,7,7,7,7,7,7,7,7,7,7,7,7,7,7,7,7,7,7,7,7,7,7,7,7,7,7,7,7,7,7,7,7,7,7,7,7,7,7,7,7,7,7,7,7,7,7,7,7,7,7,7,7,7,7,7,8,8,8,8,8,8,8,8,8,8,8,8,8,8,8,8,8,8,8,8,8,8,8,8,8,8,8,8,8,8,8,8,8,8,8,8,8,8,8,8,8,8,8,8,8,8,8,8,8,8,8,8,8,8,8,8,8,8,8,8,8,8,8,8,8,8,8,8,8,8,8,8,8,8,8,8,8,8,8,8,8,8,8,8,8,8,8,8,8,8,8,8,8,8,8,8,8,8,8,8,8,8,8,8,8,8,8,8,8,8,8,8,8,8,8,8,8,8,8,8,8,8,8,8,8,8,8,8]⟩:ByteArray).size:Int) then (some (i64.wrap ((i64.wrap (x1+8))+(i64.wrap (((⟨#[0,1,2,2,3,3,3,3,4,4,4,4,4,4,4,4,5,5,5,5,5,5,5,5,5,5,5,5,5,5,5,5,6,6,6,6,6,6,6,6,6,6,6,6,6,6,6,6,6,6,6,6,6,6,6,6,6,6,6,6,6,6,6,6,7,7,7,7,7,7,7,7,7,7,7,7,7,7,7,7,7,7,7,7,7,7,7,7,7,7,7,7,7,7,7,7,7,7,7,7,7,7,7,7,7,7,7,7,7,7,7,7,7,7,7,7,7,7,7,7,7,7,7,7,7,7,7,7,8,8,8,8,8,8,8,8,8,8,8,8,8,8,8,8,8,8,8,8,8,8,8,8,8,8,8,8,8,8,8,8,8,8,8,8,8,8,8,8,8,8,8,8,8,8,8,8,8,8,8,8,8,8,8,8,8,8,8,8,8,8,8,8,8,8,8,8,8,8,8,8,8,8,8,8,8,8,8,8,8,8,8,8,8,8,8,8,8,8,8,8,8,8,8,8,8,8,8,8,8,8,8,8,8,8,8,8,8,8,8,8,8,8,8,8,8,8,8,8,8,8,8,8,8,8,8,8]⟩:ByteArray).data.toList.getD (IntKind.u8.wrap (Int.fdiv x0 (2^(min (8:Int).toNat (IntKind.bits .u64))))).toNat 0).toNat:Int))))) else none) else none)) else (if 0≤(IntKind.u8.wrap x0) then (if (IntKind.u8.wrap x0)<((⟨#[0,1,2,2,3,3,3,3,4,4,4,4,4,4,4,4,5,5,5,5,5,5,5,5,5,5,5,5,5,5,5,5,6,6,6,6,6,6,6,6,6,6,6,6,6,6,6,6,6,6,6,6,6,6,6,6,6,6,6,6,6,6,6,6,7,7,7,7,7,7,7,7,7,7,7,7,7,7,7,7,7,7,7,7,7,7,7,7,7,7,7,7,7,7,7,7,7,7,7,7,7,7,7,7,7,7,7,7,7,7,7,7,7,7,7,7,7,7,7,7,7,7,7,7,7,7,7,7,8,8,8,8,8,8,8,8,8,8,8,8,8,8,8,8,8,8,8,8,8,8,8,8,8,8,8,8,8,8,8,8,8,8,8,8,8,8,8,8,8,8,8,8,8,8,8,8,8,8,8,8,8,8,8,8,8,8,8,8,8,8,8,8,8,8,8,8,8,8,8,8,8,8,8,8,8,8,8,8,8,8,8,8,8,8,8,8,8,8,8,8,8,8,8,8,8,8,8,8,8,8,8,8,8,8,8,8,8,8,8,8,8,8,8,8,8,8,8,8,8,8,8,8,8,8,8,8]⟩:ByteArray).size:Int) then (some (i64.wrap (x1+(i64.wrap (((⟨#[0,1,2,2,3,3,3,3,4,4,4,4,4,4,4,4,5,5,5,5,5,5,5,5,5,5,5,5,5,5,5,5,6,6,6,6,6,6,6,6,6,6,6,6,6,6,6,6,6,6,6,6,6,6,6,6,6,6,6,6,6,6,6,6,7,7,7,7,7,7,7,7,7,7,7,7,7,7,7,7,7,7,7,7,7,7,7,7,7,7,7,7,7,7,7,7,7,7,7,7,7,7,7,7,7,7,7,7,7,7,7,7,7,7,7,7,7,7,7,7,7,7,7,7,7,7,7,7,8,8,8,8,8,8,8,8,8,8,8,8,8,8,8,8,8,8,8,8,8,8,8,8,8,8,8,8,8,8,8,8,8,8,8,8,8,8,8,8,8,8,8,8,8,8,8,8,8,8,8,8,8,8,8,8,8,8,8,8,8,8,8,8,8,8,8,8,8,8,8,8,8,8,8,8,8,8,8,8,8,8,8,8,8,8,8,8,8,8,8,8,8,8,8,8,8,8,8,8,8,8,8,8,8,8,8,8,8,8,8,8,8,8,8,8,8,8,8,8,8,8,8,8,8,8,8,8]⟩:ByteArray).data.toList.getD (IntKind.u8.wrap x0).toNat 0).toNat:Int))))) else none) else none))
def KC (x0 x1:Int):Option Int:=(if (decide (x0≥65536))=true then (if 16<0 then none else (EV (Int.fdiv x0 (2^(min (16:Int).toNat (IntKind.bits .u64)))) (i64.wrap (x1+16)))) else (EV x0 x1))
def NT (x0:Int):Option Int:=(if (decide (x0≥4294967296))=true then (if 32<0 then none else (GF (Int.fdiv x0 (2^(min (32:Int).toNat (IntKind.bits .u64)))) 32)) else (GF x0 0))
theorem R4:SX GG EV:=jS (by kernel_rfl)
theorem R5:SX KC GF:=jS (by kernel_rfl)
theorem VS:SW NT IV:=cT Bx rfl ⟨rfl,rfl⟩ (by kernel_rfl)
def DC:=cG An (AH AC) (AH AC) kx
def DD:=kE 0 [] [0,1,2,8,9] 0 DC kx
def C3:St→Option (RT (Bi.outs AC)):=lG Be [] [0,1,2,8,9,10] 0 (AH AC) DD
def BZ (x0:List X) (x1:ByteArray) (x2 x3:Int):Option (Int×Bool):=cG An (AH AC) (AH AC) kx ⟨[(0,.lst Z x0),(1,.str x1),(2,.fn 101 []),(8,.int .i64 x2),(9,.int .i64 x3)],[]⟩
def AF (x0:List X) (x1:ByteArray) (x2 x3 x4:Int):Option (Int×Bool):=C3 ⟨[(0,.lst Z x0),(1,.str x1),(2,.fn 101 []),(8,.int .i64 x2),(9,.int .i64 x3),(10,.int .i64 x4)],[]⟩
def Ba (x0:List X) (x1:ByteArray) (x2 x3:Int):Option (Int×Bool):=(if (decide (x3<x2))=true then (if 0≤x3 then (if x3<(x0.length:Int) then ((GR (x0.getD x3.toNat (ByteArray.empty,ByteArray.empty,0)) x1).bind fun y2=>(some (x3,(y2==0)))) else none) else none) else (some (x3,false)))
def Ak (x0:List X) (x1:ByteArray) (x2 x3 x4:Int):Option (Int×Bool):=(if (decide (x3<x4))=true then (if 1<0 then none else (if 0≤(i64.wrap (Int.fdiv (IntKind.u64.wrap (i64.wrap (x3+x4))) (2^(min (1:Int).toNat (IntKind.bits .u64))))) then (if (i64.wrap (Int.fdiv (IntKind.u64.wrap (i64.wrap (x3+x4))) (2^(min (1:Int).toNat (IntKind.bits .u64)))))<(x0.length:Int) then ((GR (x0.getD (i64.wrap (Int.fdiv (IntKind.u64.wrap (i64.wrap (x3+x4))) (2^(min (1:Int).toNat (IntKind.bits .u64))))).toNat (ByteArray.empty,ByteArray.empty,0)) x1).bind fun y1=>(if (decide (y1<0))=true then (AF x0 x1 x2 (i64.wrap ((i64.wrap (Int.fdiv (IntKind.u64.wrap (i64.wrap (x3+x4))) (2^(min (1:Int).toNat (IntKind.bits .u64)))))+1)) x4) else (AF x0 x1 x2 x3 (i64.wrap (Int.fdiv (IntKind.u64.wrap (i64.wrap (x3+x4))) (2^(min (1:Int).toNat (IntKind.bits .u64)))))))) else none) else none)) else (BZ x0 x1 x2 x3))
def Bl (x0:List X) (x1:ByteArray) (x2:Unit):Option (Int×Bool):=(AF x0 x1 (x0.length:Int) 0 (x0.length:Int))
theorem C4:cH Ba BZ:=jS (by kernel_rfl)
theorem Bb:eL Ak AF:=lS (by kernel_rfl)
theorem DQ:XU Bl Ar:=cT AC rfl ⟨rfl,rfl⟩ (by kernel_rfl)
def Ot (x0:X) (x1:ByteArray):Option Int:=((IY x0.1 x1).bind fun y1=>(some y1))
theorem W6:SX Ot GR:=cT GQ rfl ⟨rfl,rfl⟩ (by kernel_rfl)
def Q0:=cG I5 (AH Bg) (AH Bg) kx
def Q1:=kE 0 [(3,0)] [3] 1 Q0 kx
def Pe:St→Option (RT (Bi.outs Bg)):=lG I4 [(3,0)] [0,3,4] 1 (AH Bg) Q1
def DR (x0:List (List Int)) (x1:Int) (x2:List (List Int)):Option (List (List Int)):=Pe ⟨[(0,.lst (.slice (.int .i64)) x0),(3,.row 0),(4,.int .i64 x1)],[.rows 24 (.slice (.int .i64)) x2]⟩
def FJ (x0:List (List Int)) (x1:Int) (x2:List (List Int)):Option (List (List Int)):=(if (decide (x1<(x0.length:Int)))=true then (if 0≤x1 then (if x1<(x0.length:Int) then (if ([]:List Int).length+(x0.getD x1.toNat ([]:List Int)).length≤68719476736 then (if x2.length+([(([]:List Int)++(x0.getD x1.toNat ([]:List Int)))]:List (List Int)).length≤68719476736 then (DR x0 (i64.wrap (x1+1)) (x2++([(([]:List Int)++(x0.getD x1.toNat ([]:List Int)))]:List (List Int)))) else none) else none) else none) else none) else (some x2))
def Ko (x0:List (List Int)):Option (List (List Int)):=(DR x0 0 ([]:List (List Int)))
theorem Iu:XU FJ DR:=lS (by kernel_rfl)
theorem Sm:SW Ko Eg:=cT Bg rfl ⟨rfl,rfl⟩ (by kernel_rfl)
def R6 (x1:List ByteArray) (b0:AD):Option (ByteArray×AD):=((Bq (x1.length:Int) b0).bind fun y1=>(if 0≤y1.1 then (if y1.1<(x1.length:Int) then (some ((x1.getD y1.1.toNat ByteArray.empty),y1.2)) else none) else none))
theorem aB:SX R6 IW:=cT IR rfl ⟨rfl,rfl⟩ (by kernel_rfl)
def Qj (x1:Int) (x2:AW) (b0:AG):Option (Int×AG):=(if ([]:List Bd).length+b0.2.2.2.length≤68719476736 then (if (([]:List Bd)++b0.2.2.2).length+([(x2.2.2.2.1,x2.2.2.2.2.1,x2.2.2.2.2.2,x1,(-1:Int),0,0,0,ByteArray.empty)]:List Bd).length≤68719476736 then (if 0≤(i64.wrap (x2.2.1-1)) then (if (i64.wrap (x2.2.1-1))<(b0.2.1.length:Int) then ((K8 (b0.2.1.getD (i64.wrap (x2.2.1-1)).toNat (0,0,false,false,false,false,([]:List Int),([]:List X),0,0,0,0,(ByteArray.empty,ByteArray.empty,0),([]:List Int))) b0.1 x2.2.2.2.1 (i64.wrap ((((([]:List Bd)++b0.2.2.2)++([(x2.2.2.2.1,x2.2.2.2.2.1,x2.2.2.2.2.2,x1,(-1:Int),0,0,0,ByteArray.empty)]:List Bd)).length:Int)-1)) x2.2.2.2.2.1 x2.2.2.2.2.2).bind fun y1=>(if (!y1.2.2.2)=true then (some (1,(b0.1,b0.2.1,b0.2.2.1,((([]:List Bd)++b0.2.2.2)++([(x2.2.2.2.1,x2.2.2.2.2.1,x2.2.2.2.2.2,x1,(-1:Int),0,0,0,ByteArray.empty)]:List Bd))))) else ((Dj y1.1 y1.2.1 y1.2.2.1 x1 (b0.1,b0.2.1,b0.2.2.1,((([]:List Bd)++b0.2.2.2)++([(x2.2.2.2.1,x2.2.2.2.2.1,x2.2.2.2.2.2,x1,(-1:Int),0,0,0,ByteArray.empty)]:List Bd)))).bind fun y2=>(some (0,y2))))) else none) else none) else none) else none)
theorem YZ:XU Qj KO:=cT G6 rfl ⟨rfl,rfl⟩ (by kernel_rfl)
def VT:=cG La (AH CS) (AH CS) kx
def VU:=kE 0 [] [] 2 VT kx
def Tm:St→Option (RT (Bi.outs CS)):=lG Mw [] [0,1,2,7,8] 2 (AH CS) VU
def FK (x0 x1 x2:Int) (x3:AG) (x4:O):Option (Int×AG):=Tm ⟨[(0,.ptr 0 0),(1,.int .i64 x0),(2,.int .i64 x1),(7,.ptr 1 0),(8,.int .i64 x2)],[.var (AS.enc x3),.var (U.enc x4)]⟩
def FM (x0 x1 x2:Int) (x3:AG) (x4:O):Option (Int×AG):=(if (decide (x2≤(x3.1.length:Int)))=true then (if 0≤(i64.wrap (x2-1)) then (if (i64.wrap (x2-1))<(x3.1.length:Int) then (if 0≤(0:Int) then (if 0<((x3.1.getD (i64.wrap (x2-1)).toNat ([]:List Int)).length:Int) then (if (((x3.1.getD (i64.wrap (x2-1)).toNat ([]:List Int)).getD (0:Int).toNat 0) != x1)=true then (FK x0 x1 (i64.wrap (x2+1)) x3 x4) else ((PX x4 x3.1 x2).bind fun y1=>(if (!y1.2.2)=true then (some (1,x3)) else ((Dj y1.1 y1.2.1 ([]:List AB) x0 x3).bind fun y2=>(some (0,y2)))))) else none) else none) else none) else none) else (some (1,x3)))
def KZ (x1 x2:Int) (b0:AG):Option (Int×AG):=(if 0≤(i64.wrap (x2-1)) then (if (i64.wrap (x2-1))<(b0.2.1.length:Int) then (FK x1 x2 (i64.wrap ((((b0.2.1.getD (i64.wrap (x2-1)).toNat (0,0,false,false,false,false,([]:List Int),([]:List X),0,0,0,0,(ByteArray.empty,ByteArray.empty,0),([]:List Int))).2).1)+1)) b0 (b0.2.1.getD (i64.wrap (x2-1)).toNat (0,0,false,false,false,false,([]:List Int),([]:List X),0,0,0,0,(ByteArray.empty,ByteArray.empty,0),([]:List Int)))) else none) else none)
theorem HU:eL FM FK:=lS (by kernel_rfl)
theorem Qk:XU KZ KP:=cT CS rfl ⟨rfl,rfl⟩ (by kernel_rfl)
end
end Go.Proofs.YtaedipailemlcaaGreat.Core

namespace Go.Proofs.YtaedipailemlcaaGreat.Core
open Go IntKind
set_option linter.unusedVariables false
set_option maxRecDepth 100000
noncomputable section
def HV:=kE 0 [] [] 4 (AH Bs) kx
def Kp:St→Option (RT (Bi.outs Bs)):=lG Kk [] [0,3,4,11] 4 (AH Bs) HV
def Tn:=kB [] [0,3,4,11] 4 Kp
def L8:=cG Kj Tn (AH Bs) HV
def To:=kB [] [0,3,4,11] 4 L8
def Tp:=kE 1 [] [0,3,4,11] 4 L8 HV
def Kq (x0:List AB) (x1 x2:Int) (x3:Bool) (x4:AG) (x5:O) (x6:List O) (x7:List Y) (x8:AB):Option AG:=cG Ki To (AH Bs) Tp ⟨[(0,.ptr 0 0),(3,.lst Aq x0),(4,.int .i64 x1),(11,.int .i64 x2),(12,.ptr 4 0),(71,.bool x3)],[.var (AS.enc x4),.var (U.enc x5),.frz U x6,.frz AK x7,.var (Aq.enc x8)]⟩
def Bv (x0:List AB) (x1 x2:Int) (x3:AG) (x4:O) (x5:List O) (x6:List Y):Option AG:=Kp ⟨[(0,.ptr 0 0),(3,.lst Aq x0),(4,.int .i64 x1),(11,.int .i64 x2)],[.var (AS.enc x3),.var (U.enc x4),.frz U x5,.frz AK x6]⟩
def Kr (x0:List AB) (x1 x2:Int) (x3:Bool) (x4:AG) (x5:O) (x6:List O) (x7:List Y) (x8:AB):Option AG:=(if ([]:List Bd).length+x4.2.2.2.length≤68719476736 then (if 0≤x8.1 then (if x8.1<((([]:List Bd)++x4.2.2.2).length:Int) then (let z2:List Bd:=(([]:List Bd)++x4.2.2.2).set x8.1.toNat (((([]:List Bd)++x4.2.2.2).getD x8.1.toNat (0,ByteArray.empty,ByteArray.empty,0,0,0,0,0,ByteArray.empty)).1,(((([]:List Bd)++x4.2.2.2).getD x8.1.toNat (0,ByteArray.empty,ByteArray.empty,0,0,0,0,0,ByteArray.empty)).2).1,((((([]:List Bd)++x4.2.2.2).getD x8.1.toNat (0,ByteArray.empty,ByteArray.empty,0,0,0,0,0,ByteArray.empty)).2).2).1,(((((([]:List Bd)++x4.2.2.2).getD x8.1.toNat (0,ByteArray.empty,ByteArray.empty,0,0,0,0,0,ByteArray.empty)).2).2).2).1,x1,((((((([]:List Bd)++x4.2.2.2).getD x8.1.toNat (0,ByteArray.empty,ByteArray.empty,0,0,0,0,0,ByteArray.empty)).2).2).2).2).2); (let z3:List Bd:=z2.set x8.1.toNat ((z2.getD x8.1.toNat (0,ByteArray.empty,ByteArray.empty,0,0,0,0,0,ByteArray.empty)).1,((z2.getD x8.1.toNat (0,ByteArray.empty,ByteArray.empty,0,0,0,0,0,ByteArray.empty)).2).1,(((z2.getD x8.1.toNat (0,ByteArray.empty,ByteArray.empty,0,0,0,0,0,ByteArray.empty)).2).2).1,((((z2.getD x8.1.toNat (0,ByteArray.empty,ByteArray.empty,0,0,0,0,0,ByteArray.empty)).2).2).2).1,(((((z2.getD x8.1.toNat (0,ByteArray.empty,ByteArray.empty,0,0,0,0,0,ByteArray.empty)).2).2).2).2).1,x8.2.2.2.2.2,((((((z2.getD x8.1.toNat (0,ByteArray.empty,ByteArray.empty,0,0,0,0,0,ByteArray.empty)).2).2).2).2).2).2); (let z4:List Bd:=z3.set x8.1.toNat ((z3.getD x8.1.toNat (0,ByteArray.empty,ByteArray.empty,0,0,0,0,0,ByteArray.empty)).1,((z3.getD x8.1.toNat (0,ByteArray.empty,ByteArray.empty,0,0,0,0,0,ByteArray.empty)).2).1,(((z3.getD x8.1.toNat (0,ByteArray.empty,ByteArray.empty,0,0,0,0,0,ByteArray.empty)).2).2).1,((((z3.getD x8.1.toNat (0,ByteArray.empty,ByteArray.empty,0,0,0,0,0,ByteArray.empty)).2).2).2).1,(((((z3.getD x8.1.toNat (0,ByteArray.empty,ByteArray.empty,0,0,0,0,0,ByteArray.empty)).2).2).2).2).1,((((((z3.getD x8.1.toNat (0,ByteArray.empty,ByteArray.empty,0,0,0,0,0,ByteArray.empty)).2).2).2).2).2).1,x8.2.1,(((((((z3.getD x8.1.toNat (0,ByteArray.empty,ByteArray.empty,0,0,0,0,0,ByteArray.empty)).2).2).2).2).2).2).2); (let z5:List Bd:=z4.set x8.1.toNat ((z4.getD x8.1.toNat (0,ByteArray.empty,ByteArray.empty,0,0,0,0,0,ByteArray.empty)).1,((z4.getD x8.1.toNat (0,ByteArray.empty,ByteArray.empty,0,0,0,0,0,ByteArray.empty)).2).1,(((z4.getD x8.1.toNat (0,ByteArray.empty,ByteArray.empty,0,0,0,0,0,ByteArray.empty)).2).2).1,((((z4.getD x8.1.toNat (0,ByteArray.empty,ByteArray.empty,0,0,0,0,0,ByteArray.empty)).2).2).2).1,(((((z4.getD x8.1.toNat (0,ByteArray.empty,ByteArray.empty,0,0,0,0,0,ByteArray.empty)).2).2).2).2).1,((((((z4.getD x8.1.toNat (0,ByteArray.empty,ByteArray.empty,0,0,0,0,0,ByteArray.empty)).2).2).2).2).2).1,(((((((z4.getD x8.1.toNat (0,ByteArray.empty,ByteArray.empty,0,0,0,0,0,ByteArray.empty)).2).2).2).2).2).2).1,x8.2.2.1,((((((((z4.getD x8.1.toNat (0,ByteArray.empty,ByteArray.empty,0,0,0,0,0,ByteArray.empty)).2).2).2).2).2).2).2).2); (if (((z5.getD x8.1.toNat (0,ByteArray.empty,ByteArray.empty,0,0,0,0,0,ByteArray.empty)).1)==2)=true then (let z6:List Bd:=z5.set x8.1.toNat ((z5.getD x8.1.toNat (0,ByteArray.empty,ByteArray.empty,0,0,0,0,0,ByteArray.empty)).1,((z5.getD x8.1.toNat (0,ByteArray.empty,ByteArray.empty,0,0,0,0,0,ByteArray.empty)).2).1,(((z5.getD x8.1.toNat (0,ByteArray.empty,ByteArray.empty,0,0,0,0,0,ByteArray.empty)).2).2).1,((((z5.getD x8.1.toNat (0,ByteArray.empty,ByteArray.empty,0,0,0,0,0,ByteArray.empty)).2).2).2).1,(((((z5.getD x8.1.toNat (0,ByteArray.empty,ByteArray.empty,0,0,0,0,0,ByteArray.empty)).2).2).2).2).1,((((((z5.getD x8.1.toNat (0,ByteArray.empty,ByteArray.empty,0,0,0,0,0,ByteArray.empty)).2).2).2).2).2).1,(((((((z5.getD x8.1.toNat (0,ByteArray.empty,ByteArray.empty,0,0,0,0,0,ByteArray.empty)).2).2).2).2).2).2).1,((((((((z5.getD x8.1.toNat (0,ByteArray.empty,ByteArray.empty,0,0,0,0,0,ByteArray.empty)).2).2).2).2).2).2).2).1,x8.2.2.2.2.1); (Bv x0 x1 (i64.wrap (x2+1)) (x4.1,x4.2.1,x4.2.2.1,z6) x5 x6 x7)) else (Bv x0 x1 (i64.wrap (x2+1)) (x4.1,x4.2.1,x4.2.2.1,z5) x5 x6 x7)))))) else none) else none) else none)
def Gi (x0:List AB) (x1 x2:Int) (x3:AG) (x4:O) (x5:List O) (x6:List Y):Option AG:=(if (decide (x2<(x0.length:Int)))=true then (if 0≤x2 then (if x2<(x0.length:Int) then (if (decide (((x0.getD x2.toNat (0,0,0,ByteArray.empty,ByteArray.empty,0)).1)≥(x3.2.2.2.length:Int)))=true then (Bv x0 x1 (i64.wrap (x2+1)) x3 x4 x5 x6) else (if 0≤((x0.getD x2.toNat (0,0,0,ByteArray.empty,ByteArray.empty,0)).1) then (if ((x0.getD x2.toNat (0,0,0,ByteArray.empty,ByteArray.empty,0)).1)<(x3.2.2.2.length:Int) then (if (decide (((((((x3.2.2.2.getD ((x0.getD x2.toNat (0,0,0,ByteArray.empty,ByteArray.empty,0)).1).toNat (0,ByteArray.empty,ByteArray.empty,0,0,0,0,0,ByteArray.empty)).2).2).2).2).1)≥0))=true then (Bv x0 x1 (i64.wrap (x2+1)) x3 x4 x5 x6) else (Kq x0 x1 x2 (decide (((((((x3.2.2.2.getD ((x0.getD x2.toNat (0,0,0,ByteArray.empty,ByteArray.empty,0)).1).toNat (0,ByteArray.empty,ByteArray.empty,0,0,0,0,0,ByteArray.empty)).2).2).2).2).1)≥0)) x3 x4 x5 x6 (x0.getD x2.toNat (0,0,0,ByteArray.empty,ByteArray.empty,0)))) else none) else none)) else none) else none) else (some x3))
def Ou (x1:O) (x2:List Y) (x3:List AB) (x4:Int) (b0:AG):Option AG:=(if ([]:List O).length+b0.2.1.length≤68719476736 then (if 0≤(i64.wrap (x1.1-1)) then (if (i64.wrap (x1.1-1))<((([]:List O)++b0.2.1).length:Int) then (let z1:List O:=(([]:List O)++b0.2.1).set ((i64.wrap (x1.1-1)).toNat) x1; (if ([]:List Y).length+b0.2.2.1.length≤68719476736 then (if (([]:List Y)++b0.2.2.1).length+x2.length≤68719476736 then (Bv x3 x4 0 (b0.1,z1,((([]:List Y)++b0.2.2.1)++x2),b0.2.2.2) x1 z1 ((([]:List Y)++b0.2.2.1)++x2)) else none) else none)) else none) else none) else none)
theorem Sn:km Kr Kq:=jS (by kernel_rfl)
theorem Kt:ir Gi Bv:=lS (by kernel_rfl)
theorem W7:eL Ou Dj:=cT Bs rfl ⟨rfl,rfl⟩ (by kernel_rfl)
def dg (x0:O):Option O:=(some (x0.1,x0.2.1,true,false,false,false,([]:List Int),([]:List X),0,0,0,0,(ByteArray.empty,ByteArray.empty,0),([]:List Int)))
theorem dh:SW dg Ra:=cT Mx rfl ⟨rfl,rfl⟩ (by kernel_rfl)
def Nj (x1:Int) (x2:AW) (b0:AG):Option (Int×AG):=(if ((b0.2.2.1.length:Int)==0)=true then (some (1,b0)) else (if (b0.2.2.1.length:Int)=0 then none else (if 0≤(Int.tmod x2.2.2.1 (b0.2.2.1.length:Int)) then (if (Int.tmod x2.2.2.1 (b0.2.2.1.length:Int))<(b0.2.2.1.length:Int) then (if (x2.1==4)=true then (if ([]:List Y).length+b0.2.2.1.length≤68719476736 then (if (([]:List Y)++b0.2.2.1).length+([b0.2.2.1.getD (Int.tmod x2.2.2.1 (b0.2.2.1.length:Int)).toNat (0,0,0,0,0,([]:List X))]:List Y).length≤68719476736 then (some (0,(b0.1,b0.2.1,((([]:List Y)++b0.2.2.1)++([b0.2.2.1.getD (Int.tmod x2.2.2.1 (b0.2.2.1.length:Int)).toNat (0,0,0,0,0,([]:List X))]:List Y)),b0.2.2.2))) else none) else none) else (if 0≤(0:Int) then (if 0≤(Int.tmod x2.2.2.1 (b0.2.2.1.length:Int)) then (if (Int.tmod x2.2.2.1 (b0.2.2.1.length:Int))≤(b0.2.2.1.length:Int) then (if 0≤(i64.wrap ((Int.tmod x2.2.2.1 (b0.2.2.1.length:Int))+1)) then (if (i64.wrap ((Int.tmod x2.2.2.1 (b0.2.2.1.length:Int))+1))≤(b0.2.2.1.length:Int) then (if (b0.2.2.1.length:Int)≤(b0.2.2.1.length:Int) then (if ([]:List Y).length+((b0.2.2.1.take (Int.tmod x2.2.2.1 (b0.2.2.1.length:Int)).toNat).drop (0:Int).toNat).length≤68719476736 then (if (([]:List Y)++((b0.2.2.1.take (Int.tmod x2.2.2.1 (b0.2.2.1.length:Int)).toNat).drop (0:Int).toNat)).length+((b0.2.2.1.take (b0.2.2.1.length:Int).toNat).drop (i64.wrap ((Int.tmod x2.2.2.1 (b0.2.2.1.length:Int))+1)).toNat).length≤68719476736 then (if (x2.1==3)=true then (some (0,(b0.1,b0.2.1,((([]:List Y)++((b0.2.2.1.take (Int.tmod x2.2.2.1 (b0.2.2.1.length:Int)).toNat).drop (0:Int).toNat))++((b0.2.2.1.take (b0.2.2.1.length:Int).toNat).drop (i64.wrap ((Int.tmod x2.2.2.1 (b0.2.2.1.length:Int))+1)).toNat)),b0.2.2.2))) else (if 0≤(i64.wrap (((((b0.2.2.1.getD (Int.tmod x2.2.2.1 (b0.2.2.1.length:Int)).toNat (0,0,0,0,0,([]:List X))).2).2).1)-1)) then (if (i64.wrap (((((b0.2.2.1.getD (Int.tmod x2.2.2.1 (b0.2.2.1.length:Int)).toNat (0,0,0,0,0,([]:List X))).2).2).1)-1))<(b0.2.1.length:Int) then ((Lb (b0.2.1.getD (i64.wrap (((((b0.2.2.1.getD (Int.tmod x2.2.2.1 (b0.2.2.1.length:Int)).toNat (0,0,0,0,0,([]:List X))).2).2).1)-1)).toNat (0,0,false,false,false,false,([]:List Int),([]:List X),0,0,0,0,(ByteArray.empty,ByteArray.empty,0),([]:List Int))) b0.1 (b0.2.2.1.getD (Int.tmod x2.2.2.1 (b0.2.2.1.length:Int)).toNat (0,0,0,0,0,([]:List X)))).bind fun y1=>((Dj y1.1 y1.2.1 y1.2.2 x1 (b0.1,b0.2.1,((([]:List Y)++((b0.2.2.1.take (Int.tmod x2.2.2.1 (b0.2.2.1.length:Int)).toNat).drop (0:Int).toNat))++((b0.2.2.1.take (b0.2.2.1.length:Int).toNat).drop (i64.wrap ((Int.tmod x2.2.2.1 (b0.2.2.1.length:Int))+1)).toNat)),b0.2.2.2)).bind fun y2=>(some (0,y2)))) else none) else none)) else none) else none) else none) else none) else none) else none) else none) else none)) else none) else none)))
theorem S7:XU Nj Nf:=cT Ji rfl ⟨rfl,rfl⟩ (by kernel_rfl)
def R7:=cG J6 (AH Bo) (AH Bo) kx
def R8:=kE 0 [(3,0)] [3] 1 R7 kx
def Q2:St→Option (RT (Bi.outs Bo)):=lG Jz [(3,0)] [0,3,4] 1 (AH Bo) R8
def Cc (x0:List Y) (x1:Int) (x2:List Y):Option (List Y):=Q2 ⟨[(0,.lst AK x0),(3,.row 0),(4,.int .i64 x1)],[.rows 34 AK x2]⟩
def Fg (x0:List Y) (x1:Int) (x2:List Y):Option (List Y):=(if (decide (x1<(x0.length:Int)))=true then (if 0≤x1 then (if x1<(x0.length:Int) then (if ([]:List X).length+((((((x0.getD x1.toNat (0,0,0,0,0,([]:List X))).2).2).2).2).2).length≤68719476736 then (if x2.length+([((x0.getD x1.toNat (0,0,0,0,0,([]:List X))).1,((x0.getD x1.toNat (0,0,0,0,0,([]:List X))).2).1,(((x0.getD x1.toNat (0,0,0,0,0,([]:List X))).2).2).1,((((x0.getD x1.toNat (0,0,0,0,0,([]:List X))).2).2).2).1,(((((x0.getD x1.toNat (0,0,0,0,0,([]:List X))).2).2).2).2).1,(([]:List X)++((((((x0.getD x1.toNat (0,0,0,0,0,([]:List X))).2).2).2).2).2)))]:List Y).length≤68719476736 then (Cc x0 (i64.wrap (x1+1)) (x2++([((x0.getD x1.toNat (0,0,0,0,0,([]:List X))).1,((x0.getD x1.toNat (0,0,0,0,0,([]:List X))).2).1,(((x0.getD x1.toNat (0,0,0,0,0,([]:List X))).2).2).1,((((x0.getD x1.toNat (0,0,0,0,0,([]:List X))).2).2).2).1,(((((x0.getD x1.toNat (0,0,0,0,0,([]:List X))).2).2).2).2).1,(([]:List X)++((((((x0.getD x1.toNat (0,0,0,0,0,([]:List X))).2).2).2).2).2)))]:List Y))) else none) else none) else none) else none) else (some x2))
def L9 (x0:List Y):Option (List Y):=(Cc x0 0 ([]:List Y))
theorem JC:XU Fg Cc:=lS (by kernel_rfl)
theorem Tq:SW L9 HK:=cT Bo rfl ⟨rfl,rfl⟩ (by kernel_rfl)
def Ql (x0:Int):Option Bool:=(some (x0 != x0))
theorem Ya:SW Ql G9:=cT G7 rfl ⟨rfl,rfl⟩ (by kernel_rfl)
def aC:=cG QI (AH B3) (AH B3) kx
def aD:=kE 0 [(9,2)] [6,9,11] 5 aC kx
def Yb:St→Option (RT (Bi.outs B3)):=lG QH [(9,2)] [1,2,3,6,9,11,13] 5 (AH B3) aD
def EF (x0:List (List Int)) (x1 x2:Int) (x3 x4:O) (x5:List Y) (x6:List X) (x7:O):Option (O×List Y×Bool):=Yb ⟨[(1,.lst (.slice (.int .i64)) x0),(2,.int .i64 x1),(3,.ptr 0 0),(6,.ptr 1 0),(9,.row 2),(11,.ptr 4 0),(13,.int .i64 x2)],[.var (U.enc x3),.var (U.enc x4),.rows 34 AK x5,.frz Z x6,.var (U.enc x7)]⟩
def FS (x0:List (List Int)) (x1:Int) (x2:Bool) (x3 x4:O) (x5:List Y):Option (O×List Y×Bool):=cG QJ (AH B3) (AH B3) kx ⟨[(1,.lst (.slice (.int .i64)) x0),(2,.int .i64 x1),(3,.ptr 0 0),(6,.ptr 1 0),(9,.row 2),(10,.bool x2)],[.var (U.enc x3),.var (U.enc x4),.rows 34 AK x5]⟩
def Qm (x0:List (List Int)) (x1:Int) (x2:Bool) (x3 x4:O) (x5:List Y):Option (O×List Y×Bool):=cG QK (AH B3) (AH B3) kx ⟨[(1,.lst (.slice (.int .i64)) x0),(2,.int .i64 x1),(3,.ptr 0 0),(6,.ptr 1 0),(9,.row 2),(48,.bool x2)],[.var (U.enc x3),.var (U.enc x4),.rows 34 AK x5]⟩
def Ka (x0:List (List Int)) (x1 x2:Int) (x3 x4:O) (x5:List Y) (x6:List X) (x7:O):Option (O×List Y×Bool):=(if 0≤(i64.wrap (x1-2)) then (if (i64.wrap (x1-2))<(x0.length:Int) then (if (decide (x2<((x0.getD (i64.wrap (x1-2)).toNat ([]:List Int)).length:Int)))=true then (if 0≤(i64.wrap (x1-2)) then (if (i64.wrap (x1-2))<(x0.length:Int) then (if 0≤x2 then (if x2<((x0.getD (i64.wrap (x1-2)).toNat ([]:List Int)).length:Int) then (if (((x0.getD (i64.wrap (x1-2)).toNat ([]:List Int)).getD x2.toNat 0) != x3.1)=true then (if x5.length+([(1,x3.1,((x0.getD (i64.wrap (x1-2)).toNat ([]:List Int)).getD x2.toNat 0),x1,0,([]:List X))]:List Y).length≤68719476736 then (EF x0 x1 (i64.wrap (x2+1)) x3 x4 (x5++([(1,x3.1,((x0.getD (i64.wrap (x1-2)).toNat ([]:List Int)).getD x2.toNat 0),x1,0,([]:List X))]:List Y)) x6 x7) else none) else (EF x0 x1 (i64.wrap (x2+1)) x3 x4 x5 x6 x7)) else none) else none) else none) else none) else ((CK x7).bind fun y7=>(some (y7,x5,true)))) else none) else none)
def Qn (x0:List (List Int)) (x1:Int) (x2:Bool) (x3 x4:O) (x5:List Y):Option (O×List Y×Bool):=(if ([]:List X).length+x3.2.2.2.2.2.2.2.1.length≤68719476736 then (if x2=true then (if 0≤(i64.wrap (x1-1)) then (if (i64.wrap (x1-1))<(x0.length:Int) then ((Jl (x0.getD (i64.wrap (x1-1)).toNat ([]:List Int)) x3.2.2.2.2.2.2.2.1 (x3.1,x1,false,false,true,false,([]:List Int),(([]:List X)++x3.2.2.2.2.2.2.2.1),0,0,0,0,(ByteArray.empty,ByteArray.empty,0),([]:List Int))).bind fun y5=>((CK y5.2).bind fun y6=>(some (y6,y5.1,true)))) else none) else none) else (EF x0 x1 0 x3 x4 x5 (([]:List X)++x3.2.2.2.2.2.2.2.1) (x3.1,x1,false,false,true,false,([]:List Int),(([]:List X)++x3.2.2.2.2.2.2.2.1),0,0,0,0,(ByteArray.empty,ByteArray.empty,0),([]:List Int)))) else none)
def Qo (x0:List (List Int)) (x1:Int) (x2:Bool) (x3 x4:O) (x5:List Y):Option (O×List Y×Bool):=(if x3.2.2.2.1=true then (if (x3.2.1==(i64.wrap (x1-1)))=true then (if 0≤(i64.wrap (x1-2)) then (if (i64.wrap (x1-2))<(x0.length:Int) then ((Co (x0.getD (i64.wrap (x1-2)).toNat ([]:List Int)) x3.1).bind fun y4=>(FS x0 x1 y4 x3 x4 x5)) else none) else none) else (FS x0 x1 false x3 x4 x5)) else (FS x0 x1 false x3 x4 x5))
def VV (x0:O) (x1:List (List Int)) (x2:Int):Option (O×List Y×Bool):=((EC x0).bind fun y1=>(if (!y1)=true then (some ((0,0,false,false,false,false,([]:List Int),([]:List X),0,0,0,0,(ByteArray.empty,ByteArray.empty,0),([]:List Int)),([]:List Y),false)) else ((C1 x1).bind fun y2=>(if (!y2)=true then (some ((0,0,false,false,false,false,([]:List Int),([]:List X),0,0,0,0,(ByteArray.empty,ByteArray.empty,0),([]:List Int)),([]:List Y),false)) else ((AN x2 2 (x1.length:Int)).bind fun y3=>(if (!y3)=true then (some ((0,0,false,false,false,false,([]:List Int),([]:List X),0,0,0,0,(ByteArray.empty,ByteArray.empty,0),([]:List Int)),([]:List Y),false)) else (if (decide (x2≤x0.2.1))=true then (some ((0,0,false,false,false,false,([]:List Int),([]:List X),0,0,0,0,(ByteArray.empty,ByteArray.empty,0),([]:List Int)),([]:List Y),false)) else (if 0≤(i64.wrap (x2-1)) then (if (i64.wrap (x2-1))<(x1.length:Int) then (if 0≤(0:Int) then (if 0<((x1.getD (i64.wrap (x2-1)).toNat ([]:List Int)).length:Int) then (if (((x1.getD (i64.wrap (x2-1)).toNat ([]:List Int)).getD (0:Int).toNat 0) != x0.1)=true then (some ((0,0,false,false,false,false,([]:List Int),([]:List X),0,0,0,0,(ByteArray.empty,ByteArray.empty,0),([]:List Int)),([]:List Y),false)) else (Qm x1 x2 (((x1.getD (i64.wrap (x2-1)).toNat ([]:List Int)).getD (0:Int).toNat 0) != x0.1) x0 (0,0,false,false,false,false,([]:List Int),([]:List X),0,0,0,0,(ByteArray.empty,ByteArray.empty,0),([]:List Int)) ([]:List Y))) else none) else none) else none) else none))))))))
theorem Qp:gS Ka EF:=lS (by kernel_rfl)
theorem Yc:iS Qn FS:=jS (by kernel_rfl)
theorem Yd:iS Qo Qm:=jS (by kernel_rfl)
theorem cf:XU VV PX:=cT B3 rfl ⟨rfl,rfl⟩ (by kernel_rfl)
end
end Go.Proofs.YtaedipailemlcaaGreat.Core


namespace Go.Proofs.YtaedipailemlcaaGreat.Core
open Go
set_option linter.unusedVariables false
theorem AY {n:Int} (h:-9223372036854775808≤n∧n≤9223372036854775807):IntKind.i64.wrap n=n:=IntWalk.i64_in n h
theorem AR {i:Nat} (h:i<9223372036854775807):IntKind.i64.wrap ((i:Int)+1)=((i+1:Nat):Int):=by
 rw [AY (by omega)]
 omega
theorem Gz {P:Nat→Prop} {n:Nat} (h0:P n) (h:∀ i,i<n→P (i+1)→P i):∀ i,i≤n→P i:=by
 intro i hi
 induction hk:n-i generalizing i with
 | zero =>
  have:i=n:=by omega
  subst this
  exact h0
 | succ k ih=>exact h i (by omega) (ih (i+1) (by omega) (by omega))
theorem AU {α:Type} {xs:List α} {i:Nat} {d:α} (h:i<xs.length):xs.getD i d=xs[i]:=by
 simp [List.getD,h]
end Go.Proofs.YtaedipailemlcaaGreat.Core

namespace Go.Proofs.YtaedipailemlcaaGreat.Core
open Go
set_option linter.unusedVariables false
theorem Ah (a b c:Int):AN a b c=some (decide (b≤a)&&decide (a≤c)):=cZ (by
 unfold Up
 by_cases h:b≤a<;>simp [h])
theorem BR (a b c:Int):Au a b c=some (decide (b≤a)&&decide (a≤c)):=Zz (by
 unfold Rm
 by_cases h:b≤a<;>simp [h])
end Go.Proofs.YtaedipailemlcaaGreat.Core

namespace Go.Proofs.YtaedipailemlcaaGreat.Core
open Go
set_option linter.unusedVariables false
def B2 (x:List (ByteArray×ByteArray×Int)) (k:ByteArray):ByteArray×ByteArray×Int :=
 (x.find? fun a=>a.1.toList==k.toList).getD (ByteArray.empty,ByteArray.empty,0)
theorem Bm {α:Type} {x:List α} {i:Nat} (h:i<x.length):x.drop i=x[i]::x.drop (i+1):=List.drop_eq_getElem_cons h
theorem Ov (x k) (h:x.length≤maxLen):Jk x k=some (B2 x k):=ax (by
 have hm:x.length≤9223372036854775807:=h
 unfold S4
 exact Gz (n:=x.length) (P:=fun i=>∀ z,GZ x k (i:Int) z=some (B2 (x.drop i) k)) (fun z=>Og (by
  unfold JT
  rw [if_neg (by simp),List.drop_length]
  rfl)) (fun i hi ih z=>Og (by
  unfold JT
  simp only [show ((i:Int)<(x.length:Int)) from by omega,decide_true,if_true,show (0:Int)≤(i:Int) from by omega,Int.toNat_natCast,AU hi,AR (show i<9223372036854775807 by omega)]
  rw [Bm hi]
  by_cases hk:(x[i].1.toList==k.toList)=true
  ·rw [if_pos hk]
   unfold B2
   rw [List.find?_cons,hk]
   rfl
  ·rw [if_neg hk,ih]
   unfold B2
   rw [List.find?_cons,Bool.eq_false_iff.2 hk])) 0 (by omega) _)
theorem Jd (x k) (h:x.length≤maxLen):FW x k=some (B2 x k):=am (by
 have hm:x.length≤9223372036854775807:=h
 unfold Sz
 exact Gz (n:=x.length) (P:=fun i=>∀ z,GS k x (x.length:Int) (i:Int) z=some (B2 (x.drop i) k)) (fun z=>OQ (by
  unfold JN
  rw [if_neg (by simp),List.drop_length]
  rfl)) (fun i hi ih z=>OQ (by
  unfold JN
  simp only [show ((i:Int)<(x.length:Int)) from by omega,decide_true,if_true,show (0:Int)≤(i:Int) from by omega,Int.toNat_natCast,AU hi,AR (show i<9223372036854775807 by omega)]
  rw [Bm hi]
  by_cases hk:(x[i].1.toList==k.toList)=true
  ·rw [if_pos hk]
   unfold B2
   rw [List.find?_cons,hk]
   rfl
  ·rw [if_neg hk,ih]
   unfold B2
   rw [List.find?_cons,Bool.eq_false_iff.2 hk])) 0 (by omega) _)
end Go.Proofs.YtaedipailemlcaaGreat.Core

namespace Go.Proofs.YtaedipailemlcaaGreat.Core
open Go
set_option linter.unusedVariables false
theorem Qq k:K9 k=some (decide (1≤(k.size:Int))&&decide ((k.size:Int)≤12)):=cd (by simp [U9,BR])
theorem Ow n:Jj n=some (decide (1≤n)&&decide (n≤6)):=au (by simp [S3,BR])
def eR (v:ByteArray):Bool:=v.toList==(⟨#[]⟩:ByteArray).toList
theorem cg (v:ByteArray):(v.toList==(⟨#[]⟩:ByteArray).toList)=eR v:=rfl
def bW (op:Int) (k v:ByteArray):Bool :=
 (decide (op=1)||decide (op=2))&&(decide (1≤(k.size:Int))&&decide ((k.size:Int)≤12))&&decide ((v.size:Int)≤20)&&(decide (op=1)||eR v)
def L_ (x:Int×Int×Int×Int×ByteArray×ByteArray):Bool :=
 decide (1≤x.1)&&decide (x.1≤6)&&(decide (1≤x.2.1)&&decide (x.2.1≤6))&&decide (0≤x.2.2.1) &&
  (if x.1=1 then bW x.2.2.2.1 x.2.2.2.2.1 x.2.2.2.2.2 else decide (x.2.2.2.1=0)&&eR x.2.2.2.2.1&&eR x.2.2.2.2.2)
theorem VX x:Lh x=some (L_ x):=Z9 (by
 have w:∀ b,Is b x=some (if x.1=1 then bW x.2.2.2.1 x.2.2.2.2.1 x.2.2.2.2.2 else decide (x.2.2.2.1=0)&&eR x.2.2.2.2.1&&eR x.2.2.2.2.2):=fun b=>VP (by
  unfold NQ bW
  simp only [cg]
  by_cases h:x.1=1
  ·simp only [Ah,Option.bind_some]
   by_cases g1:x.2.2.2.1=1
   ·by_cases h2:1≤(x.2.2.2.2.1.size:Int)<;>by_cases h3:(x.2.2.2.2.1.size:Int)≤12<;>by_cases h4:(x.2.2.2.2.2.size:Int)≤20<;>simp [h,g1,h2,h3,h4]
   ·by_cases g2:x.2.2.2.1=2
    ·by_cases h2:1≤(x.2.2.2.2.1.size:Int)<;>by_cases h3:(x.2.2.2.2.1.size:Int)≤12<;>by_cases h4:(x.2.2.2.2.2.size:Int)≤20<;>simp [h,g2,h2,h3,h4]
    ·simp [h,g1,g2]
  ·by_cases h2:x.2.2.2.1=0<;>rcases Bool.eq_false_or_eq_true (eR x.2.2.2.2.1) with h3 | h3<;>simp [h,h2,h3])
 unfold R1 L_
 simp only [Ah,Option.bind_some,w]
 by_cases h1:1≤x.1<;>by_cases h2:x.1≤6<;>by_cases h3:1≤x.2.1<;>by_cases h4:x.2.1≤6<;>by_cases h5:0≤x.2.2.1<;>simp [h1,h2,h3,h4,h5]<;>omega)
end Go.Proofs.YtaedipailemlcaaGreat.Core

namespace Go.Proofs.YtaedipailemlcaaGreat.Core
open Go
set_option linter.unusedVariables false
def Iv (a:ByteArray×ByteArray×Int):Bool:=(decide (1≤(a.1.size:Int))&&decide ((a.1.size:Int)≤12))&&decide ((a.2.1.size:Int)≤20)&&(decide (1≤a.2.2)&&decide (a.2.2≤1000000000))
def Bf (x:List (ByteArray×ByteArray×Int)) (i:Nat):Nat→Bool
 | 0=>decide ((x.length:Int)≤12)
 | k+1=>Iv (x.getD i (ByteArray.empty,ByteArray.empty,0))&&(decide (i=0)||Op.bytesLess (x.getD (i-1) (ByteArray.empty,ByteArray.empty,0)).1.toList (x.getD i (ByteArray.empty,ByteArray.empty,0)).1.toList)&&Bf x (i+1) k
theorem jn (n:Int):decide (n>20)=!decide (n≤20):=by
 by_cases h:n≤20<;>simp [h]
 omega
theorem SY {i:Nat} (h:i<9223372036854775807) (h0:0<i):IntKind.i64.wrap ((i:Int)-1)=((i-1:Nat):Int):=by
 rw [AY (by omega)]
 omega
theorem F4 (x) (h:x.length≤maxLen):CL x=some (Bf x 0 x.length):=Z1 (by
 have hm:x.length≤9223372036854775807:=h
 unfold Rr
 have:=Gz (n:=x.length) (P:=fun i=>EP x (i:Int)=some (Bf x i (x.length-i))) (NB (by
  unfold If
  rw [if_neg (by simp),Nat.sub_self]
  rfl)) (fun i hi ih=>NB (by
  unfold If
  have e:x.length-i=(x.length-(i+1))+1:=by omega
  simp only [show ((i:Int)<(x.length:Int)) from by omega,decide_true,if_true,show (0:Int)≤(i:Int) from by omega,Int.toNat_natCast,AR (show i<9223372036854775807 by omega),ih,Ah,Option.bind_some,jn]
  rw [e,Bf,Iv]
  generalize (decide (1≤((x.getD i (ByteArray.empty,ByteArray.empty,0)).1.size:Int))&&decide (((x.getD i (ByteArray.empty,ByteArray.empty,0)).1.size:Int)≤12))=a
  generalize decide (((x.getD i (ByteArray.empty,ByteArray.empty,0)).2.1.size:Int)≤20)=b
  generalize (decide (1≤(x.getD i (ByteArray.empty,ByteArray.empty,0)).2.2)&&decide ((x.getD i (ByteArray.empty,ByteArray.empty,0)).2.2≤1000000000))=c
  cases a
  ·simp
  cases b
  ·simp
  cases c
  ·simp
  by_cases h0:0<i
  ·rw [SY (by omega) h0]
   simp only [Int.toNat_natCast,show ((0:Int)≤((i-1:Nat):Int)) from by omega,show (((i-1:Nat):Int)<(x.length:Int)) from by omega,if_true]
   rcases Bool.eq_false_or_eq_true (Op.bytesLess (x.getD (i-1) (ByteArray.empty,ByteArray.empty,0)).1.toList (x.getD i (ByteArray.empty,ByteArray.empty,0)).1.toList) with hb | hb<;>simp only [hb]<;>simp [h0,show i≠0 by omega]
  ·have:i=0:=by omega
   subst this
   simp)) 0 (by omega)
 simpa using this)
theorem NU (x) (h:x.length≤maxLen) (hl:∀ a b:List UInt8,(Op.bytesLess a b||a==b)=!Op.bytesLess b a):Et x=some (Bf x 0 x.length):=Z0 (by
 have hm:x.length≤9223372036854775807:=h
 unfold Rp
 have:=Gz (n:=x.length) (P:=fun i=>EO x x (x.length:Int) (i:Int)=some (Bf x i (x.length-i))) (NA (by
  unfold Ie
  rw [if_neg (by simp),Nat.sub_self]
  rfl)) (fun i hi ih=>NA (by
  unfold Ie
  have e:x.length-i=(x.length-(i+1))+1:=by omega
  simp only [show ((i:Int)<(x.length:Int)) from by omega,decide_true,if_true,show (0:Int)≤(i:Int) from by omega,Int.toNat_natCast,AR (show i<9223372036854775807 by omega),ih,BR,Qq,Option.bind_some,jn,hl]
  rw [e,Bf,Iv]
  generalize (decide (1≤((x.getD i (ByteArray.empty,ByteArray.empty,0)).1.size:Int))&&decide (((x.getD i (ByteArray.empty,ByteArray.empty,0)).1.size:Int)≤12))=a
  generalize decide (((x.getD i (ByteArray.empty,ByteArray.empty,0)).2.1.size:Int)≤20)=b
  generalize (decide (1≤(x.getD i (ByteArray.empty,ByteArray.empty,0)).2.2)&&decide ((x.getD i (ByteArray.empty,ByteArray.empty,0)).2.2≤1000000000))=c
  cases a
  ·simp
  cases b
  ·simp
  cases c
  ·simp
  by_cases h0:0<i
  ·rw [SY (by omega) h0]
   simp only [Int.toNat_natCast,show ((0:Int)≤((i-1:Nat):Int)) from by omega,show (((i-1:Nat):Int)<(x.length:Int)) from by omega,if_true]
   rcases Bool.eq_false_or_eq_true (Op.bytesLess (x.getD (i-1) (ByteArray.empty,ByteArray.empty,0)).1.toList (x.getD i (ByteArray.empty,ByteArray.empty,0)).1.toList) with hb | hb<;>simp only [hb]<;>simp [h0,show i≠0 by omega]
  ·have:i=0:=by omega
   subst this
   simp)) 0 (by omega)
 simpa using this)
theorem NV:∀ a b:List UInt8,(Op.bytesLess a b||a==b)=!Op.bytesLess b a
 | [],[]=>rfl
 | [],_::_=>rfl
 | _::_,[]=>rfl
 | a::l,b::m=>by
  have ih:=NV l m
  simp only [Op.bytesLess]
  by_cases h1:a<b
  ·have h2:¬ b<a:=by exact UInt8.not_lt.2 (UInt8.le_of_lt h1)
   have h3:¬ b=a:=fun h=>by subst h; exact absurd h1 (UInt8.lt_irrefl _)
   simp [h1,h2,h3]
  ·by_cases h2:b<a
   ·have h3:¬ a=b:=fun h=>by subst h; exact absurd h2 (UInt8.lt_irrefl _)
    simp [h1,h2,h3]
   ·have h3:a=b:=UInt8.le_antisymm (UInt8.not_lt.1 h2) (UInt8.not_lt.1 h1)
    subst h3
    simpa [h1] using ih
end Go.Proofs.YtaedipailemlcaaGreat.Core

namespace Go.Proofs.YtaedipailemlcaaGreat.Core
open Go
set_option linter.unusedVariables false
abbrev AP:Type:=ByteArray×ByteArray×Int
abbrev aE:AP:=(ByteArray.empty,ByteArray.empty,(0:Int))
theorem SZ:∀ a:List UInt8,Op.bytesLess a a=false
 | []=>rfl
 | a::l=>by simp [Op.bytesLess,SZ l,UInt8.lt_irrefl]
theorem R9:∀ {a b c:List UInt8},Op.bytesLess a b=true→Op.bytesLess b c=true→Op.bytesLess a c=true
 | _,[],_,h,_=>by cases ‹List UInt8› <;> simp [Op.bytesLess] at h
 | _,_::_,[],_,h=>by simp [Op.bytesLess] at h
 | [],_::_,_::_,_,_=>rfl
 | a::x,b::y,c::z,h,g=>by
  simp only [Op.bytesLess,Bool.or_eq_true,decide_eq_true_eq,Bool.and_eq_true,beq_iff_eq] at h g ⊢
  rcases h with h | ⟨rfl,h⟩
  ·rcases g with g | ⟨rfl,g⟩
   ·exact .inl (UInt8.lt_trans h g)
   ·exact .inl h
  ·rcases g with g | ⟨rfl,g⟩
   ·exact .inl g
   ·exact .inr ⟨rfl,R9 h g⟩
theorem aF:∀ a b:List UInt8,decide (Lib.compareBytes a b<0)=Op.bytesLess a b∧(Lib.compareBytes a b==0)=(a==b)
 | [],[]=>⟨rfl,rfl⟩
 | [],_::_=>⟨rfl,rfl⟩
 | _::_,[]=>⟨rfl,rfl⟩
 | a::l,b::m=>by
  have ih:=aF l m
  simp only [Lib.compareBytes,Op.bytesLess]
  by_cases h1:a<b
  ·have h3:¬ a=b:=fun h=>by subst h; exact absurd h1 (UInt8.lt_irrefl _)
   simp [h1,h3]
  ·by_cases h2:b<a
   ·have h3:¬ a=b:=fun h=>by subst h; exact absurd h2 (UInt8.lt_irrefl _)
    simp [h1,h2,h3]
   ·have h3:a=b:=UInt8.le_antisymm (UInt8.not_lt.1 h2) (UInt8.not_lt.1 h1)
    subst h3
    simpa [h1] using ih
theorem Ku (a:AP) (k:ByteArray):GR a k=some (Lib.compareBytes a.1.toList k.toList):=W6 (by
 unfold Ot
 rw [Ue,ByteArray.toList_eq,ByteArray.toList_eq]
 rfl)
def Ox (x:List AP) (i:Nat) (k:ByteArray):Bool:=match x[i]? with
 | some b=>b.1.toList==k.toList
 | none=>false
def Oy (k:ByteArray) (b:AP):Bool:=Op.bytesLess b.1.toList k.toList
def Iw (x:List AP):Prop:=∀ a b (ha:a<x.length) (hb:b<x.length),a<b→Op.bytesLess x[a].1.toList x[b].1.toList=true
def XX (x:List AP) (k:ByteArray) (i j:Nat):Prop:=∀ a (ha:a<x.length),(a<i→Oy k x[a]=true)∧(j≤a→Oy k x[a]=false)
theorem ka {i j:Nat} (h:i+j≤137438953472):IntKind.i64.wrap (Int.fdiv (IntKind.u64.wrap (IntKind.i64.wrap ((i:Int)+(j:Int)))) (2^(min (1:Int).toNat (IntKind.bits .u64))))=(((i+j) / 2:Nat):Int):=by
 have e1:IntKind.i64.wrap ((i:Int)+(j:Int))=((i+j:Nat):Int):=by rw [AY (by omega)]; omega
 have e2:IntKind.u64.wrap ((i+j:Nat):Int)=((i+j:Nat):Int):=by
  simp only [IntKind.wrap,IntKind.bits,IntKind.signed]
  simp
  omega
 have e3:(2:Int)^(min (1:Int).toNat (IntKind.bits .u64))=2:=by decide
 rw [e1,e2,e3,Int.fdiv_eq_ediv_of_nonneg _ (by omega)]
 rw [AY (by omega)]
 omega
theorem di (x:List AP) (k:ByteArray) (hx:x.length≤68719476736):∀ (m i j:Nat),j-i≤m→i≤j→j≤x.length →
  ∃ r:Nat,i≤r∧r≤j∧AF x k (x.length:Int) (i:Int) (j:Int)=some ((r:Int),Ox x r k)∧(Iw x→XX x k i j→XX x k r r):=by
 intro m
 induction m with
 | zero =>
  intro i j hm hij hj
  have:i=j:=by omega
  subst this
  refine ⟨i,Nat.le_refl _,Nat.le_refl _,Bb ?_,fun _ h=>h⟩
  unfold Ak
  rw [if_neg (by simp)]
  refine C4 ?_
  unfold Ba Ox
  by_cases h:i<x.length
  ·simp only [show ((i:Int)<(x.length:Int)) from by omega,decide_true,if_true,show (0:Int)≤(i:Int) from by omega,Int.toNat_natCast,AU h,Ku,Option.bind_some,(aF _ _).2,List.getElem?_eq_getElem h]
  ·rw [if_neg (by simp; omega),List.getElem?_eq_none (by omega)]
 | succ m ih =>
  intro i j hm hij hj
  by_cases hlt:i<j
  ·have hmid:i≤(i+j) / 2∧(i+j) / 2<j:=by omega
   generalize hh:(i+j) / 2=h at hmid
   have hb:h<x.length:=by omega
   have step:∀ r,(if Oy k x[h]=true then AF x k (x.length:Int) ((h+1:Nat):Int) (j:Int) else AF x k (x.length:Int) (i:Int) (h:Int))=some r→AF x k (x.length:Int) (i:Int) (j:Int)=some r:=fun r hr=>Bb (by
    unfold Ak
    simp only [show ((i:Int)<(j:Int)) from by omega,decide_true,if_true,ka (show i+j≤137438953472 by omega),hh,show ¬ ((1:Int)<0) from by decide,if_false,show ((0:Int)≤(h:Int)) from by omega,show ((h:Int)<(x.length:Int)) from by omega,Int.toNat_natCast,AU hb,Ku,Option.bind_some,(aF _ _).1,AR (show h<9223372036854775807 by omega)]
    exact hr)
   cases hl:Oy k x[h] with
   | true =>
    obtain ⟨r,h1,h2,h3,h4⟩:=ih (h+1) j (by omega) (by omega) hj
    refine ⟨r,by omega,h2,step _ (by rw [hl]; exact h3),fun ho hc=>h4 ho fun a ha=>⟨fun hlt=>?_,(hc a ha).2⟩⟩
    by_cases e:a=h
    ·subst e; exact hl
    ·exact R9 (ho a h ha hb (by omega)) hl
   | false =>
    obtain ⟨r,h1,h2,h3,h4⟩:=ih i h (by omega) hmid.1 (by omega)
    refine ⟨r,h1,by omega,step _ (by rw [hl]; exact h3),fun ho hc=>h4 ho fun a ha=>⟨(hc a ha).1,fun hle=>?_⟩⟩
    by_cases e:a=h
    ·subst e; exact hl
    ·cases q:Oy k x[a] with
     | false=>rfl
     | true =>
      have:=R9 (ho h a hb ha (by omega)) q
      rw [show Op.bytesLess x[h].1.toList k.toList=false from hl] at this
      cases this
  ·have:i=j:=by omega
   subst this
   exact ih i i (by omega) (Nat.le_refl _) hj
theorem gY (x:List AP) (k:ByteArray) (hx:x.length≤68719476736):∃ r:Nat,r≤x.length∧Ar x k ()=some ((r:Int),Ox x r k)∧(Iw x→XX x k r r):=by
 obtain ⟨r,_,h2,h3,h4⟩:=di x k hx x.length 0 x.length (by omega) (by omega) (Nat.le_refl _)
 refine ⟨r,h2,DQ (by unfold Bl; exact h3),fun ho=>h4 ho fun a ha=>⟨fun h=>by omega,fun h=>by omega⟩⟩
theorem R_ {x:List AP}:∀ (m i:Nat),Bf x i m=true→∀ a,i≤a→a<i+m→a≠0→Op.bytesLess (x.getD (a-1) aE).1.toList (x.getD a aE).1.toList=true
 | 0,i,_,a,h1,h2,_=>by omega
 | m+1,i,h,a,h1,h2,h0=>by
  simp only [Bf,Bool.and_eq_true,Bool.or_eq_true,decide_eq_true_eq] at h
  obtain ⟨⟨_,h3⟩,h4⟩:=h
  by_cases e:a=i
  ·subst e
   exact h3.resolve_left h0
  ·exact R_ m (i+1) h4 a (by omega) (by omega) h0
theorem SA {x:List AP} (h:Bf x 0 x.length=true):Iw x:=by
 have st:=R_ _ _ h
 have:∀ d a (ha:a+d+1<x.length),Op.bytesLess (x.getD a aE).1.toList (x.getD (a+d+1) aE).1.toList=true:=by
  intro d
  induction d with
  | zero=>intro a ha; exact st (a+1) (by omega) (by omega) (by omega)
  | succ d ih =>
   intro a ha
   exact R9 (ih a (by omega)) (st (a+(d+1)+1) (by omega) (by omega) (by omega))
 intro a b ha hb hab
 have:=this (b-a-1) a (by omega)
 rw [show a+(b-a-1)+1=b by omega,AU ha,AU hb] at this
 exact this
theorem dj {x:List AP} {k:ByteArray} {r:Nat} (hr:r≤x.length) (h:XX x k r r):x.take r=x.filter (Oy k)∧x.drop r=x.filter (fun b=>!Oy k b):=by
 have e1:(x.take r).filter (Oy k)=x.take r:=List.filter_eq_self.2 fun b hb=>by
  obtain ⟨a,ha,rfl⟩:=List.getElem_of_mem hb
  rw [List.length_take] at ha
  rw [List.getElem_take]
  exact (h a (by omega)).1 (by omega)
 have e2:(x.drop r).filter (Oy k)=[]:=List.filter_eq_nil_iff.2 fun b hb=>by
  obtain ⟨a,ha,rfl⟩:=List.getElem_of_mem hb
  rw [List.length_drop] at ha
  rw [List.getElem_drop]
  have:=(h (r+a) (by omega)).2 (by omega)
  simp [this]
 have e3:(x.take r).filter (fun b=>!Oy k b)=[]:=List.filter_eq_nil_iff.2 fun b hb=>by
  obtain ⟨a,ha,rfl⟩:=List.getElem_of_mem hb
  rw [List.length_take] at ha
  rw [List.getElem_take]
  have:=(h a (by omega)).1 (by omega)
  simp [this]
 have e4:(x.drop r).filter (fun b=>!Oy k b)=x.drop r:=List.filter_eq_self.2 fun b hb=>by
  obtain ⟨a,ha,rfl⟩:=List.getElem_of_mem hb
  rw [List.length_drop] at ha
  rw [List.getElem_drop]
  have:=(h (r+a) (by omega)).2 (by omega)
  simp [this]
 have f1:x.filter (Oy k)=(x.take r).filter (Oy k)++(x.drop r).filter (Oy k):=by rw [← List.filter_append,List.take_append_drop]
 have f2:x.filter (fun b=>!Oy k b)=(x.take r).filter (fun b=>!Oy k b)++(x.drop r).filter (fun b=>!Oy k b):=by rw [← List.filter_append,List.take_append_drop]
 rw [f1,f2,e1,e2,e3,e4]
 simp
theorem eS {x:List AP} {k:ByteArray} {r:Nat} (ho:Iw x) (h:XX x k r r) (j:Nat) (hj:j<x.length) (e:x[j].1.toList=k.toList):j=r:=by
 rcases Nat.lt_trichotomy j r with g | g | g
 ·have:=(h j hj).1 g
  simp only [Oy,e,SZ] at this
  cases this
 ·exact g
 ·have h1:=ho r j (by omega) hj g
  have h2:=(h r (by omega)).2 (Nat.le_refl _)
  rw [e] at h1
  rw [show Oy k x[r]=true from h1] at h2
  cases h2
def SB (x:List AP) (a:AP):Bool:=x.any fun b=>(b.1.toList==a.1.toList)&&decide (b.2.2≥a.2.2)
def LD (k:ByteArray) (b:AP):Bool:=!(Op.bytesLess b.1.toList k.toList||(b.1.toList==k.toList))
def Oz (x:List AP) (a:AP):List AP:=x.filter (Oy a.1)++[a]++x.filter (LD a.1)
def As (x:List AP):Bool:=Bf x 0 x.length
def By (x:List AP) (a:AP):List AP:=if SB x a=true then x else if As x=true then (if As (Oz x a)=true then Oz x a else x) else x
theorem eT {x:List AP} {k:ByteArray} {r:Nat} (hr:r≤x.length) (h:XX x k r r):x.filter (LD k)=(x.drop r).filter fun b=>!(b.1.toList==k.toList):=by
 rw [(dj hr h).2,List.filter_filter]
 congr 1
 funext b
 simp only [LD,Oy,Bool.not_or]
 exact Bool.and_comm _ _
theorem Ix (x:List AP) (a:AP) (hx:x.length≤34359738367):GC x a=some (By x a):=Z3 (by
 have J4:∀ same out:List AP,out.length≤maxLen→Ih x a same out=some (if As x=true then (if As out=true then out else same) else same):=fun same out ho=>U0 (by
  unfold NE As
  rw [F4 x (by unfold maxLen; omega),F4 out ho]
  cases Bf x 0 x.length<;>cases Bf out 0 out.length<;>simp)
 have L3:∀ same out:List AP,out.length≤x.length+1→C6 x ((0:Nat):Int) a same out=some (if As x=true then (if As (out++(x.drop 0).filter (LD a.1))=true then out++(x.drop 0).filter (LD a.1) else same) else same):=by
  intro same out ho
  refine Gz (n:=x.length) (P:=fun i=>∀ out:List AP,out.length≤x.length+1+i→C6 x (i:Int) a same out=some (if As x=true then (if As (out++(x.drop i).filter (LD a.1))=true then out++(x.drop i).filter (LD a.1) else same) else same)) (fun out ho=>NG ?_) (fun i hi ih out ho=>NG ?_) 0 (by omega) out ho
  ·unfold Ij
   rw [if_neg (by simp),J4 same out (by unfold maxLen; omega)]
   simp
  ·unfold Ij
   simp only [show ((i:Int)<(x.length:Int)) from by omega,decide_true,if_true,show (0:Int)≤(i:Int) from by omega,Int.toNat_natCast,AU hi,AR (show i<9223372036854775807 by omega)]
   rw [Bm hi,List.filter_cons]
   change (if LD a.1 x[i]=true then _ else _)=_
   by_cases hh:LD a.1 x[i]=true
   ·rw [if_pos hh,if_pos (by simp; omega),ih _ (by simp; omega),if_pos hh,List.append_assoc]
    rfl
   ·rw [if_neg hh,ih _ (by omega),if_neg hh]
 have J2:∀ same out:List AP,out.length≤x.length→Ii x a same out=some (if As x=true then (if As (out++[a]++x.filter (LD a.1))=true then out++[a]++x.filter (LD a.1) else same) else same):=fun same out ho=>U1 (by
  unfold NF
  rw [if_pos (by simp; omega)]
  have:=L3 same (out++[a]) (by simp; omega)
  simpa using this)
 have L0:∀ same:List AP,C7 x ((0:Nat):Int) a same []=some (if SB (x.drop 0) a=true then same else if As x=true then (if As (([]++(x.drop 0).filter (Oy a.1))++[a]++x.filter (LD a.1))=true then ([]++(x.drop 0).filter (Oy a.1))++[a]++x.filter (LD a.1) else same) else same):=by
  intro same
  refine Gz (n:=x.length) (P:=fun i=>∀ out:List AP,out.length≤i→C7 x (i:Int) a same out=some (if SB (x.drop i) a=true then same else if As x=true then (if As ((out++(x.drop i).filter (Oy a.1))++[a]++x.filter (LD a.1))=true then (out++(x.drop i).filter (Oy a.1))++[a]++x.filter (LD a.1) else same) else same)) (fun out ho=>NH ?_) (fun i hi ih out ho=>NH ?_) 0 (by omega) [] (by simp)
  ·unfold Ik
   rw [if_neg (by simp),J2 same out ho]
   simp [SB]
  ·unfold Ik
   simp only [show ((i:Int)<(x.length:Int)) from by omega,decide_true,if_true,show (0:Int)≤(i:Int) from by omega,Int.toNat_natCast,AU hi]
   have J1:∀ out:List AP,out.length≤i+1→Ft x (i:Int) a same out=some (if SB (x.drop i) a=true then same else if As x=true then (if As ((out++(x.drop (i+1)).filter (Oy a.1))++[a]++x.filter (LD a.1))=true then (out++(x.drop (i+1)).filter (Oy a.1))++[a]++x.filter (LD a.1) else same) else same):=fun out ho=>Uz (by
    unfold ND
    simp only [show ((i:Int)<(x.length:Int)) from by omega,decide_true,if_true,show (0:Int)≤(i:Int) from by omega,Int.toNat_natCast,AU hi,AR (show i<9223372036854775807 by omega),ih out ho]
    rw [Bm hi]
    rw [show SB (x[i]::x.drop (i+1)) a=(((x[i].1.toList==a.1.toList)&&decide (x[i].2.2≥a.2.2))||SB (x.drop (i+1)) a) from List.any_cons]
    generalize (x[i].1.toList==a.1.toList)=p
    generalize decide (x[i].2.2≥a.2.2)=q
    cases p<;>cases q<;>simp)
   rw [Bm hi,List.filter_cons]
   change (if Oy a.1 x[i]=true then _ else _)=_
   rw [Bm hi] at J1
   by_cases hh:Oy a.1 x[i]=true
   ·rw [if_pos hh,if_pos (by simp; omega),J1 _ (by simp; omega),if_pos hh]
    simp only [List.append_assoc,List.cons_append,List.nil_append]
   ·rw [if_neg hh,J1 _ (by omega),if_neg hh]
 unfold Ru
 rw [if_pos (by simp; omega)]
 have:=L0 ([]++x)
 simpa [By,Oz] using this)
theorem iZ {x:List AP} {a:AP} {r:Nat} (hr:r≤x.length) (ho:Iw x) (h:XX x a.1 r r):SB x a=(Ox x r a.1&&decide ((x.getD r aE).2.2≥a.2.2)):=by
 unfold SB Ox
 by_cases hl:r<x.length
 ·rw [List.getElem?_eq_getElem hl,AU hl]
  rw [Bool.eq_iff_iff,List.any_eq_true]
  simp only [Bool.and_eq_true,beq_iff_eq,decide_eq_true_eq]
  refine ⟨fun ⟨b,hb,e,hv⟩=>?_,fun ⟨e,hv⟩=>⟨_,List.getElem_mem hl,e,hv⟩⟩
  obtain ⟨j,hj,rfl⟩:=List.getElem_of_mem hb
  have:=eS ho h j hj e
  subst this
  exact ⟨e,hv⟩
 ·rw [List.getElem?_eq_none (by omega),Bool.false_and,List.any_eq_false]
  intro b hb
  obtain ⟨j,hj,rfl⟩:=List.getElem_of_mem hb
  intro hc
  simp only [Bool.and_eq_true,beq_iff_eq] at hc
  have:=eS ho h j hj hc.1
  omega
theorem jo {x:List AP} {a:AP} {r:Nat} (hr:r≤x.length) (ho:Iw x) (h:XX x a.1 r r):Oz x a=if Ox x r a.1=true then x.set r a else x.take r++[a]++x.drop r:=by
 unfold Oz
 rw [eT hr h,← (dj hr h).1]
 have hk:∀ (j:Nat) (hj:j<x.length),j≠r→(x[j].1.toList==a.1.toList)=false:=fun j hj hne=>by
  cases q:(x[j].1.toList==a.1.toList) with
  | false=>rfl
  | true=>exact absurd (eS ho h j hj (by simpa using q)) hne
 have tail:(x.drop (r+1)).filter (fun b=>!(b.1.toList==a.1.toList))=x.drop (r+1):=List.filter_eq_self.2 fun b hb=>by
  obtain ⟨j,hj,rfl⟩:=List.getElem_of_mem hb
  rw [List.length_drop] at hj
  rw [List.getElem_drop,hk (r+1+j) (by omega) (by omega)]
  rfl
 by_cases hl:r<x.length
 ·rw [Bm hl,List.filter_cons,tail]
  unfold Ox
  rw [List.getElem?_eq_getElem hl]
  cases q:(x[r].1.toList==a.1.toList) with
  | true=>simp [q,List.set_eq_take_append_cons_drop,hl]
  | false=>simp [q]
 ·have:x.drop r=[]:=List.drop_eq_nil_of_le (by omega)
  rw [this]
  unfold Ox
  rw [List.getElem?_eq_none (by omega)]
  simp
theorem VY (x:List AP) (a:AP) (hx:x.length≤34359738367):Le x a=some (By x a):=Z6 (by
 obtain ⟨r,hr,hs,hc⟩:=gY x a.1 (by omega)
 have ok:∀ y:List AP,y.length≤68719476736→Et y=some (As y):=fun y hy=>NU y (by unfold maxLen; omega) NV
 have J1:∀ y:List AP,y.length≤68719476736→Fw x a y=some (if As y=true then y else x):=fun y hy=>U_ (by
  unfold NM
  rw [ok y hy,BY (by omega)]
  cases As y<;>simp)
 have hl:Ox x r a.1=true→r<x.length:=fun h=>by
  by_cases hl:r<x.length
  ·exact hl
  ·unfold Ox at h
   rw [List.getElem?_eq_none (by omega)] at h
   cases h
 have J0:∀ b,As x=true→Fx x (r:Int) (Ox x r a.1) b a x=some (if As (Oz x a)=true then Oz x a else x):=fun b hok=>VD (by
  unfold NN
  rw [jo hr (SA hok) (hc (SA hok))]
  cases hh:Ox x r a.1 with
  | true =>
   have:=hl hh
   simp only [if_true,show (0:Int)≤(r:Int) from by omega,show ((r:Int)<(x.length:Int)) from by omega,Int.toNat_natCast]
   rw [J1 _ (by simp; omega)]
  | false =>
   rw [if_neg (by simp),Gt (by simp; omega) hr (by simp),Option.bind_some,J1 _ (by simp; omega)]
   simp)
 unfold Ry
 rw [BY (by omega),Option.bind_some,hs,Option.bind_some,ok x (by omega),Option.bind_some]
 cases hok:As x with
 | false=>simp [By,hok]
 | true =>
  have hst:=iZ hr (SA hok) (hc (SA hok))
  have j0:=J0
  unfold By
  rw [hst,hok]
  cases hh:Ox x r a.1 with
  | false =>
   have:=J0 false hok
   rw [hh] at this
   simp [this]
  | true =>
   have hlr:=hl hh
   have:=J0 false hok
   rw [hh] at this
   simp only [if_true,show (0:Int)≤(r:Int) from by omega,show ((r:Int)<(x.length:Int)) from by omega,Int.toNat_natCast,Bool.true_and]
   cases q:decide ((x.getD r aE).2.2≥a.2.2) with
   | true=>simp
   | false=>simp [this])
end Go.Proofs.YtaedipailemlcaaGreat.Core

namespace Go.Proofs.YtaedipailemlcaaGreat.Core
open Go
set_option linter.unusedVariables false
abbrev Hn:Type:=List Int×Int×Int
def No (d:Hn):Prop:=0≤d.2.1∧d.1.length≤maxLen
theorem XY (a:Int):0≤Hv .i64 a 255∧Hv .i64 a 255≤255:=by
 unfold Hv
 have h:(BitVec.ofInt (IntKind.bits .i64) a &&& BitVec.ofInt (IntKind.bits .i64) 255).toNat≤255:=by
  rw [BitVec.toNat_and]
  refine Nat.le_trans Nat.and_le_right ?_
  decide
 rw [AY (by omega)]
 omega
theorem EW (d:Hn) (h:No d):∃ b d',Dp d=some (b,d')∧No d'∧0≤b∧b≤255:=by
 have hm:d.1.length≤9223372036854775807:=h.2
 have hp:=h.1
 suffices g:∃ b d',L5 d=some (b,d')∧No d'∧0≤b∧b≤255 from g.imp fun b g=>g.imp fun d' g=>⟨Z4 g.1,g.2⟩
 unfold L5
 rw [if_neg (by omega),if_neg (by omega)]
 by_cases h1:d.2.1<(d.1.length:Int)
 ·rw [if_pos (by simpa using h1),if_pos hp,if_pos h1]
  refine ⟨_,_,rfl,⟨?_,h.2⟩,XY _⟩
  show 0≤IntKind.i64.wrap (d.2.1+1)
  rw [AY (by omega)]
  omega
 ·rw [if_neg (by simpa using h1)]
  exact ⟨_,_,rfl,h,XY _⟩
theorem BC (n:Int) (d:Hn) (h:No d):∃ v d',Bq n d=some (v,d')∧No d'∧0≤v∧(0<n→v<n):=by
 suffices g:∃ b d',KW n d=some (b,d')∧No d'∧0≤b∧(0<n→b<n) from g.imp fun b g=>g.imp fun d' g=>⟨YJ g.1,g.2⟩
 unfold KW
 by_cases h1:n≤0
 ·exact ⟨0,d,by rw [if_pos (by simpa using h1)],h,by omega,by omega⟩
 ·rw [if_neg (by simpa using h1)]
  by_cases h2:n≤256
  ·obtain ⟨b,d1,e1,k1,b0,b1⟩:=EW d h
   refine ⟨_,_,by rw [if_pos (by simpa using h2),e1,Option.bind_some,if_neg (by omega)],k1,Int.tmod_nonneg _ b0,fun _=>Int.tmod_lt_of_pos _ (by omega)⟩
  ·obtain ⟨b1,d1,e1,k1,b10,b11⟩:=EW d h
   obtain ⟨b2,d2,e2,k2,b20,b21⟩:=EW d1 k1
   obtain ⟨b3,d3,e3,k3,b30,b31⟩:=EW d2 k2
   obtain ⟨b4,d4,e4,k4,b40,b41⟩:=EW d3 k3
   refine ⟨_,_,by rw [if_neg (by simpa using h2),e1,Option.bind_some,e2,Option.bind_some,e3,Option.bind_some,e4,Option.bind_some,if_neg (by omega)],k4,Int.tmod_nonneg _ ?_,fun _=>Int.tmod_lt_of_pos _ (by omega)⟩
   rw [AY (n:=b1*16777216) (by omega),AY (n:=b2*65536) (by omega),AY (n:=b3*256) (by omega),AY (n:=b1*16777216+b2*65536) (by omega),AY (n:=b1*16777216+b2*65536+b3*256) (by omega),AY (by omega)]
   omega
theorem EX (n:Int) (d:Hn) (h:No d):∃ v d',Bz n d=some (v,d')∧No d':=by
 obtain ⟨v,d',e,k,_⟩:=BC n d h
 exact ⟨_,_,Z2 (by unfold Rt; rw [e,Option.bind_some]),k⟩
theorem KD (x:List Int) (hx:0<x.length) (d:Hn) (h:No d):∃ v d',Fo x d=some (v,d')∧No d'∧v∈x:=by
 obtain ⟨v,d',e,k,v0,v1⟩:=BC (x.length:Int) d h
 have v1:=v1 (by omega)
 have hv:v.toNat<x.length:=by omega
 exact ⟨_,_,VR (by unfold NS; rw [e,Option.bind_some,if_pos v0,if_pos v1]),k,by rw [AU hv]; exact List.getElem_mem hv⟩
theorem W8 (x:List Int) (h:x.length≤maxLen):∃ d,Nc x=some d∧No d:=by
 have hm:x.length≤9223372036854775807:=h
 have key:=Gz (n:=x.length) (P:=fun i=>∀ a,∃ d,GT x a (i:Int)=some d∧No d) (fun a=>⟨(x,0,a),JO (by
  unfold GU
  rw [if_neg (by simp)]),⟨Int.le_refl _,h⟩⟩) (fun i hi ih a=>by
  by_cases h4:(i:Int)<4000
  ·obtain ⟨d,e,k⟩:=ih (Hv .i64 (IntKind.i64.wrap ((IntKind.i64.wrap ((IntKind.i64.wrap (a*(131:Int)))+(IntKind.i64.wrap (x.getD (i:Int).toNat (0:Int)))))+(7:Int))) (1073741823:Int))
   refine ⟨d,JO ?_,k⟩
   unfold GU
   rw [if_pos (by simpa using hi),if_pos (by simpa using h4)]
   refine WO ?_
   unfold OT
   rw [if_pos (by omega),if_pos (by omega),AR (show i<9223372036854775807 by omega)]
   exact e
  ·refine ⟨(x,0,a),JO ?_,⟨Int.le_refl _,h⟩⟩
   unfold GU
   rw [if_pos (by simpa using hi),if_neg (by simpa using h4)]) 0 (by omega)
 obtain ⟨d,e,k⟩:=key (IntKind.i64.wrap ((14301:Int)+(x.length:Int)))
 exact ⟨d,aq e,k⟩
end Go.Proofs.YtaedipailemlcaaGreat.Core

namespace Go.Proofs.YtaedipailemlcaaGreat.Core
open Go
set_option linter.unusedVariables false
theorem Nk {x:List AP}:∀ (m i:Nat),i+m=x.length→(Bf x i m=true↔(∀ a (ha:a<x.length),i≤a→Iv x[a]=true∧(a≠0→Op.bytesLess (x.getD (a-1) aE).1.toList x[a].1.toList=true))∧x.length≤12)
 | 0,i,h=>by
  simp only [Bf,decide_eq_true_eq]
  refine ⟨fun h2=>⟨fun a ha hi=>by omega,by omega⟩,fun h2=>by have:=h2.2; omega⟩
 | m+1,i,h=>by
  have hi:i<x.length:=by omega
  rw [Bf,Bool.and_eq_true,Bool.and_eq_true,Nk m (i+1) (by omega),AU hi]
  simp only [Bool.or_eq_true,decide_eq_true_eq]
  constructor
  ·rintro ⟨⟨h1,h2⟩,h3,h4⟩
   refine ⟨fun a ha hia=>?_,h4⟩
   by_cases e:a=i
   ·subst e
    exact ⟨h1,fun h0=>h2.resolve_left h0⟩
   ·exact h3 a ha (by omega)
  ·rintro ⟨h3,h4⟩
   refine ⟨⟨(h3 i hi (Nat.le_refl _)).1,?_⟩,fun a ha hia=>h3 a ha (by omega),h4⟩
   by_cases e:i=0
   ·exact .inl e
   ·exact .inr ((h3 i hi (Nat.le_refl _)).2 e)
theorem GH {x:List AP}:As x=true↔(∀ b∈x,Iv b=true)∧Iw x∧x.length≤12:=by
 constructor
 ·intro h
  have h1:=(Nk x.length 0 (by omega)).1 h
  refine ⟨fun b hb=>?_,SA h,h1.2⟩
  obtain ⟨a,ha,rfl⟩:=List.getElem_of_mem hb
  exact (h1.1 a ha (Nat.zero_le _)).1
 ·rintro ⟨h1,h2,h3⟩
  refine (Nk x.length 0 (by omega)).2 ⟨fun a ha _=>⟨h1 _ (List.getElem_mem ha),fun h0=>?_⟩,h3⟩
  rw [AU (show a-1<x.length by omega)]
  exact h2 (a-1) a (by omega) ha (by omega)
theorem bX {x:List AP}:Iw x↔x.Pairwise fun b c=>Op.bytesLess b.1.toList c.1.toList=true:=by
 rw [List.pairwise_iff_getElem]
 rfl
theorem aG {x:List AP} (a:AP) (h:Iw x):Iw (Oz x a):=by
 rw [bX] at h ⊢
 have lo:∀ b∈x.filter (Oy a.1),Op.bytesLess b.1.toList a.1.toList=true:=fun b hb=>(List.mem_filter.1 hb).2
 have hg:∀ b∈x.filter (LD a.1),Op.bytesLess a.1.toList b.1.toList=true:=fun b hb=>by
  have:=(List.mem_filter.1 hb).2
  rw [LD,NV] at this
  simpa using this
 unfold Oz
 rw [List.pairwise_append,List.pairwise_append]
 refine ⟨⟨h.filter _,List.pairwise_singleton _ _,fun b hb c hc=>?_⟩,h.filter _,fun b hb c hc=>?_⟩
 ·rw [List.mem_singleton] at hc
  subst hc
  exact lo b hb
 ·rcases List.mem_append.1 hb with hb | hb
  ·exact R9 (lo b hb) (hg c hc)
  ·rw [List.mem_singleton] at hb
   subst hb
   exact hg c hc
theorem ia (x:List AP) (a:AP):(Oz x a).length≤x.length+1:=by
 have h1:(x.filter (LD a.1)).length≤(x.filter fun b=>!Oy a.1 b).length:=by
  rw [← List.countP_eq_length_filter,← List.countP_eq_length_filter]
  refine List.countP_mono_left fun b _ hb=>?_
  simp only [LD,Oy,Bool.not_eq_true',Bool.or_eq_false_iff] at hb ⊢
  exact hb.1
 have h2:(x.filter (Oy a.1)).length+(x.filter fun b=>!Oy a.1 b).length=x.length:=by
  rw [← List.countP_eq_length_filter,← List.countP_eq_length_filter]
  have:=List.length_eq_countP_add_countP (Oy a.1) (l:=x)
  rw [this]
  congr 2
  funext b
  cases Oy a.1 b<;>rfl
 simp only [Oz,List.length_append,List.length_cons,List.length_nil]
 omega
theorem ib {x:List AP} {a:AP}:a∈Oz x a:=by simp [Oz]
theorem dl {x:List AP} {a b:AP} (h:b∈Oz x a):b=a∨b∈x:=by
 simp only [Oz,List.mem_append,List.mem_filter,List.mem_singleton] at h
 rcases h with (h | h) | h
 ·exact .inr h.1
 ·exact .inl h
 ·exact .inr h.1
theorem eU {x:List AP} (ho:Iw x) {b:AP} (hb:b∈x):B2 x b.1=b:=by
 obtain ⟨j,hj,rfl⟩:=List.getElem_of_mem hb
 have:x.find? (fun a=>a.1.toList==x[j].1.toList)=some x[j]:=by
  rw [List.find?_eq_some_iff_getElem]
  refine ⟨by simp,j,hj,rfl,fun i hi=>?_⟩
  have:=ho i j (by omega) hj hi
  cases q:(x[i].1.toList==x[j].1.toList) with
  | false=>rfl
  | true =>
   rw [beq_iff_eq] at q
   rw [q,SZ] at this
   cases this
 unfold B2
 rw [this]
 rfl
theorem dn (a:AP):Nn (.pair .str (.pair .str (.int .i64))) a a=true:=by simp [Nn]
theorem NW (x:List ByteArray) (hx:0<x.length) (d:Hn) (h:No d):∃ v d',IW x d=some (v,d')∧No d'∧v∈x:=by
 obtain ⟨v,d',e,k,v0,v1⟩:=BC (x.length:Int) d h
 have v1:=v1 (by omega)
 have hv:v.toNat<x.length:=by omega
 exact ⟨_,_,aB (by unfold R6; rw [e,Option.bind_some,if_pos v0,if_pos v1]),k,by rw [AU hv]; exact List.getElem_mem hv⟩
theorem aH {x:List AP} {a:AP} (h:As x=true):As (By x a)=true:=by
 unfold By
 rw [if_pos h]
 split
 ·exact h
 ·split
  ·assumption
  ·exact h
theorem XZ (x:List AP) (a:AP):(By x a).length≤x.length+1:=by
 have:=ia x a
 unfold By
 (repeat' split)<;>omega
end Go.Proofs.YtaedipailemlcaaGreat.Core

namespace Go.Proofs.YtaedipailemlcaaGreat.Core
open Go
set_option linter.unusedVariables false
end Go.Proofs.YtaedipailemlcaaGreat.Core

namespace Go.Proofs.YtaedipailemlcaaGreat.Core
open Go
set_option linter.unusedVariables false
theorem B5 (x:List Int) (n:Int) (h:x.length≤maxLen):Co x n=some (x.contains n):=ca (by
 have hm:x.length≤9223372036854775807:=h
 unfold Uu
 have:=Gz (n:=x.length) (P:=fun i=>HB x n (i:Int)=some ((x.drop i).contains n)) (Qd (by
  unfold KX
  rw [if_neg (by simp),List.drop_length]
  rfl)) (fun i hi ih=>Qd (by
  unfold KX
  simp only [show ((i:Int)<(x.length:Int)) from by omega,decide_true,if_true,show (0:Int)≤(i:Int) from by omega,Int.toNat_natCast,AU hi,AR (show i<9223372036854775807 by omega)]
  rw [Bm hi,List.contains_cons,ih]
  by_cases e:x[i]=n
  ·subst e
   simp
  ·simp [e,Ne.symm e])) 0 (by omega)
 simpa using this)
theorem kb (x:List Int) (i:Nat) (hi:i<x.length) (h:x.length≤maxLen):∃ r,FD x x[i]=some r∧((r=(i:Int))↔x[i]∉x.take i):=by
 have hm:x.length≤9223372036854775807:=h
 have key:=Gz (n:=i) (P:=fun k=>∃ r,CW x x[i] (x.length:Int) (k:Int)=some r∧(k:Int)≤r∧((r=(i:Int))↔∀ m (hm:m<i),k≤m→x[m]≠x[i])) ⟨i,D8 (by
  unfold CX
  simp only [show ((i:Int)<(x.length:Int)) from by omega,decide_true,if_true,show (0:Int)≤(i:Int) from by omega,Int.toNat_natCast,AU hi]
  simp),by omega,⟨fun _ m hm hk=>by omega,fun _=>rfl⟩⟩ (fun k hk ⟨r,hr,hkr,hiff⟩=>by
  have hk2:k<x.length:=by omega
  by_cases e:x[i]=x[k]
  ·refine ⟨k,D8 ?_,by omega,⟨fun he=>by omega,fun hall=>absurd e.symm (hall k hk (by omega))⟩⟩
   unfold CX
   simp only [show ((k:Int)<(x.length:Int)) from by omega,decide_true,if_true,show (0:Int)≤(k:Int) from by omega,Int.toNat_natCast,AU hk2]
   rw [if_pos (by simpa using e)]
  ·refine ⟨r,D8 ?_,by omega,hiff.trans ⟨fun hall m hm hkm=>?_,fun hall m hm hkm=>hall m hm (by omega)⟩⟩
   ·unfold CX
    simp only [show ((k:Int)<(x.length:Int)) from by omega,decide_true,if_true,show (0:Int)≤(k:Int) from by omega,Int.toNat_natCast,AU hk2,AR (show k<9223372036854775807 by omega)]
    rw [if_neg (by simpa using e)]
    exact hr
   ·rcases Nat.lt_or_ge k m with h1 | h1
    ·exact hall m hm h1
    ·have:m=k:=by omega
     subst this
     exact fun h=>e h.symm) 0 (by omega)
 obtain ⟨r,hr,_,hiff⟩:=key
 refine ⟨r,Pd hr,hiff.trans ⟨fun hall hmem=>?_,fun hn m hm _ he=>hn ?_⟩⟩
 ·obtain ⟨m,hm,he⟩:=List.mem_take_iff_getElem.1 hmem
  exact hall m (by omega) (by omega) he
 ·exact List.mem_take_iff_getElem.2 ⟨m,by omega,he⟩
def FX (v:List Int) (i:Nat):Nat→Bool
 | 0=>true
 | k+1=>(decide (1≤v.getD i 0)&&decide (v.getD i 0≤6))&&!(v.take i).contains (v.getD i 0)&&FX v (i+1) k
def Pf (v:List Int):Bool:=(decide (1≤(v.length:Int))&&decide ((v.length:Int)≤4))&&FX v 0 v.length
def Dk (x:List (List Int)) (n:Nat):List (List Int)→Bool
 | []=>decide (1≤(n:Int))&&decide ((n:Int)≤9)
 | v::r=>Pf v&&Dk x n r
theorem VZ (v:List Int) (h:v.length≤maxLen):Ld v=some (Pf v):=Z5 (by
 have hm:v.length≤9223372036854775807:=h
 unfold Rw Pf
 simp only [Ah,Option.bind_some]
 have:=Gz (n:=v.length) (P:=fun i=>Fu v (i:Int)=some (FX v i (v.length-i))) (NK (by
  unfold Im
  rw [if_neg (by simp),Nat.sub_self]
  rfl)) (fun i hi ih=>NK (by
  unfold Im
  have e:v.length-i=(v.length-(i+1))+1:=by omega
  rw [e,FX]
  simp only [show ((i:Int)<(v.length:Int)) from by omega,show ((i:Int)≤(v.length:Int)) from by omega,decide_true,if_true,show (0:Int)≤(i:Int) from by omega,Int.toNat_natCast,Ah,Option.bind_some,AR (show i<9223372036854775807 by omega),ih,Int.toNat_zero,List.drop_zero,Int.le_refl,
   B5 (v.take i) _ (by rw [List.length_take]; omega)]
  generalize (decide (1≤v.getD i 0)&&decide (v.getD i 0≤6))=a
  generalize (v.take i).contains (v.getD i 0)=b
  cases a<;>cases b<;>simp)) 0 (by omega)
 simp only [Int.ofNat_zero,Nat.sub_zero] at this
 generalize (decide (1≤(v.length:Int))&&decide ((v.length:Int)≤4))=a
 cases a
 ·simp
 ·simpa using this)
theorem Va (x:List (List Int)) (h:x.length≤maxLen) (ho:∀ a∈x,a.length≤maxLen):C1 x=some (Dk x x.length x):=Zv (by
 have hm:x.length≤9223372036854775807:=h
 unfold Rk
 exact Gz (n:=x.length) (P:=fun i=>Fs x (i:Int)=some (Dk x x.length (x.drop i))) (M_ (by
  unfold Id
  rw [if_neg (by simp),List.drop_length,Ah]
  rfl)) (fun i hi ih=>M_ (by
  unfold Id
  simp only [show ((i:Int)<(x.length:Int)) from by omega,decide_true,if_true,show (0:Int)≤(i:Int) from by omega,Int.toNat_natCast,AU hi,VZ x[i] (ho _ (List.getElem_mem _)),Option.bind_some,AR (show i<9223372036854775807 by omega),ih]
  rw [Bm hi,Dk]
  generalize Pf x[i]=a
  cases a<;>simp)) 0 (by omega))
theorem Vb (x:List (List Int)) (h:x.length≤maxLen) (ho:∀ a∈x,a.length≤maxLen):IS x=some (Dk x x.length x):=Zt (by
 have hm:x.length≤9223372036854775807:=h
 unfold Ri
 exact Gz (n:=x.length) (P:=fun i=>Fq x x (x.length:Int) (i:Int)=some (Dk x x.length (x.drop i))) (M9 (by
  unfold Ic
  rw [if_neg (by simp),List.drop_length,BR]
  rfl)) (fun i hi ih=>M9 (by
  unfold Ic
  simp only [show ((i:Int)<(x.length:Int)) from by omega,decide_true,if_true,show (0:Int)≤(i:Int) from by omega,Int.toNat_natCast,AU hi]
  rw [Bm hi,Dk]
  have hv:=ho x[i] (List.getElem_mem _)
  generalize x[i]=v at hv
  have hvm:v.length≤9223372036854775807:=hv
  have wj:Ia x v x (x.length:Int) (i:Int)=some ((decide (1≤(v.length:Int))&&decide ((v.length:Int)≤4))&&Dk x x.length (x.drop (i+1))):=Us (by
   unfold M7
   rw [BR,Option.bind_some,AR (show i<9223372036854775807 by omega),ih]
   generalize (decide (1≤(v.length:Int))&&decide ((v.length:Int)≤4))=a
   cases a<;>simp)
  have:=Gz (n:=v.length) (P:=fun j=>Fp x v x (x.length:Int) (i:Int) v (v.length:Int) (j:Int)=some (FX v j (v.length-j)&&((decide (1≤(v.length:Int))&&decide ((v.length:Int)≤4))&&Dk x x.length (x.drop (i+1))))) (M8 (by
   unfold Ib
   rw [if_neg (by simp),Nat.sub_self,wj]
   rfl)) (fun j hj ihj=>M8 (by
   unfold Ib
   have e:v.length-j=(v.length-(j+1))+1:=by omega
   obtain ⟨r,hr,hiff⟩:=kb v j hj hv
   rw [e,FX]
   simp only [show ((j:Int)<(v.length:Int)) from by omega,decide_true,if_true,show (0:Int)≤(j:Int) from by omega,Int.toNat_natCast,Ow,Option.bind_some,AR (show j<9223372036854775807 by omega),ihj,AU hj,hr]
   have hb:(r != (j:Int))=(v.take j).contains v[j]:=by
    by_cases e2:r=(j:Int)
    ·have:=hiff.1 e2
     simp [e2,this]
    ·have:v[j]∈v.take j:=Classical.byContradiction fun hn=>e2 (hiff.2 hn)
     simp [e2,this]
   rw [hb]
   generalize (decide (1≤v[j])&&decide (v[j]≤6))=a
   generalize (v.take j).contains v[j]=b
   cases a<;>cases b<;>simp)) 0 (by omega)
  simp only [Int.ofNat_zero,Nat.sub_zero] at this
  unfold Pf
  refine Eq.trans this ?_
  congr 1
  generalize FX v 0 v.length=a
  generalize (decide (1≤(v.length:Int))&&decide ((v.length:Int)≤4))=b
  cases a<;>cases b<;>simp)) 0 (by omega))
end Go.Proofs.YtaedipailemlcaaGreat.Core

namespace Go.Proofs.YtaedipailemlcaaGreat.Core
open Go
set_option linter.unusedVariables false
abbrev fN:Type:=Int×Int×Int×(ByteArray×ByteArray×Int)×List Int
abbrev AA:Type:=Int×Int×Bool×Bool×Bool×Bool×List Int×List (ByteArray×ByteArray×Int)×Int×fN
def Dw (v:List Int) (i:Nat):Nat→Bool
 | 0=>true
 | k+1=>(decide (1≤v.getD i 0)&&decide (v.getD i 0≤6))&&(decide (i=0)||decide (v.getD (i-1) 0<v.getD i 0))&&Dw v (i+1) k
theorem O0 (x:List Int) (h:x.length≤maxLen):CI x=some (Dw x 0 x.length):=ay (by
 have hm:x.length≤9223372036854775807:=h
 unfold S5
 have:=Gz (n:=x.length) (P:=fun i=>Ez x (i:Int)=some (Dw x i (x.length-i))) (Ok (by
  unfold JV
  rw [if_neg (by simp),Nat.sub_self]
  rfl)) (fun i hi ih=>Ok (by
  unfold JV
  have e:x.length-i=(x.length-(i+1))+1:=by omega
  simp only [show ((i:Int)<(x.length:Int)) from by omega,decide_true,if_true,show (0:Int)≤(i:Int) from by omega,Int.toNat_natCast,AR (show i<9223372036854775807 by omega),ih,Ah,Option.bind_some]
  rw [e,Dw]
  generalize (decide (1≤x.getD i 0)&&decide (x.getD i 0≤6))=a
  cases a
  ·simp
  by_cases h0:0<i
  ·rw [SY (by omega) h0]
   simp only [Int.toNat_natCast,show ((0:Int)≤((i-1:Nat):Int)) from by omega,show (((i-1:Nat):Int)<(x.length:Int)) from by omega,if_true]
   rcases Int.lt_or_le (x.getD (i-1) 0) (x.getD i 0) with hb | hb
   ·have d1:decide (x.getD (i-1) 0≥x.getD i 0)=false:=decide_eq_false (by omega)
    have d2:decide (x.getD (i-1) 0<x.getD i 0)=true:=decide_eq_true hb
    simp only [d1,d2]
    simp [h0,show i≠0 by omega]
   ·have d1:decide (x.getD (i-1) 0≥x.getD i 0)=true:=decide_eq_true (by omega)
    have d2:decide (x.getD (i-1) 0<x.getD i 0)=false:=decide_eq_false (by omega)
    simp only [d1,d2]
    simp [h0,show i≠0 by omega]
  ·have:i=0:=by omega
   subst this
   simp)) 0 (by omega)
 simpa using this)
theorem JD (x:List Int) (h:x.length≤maxLen):FB x 1 6=some (Dw x 0 x.length):=Td (by
 have hm:x.length≤9223372036854775807:=h
 unfold Ls
 have:=Gz (n:=x.length) (P:=fun i=>Cb x 1 6 x (x.length:Int) (i:Int)=some (Dw x i (x.length-i))) (I9 (by
  unfold Fd
  rw [if_neg (by simp),Nat.sub_self]
  rfl)) (fun i hi ih=>I9 (by
  unfold Fd
  have e:x.length-i=(x.length-(i+1))+1:=by omega
  simp only [show ((i:Int)<(x.length:Int)) from by omega,decide_true,if_true,show (0:Int)≤(i:Int) from by omega,Int.toNat_natCast,AR (show i<9223372036854775807 by omega),ih,BR,Option.bind_some]
  rw [e,Dw]
  generalize (decide (1≤x.getD i 0)&&decide (x.getD i 0≤6))=a
  cases a
  ·simp
  by_cases h0:0<i
  ·rw [SY (by omega) h0]
   simp only [Int.toNat_natCast,show ((0:Int)≤((i-1:Nat):Int)) from by omega,show (((i-1:Nat):Int)<(x.length:Int)) from by omega,if_true]
   rcases Int.lt_or_le (x.getD (i-1) 0) (x.getD i 0) with hb | hb
   ·have d1:decide (x.getD i 0≤x.getD (i-1) 0)=false:=decide_eq_false (by omega)
    have d2:decide (x.getD (i-1) 0<x.getD i 0)=true:=decide_eq_true hb
    simp only [d1,d2]
    simp [h0,show i≠0 by omega]
   ·have d1:decide (x.getD i 0≤x.getD (i-1) 0)=true:=decide_eq_true (by omega)
    have d2:decide (x.getD (i-1) 0<x.getD i 0)=false:=decide_eq_false (by omega)
    simp only [d1,d2]
    simp [h0,show i≠0 by omega]
  ·have:i=0:=by omega
   subst this
   simp)) 0 (by omega)
 simpa using this)
def Gj (t:fN):Bool:=(t.1==0)&&(t.2.1==0)&&(t.2.2.1==0)&&Nn (.pair .str (.pair .str (.int .i64))) t.2.2.2.1 (ByteArray.empty,ByteArray.empty,(0:Int))&&((t.2.2.2.2.length:Int)==0)
def Dx (t:fN) (serves:Bool):Bool:=(t.1==1||t.1==2)&&serves&&(decide (0≤t.2.1)&&decide (t.2.1≤1000))&&(decide (1≤t.2.2.1)&&decide (t.2.2.1≤900))
def O1 (x:AA):Bool :=
 (decide (1≤x.1)&&decide (x.1≤6))&&(decide (1≤x.2.1)&&decide (x.2.1≤9))&&(!x.2.2.2.2.2.1||(x.2.2.2.1&&x.2.2.2.2.1&&!decide ((x.2.2.2.2.2.2.1.length:Int)>0)))&&(!x.2.2.1||(!x.2.2.2.1&&!x.2.2.2.2.1)) &&
  Dw x.2.2.2.2.2.2.1 0 x.2.2.2.2.2.2.1.length&&Dw x.2.2.2.2.2.2.2.2.2.2.2.2.2 0 x.2.2.2.2.2.2.2.2.2.2.2.2.2.length&&Bf x.2.2.2.2.2.2.2.1 0 x.2.2.2.2.2.2.2.1.length&&(decide (0≤x.2.2.2.2.2.2.2.2.1)&&decide (x.2.2.2.2.2.2.2.2.1≤900)) &&
  (Gj x.2.2.2.2.2.2.2.2.2||Dx x.2.2.2.2.2.2.2.2.2 x.2.2.2.2.2.1)
theorem So (t:fN):JM t=some (Gj t):=Ws (by
 unfold Ol Gj
 generalize (t.1==0)=a
 generalize (t.2.1==0)=b
 generalize (t.2.2.1==0)=c
 generalize Nn (.pair .str (.pair .str (.int .i64))) t.2.2.2.1 (ByteArray.empty,ByteArray.empty,(0:Int))=d
 cases a<;>cases b<;>cases c<;>cases d<;>simp)
theorem Tr (x:AA) (h1:x.2.2.2.2.2.2.1.length≤maxLen) (h2:x.2.2.2.2.2.2.2.1.length≤maxLen) (h3:x.2.2.2.2.2.2.2.2.2.2.2.2.2.length≤maxLen):EC x=some (O1 x):=YK (by
 have w0:∀ b,Ch b x=some (Gj x.2.2.2.2.2.2.2.2.2||Dx x.2.2.2.2.2.2.2.2.2 x.2.2.2.2.2.1):=fun b=>Tc (by
  unfold Lr Dx
  simp only [Ah,So,Option.bind_some]
  generalize Gj x.2.2.2.2.2.2.2.2.2=a
  generalize (x.2.2.2.2.2.2.2.2.2.1==1)=b
  generalize (x.2.2.2.2.2.2.2.2.2.1==2)=c
  generalize x.2.2.2.2.2.1=d
  generalize (decide (0≤x.2.2.2.2.2.2.2.2.2.2.1)&&decide (x.2.2.2.2.2.2.2.2.2.2.1≤1000))=e
  generalize (decide (1≤x.2.2.2.2.2.2.2.2.2.2.2.1)&&decide (x.2.2.2.2.2.2.2.2.2.2.2.1≤900))=f
  cases a<;>cases b<;>cases c<;>cases d<;>cases e<;>simp)
 unfold Qb O1
 simp only [Ah,O0 _ h1,O0 _ h3,F4 _ h2,Option.bind_some,w0]
 generalize (decide (1≤x.1)&&decide (x.1≤6))=a
 generalize (decide (1≤x.2.1)&&decide (x.2.1≤9))=b
 generalize decide ((x.2.2.2.2.2.2.1.length:Int)>0)=c
 generalize Dw x.2.2.2.2.2.2.1 0 x.2.2.2.2.2.2.1.length=d
 generalize Dw x.2.2.2.2.2.2.2.2.2.2.2.2.2 0 x.2.2.2.2.2.2.2.2.2.2.2.2.2.length=e
 generalize Bf x.2.2.2.2.2.2.2.1 0 x.2.2.2.2.2.2.2.1.length=f
 generalize (decide (0≤x.2.2.2.2.2.2.2.2.1)&&decide (x.2.2.2.2.2.2.2.2.1≤900))=g
 generalize (Gj x.2.2.2.2.2.2.2.2.2||Dx x.2.2.2.2.2.2.2.2.2 x.2.2.2.2.2.1)=t
 generalize x.2.2.2.2.2.1=s
 generalize x.2.2.2.2.1=l
 generalize x.2.2.2.1=m
 generalize x.2.2.1=n
 cases a
 ·simp
 cases b
 ·simp
 cases d<;>cases e<;>cases f<;>cases g<;>cases s<;>cases n<;>cases m<;>cases l<;>cases c<;>simp)
theorem O2 (x:AA) (h3:x.2.2.2.2.2.2.2.2.2.2.2.2.2.length≤maxLen):CB x=some (Dw x.2.2.2.2.2.2.2.2.2.2.2.2.2 0 x.2.2.2.2.2.2.2.2.2.2.2.2.2.length&&(Gj x.2.2.2.2.2.2.2.2.2||Dx x.2.2.2.2.2.2.2.2.2 x.2.2.2.2.2.1),x):=Rq (by
 unfold J9 Gj Dx
 simp only [BR,JD _ h3,Option.bind_some]
 by_cases hk:x.2.2.2.2.2.2.2.2.2.1=0
 ·rw [if_pos (by simp [hk])]
  have k1:(x.2.2.2.2.2.2.2.2.2.1==1)=false:=by simp [hk]
  have k2:(x.2.2.2.2.2.2.2.2.2.1==2)=false:=by simp [hk]
  have k0:(x.2.2.2.2.2.2.2.2.2.1==0)=true:=by simp [hk]
  rw [k1,k2,k0]
  have hl:((x.2.2.2.2.2.2.2.2.2.2.2.2.2.length:Int)==0)=true→Dw x.2.2.2.2.2.2.2.2.2.2.2.2.2 0 x.2.2.2.2.2.2.2.2.2.2.2.2.2.length=true:=by
   intro h
   have:x.2.2.2.2.2.2.2.2.2.2.2.2.2.length=0:=by simpa using h
   rw [this]
   rfl
  generalize ((x.2.2.2.2.2.2.2.2.2.2.2.2.2.length:Int)==0)=l at hl
  generalize Dw x.2.2.2.2.2.2.2.2.2.2.2.2.2 0 x.2.2.2.2.2.2.2.2.2.2.2.2.2.length=u at hl
  generalize (x.2.2.2.2.2.2.2.2.2.2.1==0)=b
  generalize (x.2.2.2.2.2.2.2.2.2.2.2.1==0)=c
  generalize Nn (.pair .str (.pair .str (.int .i64))) x.2.2.2.2.2.2.2.2.2.2.2.2.1 (ByteArray.empty,ByteArray.empty,(0:Int))=d
  cases b<;>cases c<;>cases d<;>cases l<;>cases u<;>simp at hl ⊢
 ·rw [if_neg (by simp [hk])]
  have k0:(x.2.2.2.2.2.2.2.2.2.1==0)=false:=by simp [hk]
  have k12:(decide (1≤x.2.2.2.2.2.2.2.2.2.1)&&decide (x.2.2.2.2.2.2.2.2.2.1≤2))=(x.2.2.2.2.2.2.2.2.2.1==1||x.2.2.2.2.2.2.2.2.2.1==2):=by
   rw [Bool.eq_iff_iff]
   simp
   omega
  rw [k12,k0]
  generalize (x.2.2.2.2.2.2.2.2.2.1==1||x.2.2.2.2.2.2.2.2.2.1==2)=k
  generalize Dw x.2.2.2.2.2.2.2.2.2.2.2.2.2 0 x.2.2.2.2.2.2.2.2.2.2.2.2.2.length=u
  generalize (decide (0≤x.2.2.2.2.2.2.2.2.2.2.1)&&decide (x.2.2.2.2.2.2.2.2.2.2.1≤1000))=e
  generalize (decide (1≤x.2.2.2.2.2.2.2.2.2.2.2.1)&&decide (x.2.2.2.2.2.2.2.2.2.2.2.1≤900))=f
  cases k<;>cases u<;>cases e<;>cases f<;>rcases Bool.eq_false_or_eq_true x.2.2.2.2.2.1 with hs | hs<;>simp [hs])
theorem Ts (x:AA) (h1:x.2.2.2.2.2.2.1.length≤maxLen) (h2:x.2.2.2.2.2.2.2.1.length≤maxLen) (h3:x.2.2.2.2.2.2.2.2.2.2.2.2.2.length≤maxLen):FQ x=some (O1 x):=X4 (by
 have w0:∀ b,HO b x=some ((!x.2.2.2.2.2.1||(x.2.2.2.1&&x.2.2.2.2.1&&!decide ((x.2.2.2.2.2.2.1.length:Int)>0)))&&(!x.2.2.1||(!x.2.2.2.1&&!x.2.2.2.2.1))&&(Dw x.2.2.2.2.2.2.2.2.2.2.2.2.2 0 x.2.2.2.2.2.2.2.2.2.2.2.2.2.length&&(Gj x.2.2.2.2.2.2.2.2.2||Dx x.2.2.2.2.2.2.2.2.2 x.2.2.2.2.2.1))):=fun b=>Ta (by
  unfold Lo
  simp only [O2 x h3,Option.bind_some]
  generalize (Dw x.2.2.2.2.2.2.2.2.2.2.2.2.2 0 x.2.2.2.2.2.2.2.2.2.2.2.2.2.length&&(Gj x.2.2.2.2.2.2.2.2.2||Dx x.2.2.2.2.2.2.2.2.2 x.2.2.2.2.2.1))=t
  generalize decide ((x.2.2.2.2.2.2.1.length:Int)>0)=c
  generalize x.2.2.2.2.2.1=s
  generalize x.2.2.2.2.1=l
  generalize x.2.2.2.1=m
  generalize x.2.2.1=n
  cases s<;>cases n<;>cases m<;>cases l<;>cases c<;>simp)
 unfold QN O1
 simp only [BR,Ow,JD _ h1,NU _ h2 NV,Option.bind_some,w0]
 generalize (decide (1≤x.1)&&decide (x.1≤6))=a
 generalize (decide (1≤x.2.1)&&decide (x.2.1≤9))=b
 generalize Dw x.2.2.2.2.2.2.1 0 x.2.2.2.2.2.2.1.length=d
 generalize Dw x.2.2.2.2.2.2.2.2.2.2.2.2.2 0 x.2.2.2.2.2.2.2.2.2.2.2.2.2.length=e
 generalize Bf x.2.2.2.2.2.2.2.1 0 x.2.2.2.2.2.2.2.1.length=f
 generalize (decide (0≤x.2.2.2.2.2.2.2.2.1)&&decide (x.2.2.2.2.2.2.2.2.1≤900))=g
 generalize (Gj x.2.2.2.2.2.2.2.2.2||Dx x.2.2.2.2.2.2.2.2.2 x.2.2.2.2.2.1)=t
 generalize (!x.2.2.2.2.2.1||(x.2.2.2.1&&x.2.2.2.2.1&&!decide ((x.2.2.2.2.2.2.1.length:Int)>0)))=p
 generalize (!x.2.2.1||(!x.2.2.2.1&&!x.2.2.2.2.1))=q
 cases a
 ·simp
 cases b
 ·simp
 cases d<;>cases e<;>cases f<;>cases g<;>cases p<;>cases q<;>simp)
end Go.Proofs.YtaedipailemlcaaGreat.Core

namespace Go.Proofs.YtaedipailemlcaaGreat.Core
open Go
set_option linter.unusedVariables false
abbrev B6:Type:=Int×Int×Int×Int×Int×List (ByteArray×ByteArray×Int)
def Xa (x:B6):Bool :=
 (decide (1≤x.1)&&decide (x.1≤8))&&(decide (1≤x.2.1)&&decide (x.2.1≤6))&&(decide (1≤x.2.2.1)&&decide (x.2.2.1≤6))&&(decide (1≤x.2.2.2.1)&&decide (x.2.2.2.1≤9))&&(decide (0≤x.2.2.2.2.1)&&decide (x.2.2.2.2.1≤1000000000))&&Bf x.2.2.2.2.2 0 x.2.2.2.2.2.length &&
  (if x.1=2∨x.1=3 then true else if x.1=5 then ((x.2.2.2.2.2.length:Int)==1) else ((x.2.2.2.2.2.length:Int)==0))
theorem Ye (x:B6) (h:x.2.2.2.2.2.length≤maxLen):PV x=some (Xa x):=cV (by
 have w1:∀ a b,G_ a b x=some (if b=true then true else if a=5 then ((x.2.2.2.2.2.length:Int)==1) else ((x.2.2.2.2.2.length:Int)==0)):=fun a b=>X5 (by
  unfold QO
  by_cases h1:b=true<;>by_cases h2:a=5<;>simp [h1,h2])
 have w0:∀ b,KR b x=some (if x.1=2∨x.1=3 then true else if x.1=5 then ((x.2.2.2.2.2.length:Int)==1) else ((x.2.2.2.2.2.length:Int)==0)):=fun b=>X6 (by
  unfold QP
  by_cases h1:x.1=2<;>by_cases h2:x.1=3<;>simp [h1,h2,w1])
 unfold Ul Xa
 simp only [Ah,F4 _ h,Option.bind_some,w0]
 generalize (decide (1≤x.1)&&decide (x.1≤8))=a
 generalize (decide (1≤x.2.1)&&decide (x.2.1≤6))=b
 generalize (decide (1≤x.2.2.1)&&decide (x.2.2.1≤6))=c
 generalize (decide (1≤x.2.2.2.1)&&decide (x.2.2.2.1≤9))=d
 generalize (decide (0≤x.2.2.2.2.1)&&decide (x.2.2.2.2.1≤1000000000))=e
 generalize Bf x.2.2.2.2.2 0 x.2.2.2.2.2.length=f
 cases a<;>cases b<;>cases c<;>cases d<;>cases e<;>cases f<;>simp)
end Go.Proofs.YtaedipailemlcaaGreat.Core

namespace Go.Proofs.YtaedipailemlcaaGreat.Core
open Go
set_option linter.unusedVariables false
set_option linter.unusedSimpArgs false
abbrev Dy:Type:=Int×Int×Int×AP
def kc (v:List Int):Prop:=(∀ a∈v,1≤a∧a≤6)∧v.Pairwise (· < ·)
theorem aI {v:List Int}:∀ (m i:Nat),i+m=v.length→(Dw v i m=true↔∀ a (ha:a<v.length),i≤a→(1≤v[a]∧v[a]≤6)∧(a≠0→v.getD (a-1) 0<v[a]))
 | 0,i,h=>by
  simp only [Dw,true_iff]
  intro a ha hi
  omega
 | m+1,i,h=>by
  have hi:i<v.length:=by omega
  rw [Dw,Bool.and_eq_true,Bool.and_eq_true,aI m (i+1) (by omega),AU hi]
  simp only [Bool.or_eq_true,Bool.and_eq_true,decide_eq_true_eq]
  constructor
  ·rintro ⟨⟨h1,h2⟩,h3⟩ a ha hia
   by_cases e:a=i
   ·subst e
    exact ⟨h1,fun h0=>h2.resolve_left h0⟩
   ·exact h3 a ha (by omega)
  ·intro h3
   refine ⟨⟨(h3 i hi (Nat.le_refl _)).1,?_⟩,fun a ha hia=>h3 a ha (by omega)⟩
   by_cases e:i=0
   ·exact .inl e
   ·exact .inr ((h3 i hi (Nat.le_refl _)).2 e)
theorem jp {v:List Int}:Dw v 0 v.length=true↔kc v:=by
 rw [aI _ _ (by omega)]
 constructor
 ·intro h
  refine ⟨fun a ha=>?_,?_⟩
  ·obtain ⟨i,hi,rfl⟩:=List.getElem_of_mem ha
   exact (h i hi (Nat.zero_le _)).1
  ·have st:∀ d a (ha:a+d+1<v.length),v.getD a 0<v.getD (a+d+1) 0:=by
    intro d
    induction d with
    | zero =>
     intro a ha
     have:=(h (a+1) (by omega) (Nat.zero_le _)).2 (by omega)
     rw [AU (show a+0+1<v.length from ha)]
     simpa using this
    | succ d ih =>
     intro a ha
     have h1:=ih a (by omega)
     have h2:=(h (a+(d+1)+1) ha (Nat.zero_le _)).2 (by omega)
     rw [AU ha]
     simp only [Nat.add_sub_cancel] at h2
     have h3:v.getD (a+d+1) 0<v[a+(d+1)+1]:=h2
     omega
   rw [List.pairwise_iff_getElem]
   intro i j hi hj hij
   have:=st (j-i-1) i (by omega)
   rw [show i+(j-i-1)+1=j by omega,AU hi,AU hj] at this
   exact this
 ·rintro ⟨h1,h2⟩ a ha _
  refine ⟨h1 _ (List.getElem_mem ha),fun h0=>?_⟩
  rw [AU (show a-1<v.length by omega)]
  exact (List.pairwise_iff_getElem.1 h2) (a-1) a (by omega) ha (by omega)
theorem fO {v:List Int} (h:kc v):v.length≤6:=by
 have hs:v.Sublist [1,2,3,4,5,6]:=by
  have key:∀ (l:List Int) (n:Nat),n≤6→(∀ a∈l,(6-n:Int)<a∧a≤6)→l.Pairwise (· < ·)→l.length≤n:=by
   intro l
   induction l with
   | nil=>intro n _ _ _; simp
   | cons a l ih =>
    intro n hn hb hp
    have ha:=hb a (by simp)
    have hp2:=List.pairwise_cons.1 hp
    have:=ih ((6-a).toNat) (by omega) (fun b hb'=>⟨by have:=hp2.1 b hb'; omega,(hb b (by simp [hb'])).2⟩) hp2.2
    simp only [List.length_cons]
    omega
  have hl:=key v 6 (by omega) (fun a ha=>by have:=h.1 a ha; omega) h.2
  exact List.Sublist.trans (List.Sublist.refl v) (by
   have:∀ (l:List Int) (s:List Int),s.Pairwise (· < ·)→l.Pairwise (· < ·)→(∀ a∈l,a∈s)→l.Sublist s:=by
    intro l s
    induction s generalizing l with
    | nil =>
     intro _ _ hm
     cases l with
     | nil=>exact List.Sublist.slnil
     | cons a l=>exact absurd (hm a (by simp)) (by simp)
    | cons b s ih =>
     intro hs hl hm
     cases l with
     | nil=>exact List.nil_sublist _
     | cons a l =>
      have hs2:=List.pairwise_cons.1 hs
      have hl2:=List.pairwise_cons.1 hl
      rcases List.mem_cons.1 (hm a (by simp)) with e | e
      ·subst e
       refine (ih l hs2.2 hl2.2 fun c hc=>?_).cons_cons _
       rcases List.mem_cons.1 (hm c (by simp [hc])) with e | e
       ·have:=hl2.1 c hc; omega
       ·exact e
      ·refine (ih (a::l) hs2.2 hl fun c hc=>?_).cons _
       rcases List.mem_cons.1 (hm c hc) with e2 | e2
       ·have h1:=hs2.1 a e
        rcases List.mem_cons.1 hc with e3 | e3
        ·omega
        ·have:=hl2.1 c e3; omega
       ·exact e2
   refine this v [1,2,3,4,5,6] (by decide) h.2 fun a ha=>?_
   have:=h.1 a ha
   have h5:a=1∨a=2∨a=3∨a=4∨a=5∨a=6:=by omega
   rcases h5 with h | h | h | h | h | h<;>simp [h])
 simpa using hs.length_le
structure Gk (m:AA):Prop where
 id:1≤m.1∧m.1≤6
 ep:1≤m.2.1∧m.2.1≤9
 serves:m.2.2.2.2.2.1=true→m.2.2.2.1=true∧m.2.2.2.2.1=true∧m.2.2.2.2.2.2.1=[]
 fell:m.2.2.1=true→m.2.2.2.1=false∧m.2.2.2.2.1=false
 waits:kc m.2.2.2.2.2.2.1
 left:kc m.2.2.2.2.2.2.2.2.2.2.2.2.2
 items:As m.2.2.2.2.2.2.2.1=true
 count:0≤m.2.2.2.2.2.2.2.2.1∧m.2.2.2.2.2.2.2.2.1≤900
 task:Gj m.2.2.2.2.2.2.2.2.2=true∨Dx m.2.2.2.2.2.2.2.2.2 m.2.2.2.2.2.1=true
theorem fP {m:AA}:O1 m=true↔Gk m:=by
 unfold O1
 simp only [Bool.and_eq_true,Bool.or_eq_true,Bool.not_eq_true',decide_eq_true_eq,jp,decide_eq_false_iff_not]
 constructor
 ·rintro ⟨⟨⟨⟨⟨⟨⟨⟨h1,h2⟩,h3⟩,h4⟩,h5⟩,h6⟩,h7⟩,h8⟩,h9⟩
  refine ⟨h1,h2,fun h=>?_,fun h=>?_,h5,h6,h7,h8,h9⟩
  ·rcases h3 with h3 | ⟨⟨a,b⟩,c⟩
   ·rw [h] at h3; cases h3
   ·exact ⟨a,b,List.length_eq_zero_iff.1 (by omega)⟩
  ·rcases h4 with h4 | h4
   ·rw [h] at h4; cases h4
   ·exact h4
 ·rintro ⟨h1,h2,h3,h4,h5,h6,h7,h8,h9⟩
  refine ⟨⟨⟨⟨⟨⟨⟨⟨h1,h2⟩,?_⟩,?_⟩,h5⟩,h6⟩,h7⟩,h8⟩,h9⟩
  ·cases hs:m.2.2.2.2.2.1 with
   | false=>exact .inl rfl
   | true =>
    obtain ⟨a,b,c⟩:=h3 hs
    exact .inr ⟨⟨a,b⟩,by rw [c]; simp⟩
  ·cases hs:m.2.2.1 with
   | false=>exact .inl rfl
   | true=>exact .inr (h4 hs)
theorem Sa {x:List AP} (h:As x=true):x.length≤12:=(GH.1 h).2.2
theorem Gk.lens {m:AA} (h:Gk m):m.2.2.2.2.2.2.1.length≤6∧m.2.2.2.2.2.2.2.1.length≤12∧m.2.2.2.2.2.2.2.2.2.2.2.2.2.length≤6:=⟨fO h.waits,Sa h.items,fO h.left⟩
theorem Vc (m:AA) (h1:m.2.2.2.2.2.2.1.length≤68719476736) (h2:m.2.2.2.2.2.2.2.1.length≤68719476736) (h3:m.2.2.2.2.2.2.2.2.2.2.2.2.2.length≤68719476736):CK m=some m:=Zu (by
 unfold Rj
 rw [if_pos (by simpa using h1),if_pos (by simpa using h2),if_pos (by simpa using h3)]
 rfl)
theorem Gk.copy {m:AA} (h:Gk m):CK m=some m:=by
 obtain ⟨h1,h2,h3⟩:=h.lens
 exact Vc m (by omega) (by omega) (by omega)
def Dz (view:List Int) (id:Int):List Int:=[1,2,3,4,5,6].filter fun v=>v != id&&view.contains v
theorem Pg (view:List Int) (id:Int):kc (Dz view id):=by
 refine ⟨fun a ha=>?_,List.Pairwise.filter _ (by decide)⟩
 have:=(List.mem_filter.1 ha).1
 simp at this
 omega
theorem Gl (view:List Int) (id:Int) (h:view.length≤maxLen):Ew view id=some (Dz view id):=Wn (by
 unfold Oi
 have step:∀ (v:Nat) (acc r:List Int),v≤6→1≤v→acc.length≤6→Bh view id ((v+1:Nat):Int) (if ((v:Int) != id&&view.contains (v:Int))=true then acc++[(v:Int)] else acc)=some r→Bh view id (v:Int) acc=some r:=by
  intro v acc r hv hv1 ha hr
  refine Kn ?_
  unfold Gg
  rw [if_pos (by simp; omega),AR (show v<9223372036854775807 by omega),B5 view _ h]
  by_cases h1:((v:Int) != id)=true
  ·rw [if_pos h1,Option.bind_some]
   by_cases h2:view.contains (v:Int)=true
   ·rw [if_pos h2,if_pos (by simp; omega)]
    rw [if_pos (by rw [h1,h2]; rfl)] at hr
    exact hr
   ·rw [if_neg h2]
    rw [if_neg (fun hc=>h2 (by simp only [Bool.and_eq_true] at hc; exact hc.2))] at hr
    exact hr
  ·rw [if_neg h1]
   rw [if_neg (fun hc=>h1 (by simp only [Bool.and_eq_true] at hc; exact hc.1))] at hr
   exact hr
 have fin:∀ acc,Bh view id ((7:Nat):Int) acc=some acc:=fun acc=>Kn (by
  unfold Gg
  rw [if_neg (by decide)])
 have g:∀ (acc:List Int) (v:Int),(if (v != id&&view.contains v)=true then acc++[v] else acc).length≤acc.length+1:=by
  intro acc v; split<;>simp
 refine step 1 [] _ (by omega) (by omega) (by simp) ?_
 refine step 2 _ _ (by omega) (by omega) (by have:=g [] ((1:Nat):Int); simp only [List.length_nil] at this; omega) ?_
 have l2:=g [] ((1:Nat):Int)
 generalize e1:(if (((1:Nat):Int) != id&&view.contains ((1:Nat):Int))=true then ([]:List Int)++[((1:Nat):Int)] else [])=a1 at l2 ⊢
 have l3:=g a1 ((2:Nat):Int)
 generalize e2:(if (((2:Nat):Int) != id&&view.contains ((2:Nat):Int))=true then a1++[((2:Nat):Int)] else a1)=a2 at l3 ⊢
 have l4:=g a2 ((3:Nat):Int)
 simp only [List.length_nil] at l2
 refine step 3 _ _ (by omega) (by omega) (by omega) ?_
 generalize e3:(if (((3:Nat):Int) != id&&view.contains ((3:Nat):Int))=true then a2++[((3:Nat):Int)] else a2)=a3 at l4 ⊢
 have l5:=g a3 ((4:Nat):Int)
 refine step 4 _ _ (by omega) (by omega) (by omega) ?_
 generalize e4:(if (((4:Nat):Int) != id&&view.contains ((4:Nat):Int))=true then a3++[((4:Nat):Int)] else a3)=a4 at l5 ⊢
 have l6:=g a4 ((5:Nat):Int)
 refine step 5 _ _ (by omega) (by omega) (by omega) ?_
 generalize e5:(if (((5:Nat):Int) != id&&view.contains ((5:Nat):Int))=true then a4++[((5:Nat):Int)] else a4)=a5 at l6 ⊢
 refine step 6 _ _ (by omega) (by omega) (by omega) ?_
 rw [fin]
 congr 1
 unfold Dz
 have fl:∀ (p:Int→Bool) (v:Int) (l:List Int),(v::l).filter p=(if p v=true then [v] else [])++l.filter p:=by
  intro p v l; rw [List.filter_cons]; split<;>simp
 have ap:∀ (c:Bool) (a:List Int) (v:Int),(if c=true then a++[v] else a)=a++(if c=true then [v] else []):=by
  intro c a v; split<;>simp
 rw [ap,← e5,ap,← e4,ap,← e3,ap,← e2,ap,← e1,ap]
 simp only [fl,List.filter_nil,List.append_nil,List.nil_append,List.append_assoc]
 rfl)
theorem aJ {v:List Int} (h:kc v) (p:Int→Bool):kc (v.filter p):=⟨fun a ha=>h.1 a (List.mem_filter.1 ha).1,h.2.filter p⟩
theorem KE (v:List Int) (x:Int) (h:v.length≤68719476736):Fn v x=some (v.filter (· != x)):=U8 (by
 unfold NL
 have key:=Gz (n:=v.length) (P:=fun i=>∀ acc:List Int,acc.length≤i→C2 v x (i:Int) acc=some (acc++(v.drop i).filter (· != x))) (fun acc ha=>KA (by
  unfold GE
  rw [if_neg (by simp)]
  simp)) (fun i hi ih acc ha=>KA (by
  unfold GE
  simp only [show ((i:Int)<(v.length:Int)) from by omega,decide_true,if_true,show (0:Int)≤(i:Int) from by omega,Int.toNat_natCast,AU hi,AR (show i<9223372036854775807 by omega)]
  rw [Bm hi,List.filter_cons]
  by_cases hh:(v[i] != x)=true
  ·rw [if_pos hh,if_pos (by simp; omega),ih _ (by simp; omega),if_pos hh,List.append_assoc]
   rfl
  ·rw [if_neg hh,ih _ (by omega),if_neg hh])) 0 (by omega) [] (by simp)
 simpa using key)
end Go.Proofs.YtaedipailemlcaaGreat.Core

namespace Go.Proofs.YtaedipailemlcaaGreat.Core
open Go
set_option linter.unusedVariables false
set_option linter.unusedSimpArgs false
def CP (view:List Int) (id:Int):List Int:=view.filter (· != id)
def Vd (m:AA) (view:List Int) (its:List AP):AA :=
 (m.1,m.2.1,m.2.2.1,true,m.2.2.2.2.1,(((Dz view m.1).length:Int)==0),Dz view m.1,its,m.2.2.2.2.2.2.2.2)
def SC (m:AA) (e:Int):AA :=
 (m.1,e,false,false,false,false,([]:List Int),m.2.2.2.2.2.2.2.1,(0:Int),(0:Int),(0:Int),(0:Int),(ByteArray.empty,ByteArray.empty,(0:Int)),([]:List Int))
def D9 (m:AA) (x:B6) (k:Int):List B6:=[(k,m.1,x.2.1,x.2.2.2.1,x.2.2.2.2.1,([]:List AP))]
def LH (m:AA) (its:List AP):AA :=
 (m.1,m.2.1,m.2.2.1,m.2.2.2.1,m.2.2.2.2.1,m.2.2.2.2.2.1,m.2.2.2.2.2.2.1,its,m.2.2.2.2.2.2.2.2.1,(0:Int),(0:Int),(0:Int),(ByteArray.empty,ByteArray.empty,(0:Int)),([]:List Int))
def DS (m:AA):List Dy×AA :=
 if (m.2.2.2.2.2.2.2.2.2.1==1)=true then ([(m.2.2.2.2.2.2.2.2.2.2.1,m.2.1,m.2.2.2.2.2.2.2.2.2.2.2.1,m.2.2.2.2.2.2.2.2.2.2.2.2.1)],LH m (By m.2.2.2.2.2.2.2.1 m.2.2.2.2.2.2.2.2.2.2.2.2.1))
 else ([(m.2.2.2.2.2.2.2.2.2.2.1,m.2.1,m.2.2.2.2.2.2.2.2.2.2.2.1,B2 m.2.2.2.2.2.2.2.1 m.2.2.2.2.2.2.2.2.2.2.2.2.1.1)],LH m m.2.2.2.2.2.2.2.1)
theorem O3 (view:List Int) (its:List AP) (m:AA) (h:view.length≤68719476736) (hi:its.length≤68719476736) :
  Jl view its m=some ((CP view m.1).map (fun v=>(3,m.1,v,m.2.1,0,its)),Vd m view its):=az (by
 unfold S6
 rw [if_pos (by simpa using hi),Gl view _ (by unfold maxLen; omega),Option.bind_some]
 have key:=Gz (n:=view.length) (P:=fun i=>∀ acc:List B6,acc.length≤i→E0 view its (i:Int) (Vd m view its) acc ([]++its)=some (acc++((view.drop i).filter (· != m.1)).map (fun v=>((3:Int),m.1,v,m.2.1,(0:Int),its)),Vd m view its)) (fun acc ha=>Om (by
  unfold JW
  rw [if_neg (by simp)]
  simp)) (fun i hi2 ih acc ha=>Om (by
  unfold JW
  simp only [show ((i:Int)<(view.length:Int)) from by omega,decide_true,if_true,show (0:Int)≤(i:Int) from by omega,Int.toNat_natCast,AU hi2,AR (show i<9223372036854775807 by omega)]
  rw [show (Vd m view its).1=m.1 from rfl,show (Vd m view its).2.1=m.2.1 from rfl,Bm hi2,List.filter_cons]
  by_cases hh:(view[i] != m.1)=true
  ·rw [if_pos hh,if_pos (by simpa using hi),if_pos (by simp; omega),ih _ (by simp; omega),if_pos hh,List.map_cons,List.append_assoc]
   rfl
  ·rw [if_neg hh,ih _ (by omega),if_neg hh])) 0 (by omega) [] (by simp)
 exact key)
theorem NX (m:AA) (e:Int) (h:m.2.2.2.2.2.2.2.1.length≤68719476736):IT m e=some (SC m e):=Zy (by
 unfold Rl
 rw [if_pos (by simpa using h)]
 rfl)
theorem FN (m:AA) (x:B6) (k:Int):C_ m x k=some (D9 m x k):=YN rfl
theorem Gm (m:AA) (h:m.2.2.2.2.2.2.2.1.length≤34359738367):Ex m=some (DS m):=Wo (by
 unfold Oj DS
 rw [Ix _ _ h,Ov _ _ (by unfold maxLen; omega)]
 split<;>rfl)
def dp (m:AA) (f:Int):AA :=
 (m.1,m.2.1,m.2.2.1,m.2.2.2.1,m.2.2.2.2.1,m.2.2.2.2.2.1,m.2.2.2.2.2.2.1,m.2.2.2.2.2.2.2.1,m.2.2.2.2.2.2.2.2.1,m.2.2.2.2.2.2.2.2.2.1,m.2.2.2.2.2.2.2.2.2.2.1,m.2.2.2.2.2.2.2.2.2.2.2.1,m.2.2.2.2.2.2.2.2.2.2.2.2.1,m.2.2.2.2.2.2.2.2.2.2.2.2.2.filter (· != f))
def LE (m:AA) (f:Int):AA×List B6×List Dy :=
 if (((m.2.2.2.2.2.2.2.2.2.2.2.2.2.filter (· != f)).length:Int)==0)=true then ((DS (dp m f)).2,[],(DS (dp m f)).1) else (dp m f,[],[])
def dq (m:AA) (view:List Int) (x:B6):AA×List B6×List Dy :=
 if x.1=2 then (if (m.2.2.2.2.1&&!m.2.2.2.1)=true then (Vd m view x.2.2.2.2.2,(CP view m.1).map (fun v=>(3,m.1,v,m.2.1,0,x.2.2.2.2.2)),[]) else (m,[],[]))
 else if x.1=3 then (if (!view.contains m.1||(view.getD 0 0==m.1))=true then (m,[],[]) else if (!m.2.2.2.1&&m.2.2.1)=true then (m,[],[])
  else if m.2.2.2.1=true then (m,D9 m x 4,[]) else
   ((m.1,m.2.1,false,true,false,false,([]:List Int),x.2.2.2.2.2,(0:Int),(0:Int),(0:Int),(0:Int),(ByteArray.empty,ByteArray.empty,(0:Int)),([]:List Int)),D9 m x 4,[]))
 else if x.1=4 then (if m.2.2.2.2.1=true then
   ((m.1,m.2.1,m.2.2.1,m.2.2.2.1,m.2.2.2.2.1,m.2.2.2.1&&(((m.2.2.2.2.2.2.1.filter (· != x.2.1)).length:Int)==0),m.2.2.2.2.2.2.1.filter (· != x.2.1),m.2.2.2.2.2.2.2),[],[]) else (m,[],[]))
 else if x.1=5 then (if m.2.2.2.1=true then
   ((m.1,m.2.1,m.2.2.1,m.2.2.2.1,m.2.2.2.2.1,m.2.2.2.2.2.1,m.2.2.2.2.2.2.1,By m.2.2.2.2.2.2.2.1 (x.2.2.2.2.2.getD 0 (ByteArray.empty,ByteArray.empty,(0:Int))),m.2.2.2.2.2.2.2.2),D9 m x 6,[]) else (m,[],[]))
 else if x.1=7 then (if m.2.2.2.1=true then (m,D9 m x 8,[]) else (m,[],[]))
 else if (x.1=6∨x.1=8)∧m.2.2.2.2.2.2.2.2.2.1=(if x.1=8 then 2 else 1)∧m.2.2.2.2.2.2.2.2.2.2.2.1=x.2.2.2.2.1 then
  (LE m x.2.1)
 else (m,[],[])
theorem W9 (m:AA) (view:List Int) (x:B6) (hm:Gk m) (hv:view.length≤68719476736) (hv0:0<view.length) (hx:x.2.2.2.2.2.length≤68719476736) (h5:x.1=5→0<x.2.2.2.2.2.length) :
  Nd m view x=some (dq m view x):=ar (by
 obtain ⟨l1,l2,l3⟩:=hm.lens
 unfold S0
 rw [hm.copy,Option.bind_some]
 unfold dq
 by_cases k2:x.1=2
 ·rw [if_pos (by simpa using k2),if_pos k2]
  have J:∀ b y,GV view [] [] b m x y m=some (if b=true then (Vd m view x.2.2.2.2.2,(CP view m.1).map (fun v=>(3,m.1,v,m.2.1,0,x.2.2.2.2.2)),[]) else (m,[],[])):=fun b y=>WV (by
   unfold OW
   cases b
   ·rfl
   ·rw [if_pos rfl,O3 view _ m hv hx]
    rfl)
  rw [J,J]
  cases m.2.2.2.2.1<;>cases m.2.2.2.1<;>rfl
 ·rw [if_neg (by simpa using k2),if_neg k2]
  by_cases k3:x.1=3
  ·rw [if_pos (by simpa using k3),if_pos k3,B5 view _ (by unfold maxLen; omega),Option.bind_some]
   have J2:∀ b y,GW [] [] b m x y m=some (if m.2.2.2.1=true then (m,D9 m x 4,[]) else
     ((m.1,m.2.1,false,true,false,false,([]:List Int),x.2.2.2.2.2,(0:Int),(0:Int),(0:Int),(0:Int),(ByteArray.empty,ByteArray.empty,(0:Int)),([]:List Int)),D9 m x 4,[])):=fun b y=>WW (by
    unfold OX
    rw [NX m _ (by omega),FN,Option.bind_some,Option.bind_some]
    have hx':([]:List AP).length+x.2.2.2.2.2.length≤68719476736:=by simpa using hx
    cases m.2.2.2.1
    ·rw [if_pos (show (!false)=true from rfl),if_pos hx']; rfl
    ·rfl)
   have J1:∀ b y,JR [] [] b m x y m=some (if (!m.2.2.2.1&&m.2.2.1)=true then (m,[],[]) else if m.2.2.2.1=true then (m,D9 m x 4,[]) else
     ((m.1,m.2.1,false,true,false,false,([]:List Int),x.2.2.2.2.2,(0:Int),(0:Int),(0:Int),(0:Int),(ByteArray.empty,ByteArray.empty,(0:Int)),([]:List Int)),D9 m x 4,[])):=fun b y=>WX (by
    unfold OY
    rw [J2,J2]
    cases m.2.2.2.1<;>cases m.2.2.1<;>rfl)
   rw [show view.getD (0:Int).toNat 0=view.getD 0 0 from rfl]
   cases view.contains m.1
   ·rfl
   ·rw [if_neg (by simp),if_pos (by omega),if_pos (by omega),J1]
    cases (view.getD 0 0==m.1)<;>rfl
  ·rw [if_neg (by simpa using k3),if_neg k3]
   by_cases k4:x.1=4
   ·rw [if_pos (by simpa using k4),if_pos k4,KE _ _ (by omega),Option.bind_some]
    cases m.2.2.2.2.1<;>cases m.2.2.2.1<;>rfl
   ·rw [if_neg (by simpa using k4),if_neg k4]
    by_cases k5:x.1=5
    ·have:=h5 k5
     rw [if_pos (by simpa using k5),if_pos k5,Ix _ _ (by omega),Option.bind_some,FN,Option.bind_some,show x.2.2.2.2.2.getD (0:Int).toNat (ByteArray.empty,ByteArray.empty,(0:Int))=x.2.2.2.2.2.getD 0 (ByteArray.empty,ByteArray.empty,(0:Int)) from rfl]
     cases m.2.2.2.1
     ·rfl
     ·rw [if_pos rfl,if_pos rfl,if_pos (by omega),if_pos (by omega)]
    ·rw [if_neg (by simpa using k5),if_neg k5]
     by_cases k7:x.1=7
     ·rw [if_pos (by simpa using k7),if_pos k7,FN,Option.bind_some]
      cases m.2.2.2.1<;>rfl
     ·rw [if_neg (by simpa using k7),if_neg k7]
      have J5:∀ b y,JS [] [] b m x y m=some (LE m x.2.1):=fun b y=>WY (by
       unfold OZ
       rw [KE _ _ (by omega),Option.bind_some,Gm _ (by simp only; omega),Option.bind_some]
       unfold LE
       split<;>rfl)
      have J4:∀ op y,GX [] [] op m x y m=some (if m.2.2.2.2.2.2.2.2.2.1=op∧m.2.2.2.2.2.2.2.2.2.2.2.1=x.2.2.2.2.1 then (LE m x.2.1) else (m,[],[])):=fun op y=>WZ (by
       unfold Oa
       rw [J5]
       by_cases h1:m.2.2.2.2.2.2.2.2.2.1=op
       ·rw [if_pos (by simp [h1])]
        by_cases h2:m.2.2.2.2.2.2.2.2.2.2.2.1=x.2.2.2.2.1
        ·rw [if_neg (by simp [h2]),if_pos (show _∧_ from ⟨h1,h2⟩)]
        ·rw [if_pos (by simp [h2]),if_neg (show ¬(_∧_) from fun h=>h2 h.2)]
       ·rw [if_neg (by simp [h1]),if_neg (fun h=>h1 h.1)])
      have J3:∀ b y,GY [] [] b m x y m=some (if b=true∧m.2.2.2.2.2.2.2.2.2.1=(if x.1=8 then 2 else 1)∧m.2.2.2.2.2.2.2.2.2.2.2.1=x.2.2.2.2.1 then (LE m x.2.1) else (m,[],[])):=fun b y=>Wa (by
       unfold Ob
       rw [J4,J4]
       cases b
       ·rw [if_neg (by simp),if_neg (by simp)]
       ·rw [if_pos rfl]
        by_cases k8:x.1=8
        ·simp only [k8,beq_self_eq_true,if_true,true_and]
        ·rw [if_neg (by simpa using k8)]
         simp only [k8,if_false,true_and])
      rw [J3,J3]
      by_cases k6:x.1=6
      ·simp only [k6,beq_self_eq_true,if_true,true_and,true_or]
      ·rw [if_neg (by simpa using k6)]
       simp only [k6,false_or,beq_iff_eq])
structure S8 (views:List (List Int)):Prop where
 ok:Dk views views.length views=true
theorem G0 {n:Nat}:∀ {l:List (List Int)} {x:List (List Int)},Dk x n l=true↔(∀ v∈l,Pf v=true)∧1≤n∧n≤9
 | [],x=>by simp [Dk]; omega
 | v::l,x=>by
  rw [Dk,Bool.and_eq_true,G0]
  simp [and_assoc]
theorem S8.len {views:List (List Int)} (h:S8 views):1≤views.length∧views.length≤9:=(G0.1 h.ok).2
theorem S8.view {views:List (List Int)} (h:S8 views) {v:List Int} (hv:v∈views):1≤v.length∧v.length≤4:=by
 have:=(G0.1 h.ok).1 v hv
 unfold Pf at this
 simp only [Bool.and_eq_true,decide_eq_true_eq] at this
 omega
theorem S8.get {views:List (List Int)} (h:S8 views) {i:Nat} (hi:i<views.length):1≤(views.getD i []).length∧(views.getD i []).length≤4:=by
 rw [AU hi]
 exact h.view (List.getElem_mem hi)
theorem EY {views:List (List Int)} (h:S8 views):C1 views=some true:=by
 rw [Va views (by have:=h.len; unfold maxLen; omega) (fun a ha=>by have:=h.view ha; unfold maxLen; omega),h.ok]
theorem HW {m:AA} (h:Gk m):EC m=some true:=by
 obtain ⟨h1,h2,h3⟩:=h.lens
 rw [Tr m (by unfold maxLen; omega) (by unfold maxLen; omega) (by unfold maxLen; omega),fP.2 h]
def O4 (m:AA) (views:List (List Int)) (x:B6):AA×List B6×List Dy :=
 if (Xa x&&(x.2.2.1==m.1)&&decide (m.2.1≤x.2.2.2.1)&&decide (x.2.2.2.1≤(views.length:Int)))=true then
  if x.2.2.2.1=m.2.1 then dq m (views.getD (m.2.1-1).toNat []) x
  else if (x.1==1&&(x.2.2.2.1==m.2.1+1)&&m.2.2.2.1&&(views.getD (m.2.1-1).toNat []).contains m.1)=true then (SC m x.2.2.2.1,[(2,m.1,x.2.1,x.2.2.2.1,0,m.2.2.2.2.2.2.2.1)],[])
  else if (x.1==3&&(views.getD (x.2.2.2.1-1).toNat []).contains m.1&&((views.getD (x.2.2.2.1-1).toNat []).getD 0 0 != m.1))=true then
   ((m.1,x.2.2.2.1,false,true,false,false,([]:List Int),x.2.2.2.2.2,(0:Int),(0:Int),(0:Int),(0:Int),(ByteArray.empty,ByteArray.empty,(0:Int)),([]:List Int)),D9 m x 4,[])
  else (m,[],[])
 else (m,[],[])
theorem jq {x:B6} (h:Xa x=true):x.2.2.2.2.2.length≤12∧(x.1=5→x.2.2.2.2.2.length=1):=by
 unfold Xa at h
 simp only [Bool.and_eq_true] at h
 refine ⟨Sa (x:=x.2.2.2.2.2) h.1.2,fun h5=>?_⟩
 have:=h.2
 rw [if_neg (by omega),if_pos h5] at this
 simp only [beq_iff_eq] at this
 omega
theorem Ve (m:AA) (views:List (List Int)) (x:B6) (hm:Gk m) (hv:S8 views) (hx:x.2.2.2.2.2.length≤68719476736) :
  Lb m views x=some (O4 m views x):=Zo (by
 have hvl:=hv.len
 have hep:=hm.ep
 unfold Rb O4
 rw [hm.copy,Option.bind_some,HW hm,Option.bind_some,if_pos (by rfl),EY hv,Option.bind_some,if_pos (by rfl),Ye x (by unfold maxLen; omega),Option.bind_some]
 cases hmo:Xa x with
 | false=>rfl
 | true =>
  obtain ⟨xl,x5⟩:=jq hmo
  rw [if_pos (by rfl)]
  by_cases h1:x.2.2.1=m.1
  ·rw [if_pos (by simp [h1])]
   by_cases h2:x.2.2.2.1<m.2.1
   ·rw [if_neg (by simpa using h2),if_neg (by simp; omega)]
   ·rw [if_pos (by simpa using h2)]
    by_cases h3:x.2.2.2.1>(views.length:Int)
    ·rw [if_neg (by simpa using h3),if_neg (by simp; omega)]
    ·rw [if_pos (by simpa using h3),if_neg (by simp; omega),if_pos (by simp [h1]; omega)]
     have wm:IntKind.i64.wrap (m.2.1-1)=m.2.1-1:=AY (by omega)
     have wp:IntKind.i64.wrap (m.2.1+1)=m.2.1+1:=AY (by omega)
     have wx:IntKind.i64.wrap (x.2.2.2.1-1)=x.2.2.2.1-1:=AY (by omega)
     have g1:=hv.get (i:=(m.2.1-1).toNat) (by omega)
     have g2:=hv.get (i:=(x.2.2.2.1-1).toNat) (by omega)
     have J3:∀ b y,EN [] [] b m x y m=some (if b=true then ((m.1,x.2.2.2.1,false,true,false,false,([]:List Int),x.2.2.2.2.2,(0:Int),(0:Int),(0:Int),(0:Int),(ByteArray.empty,ByteArray.empty,(0:Int)),([]:List Int)),D9 m x 4,[]) else (m,[],[])):=fun b y=>Uh (by
      unfold M1
      cases b
      ·rfl
      ·rw [if_pos rfl,if_pos (by simpa using hx),FN]
       rfl)
     have J2:∀ b y,IZ views [] [] b m x y m=some (if (x.1==3&&(views.getD (x.2.2.2.1-1).toNat []).contains m.1&&((views.getD (x.2.2.2.1-1).toNat []).getD 0 0 != m.1))=true then
       ((m.1,x.2.2.2.1,false,true,false,false,([]:List Int),x.2.2.2.2.2,(0:Int),(0:Int),(0:Int),(0:Int),(ByteArray.empty,ByteArray.empty,(0:Int)),([]:List Int)),D9 m x 4,[]) else (m,[],[])):=fun b y=>Ui (by
      unfold M2
      rw [wx,if_pos (by omega),if_pos (by omega),B5 _ _ (by unfold maxLen; omega),Option.bind_some,show (views.getD (x.2.2.2.1-1).toNat ([]:List Int)).getD (0:Int).toNat 0=(views.getD (x.2.2.2.1-1).toNat []).getD 0 0 from rfl]
      simp only [J3]
      rw [if_pos (show (0:Int)≤0 by omega),if_pos (show (0:Int)<((views.getD (x.2.2.2.1-1).toNat ([]:List Int)).length:Int) by omega)]
      cases (x.1==3)<;>cases (views.getD (x.2.2.2.1-1).toNat ([]:List Int)).contains m.1<;>rfl)
     have J1:∀ b y,C5 views [] [] b m x y m=some (if b=true then (SC m x.2.2.2.1,[(2,m.1,x.2.1,x.2.2.2.1,0,m.2.2.2.2.2.2.2.1)],[]) else
       if (x.1==3&&(views.getD (x.2.2.2.1-1).toNat []).contains m.1&&((views.getD (x.2.2.2.1-1).toNat []).getD 0 0 != m.1))=true then
       ((m.1,x.2.2.2.1,false,true,false,false,([]:List Int),x.2.2.2.2.2,(0:Int),(0:Int),(0:Int),(0:Int),(ByteArray.empty,ByteArray.empty,(0:Int)),([]:List Int)),D9 m x 4,[]) else (m,[],[])):=fun b y=>Uj (by
      unfold M3
      have hl:([]:List AP).length+m.2.2.2.2.2.2.2.1.length≤68719476736:=by have:=hm.lens; simp; omega
      rw [J2,NX m _ (by have:=hm.lens; omega),Option.bind_some,if_pos hl]
      cases b<;>rfl)
     refine Uk ?_
     unfold M4
     rw [wm,wp]
     by_cases h4:x.2.2.2.1=m.2.1
     ·rw [if_pos (by simpa using h4),if_pos (by omega),if_pos (by omega),if_pos h4,W9 m _ x hm (by omega) (by omega) hx (fun h=>by have:=x5 h; omega)]
      rfl
     ·rw [if_neg (by simpa using h4),if_neg h4,B5 _ _ (by unfold maxLen; omega),Option.bind_some]
      simp only [J1]
      rw [if_pos (show (0:Int)≤m.2.1-1 by omega),if_pos (show m.2.1-1<(views.length:Int) by omega)]
      cases (x.1==1)<;>cases (x.2.2.2.1==m.2.1+1)<;>cases m.2.2.2.1<;>cases (views.getD (m.2.1-1).toNat ([]:List Int)).contains m.1<;>rfl
  ·rw [if_neg (by simp [h1]),if_neg (by simp [h1])])
end Go.Proofs.YtaedipailemlcaaGreat.Core

namespace Go.Proofs.YtaedipailemlcaaGreat.Core
open Go
set_option linter.unusedVariables false
set_option linter.unusedSimpArgs false
theorem S9 {v:List Int}:∀ (m i:Nat),i+m=v.length→(FX v i m=true↔∀ a (ha:a<v.length),i≤a→(1≤v[a]∧v[a]≤6)∧v[a]∉v.take a)
 | 0,i,h=>by
  simp only [FX,true_iff]
  intro a ha hi
  omega
 | m+1,i,h=>by
  have hi:i<v.length:=by omega
  rw [FX,Bool.and_eq_true,Bool.and_eq_true,S9 m (i+1) (by omega),AU hi]
  simp only [Bool.and_eq_true,decide_eq_true_eq,Bool.not_eq_true',List.contains_eq_mem,decide_eq_false_iff_not]
  constructor
  ·rintro ⟨⟨h1,h2⟩,h3⟩ a ha hia
   by_cases e:a=i
   ·subst e
    exact ⟨h1,h2⟩
   ·exact h3 a ha (by omega)
  ·intro h3
   exact ⟨⟨(h3 i hi (Nat.le_refl _)).1,(h3 i hi (Nat.le_refl _)).2⟩,fun a ha hia=>h3 a ha (by omega)⟩
structure iu (v:List Int):Prop where
 len:1≤v.length∧v.length≤4
 mem:∀ a∈v,1≤a∧a≤6
 nd:v.Nodup
theorem fQ {v:List Int}:Pf v=true↔iu v:=by
 unfold Pf
 simp only [Bool.and_eq_true,decide_eq_true_eq]
 rw [S9 _ _ (by omega)]
 constructor
 ·rintro ⟨h1,h2⟩
  refine ⟨by omega,fun a ha=>?_,?_⟩
  ·obtain ⟨i,hi,rfl⟩:=List.getElem_of_mem ha
   exact (h2 i hi (Nat.zero_le _)).1
  ·rw [List.nodup_iff_pairwise_ne,List.pairwise_iff_getElem]
   intro i j hi hj hij e
   have:=(h2 j hj (Nat.zero_le _)).2
   apply this
   rw [← e]
   exact List.mem_iff_getElem.2 ⟨i,by rw [List.length_take]; omega,by rw [List.getElem_take]⟩
 ·rintro ⟨h1,h2,h3⟩
  refine ⟨by omega,fun a ha _=>⟨h2 _ (List.getElem_mem ha),fun hm=>?_⟩⟩
  obtain ⟨i,hi,e⟩:=List.getElem_of_mem hm
  rw [List.length_take] at hi
  rw [List.getElem_take] at e
  have:=(List.getElem_inj h3).1 e
  omega
theorem S8.wok {views:List (List Int)} (h:S8 views) {i:Nat} (hi:i<views.length):iu (views.getD i []):=by
 rw [AU hi]
 exact fQ.1 ((G0.1 h.ok).1 _ (List.getElem_mem hi))
structure j1 (x:B6):Prop where
 kind:1≤x.1∧x.1≤8
 frm:1≤x.2.1∧x.2.1≤6
 to:1≤x.2.2.1∧x.2.2.1≤6
 ep:1≤x.2.2.2.1∧x.2.2.2.1≤9
 num:0≤x.2.2.2.2.1∧x.2.2.2.2.1≤1000000000
 items:As x.2.2.2.2.2=true
 shape:if x.1=2∨x.1=3 then True else if x.1=5 then x.2.2.2.2.2.length=1 else x.2.2.2.2.2=[]
theorem fR {x:B6}:Xa x=true↔j1 x:=by
 unfold Xa
 simp only [Bool.and_eq_true,decide_eq_true_eq]
 constructor
 ·rintro ⟨⟨⟨⟨⟨⟨h1,h2⟩,h3⟩,h4⟩,h5⟩,h6⟩,h7⟩
  refine ⟨h1,h2,h3,h4,h5,h6,?_⟩
  split at h7
  ·rename_i e; rw [if_pos e]; trivial
  ·rename_i e
   rw [if_neg e]
   split at h7
   ·rename_i e2; rw [if_pos e2]; simp only [beq_iff_eq] at h7; omega
   ·rename_i e2; rw [if_neg e2]; simp only [beq_iff_eq] at h7; exact List.length_eq_zero_iff.1 (by omega)
 ·rintro ⟨h1,h2,h3,h4,h5,h6,h7⟩
  refine ⟨⟨⟨⟨⟨⟨h1,h2⟩,h3⟩,h4⟩,h5⟩,h6⟩,?_⟩
  split
  ·rfl
  ·rename_i e
   rw [if_neg e] at h7
   split
   ·rename_i e2; rw [if_pos e2] at h7; simp; omega
   ·rename_i e2; rw [if_neg e2] at h7; simp [h7]
theorem O5:As []=true:=rfl
def Tt (m n:AA) (l:List B6):Prop:=∀ y∈l,j1 y∧y.2.1=m.1∧y.2.2.2.1=n.2.1
theorem Vf {m n:AA} {view:List Int} {k num:Int} {its:List AP} (hm:1≤m.1∧m.1≤6) (he:1≤n.2.1∧n.2.1≤9) (hv:∀ a∈view,1≤a∧a≤6) (hk:1≤k∧k≤8) (hn:0≤num∧num≤1000000000) (hi:As its=true)
  (hs:if k=2∨k=3 then True else if k=5 then its.length=1 else its=[]):Tt m n ((CP view m.1).map fun v=>(k,m.1,v,n.2.1,num,its)):=by
 intro y hy
 obtain ⟨v,hv2,rfl⟩:=List.mem_map.1 hy
 exact ⟨⟨hk,hm,hv v (List.mem_filter.1 hv2).1,he,hn,hi,hs⟩,rfl,rfl⟩
theorem MA {m n:AA} {x:B6} {k:Int} (hm:1≤m.1∧m.1≤6) (hx:j1 x) (he:x.2.2.2.1=n.2.1) (hk:k=4∨k=6∨k=8):Tt m n (D9 m x k):=by
 intro y hy
 simp only [D9,List.mem_singleton] at hy
 subst hy
 refine ⟨⟨by show 1≤k∧k≤8; omega,hm,hx.frm,hx.ep,hx.num,O5,?_⟩,rfl,he⟩
 show if k=2∨k=3 then True else if k=5 then ([]:List AP).length=1 else ([]:List AP)=[]
 rw [if_neg (by omega),if_neg (by omega)]
theorem SD {m n:AA}:Tt m n []:=fun y hy=>by cases hy
theorem Sb:Gj ((0:Int),(0:Int),(0:Int),(ByteArray.empty,ByteArray.empty,(0:Int)),([]:List Int))=true:=by simp [Gj,Nn]
theorem Gk.has {m:AA} {view:List Int} {its:List AP} (h:Gk m) (hl:m.2.2.2.2.1=true) (hb:m.2.2.2.1=false) (hi:As its=true):Gk (Vd m view its):=by
 have hns:m.2.2.2.2.2.1=false:=by
  cases hs:m.2.2.2.2.2.1 with
  | false=>rfl
  | true=>have:=(h.serves hs).1; rw [hb] at this; cases this
 refine ⟨h.id,h.ep,fun hs=>⟨rfl,hl,?_⟩,fun hf=>?_,Pg _ _,h.left,hi,h.count,?_⟩
 ·simp only [Vd,beq_iff_eq] at hs ⊢
  exact List.length_eq_zero_iff.1 (by omega)
 ·have:=(h.fell hf).2; rw [hl] at this; cases this
 ·rcases h.task with h1 | h1
  ·exact .inl h1
  ·unfold Dx at h1
   rw [hns] at h1
   simp at h1
theorem Gk.bare {m:AA} (h:Gk m) {e:Int} (he:1≤e∧e≤9):Gk (SC m e) :=
 ⟨h.id,he,fun hs=>(by cases hs),fun hf=>(by cases hf),⟨by simp [SC],by simp [SC]⟩,⟨by simp [SC],by simp [SC]⟩,h.items,⟨by simp [SC],by simp [SC]⟩,.inl Sb⟩
theorem Gk.install {m:AA} (h:Gk m) {e:Int} {its:List AP} (he:1≤e∧e≤9) (hi:As its=true) :
  Gk (m.1,e,false,true,false,false,([]:List Int),its,(0:Int),(0:Int),(0:Int),(0:Int),(ByteArray.empty,ByteArray.empty,(0:Int)),([]:List Int)) :=
 ⟨h.id,he,fun hs=>(by cases hs),fun hf=>(by cases hf),⟨by simp,by simp⟩,⟨by simp,by simp⟩,hi,⟨by simp,by simp⟩,.inl Sb⟩
theorem Gk.clear {m:AA} (h:Gk m) {its:List AP} (hi:As its=true):Gk (LH m its) :=
 ⟨h.id,h.ep,h.serves,h.fell,h.waits,⟨by simp [LH],by simp [LH]⟩,hi,h.count,.inl Sb⟩
theorem Gk.finish {m:AA} (h:Gk m):Gk (DS m).2:=by
 unfold DS
 split
 ·exact h.clear (aH h.items)
 ·exact h.clear h.items
theorem jr {m:AA} (h:Gk m) (h0:m.2.2.2.2.2.2.2.2.2.1≠0):Dx m.2.2.2.2.2.2.2.2.2 m.2.2.2.2.2.1=true:=by
 rcases h.task with h1 | h1
 ·unfold Gj at h1
  simp only [Bool.and_eq_true,beq_iff_eq] at h1
  exact absurd h1.1.1.1.1 h0
 ·exact h1
def aK (l:List Dy):Prop:=l.length≤1∧∀ s∈l,0≤s.1∧s.1≤1000
theorem EZ:aK []:=⟨by simp,fun s hs=>by cases hs⟩
theorem Xb {m:AA} (h:Gk m) (h0:m.2.2.2.2.2.2.2.2.2.1≠0):aK (DS m).1:=by
 have h1:=jr h h0
 unfold Dx at h1
 simp only [Bool.and_eq_true,decide_eq_true_eq] at h1
 unfold DS
 split
 ·exact ⟨by simp,fun s hs=>by simp at hs; subst hs; exact h1.1.2⟩
 ·exact ⟨by simp,fun s hs=>by simp at hs; subst hs; exact h1.1.2⟩
structure ci (m:AA) (r:AA×List B6×List Dy):Prop where
 mok:Gk r.1
 id:r.1.1=m.1
 ep:m.2.1≤r.1.2.1
 told:Tt m r.1 r.2.1
 tlen:r.2.1.length≤4
 said:aK r.2.2
theorem FO {m:AA} (h:Gk m):ci m (m,[],[]):=⟨h,rfl,Int.le_refl _,SD,by simp,EZ⟩
theorem HX (view:List Int) (id:Int):(CP view id).length≤view.length:=List.length_filter_le _ _
theorem Gk.left_filter {m:AA} (h:Gk m) (f:Int):Gk (dp m f):=by
 refine ⟨h.id,h.ep,h.serves,h.fell,h.waits,aJ h.left _,h.items,h.count,?_⟩
 rcases h.task with h1 | h1
 ·left
  unfold Gj at h1 ⊢
  simp only [Bool.and_eq_true,beq_iff_eq] at h1 ⊢
  refine ⟨h1.1,?_⟩
  have h2:=List.length_filter_le (· != f) m.2.2.2.2.2.2.2.2.2.2.2.2.2
  have h3:=h1.2
  show (((m.2.2.2.2.2.2.2.2.2.2.2.2.2.filter (· != f)).length:Nat):Int)=0
  omega
 ·exact .inr h1
theorem jt {m:AA} {view:List Int} {x:B6} (hm:Gk m) (hv:iu view) (hx:j1 x) (he:x.2.2.2.1=m.2.1):ci m (dq m view x):=by
 unfold dq
 split
 ·split
  ·rename_i h1 h2
   simp only [Bool.and_eq_true,Bool.not_eq_true'] at h2
   refine ⟨hm.has h2.1 h2.2 hx.items,rfl,Int.le_refl _,?_,by simp only [List.length_map]; have:=HX view m.1; have:=hv.len; omega,EZ⟩
   exact Vf (n:=Vd m view x.2.2.2.2.2) hm.id hm.ep hv.mem (by omega) (by omega) hx.items (by simp)
  ·exact FO hm
 ·split
  ·split
   ·exact FO hm
   ·split
    ·exact FO hm
    ·split
     ·exact ⟨hm,rfl,Int.le_refl _,MA hm.id hx he (by omega),by simp [D9],EZ⟩
     ·exact ⟨hm.install hm.ep hx.items,rfl,Int.le_refl _,MA hm.id hx he (by omega),by simp [D9],EZ⟩
  ·split
   ·split
    ·rename_i hl
     refine ⟨⟨hm.id,hm.ep,fun hs=>?_,hm.fell,aJ hm.waits _,hm.left,hm.items,hm.count,?_⟩,rfl,Int.le_refl _,SD,by simp,EZ⟩
     ·simp only [Bool.and_eq_true,beq_iff_eq] at hs
      exact ⟨hs.1,hl,List.length_eq_zero_iff.1 (show (List.filter (· != x.2.1) m.2.2.2.2.2.2.1).length=0 by have h:((List.filter (· != x.2.1) m.2.2.2.2.2.2.1).length:Int)=0:=hs.2; omega)⟩
     ·rcases hm.task with h1 | h1
      ·exact .inl h1
      ·right
       have hs:m.2.2.2.2.2.1=true:=by
        unfold Dx at h1
        simp only [Bool.and_eq_true] at h1
        exact h1.1.1.2
       obtain ⟨a,b,c⟩:=hm.serves hs
       rw [hs] at h1
       simp only [c,List.filter_nil,List.length_nil,a,Bool.true_and]
       exact h1
    ·exact FO hm
   ·split
    ·split
     ·exact ⟨⟨hm.id,hm.ep,hm.serves,hm.fell,hm.waits,hm.left,aH hm.items,hm.count,hm.task⟩,rfl,Int.le_refl _,MA hm.id hx he (by omega),by simp [D9],EZ⟩
     ·exact FO hm
    ·split
     ·split
      ·exact ⟨hm,rfl,Int.le_refl _,MA hm.id hx he (by omega),by simp [D9],EZ⟩
      ·exact FO hm
     ·by_cases hc:(x.1=6∨x.1=8)∧m.2.2.2.2.2.2.2.2.2.1=(if x.1=8 then 2 else 1)∧m.2.2.2.2.2.2.2.2.2.2.2.1=x.2.2.2.2.1
      ·rw [if_pos hc]
       have hn:=hm.left_filter x.2.1
       unfold LE
       split
       ·refine ⟨hn.finish,?_,?_,SD,by simp,Xb hn ?_⟩
        ·unfold DS; split<;>rfl
        ·unfold DS; split<;>exact Int.le_refl _
        ·have:=hc.2.1
         show m.2.2.2.2.2.2.2.2.2.1≠0
         rw [this]
         split<;>omega
       ·exact ⟨hn,rfl,Int.le_refl _,SD,by simp,EZ⟩
      ·rw [if_neg hc]
       exact FO hm
theorem dr {m:AA} {views:List (List Int)} {x:B6} (hm:Gk m) (hv:S8 views):ci m (O4 m views x):=by
 unfold O4
 split
 ·rename_i hc
  simp only [Bool.and_eq_true,decide_eq_true_eq,beq_iff_eq] at hc
  obtain ⟨⟨⟨h1,h2⟩,h3⟩,h4⟩:=hc
  have hx:=fR.1 h1
  have hvl:=hv.len
  have he:=hm.ep
  split
  ·rename_i e
   exact jt hm (hv.wok (by omega)) hx e
  ·split
   ·refine ⟨hm.bare hx.ep,rfl,h3,fun y hy=>?_,by simp,EZ⟩
    simp only [List.mem_singleton] at hy
    subst hy
    exact ⟨⟨by simp,hm.id,hx.frm,hx.ep,by simp,hm.items,by simp⟩,rfl,rfl⟩
   ·split
    ·exact ⟨hm.install hx.ep hx.items,rfl,h3,MA hm.id hx rfl (by omega),by simp [D9],EZ⟩
    ·exact FO hm
 ·exact FO hm
end Go.Proofs.YtaedipailemlcaaGreat.Core

namespace Go.Proofs.YtaedipailemlcaaGreat.Core
open Go
set_option linter.unusedVariables false
set_option linter.unusedSimpArgs false
def Ho:AA:=((0:Int),(0:Int),false,false,false,false,([]:List Int),([]:List AP),(0:Int),(0:Int),(0:Int),(0:Int),(ByteArray.empty,ByteArray.empty,(0:Int)),([]:List Int))
def Nl (m:AA) (views:List (List Int)) (op call:Int) (key val:ByteArray):Bool :=
 m.2.2.2.2.2.1&&(m.2.2.2.2.2.2.2.2.2.1==0)&&decide (m.2.2.2.2.2.2.2.2.1<900)&&(op==1||op==2)&&(decide (0≤call)&&decide (call≤1000))&&(decide (1≤(key.size:Int))&&decide ((key.size:Int)≤12))&&decide ((val.size:Int)≤20)&&(op==1||eR val)&&decide (m.2.1≤(views.length:Int))&&((views.getD (m.2.1-1).toNat []).getD 0 0==m.1)
def De (m:AA) (key val:ByteArray):AP:=(key,val,1000*m.2.1+(m.2.2.2.2.2.2.2.2.1+1))
def Df (m:AA) (view:List Int) (op call:Int) (key val:ByteArray):AA :=
 (m.1,m.2.1,m.2.2.1,m.2.2.2.1,m.2.2.2.2.1,m.2.2.2.2.2.1,m.2.2.2.2.2.2.1,m.2.2.2.2.2.2.2.1,m.2.2.2.2.2.2.2.2.1+1,op,call,m.2.2.2.2.2.2.2.2.1+1,De m key val,Dz view m.1)
def Ph (m:AA) (view:List Int) (op:Int) (key val:ByteArray):List B6 :=
 (CP view m.1).map fun v=>(if op=1 then 5 else 7,m.1,v,m.2.1,m.2.2.2.2.2.2.2.2.1+1,if op=1 then [De m key val] else [])
def Iy (m:AA) (view:List Int) (op call:Int) (key val:ByteArray):AA×List B6×List Dy×Bool :=
 if Dz view m.1=[] then ((DS (Df m view op call key val)).2,[],(DS (Df m view op call key val)).1,true) else (Df m view op call key val,Ph m view op key val,[],true)
def B8 (m:AA) (views:List (List Int)) (op call:Int) (key val:ByteArray):AA×List B6×List Dy×Bool :=
 if Nl m views op call key val=true then
  (if op=1∧Nn (.pair .str (.pair .str (.int .i64))) (B2 (By m.2.2.2.2.2.2.2.1 (De m key val)) key) (De m key val)=false then (Ho,[],[],false) else Iy m (views.getD (m.2.1-1).toNat []) op call key val)
 else (Ho,[],[],false)
theorem Qr (m:AA) (views:List (List Int)) (op call:Int) (key val:ByteArray) (hm:Gk m) (hv:S8 views):K8 m views op call key val=some (B8 m views op call key val):=cY (by
 have hvl:=hv.len
 have hep:=hm.ep
 have hl:=hm.lens
 have hcnt:=hm.count
 have wm:IntKind.i64.wrap (m.2.1-1)=m.2.1-1:=AY (by omega)
 have wc:IntKind.i64.wrap (m.2.2.2.2.2.2.2.2.1+1)=m.2.2.2.2.2.2.2.2.1+1:=AY (by omega)
 have w1:IntKind.i64.wrap (1000*m.2.1)=1000*m.2.1:=AY (by omega)
 have w2:IntKind.i64.wrap (1000*m.2.1+(m.2.2.2.2.2.2.2.2.1+1))=1000*m.2.1+(m.2.2.2.2.2.2.2.2.1+1):=AY (by omega)
 unfold Uo
 rw [HW hm,Option.bind_some,if_neg (by simp),EY hv,Option.bind_some,if_neg (by simp)]
 have bad:Nl m views op call key val=false→B8 m views op call key val=(Ho,[],[],false):=fun h=>by unfold B8; rw [h]; rfl
 by_cases c1:m.2.2.2.2.2.1=true
 case neg =>
  rw [if_pos (by simpa using c1),bad (by unfold Nl; simp [c1])]
  rfl
 rw [if_neg (by simpa using c1)]
 by_cases c2:m.2.2.2.2.2.2.2.2.2.1=0
 case neg =>
  rw [if_pos (by simpa using c2),bad (by unfold Nl; simp [c2])]
  rfl
 rw [if_neg (by simpa using c2)]
 by_cases c3:m.2.2.2.2.2.2.2.2.1<900
 case neg =>
  rw [if_pos (by simp; omega),bad (by unfold Nl; simp [c3])]
  rfl
 rw [if_neg (by simp; omega)]
 have view:∀ (hep2:m.2.1≤(views.length:Int)),1≤(views.getD (m.2.1-1).toNat []).length∧(views.getD (m.2.1-1).toNat []).length≤4:=fun h=>hv.get (by omega)
 have L2:∀ (v:List Int) (hv:v.length≤4) (y:AA) (its:List AP),op=1→DA op [] v 0 m y [] (Df m v op call key val) (De m key val) its=some (Df m v op call key val,Ph m v op key val,[],true):=by
  intro v hv y its ho
  have key':=Gz (n:=v.length) (P:=fun i=>∀ acc:List B6,acc.length≤i→DA op [] v (i:Int) m y acc (Df m v op call key val) (De m key val) its=some (Df m v op call key val,acc++((v.drop i).filter (· != m.1)).map (fun v=>((5:Int),m.1,v,m.2.1,m.2.2.2.2.2.2.2.2.1+1,[De m key val])),[],true)) (fun acc ha=>QX (by
   unfold KU
   rw [if_neg (by simp)]
   simp)) (fun i hi ih acc ha=>QX (by
   unfold KU
   simp only [show ((i:Int)<(v.length:Int)) from by omega,decide_true,if_true,show (0:Int)≤(i:Int) from by omega,Int.toNat_natCast,AU hi,AR (show i<9223372036854775807 by omega),ho,beq_self_eq_true]
   rw [ho] at ih
   rw [Bm hi,List.filter_cons]
   by_cases hh:v[i]=m.1
   ·rw [if_pos (by simpa using hh),ih _ (by omega),if_neg (by simpa using hh)]
   ·rw [if_neg (by simpa using hh),if_pos (by simp; omega),ih _ (by simp; omega),if_pos (by simpa using hh),List.map_cons,List.append_assoc]
    rfl)) 0 (by omega) [] (by simp)
  unfold Ph
  rw [if_pos ho,if_pos ho]
  exact key'
 have L4:∀ (v:List Int) (hv:v.length≤4) (y:AA),op≠1→DB op [] v 0 m y [] (Df m v op call key val) (De m key val)=some (Df m v op call key val,Ph m v op key val,[],true):=by
  intro v hv y ho
  have key':=Gz (n:=v.length) (P:=fun i=>∀ acc:List B6,acc.length≤i→DB op [] v (i:Int) m y acc (Df m v op call key val) (De m key val)=some (Df m v op call key val,acc++((v.drop i).filter (· != m.1)).map (fun v=>((7:Int),m.1,v,m.2.1,m.2.2.2.2.2.2.2.2.1+1,([]:List AP))),[],true)) (fun acc ha=>QY (by
   unfold KV
   rw [if_neg (by simp)]
   simp)) (fun i hi ih acc ha=>QY (by
   unfold KV
   have ho':¬ ((op==1)=true):=by simpa using ho
   simp only [show ((i:Int)<(v.length:Int)) from by omega,decide_true,if_true,show (0:Int)≤(i:Int) from by omega,Int.toNat_natCast,AU hi,AR (show i<9223372036854775807 by omega),if_neg ho']
   rw [Bm hi,List.filter_cons]
   by_cases hh:v[i]=m.1
   ·rw [if_pos (by simpa using hh),ih _ (by omega),if_neg (by simpa using hh)]
   ·rw [if_neg (by simpa using hh),if_pos (by simp; omega),ih _ (by simp; omega),if_pos (by simpa using hh),List.map_cons,List.append_assoc]
    rfl)) 0 (by omega) [] (by simp)
  unfold Ph
  rw [if_neg ho,if_neg ho]
  exact key'
 have nil_iff:∀ l:List Int,((l.length:Int)==0)=true↔l=[]:=fun l=>by
  rw [beq_iff_eq]
  exact ⟨fun h=>List.length_eq_zero_iff.1 (by omega),fun h=>by rw [h]; rfl⟩
 have J1:∀ (b:Bool) (y:AA) (its:List AP),op=1→m.2.1≤(views.length:Int)→KS views op call [] b m y [] (m.1,m.2.1,m.2.2.1,m.2.2.2.1,m.2.2.2.2.1,m.2.2.2.2.2.1,m.2.2.2.2.2.2.1,m.2.2.2.2.2.2.2.1,m.2.2.2.2.2.2.2.2.1+1,m.2.2.2.2.2.2.2.2.2) (De m key val) its=some (Iy m (views.getD (m.2.1-1).toNat []) op call key val):=fun b y its ho he=>YD (by
  have:=view he
  unfold QU Iy
  rw [wm,if_pos (by omega),if_pos (by omega),Gl _ _ (by unfold maxLen; omega),Option.bind_some]
  by_cases hz:Dz (views.getD (m.2.1-1).toNat []) m.1=[]
  ·rw [if_pos ((nil_iff _).2 hz),if_pos hz]
   have:=Gm (Df m (views.getD (m.2.1-1).toNat []) op call key val) (by show m.2.2.2.2.2.2.2.1.length≤_; omega)
   unfold Df at this
   simp only
   rw [this]
   rfl
  ·rw [if_neg (fun h=>hz ((nil_iff _).1 h)),if_neg hz]
   exact L2 _ (by omega) y its ho)
 have J3:∀ (b:Bool) (y:AA),op≠1→m.2.1≤(views.length:Int)→KT views op call [] b m y [] (m.1,m.2.1,m.2.2.1,m.2.2.2.1,m.2.2.2.2.1,m.2.2.2.2.2.1,m.2.2.2.2.2.2.1,m.2.2.2.2.2.2.2.1,m.2.2.2.2.2.2.2.2.1+1,m.2.2.2.2.2.2.2.2.2) (De m key val)=some (Iy m (views.getD (m.2.1-1).toNat []) op call key val):=fun b y ho he=>YE (by
  have:=view he
  unfold QV Iy
  rw [wm,if_pos (by omega),if_pos (by omega),Gl _ _ (by unfold maxLen; omega),Option.bind_some]
  by_cases hz:Dz (views.getD (m.2.1-1).toNat []) m.1=[]
  ·rw [if_pos ((nil_iff _).2 hz),if_pos hz]
   have:=Gm (Df m (views.getD (m.2.1-1).toNat []) op call key val) (by show m.2.2.2.2.2.2.2.1.length≤_; omega)
   unfold Df at this
   simp only
   rw [this]
   rfl
  ·rw [if_neg (fun h=>hz ((nil_iff _).1 h)),if_neg hz]
   exact L4 _ (by omega) y ho)
 have J0:∀ (b:Bool) (y:AA),Nl m views op call key val=true→m.2.1≤(views.length:Int)→B4 views op call key val [] b m y []=some (B8 m views op call key val):=fun b y hmay he=>YF (by
  unfold QW B8
  rw [if_pos hmay,hm.copy,Option.bind_some,wc,w1,w2]
  by_cases ho:op=1
  ·rw [if_pos (by simpa using ho),Ix _ _ (by omega),Option.bind_some,Ov _ _ (by have:=XZ m.2.2.2.2.2.2.2.1 (key,val,1000*m.2.1+(m.2.2.2.2.2.2.2.2.1+1)); unfold maxLen; omega),Option.bind_some]
   cases hq:Nn (.pair .str (.pair .str (.int .i64))) (B2 (By m.2.2.2.2.2.2.2.1 (De m key val)) key) (De m key val) with
   | false =>
    have hq':Nn Z (B2 (By m.2.2.2.2.2.2.2.1 (key,val,1000*m.2.1+(m.2.2.2.2.2.2.2.2.1+1))) key) (key,val,1000*m.2.1+(m.2.2.2.2.2.2.2.2.1+1))=false:=hq
    rw [hq',if_pos (show (true != false)=true from rfl),if_pos (show op=1∧false=false from ⟨ho,rfl⟩)]
    rfl
   | true =>
    have hq':Nn Z (B2 (By m.2.2.2.2.2.2.2.1 (key,val,1000*m.2.1+(m.2.2.2.2.2.2.2.2.1+1))) key) (key,val,1000*m.2.1+(m.2.2.2.2.2.2.2.2.1+1))=true:=hq
    rw [hq',if_neg (show ¬ (true != true)=true by simp),if_neg (show ¬ (op=1∧true=false) by rintro ⟨_,h⟩; cases h)]
    exact J1 _ y _ ho he
  ·rw [if_neg (by simpa using ho),if_neg (fun h=>ho h.1)]
   exact J3 _ y ho he)
 have tail:op=1∨op=2→((AN call 0 1000).bind fun y3=>(if (!y3)=true then (some (Ho,([]:List B6),([]:List Dy),false)) else ((AN (key.size:Int) 1 12).bind fun y4=>(if (!y4)=true then (some (Ho,([]:List B6),([]:List Dy),false)) else (if (decide ((val.size:Int)>20))=true then (some (Ho,([]:List B6),([]:List Dy),false)) else (if (op==2)=true then (if (!(val.toList==(⟨#[]⟩:ByteArray).toList))=true then (some (Ho,([]:List B6),([]:List Dy),false)) else (if (decide (m.2.1>(views.length:Int)))=true then (some (Ho,([]:List B6),([]:List Dy),false)) else (if 0≤(IntKind.i64.wrap (m.2.1-1)) then (if (IntKind.i64.wrap (m.2.1-1))<(views.length:Int) then (if 0≤(0:Int) then (if (0:Int)<((views.getD (IntKind.i64.wrap (m.2.1-1)).toNat ([]:List Int)).length:Int) then (if (((views.getD (IntKind.i64.wrap (m.2.1-1)).toNat ([]:List Int)).getD (0:Int).toNat 0) != m.1)=true then (some (Ho,([]:List B6),([]:List Dy),false)) else (B4 views op call key val ([]:List Dy) (((views.getD (IntKind.i64.wrap (m.2.1-1)).toNat ([]:List Int)).getD (0:Int).toNat 0) != m.1) m Ho ([]:List B6))) else none) else none) else none) else none))) else (if (decide (m.2.1>(views.length:Int)))=true then (some (Ho,([]:List B6),([]:List Dy),false)) else (if 0≤(IntKind.i64.wrap (m.2.1-1)) then (if (IntKind.i64.wrap (m.2.1-1))<(views.length:Int) then (if 0≤(0:Int) then (if (0:Int)<((views.getD (IntKind.i64.wrap (m.2.1-1)).toNat ([]:List Int)).length:Int) then (if (((views.getD (IntKind.i64.wrap (m.2.1-1)).toNat ([]:List Int)).getD (0:Int).toNat 0) != m.1)=true then (some (Ho,([]:List B6),([]:List Dy),false)) else (B4 views op call key val ([]:List Dy) (((views.getD (IntKind.i64.wrap (m.2.1-1)).toNat ([]:List Int)).getD (0:Int).toNat 0) != m.1) m Ho ([]:List B6))) else none) else none) else none) else none))))))))=some (B8 m views op call key val):=by
  intro hop
  rw [Ah,Option.bind_some,Ah,Option.bind_some,wm]
  cases c5:(decide (0≤call)&&decide (call≤1000)) with
  | false=>rw [bad (by unfold Nl; rw [c5]; simp)]; rfl
  | true =>
  rw [if_neg (by simp)]
  cases c6:(decide (1≤(key.size:Int))&&decide ((key.size:Int)≤12)) with
  | false=>rw [bad (by unfold Nl; rw [c6]; simp)]; rfl
  | true =>
  rw [if_neg (by simp)]
  by_cases c7:(val.size:Int)≤20
  case neg=>rw [if_pos (by simp; omega),bad (by unfold Nl; simp [c7])]
  rw [if_neg (by simp; omega)]
  have last:(op==1||eR val)=true→(if (decide (m.2.1>(views.length:Int)))=true then (some (Ho,([]:List B6),([]:List Dy),false)) else (if 0≤m.2.1-1 then (if m.2.1-1<(views.length:Int) then (if 0≤(0:Int) then (if (0:Int)<((views.getD (m.2.1-1).toNat ([]:List Int)).length:Int) then (if (((views.getD (m.2.1-1).toNat ([]:List Int)).getD (0:Int).toNat 0) != m.1)=true then (some (Ho,([]:List B6),([]:List Dy),false)) else (B4 views op call key val ([]:List Dy) (((views.getD (m.2.1-1).toNat ([]:List Int)).getD (0:Int).toNat 0) != m.1) m Ho ([]:List B6))) else none) else none) else none) else none))=some (B8 m views op call key val):=by
   intro c8
   by_cases c9:m.2.1≤(views.length:Int)
   case neg=>rw [if_pos (by simp; omega),bad (by unfold Nl; simp [c9])]
   have:=view c9
   rw [if_neg (by simp; omega),if_pos (by omega),if_pos (by omega),if_pos (by omega),if_pos (by omega),show (views.getD (m.2.1-1).toNat ([]:List Int)).getD (0:Int).toNat 0=(views.getD (m.2.1-1).toNat []).getD 0 0 from rfl]
   by_cases c10:(views.getD (m.2.1-1).toNat []).getD 0 0=m.1
   case neg=>rw [if_pos (by simpa using c10),bad (by unfold Nl; rw [show ((views.getD (m.2.1-1).toNat []).getD 0 0==m.1)=false from by simpa using c10,Bool.and_false])]
   rw [if_neg (by simpa using c10)]
   refine J0 _ _ ?_ c9
   unfold Nl
   rw [c1,c5,c6,c8]
   simp only [c2,beq_self_eq_true,c3,c7,c9,c10,decide_true,Bool.and_true,Bool.true_and]
   rcases hop with h | h<;>simp [h]
  by_cases c8:op=2
  ·rw [if_pos (by simpa using c8)]
   cases ce:eR val with
   | false =>
    rw [if_pos (by rw [cg,ce]; rfl),bad (by unfold Nl; rw [ce,show (op==1)=false from by simp [c8]]; simp)]
   | true =>
    rw [if_neg (by rw [cg,ce]; simp)]
    exact last (by rw [ce,Bool.or_true])
  ·rw [if_neg (by simpa using c8)]
   exact last (by rw [show (op==1)=true from by simp; omega]; rfl)
 by_cases c4:op=1
 ·rw [if_neg (by simpa using c4)]
  exact tail (.inl c4)
 ·rw [if_pos (by simpa using c4)]
  by_cases c4':op=2
  ·rw [if_neg (by simpa using c4')]
   exact tail (.inr c4')
  ·rw [if_pos (by simpa using c4'),bad (by unfold Nl; rw [show (op==1||op==2)=false from by simp [c4,c4']]; simp)]
   rfl)
structure fS (m:AA) (r:AA×List B6×List Dy×Bool):Prop where
 mok:r.2.2.2=true→Gk r.1
 id:r.2.2.2=true→r.1.1=m.1
 ep:r.2.2.2=true→r.1.2.1=m.2.1
 told:r.2.2.2=true→Tt m r.1 r.2.1
 tlen:r.2.1.length≤4
 said:aK r.2.2.1
theorem bY {m:AA}:fS m (Ho,[],[],false):=⟨fun h=>(by cases h),fun h=>(by cases h),fun h=>(by cases h),fun h=>(by cases h),by simp,EZ⟩
theorem Sc {m:AA} {views:List (List Int)} {op call:Int} {key val:ByteArray} (h:Nl m views op call key val=true) :
  m.2.2.2.2.2.1=true∧m.2.2.2.2.2.2.2.2.2.1=0∧m.2.2.2.2.2.2.2.2.1<900∧(op=1∨op=2)∧(0≤call∧call≤1000)∧(1≤(key.size:Int)∧(key.size:Int)≤12)∧(val.size:Int)≤20∧(op=1∨eR val=true)∧m.2.1≤(views.length:Int)∧(views.getD (m.2.1-1).toNat []).getD 0 0=m.1:=by
 unfold Nl at h
 simp only [Bool.and_eq_true,Bool.or_eq_true,decide_eq_true_eq,beq_iff_eq] at h
 obtain ⟨⟨⟨⟨⟨⟨⟨⟨⟨h1,h2⟩,h3⟩,h4⟩,h5⟩,h6⟩,h7⟩,h8⟩,h9⟩,h10⟩:=h
 exact ⟨h1,h2,h3,h4,h5,h6,h7,h8,h9,h10⟩
theorem dt {m:AA} {key val:ByteArray} (h:Gk m) (h3:m.2.2.2.2.2.2.2.2.1<900) (h6:1≤(key.size:Int)∧(key.size:Int)≤12) (h7:(val.size:Int)≤20):As [De m key val]=true:=by
 refine GH.2 ⟨fun b hb=>?_,?_,by simp⟩
 ·simp only [List.mem_singleton] at hb
  subst hb
  unfold Iv De
  have:=h.ep
  have:=h.count
  simp only [Bool.and_eq_true,decide_eq_true_eq]
  omega
 ·exact bX.2 (by simp)
theorem Gk.task1 {m:AA} {view:List Int} {op call:Int} {key val:ByteArray} (h:Gk m) (h1:m.2.2.2.2.2.1=true) (h3:m.2.2.2.2.2.2.2.2.1<900) (h4:op=1∨op=2) (h5:0≤call∧call≤1000):Gk (Df m view op call key val):=by
 have hc:=h.count
 refine ⟨h.id,h.ep,h.serves,h.fell,h.waits,Pg _ _,h.items,?_,.inr ?_⟩
 ·show 0≤m.2.2.2.2.2.2.2.2.1+1∧m.2.2.2.2.2.2.2.2.1+1≤900
  omega
 ·unfold Dx Df
  rw [h1]
  simp only [Bool.and_eq_true,Bool.or_eq_true,decide_eq_true_eq,beq_iff_eq]
  exact ⟨⟨⟨h4,trivial⟩,h5⟩,by omega⟩
theorem W_ {m:AA} {views:List (List Int)} {op call:Int} {key val:ByteArray} (hm:Gk m) (hv:S8 views):fS m (B8 m views op call key val):=by
 unfold B8
 split
 ·rename_i hmay
  obtain ⟨h1,h2,h3,h4,h5,h6,h7,h8,h9,h10⟩:=Sc hmay
  split
  ·exact bY
  ·unfold Iy
   have hep:=hm.ep
   have ht:=hm.task1 (view:=views.getD (m.2.1-1).toNat []) (key:=key) (val:=val) h1 h3 h4 h5
   have h0:(Df m (views.getD (m.2.1-1).toNat []) op call key val).2.2.2.2.2.2.2.2.2.1≠0:=by show op≠0; omega
   have hw:=hv.wok (i:=(m.2.1-1).toNat) (by omega)
   split
   ·exact ⟨fun _=>ht.finish,fun _=>(by unfold DS; split<;>rfl),fun _=>(by unfold DS; split<;>rfl),fun _=>SD,by simp,Xb ht h0⟩
   ·refine ⟨fun _=>ht,fun _=>rfl,fun _=>rfl,fun _=>?_,?_,EZ⟩
    ·unfold Ph
     have hc:=hm.count
     have hi:=dt hm h3 h6 h7
     refine Vf (n:=Df m (views.getD (m.2.1-1).toNat []) op call key val) hm.id hm.ep hw.mem (by split<;>omega) (by omega) ?_ ?_
     ·split
      ·exact hi
      ·exact O5
     ·by_cases ho:op=1
      ·rw [if_pos ho,if_pos ho,if_neg (by omega),if_pos rfl]; rfl
      ·rw [if_neg ho,if_neg ho,if_neg (by omega),if_neg (by omega)]
    ·unfold Ph
     simp only [List.length_map]
     have:=HX (views.getD (m.2.1-1).toNat []) m.1
     have:=hw.len
     omega
 ·exact bY
def O6 (m:AA) (e:Int):AA:=(m.1,e,false,false,true,false,([]:List Int),m.2.2.2.2.2.2.2.1,(0:Int),(0:Int),(0:Int),(0:Int),(ByteArray.empty,ByteArray.empty,(0:Int)),([]:List Int))
def GI (m:AA) (views:List (List Int)) (e:Int):AA×List B6×Bool :=
 if 2≤e∧e≤(views.length:Int)∧m.2.1<e∧(views.getD (e-1).toNat []).getD 0 0=m.1 then
  if (m.2.2.2.1&&(m.2.1==e-1)&&(views.getD (e-2).toNat []).contains m.1)=true then
   (Vd (O6 m e) (views.getD (e-1).toNat []) m.2.2.2.2.2.2.2.1,(CP (views.getD (e-1).toNat []) m.1).map (fun v=>(3,m.1,v,e,0,m.2.2.2.2.2.2.2.1)),true)
  else (O6 m e,(CP (views.getD (e-2).toNat []) m.1).map (fun v=>(1,m.1,v,e,0,[])),true)
 else (Ho,[],false)
theorem Gk.new1 {m:AA} (h:Gk m) {e:Int} (he:1≤e∧e≤9):Gk (O6 m e) :=
 ⟨h.id,he,fun hs=>(by cases hs),fun hf=>(by cases hf),⟨by simp [O6],by simp [O6]⟩,⟨by simp [O6],by simp [O6]⟩,h.items,⟨by simp [O6],by simp [O6]⟩,.inl Sb⟩
theorem Yf (m:AA) (views:List (List Int)) (e:Int) (hm:Gk m) (hv:S8 views):PX m views e=some (GI m views e):=cf (by
 have hvl:=hv.len
 have hep:=hm.ep
 have hl:=hm.lens
 unfold VV GI
 rw [HW hm,Option.bind_some,if_neg (by simp),EY hv,Option.bind_some,if_neg (by simp),Ah,Option.bind_some]
 by_cases h1:2≤e∧e≤(views.length:Int)
 case neg =>
  rw [if_pos (by rw [← Bool.decide_and,decide_eq_false h1]; rfl),if_neg (fun h=>h1 ⟨h.1,h.2.1⟩)]
  rfl
 have we:IntKind.i64.wrap (e-1)=e-1:=AY (by omega)
 have we2:IntKind.i64.wrap (e-2)=e-2:=AY (by omega)
 rw [if_neg (by rw [← Bool.decide_and,decide_eq_true h1]; simp),we]
 by_cases h2:m.2.1<e
 case neg =>
  rw [if_pos (by simp; omega),if_neg (fun h=>h2 h.2.2.1)]
  rfl
 have g1:=hv.get (i:=(e-1).toNat) (by omega)
 have g2:=hv.get (i:=(e-2).toNat) (by omega)
 rw [if_neg (by simp; omega),if_pos (by omega),if_pos (by omega),if_pos (by omega),if_pos (by omega),show (views.getD (e-1).toNat ([]:List Int)).getD (0:Int).toNat 0=(views.getD (e-1).toNat []).getD 0 0 from rfl]
 by_cases h3:(views.getD (e-1).toNat []).getD 0 0=m.1
 case neg =>
  rw [if_pos (by simpa using h3),if_neg (fun h=>h3 h.2.2.2)]
  rfl
 rw [if_neg (by simpa using h3),if_pos ⟨h1.1,h1.2,h2,h3⟩]
 have L2:∀ y,EF views e 0 m y [] ([]++m.2.2.2.2.2.2.2.1) (O6 m e)=some (O6 m e,(CP (views.getD (e-2).toNat []) m.1).map (fun v=>(1,m.1,v,e,0,[])),true):=by
  intro y
  have hcopy:=(hm.new1 (e:=e) (by omega)).copy
  have key':=Gz (n:=(views.getD (e-2).toNat []).length) (P:=fun i=>∀ acc:List B6,acc.length≤i→EF views e (i:Int) m y acc ([]++m.2.2.2.2.2.2.2.1) (O6 m e)=some (O6 m e,acc++(((views.getD (e-2).toNat []).drop i).filter (· != m.1)).map (fun v=>((1:Int),m.1,v,e,(0:Int),([]:List AP))),true)) (fun acc ha=>Qp (by
   unfold Ka
   rw [we2,if_pos (by omega),if_pos (by omega),if_neg (by simp),hcopy]
   simp)) (fun i hi ih acc ha=>Qp (by
   unfold Ka
   rw [we2,if_pos (by omega),if_pos (by omega)]
   simp only [show ((i:Int)<((views.getD (e-2).toNat ([]:List Int)).length:Int)) from by omega,decide_true,if_true,show (0:Int)≤(i:Int) from by omega,Int.toNat_natCast,AR (show i<9223372036854775807 by omega),show (0:Int)≤e-2 from by omega,show e-2<(views.length:Int) from by omega]
   rw [AU hi,Bm hi,List.filter_cons]
   by_cases hh:((views.getD (e-2).toNat ([]:List Int))[i] != m.1)=true
   ·rw [if_pos hh,if_pos (by simp; omega),ih _ (by simp; omega),if_pos hh,List.map_cons,List.append_assoc]
    rfl
   ·rw [if_neg hh,ih _ (by omega),if_neg hh])) 0 (by omega) [] (by simp)
  exact key'
 have J1:∀ (b:Bool) y,FS views e b m y []=some (if b=true then (Vd (O6 m e) (views.getD (e-1).toNat []) m.2.2.2.2.2.2.2.1,(CP (views.getD (e-1).toNat []) m.1).map (fun v=>(3,m.1,v,e,0,m.2.2.2.2.2.2.2.1)),true) else (O6 m e,(CP (views.getD (e-2).toNat []) m.1).map (fun v=>(1,m.1,v,e,0,[])),true)):=fun b y=>Yc (by
  unfold Qn
  rw [we,if_pos (by simp; omega)]
  cases b
  ·rw [if_neg (by simp)]
   exact L2 y
  ·rw [if_pos rfl,if_pos (by omega),if_pos (by omega)]
   have hh:=O3 (views.getD (e-1).toNat []) m.2.2.2.2.2.2.2.1 (O6 m e) (by omega) (by omega)
   have hc:=((hm.new1 (e:=e) (by omega)).has (view:=views.getD (e-1).toNat []) (its:=m.2.2.2.2.2.2.2.1) rfl rfl hm.items).copy
   unfold O6 at hh hc ⊢
   simp only [List.nil_append]
   rw [hh,Option.bind_some,hc]
   rfl)
 refine Yd ?_
 unfold Qo
 rw [we,we2,B5 _ _ (by unfold maxLen; omega),Option.bind_some]
 simp only [J1]
 rw [if_pos (show (0:Int)≤e-2 by omega),if_pos (show e-2<(views.length:Int) by omega)]
 cases m.2.2.2.1<;>cases (m.2.1==e-1)<;>cases (views.getD (e-2).toNat ([]:List Int)).contains m.1<;>rfl)
theorem bZ {m:AA} {views:List (List Int)} {e:Int} (hm:Gk m) (hv:S8 views):(GI m views e).2.2=true→Gk (GI m views e).1∧(GI m views e).1.1=m.1∧Tt m (GI m views e).1 (GI m views e).2.1∧(GI m views e).2.1.length≤4:=by
 intro h
 have hvl:=hv.len
 have hep:=hm.ep
 unfold GI at h ⊢
 split
 ·rename_i hc
  have he:1≤e∧e≤9:=by omega
  split
  ·have hw:=hv.wok (i:=(e-1).toNat) (by omega)
   refine ⟨(hm.new1 he).has rfl rfl hm.items,rfl,Vf (n:=Vd (O6 m e) (views.getD (e-1).toNat []) m.2.2.2.2.2.2.2.1) hm.id he hw.mem (by omega) (by omega) hm.items (by simp),?_⟩
   simp only [List.length_map]
   have:=HX (views.getD (e-1).toNat []) m.1
   have:=hw.len
   omega
  ·have hw:=hv.wok (i:=(e-2).toNat) (by omega)
   refine ⟨hm.new1 he,rfl,Vf (n:=O6 m e) hm.id he hw.mem (by omega) (by omega) O5 (by simp),?_⟩
   simp only [List.length_map]
   have:=HX (views.getD (e-2).toNat []) m.1
   have:=hw.len
   omega
 ·rename_i hc
  rw [if_neg hc] at h
  cases h
def S_ (m:AA):AA:=(m.1,m.2.1,true,false,false,false,([]:List Int),([]:List AP),(0:Int),(0:Int),(0:Int),(0:Int),(ByteArray.empty,ByteArray.empty,(0:Int)),([]:List Int))
theorem a_ (m:AA):Ra m=some (S_ m):=dh rfl
theorem Gk.fall1 {m:AA} (h:Gk m):Gk (S_ m) :=
 ⟨h.id,h.ep,fun hs=>(by cases hs),fun hf=>⟨rfl,rfl⟩,⟨by simp [S_],by simp [S_]⟩,⟨by simp [S_],by simp [S_]⟩,O5,⟨by simp [S_],by simp [S_]⟩,.inl Sb⟩
def D0 (id:Int) (views:List (List Int)):AA :=
 (id,(1:Int),false,(views.getD 0 []).contains id,((views.getD 0 []).getD 0 0==id),((views.getD 0 []).getD 0 0==id),([]:List Int),([]:List AP),(0:Int),(0:Int),(0:Int),(0:Int),(ByteArray.empty,ByteArray.empty,(0:Int)),([]:List Int))
theorem Kv (id:Int) (views:List (List Int)) (hi:1≤id∧id≤6) (hv:S8 views):Eu id views=some (D0 id views,true):=Wf (by
 have hvl:=hv.len
 have g:=hv.get (i:=0) (by omega)
 unfold Of
 rw [EY hv,Option.bind_some,if_pos (by rfl),Ah,Option.bind_some,if_neg (by rw [← Bool.decide_and,decide_eq_true hi]; simp)]
 refine Si ?_
 unfold Km
 rw [show views.getD (0:Int).toNat ([]:List Int)=views.getD 0 [] from rfl,B5 _ _ (by unfold maxLen; omega),Option.bind_some]
 repeat rw [if_pos (by omega)]
 rfl)
theorem Gk.first1 {id:Int} {views:List (List Int)} (hi:1≤id∧id≤6) (hv:S8 views):Gk (D0 id views):=by
 have hvl:=hv.len
 have g:=hv.get (i:=0) (by omega)
 refine ⟨hi,by simp [D0],fun hs=>⟨?_,hs,rfl⟩,fun hf=>(by cases hf),⟨by simp [D0],by simp [D0]⟩,⟨by simp [D0],by simp [D0]⟩,O5,⟨by simp [D0],by simp [D0]⟩,.inl Sb⟩
 simp only [D0,beq_iff_eq] at hs ⊢
 rw [← hs,List.contains_iff_mem,AU (show 0<(views.getD 0 []).length by omega)]
 exact List.getElem_mem _
end Go.Proofs.YtaedipailemlcaaGreat.Core

namespace Go.Proofs.YtaedipailemlcaaGreat.Core
open Go
set_option linter.unusedVariables false
set_option linter.unusedSimpArgs false
abbrev TA:Type:=Int×ByteArray×ByteArray×Int×Int×Int×Int×Int×ByteArray
abbrev Av:Type:=List (List Int)×List AA×List B6×List TA
abbrev HY:Type:=Int×Int×Int×Int×ByteArray×ByteArray
def Je:TA:=((0:Int),ByteArray.empty,ByteArray.empty,(0:Int),(0:Int),(0:Int),(0:Int),(0:Int),ByteArray.empty)
def Gd:B6:=((0:Int),(0:Int),(0:Int),(0:Int),(0:Int),([]:List AP))
def CD (g:Av) (i:Nat):AA:=g.2.1.getD i Ho
structure Tu (g:Av) (n:Nat):Prop where
 views:S8 g.1
 six:g.2.1.length=6
 mem:∀ i,i<6→Gk (CD g i)∧(CD g i).1=(i:Int)+1
 fly:∀ x∈g.2.2.1,j1 x
 flen:g.2.2.1.length≤8*n
 clen:g.2.2.2.length≤n
def aL (at_:Int) (s:Dy) (c:TA):TA :=
 (c.1,c.2.1,c.2.2.1,c.2.2.2.1,at_,s.2.2.2.2.2,s.2.1,s.2.2.1,if (c.1==2)=true then s.2.2.2.2.1 else c.2.2.2.2.2.2.2.2)
def SE (at_:Int) (cs:List TA) (s:Dy):List TA :=
 if (decide (s.1≥(cs.length:Int))||decide ((cs.getD s.1.toNat Je).2.2.2.2.1≥0))=true then cs else cs.set s.1.toNat (aL at_ s (cs.getD s.1.toNat Je))
def Ga (g:Av) (n:AA) (told:List B6) (said:List Dy) (at_:Int):Av :=
 (g.1,g.2.1.set (n.1-1).toNat n,g.2.2.1++told,said.foldl (SE at_) g.2.2.2)
theorem gZ (at_:Int) (cs:List TA) (s:Dy):(SE at_ cs s).length=cs.length:=by unfold SE; split<;>simp
theorem Tv (at_:Int):∀ (said:List Dy) (cs:List TA),(said.foldl (SE at_) cs).length=cs.length
 | [],cs=>rfl
 | s::l,cs=>by rw [List.foldl_cons,Tv at_ l,gZ]
theorem fT {α:Type} {l:List α} {i:Nat} {a d:α} (h:i<l.length):(l.set i a).getD i d=a:=by simp [List.getD,h]
theorem Eh (n:AA) (told:List B6) (said:List Dy) (at_:Int) (g:Av) (hn:1≤n.1∧n.1≤6) (h6:g.2.1.length=6) (hf:g.2.2.1.length+told.length≤68719476736) (hc:g.2.2.2.length≤68719476736) (hs:aK said) :
  Dj n told said at_ g=some (Ga g n told said at_):=W7 (by
 have hsl:=hs.1
 unfold Ou
 rw [AY (show -9223372036854775808≤n.1-1∧n.1-1≤9223372036854775807 by omega)]
 simp only [List.nil_append,List.length_nil,Nat.zero_add]
 rw [if_pos (by omega),if_pos (by omega),if_pos (by omega),if_pos (by omega),if_pos (by omega)]
 have key:=Gz (n:=said.length) (P:=fun i=>∀ (cs:List TA),cs.length≤68719476736→Bv said at_ (i:Int) (g.1,g.2.1.set (n.1-1).toNat n,g.2.2.1++told,cs) n (g.2.1.set (n.1-1).toNat n) (g.2.2.1++told)=some (g.1,g.2.1.set (n.1-1).toNat n,g.2.2.1++told,(said.drop i).foldl (SE at_) cs)) (fun cs hcs=>Kt (by
  unfold Gi
  rw [if_neg (by simp)]
  simp)) (fun i hi ih cs hcs=>Kt (by
  unfold Gi
  have hz:said.getD i ((0:Int),(0:Int),(0:Int),ByteArray.empty,ByteArray.empty,(0:Int))=said[i]:=AU hi
  have h0:=(hs.2 said[i] (List.getElem_mem hi)).1
  simp only [show ((i:Int)<(said.length:Int)) from by omega,decide_true,if_true,show (0:Int)≤(i:Int) from by omega,Int.toNat_natCast,hz,AR (show i<9223372036854775807 by omega)]
  have hz3:cs.getD said[i].1.toNat ((0:Int),ByteArray.empty,ByteArray.empty,(0:Int),(0:Int),(0:Int),(0:Int),(0:Int),ByteArray.empty)=cs.getD said[i].1.toNat Je:=rfl
  rw [Bm hi,List.foldl_cons,hz3]
  by_cases c1:said[i].1≥(cs.length:Int)
  ·rw [if_pos (by simpa using c1),ih cs hcs]
   have:SE at_ cs said[i]=cs:=by unfold SE; rw [if_pos (by simp [c1])]
   rw [this]
  ·rw [if_neg (by simpa using c1),if_pos (by omega),if_pos (by omega)]
   by_cases c2:(cs.getD said[i].1.toNat Je).2.2.2.2.1≥0
   ·rw [if_pos (show decide ((cs.getD said[i].1.toNat Je).2.2.2.2.1≥0)=true from decide_eq_true c2),ih cs hcs]
    have:SE at_ cs said[i]=cs:=by unfold SE; rw [if_pos (by rw [decide_eq_true c2,Bool.or_true])]
    rw [this]
   ·rw [if_neg (show ¬ decide ((cs.getD said[i].1.toNat Je).2.2.2.2.1≥0)=true from fun h=>c2 (of_decide_eq_true h))]
    have hcl:said[i].1.toNat<cs.length:=by omega
    have e:SE at_ cs said[i]=cs.set said[i].1.toNat (aL at_ said[i] (cs.getD said[i].1.toNat Je)):=by unfold SE; rw [if_neg (by rw [decide_eq_false c1,decide_eq_false c2]; simp)]
    rw [e]
    refine Sn ?_
    unfold Kr
    have hz2:∀ (l:List TA),l.getD said[i].1.toNat ((0:Int),ByteArray.empty,ByteArray.empty,(0:Int),(0:Int),(0:Int),(0:Int),(0:Int),ByteArray.empty)=l.getD said[i].1.toNat Je:=fun l=>rfl
    simp only [List.nil_append,List.length_nil,Nat.zero_add,hz2,fT hcl,List.set_set,List.length_set]
    have hk:∀ r,(if cs.length≤68719476736 then r else (none:Option Av))=r:=fun r=>if_pos hcs
    rw [if_pos (show cs.length≤68719476736 from hcs),if_pos (show (0:Int)≤said[i].1 from h0),if_pos (show said[i].1<(cs.length:Int) by omega),AR (show i<9223372036854775807 by omega)]
    unfold aL
    by_cases c3:(cs.getD said[i].1.toNat Je).1=2
    ·rw [if_pos (show ((cs.getD said[i].1.toNat Je).1==2)=true by simpa using c3),if_pos (show ((cs.getD said[i].1.toNat Je).1==2)=true by simpa using c3)]
     exact ih _ (by simpa using hcs)
    ·rw [if_neg (show ¬ ((cs.getD said[i].1.toNat Je).1==2)=true by simpa using c3),if_neg (show ¬ ((cs.getD said[i].1.toNat Je).1==2)=true by simpa using c3)]
     exact ih _ (by simpa using hcs))) 0 (by omega) g.2.2.2 hc
 exact key)
theorem du {g:Av} {n:AA} {told:List B6} {said:List Dy} {at_:Int} {i j:Nat} (h6:g.2.1.length=6) (hj:j<6) (hn:n.1=(i:Int)+1) (hi:i<6):CD (Ga g n told said at_) j=if j=i then n else CD g j:=by
 unfold CD Ga
 simp only [hn,show ((i:Int)+1-1).toNat=i from by omega]
 by_cases e:j=i
 ·subst e
  rw [if_pos rfl]
  exact fT (by omega)
 ·rw [if_neg e]
  simp [List.getD,List.getElem?_set,Ne.symm e]
theorem Tu.member {g:Av} {k:Nat} (h:Tu g k) {n:AA} {told:List B6} {said:List Dy} {at_:Int} {i:Nat} (hi:i<6) (hn:Gk n) (hid:n.1=(i:Int)+1) (ht:∀ y∈told,j1 y) (hl:told.length≤4):Tu (Ga g n told said at_) (k+1):=by
 refine ⟨h.views,by simp [Ga,h.six],fun j hj=>?_,fun x hx=>?_,?_,?_⟩
 ·rw [du h.six hj hid hi]
  split
  ·rename_i e
   subst e
   exact ⟨hn,hid⟩
  ·exact h.mem j hj
 ·rcases List.mem_append.1 hx with h1 | h1
  ·exact h.fly x h1
  ·exact ht x h1
 ·have:=h.flen
  simp only [Ga,List.length_append]
  omega
 ·have:=h.clen
  simp only [Ga,Tv]
  omega
def SF (g:Av) (at_:Int) (e:HY):Av:=(g.1,g.2.1,g.2.2.1,g.2.2.2++[(e.2.2.2.1,e.2.2.2.2.1,e.2.2.2.2.2,at_,-1,0,0,0,ByteArray.empty)])
def SG (g:Av) (at_:Int) (e:HY):Int×Av :=
 if (B8 (CD g (e.2.1-1).toNat) g.1 e.2.2.2.1 (g.2.2.2.length:Int) e.2.2.2.2.1 e.2.2.2.2.2).2.2.2=true then
  (0,Ga (SF g at_ e) (B8 (CD g (e.2.1-1).toNat) g.1 e.2.2.2.1 (g.2.2.2.length:Int) e.2.2.2.2.1 e.2.2.2.2.2).1 (B8 (CD g (e.2.1-1).toNat) g.1 e.2.2.2.1 (g.2.2.2.length:Int) e.2.2.2.2.1 e.2.2.2.2.2).2.1 (B8 (CD g (e.2.1-1).toNat) g.1 e.2.2.2.1 (g.2.2.2.length:Int) e.2.2.2.2.1 e.2.2.2.2.2).2.2.1 at_)
 else (1,SF g at_ e)
theorem fU {e:HY} (h:L_ e=true):1≤e.1∧e.1≤6∧1≤e.2.1∧e.2.1≤6∧0≤e.2.2.1:=by
 unfold L_ at h
 simp only [Bool.and_eq_true,decide_eq_true_eq] at h
 omega
theorem Tu.told {g:Av} {k:Nat} (h:Tu g k):True:=trivial
theorem ic {m n:AA} {l:List B6} (h:Tt m n l):∀ y∈l,j1 y:=fun y hy=>(h y hy).1
theorem Tw (at_:Int) (e:HY) (g:Av) (k:Nat) (hg:Tu g k) (hk:k≤1000) (hn:1≤e.2.1∧e.2.1≤6):KO at_ e g=some (SG g at_ e)∧Tu (SG g at_ e).2 (k+1)∧(SG g at_ e).2.1=g.1:=by
 have hc:=hg.clen
 have hf:=hg.flen
 have h6:=hg.six
 have wn:IntKind.i64.wrap (e.2.1-1)=e.2.1-1:=AY (by omega)
 have wl:IntKind.i64.wrap (((g.2.2.2.length+1:Nat):Int)-1)=(g.2.2.2.length:Int):=by rw [AY (by omega)]; omega
 obtain ⟨m1,m2⟩:=hg.mem (e.2.1-1).toNat (by omega)
 have hb:=W_ (op:=e.2.2.2.1) (call:=(g.2.2.2.length:Int)) (key:=e.2.2.2.2.1) (val:=e.2.2.2.2.2) m1 hg.views
 refine ⟨YZ ?_,?_,?_⟩
 ·unfold Qj SG
  simp only [List.nil_append,List.length_nil,Nat.zero_add,List.length_append,List.length_cons]
  rw [if_pos (by omega),if_pos (by omega),wn,if_pos (by omega),if_pos (by omega),wl,
   show g.2.1.getD (e.2.1-1).toNat ((0:Int),(0:Int),false,false,false,false,([]:List Int),([]:List AP),(0:Int),(0:Int),(0:Int),(0:Int),(ByteArray.empty,ByteArray.empty,(0:Int)),([]:List Int))=CD g (e.2.1-1).toNat from rfl,
   Qr _ _ _ _ _ _ m1 hg.views,Option.bind_some]
  cases hq:(B8 (CD g (e.2.1-1).toNat) g.1 e.2.2.2.1 (g.2.2.2.length:Int) e.2.2.2.2.1 e.2.2.2.2.2).2.2.2 with
  | false=>rfl
  | true =>
   have hid:=hb.id hq
   have hmo:=hb.mok hq
   have htl:=hb.tlen
   rw [if_neg (by simp),if_pos rfl]
   have:=Eh (B8 (CD g (e.2.1-1).toNat) g.1 e.2.2.2.1 (g.2.2.2.length:Int) e.2.2.2.2.1 e.2.2.2.2.2).1 (B8 (CD g (e.2.1-1).toNat) g.1 e.2.2.2.1 (g.2.2.2.length:Int) e.2.2.2.2.1 e.2.2.2.2.2).2.1 (B8 (CD g (e.2.1-1).toNat) g.1 e.2.2.2.1 (g.2.2.2.length:Int) e.2.2.2.2.1 e.2.2.2.2.2).2.2.1 at_ (SF g at_ e) hmo.id h6 (by show g.2.2.1.length+_≤_; omega) (by simp only [SF,List.length_append,List.length_cons,List.length_nil]; omega) hb.said
   unfold SF at this ⊢
   rw [this]
   rfl
 ·unfold SG
  have hgc:∀ (P:Av→Prop),P (SF g at_ e)→P (SF g at_ e):=fun _ h=>h
  split
  ·rename_i hq
   have hid:=hb.id hq
   have hmo:=hb.mok hq
   have htl:=hb.tlen
   have hm:=hg.member (said:=(B8 (CD g (e.2.1-1).toNat) g.1 e.2.2.2.1 (g.2.2.2.length:Int) e.2.2.2.2.1 e.2.2.2.2.2).2.2.1) (at_:=at_) (i:=(e.2.1-1).toNat) (by omega) hmo (by rw [hid,m2]) (ic (hb.told hq)) htl
   exact ⟨hm.views,hm.six,hm.mem,hm.fly,hm.flen,by simp only [Ga,Tv,SF,List.length_append,List.length_cons,List.length_nil]; omega⟩
  ·exact ⟨hg.views,hg.six,hg.mem,hg.fly,by have:=hg.flen; show g.2.2.1.length≤_; omega,by simp only [SF,List.length_append,List.length_cons,List.length_nil]; omega⟩
 ·unfold SG; split<;>rfl
end Go.Proofs.YtaedipailemlcaaGreat.Core

namespace Go.Proofs.YtaedipailemlcaaGreat.Core
open Go
set_option linter.unusedVariables false
set_option linter.unusedSimpArgs false
def SH (g:Av) (at_:Int) (m:AA) (node:Int):Nat→Int→Int×Av
 | 0,_=>(1,g)
 | k+1,e=>if ((g.1.getD (e-1).toNat []).getD 0 0 != node)=true then SH g at_ m node k (e+1)
  else if (GI m g.1 e).2.2=true then (0,Ga g (GI m g.1 e).1 (GI m g.1 e).2.1 [] at_) else (1,g)
def aM (g:Av) (at_ node:Int):Int×Av:=SH g at_ (CD g (node-1).toNat) node ((g.1.length:Int)-(CD g (node-1).toNat).2.1).toNat ((CD g (node-1).toNat).2.1+1)
theorem Tu.up {g:Av} {k:Nat} (h:Tu g k):Tu g (k+1):=⟨h.views,h.six,h.mem,h.fly,by have:=h.flen; omega,by have:=h.clen; omega⟩
theorem Tx (at_ node:Int) (g:Av) (k:Nat) (hg:Tu g k) (hk:k≤1000) (hn:1≤node∧node≤6):KP at_ node g=some (aM g at_ node)∧Tu (aM g at_ node).2 (k+1)∧(aM g at_ node).2.1=g.1:=by
 have hc:=hg.clen
 have hf:=hg.flen
 have h6:=hg.six
 have hvl:=hg.views.len
 have wn:IntKind.i64.wrap (node-1)=node-1:=AY (by omega)
 obtain ⟨m1,m2⟩:=hg.mem (node-1).toNat (by omega)
 have hep:=m1.ep
 have wm:IntKind.i64.wrap ((CD g (node-1).toNat).2.1+1)=(CD g (node-1).toNat).2.1+1:=AY (by omega)
 have key:∀ (j:Nat) (e:Int),e=(g.1.length:Int)+1-(j:Int)→2≤e→FK at_ node e g (CD g (node-1).toNat)=some (SH g at_ (CD g (node-1).toNat) node j e)∧Tu (SH g at_ (CD g (node-1).toNat) node j e).2 (k+1)∧(SH g at_ (CD g (node-1).toNat) node j e).2.1=g.1:=by
  intro j
  induction j with
  | zero =>
   intro e he h2
   refine ⟨HU ?_,hg.up,rfl⟩
   unfold FM
   rw [if_neg (by simp; omega)]
   rfl
  | succ j ih =>
   intro e he h2
   have we:IntKind.i64.wrap (e-1)=e-1:=AY (by omega)
   have we2:IntKind.i64.wrap (e+1)=e+1:=AY (by omega)
   have gv:=hg.views.get (i:=(e-1).toNat) (by omega)
   have ha:=bZ (e:=e) m1 hg.views
   obtain ⟨i1,i2,i3⟩:=ih (e+1) (by omega) (by omega)
   unfold SH
   refine ⟨HU ?_,?_,?_⟩
   ·unfold FM
    rw [if_pos (by simp; omega),we,we2,if_pos (by omega),if_pos (by omega),if_pos (by omega),if_pos (by omega),show (g.1.getD (e-1).toNat ([]:List Int)).getD (0:Int).toNat 0=(g.1.getD (e-1).toNat []).getD 0 0 from rfl]
    by_cases h3:((g.1.getD (e-1).toNat []).getD 0 0 != node)=true
    ·rw [if_pos h3,if_pos h3,i1]
    ·rw [if_neg h3,if_neg h3,Yf _ _ _ m1 hg.views,Option.bind_some]
     cases hq:(GI (CD g (node-1).toNat) g.1 e).2.2 with
     | false=>rfl
     | true =>
      obtain ⟨a1,a2,a3,a4⟩:=ha hq
      rw [if_neg (by simp),if_pos rfl,Eh _ _ _ _ _ a1.id h6 (by omega) (by omega) EZ]
      rfl
   ·split
    ·exact i2
    ·split
     ·rename_i hq
      obtain ⟨a1,a2,a3,a4⟩:=ha hq
      exact hg.member (i:=(node-1).toNat) (by omega) a1 (by rw [a2,m2]) (ic a3) a4
     ·exact hg.up
   ·split
    ·exact i3
    ·split<;>rfl
 have hmain:=key ((g.1.length:Int)-(CD g (node-1).toNat).2.1).toNat ((CD g (node-1).toNat).2.1+1)
 by_cases hle:(CD g (node-1).toNat).2.1≤(g.1.length:Int)
 ·obtain ⟨k1,k2,k3⟩:=hmain (by omega) (by omega)
  refine ⟨Qk ?_,k2,k3⟩
  unfold KZ
  rw [wn,if_pos (by omega),if_pos (by omega),show g.2.1.getD (node-1).toNat ((0:Int),(0:Int),false,false,false,false,([]:List Int),([]:List AP),(0:Int),(0:Int),(0:Int),(0:Int),(ByteArray.empty,ByteArray.empty,(0:Int)),([]:List Int))=CD g (node-1).toNat from rfl,wm]
  exact k1
 ·have e0:((g.1.length:Int)-(CD g (node-1).toNat).2.1).toNat=0:=by omega
  unfold aM
  rw [e0]
  refine ⟨Qk ?_,hg.up,rfl⟩
  unfold KZ
  rw [wn,if_pos (by omega),if_pos (by omega),show g.2.1.getD (node-1).toNat ((0:Int),(0:Int),false,false,false,false,([]:List Int),([]:List AP),(0:Int),(0:Int),(0:Int),(0:Int),(ByteArray.empty,ByteArray.empty,(0:Int)),([]:List Int))=CD g (node-1).toNat from rfl,wm]
  refine HU ?_
  unfold FM
  rw [if_neg (fun h=>hle (by have:=of_decide_eq_true h; omega))]
  rfl
def Xc (g:Av) (i:Nat):Av:=(g.1,g.2.1,g.2.2.1.take i++g.2.2.1.drop (i+1),g.2.2.2)
def eV (g:Av) (at_:Int) (e:HY):Int×Av :=
 if g.2.2.1=[] then (1,g)
 else if e.1=4 then (0,(g.1,g.2.1,g.2.2.1++[g.2.2.1.getD (e.2.2.1 % (g.2.2.1.length:Int)).toNat Gd],g.2.2.2))
 else if e.1=3 then (0,Xc g (e.2.2.1 % (g.2.2.1.length:Int)).toNat)
 else (0,Ga (Xc g (e.2.2.1 % (g.2.2.1.length:Int)).toNat)
  (O4 (CD g ((g.2.2.1.getD (e.2.2.1 % (g.2.2.1.length:Int)).toNat Gd).2.2.1-1).toNat) g.1 (g.2.2.1.getD (e.2.2.1 % (g.2.2.1.length:Int)).toNat Gd)).1
  (O4 (CD g ((g.2.2.1.getD (e.2.2.1 % (g.2.2.1.length:Int)).toNat Gd).2.2.1-1).toNat) g.1 (g.2.2.1.getD (e.2.2.1 % (g.2.2.1.length:Int)).toNat Gd)).2.1
  (O4 (CD g ((g.2.2.1.getD (e.2.2.1 % (g.2.2.1.length:Int)).toNat Gd).2.2.1-1).toNat) g.1 (g.2.2.1.getD (e.2.2.1 % (g.2.2.1.length:Int)).toNat Gd)).2.2 at_)
theorem Tu.less {g:Av} {k:Nat} (h:Tu g k) (i:Nat):Tu (Xc g i) k:=by
 refine ⟨h.views,h.six,h.mem,fun x hx=>?_,?_,h.clen⟩
 ·rcases List.mem_append.1 hx with h1 | h1
  ·exact h.fly x (List.mem_of_mem_take h1)
  ·exact h.fly x (List.mem_of_mem_drop h1)
 ·have:=h.flen
  simp only [Xc,List.length_append,List.length_take,List.length_drop]
  omega
theorem XA (at_:Int) (e:HY) (g:Av) (k:Nat) (hg:Tu g k) (hk:k≤1000) (hn:0≤e.2.2.1):Nf at_ e g=some (eV g at_ e)∧Tu (eV g at_ e).2 (k+1)∧(eV g at_ e).2.1=g.1:=by
 have hc:=hg.clen
 have hf:=hg.flen
 have h6:=hg.six
 have hvl:=hg.views.len
 by_cases h0:g.2.2.1=[]
 ·unfold eV
  rw [if_pos h0]
  refine ⟨S7 ?_,hg.up,rfl⟩
  unfold Nj
  rw [h0,if_pos (by rfl)]
 ·have hl:0<g.2.2.1.length:=List.length_pos_iff.2 h0
  have hm:Int.tmod e.2.2.1 (g.2.2.1.length:Int)=e.2.2.1 % (g.2.2.1.length:Int):=Int.tmod_eq_emod_of_nonneg hn
  have hr0:=Int.emod_nonneg e.2.2.1 (show (g.2.2.1.length:Int)≠0 by omega)
  have hr1:=Int.emod_lt_of_pos e.2.2.1 (show 0<(g.2.2.1.length:Int) by omega)
  generalize hq:e.2.2.1 % (g.2.2.1.length:Int)=q at hm hr0 hr1
  have hx:=hg.fly (g.2.2.1.getD q.toNat Gd) (by rw [AU (show q.toNat<g.2.2.1.length by omega)]; exact List.getElem_mem _)
  have wq:IntKind.i64.wrap (q+1)=q+1:=AY (by omega)
  have hto:=hx.to
  have wt:IntKind.i64.wrap ((g.2.2.1.getD q.toNat Gd).2.2.1-1)=(g.2.2.1.getD q.toNat Gd).2.2.1-1:=AY (by omega)
  obtain ⟨m1,m2⟩:=hg.mem ((g.2.2.1.getD q.toNat Gd).2.2.1-1).toNat (by omega)
  have hh:=dr (x:=g.2.2.1.getD q.toNat Gd) m1 hg.views
  have hless:=hg.less q.toNat
  have hxl:=Sa hx.items
  have hz:g.2.2.1.getD q.toNat ((0:Int),(0:Int),(0:Int),(0:Int),(0:Int),([]:List AP))=g.2.2.1.getD q.toNat Gd:=rfl
  have hz2:∀ i,g.2.1.getD i ((0:Int),(0:Int),false,false,false,false,([]:List Int),([]:List AP),(0:Int),(0:Int),(0:Int),(0:Int),(ByteArray.empty,ByteArray.empty,(0:Int)),([]:List Int))=CD g i:=fun i=>rfl
  have e1:(g.2.2.1.take q.toNat).drop (0:Int).toNat=g.2.2.1.take q.toNat:=rfl
  have e2:(g.2.2.1.take (g.2.2.1.length:Int).toNat).drop (q+1).toNat=g.2.2.1.drop (q.toNat+1):=by
   rw [show (g.2.2.1.length:Int).toNat=g.2.2.1.length from by omega,List.take_length,show (q+1).toNat=q.toNat+1 from by omega]
  unfold eV
  rw [if_neg h0,hq]
  refine ⟨S7 ?_,?_,?_⟩
  ·unfold Nj
   rw [if_neg (by simp; exact h0),if_neg (by omega),hm,hz,wq,wt,hz2,e1,e2,if_pos hr0,if_pos hr1]
   simp only [List.nil_append,List.length_nil,Nat.zero_add]
   by_cases h4:e.1=4
   ·rw [if_pos (by simpa using h4),if_pos h4,if_pos (by omega),if_pos (by simp; omega)]
   ·rw [if_neg (by simpa using h4),if_neg h4,if_pos (by omega),if_pos hr0,if_pos (by omega),if_pos (by omega),if_pos (by omega),if_pos (by omega),if_pos (by simp; omega),if_pos (by simp; omega)]
    by_cases h3:e.1=3
    ·rw [if_pos (by simpa using h3),if_pos h3]
     rfl
    ·rw [if_neg (by simpa using h3),if_neg h3,if_pos (by omega),if_pos (by omega),Ve _ _ _ m1 hg.views (by omega),Option.bind_some]
     have htl:=hh.tlen
     have:=Eh (O4 (CD g ((g.2.2.1.getD q.toNat Gd).2.2.1-1).toNat) g.1 (g.2.2.1.getD q.toNat Gd)).1 (O4 (CD g ((g.2.2.1.getD q.toNat Gd).2.2.1-1).toNat) g.1 (g.2.2.1.getD q.toNat Gd)).2.1 (O4 (CD g ((g.2.2.1.getD q.toNat Gd).2.2.1-1).toNat) g.1 (g.2.2.1.getD q.toNat Gd)).2.2 at_ (Xc g q.toNat) hh.mok.id h6 (by have:=hless.flen; omega) (by have:=hless.clen; omega) hh.said
     unfold Xc at this ⊢
     rw [this]
     rfl
  ·split
   ·refine ⟨hg.views,hg.six,hg.mem,fun x hx'=>?_,by simp only [List.length_append,List.length_cons,List.length_nil]; omega,by show g.2.2.2.length≤_; omega⟩
    rcases List.mem_append.1 hx' with h1 | h1
    ·exact hg.fly x h1
    ·simp only [List.mem_singleton] at h1; subst h1; exact hx
   ·split
    ·exact hless.up
    ·exact hless.member (i:=((g.2.2.1.getD q.toNat Gd).2.2.1-1).toNat) (by omega) hh.mok (by rw [hh.id,m2]) (ic hh.told) hh.tlen
  ·split
   ·rfl
   ·split<;>rfl
def iv (g:Av) (at_:Int) (e:HY):Int×Av :=
 if e.1=1 then SG g at_ e else if e.1=5 then aM g at_ e.2.1
 else if e.1=6 then (0,Ga g (S_ (CD g (e.2.1-1).toNat)) [] [] at_) else eV g at_ e
theorem HC (at_:Int) (e:HY) (g:Av) (k:Nat) (hg:Tu g k) (hk:k≤1000) (he:L_ e=true):K_ at_ e g=some (iv g at_ e)∧Tu (iv g at_ e).2 (k+1)∧(iv g at_ e).2.1=g.1:=by
 have hn:=fU he
 have h6:=hg.six
 have hc:=hg.clen
 have hf:=hg.flen
 unfold iv
 by_cases h1:e.1=1
 ·obtain ⟨a,b,c⟩:=Tw at_ e g k hg hk (by omega)
  rw [if_pos h1]
  refine ⟨LC ?_,b,c⟩
  unfold Ir
  rw [if_pos (by simpa using h1),a]
  rfl
 ·rw [if_neg h1]
  by_cases h5:e.1=5
  ·obtain ⟨a,b,c⟩:=Tx at_ e.2.1 g k hg hk (by omega)
   rw [if_pos h5]
   refine ⟨LC ?_,b,c⟩
   unfold Ir
   rw [if_neg (by simpa using h1),if_pos (by simpa using h5),a]
   rfl
  ·rw [if_neg h5]
   by_cases h7:e.1=6
   ·obtain ⟨m1,m2⟩:=hg.mem (e.2.1-1).toNat (by omega)
    rw [if_pos h7]
    refine ⟨LC ?_,hg.member (i:=(e.2.1-1).toNat) (by omega) m1.fall1 m2 (fun y hy=>by cases hy) (by simp),rfl⟩
    have wn:IntKind.i64.wrap (e.2.1-1)=e.2.1-1:=AY (by omega)
    unfold Ir
    rw [if_neg (by simpa using h1),if_neg (by simpa using h5),if_pos (by simpa using h7),wn,if_pos (by omega),if_pos (by omega),
     show g.2.1.getD (e.2.1-1).toNat ((0:Int),(0:Int),false,false,false,false,([]:List Int),([]:List AP),(0:Int),(0:Int),(0:Int),(0:Int),(ByteArray.empty,ByteArray.empty,(0:Int)),([]:List Int))=CD g (e.2.1-1).toNat from rfl,
     a_,Option.bind_some,Eh _ _ _ _ _ m1.fall1.id h6 (by simp; omega) (by omega) EZ]
    rfl
   ·obtain ⟨a,b,c⟩:=XA at_ e g k hg hk (by omega)
    rw [if_neg h7]
    refine ⟨LC ?_,b,c⟩
    unfold Ir
    rw [if_neg (by simpa using h1),if_neg (by simpa using h5),if_neg (by simpa using h7),a]
    rfl
end Go.Proofs.YtaedipailemlcaaGreat.Core

namespace Go.Proofs.YtaedipailemlcaaGreat.Core
open Go
set_option linter.unusedVariables false
set_option linter.unusedSimpArgs false
theorem Iz (x:List (List Int)) (h:x.length≤1000) (ho:∀ a∈x,a.length≤1000):Eg x=some x:=Sm (by
 unfold Ko
 have key:=Gz (n:=x.length) (P:=fun i=>DR x (i:Int) (x.take i)=some x) (Iu (by
  unfold FJ
  rw [if_neg (by simp),List.take_length])) (fun i hi ih=>Iu (by
  unfold FJ
  have:=ho x[i] (List.getElem_mem hi)
  simp only [show ((i:Int)<(x.length:Int)) from by omega,decide_true,if_true,show (0:Int)≤(i:Int) from by omega,Int.toNat_natCast,AU hi,AR (show i<9223372036854775807 by omega),List.nil_append,List.length_nil,Nat.zero_add,List.length_cons,List.length_take]
  rw [if_pos (by omega),if_pos (by omega),List.take_append_getElem]
  exact ih)) 0 (by omega)
 exact key)
theorem Q3 (x:List B6) (h:x.length≤100000) (ho:∀ a∈x,a.2.2.2.2.2.length≤1000):HK x=some x:=Tq (by
 unfold L9
 have key:=Gz (n:=x.length) (P:=fun i=>Cc x (i:Int) (x.take i)=some x) (JC (by
  unfold Fg
  rw [if_neg (by simp),List.take_length])) (fun i hi ih=>JC (by
  unfold Fg
  have:=ho x[i] (List.getElem_mem hi)
  simp only [show ((i:Int)<(x.length:Int)) from by omega,decide_true,if_true,show (0:Int)≤(i:Int) from by omega,Int.toNat_natCast,AU hi,AR (show i<9223372036854775807 by omega),List.nil_append,List.length_nil,Nat.zero_add,List.length_cons,List.length_take]
  rw [if_pos (by omega),if_pos (by omega)]
  change Cc x _ (x.take i++[x[i]])=_
  rw [List.take_append_getElem]
  exact ih)) 0 (by omega)
 exact key)
theorem Vg (g:Av) (k:Nat) (hg:Tu g k) (hk:k≤1000):Li g=some g:=Z_ (by
 have hvl:=hg.views.len
 have hc:=hg.clen
 have hf:=hg.flen
 have h6:=hg.six
 unfold R2
 rw [Iz g.1 (by omega) (fun a ha=>by have:=hg.views.view ha; omega),Option.bind_some,Q3 g.2.2.1 (by omega) (fun a ha=>by have:=Sa (hg.fly a ha).items; omega),Option.bind_some,if_pos (by simp; omega)]
 have key:∀ (a b c d e:_),EU ((0:Nat):Int) g.1 g.2.1 g.2.2.1 g.2.2.2 a b c d e [] g.1 g.2.2.1 ([]++g.2.2.2)=some g:=by
  intro a b c d e
  have key':=Gz (n:=g.2.1.length) (P:=fun i=>EU (i:Int) g.1 g.2.1 g.2.2.1 g.2.2.2 a b c d e (g.2.1.take i) g.1 g.2.2.1 ([]++g.2.2.2)=some g) (NR (by
   unfold It
   rw [if_neg (by simp),List.take_length]
   rfl)) (fun i hi ih=>NR (by
   unfold It
   have hm:=(hg.mem i (by omega)).1
   unfold CD at hm
   rw [AU hi] at hm
   simp only [show ((i:Int)<(g.2.1.length:Int)) from by omega,decide_true,if_true,show (0:Int)≤(i:Int) from by omega,Int.toNat_natCast,AU hi,hm.copy,Option.bind_some,AR (show i<9223372036854775807 by omega),List.length_take,List.length_cons,List.length_nil]
   rw [if_pos (by omega),List.take_append_getElem]
   exact ih)) 0 (by omega)
  exact key'
 exact key _ _ _ _ _)
def CU (views:List (List Int)):Av:=(views,[D0 1 views,D0 2 views,D0 3 views,D0 4 views,D0 5 views,D0 6 views],[],[])
theorem Sd {views:List (List Int)} (hv:S8 views):Tu (CU views) 0:=by
 refine ⟨hv,rfl,fun i hi=>?_,fun x hx=>(by cases hx),(by simp [CU]),(by simp [CU])⟩
 have h5:i=0∨i=1∨i=2∨i=3∨i=4∨i=5:=by omega
 rcases h5 with rfl | rfl | rfl | rfl | rfl | rfl<;>exact ⟨Gk.first1 (by omega) hv,rfl⟩
theorem I0 {views:List (List Int)} (hv:S8 views):G8 views=some (CU views,true):=YY (by
 have hvl:=hv.len
 unfold Qi
 rw [EY hv,Option.bind_some,if_neg (by simp),Iz views (by omega) (fun a ha=>by have:=hv.view ha; omega),Option.bind_some]
 have step:∀ (i:Nat) (a:_) (b:_) (c:_) (d:_) (l:List AA) r,1≤i→i≤6→l.length≤6→Dv views ((i+1:Nat):Int) a b c d (l++[D0 (i:Int) views]) views=some r→Dv views (i:Int) a b c d l views=some r:=by
  intro i a b c d l r h1 h6 hl hr
  refine L7 ?_
  unfold HT
  rw [if_pos (by simp; omega),Kv _ _ (by omega) hv,Option.bind_some,if_pos (by simp; omega),AR (show i<9223372036854775807 by omega)]
  exact hr
 refine step 1 _ _ _ _ _ _ (by omega) (by omega) (by simp) ?_
 refine step 2 _ _ _ _ _ _ (by omega) (by omega) (by simp) ?_
 refine step 3 _ _ _ _ _ _ (by omega) (by omega) (by simp) ?_
 refine step 4 _ _ _ _ _ _ (by omega) (by omega) (by simp) ?_
 refine step 5 _ _ _ _ _ _ (by omega) (by omega) (by simp) ?_
 refine step 6 _ _ _ _ _ _ (by omega) (by omega) (by simp) ?_
 refine L7 ?_
 unfold HT
 rw [if_neg (by decide)]
 rfl)
def Nm:Nat→List HY→Av→List Int→Av×List Int
 | _,[],g,cs=>(g,cs)
 | n,e::es,g,cs=>Nm (n+1) es (iv g (n:Int) e).2 (cs++[(iv g (n:Int) e).1])
theorem cj:∀ (es:List HY) (n:Nat) (g:Av) (cs:List Int),Tu g n→n+es.length≤70→(∀ e∈es,L_ e=true)→Tu (Nm n es g cs).1 (n+es.length)∧(Nm n es g cs).1.1=g.1∧(Nm n es g cs).2.length=cs.length+es.length
 | [],n,g,cs,hg,_,_=>⟨hg,rfl,rfl⟩
 | e::es,n,g,cs,hg,hn,he=>by
  simp only [List.length_cons] at hn
  obtain ⟨_,h2,h3⟩:=HC (n:Int) e g n hg (by omega) (he e (by simp))
  obtain ⟨h4,h5,h6⟩:=cj es (n+1) _ (cs++[(iv g (n:Int) e).1]) h2 (by omega) (fun x hx=>he x (by simp [hx]))
  refine ⟨?_,h5.trans h3,?_⟩
  ·have:n+(e::es).length=n+1+es.length:=by simp only [List.length_cons]; omega
   rw [this]
   exact h4
  ·simp only [Nm,h6,List.length_append,List.length_cons,List.length_nil]
   omega
theorem Vh {views:List (List Int)} {events:List HY} (hv:S8 views) (hl:events.length≤70) (he:∀ e∈events,L_ e=true) :
  KL views events=some ((Nm 0 events (CU views) []).1,(Nm 0 events (CU views) []).2,true):=YR (by
 have hg:=Sd hv
 obtain ⟨r1,r2,r3⟩:=cj events 0 (CU views) [] hg (by omega) he
 unfold Qf
 rw [I0 hv,Option.bind_some]
 have L3:∀ y,Dr events ((0:Nat):Int) y (CU views) []=some ((Nm 0 events (CU views) []).1,(Nm 0 events (CU views) []).2,true):=by
  intro y
  have key:=Gz (n:=events.length) (P:=fun i=>∀ (g:Av) (cs:List Int),Tu g i→cs.length=i→Nm i (events.drop i) g cs=Nm 0 events (CU views) []→Dr events (i:Int) y g cs=some ((Nm 0 events (CU views) []).1,(Nm 0 events (CU views) []).2,true)) (fun g cs hgi hcs hr=>Lz (by
   unfold HQ
   rw [if_neg (by simp),Vg g events.length hgi (by omega),Option.bind_some]
   rw [List.drop_eq_nil_of_le (Nat.le_refl _)] at hr
   rw [← hr]
   rfl)) (fun i hi ih g cs hgi hcs hr=>Lz (by
   unfold HQ
   obtain ⟨d1,d2,_⟩:=HC (i:Int) events[i] g i hgi (by omega) (he _ (List.getElem_mem hi))
   simp only [show ((i:Int)<(events.length:Int)) from by omega,decide_true,if_true,show (0:Int)≤(i:Int) from by omega,Int.toNat_natCast,AU hi,d1,Option.bind_some,AR (show i<9223372036854775807 by omega)]
   rw [if_pos (by simp; omega)]
   refine ih _ _ d2 (by simp; omega) ?_
   rw [Bm hi] at hr
   exact hr)) 0 (by omega) (CU views) [] hg rfl rfl
  exact key
 have L0:∀ y,Ci events true ((0:Nat):Int) y (CU views)=some ((Nm 0 events (CU views) []).1,(Nm 0 events (CU views) []).2,true):=by
  intro y
  have J2:FF events true y (CU views)=some ((Nm 0 events (CU views) []).1,(Nm 0 events (CU views) []).2,true):=Tj (by
   unfold Ly
   rw [if_neg (by simp)]
   exact L3 y)
  refine Gz (n:=events.length) (P:=fun i=>Ci events true (i:Int) y (CU views)=some ((Nm 0 events (CU views) []).1,(Nm 0 events (CU views) []).2,true)) (L1 (by
   unfold HR
   rw [if_neg (by simp)]
   exact J2)) (fun i hi ih=>L1 (by
   unfold HR
   rw [if_pos (by simpa using hi),if_pos rfl]
   refine Ti ?_
   unfold Lx
   have hz:events.getD i ((0:Int),(0:Int),(0:Int),(0:Int),ByteArray.empty,ByteArray.empty)=events[i]:=AU hi
   rw [if_pos (by simp; omega),if_pos (by omega),if_pos (by omega),Int.toNat_natCast,hz,VX,he _ (List.getElem_mem hi),Option.bind_some,AR (show i<9223372036854775807 by omega)]
   exact ih)) 0 (by omega)
 exact L0 _)
theorem Ty (d:Hn) (h:No d):∃ v d',KN d=some (v,d')∧No d'∧S8 v:=by
 have inner:∀ (m j:Nat),j+m=3→∀ (i:Int) (d:Hn) (vs:List (List Int)) (v:List Int),No d→0≤i→vs.length≤10→v.length≤j→(j=0∨1≤v.length)→(∀ a∈v,1≤a∧a≤6)→v.Nodup →
   ∃ v' d',iu v'∧No d'∧∀ r,Dt (IntKind.i64.wrap (i+1)) d' (vs++[v'])=some r→Ds i (j:Int) d vs v=some r:=by
  intro m
  induction m with
  | zero =>
   intro j hj i d vs v hd hi hvs hv h1 hm hnd
   obtain ⟨y,d1,e1,k1,y0,y1⟩:=BC 3 d hd
   have y1:=y1 (by omega)
   refine ⟨v,d1,⟨by omega,hm,hnd⟩,k1,fun r hr=>FI ?_⟩
   unfold Du
   have wy:IntKind.i64.wrap (1+y)=1+y:=AY (by omega)
   rw [e1,Option.bind_some,wy,if_neg (by simp; omega),if_pos (by simp; omega)]
   exact hr
  | succ m ih =>
   intro j hj i d vs v hd hi hvs hv h1 hm hnd
   obtain ⟨y,d1,e1,k1,y0,y1⟩:=BC 3 d hd
   have y1:=y1 (by omega)
   have wy:IntKind.i64.wrap (1+y)=1+y:=AY (by omega)
   by_cases hlt:(j:Int)<1+y
   ·obtain ⟨z,d2,e2,k2,z0,z1⟩:=BC 4 d1 k1
    have z1:=z1 (by omega)
    have wz:IntKind.i64.wrap (1+z)=1+z:=AY (by omega)
    by_cases hc:v.contains (1+z)=true
    ·obtain ⟨v',d',w1,w2,w3⟩:=ih (j+1) (by omega) i d2 vs v k2 hi hvs (by omega) (.inr (by
      cases v with
      | nil=>simp at hc
      | cons a v=>simp)) hm hnd
     refine ⟨v',d',w1,w2,fun r hr=>FI ?_⟩
     unfold Du
     rw [e1,Option.bind_some,wy,if_pos (by simpa using hlt),e2,Option.bind_some,wz,B5 v _ (by unfold maxLen; omega),Option.bind_some,hc,if_neg (by simp),AR (show j<9223372036854775807 by omega)]
     exact w3 r hr
    ·have hc':v.contains (1+z)=false:=by simpa using hc
     obtain ⟨v',d',w1,w2,w3⟩:=ih (j+1) (by omega) i d2 vs (v++[1+z]) k2 hi hvs (by simp; omega) (.inr (by simp)) (fun a ha=>by
      rcases List.mem_append.1 ha with h | h
      ·exact hm a h
      ·simp only [List.mem_singleton] at h; omega) (by
      rw [List.nodup_append]
      refine ⟨hnd,by simp,fun a ha b hb e=>?_⟩
      simp only [List.mem_singleton] at hb
      subst hb
      subst e
      rw [List.contains_iff_mem.2 ha] at hc'
      cases hc')
     refine ⟨v',d',w1,w2,fun r hr=>FI ?_⟩
     unfold Du
     rw [e1,Option.bind_some,wy,if_pos (by simpa using hlt),e2,Option.bind_some,wz,B5 v _ (by unfold maxLen; omega),Option.bind_some,hc',if_pos (by rfl),if_pos (by simp; omega),AR (show j<9223372036854775807 by omega)]
     exact w3 r hr
   ·refine ⟨v,d1,⟨by omega,hm,hnd⟩,k1,fun r hr=>FI ?_⟩
    unfold Du
    rw [e1,Option.bind_some,wy,if_neg (by simpa using hlt),if_pos (by simp; omega)]
    exact hr
 have outer:∀ (m i:Nat),i+m=5→∀ (d:Hn) (vs:List (List Int)),No d→vs.length=i→(∀ v∈vs,iu v)→∃ v' d',Dt (i:Int) d vs=some (v',d')∧No d'∧S8 v':=by
  have fin:∀ (vs:List (List Int)),1≤vs.length→vs.length≤5→(∀ v∈vs,iu v)→S8 vs:=fun vs h1 h2 h3=>⟨G0.2 ⟨fun v hv=>fQ.2 (h3 v hv),h1,by omega⟩⟩
  intro m
  induction m with
  | zero =>
   intro i hi d vs hd hl hv
   obtain ⟨y,d1,e1,k1,y0,y1⟩:=BC 5 d hd
   have y1:=y1 (by omega)
   have wy:IntKind.i64.wrap (1+y)=1+y:=AY (by omega)
   refine ⟨vs,d1,HS ?_,k1,fin vs (by omega) (by omega) hv⟩
   unfold FH
   rw [e1,Option.bind_some,wy,if_neg (by simp; omega)]
  | succ m ih =>
   intro i hi d vs hd hl hv
   obtain ⟨y,d1,e1,k1,y0,y1⟩:=BC 5 d hd
   have y1:=y1 (by omega)
   have wy:IntKind.i64.wrap (1+y)=1+y:=AY (by omega)
   by_cases hlt:(i:Int)<1+y
   ·obtain ⟨v',d2,w1,k2,w3⟩:=inner 3 0 (by omega) (i:Int) d1 vs [] k1 (by omega) (by omega) (by simp) (.inl rfl) (by simp) (by simp)
    obtain ⟨r1,d3,q1,q2,q3⟩:=ih (i+1) (by omega) d2 (vs++[v']) k2 (by simp; omega) (fun v hv'=>by
     rcases List.mem_append.1 hv' with h | h
     ·exact hv v h
     ·simp only [List.mem_singleton] at h; subst h; exact w1)
    refine ⟨r1,d3,HS ?_,q2,q3⟩
    unfold FH
    rw [e1,Option.bind_some,wy,if_pos (by simpa using hlt)]
    exact w3 _ (by rw [AR (show i<9223372036854775807 by omega)]; exact q1)
   ·have hi1:1≤i:=by omega
    refine ⟨vs,d1,HS ?_,k1,fin vs (by omega) (by omega) hv⟩
    unfold FH
    rw [e1,Option.bind_some,wy,if_neg (by simpa using hlt)]
 obtain ⟨v,d',e,k,hv⟩:=outer 5 0 (by omega) d [] h rfl (fun v hv=>by cases hv)
 exact ⟨v,d',YX (by unfold Qh; exact e),k,hv⟩
end Go.Proofs.YtaedipailemlcaaGreat.Core

namespace Go.Proofs.YtaedipailemlcaaGreat.Core
open Go
set_option linter.unusedVariables false
set_option linter.unusedSimpArgs false
theorem Vi (d:Hn) (g:Av) (k:Nat) (h:No d) (hg:Tu g k):∃ e d',Lg d g=some (e,d',g)∧No d'∧L_ e=true:=by
 have hvl:=hg.views.len
 have h6:=hg.six
 have ev:∀ (kd nd at_:Int),2≤kd∧kd≤6→1≤nd∧nd≤6→0≤at_→L_ (kd,nd,at_,0,ByteArray.empty,ByteArray.empty)=true:=by
  intro kd nd at_ h1 h2 h3
  unfold L_
  simp only [show decide (1≤kd)=true from decide_eq_true (by omega),show decide (kd≤6)=true from decide_eq_true (by omega),show decide (1≤nd)=true from decide_eq_true (by omega),show decide (nd≤6)=true from decide_eq_true (by omega),show decide (0≤at_)=true from decide_eq_true h3,if_neg (show ¬ kd=1 by omega)]
  simp [eR]
 have ev1:∀ (nd at_ op:Int) (key val:ByteArray),1≤nd∧nd≤6→0≤at_→bW op key val=true→L_ (1,nd,at_,op,key,val)=true:=by
  intro nd at_ op key val h2 h3 h4
  unfold L_
  simp only [show decide (1≤nd)=true from decide_eq_true (by omega),show decide (nd≤6)=true from decide_eq_true (by omega),show decide (0≤at_)=true from decide_eq_true h3,if_true,h4]
  rfl
 have L3:∀ (m i:Nat),i+m=6→∀ (d:Hn) (nd at_ op:Int) (key val:ByteArray) (a b c:_),No d→1≤nd∧nd≤6→∃ nd' d',CN (i:Int) d g a (1,nd,at_,op,key,val) b c=some ((1,nd',at_,op,key,val),d',g)∧No d'∧1≤nd'∧nd'≤6:=by
  intro m
  induction m with
  | zero =>
   intro i hi d nd at_ op key val a b c hd hn
   refine ⟨nd,d,F0 ?_,hd,hn⟩
   unfold ER
   rw [if_neg (by simp; omega)]
  | succ m ih =>
   intro i hi d nd at_ op key val a b c hd hn
   have ws:=AR (show i<9223372036854775807 by omega)
   by_cases hs:(CD g i).2.2.2.2.2.1=true
   ·obtain ⟨o,d1,e1,k1⟩:=EX 4 d hd
    cases o
    ·obtain ⟨nd',d',e2,k2,n2⟩:=ih (i+1) (by omega) d1 ((i+1:Nat):Int) at_ op key val a b c k1 (by omega)
     refine ⟨nd',d',F0 ?_,k2,n2⟩
     unfold ER
     rw [if_pos (by simp; omega),if_pos (by omega),if_pos (by omega),Int.toNat_natCast,show g.2.1.getD i ((0:Int),(0:Int),false,false,false,false,([]:List Int),([]:List AP),(0:Int),(0:Int),(0:Int),(0:Int),(ByteArray.empty,ByteArray.empty,(0:Int)),([]:List Int))=CD g i from rfl,if_pos hs,e1,Option.bind_some,if_pos (by rfl),ws]
     exact e2
    ·obtain ⟨nd',d',e2,k2,n2⟩:=ih (i+1) (by omega) d1 nd at_ op key val a b c k1 hn
     refine ⟨nd',d',F0 ?_,k2,n2⟩
     unfold ER
     rw [if_pos (by simp; omega),if_pos (by omega),if_pos (by omega),Int.toNat_natCast,show g.2.1.getD i ((0:Int),(0:Int),false,false,false,false,([]:List Int),([]:List AP),(0:Int),(0:Int),(0:Int),(0:Int),(ByteArray.empty,ByteArray.empty,(0:Int)),([]:List Int))=CD g i from rfl,if_pos hs,e1,Option.bind_some,if_neg (by simp),ws]
     exact e2
   ·obtain ⟨nd',d',e2,k2,n2⟩:=ih (i+1) (by omega) d nd at_ op key val a b c hd hn
    refine ⟨nd',d',F0 ?_,k2,n2⟩
    unfold ER
    rw [if_pos (by simp; omega),if_pos (by omega),if_pos (by omega),Int.toNat_natCast,show g.2.1.getD i ((0:Int),(0:Int),false,false,false,false,([]:List Int),([]:List AP),(0:Int),(0:Int),(0:Int),(0:Int),(ByteArray.empty,ByteArray.empty,(0:Int)),([]:List Int))=CD g i from rfl,if_neg hs,ws]
    exact e2
 have L4:∀ (m i:Nat),i+m=6→∀ (d:Hn) (kd nd at_:Int) (a:_),No d→1≤nd∧nd≤6→∃ nd' d',CO (i:Int) d g a (kd,nd,at_,0,ByteArray.empty,ByteArray.empty)=some ((kd,nd',at_,0,ByteArray.empty,ByteArray.empty),d',g)∧No d'∧1≤nd'∧nd'≤6:=by
  intro m
  induction m with
  | zero =>
   intro i hi d kd nd at_ a hd hn
   refine ⟨nd,d,ET ?_,hd,hn⟩
   unfold C9
   rw [if_neg (by simp; omega)]
  | succ m ih =>
   intro i hi d kd nd at_ a hd hn
   have ws:=AR (show i<9223372036854775807 by omega)
   obtain ⟨m1,m2⟩:=hg.mem i (by omega)
   have hep:=m1.ep
   have hz:∀ j,g.2.1.getD j ((0:Int),(0:Int),false,false,false,false,([]:List Int),([]:List AP),(0:Int),(0:Int),(0:Int),(0:Int),(ByteArray.empty,ByteArray.empty,(0:Int)),([]:List Int))=CD g j:=fun j=>rfl
   obtain ⟨nd0,d0,e0,k0,n0⟩:=ih (i+1) (by omega) d kd nd at_ a hd hn
   by_cases h1:(CD g i).2.1<(g.1.length:Int)
   ·have gv:=hg.views.get (i:=(CD g i).2.1.toNat) (by omega)
    by_cases h2:((g.1.getD (CD g i).2.1.toNat ([]:List Int)).getD (0:Int).toNat 0==(CD g i).1)=true
    ·obtain ⟨o,d1,e1,k1⟩:=EX 3 d hd
     cases o
     ·obtain ⟨nd',d',e2,k2,n2⟩:=ih (i+1) (by omega) d1 kd (CD g i).1 at_ a k1 (by omega)
      refine ⟨nd',d',ET ?_,k2,n2⟩
      unfold C9
      rw [if_pos (by simp; omega),if_pos (by omega),if_pos (by omega),Int.toNat_natCast,hz,if_pos (by simpa using h1),if_pos (by omega),if_pos (by omega),if_pos (by omega),if_pos (by omega),if_pos h2,e1,Option.bind_some,if_pos (by rfl),ws]
      exact e2
     ·obtain ⟨nd',d',e2,k2,n2⟩:=ih (i+1) (by omega) d1 kd nd at_ a k1 hn
      refine ⟨nd',d',ET ?_,k2,n2⟩
      unfold C9
      rw [if_pos (by simp; omega),if_pos (by omega),if_pos (by omega),Int.toNat_natCast,hz,if_pos (by simpa using h1),if_pos (by omega),if_pos (by omega),if_pos (by omega),if_pos (by omega),if_pos h2,e1,Option.bind_some,if_neg (by simp),ws]
      exact e2
    ·refine ⟨nd0,d0,ET ?_,k0,n0⟩
     unfold C9
     rw [if_pos (by simp; omega),if_pos (by omega),if_pos (by omega),Int.toNat_natCast,hz,if_pos (by simpa using h1),if_pos (by omega),if_pos (by omega),if_pos (by omega),if_pos (by omega),if_neg h2,ws]
     exact e0
   ·refine ⟨nd0,d0,ET ?_,k0,n0⟩
    unfold C9
    rw [if_pos (by simp; omega),if_pos (by omega),if_pos (by omega),Int.toNat_natCast,hz,if_neg (by simpa using h1),ws]
    exact e0
 have keyOk:∀ key∈([(⟨#[97]⟩:ByteArray),(⟨#[98]⟩:ByteArray),(⟨#[99]⟩:ByteArray)]:List ByteArray),key.size=1:=by
  intro key hk
  simp only [List.mem_cons,List.mem_nil_iff,or_false] at hk
  rcases hk with rfl | rfl | rfl<;>rfl
 have valOk:∀ v∈([(⟨#[118]⟩:ByteArray),(⟨#[119]⟩:ByteArray),(⟨#[120]⟩:ByteArray),(⟨#[121]⟩:ByteArray)]:List ByteArray),v.size=1:=by
  intro v hk
  simp only [List.mem_cons,List.mem_nil_iff,or_false] at hk
  rcases hk with rfl | rfl | rfl | rfl<;>rfl
 have J2:∀ (d:Hn) (a:_) (kd nd at_:Int),No d→1≤kd∧kd≤6→1≤nd∧nd≤6→0≤at_→∃ e d',EQ d g a (kd,nd,at_,0,ByteArray.empty,ByteArray.empty)=some (e,d',g)∧No d'∧L_ e=true:=by
  intro d a kd nd at_ hd hk hn ha
  by_cases h1:kd=1
  ·subst h1
   obtain ⟨op,d1,e1,k1,mem1⟩:=KD [1,1,2] (by simp) d hd
   obtain ⟨key,d2,e2,k2,mem2⟩:=NW [(⟨#[97]⟩:ByteArray),(⟨#[98]⟩:ByteArray),(⟨#[99]⟩:ByteArray)] (by simp) d1 k1
   have hkey:=keyOk key mem2
   by_cases ho:op=1
   ·obtain ⟨val,d3,e3,k3,mem3⟩:=NW [(⟨#[118]⟩:ByteArray),(⟨#[119]⟩:ByteArray),(⟨#[120]⟩:ByteArray),(⟨#[121]⟩:ByteArray)] (by simp) d2 k2
    have hval:=valOk val mem3
    obtain ⟨nd',d',e4,k4,n4⟩:=L3 6 0 (by omega) d3 nd at_ op key val a _ _ k3 hn
    refine ⟨_,d',F3 ?_,k4,ev1 nd' at_ op key val n4 ha (by unfold bW; simp [ho,hkey,hval])⟩
    unfold ES
    rw [if_pos (by simp),e1,Option.bind_some,e2,Option.bind_some,if_pos (by simpa using ho),e3,Option.bind_some]
    exact e4
   ·have ho2:op=2:=by simp at mem1; omega
    obtain ⟨nd',d',e4,k4,n4⟩:=L3 6 0 (by omega) d2 nd at_ op key ByteArray.empty a _ _ k2 hn
    refine ⟨_,d',F3 ?_,k4,ev1 nd' at_ op key ByteArray.empty n4 ha (by unfold bW; simp [ho2,hkey,eR])⟩
    unfold ES
    rw [if_pos (by simp),e1,Option.bind_some,e2,Option.bind_some,if_neg (by simpa using ho)]
    exact e4
  ·by_cases h5:kd=5
   ·obtain ⟨nd',d',e4,k4,n4⟩:=L4 6 0 (by omega) d kd nd at_ a hd hn
    refine ⟨_,d',F3 ?_,k4,ev kd nd' at_ (by omega) n4 ha⟩
    unfold ES
    rw [if_neg (by simpa using h1),if_pos (by simpa using h5)]
    exact e4
   ·refine ⟨_,d,F3 ?_,hd,ev kd nd at_ (by omega) hn ha⟩
    unfold ES
    rw [if_neg (by simpa using h1),if_neg (by simpa using h5)]
 have J1:∀ (d:Hn) (a:_) (kd nd at_:Int),No d→1≤kd∧kd≤6→1≤nd∧nd≤6→0≤at_→∃ e d',Af d g a (kd,nd,at_,0,ByteArray.empty,ByteArray.empty)=some (e,d',g)∧No d'∧L_ e=true:=by
  intro d a kd nd at_ hd hk hn ha
  by_cases h2:kd=2
  ·obtain ⟨o,d1,e1,k1⟩:=EX 2 d hd
   cases o
   ·obtain ⟨e,d',e2,k2,v2⟩:=J2 d1 a kd nd at_ k1 hk hn ha
    refine ⟨e,d',Ip ?_,k2,v2⟩
    unfold Fy
    rw [if_pos (by simpa using h2),e1,Option.bind_some,if_neg (by simp)]
    exact e2
   ·obtain ⟨e,d',e2,k2,v2⟩:=J2 d1 a kd nd 0 k1 hk hn (by omega)
    refine ⟨e,d',Ip ?_,k2,v2⟩
    unfold Fy
    rw [if_pos (by simpa using h2),e1,Option.bind_some,if_pos (by rfl)]
    exact e2
  ·obtain ⟨e,d',e2,k2,v2⟩:=J2 d a kd nd at_ hd hk hn ha
   refine ⟨e,d',Ip ?_,k2,v2⟩
   unfold Fy
   rw [if_neg (by simpa using h2)]
   exact e2
 have six:∀ (d:Hn) (a:_) (kd nd at_:Int),No d→1≤kd∧kd≤6→1≤nd∧nd≤6→0≤at_→∃ e d',(if (kd==6)=true then ((Bz 4 d).bind fun y5=>(if (!y5.1)=true then (Af y5.2 g a (1,nd,at_,0,ByteArray.empty,ByteArray.empty)) else (Af y5.2 g a (kd,nd,at_,0,ByteArray.empty,ByteArray.empty)))) else (Af d g a (kd,nd,at_,0,ByteArray.empty,ByteArray.empty)))=some (e,d',g)∧No d'∧L_ e=true:=by
  intro d a kd nd at_ hd hk hn ha
  by_cases h2:kd=6
  ·obtain ⟨o,d1,e1,k1⟩:=EX 4 d hd
   cases o
   ·obtain ⟨e,d',e2,k2,v2⟩:=J1 d1 a 1 nd at_ k1 (by omega) hn ha
    refine ⟨e,d',?_,k2,v2⟩
    rw [if_pos (by simpa using h2),e1,Option.bind_some,if_pos (by rfl)]
    exact e2
   ·obtain ⟨e,d',e2,k2,v2⟩:=J1 d1 a kd nd at_ k1 hk hn ha
    refine ⟨e,d',?_,k2,v2⟩
    rw [if_pos (by simpa using h2),e1,Option.bind_some,if_neg (by simp)]
    exact e2
  ·obtain ⟨e,d',e2,k2,v2⟩:=J1 d a kd nd at_ hd hk hn ha
   refine ⟨e,d',?_,k2,v2⟩
   rw [if_neg (by simpa using h2)]
   exact e2
 obtain ⟨kd,d1,e1,k1,mem1⟩:=KD [1,1,1,2,2,2,2,2,2,2,2,3,4,5,6] (by simp) d h
 obtain ⟨nd,d2,e2,k2,n0,n1⟩:=BC 4 d1 k1
 obtain ⟨at_,d3,e3,k3,a0,a1⟩:=BC 20 d2 k2
 have n1:=n1 (by omega)
 have wn:IntKind.i64.wrap (1+nd)=1+nd:=AY (by omega)
 have hkd:1≤kd∧kd≤6:=by
  simp only [List.mem_cons,List.mem_nil_iff,or_false] at mem1
  omega
 have fin:∃ e d',Io d3 g ((0:Int),(0:Int),(0:Int),(0:Int),ByteArray.empty,ByteArray.empty) (kd,1+nd,at_,0,ByteArray.empty,ByteArray.empty)=some (e,d',g)∧No d'∧L_ e=true:=by
  by_cases hf:((g.2.2.1.length:Int)==0)=true
  ·cases hin:(decide (2≤kd)&&decide (kd≤4)) with
   | true =>
    obtain ⟨e,d',e4,k4,v4⟩:=J1 d3 ((0:Int),(0:Int),(0:Int),(0:Int),ByteArray.empty,ByteArray.empty) 1 (1+nd) at_ k3 (by omega) (by omega) a0
    refine ⟨e,d',Iq ?_,k4,v4⟩
    unfold Fz
    rw [if_pos hf,Ah,Option.bind_some,if_pos hin,if_neg (show ¬ ((1:Int)==6)=true by decide)]
    exact e4
   | false =>
    obtain ⟨e,d',e4,k4,v4⟩:=six d3 ((0:Int),(0:Int),(0:Int),(0:Int),ByteArray.empty,ByteArray.empty) kd (1+nd) at_ k3 hkd (by omega) a0
    refine ⟨e,d',Iq ?_,k4,v4⟩
    unfold Fz
    rw [if_pos hf,Ah,Option.bind_some,if_neg (by rw [hin]; simp)]
    exact e4
  ·obtain ⟨e,d',e4,k4,v4⟩:=six d3 ((0:Int),(0:Int),(0:Int),(0:Int),ByteArray.empty,ByteArray.empty) kd (1+nd) at_ k3 hkd (by omega) a0
   refine ⟨e,d',Iq ?_,k4,v4⟩
   unfold Fz
   rw [if_neg hf]
   exact e4
 obtain ⟨e,d',e4,k4,v4⟩:=fin
 refine ⟨e,d',Z8 ?_,k4,v4⟩
 unfold R0
 rw [e1,Option.bind_some,e2,Option.bind_some,e3,Option.bind_some,wn]
 exact e4
end Go.Proofs.YtaedipailemlcaaGreat.Core

namespace Go.Proofs.YtaedipailemlcaaGreat.Core
open Go
set_option linter.unusedVariables false
set_option linter.unusedSimpArgs false
theorem Vj (x:List Int) (d:Hn) (hx:x.length≤1048576) (h:No d):∃ v es d',Lc x d=some ((v,es),d')∧No d'∧S8 v∧es.length≤69∧∀ e∈es,L_ e=true:=by
 obtain ⟨v,d1,e1,k1,hv⟩:=Ty d h
 have L:∀ (n:Nat),n≤69→∀ a b,∃ es d',C8 (n:Int) ((0:Nat):Int) d1 a b [] v (CU v)=some ((v,es),d')∧No d'∧es.length≤69∧∀ e∈es,L_ e=true:=by
  intro n hn a b
  refine Gz (n:=n) (P:=fun i=>∀ (d:Hn) (es:List HY) (g:Av),No d→Tu g i→es.length=i→(∀ e∈es,L_ e=true)→∃ es' d',C8 (n:Int) (i:Int) d a b es v g=some ((v,es'),d')∧No d'∧es'.length≤69∧∀ e∈es',L_ e=true) (fun d es g hd hg hl he=>?_) (fun i hi ih d es g hd hg hl he=>?_) 0 (by omega) d1 [] (CU v) k1 (Sd hv) rfl (fun e he=>by cases he)
  ·refine ⟨es,d,NI ?_,hd,by omega,he⟩
   unfold Il
   rw [if_neg (by simp)]
  ·obtain ⟨e,d2,e2,k2,ke⟩:=Vi d g i hd hg
   obtain ⟨q1,q2,q3⟩:=HC (i:Int) e g i hg (by omega) ke
   obtain ⟨es',d3,e3,k3⟩:=ih d2 (es++[e]) (iv g (i:Int) e).2 k2 q2 (by simp; omega) (fun y hy=>by
    rcases List.mem_append.1 hy with hy | hy
    ·exact he y hy
    ·rw [List.mem_singleton.1 hy]; exact ke)
   refine ⟨es',d3,NI ?_,k3⟩
   unfold Il
   rw [if_pos (by simpa using hi),e2,Option.bind_some]
   dsimp only
   rw [q1,Option.bind_some,if_pos (by simp; omega),AR (by omega)]
   exact e3
 have wq:IntKind.i64.wrap (Int.tdiv (x.length:Int) 4)=((x.length / 4:Nat):Int):=by
  rw [Int.tdiv_eq_ediv_of_nonneg (by omega),AY (by omega)]
  omega
 have wn:IntKind.i64.wrap (20+((x.length / 4:Nat):Int))=((20+x.length / 4:Nat):Int):=by rw [AY (by omega)]; omega
 by_cases hn:20+x.length / 4≤69
 ·obtain ⟨es,d',e,k,k2⟩:=L (20+x.length / 4) hn [] []
  refine ⟨v,es,d',Rv ?_,k,hv,k2⟩
  unfold Lu
  rw [e1,Option.bind_some,I0 hv,Option.bind_some,if_neg (by omega),wq,wn,if_neg (by simp; omega)]
  exact e
 ·obtain ⟨es,d',e,k,k2⟩:=L 69 (by omega) [] []
  refine ⟨v,es,d',Rv ?_,k,hv,k2⟩
  unfold Lu
  rw [e1,Option.bind_some,I0 hv,Option.bind_some,if_neg (by omega),wq,wn,if_pos (by simp; omega)]
  exact e
def fV (g:Av):Prop:=∃ v es,S8 v∧es.length≤70∧(∀ e∈es,L_ e=true)∧g=(Nm 0 es (CU v) []).1
theorem Tz (x:List Int) (d:Hn) (hx:x.length≤1048576) (h:No d):∃ g d' n,KK x d=some (g,d')∧No d'∧Tu g n∧n≤69∧fV g:=by
 obtain ⟨v,es,d1,e1,k1,hv,hl,he⟩:=Vj x d hx h
 obtain ⟨r1,r2,r3⟩:=cj es 0 (CU v) [] (Sd hv) (by omega) he
 refine ⟨_,d1,0+es.length,YI ?_,k1,r1,by omega,v,es,hv,by omega,he,rfl⟩
 unfold Qa
 rw [e1,Option.bind_some,Vh hv (by omega) he,Option.bind_some]
theorem Q4 (x:List Int) (hx:x.length≤1048576):∃ m g,HI x=some (m,g.1)∧Gk m∧S8 g.1∧fV g∧((∃ i,i<6∧m=CD g i)∨∃ i,m=D0 i g.1):=by
 obtain ⟨d,e0,k0⟩:=W8 x (by unfold maxLen; omega)
 obtain ⟨g,d1,n,e1,k1,hg,hn⟩:=Tz x d hx k0
 have h6:=hg.six
 have hV:=hg.views
 have hvl:=hV.len
 have hW:=hV.wok (i:=0) (by omega)
 have J2:∀ z d,∃ m,Fb z d g=some (m,g.1)∧Gk m∧((∃ i,i<6∧m=CD g i)∨∃ i,m=D0 i g.1):=fun z d=>by
  have hn:1≤(g.1.getD 0 []).getD 0 0∧(g.1.getD 0 []).getD 0 0≤6:=by
   have:=hW.len
   rw [AU (show 0<(g.1.getD 0 []).length by omega)]
   exact hW.mem _ (List.getElem_mem _)
  refine ⟨D0 ((g.1.getD 0 []).getD 0 0) g.1,Qw ?_,Gk.first1 hn hV,.inr ⟨_,rfl⟩⟩
  unfold I7
  have:=hW.len
  rw [if_pos (by omega),if_pos (by omega),if_pos (by omega),if_pos (by show (0:Int)<((g.1.getD 0 []).length:Int); omega)]
  change ((Eu ((g.1.getD 0 []).getD 0 0) g.1).bind _)=_
  rw [Kv _ _ hn hV,Option.bind_some]
 have key:=Gz (n:=6) (P:=fun i=>∀ (z:AA) (d:Hn),No d→∃ m,D3 (i:Int) z d g=some (m,g.1)∧Gk m∧((∃ i,i<6∧m=CD g i)∨∃ i,m=D0 i g.1)) (fun z d hd=>by
   obtain ⟨m,e,hm⟩:=J2 z d
   refine ⟨m,D4 ?_,hm⟩
   unfold Ca
   rw [if_neg (by rw [h6]; simp)]
   exact e)
  (fun i hi ih z d hd=>by
   have J1:∀ (b:Bool) (z:AA) (d:Hn),No d→∃ m,CZ (i:Int) b z d g=some (m,g.1)∧Gk m∧((∃ i,i<6∧m=CD g i)∨∃ i,m=D0 i g.1):=fun b z d hd=>by
    cases b with
    | true =>
     refine ⟨CD g i,I8 ?_,(hg.mem i hi).1,.inl ⟨i,hi,rfl⟩⟩
     unfold Fc
     rw [if_pos rfl,if_pos (by omega),if_pos (by omega),Int.toNat_natCast]
     rfl
    | false =>
     obtain ⟨m,e,hm⟩:=ih z d hd
     refine ⟨m,I8 ?_,hm⟩
     unfold Fc
     rw [if_neg (by simp),AR (by omega)]
     exact e
   by_cases hs:(CD g i).2.2.2.2.2.1=true
   ·by_cases ht:(CD g i).2.2.2.2.2.2.2.2.2.1=0
    ·obtain ⟨m,e,hm⟩:=J1 true z d hd
     refine ⟨m,D4 ?_,hm⟩
     unfold Ca
     rw [if_pos (by rw [h6]; simp; omega),if_pos (by omega),if_pos (by omega),Int.toNat_natCast,if_pos (by exact hs),if_pos (by omega),if_pos (by omega),if_neg (by
      change ¬ (((CD g i).2.2.2.2.2.2.2.2.2.1==(0:Int))=false)
      rw [ht]; simp)]
     exact e
    ·obtain ⟨o,d2,e2,k2⟩:=EX 4 d hd
     obtain ⟨m,e,hm⟩:=J1 o z d2 k2
     refine ⟨m,D4 ?_,hm⟩
     unfold Ca
     rw [if_pos (by rw [h6]; simp; omega),if_pos (by omega),if_pos (by omega),Int.toNat_natCast,if_pos (by exact hs),if_pos (by omega),if_pos (by omega),if_pos (by
      change ((CD g i).2.2.2.2.2.2.2.2.2.1==(0:Int))=false
      simpa using ht),e2,Option.bind_some]
     exact e
   ·obtain ⟨m,e,hm⟩:=J1 false z d hd
    refine ⟨m,D4 ?_,hm⟩
    unfold Ca
    rw [if_pos (by rw [h6]; simp; omega),if_pos (by omega),if_pos (by omega),Int.toNat_natCast,if_neg (by exact hs)]
    exact e) 0 (by omega) Ho d1 k1
 obtain ⟨m,e,hm⟩:=key
 refine ⟨m,g,Tb ?_,hm.1,hV,hn.2,hm.2⟩
 unfold Lq
 rw [e0,Option.bind_some,e1,Option.bind_some]
 exact e
end Go.Proofs.YtaedipailemlcaaGreat.Core

namespace Go.Proofs.YtaedipailemlcaaGreat.Core
open Go
set_option linter.unusedVariables false
set_option linter.unusedSimpArgs false
def fW (views:List (List Int)) (e:Int):Int:=(views.getD (e-1).toNat []).getD 0 0
def KF (l:List AP) (b:Int):Prop:=∀ y∈l,y.2.2≤b
theorem KF.mono {l:List AP} {a b:Int} (h:KF l a) (hab:a≤b):KF l b:=fun y hy=>Int.le_trans (h y hy) hab
theorem XB {b:Int}:KF [] b:=fun y hy=>by cases hy
theorem dv {x:List AP} {a b:AP} (h:b∈By x a):b=a∨b∈x:=by
 unfold By at h
 split at h
 ·exact .inr h
 ·split at h
  ·split at h
   ·exact dl h
   ·exact .inr h
  ·exact .inr h
theorem KF.put {l:List AP} {a:AP} {b:Int} (h:KF l b) (ha:a.2.2≤b):KF (By l a) b:=fun y hy=>by
 rcases dv hy with e | e
 ·rw [e]; exact ha
 ·exact h y e
structure V1 (views:List (List Int)) (m:AA):Prop where
 lead:m.2.2.2.2.1=true→m.2.1≤(views.length:Int)∧fW views m.2.1=m.1
 ver:KF m.2.2.2.2.2.2.2.1 (1000*m.2.1+900)
 own:m.2.2.2.2.1=true→m.2.2.2.1=true→KF m.2.2.2.2.2.2.2.1 (1000*m.2.1+m.2.2.2.2.2.2.2.2.1)
 task:m.2.2.2.2.2.2.2.2.2.1≠0→m.2.2.2.2.2.2.2.2.2.2.2.2.1.2.2≤1000*m.2.1+m.2.2.2.2.2.2.2.2.1
structure V2 (views:List (List Int)) (x:B6):Prop where
 inst:x.1=3→x.2.2.2.2.1=0
 old:x.1=2∨x.1=3→KF x.2.2.2.2.2 (1000*x.2.2.2.1)
 store:x.1=5→x.2.2.1≠fW views x.2.2.2.1∧KF x.2.2.2.2.2 (1000*x.2.2.2.1+900)
theorem V2.plain {views:List (List Int)} {x:B6} (h2:x.1≠2) (h3:x.1≠3) (h5:x.1≠5):V2 views x:=⟨fun h=>absurd h h3,fun h=>by omega,fun h=>absurd h h5⟩
theorem V1.finish {views:List (List Int)} {m:AA} (h:V1 views m) (hc:m.2.2.2.2.2.2.2.2.1≤900) (h0:m.2.2.2.2.2.2.2.2.2.1≠0):V1 views (DS m).2:=by
 have ht:=h.task h0
 unfold DS
 split
 ·exact ⟨h.lead,h.ver.put (by omega),fun h1 h2=>(h.own h1 h2).put ht,fun h0=>absurd rfl h0⟩
 ·exact ⟨h.lead,h.ver,h.own,fun h0=>absurd rfl h0⟩
theorem V1.bare {views:List (List Int)} {m:AA} (h:V1 views m) {e:Int} (he:m.2.1≤e):V1 views (SC m e) :=
 ⟨fun h=>(by cases h),h.ver.mono (by show _≤1000*e+900; omega),fun h=>(by cases h),fun h=>absurd rfl h⟩
theorem V1.inst {views:List (List Int)} {i e:Int} {its:List AP} (h:KF its (1000*e)):V1 views (i,e,false,true,false,false,([]:List Int),its,(0:Int),(0:Int),(0:Int),(0:Int),(ByteArray.empty,ByteArray.empty,(0:Int)),([]:List Int)) :=
 ⟨fun h=>(by cases h),h.mono (by show _≤1000*e+900; omega),fun h=>(by cases h),fun h=>absurd rfl h⟩
theorem V1.has {views:List (List Int)} {m:AA} {view:List Int} {its:List AP} (h:V1 views m) (hc:0≤m.2.2.2.2.2.2.2.2.1) (hi:KF its (1000*m.2.1)):V1 views (Vd m view its) :=
 ⟨h.lead,hi.mono (by show _≤1000*m.2.1+900; omega),fun _ _=>hi.mono (by show _≤1000*m.2.1+m.2.2.2.2.2.2.2.2.1; omega),h.task⟩
theorem V2.insts {views:List (List Int)} {i e:Int} {l:List Int} {its:List AP} (h:KF its (1000*e)):∀ y∈l.map (fun v=>((3:Int),i,v,e,(0:Int),its)),V2 views y:=by
 intro y hy
 obtain ⟨v,_,rfl⟩:=List.mem_map.1 hy
 exact ⟨fun _=>rfl,fun _=>h,fun h5=>absurd h5 (by decide:(3:Int)≠5)⟩
theorem V2.reply {views:List (List Int)} {m:AA} {x:B6} {k:Int} (hk:k=4∨k=6∨k=8):∀ y∈D9 m x k,V2 views y:=by
 intro y hy
 simp only [D9,List.mem_singleton] at hy
 subst hy
 exact V2.plain (by show k≠2; omega) (by show k≠3; omega) (by show k≠5; omega)
theorem fX {views:List (List Int)}:∀ y∈([]:List B6),V2 views y:=fun y hy=>by cases hy
def V4 (views:List (List Int)) (n:AA) (told:List B6):Prop:=V1 views n∧∀ y∈told,V2 views y
theorem V4.same {views:List (List Int)} {m:AA} (h:V1 views m):V4 views m []:=⟨h,fX⟩
theorem ie {views:List (List Int)} {m:AA} (h:V1 views m) (hc:m.2.2.2.2.2.2.2.2.1≤900) (h0:m.2.2.2.2.2.2.2.2.2.1≠0) (f:Int):V4 views (LE m f).1 (LE m f).2.1:=by
 have hl:V1 views (dp m f):=⟨h.lead,h.ver,h.own,h.task⟩
 unfold LE
 split
 ·exact ⟨hl.finish hc h0,fX⟩
 ·exact .same hl
theorem lI {views:List (List Int)} {m:AA} {x:B6} (hm:Gk m) (h:V1 views m) (hx:V2 views x) (hxo:j1 x) (ht:x.2.2.1=m.1) (he:x.2.2.2.1=m.2.1):V4 views (dq m (views.getD (m.2.1-1).toNat []) x).1 (dq m (views.getD (m.2.1-1).toNat []) x).2.1:=by
 have hcnt:=hm.count
 unfold dq
 by_cases k2:x.1=2
 ·rw [if_pos k2]
  split
  ·have:=hx.old (.inl k2)
   rw [he] at this
   exact ⟨h.has hcnt.1 this,V2.insts this⟩
  ·exact .same h
 rw [if_neg k2]
 by_cases k3:x.1=3
 ·rw [if_pos k3]
  split
  ·exact .same h
  ·split
   ·exact .same h
   ·split
    ·exact ⟨h,V2.reply (.inl rfl)⟩
    ·have:=hx.old (.inr k3)
     rw [he] at this
     exact ⟨V1.inst this,V2.reply (.inl rfl)⟩
 rw [if_neg k3]
 by_cases k4:x.1=4
 ·rw [if_pos k4]
  split
  ·exact .same ⟨h.lead,h.ver,h.own,h.task⟩
  ·exact .same h
 rw [if_neg k4]
 by_cases k5:x.1=5
 ·rw [if_pos k5]
  split
  ·obtain ⟨s1,s2⟩:=hx.store k5
   have hlen:x.2.2.2.2.2.length=1:=by
    have:=hxo.shape
    rw [if_neg (by omega),if_pos k5] at this
    exact this
   have hit:(x.2.2.2.2.2.getD 0 (ByteArray.empty,ByteArray.empty,(0:Int))).2.2≤1000*m.2.1+900:=by
    rw [AU (show 0<x.2.2.2.2.2.length by omega),← he]
    exact s2 _ (List.getElem_mem _)
   refine ⟨⟨h.lead,h.ver.put hit,fun h1 h2=>?_,h.task⟩,V2.reply (.inr (.inl rfl))⟩
   exact absurd (h.lead h1).2 (by rw [← he,← ht]; exact Ne.symm s1)
  ·exact .same h
 rw [if_neg k5]
 by_cases k7:x.1=7
 ·rw [if_pos k7]
  split
  ·exact ⟨h,V2.reply (.inr (.inr rfl))⟩
  ·exact .same h
 rw [if_neg k7]
 by_cases hc:(x.1=6∨x.1=8)∧m.2.2.2.2.2.2.2.2.2.1=(if x.1=8 then 2 else 1)∧m.2.2.2.2.2.2.2.2.2.2.2.1=x.2.2.2.2.1
 ·rw [if_pos hc]
  exact ie h hcnt.2 (by have:=hc.2.1; split at this<;>omega) _
 ·rw [if_neg hc]
  exact .same h
theorem kf {views:List (List Int)} {m:AA} {x:B6} (hm:Gk m) (h:V1 views m) (hx:V2 views x):V4 views (O4 m views x).1 (O4 m views x).2.1:=by
 unfold O4
 split
 ·rename_i hc
  simp only [Bool.and_eq_true,decide_eq_true_eq,beq_iff_eq] at hc
  obtain ⟨⟨⟨hmo,h1⟩,h2⟩,h3⟩:=hc
  split
  ·rename_i he
   exact lI hm h hx (fR.1 hmo) h1 he
  ·split
   ·rename_i hs
    simp only [Bool.and_eq_true,beq_iff_eq] at hs
    refine ⟨h.bare h2,fun y hy=>?_⟩
    simp only [List.mem_singleton] at hy
    subst hy
    refine ⟨fun h3=>absurd h3 (by decide:(2:Int)≠3),fun _=>h.ver.mono ?_,fun h5=>absurd h5 (by decide:(2:Int)≠5)⟩
    show _≤1000*x.2.2.2.1
    omega
   ·split
    ·rename_i hs
     simp only [Bool.and_eq_true,beq_iff_eq] at hs
     exact ⟨V1.inst (hx.old (.inr hs.1.1)),V2.reply (.inl rfl)⟩
    ·exact .same h
 ·exact .same h
theorem ju {view:List Int} {i v:Int} (h:v∈CP view i):v≠i:=by
 have:=(List.mem_filter.1 h).2
 simpa using this
theorem fY {views:List (List Int)} {m:AA} {op call:Int} {key val:ByteArray} (hm:Gk m) (h:V1 views m) (hb:(B8 m views op call key val).2.2.2=true) :
  V4 views (B8 m views op call key val).1 (B8 m views op call key val).2.1:=by
 have hcnt:=hm.count
 unfold B8 at hb ⊢
 split at hb
 ·rename_i hmay
  rw [if_pos hmay]
  obtain ⟨h1,h2,h3,h4,h5,h6,h7,h8,h9,h10⟩:=Sc hmay
  split at hb
  ·cases hb
  ·rename_i hn
   rw [if_neg hn]
   have ht:V1 views (Df m (views.getD (m.2.1-1).toNat []) op call key val):=by
    refine ⟨h.lead,h.ver,fun a b=>(h.own a b).mono ?_,fun _=>?_⟩
    ·show _≤1000*m.2.1+(m.2.2.2.2.2.2.2.2.1+1); omega
    ·show 1000*m.2.1+(m.2.2.2.2.2.2.2.2.1+1)≤1000*m.2.1+(m.2.2.2.2.2.2.2.2.1+1); omega
   unfold Iy
   split
   ·exact ⟨ht.finish (by show m.2.2.2.2.2.2.2.2.1+1≤900; omega) (by show op≠0; omega),fX⟩
   ·refine ⟨ht,fun y hy=>?_⟩
    obtain ⟨v,hv,rfl⟩:=List.mem_map.1 hy
    have hne:=ju hv
    by_cases ho:op=1
    ·rw [if_pos ho,if_pos ho]
     refine ⟨fun h3=>absurd h3 (by decide:(5:Int)≠3),fun h=>absurd h (by decide:¬ ((5:Int)=2∨(5:Int)=3)),fun _=>⟨fun e=>hne (e.trans ?_),fun z hz=>?_⟩⟩
     ·exact h10
     ·simp only [List.mem_singleton] at hz
      subst hz
      show 1000*m.2.1+(m.2.2.2.2.2.2.2.2.1+1)≤1000*m.2.1+900
      omega
    ·rw [if_neg ho,if_neg ho]
     exact V2.plain (by decide:(7:Int)≠2) (by decide:(7:Int)≠3) (by decide:(7:Int)≠5)
 ·cases hb
theorem jv {views:List (List Int)} {m:AA} {e:Int} (h:V1 views m) (hb:(GI m views e).2.2=true):V4 views (GI m views e).1 (GI m views e).2.1:=by
 unfold GI at hb ⊢
 split at hb
 ·rename_i hc
  rw [if_pos hc]
  have hv:KF m.2.2.2.2.2.2.2.1 (1000*e):=h.ver.mono (by omega)
  have hn:V1 views (O6 m e):=⟨fun _=>⟨hc.2.1,hc.2.2.2⟩,hv.mono (by show _≤1000*e+900; omega),fun _ h=>(by cases h),fun h=>absurd rfl h⟩
  split
  ·exact ⟨hn.has (by show (0:Int)≤0; omega) hv,V2.insts hv⟩
  ·refine ⟨hn,fun y hy=>?_⟩
   obtain ⟨v,hv,rfl⟩:=List.mem_map.1 hy
   exact V2.plain (by decide:(1:Int)≠2) (by decide:(1:Int)≠3) (by decide:(1:Int)≠5)
 ·cases hb
theorem V1.fall {views:List (List Int)} {m:AA}:V1 views (S_ m):=⟨fun h=>(by cases h),XB,fun h=>(by cases h),fun h=>absurd rfl h⟩
theorem V1.first {views:List (List Int)} {i:Int} (hv:S8 views):V1 views (D0 i views):=by
 have:=hv.len
 refine ⟨fun h=>⟨by show (1:Int)≤_; omega,?_⟩,XB,fun _ _=>XB,fun h=>absurd rfl h⟩
 exact beq_iff_eq.1 h
structure V3 (g:Av):Prop where
 mem:∀ i,i<6→V1 g.1 (CD g i)
 fly:∀ x∈g.2.2.1,V2 g.1 x
theorem V3.member {g:Av} (h:V3 g) (h6:g.2.1.length=6) {n:AA} {told:List B6} {said:List Dy} {at_:Int} {i:Nat} (hi:i<6) (hid:n.1=(i:Int)+1) (hn:V4 g.1 n told):V3 (Ga g n told said at_):=by
 refine ⟨fun j hj=>?_,fun x hx=>?_⟩
 ·rw [du h6 hj hid hi]
  split
  ·exact hn.1
  ·exact h.mem j hj
 ·rcases List.mem_append.1 hx with h1 | h1
  ·exact h.fly x h1
  ·exact hn.2 x h1
theorem V3.less {g:Av} (h:V3 g) (i:Nat):V3 (Xc g i):=⟨h.mem,fun x hx=>by
 rcases List.mem_append.1 hx with h1 | h1
 ·exact h.fly x (List.mem_of_mem_take h1)
 ·exact h.fly x (List.mem_of_mem_drop h1)⟩
theorem V3.call {g:Av} (h:V3 g) (at_:Int) (e:HY):V3 (SF g at_ e):=⟨h.mem,h.fly⟩
theorem V3.adopt {g:Av} {k:Nat} (h:V3 g) (hg:Tu g k) {at_ node:Int} (hn:1≤node∧node≤6):∀ (n:Nat) (e:Int),V3 (SH g at_ (CD g (node-1).toNat) node n e).2
 | 0,_=>h
 | n+1,e=>by
  unfold SH
  split
  ·exact V3.adopt h hg hn n (e+1)
  ·split
   ·rename_i hb
    obtain ⟨m1,m2⟩:=hg.mem (node-1).toNat (by omega)
    have ha:=bZ (e:=e) m1 hg.views hb
    exact h.member hg.six (i:=(node-1).toNat) (by omega) (by rw [ha.2.1,m2]) (jv (h.mem _ (by omega)) hb)
   ·exact h
theorem V3.event {g:Av} {k:Nat} (h:V3 g) (hg:Tu g k) {at_:Int} {e:HY} (he:L_ e=true):V3 (iv g at_ e).2:=by
 have hn:=fU he
 unfold iv
 split
 ·unfold SG
  split
  ·rename_i hb
   obtain ⟨m1,m2⟩:=hg.mem (e.2.1-1).toNat (by omega)
   have hbo:=W_ (op:=e.2.2.2.1) (call:=(g.2.2.2.length:Int)) (key:=e.2.2.2.2.1) (val:=e.2.2.2.2.2) m1 hg.views
   exact (h.call at_ e).member (g:=SF g at_ e) hg.six (i:=(e.2.1-1).toNat) (by omega) (by rw [hbo.id hb,m2]) (fY m1 (h.mem _ (by omega)) hb)
  ·exact h.call at_ e
 ·split
  ·exact h.adopt hg (by omega) _ _
  ·split
   ·obtain ⟨m1,m2⟩:=hg.mem (e.2.1-1).toNat (by omega)
    exact h.member hg.six (i:=(e.2.1-1).toNat) (by omega) m2 ⟨V1.fall,fX⟩
   ·unfold eV
    split
    ·exact h
    ·rename_i hne
     have hl:0<g.2.2.1.length:=by
      cases hq:g.2.2.1 with
      | nil=>exact absurd hq hne
      | cons a l=>simp
     have hlt:(e.2.2.1 % (g.2.2.1.length:Int)).toNat<g.2.2.1.length:=by
      have h1:=Int.emod_lt_of_pos e.2.2.1 (show (0:Int)<(g.2.2.1.length:Int) by omega)
      have h2:=Int.emod_nonneg e.2.2.1 (show (g.2.2.1.length:Int)≠0 by omega)
      omega
     have hmem:g.2.2.1.getD (e.2.2.1 % (g.2.2.1.length:Int)).toNat Gd∈g.2.2.1:=by
      rw [AU hlt]
      exact List.getElem_mem _
     split
     ·refine ⟨h.mem,fun x hx=>?_⟩
      rcases List.mem_append.1 hx with h1 | h1
      ·exact h.fly x h1
      ·simp only [List.mem_singleton] at h1
       rw [h1]
       exact h.fly _ hmem
     ·split
      ·exact h.less _
      ·have hto:=(hg.fly _ hmem).to
       generalize hx:g.2.2.1.getD (e.2.2.1 % (g.2.2.1.length:Int)).toNat Gd=x at *
       obtain ⟨m1,m2⟩:=hg.mem (x.2.2.1-1).toNat (by omega)
       exact (h.less _).member (g:=Xc g (e.2.2.1 % (g.2.2.1.length:Int)).toNat) hg.six (i:=(x.2.2.1-1).toNat) (by omega) (by rw [(dr (x:=x) m1 hg.views).id,m2]) (kf m1 (h.mem _ (by omega)) (h.fly _ hmem))
theorem V3.new {views:List (List Int)} (hv:S8 views):V3 (CU views):=by
 refine ⟨fun i hi=>?_,fun x hx=>by cases hx⟩
 have h5:i=0∨i=1∨i=2∨i=3∨i=4∨i=5:=by omega
 rcases h5 with rfl | rfl | rfl | rfl | rfl | rfl<;>exact V1.first hv
theorem V3.run:∀ (es:List HY) (n:Nat) (g:Av) (cs:List Int),Tu g n→V3 g→n+es.length≤70→(∀ e∈es,L_ e=true)→V3 (Nm n es g cs).1
 | [],n,g,cs,_,h,_,_=>h
 | e::es,n,g,cs,hg,h,hn,he=>by
  simp only [List.length_cons] at hn
  obtain ⟨_,h2,_⟩:=HC (n:Int) e g n hg (by omega) (he e (by simp))
  exact V3.run es (n+1) _ _ h2 (h.event hg (he e (by simp))) (by omega) (fun x hx=>he x (by simp [hx]))
end Go.Proofs.YtaedipailemlcaaGreat.Core

namespace Go.Proofs.YtaedipailemlcaaGreat.Core
open Go
set_option linter.unusedVariables false
set_option linter.unusedSimpArgs false
theorem Vk (a b:Int):IU a b=some (decide (a<b)):=aA (by
 have h:∀ a,G9 a=some false:=fun a=>Ya (by unfold Ql; simp)
 unfold R3
 rw [h,Option.bind_some,if_neg (by simp)])
def cm (l:List Int) (j:Nat):List Int:=(l.set (j+1) (l.getD j 0)).set j (l.getD (j+1) 0)
def ig:Nat→List Int→List Int
 | 0,l=>l
 | j+1,l=>if l.getD (j+1) 0<l.getD j 0 then ig j (cm l j) else l
def ko:Nat→Nat→List Int→List Int
 | 0,_,l=>l
 | k+1,i,l=>ko k (i+1) (ig i l)
theorem Vl (l:List Int) (j:Nat):(cm l j).length=l.length:=by simp [cm]
theorem Ym:∀ (j:Nat) (l:List Int),(ig j l).length=l.length
 | 0,l=>rfl
 | j+1,l=>by
  unfold ig
  split
  ·rw [Ym j,Vl]
  ·rfl
theorem ga {l:List Int} {j:Nat} (h:j+1<l.length):(cm l j).Perm l:=by
 obtain ⟨p,a,b,q,rfl,rfl⟩:∃ p a b q,l=p++a::b::q∧p.length=j :=
  ⟨l.take j,l[j],l[j+1],l.drop (j+2),by rw [← List.drop_eq_getElem_cons h,← List.drop_eq_getElem_cons (show j<l.length by omega),List.take_append_drop],by rw [List.length_take]; omega⟩
 have e:cm (p++a::b::q) p.length=p++b::a::q:=by
  unfold cm
  have e1:(p++a::b::q).getD p.length 0=a:=by simp [List.getD]
  have e2:(p++a::b::q).getD (p.length+1) 0=b:=by simp [List.getD]
  rw [e1,e2,List.set_append_right _ _ (by omega),List.set_append_right _ _ (by omega)]
  simp
 rw [e]
 exact List.Perm.append_left p (List.Perm.swap a b q)
theorem dw:∀ (j:Nat) (l:List Int),j<l.length→(ig j l).Perm l
 | 0,l,_=>List.Perm.refl l
 | j+1,l,h=>by
  unfold ig
  split
  ·exact (dw j _ (by rw [Vl]; omega)).trans (ga h)
  ·exact List.Perm.refl l
theorem aN:∀ (k i:Nat) (l:List Int),i+k=l.length→(ko k i l).Perm l
 | 0,_,l,_=>List.Perm.refl l
 | k+1,i,l,h=>(aN k (i+1) _ (by rw [Ym]; omega)).trans (dw i l (by omega))
theorem fZ {l:List Int} {j:Nat} (h:j+1<l.length) (a:Nat):(cm l j).getD a 0=if a=j then l.getD (j+1) 0 else if a=j+1 then l.getD j 0 else l.getD a 0:=by
 unfold cm
 simp only [List.getD_eq_getElem?_getD,List.getElem?_set,List.length_set]
 by_cases h1:a=j
 ·subst h1
  rw [if_pos rfl,if_pos (by omega),if_pos rfl]
  simp
 ·rw [if_neg (fun e=>h1 e.symm),if_neg h1]
  by_cases h2:a=j+1
  ·subst h2
   rw [if_pos rfl,if_pos (by omega),if_pos rfl]
   simp
  ·rw [if_neg (fun e=>h2 e.symm),if_neg h2]
def kg (i:Nat) (l:List Int):Prop:=∀ a b,a<b→b≤i→l.getD a 0≤l.getD b 0
theorem ii (i:Nat):∀ (j:Nat) (l:List Int),j≤i→i<l.length→(∀ a b,a<b→b≤i→b≠j→l.getD a 0≤l.getD b 0)→kg i (ig j l)
 | 0,l,_,_,h=>fun a b h1 h2=>h a b h1 h2 (by omega)
 | j+1,l,hj,hi,h=>by
  unfold ig
  split
  ·rename_i hlt
   refine ii i j _ (by omega) (by rw [Vl]; exact hi) fun a b h1 h2 h3=>?_
   rw [fZ (by omega),fZ (by omega)]
   rw [if_neg h3]
   by_cases hb:b=j+1
   ·subst hb
    rw [if_pos rfl]
    by_cases ha:a=j
    ·rw [if_pos ha]; omega
    ·rw [if_neg ha,if_neg (by omega)]
     exact h a j (by omega) (by omega) (by omega)
   ·rw [if_neg hb]
    by_cases ha:a=j
    ·rw [if_pos ha]; exact h (j+1) b (by omega) h2 hb
    ·rw [if_neg ha]
     by_cases ha2:a=j+1
     ·rw [if_pos ha2]; exact h j b (by omega) h2 hb
     ·rw [if_neg ha2]; exact h a b h1 h2 hb
  ·rename_i hlt
   intro a b h1 h2
   by_cases hb:b=j+1
   ·subst hb
    by_cases ha:a=j
    ·subst ha; omega
    ·have:=h a j (by omega) (by omega) (by omega)
     omega
   ·exact h a b h1 h2 hb
theorem ij:∀ (k i:Nat) (l:List Int),i+k=l.length→1≤i→kg (i-1) l→kg (l.length-1) (ko k i l)
 | 0,i,l,h,hi,hu=>by
  have:i-1=l.length-1:=by omega
  rw [← this]; exact hu
 | k+1,i,l,h,hi,hu=>by
  have:=ij k (i+1) (ig i l) (by rw [Ym]; omega) (by omega) (by
   rw [Nat.add_sub_cancel]
   exact ii i i l (Nat.le_refl _) (by omega) fun a b h1 h2 h3=>hu a b h1 (by omega))
  rw [Ym] at this
  exact this
theorem fa (n i:Nat) (hn:n≤12) (g:List Int→List Int) (K:∀ l:List Int,l.length=n→Ad 0 (n:Int) ((i:Int)+1) l=some (g l)) (hi:i<n) :
  ∀ (j:Nat) (l:List Int),j<n→l.length=n→BH 0 (n:Int) (i:Int) (j:Int) l=some (g (ig j l))
 | 0,l,hj,hl=>DJ (by
  unfold Bt
  rw [if_neg (by simp),AY (by omega)]
  exact K l hl)
 | j+1,l,hj,hl=>DJ (by
  unfold Bt
  have e1:IntKind.i64.wrap (((j+1:Nat):Int)-1)=(j:Int):=by rw [AY (by omega)]; omega
  have e2:((j+1:Nat):Int).toNat=j+1:=by omega
  have e3:((j:Nat):Int).toNat=j:=by omega
  rw [if_pos (by simp<;>omega),if_pos (by omega),if_pos (by omega),e1,if_pos (by omega),if_pos (by omega),Vk,Option.bind_some,e2,e3]
  unfold ig
  by_cases h:l.getD (j+1) 0<l.getD j 0
  ·rw [if_pos (by simpa using h),if_pos h]
   refine Gh ?_
   unfold DI
   simp only [e1,e2,e3]
   rw [if_pos (by omega),if_pos (by omega),if_pos (by omega),if_pos (by omega),if_pos (by omega),if_pos (by omega),if_pos (by omega),if_pos (by rw [List.length_set]; omega)]
   exact fa n i hn g K hi j (cm l j) (by omega) (by rw [Vl]; exact hl)
  ·rw [if_neg (by simpa using h),if_neg h,AY (by omega)]
   exact K l hl)
theorem fb (n:Nat) (hn:n≤12):∀ (k i:Nat) (l:List Int),i+k=n→l.length=n→Ad 0 (n:Int) (i:Int) l=some (ko k i l)
 | 0,i,l,h,hl=>Bu (by
  unfold BI
  rw [if_neg (by simp; omega)]
  rfl)
 | k+1,i,l,h,hl=>Bu (by
  unfold BI
  rw [if_pos (by simp; omega)]
  exact fa n i hn (ko k (i+1)) (fun l hl=>by have:=fb n hn k (i+1) l (by omega) hl; rw [← this]; congr 1) (by omega) i l (by omega) hl)
set_option maxRecDepth 100000 in
theorem kh (n:Nat) (h:n≤12):∃ r,KM (IntKind.u64.wrap (n:Int))=some r:=by
 have h1:∃ r,EV (n:Int) 0=some r:=by
  have hs:IntKind.u8.wrap (n:Int)=(n:Int):=by
   have:n=0∨n=1∨n=2∨n=3∨n=4∨n=5∨n=6∨n=7∨n=8∨n=9∨n=10∨n=11∨n=12:=by omega
   rcases this with h | h | h | h | h | h | h | h | h | h | h | h | h<;>subst h<;>rfl
  have ht:∃ r,GG (n:Int) 0=some r:=by
   unfold GG
   rw [if_neg (by simp; omega),if_pos (by rw [hs]; omega),if_pos (by
    rw [hs]
    exact Int.lt_of_lt_of_le (show (n:Int)<13 by omega) (by decide))]
   exact ⟨_,rfl⟩
  obtain ⟨r,hr⟩:=ht
  exact ⟨r,R4 hr⟩
 obtain ⟨r,hr⟩:=h1
 have h2:IV (n:Int)=some r:=VS (by
  unfold NT
  rw [if_neg (by simp; omega)]
  exact R5 (by
   unfold KC
   rw [if_neg (by simp; omega)]
   exact hr))
 have hu:IntKind.u64.wrap (n:Int)=(n:Int):=by
  have:n=0∨n=1∨n=2∨n=3∨n=4∨n=5∨n=6∨n=7∨n=8∨n=9∨n=10∨n=11∨n=12:=by omega
  rcases this with h | h | h | h | h | h | h | h | h | h | h | h | h<;>subst h<;>rfl
 exact ⟨r,YW (by unfold Qg; rw [hu,h2]; rfl)⟩
theorem fc (l:List Int) (h:l.length≤12):∃ r,CY l=some r∧r.Perm l∧r.Pairwise (· ≤ ·):=by
 obtain ⟨b,hb⟩:=kh l.length h
 have hins:∃ r,CG 0 (l.length:Int) l=some r∧r.Perm l∧r.Pairwise (· ≤ ·):=by
  by_cases h0:l.length=0
  ·have:l=[]:=List.length_eq_zero_iff.1 h0
   subst this
   refine ⟨[],D7 ?_,List.Perm.refl _,List.Pairwise.nil⟩
   unfold CH
   refine Bu ?_
   unfold BI
   rw [if_neg (by rw [AY (by omega)]; simp)]
  ·refine ⟨ko (l.length-1) 1 l,D7 ?_,aN _ _ _ (by omega),?_⟩
   ·unfold CH
    rw [AY (by omega)]
    exact fb l.length h (l.length-1) 1 l (by omega) rfl
   ·have hu:=ij (l.length-1) 1 l (by omega) (Nat.le_refl _) (fun a b h1 h2=>by omega)
    have hp:=(aN (l.length-1) 1 l (by omega)).length_eq
    rw [List.pairwise_iff_getElem]
    intro i j hi hj hij
    have:=hu i j hij (by omega)
    rwa [AU hi,AU hj] at this
 obtain ⟨r,h1,h2,h3⟩:=hins
 refine ⟨r,Qy ?_,h2,h3⟩
 unfold I_
 have hq:Bk 0 (l.length:Int) b l=some r:=LB (by
  unfold Fv
  refine Jc ?_
  unfold E3
  rw [if_pos (by rw [AY (by omega)]; simp; omega),h1]
  rfl)
 rw [hb,Option.bind_some,hq]
 rfl
theorem ff:∀ {a b:List Int},a.Pairwise (· < ·)→b.Pairwise (· < ·)→(∀ x,x∈a↔x∈b)→a=b
 | [],[],_,_,_=>rfl
 | [],y::b,_,_,h=>absurd ((h y).2 (by simp)) (by simp)
 | x::a,[],_,_,h=>absurd ((h x).1 (by simp)) (by simp)
 | x::a,y::b,ha,hb,h=>by
  rw [List.pairwise_cons] at ha hb
  have hxy:x=y:=by
   have h1:=(h x).1 (by simp)
   have h2:=(h y).2 (by simp)
   rcases List.mem_cons.1 h1 with e | h1
   ·exact e
   ·rcases List.mem_cons.1 h2 with e | h2
    ·exact e.symm
    ·have:=ha.1 y h2
     have:=hb.1 x h1
     omega
  subst hxy
  rw [ff ha.2 hb.2 fun z=>?_]
  constructor
  ·intro hz
   rcases List.mem_cons.1 ((h z).1 (by simp [hz])) with e | h
   ·subst e; have:=ha.1 z hz; omega
   ·exact h
  ·intro hz
   rcases List.mem_cons.1 ((h z).2 (by simp [hz])) with e | h
   ·subst e; have:=hb.1 z hz; omega
   ·exact h
theorem eW {view:List Int} {id x:Int} (hv:iu view):x∈Dz view id↔x∈CP view id:=by
 unfold Dz CP
 simp only [List.mem_filter,Bool.and_eq_true,List.contains_eq_mem,decide_eq_true_eq]
 constructor
 ·rintro ⟨_,h1,h2⟩; exact ⟨h2,h1⟩
 ·rintro ⟨h1,h2⟩
  have:=hv.mem x h1
  refine ⟨?_,h2,h1⟩
  have h5:x=1∨x=2∨x=3∨x=4∨x=5∨x=6:=by omega
  rcases h5 with h | h | h | h | h | h<;>simp [h]
theorem ba {view:List Int} (hv:iu view) (id:Int):CY (CP view id)=some (Dz view id):=by
 have hl:=HX view id
 have:=hv.len
 obtain ⟨r,h1,h2,h3⟩:=fc (CP view id) (by omega)
 rw [h1]
 congr 1
 have hnd:r.Nodup:=h2.nodup_iff.2 (hv.nd.filter _)
 refine ff ?_ (Pg view id).2 fun x=>(h2.mem_iff).trans (eW hv).symm
 have:=h3.and (List.nodup_iff_pairwise_ne.1 hnd)
 exact this.imp fun {a b} h=>by have:=h.1; have:=h.2; omega
theorem Xd {view:List Int} (hv:iu view) (id:Int):(Dz view id).length=(CP view id).length:=by
 obtain ⟨r,h1,h2,_⟩:=fc (CP view id) (by have:=HX view id; have:=hv.len; omega)
 rw [ba hv] at h1
 cases h1
 exact h2.length_eq
end Go.Proofs.YtaedipailemlcaaGreat.Core

namespace Go.Proofs.YtaedipailemlcaaGreat.Core
open Go
set_option linter.unusedVariables false
set_option linter.unusedSimpArgs false
theorem SI (m:AA) (h1:m.2.2.2.2.2.2.1.length≤68719476736) (h2:m.2.2.2.2.2.2.2.1.length≤68719476736) (h3:m.2.2.2.2.2.2.2.2.2.2.2.2.2.length≤68719476736):Fm m=some m:=Uq (by
 unfold M5
 rw [FE h1,Option.bind_some,BY h2,Option.bind_some,FE h3,Option.bind_some])
theorem Gk.icopy {m:AA} (h:Gk m):Fm m=some m:=by
 obtain ⟨h1,h2,h3⟩:=h.lens
 exact SI m (by omega) (by omega) (by omega)
theorem Vm (x:B6) (h:x.2.2.2.2.2.length≤68719476736):Lf x=some x:=Z7 (by
 unfold Rz
 rw [BY h,Option.bind_some])
theorem XC (view:List Int) (m:AA) (h:view.length≤68719476736):GB view m=some (CP view m.1,m):=Rs (by
 unfold J_
 have key:=Gz (n:=view.length) (P:=fun i=>∀ acc:List Int,acc.length≤i→CC view (view.length:Int) (i:Int) m acc=some (acc++(view.drop i).filter (· != m.1),m)) (fun acc ha=>Hm (by
  unfold Ey
  rw [if_neg (by simp)]
  simp)) (fun i hi ih acc ha=>Hm (by
  unfold Ey
  simp only [show ((i:Int)<(view.length:Int)) from by omega,decide_true,if_true,show (0:Int)≤(i:Int) from by omega,Int.toNat_natCast,AU hi,AR (show i<9223372036854775807 by omega)]
  rw [Bm hi,List.filter_cons]
  by_cases hh:(view[i] != m.1)=true
  ·rw [if_pos hh,if_pos (by simp; omega),ih _ (by simp; omega),if_pos hh,List.append_assoc]
   rfl
  ·rw [if_neg hh,ih _ (by omega),if_neg hh])) 0 (by omega) [] (by simp)
 exact key)
def fg (m:AA) (ids:List Int) (x:B6):List B6:=ids.map fun v=>(x.1,m.1,v,m.2.1,x.2.2.2.2)
theorem Vn (ids:List Int) (x:B6) (m:AA) (h:ids.length≤68719476736) (hx:x.2.2.2.2.2.length≤68719476736):D2 ids x m=some (fg m ids x,m):=Qz (by
 unfold JB
 have key:=Gz (n:=ids.length) (P:=fun i=>∀ acc:List B6,acc.length≤i→Cp ids (ids.length:Int) (i:Int) m x acc=some (acc++(ids.drop i).map (fun v=>(x.1,m.1,v,m.2.1,x.2.2.2.2)),m)) (fun acc ha=>Gu (by
  unfold Ed
  rw [if_neg (by simp)]
  simp)) (fun i hi ih acc ha=>Gu (by
  unfold Ed
  simp only [show ((i:Int)<(ids.length:Int)) from by omega,decide_true,if_true,show (0:Int)≤(i:Int) from by omega,Int.toNat_natCast,AU hi,AR (show i<9223372036854775807 by omega)]
  rw [Vm x hx,Option.bind_some,if_pos (by simp; omega),ih _ (by simp; omega),Bm hi,List.map_cons,List.append_assoc]
  rfl)) 0 (by omega) [] (by simp)
 exact key)
theorem aO (m:AA) (h:m.2.2.2.2.2.2.2.1.length≤34359738367):HJ m=some (DS m):=Te (by
 unfold Lt DS
 rw [VY _ _ h,Jd _ _ (by unfold maxLen; omega)]
 split
 ·rw [Option.bind_some]
  refine JA ?_
  unfold Ff
  rfl
 ·rw [Option.bind_some]
  refine JA ?_
  unfold Ff
  rfl)
end Go.Proofs.YtaedipailemlcaaGreat.Core

namespace Go.Proofs.YtaedipailemlcaaGreat.Core
open Go
set_option linter.unusedVariables false
set_option linter.unusedSimpArgs false
theorem MB {m:AA} (h:Gk m):FQ m=some true:=by
 obtain ⟨h1,h2,h3⟩:=h.lens
 rw [Ts m (by unfold maxLen; omega) (by unfold maxLen; omega) (by unfold maxLen; omega),fP.2 h]
theorem Vo {views:List (List Int)} (h:S8 views):IS views=some true:=by
 have:=h.len
 rw [Vb views (by unfold maxLen; omega) (fun a ha=>by have:=(h.view ha).2; unfold maxLen; omega),h.ok]
end Go.Proofs.YtaedipailemlcaaGreat.Core

namespace Go.Proofs.YtaedipailemlcaaGreat.Core
open Go
set_option linter.unusedVariables false
set_option linter.unusedSimpArgs false
theorem bA (x:List Int):TW x=some (decide ((x.length:Int)>1048576)):=eQ rfl
theorem cn (x:List Int) (n:Int) (h:x.length≤maxLen):WK x n=some (x.contains n):=gX (by
 have hm:x.length≤9223372036854775807:=h
 have key:=Gz (n:=x.length) (P:=fun i=>LA x n (i:Int)=some ((x.drop i).contains n)) (Um (by
  unfold PY
  rw [if_neg (by simp)]
  simp)) (fun i hi ih=>Um (by
  unfold PY
  simp only [show ((i:Int)<(x.length:Int)) from by omega,decide_true,if_true,show (0:Int)≤(i:Int) from by omega,Int.toNat_natCast,AU hi,AR (show i<9223372036854775807 by omega)]
  rw [Bm hi,List.contains_cons]
  by_cases e:x[i]=n
  ·rw [if_pos (by simpa using e),e]; simp
  ·rw [if_neg (by simpa using e),ih]
   have:(n==x[i])=false:=by simpa using Ne.symm e
   rw [this,Bool.false_or])) 0 (by omega)
 unfold bV
 exact key)
theorem gd {v:List Int} {i:Int} (hw:iu v) (h:i∈v):(CP v i).length+1=v.length:=by
 have:∀ l:List Int,l.Nodup→i∈l→(l.filter (· != i)).length+1=l.length:=by
  intro l
  induction l with
  | nil=>intro _ h; cases h
  | cons a l ih =>
   intro hn hm
   have hn2:=List.nodup_cons.1 hn
   by_cases e:a=i
   ·subst e
    have:l.filter (· != a)=l:=List.filter_eq_self.2 fun b hb=>by
     have:b≠a:=fun e=>hn2.1 (e▸hb)
     simpa using this
    rw [List.filter_cons_of_neg (by simp),this]
    rfl
   ·rw [List.filter_cons_of_pos (by simpa using e)]
    rcases List.mem_cons.1 hm with e2 | e2
    ·exact absurd e2.symm e
    ·simp only [List.length_cons]
     have:=ih hn2.2 e2
     omega
 exact this v hw.nd h
end Go.Proofs.YtaedipailemlcaaGreat.Core

namespace Go.Proofs.YtaedipailemlcaaGreat.Core
open Go
set_option linter.unusedVariables false
set_option linter.unusedSimpArgs false
end Go.Proofs.YtaedipailemlcaaGreat.Core
