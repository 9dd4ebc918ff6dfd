/- Texts of the proof, packed: part 4. -/
import Derived.Test.YtaedipailemlcaaP2
import Derived.IntWalk
import Derived.JoinedOf
import Derived.Test.YtaedipailemlcaaRows
import Derived.ProofKit
set_option linter.unusedVariables false
set_option linter.unusedSimpArgs false
namespace Go.Proofs.Ytaedipailemlcaa.Core
open Go IntKind
set_option linter.unusedVariables false
set_option maxRecDepth 100000
noncomputable section
def Ou:=cG Mp (AH Am) (AH Am) kx
def Ov:=kB [] [4,5] 4 Ou
def Ow:=kE 0 [] [4,5] 4 Ou kx
def Wy:=kE 1 [] [4,5] 6 Ov Ow
def VP:St→Option (RT (BV.outs Am)):=lG OL [] [0,1,4,5,6] 6 (AH Am) Wy
def Wz:=kE 3 [] [4,5] 4 Ov Ow
def VQ:St→Option (RT (BV.outs Am)):=lG Mo [] [0,1,4,5,7] 4 (AH Am) Wz
def CM (x0:Int) (x1:Z) (x2:AF) (x3 x4:AX) (x5:List Int) (x6:List ByteArray):Option (AX×Z×AF):=VP ⟨[(0,.ptr 0 0),(1,.ptr 1 0),(4,.ptr 2 0),(5,.ptr 3 0),(6,.int .i64 x0)],[.var (AK.enc x1),.var (AR.enc x2),.var (Aj.enc x3),.var (Aj.enc x4),.frz (.int .i64) x5,.frz .str x6]⟩
def CN (x0:Int) (x1:Z) (x2:AF) (x3 x4:AX):Option (AX×Z×AF):=VQ ⟨[(0,.ptr 0 0),(1,.ptr 1 0),(4,.ptr 2 0),(5,.ptr 3 0),(7,.int .i64 x0)],[.var (AK.enc x1),.var (AR.enc x2),.var (Aj.enc x3),.var (Aj.enc x4)]⟩
def ED (x0:Z) (x1:AF) (x2 x3:AX):Option (AX×Z×AF):=cG Mq (AH Am) (AH Am) kx ⟨[(0,.ptr 0 0),(1,.ptr 1 0),(4,.ptr 2 0),(5,.ptr 3 0)],[.var (AK.enc x0),.var (AR.enc x1),.var (Aj.enc x2),.var (Aj.enc x3)]⟩
def Ah (x0:Z) (x1:AF) (x2 x3:AX):Option (AX×Z×AF):=cG Mr (AH Am) (AH Am) kx ⟨[(0,.ptr 0 0),(1,.ptr 1 0),(4,.ptr 2 0),(5,.ptr 3 0)],[.var (AK.enc x0),.var (AR.enc x1),.var (Aj.enc x2),.var (Aj.enc x3)]⟩
def Ih (x0:Z) (x1:AF) (x2 x3:AX):Option (AX×Z×AF):=cG Ms (AH Am) (AH Am) kx ⟨[(0,.ptr 0 0),(1,.ptr 1 0),(4,.ptr 2 0),(5,.ptr 3 0)],[.var (AK.enc x0),.var (AR.enc x1),.var (Aj.enc x2),.var (Aj.enc x3)]⟩
def EE (x0:Int) (x1:Z) (x2:AF) (x3 x4:AX) (x5:List Int) (x6:List ByteArray):Option (AX×Z×AF):=(if (decide (x0<(x2.2.1.length:Int)))=true then (if 0≤x0 then (if x0<(x2.2.1.length:Int) then (if (((((((x2.2.1.getD x0.toNat (0,0,false,false,false,false,([]:List Int),([]:List X),0,0,0,0,(ByteArray.empty,ByteArray.empty,0),([]:List Int))).2).2).2).2).2).1)=true then ((Bx 4 x1).bind fun y10=>(if (!y10.1)=true then (CM (i64.wrap (x0+1)) y10.2 x2 x3 (x4.1,(i64.wrap (x0+1)),x4.2.2) x5 x6) else (CM (i64.wrap (x0+1)) y10.2 x2 x3 x4 x5 x6))) else (CM (i64.wrap (x0+1)) x1 x2 x3 x4 x5 x6)) else none) else none) else (some (x4,x1,x2)))
def Cz (x0:Int) (x1:Z) (x2:AF) (x3 x4:AX):Option (AX×Z×AF):=(if (decide (x0<(x2.2.1.length:Int)))=true then (if 0≤x0 then (if x0<(x2.2.1.length:Int) then (if (decide ((((x2.2.1.getD x0.toNat (0,0,false,false,false,false,([]:List Int),([]:List X),0,0,0,0,(ByteArray.empty,ByteArray.empty,0),([]:List Int))).2).1)<(x2.1.length:Int)))=true then (if 0≤(((x2.2.1.getD x0.toNat (0,0,false,false,false,false,([]:List Int),([]:List X),0,0,0,0,(ByteArray.empty,ByteArray.empty,0),([]:List Int))).2).1) then (if (((x2.2.1.getD x0.toNat (0,0,false,false,false,false,([]:List Int),([]:List X),0,0,0,0,(ByteArray.empty,ByteArray.empty,0),([]:List Int))).2).1)<(x2.1.length:Int) then (if 0≤(0:Int) then (if 0<((x2.1.getD (((x2.2.1.getD x0.toNat (0,0,false,false,false,false,([]:List Int),([]:List X),0,0,0,0,(ByteArray.empty,ByteArray.empty,0),([]:List Int))).2).1).toNat ([]:List Int)).length:Int) then (if (((x2.1.getD (((x2.2.1.getD x0.toNat (0,0,false,false,false,false,([]:List Int),([]:List X),0,0,0,0,(ByteArray.empty,ByteArray.empty,0),([]:List Int))).2).1).toNat ([]:List Int)).getD (0:Int).toNat 0)==((x2.2.1.getD x0.toNat (0,0,false,false,false,false,([]:List Int),([]:List X),0,0,0,0,(ByteArray.empty,ByteArray.empty,0),([]:List Int))).1))=true then ((Bx 3 x1).bind fun y11=>(if (!y11.1)=true then (CN (i64.wrap (x0+1)) y11.2 x2 x3 (x4.1,(x2.2.1.getD x0.toNat (0,0,false,false,false,false,([]:List Int),([]:List X),0,0,0,0,(ByteArray.empty,ByteArray.empty,0),([]:List Int))).1,x4.2.2)) else (CN (i64.wrap (x0+1)) y11.2 x2 x3 x4))) else (CN (i64.wrap (x0+1)) x1 x2 x3 x4)) else none) else none) else none) else none) else (CN (i64.wrap (x0+1)) x1 x2 x3 x4)) else none) else none) else (some (x4,x1,x2)))
def EF (x0:Z) (x1:AF) (x2 x3:AX):Option (AX×Z×AF):=(if (x3.1==1)=true then ((Bf ([1,1,2]:List Int) x0).bind fun y7=>((De ([(⟨#[97]⟩:ByteArray),(⟨#[98]⟩:ByteArray),(⟨#[99]⟩:ByteArray)]:List ByteArray) y7.2).bind fun y8=>(if (y7.1==1)=true then ((De ([(⟨#[118]⟩:ByteArray),(⟨#[119]⟩:ByteArray),(⟨#[120]⟩:ByteArray),(⟨#[121]⟩:ByteArray)]:List ByteArray) y8.2).bind fun y9=>(CM 0 y9.2 x1 x2 (x3.1,x3.2.1,x3.2.2.1,y7.1,y8.1,y9.1) ([1,1,2]:List Int) ([(⟨#[97]⟩:ByteArray),(⟨#[98]⟩:ByteArray),(⟨#[99]⟩:ByteArray)]:List ByteArray))) else (CM 0 y8.2 x1 x2 (x3.1,x3.2.1,x3.2.2.1,y7.1,y8.1,x3.2.2.2.2.2) ([1,1,2]:List Int) ([(⟨#[97]⟩:ByteArray),(⟨#[98]⟩:ByteArray),(⟨#[99]⟩:ByteArray)]:List ByteArray))))) else (if (x3.1==5)=true then (CN 0 x0 x1 x2 x3) else (some (x3,x0,x1))))
def Fq (x0:Z) (x1:AF) (x2 x3:AX):Option (AX×Z×AF):=(if (x3.1==2)=true then ((Bx 2 x0).bind fun y6=>(if y6.1=true then (ED y6.2 x1 x2 (x3.1,x3.2.1,0,x3.2.2.2)) else (ED y6.2 x1 x2 x3))) else (ED x0 x1 x2 x3))
def Fs (x0:Z) (x1:AF) (x2 x3:AX):Option (AX×Z×AF):=(if ((x1.2.2.1.length:Int)==0)=true then ((AM x3.1 2 4).bind fun y4=>(if y4=true then (if ((1:Int)==6)=true then ((Bx 4 x0).bind fun y5=>(if (!y5.1)=true then (Ah y5.2 x1 x2 (1,x3.2)) else (Ah y5.2 x1 x2 (1,x3.2)))) else (Ah x0 x1 x2 (1,x3.2))) else (if (x3.1==6)=true then ((Bx 4 x0).bind fun y12=>(if (!y12.1)=true then (Ah y12.2 x1 x2 (1,x3.2)) else (Ah y12.2 x1 x2 x3))) else (Ah x0 x1 x2 x3)))) else (if (x3.1==6)=true then ((Bx 4 x0).bind fun y13=>(if (!y13.1)=true then (Ah y13.2 x1 x2 (1,x3.2)) else (Ah y13.2 x1 x2 x3))) else (Ah x0 x1 x2 x3)))
def R6 (b0:Z) (b1:AF):Option (AX×Z×AF):=((Bf ([1,1,1,2,2,2,2,2,2,2,2,3,4,5,6]:List Int) b0).bind fun y1=>((AP 4 y1.2).bind fun y2=>((AP 20 y2.2).bind fun y3=>(Ih y3.2 b1 (0,0,0,0,ByteArray.empty,ByteArray.empty) (y1.1,(i64.wrap (1+y2.1)),y3.1,0,ByteArray.empty,ByteArray.empty)))))
theorem Ft:jL EE CM:=lS (by kernel_rfl)
theorem EG:fu Cz CN:=lS (by kernel_rfl)
theorem Fu:bT EF ED:=jS (by kernel_rfl)
theorem Ii:bT Fq Ah:=jS (by kernel_rfl)
theorem Ij:bT Fs Ih:=jS (by kernel_rfl)
theorem aV:Tg R6 Lh:=cT Am rfl ⟨rfl,rfl⟩ (by kernel_rfl)
def Ik (x1:Int) (x2:AX) (b0:AF):Option (Int×AF):=(if (x2.1==1)=true then ((KS x1 x2 b0).bind fun y1=>(some (y1.1,y1.2))) else (if (x2.1==5)=true then ((KT x1 x2.2.1 b0).bind fun y2=>(some (y2.1,y2.2))) else (if (x2.1==6)=true then (if 0≤(i64.wrap (x2.2.1-1)) then (if (i64.wrap (x2.2.1-1))<(b0.2.1.length:Int) then ((Rv (b0.2.1.getD (i64.wrap (x2.2.1-1)).toNat (0,0,false,false,false,false,([]:List Int),([]:List X),0,0,0,0,(ByteArray.empty,ByteArray.empty,0),([]:List Int)))).bind fun y3=>((DX y3 ([]:List Y) ([]:List AC) x1 b0).bind fun y4=>(some (0,y4)))) else none) else none) else ((Nx x1 x2 b0).bind fun y5=>(some (y5.1,y5.2))))))
theorem LF:Wc Ik LE:=cT LB rfl ⟨rfl,rfl⟩ (by kernel_rfl)
def Il (x0:Bool) (x1:AX):Option Bool:=cG OM (AH Eg) (AH Eg) kx ⟨[(1,.ptr 0 0),(17,.bool x0)],[.var (Aj.enc x1)]⟩
def NP (x0:Bool) (x1:AX):Option Bool:=(if (x1.1 != 1)=true then (if (x1.2.2.2.1==0)=true then (if (x1.2.2.2.2.1.toList==(⟨#[]⟩:ByteArray).toList)=true then (some (x1.2.2.2.2.2.toList==(⟨#[]⟩:ByteArray).toList)) else (some false)) else (some false)) else (if (x1.2.2.2.1==1)=false then (if (x1.2.2.2.1==2)=true then ((AM (x1.2.2.2.2.1.size:Int) 1 12).bind fun y3=>(if y3=true then (if (decide ((x1.2.2.2.2.2.size:Int)≤20))=true then (if (x1.2.2.2.1==1)=false then (some (x1.2.2.2.2.2.toList==(⟨#[]⟩:ByteArray).toList)) else (some true)) else (some false)) else (some false))) else (some false)) else ((AM (x1.2.2.2.2.1.size:Int) 1 12).bind fun y4=>(if y4=true then (if (decide ((x1.2.2.2.2.2.size:Int)≤20))=true then (if (x1.2.2.2.1==1)=false then (some (x1.2.2.2.2.2.toList==(⟨#[]⟩:ByteArray).toList)) else (some true)) else (some false)) else (some false)))))
def R7 (x0:AX):Option Bool:=((AM x0.1 1 6).bind fun y1=>(if (!y1)=false then ((AM x0.2.1 1 6).bind fun y2=>(if (!y2)=false then (if (decide (x0.2.2.1<0))=true then (some false) else (Il (decide (x0.2.2.1<0)) x0)) else (some false))) else (some false)))
theorem VR:Tg NP Il:=jS (by kernel_rfl)
theorem aW:Nu R7 Li:=cT Eg rfl ⟨rfl,rfl⟩ (by kernel_rfl)
def W0:=cG OO (AH Cr) (AH Cr) kx
def W2:=kE 0 [] [2,3] 6 W0 kx
def VS:St→Option (RT (BV.outs Cr)):=lG ON [] [1,2,3,4] 6 (AH Cr) W2
def EH (x0:Int) (x1:List (List Int)) (x2:List O) (x3:List Y) (x4:List BY) (x5:List O) (x6:List (List Int)) (x7:List Y) (x8 x9:List BY) (x10:List O) (x11:List (List Int)) (x12:List Y) (x13:List BY):Option AF:=VS ⟨[(1,.ptr 0 0),(2,.ptr 2 0),(3,.ptr 5 0),(4,.int .i64 x0)],[.var [.lst (.slice (.int .i64)) x1,.lst U x2,.lst AD x3,.lst Ee x4],.rows 31 U x5,.var [.lst (.slice (.int .i64)) x6,.row 1,.lst AD x7,.lst Ee x8],.frz Ee x9,.rows 31 U x10,.var [.lst (.slice (.int .i64)) x11,.row 4,.lst AD x12,.lst Ee x13]]⟩
def Im (x0:Int) (x1:List (List Int)) (x2:List O) (x3:List Y) (x4:List BY) (x5:List O) (x6:List (List Int)) (x7:List Y) (x8 x9:List BY) (x10:List O) (x11:List (List Int)) (x12:List Y) (x13:List BY):Option AF:=(if (decide (x0<(x2.length:Int)))=true then (if 0≤x0 then (if x0<(x2.length:Int) then ((CJ (x2.getD x0.toNat (0,0,false,false,false,false,([]:List Int),([]:List X),0,0,0,0,(ByteArray.empty,ByteArray.empty,0),([]:List Int)))).bind fun y3=>(if x10.length+([y3]:List O).length≤68719476736 then (EH (i64.wrap (x0+1)) x1 x2 x3 x4 x5 x6 x7 x8 x9 (x10++([y3]:List O)) x11 x12 x13) else none)) else none) else none) else (some (x11,x10,x12,x13)))
def R8 (x0:AF):Option AF:=((EY x0.1).bind fun y1=>((HF x0.2.2.1).bind fun y2=>(if ([]:List BY).length+x0.2.2.2.length≤68719476736 then (EH 0 x0.1 x0.2.1 x0.2.2.1 x0.2.2.2 ([]:List O) ([]:List (List Int)) ([]:List Y) ([]:List BY) (([]:List BY)++x0.2.2.2) ([]:List O) y1 y2 (([]:List BY)++x0.2.2.2)) else none)))
theorem NQ:mA Im EH:=lS (by kernel_rfl)
theorem aX:Nu R8 Lj:=cT Cr rfl ⟨rfl,rfl⟩ (by kernel_rfl)
def Qw:=cG QH (AH Ci) (AH Ci) kx
def Yk:=kB [] [2,3] 3 Qw
def Yl:=kE 0 [] [2,3] 3 Qw kx
def GT (x0:Int) (x1:Bool) (x2:Z) (x3 x4:Y):Option (Y×Z):=cG QG Yk (AH Ci) Yl ⟨[(0,.ptr 0 0),(2,.ptr 1 0),(3,.ptr 2 0),(20,.int .i64 x0),(21,.bool x1)],[.var (AK.enc x2),.var (AD.enc x3),.var (AD.enc x4)]⟩
def JT (x0:Z) (x1 x2:Y):Option (Y×Z):=cG QI (AH Ci) (AH Ci) kx ⟨[(0,.ptr 0 0),(2,.ptr 1 0),(3,.ptr 2 0)],[.var (AK.enc x0),.var (AD.enc x1),.var (AD.enc x2)]⟩
def GU (x0:Int) (x1:Bool) (x2:Z) (x3 x4:Y):Option (Y×Z):=(if x1=true then ((G4 x2).bind fun y6=>(some ((x4.1,x4.2.1,x4.2.2.1,x4.2.2.2.1,x4.2.2.2.2.1,y6.1),y6.2))) else (if (x0==5)=true then ((GE x2).bind fun y7=>(some ((x4.1,x4.2.1,x4.2.2.1,x4.2.2.2.1,x4.2.2.2.2.1,([y7.1]:List X)),y7.2))) else (some (x4,x2))))
def JU (x0:Z) (x1 x2:Y):Option (Y×Z):=(if (x2.1==2)=true then (GT x2.1 (x2.1==2) x0 x1 x2) else (GT x2.1 (x2.1==3) x0 x1 x2))
def TH (b0:Z):Option (Y×Z):=((AP 8 b0).bind fun y1=>((AP 4 y1.2).bind fun y2=>((AP 4 y2.2).bind fun y3=>((AP 4 y3.2).bind fun y4=>((AP 6 y4.2).bind fun y5=>(JT y5.2 (0,0,0,0,0,([]:List X)) ((i64.wrap (1+y1.1)),(i64.wrap (1+y2.1)),(i64.wrap (1+y3.1)),(i64.wrap (1+y4.1)),y5.1,([]:List X))))))))
theorem JV:fu GU GT:=jS (by kernel_rfl)
theorem Ox:Wc JU JT:=jS (by kernel_rfl)
theorem bl:Nu TH Nw:=cT Ci rfl ⟨rfl,rfl⟩ (by kernel_rfl)
def NR (x1:List Int) (b0:Z):Option (Int×Z):=((AP (x1.length:Int) b0).bind fun y1=>(if 0≤y1.1 then (if y1.1<(x1.length:Int) then (some ((x1.getD y1.1.toNat 0),y1.2)) else none) else none))
theorem VT:Tg NR Bf:=cT Fl rfl ⟨rfl,rfl⟩ (by kernel_rfl)
def KE:=cG I7 (AH Bj) (AH Bj) kx
def R9:=kB [(3,1)] [3] 2 KE
def R_:=kE 0 [(3,1)] [3] 2 KE kx
def SA:=kE 1 [(3,2)] [3] 3 R9 R_
def RL:St→Option (RT (BV.outs Bj)):=lG J9 [(3,2)] [0,3,4] 3 (AH Bj) SA
def Dr (x0:Int) (x1:Z) (x2 x3:List X):Option (List X×Z):=RL ⟨[(0,.ptr 0 0),(3,.row 2),(4,.int .i64 x0)],[.var (AK.enc x1),.rows 27 AB x2,.rows 27 AB x3]⟩
def Ds (x0:Int) (x1:Z) (x2 x3:List X):Option (List X×Z):=((AP 2 x1).bind fun y9=>(if (decide (x0<(i64.wrap (12+y9.1))))=true then ((Ll (i64.wrap (10+x0))).bind fun y10=>(if (⟨#[109]⟩:ByteArray).size+y10.size≤1099511627776 then (if x3.length+([(((⟨#[109]⟩:ByteArray)++y10),ByteArray.empty,5)]:List X).length≤68719476736 then (Dr (i64.wrap (x0+1)) y9.2 x2 (x3++([(((⟨#[109]⟩:ByteArray)++y10),ByteArray.empty,5)]:List X))) else none) else none)) else (some (x3,y9.2))))
def HS (b0:Z):Option (List X×Z):=((G4 b0).bind fun y1=>((AP 16 y1.2).bind fun y2=>(if (y2.1==0)=true then ((GE y2.2).bind fun y3=>(if y1.1.length+([y3.1]:List X).length≤68719476736 then (some ((y1.1++([y3.1]:List X)),y3.2)) else none)) else (if (y2.1==1)=true then (if (decide ((y1.1.length:Int)>0))=true then ((Bf ([0,(-1:Int),1000000000,1000000001]:List Int) y2.2).bind fun y4=>(if 0≤(0:Int) then (if 0<(y1.1.length:Int) then (let z5:List X:=y1.1.set ((0:Int).toNat) ((y1.1.getD ((0:Int).toNat) (ByteArray.empty,ByteArray.empty,0)).1,((y1.1.getD ((0:Int).toNat) (ByteArray.empty,ByteArray.empty,0)).2).1,y4.1); (some (z5,y4.2))) else none) else none)) else (some (y1.1,y2.2))) else (if (y2.1==2)=true then (if (decide ((y1.1.length:Int)>0))=true then ((Lk 13 65).bind fun y6=>((De ([(⟨#[]⟩:ByteArray),y6]:List ByteArray) y2.2).bind fun y7=>(if 0≤(0:Int) then (if 0<(y1.1.length:Int) then (let z8:List X:=y1.1.set ((0:Int).toNat) (y7.1,(y1.1.getD ((0:Int).toNat) (ByteArray.empty,ByteArray.empty,0)).2); (some (z8,y7.2))) else none) else none))) else (some (y1.1,y2.2))) else (if (y2.1==3)=true then (Dr 0 y2.2 y1.1 ([]:List X)) else (some (y1.1,y2.2))))))))
theorem Fd:bT Ds Dr:=lS (by kernel_rfl)
theorem Tx:Nu HS HE:=cT Bj rfl ⟨rfl,rfl⟩ (by kernel_rfl)
def E1:=kE 0 [] [] 1 (AH AO) kx
def Er:St→Option (RT (BV.outs AO)):=lG El [(0,0)] [0,1,2,3,8,9] 1 (AH AO) E1
def E2:=kB [(0,0)] [0,1,2,3,8,9] 1 Er
def BR:=kB [(0,0)] [0,1,2,3,8,9] 1 E2
def Ar:=kE 1 [(0,0)] [0,1,2,3,8,9] 1 E2 E1
def KF:=cG Ca BR (AH AO) Ar
def Es (x0 x1 x2:Int) (x3 x4:Bool) (x5 x6:Int) (x7:Bool) (x8:List Int):Option (List Int):=cG Ca BR (AH AO) Ar ⟨[(0,.row 0),(1,.int .i64 x0),(2,.int .i64 x1),(3,.int .i64 x2),(8,.bool x3),(9,.bool x4),(10,.int .i64 x5),(11,.int .i64 x6),(87,.bool x7)],[.mrow 3 (.int .i64) x8]⟩
def Cc (x0 x1 x2:Int) (x3 x4:Bool) (x5 x6:Int) (x7:Bool) (x8:List Int):Option (List Int):=cG Eh KF (AH AO) Ar ⟨[(0,.row 0),(1,.int .i64 x0),(2,.int .i64 x1),(3,.int .i64 x2),(8,.bool x3),(9,.bool x4),(10,.int .i64 x5),(11,.int .i64 x6),(87,.bool x7)],[.mrow 3 (.int .i64) x8]⟩
def BK (x0 x1 x2:Int) (x3 x4:Bool) (x5 x6:Int) (x7:List Int):Option (List Int):=cG Ei BR (AH AO) Ar ⟨[(0,.row 0),(1,.int .i64 x0),(2,.int .i64 x1),(3,.int .i64 x2),(8,.bool x3),(9,.bool x4),(10,.int .i64 x5),(11,.int .i64 x6)],[.mrow 3 (.int .i64) x7]⟩
def Cd (x0 x1 x2:Int) (x3 x4:Bool) (x5 x6 x7:Int) (x8:List Int):Option (List Int):=cG Ej BR (AH AO) Ar ⟨[(0,.row 0),(1,.int .i64 x0),(2,.int .i64 x1),(3,.int .i64 x2),(8,.bool x3),(9,.bool x4),(10,.int .i64 x5),(11,.int .i64 x6),(12,.int .i64 x7)],[.mrow 3 (.int .i64) x8]⟩
def Ce (x0 x1 x2:Int) (x3 x4:Bool) (x5:Int) (x6:List Int):Option (List Int):=cG Ek BR (AH AO) Ar ⟨[(0,.row 0),(1,.int .i64 x0),(2,.int .i64 x1),(3,.int .i64 x2),(8,.bool x3),(9,.bool x4),(10,.int .i64 x5)],[.mrow 3 (.int .i64) x6]⟩
def BL (x0 x1 x2:Int) (x3 x4:Bool) (x5:List Int):Option (List Int):=Er ⟨[(0,.row 0),(1,.int .i64 x0),(2,.int .i64 x1),(3,.int .i64 x2),(8,.bool x3),(9,.bool x4)],[.mrow 3 (.int .i64) x5]⟩
def JW (x0 x1 x2:Int) (x3 x4:Bool) (x5 x6:Int) (x7:Bool) (x8:List Int):Option (List Int):=((KB x0 x1 x6 x8).bind fun y9=>(if 8=0 then none else (if (decide ((i64.wrap (y9.1-x0))<(i64.wrap (x1-y9.1))))=true then ((Bg x0 y9.1 x2 y9.2.2).bind fun y10=>(BL (i64.wrap (y9.1+1)) x1 x2 (decide ((i64.wrap (y9.1-x0))≥(i64.wrap (Int.tdiv x5 8)))) y9.2.1 y10)) else ((Bg (i64.wrap (y9.1+1)) x1 x2 y9.2.2).bind fun y11=>(BL x0 y9.1 x2 (decide ((i64.wrap (x1-y9.1))≥(i64.wrap (Int.tdiv x5 8)))) y9.2.1 y11)))))
def JX (x0 x1 x2:Int) (x3 x4:Bool) (x5 x6:Int) (x7:Bool) (x8:List Int):Option (List Int):=(if x7=true then ((HG x0 x1 x6 x8).bind fun y8=>(BL y8.1 x1 x2 x3 x4 y8.2)) else (Es x0 x1 x2 x3 x4 x5 x6 x7 x8))
def JY (x0 x1 x2:Int) (x3 x4:Bool) (x5 x6:Int) (x7:List Int):Option (List Int):=(if (decide (x0>0))=true then (if 0≤(i64.wrap (x0-1)) then (if (i64.wrap (x0-1))<(x7.length:Int) then (if 0≤x6 then (if x6<(x7.length:Int) then ((IT (x7.getD ((i64.wrap (x0-1)).toNat) 0) (x7.getD x6.toNat 0)).bind fun y7=>(Cc x0 x1 x2 x3 x4 x5 x6 (!y7) x7)) else none) else none) else none) else none) else (Cc x0 x1 x2 x3 x4 x5 x6 false x7))
def JZ (x0 x1 x2:Int) (x3 x4:Bool) (x5 x6 x7:Int) (x8:List Int):Option (List Int):=(if x3=true then (if x4=true then (if (x7==1)=true then ((Fb x0 x1 x8).bind fun y6=>(if y6.1=true then (some y6.2) else (BK x0 x1 x2 x3 x4 x5 x6 y6.2))) else (BK x0 x1 x2 x3 x4 x5 x6 x8)) else (BK x0 x1 x2 x3 x4 x5 x6 x8)) else (BK x0 x1 x2 x3 x4 x5 x6 x8))
def Ja (x0 x1 x2:Int) (x3 x4:Bool) (x5:Int) (x6:List Int):Option (List Int):=((I6 x0 x1 x6).bind fun y4=>(if (y4.2.1==2)=true then ((IW x0 x1 y4.2.2).bind fun y5=>(Cd x0 x1 x2 x3 x4 x5 (i64.wrap ((i64.wrap (x1-1))-(i64.wrap (y4.1-x0)))) 1 y5)) else (Cd x0 x1 x2 x3 x4 x5 y4.1 y4.2.1 y4.2.2)))
def Et (x0 x1 x2:Int) (x3 x4:Bool) (x5:List Int):Option (List Int):=(if (decide ((i64.wrap (x1-x0))≤12))=true then ((CC x0 x1 x5).bind fun y1=>(some y1)) else (if (x2==0)=true then ((KU x0 x1 x5).bind fun y2=>(some y2)) else (if (!x3)=true then ((Hp x0 x1 x5).bind fun y3=>(Ce x0 x1 (i64.wrap (x2-1)) x3 x4 (i64.wrap (x1-x0)) y3)) else (Ce x0 x1 x2 x3 x4 (i64.wrap (x1-x0)) x5))))
def Fv (x1 x2 x3:Int) (b0:List Int):Option (List Int):=(BL x1 x2 x3 true true b0)
theorem W3:lR JW Es:=jS (by kernel_rfl)
theorem W4:lR JX Cc:=jS (by kernel_rfl)
theorem W5:jM JY BK:=jS (by kernel_rfl)
theorem W6:lR JZ Cd:=jS (by kernel_rfl)
theorem W7:jL Ja Ce:=jS (by kernel_rfl)
theorem Jb:iA Et BL:=lS (by kernel_rfl)
theorem LG:bT Fv Bg:=cT AO rfl ⟨rfl,rfl⟩ (by kernel_rfl)
def Qx (x0:Int):Option Int:=((IU x0).bind fun y1=>(some y1))
theorem Ym:Nu Qx KR:=cT Gz rfl ⟨rfl,rfl⟩ (by kernel_rfl)
def aY:=cG Rp (AH EA) (AH EA) kx
def aZ:=kE 0 [] [] 0 aY kx
def Yn:St→Option (RT (BV.outs EA)):=lG Ro [] [0,1,5] 0 (AH EA) aZ
def G7 (x0:List Int) (x1 x2:Int):Option Bool:=Yn ⟨[(0,.lst (.int .i64) x0),(1,.int .i64 x1),(5,.int .i64 x2)],[]⟩
def KX (x0:List Int) (x1 x2:Int):Option Bool:=(if (decide (x2<(x0.length:Int)))=true then (if 0≤x2 then (if x2<(x0.length:Int) then (if ((x0.getD x2.toNat 0)==x1)=true then (some true) else (G7 x0 x1 (i64.wrap (x2+1)))) else none) else none) else (some false))
def VU (x0:List Int) (x1:Int):Option Bool:=(G7 x0 x1 0)
theorem Qy:Wc KX G7:=lS (by kernel_rfl)
theorem dX:Tg VU Cj:=cT EA rfl ⟨rfl,rfl⟩ (by kernel_rfl)
def W8:=cG OQ (AH Cs) (AH Cs) kx
def W9:=kE 0 [] [0] 0 W8 kx
def VV:St→Option (RT (BV.outs Cs)):=lG OP [] [0,3] 0 (AH Cs) W9
def Fw (x0:List (List Int)) (x1:Int):Option Bool:=VV ⟨[(0,.lst (.slice (.int .i64)) x0),(3,.int .i64 x1)],[]⟩
def In (x0:List (List Int)) (x1:Int):Option Bool:=(if (decide (x1<(x0.length:Int)))=true then (if 0≤x1 then (if x1<(x0.length:Int) then ((Ln (x0.getD x1.toNat ([]:List Int))).bind fun y1=>(if (!y1)=true then (some false) else (Fw x0 (i64.wrap (x1+1))))) else none) else none) else ((AM (x0.length:Int) 1 9).bind fun y2=>(some y2)))
def SB (x0:List (List Int)):Option Bool:=(Fw x0 0)
theorem NS:Tg In Fw:=lS (by kernel_rfl)
theorem aa:Nu SB Cw:=cT Cs rfl ⟨rfl,rfl⟩ (by kernel_rfl)
def RM:=cG I9 (AH Bb) (AH Bb) kx
def RN:=kE 0 [(3,0)] [3] 1 RM kx
def Py:St→Option (RT (BV.outs Bb)):=lG I8 [(3,0)] [0,3,4] 1 (AH Bb) RN
def DI (x0:List (List Int)) (x1:Int) (x2:List (List Int)):Option (List (List Int)):=Py ⟨[(0,.lst (.slice (.int .i64)) x0),(3,.row 0),(4,.int .i64 x1)],[.rows 24 (.slice (.int .i64)) x2]⟩
def FF (x0:List (List Int)) (x1:Int) (x2:List (List Int)):Option (List (List Int)):=(if (decide (x1<(x0.length:Int)))=true then (if 0≤x1 then (if x1<(x0.length:Int) then (if ([]:List Int).length+(x0.getD x1.toNat ([]:List Int)).length≤68719476736 then (if x2.length+([(([]:List Int)++(x0.getD x1.toNat ([]:List Int)))]:List (List Int)).length≤68719476736 then (DI x0 (i64.wrap (x1+1)) (x2++([(([]:List Int)++(x0.getD x1.toNat ([]:List Int)))]:List (List Int)))) else none) else none) else none) else none) else (some x2))
def Kv (x0:List (List Int)):Option (List (List Int)):=(DI x0 0 ([]:List (List Int)))
theorem Io:Wc FF DI:=lS (by kernel_rfl)
theorem Sw:Nu Kv EY:=cT Bb rfl ⟨rfl,rfl⟩ (by kernel_rfl)
def Kw (x0:Int) (x1:List (List Int)) (x2:Bool) (x3:O):Option (O×Bool):=cG La (AH DW) (AH DW) kx ⟨[(0,.int .i64 x0),(1,.lst (.slice (.int .i64)) x1),(4,.ptr 0 0),(14,.bool x2)],[.var (U.enc x3)]⟩
def Kx (x0:Int) (x1:List (List Int)) (x2:Bool) (x3:O):Option (O×Bool):=(if 0≤(0:Int) then (if 0<(x1.length:Int) then ((Cj (x1.getD (0:Int).toNat ([]:List Int)) x0).bind fun y3=>(if 0≤(0:Int) then (if 0<(x1.length:Int) then (if 0≤(0:Int) then (if 0<((x1.getD (0:Int).toNat ([]:List Int)).length:Int) then (some ((x0,1,false,y3,(((x1.getD (0:Int).toNat ([]:List Int)).getD (0:Int).toNat 0)==x0),(((x1.getD (0:Int).toNat ([]:List Int)).getD (0:Int).toNat 0)==x0),([]:List Int),([]:List X),0,0,0,0,(ByteArray.empty,ByteArray.empty,0),([]:List Int)),true)) else none) else none) else none) else none)) else none) else none)
def Oy (x0:Int) (x1:List (List Int)):Option (O×Bool):=((Cw x1).bind fun y1=>(if (!y1)=false then ((AM x0 1 6).bind fun y2=>(if (!y2)=true then (some ((0,0,false,false,false,false,([]:List Int),([]:List X),0,0,0,0,(ByteArray.empty,ByteArray.empty,0),([]:List Int)),false)) else (Kw x0 x1 (!y2) (0,0,false,false,false,false,([]:List Int),([]:List X),0,0,0,0,(ByteArray.empty,ByteArray.empty,0),([]:List Int))))) else (some ((0,0,false,false,false,false,([]:List Int),([]:List X),0,0,0,0,(ByteArray.empty,ByteArray.empty,0),([]:List Int)),false))))
theorem Sx:bT Kx Kw:=jS (by kernel_rfl)
theorem W_:Tg Oy JM:=cT DW rfl ⟨rfl,rfl⟩ (by kernel_rfl)
def SC (x1:List ByteArray) (b0:Z):Option (ByteArray×Z):=((AP (x1.length:Int) b0).bind fun y1=>(if 0≤y1.1 then (if y1.1<(x1.length:Int) then (some ((x1.getD y1.1.toNat ByteArray.empty),y1.2)) else none) else none))
theorem ae:Tg SC De:=cT IJ rfl ⟨rfl,rfl⟩ (by kernel_rfl)
def Qz (x1:Int) (x2:AX) (b0:AF):Option (Int×AF):=(if ([]:List BY).length+b0.2.2.2.length≤68719476736 then (if (([]:List BY)++b0.2.2.2).length+([(x2.2.2.2.1,x2.2.2.2.2.1,x2.2.2.2.2.2,x1,(-1:Int),0,0,0,ByteArray.empty)]:List BY).length≤68719476736 then (if 0≤(i64.wrap (x2.2.1-1)) then (if (i64.wrap (x2.2.1-1))<(b0.2.1.length:Int) then ((Pr (b0.2.1.getD (i64.wrap (x2.2.1-1)).toNat (0,0,false,false,false,false,([]:List Int),([]:List X),0,0,0,0,(ByteArray.empty,ByteArray.empty,0),([]:List Int))) b0.1 x2.2.2.2.1 (i64.wrap ((((([]:List BY)++b0.2.2.2)++([(x2.2.2.2.1,x2.2.2.2.2.1,x2.2.2.2.2.2,x1,(-1:Int),0,0,0,ByteArray.empty)]:List BY)).length:Int)-1)) x2.2.2.2.2.1 x2.2.2.2.2.2).bind fun y1=>(if (!y1.2.2.2)=true then (some (1,(b0.1,b0.2.1,b0.2.2.1,((([]:List BY)++b0.2.2.2)++([(x2.2.2.2.1,x2.2.2.2.2.1,x2.2.2.2.2.2,x1,(-1:Int),0,0,0,ByteArray.empty)]:List BY))))) else ((DX y1.1 y1.2.1 y1.2.2.1 x1 (b0.1,b0.2.1,b0.2.2.1,((([]:List BY)++b0.2.2.2)++([(x2.2.2.2.1,x2.2.2.2.2.1,x2.2.2.2.2.2,x1,(-1:Int),0,0,0,ByteArray.empty)]:List BY)))).bind fun y2=>(some (0,y2))))) else none) else none) else none) else none)
theorem Yo:Wc Qz KS:=cT G0 rfl ⟨rfl,rfl⟩ (by kernel_rfl)
def VX:=cG Lb (AH CP) (AH CP) kx
def VY:=kE 0 [] [] 2 VX kx
def Ty:St→Option (RT (BV.outs CP)):=lG Mt [] [0,1,2,7,8] 2 (AH CP) VY
def FH (x0 x1 x2:Int) (x3:AF) (x4:O):Option (Int×AF):=Ty ⟨[(0,.ptr 0 0),(1,.int .i64 x0),(2,.int .i64 x1),(7,.ptr 1 0),(8,.int .i64 x2)],[.var (AR.enc x3),.var (U.enc x4)]⟩
def FI (x0 x1 x2:Int) (x3:AF) (x4:O):Option (Int×AF):=(if (decide (x2≤(x3.1.length:Int)))=true then (if 0≤(i64.wrap (x2-1)) then (if (i64.wrap (x2-1))<(x3.1.length:Int) then (if 0≤(0:Int) then (if 0<((x3.1.getD (i64.wrap (x2-1)).toNat ([]:List Int)).length:Int) then (if (((x3.1.getD (i64.wrap (x2-1)).toNat ([]:List Int)).getD (0:Int).toNat 0) != x1)=true then (FH x0 x1 (i64.wrap (x2+1)) x3 x4) else ((Ps x4 x3.1 x2).bind fun y1=>(if (!y1.2.2)=true then (some (1,x3)) else ((DX y1.1 y1.2.1 ([]:List AC) x0 x3).bind fun y2=>(some (0,y2)))))) else none) else none) else none) else none) else (some (1,x3)))
def KY (x1 x2:Int) (b0:AF):Option (Int×AF):=(if 0≤(i64.wrap (x2-1)) then (if (i64.wrap (x2-1))<(b0.2.1.length:Int) then (FH x1 x2 (i64.wrap ((((b0.2.1.getD (i64.wrap (x2-1)).toNat (0,0,false,false,false,false,([]:List Int),([]:List X),0,0,0,0,(ByteArray.empty,ByteArray.empty,0),([]:List Int))).2).1)+1)) b0 (b0.2.1.getD (i64.wrap (x2-1)).toNat (0,0,false,false,false,false,([]:List Int),([]:List X),0,0,0,0,(ByteArray.empty,ByteArray.empty,0),([]:List Int)))) else none) else none)
theorem HT:fu FI FH:=lS (by kernel_rfl)
theorem Q0:Wc KY KT:=cT CP rfl ⟨rfl,rfl⟩ (by kernel_rfl)
def HU:=kE 0 [] [] 4 (AH Bp) kx
def Ky:St→Option (RT (BV.outs Bp)):=lG Kn [] [0,3,4,11] 4 (AH Bp) HU
def Tz:=kB [] [0,3,4,11] 4 Ky
def MC:=cG Km Tz (AH Bp) HU
def T0:=kB [] [0,3,4,11] 4 MC
def T1:=kE 1 [] [0,3,4,11] 4 MC HU
def Kz (x0:List AC) (x1 x2:Int) (x3:Bool) (x4:AF) (x5:O) (x6:List O) (x7:List Y) (x8:AC):Option AF:=cG Kl T0 (AH Bp) T1 ⟨[(0,.ptr 0 0),(3,.lst BP x0),(4,.int .i64 x1),(11,.int .i64 x2),(12,.ptr 4 0),(71,.bool x3)],[.var (AR.enc x4),.var (U.enc x5),.frz U x6,.frz AD x7,.var (BP.enc x8)]⟩
def Bs (x0:List AC) (x1 x2:Int) (x3:AF) (x4:O) (x5:List O) (x6:List Y):Option AF:=Ky ⟨[(0,.ptr 0 0),(3,.lst BP x0),(4,.int .i64 x1),(11,.int .i64 x2)],[.var (AR.enc x3),.var (U.enc x4),.frz U x5,.frz AD x6]⟩
def K3 (x0:List AC) (x1 x2:Int) (x3:Bool) (x4:AF) (x5:O) (x6:List O) (x7:List Y) (x8:AC):Option AF:=(if ([]:List BY).length+x4.2.2.2.length≤68719476736 then (if 0≤x8.1 then (if x8.1<((([]:List BY)++x4.2.2.2).length:Int) then (let z2:List BY:=(([]:List BY)++x4.2.2.2).set x8.1.toNat (((([]:List BY)++x4.2.2.2).getD x8.1.toNat (0,ByteArray.empty,ByteArray.empty,0,0,0,0,0,ByteArray.empty)).1,(((([]:List BY)++x4.2.2.2).getD x8.1.toNat (0,ByteArray.empty,ByteArray.empty,0,0,0,0,0,ByteArray.empty)).2).1,((((([]:List BY)++x4.2.2.2).getD x8.1.toNat (0,ByteArray.empty,ByteArray.empty,0,0,0,0,0,ByteArray.empty)).2).2).1,(((((([]:List BY)++x4.2.2.2).getD x8.1.toNat (0,ByteArray.empty,ByteArray.empty,0,0,0,0,0,ByteArray.empty)).2).2).2).1,x1,((((((([]:List BY)++x4.2.2.2).getD x8.1.toNat (0,ByteArray.empty,ByteArray.empty,0,0,0,0,0,ByteArray.empty)).2).2).2).2).2); (let z3:List BY:=z2.set x8.1.toNat ((z2.getD x8.1.toNat (0,ByteArray.empty,ByteArray.empty,0,0,0,0,0,ByteArray.empty)).1,((z2.getD x8.1.toNat (0,ByteArray.empty,ByteArray.empty,0,0,0,0,0,ByteArray.empty)).2).1,(((z2.getD x8.1.toNat (0,ByteArray.empty,ByteArray.empty,0,0,0,0,0,ByteArray.empty)).2).2).1,((((z2.getD x8.1.toNat (0,ByteArray.empty,ByteArray.empty,0,0,0,0,0,ByteArray.empty)).2).2).2).1,(((((z2.getD x8.1.toNat (0,ByteArray.empty,ByteArray.empty,0,0,0,0,0,ByteArray.empty)).2).2).2).2).1,x8.2.2.2.2.2,((((((z2.getD x8.1.toNat (0,ByteArray.empty,ByteArray.empty,0,0,0,0,0,ByteArray.empty)).2).2).2).2).2).2); (let z4:List BY:=z3.set x8.1.toNat ((z3.getD x8.1.toNat (0,ByteArray.empty,ByteArray.empty,0,0,0,0,0,ByteArray.empty)).1,((z3.getD x8.1.toNat (0,ByteArray.empty,ByteArray.empty,0,0,0,0,0,ByteArray.empty)).2).1,(((z3.getD x8.1.toNat (0,ByteArray.empty,ByteArray.empty,0,0,0,0,0,ByteArray.empty)).2).2).1,((((z3.getD x8.1.toNat (0,ByteArray.empty,ByteArray.empty,0,0,0,0,0,ByteArray.empty)).2).2).2).1,(((((z3.getD x8.1.toNat (0,ByteArray.empty,ByteArray.empty,0,0,0,0,0,ByteArray.empty)).2).2).2).2).1,((((((z3.getD x8.1.toNat (0,ByteArray.empty,ByteArray.empty,0,0,0,0,0,ByteArray.empty)).2).2).2).2).2).1,x8.2.1,(((((((z3.getD x8.1.toNat (0,ByteArray.empty,ByteArray.empty,0,0,0,0,0,ByteArray.empty)).2).2).2).2).2).2).2); (let z5:List BY:=z4.set x8.1.toNat ((z4.getD x8.1.toNat (0,ByteArray.empty,ByteArray.empty,0,0,0,0,0,ByteArray.empty)).1,((z4.getD x8.1.toNat (0,ByteArray.empty,ByteArray.empty,0,0,0,0,0,ByteArray.empty)).2).1,(((z4.getD x8.1.toNat (0,ByteArray.empty,ByteArray.empty,0,0,0,0,0,ByteArray.empty)).2).2).1,((((z4.getD x8.1.toNat (0,ByteArray.empty,ByteArray.empty,0,0,0,0,0,ByteArray.empty)).2).2).2).1,(((((z4.getD x8.1.toNat (0,ByteArray.empty,ByteArray.empty,0,0,0,0,0,ByteArray.empty)).2).2).2).2).1,((((((z4.getD x8.1.toNat (0,ByteArray.empty,ByteArray.empty,0,0,0,0,0,ByteArray.empty)).2).2).2).2).2).1,(((((((z4.getD x8.1.toNat (0,ByteArray.empty,ByteArray.empty,0,0,0,0,0,ByteArray.empty)).2).2).2).2).2).2).1,x8.2.2.1,((((((((z4.getD x8.1.toNat (0,ByteArray.empty,ByteArray.empty,0,0,0,0,0,ByteArray.empty)).2).2).2).2).2).2).2).2); (if (((z5.getD x8.1.toNat (0,ByteArray.empty,ByteArray.empty,0,0,0,0,0,ByteArray.empty)).1)==2)=true then (let z6:List BY:=z5.set x8.1.toNat ((z5.getD x8.1.toNat (0,ByteArray.empty,ByteArray.empty,0,0,0,0,0,ByteArray.empty)).1,((z5.getD x8.1.toNat (0,ByteArray.empty,ByteArray.empty,0,0,0,0,0,ByteArray.empty)).2).1,(((z5.getD x8.1.toNat (0,ByteArray.empty,ByteArray.empty,0,0,0,0,0,ByteArray.empty)).2).2).1,((((z5.getD x8.1.toNat (0,ByteArray.empty,ByteArray.empty,0,0,0,0,0,ByteArray.empty)).2).2).2).1,(((((z5.getD x8.1.toNat (0,ByteArray.empty,ByteArray.empty,0,0,0,0,0,ByteArray.empty)).2).2).2).2).1,((((((z5.getD x8.1.toNat (0,ByteArray.empty,ByteArray.empty,0,0,0,0,0,ByteArray.empty)).2).2).2).2).2).1,(((((((z5.getD x8.1.toNat (0,ByteArray.empty,ByteArray.empty,0,0,0,0,0,ByteArray.empty)).2).2).2).2).2).2).1,((((((((z5.getD x8.1.toNat (0,ByteArray.empty,ByteArray.empty,0,0,0,0,0,ByteArray.empty)).2).2).2).2).2).2).2).1,x8.2.2.2.2.1); (Bs x0 x1 (i64.wrap (x2+1)) (x4.1,x4.2.1,x4.2.2.1,z6) x5 x6 x7)) else (Bs x0 x1 (i64.wrap (x2+1)) (x4.1,x4.2.1,x4.2.2.1,z5) x5 x6 x7)))))) else none) else none) else none)
def Ge (x0:List AC) (x1 x2:Int) (x3:AF) (x4:O) (x5:List O) (x6:List Y):Option AF:=(if (decide (x2<(x0.length:Int)))=true then (if 0≤x2 then (if x2<(x0.length:Int) then (if (decide (((x0.getD x2.toNat (0,0,0,ByteArray.empty,ByteArray.empty,0)).1)≥(x3.2.2.2.length:Int)))=true then (Bs x0 x1 (i64.wrap (x2+1)) x3 x4 x5 x6) else (if 0≤((x0.getD x2.toNat (0,0,0,ByteArray.empty,ByteArray.empty,0)).1) then (if ((x0.getD x2.toNat (0,0,0,ByteArray.empty,ByteArray.empty,0)).1)<(x3.2.2.2.length:Int) then (if (decide (((((((x3.2.2.2.getD ((x0.getD x2.toNat (0,0,0,ByteArray.empty,ByteArray.empty,0)).1).toNat (0,ByteArray.empty,ByteArray.empty,0,0,0,0,0,ByteArray.empty)).2).2).2).2).1)≥0))=true then (Bs x0 x1 (i64.wrap (x2+1)) x3 x4 x5 x6) else (Kz x0 x1 x2 (decide (((((((x3.2.2.2.getD ((x0.getD x2.toNat (0,0,0,ByteArray.empty,ByteArray.empty,0)).1).toNat (0,ByteArray.empty,ByteArray.empty,0,0,0,0,0,ByteArray.empty)).2).2).2).2).1)≥0)) x3 x4 x5 x6 (x0.getD x2.toNat (0,0,0,ByteArray.empty,ByteArray.empty,0)))) else none) else none)) else none) else none) else (some x3))
def Oz (x1:O) (x2:List Y) (x3:List AC) (x4:Int) (b0:AF):Option AF:=(if ([]:List O).length+b0.2.1.length≤68719476736 then (if 0≤(i64.wrap (x1.1-1)) then (if (i64.wrap (x1.1-1))<((([]:List O)++b0.2.1).length:Int) then (let z1:List O:=(([]:List O)++b0.2.1).set ((i64.wrap (x1.1-1)).toNat) x1; (if ([]:List Y).length+b0.2.2.1.length≤68719476736 then (if (([]:List Y)++b0.2.2.1).length+x2.length≤68719476736 then (Bs x3 x4 0 (b0.1,z1,((([]:List Y)++b0.2.2.1)++x2),b0.2.2.2) x1 z1 ((([]:List Y)++b0.2.2.1)++x2)) else none) else none)) else none) else none) else none)
theorem Sy:lR K3 Kz:=jS (by kernel_rfl)
theorem K4:jL Ge Bs:=lS (by kernel_rfl)
theorem XA:fu Oz DX:=cT Bp rfl ⟨rfl,rfl⟩ (by kernel_rfl)
def eP (x0:O):Option O:=(some (x0.1,x0.2.1,true,false,false,false,([]:List Int),([]:List X),0,0,0,0,(ByteArray.empty,ByteArray.empty,0),([]:List Int)))
theorem eQ:Nu eP Rv:=cT Mu rfl ⟨rfl,rfl⟩ (by kernel_rfl)
def N4 (x1:Int) (x2:AX) (b0:AF):Option (Int×AF):=(if ((b0.2.2.1.length:Int)==0)=true then (some (1,b0)) else (if (b0.2.2.1.length:Int)=0 then none else (if 0≤(Int.tmod x2.2.2.1 (b0.2.2.1.length:Int)) then (if (Int.tmod x2.2.2.1 (b0.2.2.1.length:Int))<(b0.2.2.1.length:Int) then (if (x2.1==4)=true then (if ([]:List Y).length+b0.2.2.1.length≤68719476736 then (if (([]:List Y)++b0.2.2.1).length+([b0.2.2.1.getD (Int.tmod x2.2.2.1 (b0.2.2.1.length:Int)).toNat (0,0,0,0,0,([]:List X))]:List Y).length≤68719476736 then (some (0,(b0.1,b0.2.1,((([]:List Y)++b0.2.2.1)++([b0.2.2.1.getD (Int.tmod x2.2.2.1 (b0.2.2.1.length:Int)).toNat (0,0,0,0,0,([]:List X))]:List Y)),b0.2.2.2))) else none) else none) else (if 0≤(0:Int) then (if 0≤(Int.tmod x2.2.2.1 (b0.2.2.1.length:Int)) then (if (Int.tmod x2.2.2.1 (b0.2.2.1.length:Int))≤(b0.2.2.1.length:Int) then (if 0≤(i64.wrap ((Int.tmod x2.2.2.1 (b0.2.2.1.length:Int))+1)) then (if (i64.wrap ((Int.tmod x2.2.2.1 (b0.2.2.1.length:Int))+1))≤(b0.2.2.1.length:Int) then (if (b0.2.2.1.length:Int)≤(b0.2.2.1.length:Int) then (if ([]:List Y).length+((b0.2.2.1.take (Int.tmod x2.2.2.1 (b0.2.2.1.length:Int)).toNat).drop (0:Int).toNat).length≤68719476736 then (if (([]:List Y)++((b0.2.2.1.take (Int.tmod x2.2.2.1 (b0.2.2.1.length:Int)).toNat).drop (0:Int).toNat)).length+((b0.2.2.1.take (b0.2.2.1.length:Int).toNat).drop (i64.wrap ((Int.tmod x2.2.2.1 (b0.2.2.1.length:Int))+1)).toNat).length≤68719476736 then (if (x2.1==3)=true then (some (0,(b0.1,b0.2.1,((([]:List Y)++((b0.2.2.1.take (Int.tmod x2.2.2.1 (b0.2.2.1.length:Int)).toNat).drop (0:Int).toNat))++((b0.2.2.1.take (b0.2.2.1.length:Int).toNat).drop (i64.wrap ((Int.tmod x2.2.2.1 (b0.2.2.1.length:Int))+1)).toNat)),b0.2.2.2))) else (if 0≤(i64.wrap (((((b0.2.2.1.getD (Int.tmod x2.2.2.1 (b0.2.2.1.length:Int)).toNat (0,0,0,0,0,([]:List X))).2).2).1)-1)) then (if (i64.wrap (((((b0.2.2.1.getD (Int.tmod x2.2.2.1 (b0.2.2.1.length:Int)).toNat (0,0,0,0,0,([]:List X))).2).2).1)-1))<(b0.2.1.length:Int) then ((Lo (b0.2.1.getD (i64.wrap (((((b0.2.2.1.getD (Int.tmod x2.2.2.1 (b0.2.2.1.length:Int)).toNat (0,0,0,0,0,([]:List X))).2).2).1)-1)).toNat (0,0,false,false,false,false,([]:List Int),([]:List X),0,0,0,0,(ByteArray.empty,ByteArray.empty,0),([]:List Int))) b0.1 (b0.2.2.1.getD (Int.tmod x2.2.2.1 (b0.2.2.1.length:Int)).toNat (0,0,0,0,0,([]:List X)))).bind fun y1=>((DX y1.1 y1.2.1 y1.2.2 x1 (b0.1,b0.2.1,((([]:List Y)++((b0.2.2.1.take (Int.tmod x2.2.2.1 (b0.2.2.1.length:Int)).toNat).drop (0:Int).toNat))++((b0.2.2.1.take (b0.2.2.1.length:Int).toNat).drop (i64.wrap ((Int.tmod x2.2.2.1 (b0.2.2.1.length:Int))+1)).toNat)),b0.2.2.2)).bind fun y2=>(some (0,y2)))) else none) else none)) else none) else none) else none) else none) else none) else none) else none) else none)) else none) else none)))
theorem TI:Wc N4 Nx:=cT Jp rfl ⟨rfl,rfl⟩ (by kernel_rfl)
def SD:=cG KA (AH Bk) (AH Bk) kx
def SE:=kE 0 [(3,0)] [3] 1 SD kx
def RO:St→Option (RT (BV.outs Bk)):=lG J_ [(3,0)] [0,3,4] 1 (AH Bk) SE
def CX (x0:List Y) (x1:Int) (x2:List Y):Option (List Y):=RO ⟨[(0,.lst AD x0),(3,.row 0),(4,.int .i64 x1)],[.rows 34 AD x2]⟩
def Fe (x0:List Y) (x1:Int) (x2:List Y):Option (List Y):=(if (decide (x1<(x0.length:Int)))=true then (if 0≤x1 then (if x1<(x0.length:Int) then (if ([]:List X).length+((((((x0.getD x1.toNat (0,0,0,0,0,([]:List X))).2).2).2).2).2).length≤68719476736 then (if x2.length+([((x0.getD x1.toNat (0,0,0,0,0,([]:List X))).1,((x0.getD x1.toNat (0,0,0,0,0,([]:List X))).2).1,(((x0.getD x1.toNat (0,0,0,0,0,([]:List X))).2).2).1,((((x0.getD x1.toNat (0,0,0,0,0,([]:List X))).2).2).2).1,(((((x0.getD x1.toNat (0,0,0,0,0,([]:List X))).2).2).2).2).1,(([]:List X)++((((((x0.getD x1.toNat (0,0,0,0,0,([]:List X))).2).2).2).2).2)))]:List Y).length≤68719476736 then (CX x0 (i64.wrap (x1+1)) (x2++([((x0.getD x1.toNat (0,0,0,0,0,([]:List X))).1,((x0.getD x1.toNat (0,0,0,0,0,([]:List X))).2).1,(((x0.getD x1.toNat (0,0,0,0,0,([]:List X))).2).2).1,((((x0.getD x1.toNat (0,0,0,0,0,([]:List X))).2).2).2).1,(((((x0.getD x1.toNat (0,0,0,0,0,([]:List X))).2).2).2).2).1,(([]:List X)++((((((x0.getD x1.toNat (0,0,0,0,0,([]:List X))).2).2).2).2).2)))]:List Y))) else none) else none) else none) else none) else (some x2))
def MD (x0:List Y):Option (List Y):=(CX x0 0 ([]:List Y))
theorem JC:Wc Fe CX:=lS (by kernel_rfl)
theorem T2:Nu MD HF:=cT Bk rfl ⟨rfl,rfl⟩ (by kernel_rfl)
def SF (x0:O):Option O:=(if ([]:List Int).length+x0.2.2.2.2.2.2.1.length≤68719476736 then (if ([]:List X).length+x0.2.2.2.2.2.2.2.1.length≤68719476736 then (if ([]:List Int).length+x0.2.2.2.2.2.2.2.2.2.2.2.2.2.length≤68719476736 then (some (x0.1,x0.2.1,x0.2.2.1,x0.2.2.2.1,x0.2.2.2.2.1,x0.2.2.2.2.2.1,(([]:List Int)++x0.2.2.2.2.2.2.1),(([]:List X)++x0.2.2.2.2.2.2.2.1),x0.2.2.2.2.2.2.2.2.1,x0.2.2.2.2.2.2.2.2.2.1,x0.2.2.2.2.2.2.2.2.2.2.1,x0.2.2.2.2.2.2.2.2.2.2.2.1,x0.2.2.2.2.2.2.2.2.2.2.2.2.1,(([]:List Int)++x0.2.2.2.2.2.2.2.2.2.2.2.2.2))) else none) else none) else none)
theorem af:Nu SF CJ:=cT IK rfl ⟨rfl,rfl⟩ (by kernel_rfl)
def VZ:=cG Mw (AH CQ) (AH CQ) kx
def Va:=kE 0 [(3,1)] [3] 2 VZ kx
def T3:St→Option (RT (BV.outs CQ)):=lG Mv [(3,1)] [0,3,4] 2 (AH CQ) Va
def FJ (x0:Int) (x1:Z) (x2:List X):Option (List X×Z):=T3 ⟨[(0,.ptr 0 0),(3,.row 1),(4,.int .i64 x0)],[.var (AK.enc x1),.rows 27 AB x2]⟩
def FK (x0:Int) (x1:Z) (x2:List X):Option (List X×Z):=((AP 6 x1).bind fun y1=>(if (decide (x0<y1.1))=true then ((GE y1.2).bind fun y2=>((Em x2 y2.1).bind fun y3=>(FJ (i64.wrap (x0+1)) y2.2 y3))) else (some (x2,y1.2))))
def Q1 (b0:Z):Option (List X×Z):=(FJ 0 b0 ([]:List X))
theorem HV:Wc FK FJ:=lS (by kernel_rfl)
theorem Yp:Nu Q1 G4:=cT CQ rfl ⟨rfl,rfl⟩ (by kernel_rfl)
def SG (b0:Z):Option (X×Z):=((Ny b0).bind fun y1=>((Nz y1.2).bind fun y2=>((AP 30 y2.2).bind fun y3=>(some ((y1.1,y2.1,(i64.wrap (1001+y3.1))),y3.2)))))
theorem ag:Nu SG GE:=cT IL rfl ⟨rfl,rfl⟩ (by kernel_rfl)
end
end Go.Proofs.Ytaedipailemlcaa.Core

namespace Go.Proofs.Ytaedipailemlcaa.Core
open Go IntKind
set_option linter.unusedVariables false
set_option maxRecDepth 100000
noncomputable section
def XB:=cG OS (AH Ct) (AH Ct) kx
def XC:=kE 0 [(5,0)] [5] 1 XB kx
def Vb:St→Option (RT (BV.outs Ct)):=lG OR [(5,0)] [0,1,5,6] 1 (AH Ct) XC
def Fx (x0 x1 x2:Int) (x3:List Int):Option ByteArray:=Vb ⟨[(0,.int .i64 x0),(1,.int .u8 x1),(5,.row 0),(6,.int .i64 x2)],[.rows 5 (.int .u8) x3]⟩
def Ip (x0 x1 x2:Int) (x3:List Int):Option ByteArray:=(if (decide (x2<x0))=true then (if 0≤x2 then (if x2<(x3.length:Int) then (let z1:List Int:=x3.set x2.toNat x1; (Fx x0 x1 (i64.wrap (x2+1)) z1)) else none) else none) else (some (K6 x3)))
def SH (x0 x1:Int):Option ByteArray:=(if 0≤x0 then (if x0≤68719476736 then (Fx x0 x1 0 (List.replicate x0.toNat 0)) else none) else none)
theorem NT:bT Ip Fx:=lS (by kernel_rfl)
theorem ah:Tg SH Lk:=cT Ct rfl ⟨rfl,rfl⟩ (by kernel_rfl)
def XD:=cG Mx (AH CH) (AH CH) kx
def O0:=kE 0 [] [3,4] 0 XD kx
def NU:St→Option (RT (BV.outs CH)):=lG OU [] [0,3,4] 0 (AH CH) O0
def O1:=kB [] [0,3,4] 0 NU
def XE:=kB [] [0,3,4] 0 O1
def XF:=kE 1 [] [0,3,4] 0 O1 O0
def Iq (x0:Int) (x1:Bool) (x2:ByteArray) (x3:Int):Option ByteArray:=cG OT XE (AH CH) XF ⟨[(0,.int .i64 x0),(3,.bool x1),(4,.str x2),(5,.int .i64 x3)],[]⟩
def Fy (x0:Int) (x1:Bool) (x2:ByteArray):Option ByteArray:=NU ⟨[(0,.int .i64 x0),(3,.bool x1),(4,.str x2)],[]⟩
def NV (x0:Int) (x1:Bool) (x2:ByteArray) (x3:Int):Option ByteArray:=((JN x3).bind fun y1=>(if (K6 ([y1]:List Int)).size+x2.size≤1099511627776 then (if 10=0 then none else (Fy (i64.wrap (Int.tdiv x0 10)) x1 ((K6 ([y1]:List Int))++x2))) else none))
def Fz (x0:Int) (x1:Bool) (x2:ByteArray):Option ByteArray:=(if (x0 != 0)=true then (if 10=0 then none else (if (decide ((Int.tmod x0 10)<0))=true then (Iq x0 x1 x2 (i64.wrap (0-(Int.tmod x0 10)))) else (Iq x0 x1 x2 (Int.tmod x0 10)))) else (if x1=true then (if (⟨#[45]⟩:ByteArray).size+x2.size≤1099511627776 then (some ((⟨#[45]⟩:ByteArray)++x2)) else none) else (some x2)))
def ME (x0:Int):Option ByteArray:=(if (x0==0)=true then (some (⟨#[48]⟩:ByteArray)) else (Fy x0 (decide (x0<0)) (⟨#[]⟩:ByteArray)))
theorem Vc:bT NV Iq:=jS (by kernel_rfl)
theorem Ir:Wc Fz Fy:=lS (by kernel_rfl)
theorem SI:Nu ME Ll:=cT CH rfl ⟨rfl,rfl⟩ (by kernel_rfl)
def By:=kE 0 [] [] 1 (AH AN) kx
def C7:St→Option (RT (BV.outs AN)):=lG DM [(0,0)] [0,1,2,6] 1 (AH AN) By
def Gr:=kB [(0,0)] [0,1,2,6] 1 C7
def DQ:=cG DL Gr (AH AN) By
def Gs:=kB [(0,0)] [0,1,2,6] 1 DQ
def Gt:=kE 1 [(0,0)] [0,1,2,6] 1 DQ By
def DR:=kE 2 [(0,0)] [0,1,2,6] 1 Gs Gt
def C8:St→Option (RT (BV.outs AN)):=lG DK [(0,0)] [0,1,2,6,7] 1 (AH AN) DR
def Gu:=kB [(0,0)] [0,1,2,6,7] 1 C8
def C9 (x0 x1 x2 x3:Int) (x4:Bool) (x5:List Int):Option (List Int):=cG DJ Gu (AH AN) DR ⟨[(0,.row 0),(1,.int .i64 x0),(2,.int .i64 x1),(6,.int .i64 x2),(7,.int .i64 x3),(30,.bool x4)],[.mrow 3 (.int .i64) x5]⟩
def BF (x0 x1 x2 x3:Int) (x4:List Int):Option (List Int):=C8 ⟨[(0,.row 0),(1,.int .i64 x0),(2,.int .i64 x1),(6,.int .i64 x2),(7,.int .i64 x3)],[.mrow 3 (.int .i64) x4]⟩
def Af (x0 x1 x2:Int) (x3:List Int):Option (List Int):=C7 ⟨[(0,.row 0),(1,.int .i64 x0),(2,.int .i64 x1),(6,.int .i64 x2)],[.mrow 3 (.int .i64) x3]⟩
def C_ (x0 x1 x2 x3:Int) (x4:Bool) (x5:List Int):Option (List Int):=(if 0≤(i64.wrap (x3-1)) then (if (i64.wrap (x3-1))<(x5.length:Int) then (if 0≤x3 then (if x3<(x5.length:Int) then (if 0≤x3 then (if x3<(x5.length:Int) then (let z2:List Int:=x5.set x3.toNat (x5.getD ((i64.wrap (x3-1)).toNat) 0); (if 0≤(i64.wrap (x3-1)) then (if (i64.wrap (x3-1))<(z2.length:Int) then (let z3:List Int:=z2.set ((i64.wrap (x3-1)).toNat) (x5.getD x3.toNat 0); (BF x0 x1 x2 (i64.wrap (x3-1)) z3)) else none) else none)) else none) else none) else none) else none) else none) else none)
def Bt (x0 x1 x2 x3:Int) (x4:List Int):Option (List Int):=(if (decide (x3>x0))=true then (if 0≤x3 then (if x3<(x4.length:Int) then (if 0≤(i64.wrap (x3-1)) then (if (i64.wrap (x3-1))<(x4.length:Int) then ((IT (x4.getD x3.toNat 0) (x4.getD ((i64.wrap (x3-1)).toNat) 0)).bind fun y1=>(if y1=true then (C9 x0 x1 x2 x3 y1 x4) else (Af x0 x1 (i64.wrap (x2+1)) x4))) else none) else none) else none) else none) else (Af x0 x1 (i64.wrap (x2+1)) x4))
def BG (x0 x1 x2:Int) (x3:List Int):Option (List Int):=(if (decide (x2<x1))=true then (BF x0 x1 x2 x2 x3) else (some x3))
def CD (x1 x2:Int) (b0:List Int):Option (List Int):=(Af x1 x2 (i64.wrap (x1+1)) b0)
theorem Gf:iA C_ C9:=jS (by kernel_rfl)
theorem DA:fu Bt BF:=lS (by kernel_rfl)
theorem Bu:bT BG Af:=lS (by kernel_rfl)
theorem Dv:Wc CD CC:=cT AN rfl ⟨rfl,rfl⟩ (by kernel_rfl)
def SJ (x0 x1:Int):Option Bool:=((G5 x0).bind fun y1=>(if y1=true then ((G5 x1).bind fun y2=>(if (!y2)=false then (some (decide (x0<x1))) else (some true))) else (some (decide (x0<x1)))))
theorem ak:Tg SJ IT:=cT IM rfl ⟨rfl,rfl⟩ (by kernel_rfl)
def EI (x0 x1:Int):Option Int:=cG Ko (AH Bv) (AH Bv) kx ⟨[(0,.int .u64 x0),(2,.int .i64 x1)],[]⟩
def GF (x0 x1:Int):Option Int:=cG Kp (AH Bv) (AH Bv) kx ⟨[(0,.int .u64 x0),(2,.int .i64 x1)],[]⟩
def GG (x0 x1:Int):Option Int:=(if (decide (x0≥256))=true then (if 8<0 then none else (if 0≤(IntKind.u8.wrap (Int.fdiv x0 (2^(min (8:Int).toNat (IntKind.bits .u64))))) then (if (IntKind.u8.wrap (Int.fdiv x0 (2^(min (8:Int).toNat (IntKind.bits .u64)))))<((⟨#[0,1,2,2,3,3,3,3,4,4,4,4,4,4,4,4,5,5,5,5,5,5,5,5,5,5,5,5,5,5,5,5,6,6,6,6,6,6,6,6,6,6,6,6,6,6,6,6,6,6,6,6,6,6,6,6,6,6,6,6,6,6,6,6,7,7,7,7,7,7,7,7,7,7,7,7,7,7,7,7,7,7,7,7,7,7,7,7,7,7,7,7,7,7,7,7,7,7,7,7,7,7,7,7,7,7,7,7,7,7,7,7,7,7,7,7,7,7,7,7,7,7,7,7,7,7,7,7,8,8,8,8,8,8,8,8,8,8,8,8,8,8,8,8,8,8,8,8,8,8,8,8,8,8,8,8,8,8,8,8,8,8,8,8,8,8,8,8,8,8,8,8,8,8,8,8,8,8,8,8,8,8,8,8,8,8,8,8,8,8,8,8,8,8,8,8,8,8,8,8,8,8,8,8,8,8,8,8,8,8,8,8,8,8,8,8,8,8,8,8,8,8,8,8,8,8,8,8,8,8,8,8,8,8,8,8,8,8,8,8,8,8,8,8,8,8,8,8,8,8,8,8,8,8,8,8]⟩:ByteArray).size:Int) then (some (i64.wrap ((i64.wrap (x1+8))+(i64.wrap (((⟨#[0,1,2,2,3,3,3,3,4,4,4,4,4,4,4,4,5,5,5,5,5,5,5,5,5,5,5,5,5,5,5,5,6,6,6,6,6,6,6,6,6,6,6,6,6,6,6,6,6,6,6,6,6,6,6,6,6,6,6,6,6,6,6,6,7,7,7,7,7,7,7,7,7,7,7,7,7,7,7,7,7,7,7,7,7,7,7,7,7,7,7,7,7,7,7,7,7,7,7,7,7,7,7,7,7,7,7,7,7,7,7,7,7,7,7,7,7,7,7,7,7,7,7,7,7,7,7,7,8,8,8,8,8,8,8,8,8,8,8,8,8,8,8,8,8,8,8,8,8,8,8,8,8,8,8,8,8,8,8,8,8,8,8,8,8,8,8,8,8,8,8,8,8,8,8,8,8,8,8,8,8,8,8,8,8,8,8,8,8,8,8,8,8,8,8,8,8,8,8,8,8,8,8,8,8,8,8,8,8,8,8,8,8,8,8,8,8,8,8,8,8,8,8,8,8,8,8,8,8,8,8,8,8,8,8,8,8,8,8,8,8,8,8,8,8,8,8,8,8,8,8,8,8,8,8,8]⟩:ByteArray).data.toList.getD (IntKind.u8.wrap (Int.fdiv x0 (2^(min (8:Int).toNat (IntKind.bits .u64))))).toNat 0).toNat:Int))))) else none) else none)) else (if 0≤(IntKind.u8.wrap x0) then (if (IntKind.u8.wrap x0)<((⟨#[0,1,2,2,3,3,3,3,4,4,4,4,4,4,4,4,5,5,5,5,5,5,5,5,5,5,5,5,5,5,5,5,6,6,6,6,6,6,6,6,6,6,6,6,6,6,6,6,6,6,6,6,6,6,6,6,6,6,6,6,6,6,6,6,7,7,7,7,7,7,7,7,7,7,7,7,7,7,7,7,7,7,7,7,7,7,7,7,7,7,7,7,7,7,7,7,7,7,7,7,7,7,7,7,7,7,7,7,7,7,7,7,7,7,7,7,7,7,7,7,7,7,7,7,7,7,7,7,8,8,8,8,8,8,8,8,8,8,8,8,8,8,8,8,8,8,8,8,8,8,8,8,8,8,8,8,8,8,8,8,8,8,8,8,8,8,8,8,8,8,8,8,8,8,8,8,8,8,8,8,8,8,8,8,8,8,8,8,8,8,8,8,8,8,8,8,8,8,8,8,8,8,8,8,8,8,8,8,8,8,8,8,8,8,8,8,8,8,8,8,8,8,8,8,8,8,8,8,8,8,8,8,8,8,8,8,8,8,8,8,8,8,8,8,8,8,8,8,8,8,8,8,8,8,8,8]⟩:ByteArray).size:Int) then (some (i64.wrap (x1+(i64.wrap (((⟨#[0,1,2,2,3,3,3,3,4,4,4,4,4,4,4,4,5,5,5,5,5,5,5,5,5,5,5,5,5,5,5,5,6,6,6,6,6,6,6,6,6,6,6,6,6,6,6,6,6,6,6,6,6,6,6,6,6,6,6,6,6,6,6,6,7,7,7,7,7,7,7,7,7,7,7,7,7,7,7,7,7,7,7,7,7,7,7,7,7,7,7,7,7,7,7,7,7,7,7,7,7,7,7,7,7,7,7,7,7,7,7,7,7,7,7,7,7,7,7,7,7,7,7,7,7,7,7,7,8,8,8,8,8,8,8,8,8,8,8,8,8,8,8,8,8,8,8,8,8,8,8,8,8,8,8,8,8,8,8,8,8,8,8,8,8,8,8,8,8,8,8,8,8,8,8,8,8,8,8,8,8,8,8,8,8,8,8,8,8,8,8,8,8,8,8,8,8,8,8,8,8,8,8,8,8,8,8,8,8,8,8,8,8,8,8,8,8,8,8,8,8,8,8,8,8,8,8,8,8,8,8,8,8,8,8,8,8,8,8,8,8,8,8,8,8,8,8,8,8,8,8,8,8,8,8,8]⟩:ByteArray).data.toList.getD (IntKind.u8.wrap x0).toNat 0).toNat:Int))))) else none) else none))
def KG (x0 x1:Int):Option Int:=(if (decide (x0≥65536))=true then (if 16<0 then none else (EI (Int.fdiv x0 (2^(min (16:Int).toNat (IntKind.bits .u64)))) (i64.wrap (x1+16)))) else (EI x0 x1))
def NW (x0:Int):Option Int:=(if (decide (x0≥4294967296))=true then (if 32<0 then none else (GF (Int.fdiv x0 (2^(min (32:Int).toNat (IntKind.bits .u64)))) 32)) else (GF x0 0))
theorem SK:Tg GG EI:=jS (by kernel_rfl)
theorem SL:Tg KG GF:=jS (by kernel_rfl)
theorem Vd:Nu NW IU:=cT Bv rfl ⟨rfl,rfl⟩ (by kernel_rfl)
def XG:=cG OW (AH Cu) (AH Cu) kx
def XH:=kE 0 [] [] 0 XG kx
def Ve:St→Option (RT (BV.outs Cu)):=lG OV [] [0,3] 0 (AH Cu) XH
def F0 (x0:List Int) (x1:Int):Option Bool:=Ve ⟨[(0,.lst (.int .i64) x0),(3,.int .i64 x1)],[]⟩
def Is (x0:List Int) (x1:Int):Option Bool:=(if (decide (x1<(x0.length:Int)))=true then (if 0≤x1 then (if x1<(x0.length:Int) then ((AM (x0.getD x1.toNat 0) 1 6).bind fun y2=>(if (!y2)=true then (some false) else (if 0≤(0:Int) then (if 0≤x1 then (if x1≤(x0.length:Int) then (if 0≤x1 then (if x1<(x0.length:Int) then ((Cj ((x0.take x1.toNat).drop (0:Int).toNat) (x0.getD x1.toNat 0)).bind fun y3=>(if y3=true then (some false) else (F0 x0 (i64.wrap (x1+1))))) else none) else none) else none) else none) else none))) else none) else none) else (some true))
def SM (x0:List Int):Option Bool:=((AM (x0.length:Int) 1 4).bind fun y1=>(if (!y1)=true then (some false) else (F0 x0 0)))
theorem NX:Tg Is F0:=lS (by kernel_rfl)
theorem am:Nu SM Ln:=cT Cu rfl ⟨rfl,rfl⟩ (by kernel_rfl)
def SN:=cG OY (AH BE) (AH BE) kx
def an:=kE 0 [(16,2)] [12,16,17,18] 6 SN kx
def Yq:St→Option (RT (BV.outs BE)):=lG JJ [(16,2)] [2,6,12,16,17,18,19,20,21] 6 (AH BE) an
def aq:=kE 0 [(16,2)] [12,16,17,18] 5 SN kx
def Yr:St→Option (RT (BV.outs BE)):=lG JJ [(16,2)] [2,6,12,16,17,18,19,20,21] 5 (AH BE) aq
def C4 (x0:Int) (x1:List AC) (x2:List Int) (x3:Int) (x4 x5:O) (x6:List Y) (x7:O) (x8:X) (x9:List X):Option (O×List Y×List AC×Bool):=Yq ⟨[(2,.int .i64 x0),(6,.ptr 0 0),(12,.ptr 1 0),(16,.row 2),(17,.lst BP x1),(18,.ptr 3 0),(19,.ptr 4 0),(20,.lst (.int .i64) x2),(21,.int .i64 x3)],[.var (U.enc x4),.var (U.enc x5),.rows 34 AD x6,.var (U.enc x7),.var (AB.enc x8),.rows 27 AB x9]⟩
def KZ (x0:List (List Int)) (x1 x2:Int) (x3:List AC) (x4:Bool) (x5 x6:O) (x7:List Y) (x8:O) (x9:X) (x10:List X):Option (O×List Y×List AC×Bool):=cG JK (AH BE) (AH BE) kx ⟨[(1,.lst (.slice (.int .i64)) x0),(2,.int .i64 x1),(3,.int .i64 x2),(6,.ptr 0 0),(12,.ptr 1 0),(16,.row 2),(17,.lst BP x3),(18,.ptr 3 0),(19,.ptr 4 0),(130,.bool x4)],[.var (U.enc x5),.var (U.enc x6),.rows 34 AD x7,.var (U.enc x8),.var (AB.enc x9),.rows 27 AB x10]⟩
def C5 (x0:Int) (x1:List AC) (x2:List Int) (x3:Int) (x4 x5:O) (x6:List Y) (x7:O) (x8:X):Option (O×List Y×List AC×Bool):=Yr ⟨[(2,.int .i64 x0),(6,.ptr 0 0),(12,.ptr 1 0),(16,.row 2),(17,.lst BP x1),(18,.ptr 3 0),(19,.ptr 4 0),(20,.lst (.int .i64) x2),(21,.int .i64 x3)],[.var (U.enc x4),.var (U.enc x5),.rows 34 AD x6,.var (U.enc x7),.var (AB.enc x8)]⟩
def Ka (x0:List (List Int)) (x1 x2:Int) (x3:List AC) (x4:Bool) (x5 x6:O) (x7:List Y) (x8:O) (x9:X):Option (O×List Y×List AC×Bool):=cG JK (AH BE) (AH BE) kx ⟨[(1,.lst (.slice (.int .i64)) x0),(2,.int .i64 x1),(3,.int .i64 x2),(6,.ptr 0 0),(12,.ptr 1 0),(16,.row 2),(17,.lst BP x3),(18,.ptr 3 0),(19,.ptr 4 0),(130,.bool x4)],[.var (U.enc x5),.var (U.enc x6),.rows 34 AD x7,.var (U.enc x8),.var (AB.enc x9)]⟩
def B1 (x0:List (List Int)) (x1 x2:Int) (x3 x4:ByteArray) (x5:List AC) (x6:Bool) (x7 x8:O) (x9:List Y):Option (O×List Y×List AC×Bool):=cG OZ (AH BE) (AH BE) kx ⟨[(1,.lst (.slice (.int .i64)) x0),(2,.int .i64 x1),(3,.int .i64 x2),(4,.str x3),(5,.str x4),(6,.ptr 0 0),(12,.ptr 1 0),(16,.row 2),(17,.lst BP x5),(100,.bool x6)],[.var (U.enc x7),.var (U.enc x8),.rows 34 AD x9]⟩
def Kb (x0:Int) (x1:List AC) (x2:List Int) (x3:Int) (x4 x5:O) (x6:List Y) (x7:O) (x8:X) (x9:List X):Option (O×List Y×List AC×Bool):=(if (decide (x3<(x2.length:Int)))=true then (if 0≤x3 then (if x3<(x2.length:Int) then (if ((x2.getD x3.toNat 0)==x4.1)=true then (C4 x0 x1 x2 (i64.wrap (x3+1)) x4 x5 x6 x7 x8 x9) else (if 0≤x3 then (if x3<(x2.length:Int) then (if (x0==1)=true then (if x6.length+([(5,x4.1,(x2.getD x3.toNat 0),x4.2.1,x7.2.2.2.2.2.2.2.2.1,([x8]:List X))]:List Y).length≤68719476736 then (C4 x0 x1 x2 (i64.wrap (x3+1)) x4 x5 (x6++([(5,x4.1,(x2.getD x3.toNat 0),x4.2.1,x7.2.2.2.2.2.2.2.2.1,([x8]:List X))]:List Y)) x7 x8 x9) else none) else (if x6.length+([(7,x4.1,(x2.getD x3.toNat 0),x4.2.1,x7.2.2.2.2.2.2.2.2.1,([]:List X))]:List Y).length≤68719476736 then (C4 x0 x1 x2 (i64.wrap (x3+1)) x4 x5 (x6++([(7,x4.1,(x2.getD x3.toNat 0),x4.2.1,x7.2.2.2.2.2.2.2.2.1,([]:List X))]:List Y)) x7 x8 x9) else none)) else none) else none)) else none) else none) else (some (x7,x6,x1,true)))
def Q2 (x0:List (List Int)) (x1 x2:Int) (x3:List AC) (x4:Bool) (x5 x6:O) (x7:List Y) (x8:O) (x9:X) (x10:List X):Option (O×List Y×List AC×Bool):=(if 0≤(i64.wrap (x5.2.1-1)) then (if (i64.wrap (x5.2.1-1))<(x0.length:Int) then ((En (x0.getD (i64.wrap (x5.2.1-1)).toNat ([]:List Int)) x5.1).bind fun y8=>(if ((y8.length:Int)==0)=true then ((Eo (x8.1,x8.2.1,x8.2.2.1,x8.2.2.2.1,x8.2.2.2.2.1,x8.2.2.2.2.2.1,x8.2.2.2.2.2.2.1,x8.2.2.2.2.2.2.2.1,x8.2.2.2.2.2.2.2.2.1,x1,x2,x8.2.2.2.2.2.2.2.2.1,x9,y8)).bind fun y9=>(some (y9.2,x7,y9.1,true))) else (C4 x1 x3 (x0.getD (i64.wrap (x5.2.1-1)).toNat ([]:List Int)) 0 x5 x6 x7 (x8.1,x8.2.1,x8.2.2.1,x8.2.2.2.1,x8.2.2.2.2.1,x8.2.2.2.2.2.1,x8.2.2.2.2.2.2.1,x8.2.2.2.2.2.2.2.1,x8.2.2.2.2.2.2.2.2.1,x1,x2,x8.2.2.2.2.2.2.2.2.1,x9,y8) x9 x10))) else none) else none)
def Kc (x0:Int) (x1:List AC) (x2:List Int) (x3:Int) (x4 x5:O) (x6:List Y) (x7:O) (x8:X):Option (O×List Y×List AC×Bool):=(if (decide (x3<(x2.length:Int)))=true then (if 0≤x3 then (if x3<(x2.length:Int) then (if ((x2.getD x3.toNat 0)==x4.1)=true then (C5 x0 x1 x2 (i64.wrap (x3+1)) x4 x5 x6 x7 x8) else (if 0≤x3 then (if x3<(x2.length:Int) then (if (x0==1)=true then (if x6.length+([(5,x4.1,(x2.getD x3.toNat 0),x4.2.1,x7.2.2.2.2.2.2.2.2.1,([x8]:List X))]:List Y).length≤68719476736 then (C5 x0 x1 x2 (i64.wrap (x3+1)) x4 x5 (x6++([(5,x4.1,(x2.getD x3.toNat 0),x4.2.1,x7.2.2.2.2.2.2.2.2.1,([x8]:List X))]:List Y)) x7 x8) else none) else (if x6.length+([(7,x4.1,(x2.getD x3.toNat 0),x4.2.1,x7.2.2.2.2.2.2.2.2.1,([]:List X))]:List Y).length≤68719476736 then (C5 x0 x1 x2 (i64.wrap (x3+1)) x4 x5 (x6++([(7,x4.1,(x2.getD x3.toNat 0),x4.2.1,x7.2.2.2.2.2.2.2.2.1,([]:List X))]:List Y)) x7 x8) else none)) else none) else none)) else none) else none) else (some (x7,x6,x1,true)))
def Q3 (x0:List (List Int)) (x1 x2:Int) (x3:List AC) (x4:Bool) (x5 x6:O) (x7:List Y) (x8:O) (x9:X):Option (O×List Y×List AC×Bool):=(if 0≤(i64.wrap (x5.2.1-1)) then (if (i64.wrap (x5.2.1-1))<(x0.length:Int) then ((En (x0.getD (i64.wrap (x5.2.1-1)).toNat ([]:List Int)) x5.1).bind fun y10=>(if ((y10.length:Int)==0)=true then ((Eo (x8.1,x8.2.1,x8.2.2.1,x8.2.2.2.1,x8.2.2.2.2.1,x8.2.2.2.2.2.1,x8.2.2.2.2.2.2.1,x8.2.2.2.2.2.2.2.1,x8.2.2.2.2.2.2.2.2.1,x1,x2,x8.2.2.2.2.2.2.2.2.1,x9,y10)).bind fun y11=>(some (y11.2,x7,y11.1,true))) else (C5 x1 x3 (x0.getD (i64.wrap (x5.2.1-1)).toNat ([]:List Int)) 0 x5 x6 x7 (x8.1,x8.2.1,x8.2.2.1,x8.2.2.2.1,x8.2.2.2.2.1,x8.2.2.2.2.2.1,x8.2.2.2.2.2.2.1,x8.2.2.2.2.2.2.2.1,x8.2.2.2.2.2.2.2.2.1,x1,x2,x8.2.2.2.2.2.2.2.2.1,x9,y10) x9))) else none) else none)
def Q4 (x0:List (List Int)) (x1 x2:Int) (x3 x4:ByteArray) (x5:List AC) (x6:Bool) (x7 x8:O) (x9:List Y):Option (O×List Y×List AC×Bool):=((CJ x7).bind fun y5=>(if (x1==1)=true then ((Em x7.2.2.2.2.2.2.2.1 (x3,x4,(i64.wrap ((i64.wrap (1000*x7.2.1))+(i64.wrap (x7.2.2.2.2.2.2.2.2.1+1)))))).bind fun y6=>((Js y6 x3).bind fun y7=>(if (true != RR AB y7 (x3,x4,(i64.wrap ((i64.wrap (1000*x7.2.1))+(i64.wrap (x7.2.2.2.2.2.2.2.2.1+1))))))=true then (some ((0,0,false,false,false,false,([]:List Int),([]:List X),0,0,0,0,(ByteArray.empty,ByteArray.empty,0),([]:List Int)),x9,x5,false)) else (KZ x0 x1 x2 x5 (true != RR AB y7 (x3,x4,(i64.wrap ((i64.wrap (1000*x7.2.1))+(i64.wrap (x7.2.2.2.2.2.2.2.2.1+1)))))) x7 x8 x9 (y5.1,y5.2.1,y5.2.2.1,y5.2.2.2.1,y5.2.2.2.2.1,y5.2.2.2.2.2.1,y5.2.2.2.2.2.2.1,y5.2.2.2.2.2.2.2.1,(i64.wrap (x7.2.2.2.2.2.2.2.2.1+1)),y5.2.2.2.2.2.2.2.2.2) (x3,x4,(i64.wrap ((i64.wrap (1000*x7.2.1))+(i64.wrap (x7.2.2.2.2.2.2.2.2.1+1))))) y6)))) else (Ka x0 x1 x2 x5 false x7 x8 x9 (y5.1,y5.2.1,y5.2.2.1,y5.2.2.2.1,y5.2.2.2.2.1,y5.2.2.2.2.2.1,y5.2.2.2.2.2.2.1,y5.2.2.2.2.2.2.2.1,(i64.wrap (x7.2.2.2.2.2.2.2.2.1+1)),y5.2.2.2.2.2.2.2.2.2) (x3,x4,(i64.wrap ((i64.wrap (1000*x7.2.1))+(i64.wrap (x7.2.2.2.2.2.2.2.2.1+1))))))))
def Vf (x0:O) (x1:List (List Int)) (x2 x3:Int) (x4 x5:ByteArray):Option (O×List Y×List AC×Bool):=((D1 x0).bind fun y1=>(if (!y1)=true then (some ((0,0,false,false,false,false,([]:List Int),([]:List X),0,0,0,0,(ByteArray.empty,ByteArray.empty,0),([]:List Int)),([]:List Y),([]:List AC),false)) else ((Cw x1).bind fun y2=>(if (!y2)=true then (some ((0,0,false,false,false,false,([]:List Int),([]:List X),0,0,0,0,(ByteArray.empty,ByteArray.empty,0),([]:List Int)),([]:List Y),([]:List AC),false)) else (if (!x0.2.2.2.2.2.1)=true then (some ((0,0,false,false,false,false,([]:List Int),([]:List X),0,0,0,0,(ByteArray.empty,ByteArray.empty,0),([]:List Int)),([]:List Y),([]:List AC),false)) else (if (x0.2.2.2.2.2.2.2.2.2.1 != 0)=true then (some ((0,0,false,false,false,false,([]:List Int),([]:List X),0,0,0,0,(ByteArray.empty,ByteArray.empty,0),([]:List Int)),([]:List Y),([]:List AC),false)) else (if (decide (x0.2.2.2.2.2.2.2.2.1≥900))=true then (some ((0,0,false,false,false,false,([]:List Int),([]:List X),0,0,0,0,(ByteArray.empty,ByteArray.empty,0),([]:List Int)),([]:List Y),([]:List AC),false)) else (if (x2 != 1)=true then (if (x2 != 2)=true then (some ((0,0,false,false,false,false,([]:List Int),([]:List X),0,0,0,0,(ByteArray.empty,ByteArray.empty,0),([]:List Int)),([]:List Y),([]:List AC),false)) else ((AM x3 0 1000).bind fun y3=>(if (!y3)=true then (some ((0,0,false,false,false,false,([]:List Int),([]:List X),0,0,0,0,(ByteArray.empty,ByteArray.empty,0),([]:List Int)),([]:List Y),([]:List AC),false)) else ((AM (x4.size:Int) 1 12).bind fun y4=>(if (!y4)=true then (some ((0,0,false,false,false,false,([]:List Int),([]:List X),0,0,0,0,(ByteArray.empty,ByteArray.empty,0),([]:List Int)),([]:List Y),([]:List AC),false)) else (if (decide ((x5.size:Int)>20))=true then (some ((0,0,false,false,false,false,([]:List Int),([]:List X),0,0,0,0,(ByteArray.empty,ByteArray.empty,0),([]:List Int)),([]:List Y),([]:List AC),false)) else (if (x2==2)=true then (if (!(x5.toList==(⟨#[]⟩:ByteArray).toList))=true then (some ((0,0,false,false,false,false,([]:List Int),([]:List X),0,0,0,0,(ByteArray.empty,ByteArray.empty,0),([]:List Int)),([]:List Y),([]:List AC),false)) else (if (decide (x0.2.1>(x1.length:Int)))=true then (some ((0,0,false,false,false,false,([]:List Int),([]:List X),0,0,0,0,(ByteArray.empty,ByteArray.empty,0),([]:List Int)),([]:List Y),([]:List AC),false)) else (if 0≤(i64.wrap (x0.2.1-1)) then (if (i64.wrap (x0.2.1-1))<(x1.length:Int) then (if 0≤(0:Int) then (if 0<((x1.getD (i64.wrap (x0.2.1-1)).toNat ([]:List Int)).length:Int) then (if (((x1.getD (i64.wrap (x0.2.1-1)).toNat ([]:List Int)).getD (0:Int).toNat 0) != x0.1)=true then (some ((0,0,false,false,false,false,([]:List Int),([]:List X),0,0,0,0,(ByteArray.empty,ByteArray.empty,0),([]:List Int)),([]:List Y),([]:List AC),false)) else (B1 x1 x2 x3 x4 x5 ([]:List AC) (((x1.getD (i64.wrap (x0.2.1-1)).toNat ([]:List Int)).getD (0:Int).toNat 0) != x0.1) x0 (0,0,false,false,false,false,([]:List Int),([]:List X),0,0,0,0,(ByteArray.empty,ByteArray.empty,0),([]:List Int)) ([]:List Y))) else none) else none) else none) else none))) else (if (decide (x0.2.1>(x1.length:Int)))=true then (some ((0,0,false,false,false,false,([]:List Int),([]:List X),0,0,0,0,(ByteArray.empty,ByteArray.empty,0),([]:List Int)),([]:List Y),([]:List AC),false)) else (if 0≤(i64.wrap (x0.2.1-1)) then (if (i64.wrap (x0.2.1-1))<(x1.length:Int) then (if 0≤(0:Int) then (if 0<((x1.getD (i64.wrap (x0.2.1-1)).toNat ([]:List Int)).length:Int) then (if (((x1.getD (i64.wrap (x0.2.1-1)).toNat ([]:List Int)).getD (0:Int).toNat 0) != x0.1)=true then (some ((0,0,false,false,false,false,([]:List Int),([]:List X),0,0,0,0,(ByteArray.empty,ByteArray.empty,0),([]:List Int)),([]:List Y),([]:List AC),false)) else (B1 x1 x2 x3 x4 x5 ([]:List AC) (((x1.getD (i64.wrap (x0.2.1-1)).toNat ([]:List Int)).getD (0:Int).toNat 0) != x0.1) x0 (0,0,false,false,false,false,([]:List Int),([]:List X),0,0,0,0,(ByteArray.empty,ByteArray.empty,0),([]:List Int)) ([]:List Y))) else none) else none) else none) else none))))))))) else ((AM x3 0 1000).bind fun y12=>(if (!y12)=true then (some ((0,0,false,false,false,false,([]:List Int),([]:List X),0,0,0,0,(ByteArray.empty,ByteArray.empty,0),([]:List Int)),([]:List Y),([]:List AC),false)) else ((AM (x4.size:Int) 1 12).bind fun y13=>(if (!y13)=true then (some ((0,0,false,false,false,false,([]:List Int),([]:List X),0,0,0,0,(ByteArray.empty,ByteArray.empty,0),([]:List Int)),([]:List Y),([]:List AC),false)) else (if (decide ((x5.size:Int)>20))=true then (some ((0,0,false,false,false,false,([]:List Int),([]:List X),0,0,0,0,(ByteArray.empty,ByteArray.empty,0),([]:List Int)),([]:List Y),([]:List AC),false)) else (if (x2==2)=true then (if (!(x5.toList==(⟨#[]⟩:ByteArray).toList))=true then (some ((0,0,false,false,false,false,([]:List Int),([]:List X),0,0,0,0,(ByteArray.empty,ByteArray.empty,0),([]:List Int)),([]:List Y),([]:List AC),false)) else (if (decide (x0.2.1>(x1.length:Int)))=true then (some ((0,0,false,false,false,false,([]:List Int),([]:List X),0,0,0,0,(ByteArray.empty,ByteArray.empty,0),([]:List Int)),([]:List Y),([]:List AC),false)) else (if 0≤(i64.wrap (x0.2.1-1)) then (if (i64.wrap (x0.2.1-1))<(x1.length:Int) then (if 0≤(0:Int) then (if 0<((x1.getD (i64.wrap (x0.2.1-1)).toNat ([]:List Int)).length:Int) then (if (((x1.getD (i64.wrap (x0.2.1-1)).toNat ([]:List Int)).getD (0:Int).toNat 0) != x0.1)=true then (some ((0,0,false,false,false,false,([]:List Int),([]:List X),0,0,0,0,(ByteArray.empty,ByteArray.empty,0),([]:List Int)),([]:List Y),([]:List AC),false)) else (B1 x1 x2 x3 x4 x5 ([]:List AC) (((x1.getD (i64.wrap (x0.2.1-1)).toNat ([]:List Int)).getD (0:Int).toNat 0) != x0.1) x0 (0,0,false,false,false,false,([]:List Int),([]:List X),0,0,0,0,(ByteArray.empty,ByteArray.empty,0),([]:List Int)) ([]:List Y))) else none) else none) else none) else none))) else (if (decide (x0.2.1>(x1.length:Int)))=true then (some ((0,0,false,false,false,false,([]:List Int),([]:List X),0,0,0,0,(ByteArray.empty,ByteArray.empty,0),([]:List Int)),([]:List Y),([]:List AC),false)) else (if 0≤(i64.wrap (x0.2.1-1)) then (if (i64.wrap (x0.2.1-1))<(x1.length:Int) then (if 0≤(0:Int) then (if 0<((x1.getD (i64.wrap (x0.2.1-1)).toNat ([]:List Int)).length:Int) then (if (((x1.getD (i64.wrap (x0.2.1-1)).toNat ([]:List Int)).getD (0:Int).toNat 0) != x0.1)=true then (some ((0,0,false,false,false,false,([]:List Int),([]:List X),0,0,0,0,(ByteArray.empty,ByteArray.empty,0),([]:List Int)),([]:List Y),([]:List AC),false)) else (B1 x1 x2 x3 x4 x5 ([]:List AC) (((x1.getD (i64.wrap (x0.2.1-1)).toNat ([]:List Int)).getD (0:Int).toNat 0) != x0.1) x0 (0,0,false,false,false,false,([]:List Int),([]:List X),0,0,0,0,(ByteArray.empty,ByteArray.empty,0),([]:List Int)) ([]:List Y))) else none) else none) else none) else none))))))))))))))))
theorem Q5:ku Kb C4:=lS (by kernel_rfl)
theorem Ys:l_ Q2 KZ:=jS (by kernel_rfl)
theorem Q6:lR Kc C5:=lS (by kernel_rfl)
theorem Yt:ku Q3 Ka:=jS (by kernel_rfl)
theorem Yu:ku Q4 B1:=jS (by kernel_rfl)
theorem dY:iA Vf Pr:=cT BE rfl ⟨rfl,rfl⟩ (by kernel_rfl)
def ar:=cG QX (AH B0) (AH B0) kx
def au:=kE 0 [(9,2)] [6,9,11] 5 ar kx
def Yv:St→Option (RT (BV.outs B0)):=lG QW [(9,2)] [1,2,3,6,9,11,13] 5 (AH B0) au
def D2 (x0:List (List Int)) (x1 x2:Int) (x3 x4:O) (x5:List Y) (x6:List X) (x7:O):Option (O×List Y×Bool):=Yv ⟨[(1,.lst (.slice (.int .i64)) x0),(2,.int .i64 x1),(3,.ptr 0 0),(6,.ptr 1 0),(9,.row 2),(11,.ptr 4 0),(13,.int .i64 x2)],[.var (U.enc x3),.var (U.enc x4),.rows 34 AD x5,.frz AB x6,.var (U.enc x7)]⟩
def FS (x0:List (List Int)) (x1:Int) (x2:Bool) (x3 x4:O) (x5:List Y):Option (O×List Y×Bool):=cG QY (AH B0) (AH B0) kx ⟨[(1,.lst (.slice (.int .i64)) x0),(2,.int .i64 x1),(3,.ptr 0 0),(6,.ptr 1 0),(9,.row 2),(10,.bool x2)],[.var (U.enc x3),.var (U.enc x4),.rows 34 AD x5]⟩
def Q7 (x0:List (List Int)) (x1:Int) (x2:Bool) (x3 x4:O) (x5:List Y):Option (O×List Y×Bool):=cG QZ (AH B0) (AH B0) kx ⟨[(1,.lst (.slice (.int .i64)) x0),(2,.int .i64 x1),(3,.ptr 0 0),(6,.ptr 1 0),(9,.row 2),(48,.bool x2)],[.var (U.enc x3),.var (U.enc x4),.rows 34 AD x5]⟩
def Ke (x0:List (List Int)) (x1 x2:Int) (x3 x4:O) (x5:List Y) (x6:List X) (x7:O):Option (O×List Y×Bool):=(if 0≤(i64.wrap (x1-2)) then (if (i64.wrap (x1-2))<(x0.length:Int) then (if (decide (x2<((x0.getD (i64.wrap (x1-2)).toNat ([]:List Int)).length:Int)))=true then (if 0≤(i64.wrap (x1-2)) then (if (i64.wrap (x1-2))<(x0.length:Int) then (if 0≤x2 then (if x2<((x0.getD (i64.wrap (x1-2)).toNat ([]:List Int)).length:Int) then (if (((x0.getD (i64.wrap (x1-2)).toNat ([]:List Int)).getD x2.toNat 0) != x3.1)=true then (if x5.length+([(1,x3.1,((x0.getD (i64.wrap (x1-2)).toNat ([]:List Int)).getD x2.toNat 0),x1,0,([]:List X))]:List Y).length≤68719476736 then (D2 x0 x1 (i64.wrap (x2+1)) x3 x4 (x5++([(1,x3.1,((x0.getD (i64.wrap (x1-2)).toNat ([]:List Int)).getD x2.toNat 0),x1,0,([]:List X))]:List Y)) x6 x7) else none) else (D2 x0 x1 (i64.wrap (x2+1)) x3 x4 x5 x6 x7)) else none) else none) else none) else none) else ((CJ x7).bind fun y7=>(some (y7,x5,true)))) else none) else none)
def Q8 (x0:List (List Int)) (x1:Int) (x2:Bool) (x3 x4:O) (x5:List Y):Option (O×List Y×Bool):=(if ([]:List X).length+x3.2.2.2.2.2.2.2.1.length≤68719476736 then (if x2=true then (if 0≤(i64.wrap (x1-1)) then (if (i64.wrap (x1-1))<(x0.length:Int) then ((Jt (x0.getD (i64.wrap (x1-1)).toNat ([]:List Int)) x3.2.2.2.2.2.2.2.1 (x3.1,x1,false,false,true,false,([]:List Int),(([]:List X)++x3.2.2.2.2.2.2.2.1),0,0,0,0,(ByteArray.empty,ByteArray.empty,0),([]:List Int))).bind fun y5=>((CJ y5.2).bind fun y6=>(some (y6,y5.1,true)))) else none) else none) else (D2 x0 x1 0 x3 x4 x5 (([]:List X)++x3.2.2.2.2.2.2.2.1) (x3.1,x1,false,false,true,false,([]:List Int),(([]:List X)++x3.2.2.2.2.2.2.2.1),0,0,0,0,(ByteArray.empty,ByteArray.empty,0),([]:List Int)))) else none)
def Q9 (x0:List (List Int)) (x1:Int) (x2:Bool) (x3 x4:O) (x5:List Y):Option (O×List Y×Bool):=(if x3.2.2.2.1=true then (if (x3.2.1==(i64.wrap (x1-1)))=true then (if 0≤(i64.wrap (x1-2)) then (if (i64.wrap (x1-2))<(x0.length:Int) then ((Cj (x0.getD (i64.wrap (x1-2)).toNat ([]:List Int)) x3.1).bind fun y4=>(FS x0 x1 y4 x3 x4 x5)) else none) else none) else (FS x0 x1 false x3 x4 x5)) else (FS x0 x1 false x3 x4 x5))
def Vg (x0:O) (x1:List (List Int)) (x2:Int):Option (O×List Y×Bool):=((D1 x0).bind fun y1=>(if (!y1)=true then (some ((0,0,false,false,false,false,([]:List Int),([]:List X),0,0,0,0,(ByteArray.empty,ByteArray.empty,0),([]:List Int)),([]:List Y),false)) else ((Cw x1).bind fun y2=>(if (!y2)=true then (some ((0,0,false,false,false,false,([]:List Int),([]:List X),0,0,0,0,(ByteArray.empty,ByteArray.empty,0),([]:List Int)),([]:List Y),false)) else ((AM x2 2 (x1.length:Int)).bind fun y3=>(if (!y3)=true then (some ((0,0,false,false,false,false,([]:List Int),([]:List X),0,0,0,0,(ByteArray.empty,ByteArray.empty,0),([]:List Int)),([]:List Y),false)) else (if (decide (x2≤x0.2.1))=true then (some ((0,0,false,false,false,false,([]:List Int),([]:List X),0,0,0,0,(ByteArray.empty,ByteArray.empty,0),([]:List Int)),([]:List Y),false)) else (if 0≤(i64.wrap (x2-1)) then (if (i64.wrap (x2-1))<(x1.length:Int) then (if 0≤(0:Int) then (if 0<((x1.getD (i64.wrap (x2-1)).toNat ([]:List Int)).length:Int) then (if (((x1.getD (i64.wrap (x2-1)).toNat ([]:List Int)).getD (0:Int).toNat 0) != x0.1)=true then (some ((0,0,false,false,false,false,([]:List Int),([]:List X),0,0,0,0,(ByteArray.empty,ByteArray.empty,0),([]:List Int)),([]:List Y),false)) else (Q7 x1 x2 (((x1.getD (i64.wrap (x2-1)).toNat ([]:List Int)).getD (0:Int).toNat 0) != x0.1) x0 (0,0,false,false,false,false,([]:List Int),([]:List X),0,0,0,0,(ByteArray.empty,ByteArray.empty,0),([]:List Int)) ([]:List Y))) else none) else none) else none) else none))))))))
theorem Q_:jM Ke D2:=lS (by kernel_rfl)
theorem Yw:iA Q8 FS:=jS (by kernel_rfl)
theorem Yx:iA Q9 Q7:=jS (by kernel_rfl)
theorem dZ:Wc Vg Ps:=cT B0 rfl ⟨rfl,rfl⟩ (by kernel_rfl)
def XI:=cG M2 (AH Ax) (AH Ax) kx
def XJ:=cG IN (AH Ax) (AH Ax) kx
def EJ (x0:List Y) (x1:List AC) (x2:Bool) (x3:O) (x4:Y) (x5 x6:O):Option (O×List Y×List AC):=cG M1 XI (AH Ax) kx ⟨[(3,.ptr 0 0),(5,.ptr 1 0),(6,.ptr 2 0),(9,.ptr 3 0),(10,.lst AD x0),(11,.lst BP x1),(146,.bool x2)],[.var (U.enc x3),.var (AD.enc x4),.var (U.enc x5),.var (U.enc x6)]⟩
def It (x0:List (List Int)) (x1:List Y) (x2:List AC) (x3:Bool) (x4:O) (x5:Y) (x6 x7:O):Option (O×List Y×List AC):=cG IN (AH Ax) (AH Ax) kx ⟨[(1,.lst (.slice (.int .i64)) x0),(3,.ptr 0 0),(5,.ptr 1 0),(6,.ptr 2 0),(9,.ptr 3 0),(10,.lst AD x1),(11,.lst BP x2),(105,.bool x3)],[.var (U.enc x4),.var (AD.enc x5),.var (U.enc x6),.var (U.enc x7)]⟩
def C0 (x0:List (List Int)) (x1:List Y) (x2:List AC) (x3:Bool) (x4:O) (x5:Y) (x6 x7:O):Option (O×List Y×List AC):=cG Mz XJ (AH Ax) kx ⟨[(1,.lst (.slice (.int .i64)) x0),(3,.ptr 0 0),(5,.ptr 1 0),(6,.ptr 2 0),(9,.ptr 3 0),(10,.lst AD x1),(11,.lst BP x2),(105,.bool x3)],[.var (U.enc x4),.var (AD.enc x5),.var (U.enc x6),.var (U.enc x7)]⟩
def NY (x0:List (List Int)) (x1:List Y) (x2:List AC) (x3:Bool) (x4:O) (x5:Y) (x6 x7:O):Option (O×List Y×List AC):=cG M3 (AH Ax) (AH Ax) kx ⟨[(1,.lst (.slice (.int .i64)) x0),(3,.ptr 0 0),(5,.ptr 1 0),(6,.ptr 2 0),(9,.ptr 3 0),(10,.lst AD x1),(11,.lst BP x2),(59,.bool x3)],[.var (U.enc x4),.var (AD.enc x5),.var (U.enc x6),.var (U.enc x7)]⟩
def NZ (x0:List Y) (x1:List AC) (x2:Bool) (x3:O) (x4:Y) (x5 x6:O):Option (O×List Y×List AC):=(if x2=true then (if ([]:List X).length+x4.2.2.2.2.2.length≤68719476736 then ((C3 x3 x4 4).bind fun y9=>(some ((x3.1,x4.2.2.2.1,false,true,false,false,([]:List Int),(([]:List X)++x4.2.2.2.2.2),0,0,0,0,(ByteArray.empty,ByteArray.empty,0),([]:List Int)),y9,x1))) else none) else (some (x6,x0,x1)))
def Na (x0:List (List Int)) (x1:List Y) (x2:List AC) (x3:Bool) (x4:O) (x5:Y) (x6 x7:O):Option (O×List Y×List AC):=(if 0≤(i64.wrap (x5.2.2.2.1-1)) then (if (i64.wrap (x5.2.2.2.1-1))<(x0.length:Int) then (if (x5.1==3)=true then ((Cj (x0.getD (i64.wrap (x5.2.2.2.1-1)).toNat ([]:List Int)) x4.1).bind fun y8=>(if y8=true then (if 0≤(0:Int) then (if 0<((x0.getD (i64.wrap (x5.2.2.2.1-1)).toNat ([]:List Int)).length:Int) then (EJ x1 x2 (((x0.getD (i64.wrap (x5.2.2.2.1-1)).toNat ([]:List Int)).getD (0:Int).toNat 0) != x4.1) x4 x5 x6 x7) else none) else none) else (EJ x1 x2 false x4 x5 x6 x7))) else (EJ x1 x2 false x4 x5 x6 x7)) else none) else none)
def Nb (x0:List (List Int)) (x1:List Y) (x2:List AC) (x3:Bool) (x4:O) (x5:Y) (x6 x7:O):Option (O×List Y×List AC):=(if x3=true then ((IV x4 x5.2.2.2.1).bind fun y7=>(if ([]:List X).length+x4.2.2.2.2.2.2.2.1.length≤68719476736 then (some (y7,([(2,x4.1,x5.2.1,x5.2.2.2.1,0,(([]:List X)++x4.2.2.2.2.2.2.2.1))]:List Y),x2)) else none)) else (It x0 x1 x2 x3 x4 x5 x6 x7))
def Nc (x0:List (List Int)) (x1:List Y) (x2:List AC) (x3:Bool) (x4:O) (x5:Y) (x6 x7:O):Option (O×List Y×List AC):=(if (x5.2.2.2.1==x4.2.1)=true then (if 0≤(i64.wrap (x4.2.1-1)) then (if (i64.wrap (x4.2.1-1))<(x0.length:Int) then ((N0 x4 (x0.getD (i64.wrap (x4.2.1-1)).toNat ([]:List Int)) x5).bind fun y5=>(some (y5.1,y5.2.1,y5.2.2))) else none) else none) else (if (x5.1==1)=true then (if (x5.2.2.2.1==(i64.wrap (x4.2.1+1)))=true then (if x4.2.2.2.1=true then (if 0≤(i64.wrap (x4.2.1-1)) then (if (i64.wrap (x4.2.1-1))<(x0.length:Int) then ((Cj (x0.getD (i64.wrap (x4.2.1-1)).toNat ([]:List Int)) x4.1).bind fun y6=>(C0 x0 x1 x2 y6 x4 x5 x6 x7)) else none) else none) else (C0 x0 x1 x2 false x4 x5 x6 x7)) else (C0 x0 x1 x2 false x4 x5 x6 x7)) else (C0 x0 x1 x2 false x4 x5 x6 x7)))
def SO (x0:O) (x1:List (List Int)) (x2:Y):Option (O×List Y×List AC):=((CJ x0).bind fun y1=>((D1 x0).bind fun y2=>(if (!y2)=false then ((Cw x1).bind fun y3=>(if (!y3)=false then ((Pt x2).bind fun y4=>(if (!y4)=false then (if (x2.2.2.1 != x0.1)=false then (if (decide (x2.2.2.2.1<x0.2.1))=false then (if (decide (x2.2.2.2.1>(x1.length:Int)))=false then (if (decide (x0.2.1>(x1.length:Int)))=true then (some (y1,([]:List Y),([]:List AC))) else (NY x1 ([]:List Y) ([]:List AC) (decide (x0.2.1>(x1.length:Int))) x0 x2 (0,0,false,false,false,false,([]:List Int),([]:List X),0,0,0,0,(ByteArray.empty,ByteArray.empty,0),([]:List Int)) y1)) else (some (y1,([]:List Y),([]:List AC)))) else (some (y1,([]:List Y),([]:List AC)))) else (some (y1,([]:List Y),([]:List AC)))) else (some (y1,([]:List Y),([]:List AC))))) else (some (y1,([]:List Y),([]:List AC))))) else (some (y1,([]:List Y),([]:List AC))))))
theorem Vh:jL NZ EJ:=jS (by kernel_rfl)
theorem Vi:jM Na It:=jS (by kernel_rfl)
theorem Vj:jM Nb C0:=jS (by kernel_rfl)
theorem Vk:jM Nc NY:=jS (by kernel_rfl)
theorem ax:Wc SO Lo:=cT Ax rfl ⟨rfl,rfl⟩ (by kernel_rfl)
def XK:=cG IP (AH Ag) (AH Ag) kx
def XL:=kE 2 [(5,1),(6,2)] [0,5,6] 3 XK kx
def Vl:St→Option (RT (BV.outs Ag)):=lG M4 [(5,1),(6,2)] [0,3,5,6,8] 3 (AH Ag) XL
def XM:=cG IQ (AH Ag) (AH Ag) kx
def Jc:=kE 0 [(5,1),(6,2)] [0,3,5,6] 3 XM kx
def Nd:St→Option (RT (BV.outs Ag)):=lG Od [(5,1),(6,2)] [0,3,5,6,7] 3 (AH Ag) Jc
def XN:=kB [(5,1),(6,2)] [0,3,5,6,7] 3 Nd
def O2:=cG Oc XN (AH Ag) Jc
def XO:=kB [(5,1),(6,2)] [0,3,5,6,7] 3 O2
def XP:=kE 1 [(5,1),(6,2)] [0,3,5,6,7] 3 O2 Jc
def F3 (x0:List X) (x1:Int) (x2:X) (x3 x4:List X):Option (List X):=cG Ob XO (AH Ag) XP ⟨[(0,.lst AB x0),(3,.ptr 0 0),(5,.row 1),(6,.row 2),(7,.int .i64 x1)],[.var (AB.enc x2),.rows 27 AB x3,.rows 27 AB x4]⟩
def Iu (x0:List X) (x1:X) (x2 x3:List X):Option (List X):=cG IP (AH Ag) (AH Ag) kx ⟨[(0,.lst AB x0),(5,.row 1),(6,.row 2)],[.var (AB.enc x1),.rows 27 AB x2,.rows 27 AB x3]⟩
def C1 (x0:List X) (x1:Int) (x2:X) (x3 x4:List X):Option (List X):=Vl ⟨[(0,.lst AB x0),(3,.ptr 0 0),(5,.row 1),(6,.row 2),(8,.int .i64 x1)],[.var (AB.enc x2),.rows 27 AB x3,.rows 27 AB x4]⟩
def Iv (x0:List X) (x1:X) (x2 x3:List X):Option (List X):=cG IQ (AH Ag) (AH Ag) kx ⟨[(0,.lst AB x0),(3,.ptr 0 0),(5,.row 1),(6,.row 2)],[.var (AB.enc x1),.rows 27 AB x2,.rows 27 AB x3]⟩
def C2 (x0:List X) (x1:Int) (x2:X) (x3 x4:List X):Option (List X):=Nd ⟨[(0,.lst AB x0),(3,.ptr 0 0),(5,.row 1),(6,.row 2),(7,.int .i64 x1)],[.var (AB.enc x2),.rows 27 AB x3,.rows 27 AB x4]⟩
def Nf (x0:List X) (x1:Int) (x2:X) (x3 x4:List X):Option (List X):=(if 0≤x1 then (if x1<(x0.length:Int) then (if (((x0.getD x1.toNat (ByteArray.empty,ByteArray.empty,0)).1).toList==x2.1.toList)=true then (if 0≤x1 then (if x1<(x0.length:Int) then (if (decide ((((x0.getD x1.toNat (ByteArray.empty,ByteArray.empty,0)).2).2)≥x2.2.2))=true then (some x3) else (C2 x0 (i64.wrap (x1+1)) x2 x3 x4)) else none) else none) else (C2 x0 (i64.wrap (x1+1)) x2 x3 x4)) else none) else none)
def Ng (x0:List X) (x1:X) (x2 x3:List X):Option (List X):=((CK x0).bind fun y1=>(if (!y1)=false then ((CK x3).bind fun y2=>(if (!y2)=true then (some x2) else (some x3))) else (some x2)))
def Iw (x0:List X) (x1:Int) (x2:X) (x3 x4:List X):Option (List X):=(if (decide (x1<(x0.length:Int)))=true then (if 0≤x1 then (if x1<(x0.length:Int) then (if (!((Op.bytesLess ((x0.getD x1.toNat (ByteArray.empty,ByteArray.empty,0)).1).toList x2.1.toList)||(((x0.getD x1.toNat (ByteArray.empty,ByteArray.empty,0)).1).toList==x2.1.toList)))=true then (if 0≤x1 then (if x1<(x0.length:Int) then (if x4.length+([x0.getD x1.toNat (ByteArray.empty,ByteArray.empty,0)]:List X).length≤68719476736 then (C1 x0 (i64.wrap (x1+1)) x2 x3 (x4++([x0.getD x1.toNat (ByteArray.empty,ByteArray.empty,0)]:List X))) else none) else none) else none) else (C1 x0 (i64.wrap (x1+1)) x2 x3 x4)) else none) else none) else (Iu x0 x2 x3 x4))
def Nh (x0:List X) (x1:X) (x2 x3:List X):Option (List X):=(if x3.length+([x1]:List X).length≤68719476736 then (C1 x0 0 x1 x2 (x3++([x1]:List X))) else none)
def Ix (x0:List X) (x1:Int) (x2:X) (x3 x4:List X):Option (List X):=(if (decide (x1<(x0.length:Int)))=true then (if 0≤x1 then (if x1<(x0.length:Int) then (if (Op.bytesLess ((x0.getD x1.toNat (ByteArray.empty,ByteArray.empty,0)).1).toList x2.1.toList)=true then (if 0≤x1 then (if x1<(x0.length:Int) then (if x4.length+([x0.getD x1.toNat (ByteArray.empty,ByteArray.empty,0)]:List X).length≤68719476736 then (F3 x0 x1 x2 x3 (x4++([x0.getD x1.toNat (ByteArray.empty,ByteArray.empty,0)]:List X))) else none) else none) else none) else (F3 x0 x1 x2 x3 x4)) else none) else none) else (Iv x0 x2 x3 x4))
def SP (x0:List X) (x1:X):Option (List X):=(if ([]:List X).length+x0.length≤68719476736 then (C2 x0 0 x1 (([]:List X)++x0) ([]:List X)) else none)
theorem Vm:fu Nf F3:=jS (by kernel_rfl)
theorem Vn:bT Ng Iu:=jS (by kernel_rfl)
theorem Ni:fu Iw C1:=lS (by kernel_rfl)
theorem Vo:bT Nh Iv:=jS (by kernel_rfl)
theorem Nj:fu Ix C2:=lS (by kernel_rfl)
theorem ay:Tg SP Em:=cT Ag rfl ⟨rfl,rfl⟩ (by kernel_rfl)
def TJ (b0:Z):Option (ByteArray×Z):=((De ([(⟨#[97]⟩:ByteArray),(⟨#[98]⟩:ByteArray),(⟨#[99]⟩:ByteArray),(⟨#[100]⟩:ByteArray),(⟨#[101]⟩:ByteArray),(⟨#[102]⟩:ByteArray),(⟨#[103]⟩:ByteArray),(⟨#[104]⟩:ByteArray),(⟨#[107,49]⟩:ByteArray),(⟨#[107,50]⟩:ByteArray),(⟨#[107,51]⟩:ByteArray),(⟨#[107,101,121]⟩:ByteArray)]:List ByteArray) b0).bind fun y1=>(some (y1.1,y1.2)))
theorem bm:Nu TJ Ny:=cT Jq rfl ⟨rfl,rfl⟩ (by kernel_rfl)
def TK (b0:Z):Option (ByteArray×Z):=((De ([(⟨#[]⟩:ByteArray),(⟨#[118]⟩:ByteArray),(⟨#[119]⟩:ByteArray),(⟨#[120,120]⟩:ByteArray),(⟨#[121,121,121]⟩:ByteArray)]:List ByteArray) b0).bind fun y1=>(some (y1.1,y1.2)))
theorem bn:Nu TK Nz:=cT Jr rfl ⟨rfl,rfl⟩ (by kernel_rfl)
def Jd (x0:Int):Option Int:=(if (decide (x0<10))=true then (some (IntKind.u8.wrap (i64.wrap (48+x0)))) else (some (IntKind.u8.wrap (i64.wrap ((i64.wrap (97+x0))-10)))))
theorem O3:Nu Jd JN:=cT GN rfl ⟨rfl,rfl⟩ (by kernel_rfl)
def RA (x0:Int):Option Bool:=(some (x0 != x0))
theorem Yy:Nu RA G5:=cT G1 rfl ⟨rfl,rfl⟩ (by kernel_rfl)
end
end Go.Proofs.Ytaedipailemlcaa.Core

namespace Go.Proofs.Ytaedipailemlcaa.Core
open Go IntKind
set_option linter.unusedVariables false
set_option maxRecDepth 100000
noncomputable section
def Cf (x0:Bool) (x1:O):Option Bool:=cG M5 (AH Dz) (AH Dz) kx ⟨[(1,.ptr 0 0),(70,.bool x0)],[.var (U.enc x1)]⟩
def MF (x0:Bool) (x1:O):Option Bool:=((JO x1.2.2.2.2.2.2.2.2.2).bind fun y7=>(if y7=false then (if (x1.2.2.2.2.2.2.2.2.2.1==1)=false then (if (x1.2.2.2.2.2.2.2.2.2.1==2)=true then (if x1.2.2.2.2.2.1=true then ((AM x1.2.2.2.2.2.2.2.2.2.2.1 0 1000).bind fun y8=>(if y8=true then ((AM x1.2.2.2.2.2.2.2.2.2.2.2.1 1 900).bind fun y9=>(some y9)) else (some false))) else (some false)) else (some false)) else (if x1.2.2.2.2.2.1=true then ((AM x1.2.2.2.2.2.2.2.2.2.2.1 0 1000).bind fun y10=>(if y10=true then ((AM x1.2.2.2.2.2.2.2.2.2.2.2.1 1 900).bind fun y11=>(some y11)) else (some false))) else (some false))) else (some true)))
def RB (x0:O):Option Bool:=((AM x0.1 1 6).bind fun y1=>(if (!y1)=false then ((AM x0.2.1 1 9).bind fun y2=>(if (!y2)=false then (if x0.2.2.2.2.2.1=true then (if (!x0.2.2.2.1)=false then (if (!x0.2.2.2.2.1)=false then (if (decide ((x0.2.2.2.2.2.2.1.length:Int)>0))=false then (if x0.2.2.1=true then (if x0.2.2.2.1=false then (if x0.2.2.2.2.1=false then ((CE x0.2.2.2.2.2.2.1).bind fun y3=>(if (!y3)=false then ((CE x0.2.2.2.2.2.2.2.2.2.2.2.2.2).bind fun y4=>(if (!y4)=false then ((CK x0.2.2.2.2.2.2.2.1).bind fun y5=>(if (!y5)=false then ((AM x0.2.2.2.2.2.2.2.2.1 0 900).bind fun y6=>(if (!y6)=true then (some false) else (Cf (!y6) x0))) else (some false))) else (some false))) else (some false))) else (some false)) else (some false)) else ((CE x0.2.2.2.2.2.2.1).bind fun y12=>(if (!y12)=false then ((CE x0.2.2.2.2.2.2.2.2.2.2.2.2.2).bind fun y13=>(if (!y13)=false then ((CK x0.2.2.2.2.2.2.2.1).bind fun y14=>(if (!y14)=false then ((AM x0.2.2.2.2.2.2.2.2.1 0 900).bind fun y15=>(if (!y15)=true then (some false) else (Cf (!y15) x0))) else (some false))) else (some false))) else (some false)))) else (some false)) else (some false)) else (some false)) else (if x0.2.2.1=true then (if x0.2.2.2.1=false then (if x0.2.2.2.2.1=false then ((CE x0.2.2.2.2.2.2.1).bind fun y16=>(if (!y16)=false then ((CE x0.2.2.2.2.2.2.2.2.2.2.2.2.2).bind fun y17=>(if (!y17)=false then ((CK x0.2.2.2.2.2.2.2.1).bind fun y18=>(if (!y18)=false then ((AM x0.2.2.2.2.2.2.2.2.1 0 900).bind fun y19=>(if (!y19)=true then (some false) else (Cf (!y19) x0))) else (some false))) else (some false))) else (some false))) else (some false)) else (some false)) else ((CE x0.2.2.2.2.2.2.1).bind fun y20=>(if (!y20)=false then ((CE x0.2.2.2.2.2.2.2.2.2.2.2.2.2).bind fun y21=>(if (!y21)=false then ((CK x0.2.2.2.2.2.2.2.1).bind fun y22=>(if (!y22)=false then ((AM x0.2.2.2.2.2.2.2.2.1 0 900).bind fun y23=>(if (!y23)=true then (some false) else (Cf (!y23) x0))) else (some false))) else (some false))) else (some false))))) else (some false))) else (some false)))
theorem T4:Tg MF Cf:=jS (by kernel_rfl)
theorem Yz:Nu RB D1:=cT Dz rfl ⟨rfl,rfl⟩ (by kernel_rfl)
def Y0:=cG Qb (AH DN) (AH DN) kx
def Y1:=kE 0 [] [4] 1 Y0 kx
def XQ:St→Option (RT (BV.outs DN)):=lG Qa [] [0,1,4,5] 1 (AH DN) Y1
def GV (x0:List X) (x1:ByteArray) (x2:Int) (x3:X):Option X:=XQ ⟨[(0,.lst AB x0),(1,.str x1),(4,.ptr 0 0),(5,.int .i64 x2)],[.var (AB.enc x3)]⟩
def Je (x0:List X) (x1:ByteArray) (x2:Int) (x3:X):Option X:=(if (decide (x2<(x0.length:Int)))=true then (if 0≤x2 then (if x2<(x0.length:Int) then (if (((x0.getD x2.toNat (ByteArray.empty,ByteArray.empty,0)).1).toList==x1.toList)=true then (if 0≤x2 then (if x2<(x0.length:Int) then (some (x0.getD x2.toNat (ByteArray.empty,ByteArray.empty,0))) else none) else none) else (GV x0 x1 (i64.wrap (x2+1)) x3)) else none) else none) else (some (ByteArray.empty,ByteArray.empty,0)))
def TL (x0:List X) (x1:ByteArray):Option X:=(GV x0 x1 0 (ByteArray.empty,ByteArray.empty,0))
theorem O4:bT Je GV:=lS (by kernel_rfl)
theorem bo:Tg TL Js:=cT DN rfl ⟨rfl,rfl⟩ (by kernel_rfl)
def T5:=cG Ld (AH B9) (AH B9) kx
def T6:=kE 0 [(5,0)] [5] 1 T5 kx
def Sz:St→Option (RT (BV.outs B9)):=lG Lc [(5,0)] [0,1,5,6] 1 (AH B9) T6
def Bc (x0:List Int) (x1 x2:Int) (x3:List Int):Option (List Int):=Sz ⟨[(0,.lst (.int .i64) x0),(1,.int .i64 x1),(5,.row 0),(6,.int .i64 x2)],[.rows 3 (.int .i64) x3]⟩
def Gg (x0:List Int) (x1 x2:Int) (x3:List Int):Option (List Int):=(if (decide (x2≤6))=true then (if (x2 != x1)=true then ((Cj x0 x2).bind fun y1=>(if y1=true then (if x3.length+([x2]:List Int).length≤68719476736 then (Bc x0 x1 (i64.wrap (x2+1)) (x3++([x2]:List Int))) else none) else (Bc x0 x1 (i64.wrap (x2+1)) x3))) else (Bc x0 x1 (i64.wrap (x2+1)) x3)) else (some x3))
def O5 (x0:List Int) (x1:Int):Option (List Int):=(Bc x0 x1 1 ([]:List Int))
theorem K5:bT Gg Bc:=lS (by kernel_rfl)
theorem XR:Tg O5 En:=cT B9 rfl ⟨rfl,rfl⟩ (by kernel_rfl)
def O6 (b0:O):Option (List AC×O):=(if (b0.2.2.2.2.2.2.2.2.2.1==1)=true then ((Em b0.2.2.2.2.2.2.2.1 b0.2.2.2.2.2.2.2.2.2.2.2.2.1).bind fun y1=>(some (([(b0.2.2.2.2.2.2.2.2.2.2.1,b0.2.1,b0.2.2.2.2.2.2.2.2.2.2.2.1,b0.2.2.2.2.2.2.2.2.2.2.2.2.1)]:List AC),(b0.1,b0.2.1,b0.2.2.1,b0.2.2.2.1,b0.2.2.2.2.1,b0.2.2.2.2.2.1,b0.2.2.2.2.2.2.1,y1,b0.2.2.2.2.2.2.2.2.1,0,0,0,(ByteArray.empty,ByteArray.empty,0),([]:List Int))))) else ((Js b0.2.2.2.2.2.2.2.1 b0.2.2.2.2.2.2.2.2.2.2.2.2.1.1).bind fun y2=>(some (([(b0.2.2.2.2.2.2.2.2.2.2.1,b0.2.1,b0.2.2.2.2.2.2.2.2.2.2.2.1,y2)]:List AC),(b0.1,b0.2.1,b0.2.2.1,b0.2.2.2.1,b0.2.2.2.2.1,b0.2.2.2.2.2.1,b0.2.2.2.2.2.2.1,b0.2.2.2.2.2.2.2.1,b0.2.2.2.2.2.2.2.2.1,0,0,0,(ByteArray.empty,ByteArray.empty,0),([]:List Int))))))
theorem XS:Nu O6 Eo:=cT GO rfl ⟨rfl,rfl⟩ (by kernel_rfl)
def Y2:=cG Qd (AH DO) (AH DO) kx
def Y3:=kE 0 [(7,1)] [7] 3 Y2 kx
def XT:St→Option (RT (BV.outs DO)):=lG Qc [(7,1)] [0,1,2,7,8] 3 (AH DO) Y3
def Eu (x0:List Int) (x1:List X) (x2:Int) (x3:O) (x4:List Y) (x5:List X):Option (List Y×O):=XT ⟨[(0,.ptr 0 0),(1,.lst (.int .i64) x0),(2,.lst AB x1),(7,.row 1),(8,.int .i64 x2)],[.var (U.enc x3),.rows 34 AD x4,.frz AB x5]⟩
def Jf (x0:List Int) (x1:List X) (x2:Int) (x3:O) (x4:List Y) (x5:List X):Option (List Y×O):=(if (decide (x2<(x0.length:Int)))=true then (if 0≤x2 then (if x2<(x0.length:Int) then (if ((x0.getD x2.toNat 0) != x3.1)=true then (if 0≤x2 then (if x2<(x0.length:Int) then (if ([]:List X).length+x1.length≤68719476736 then (if x4.length+([(3,x3.1,(x0.getD x2.toNat 0),x3.2.1,0,(([]:List X)++x1))]:List Y).length≤68719476736 then (Eu x0 x1 (i64.wrap (x2+1)) x3 (x4++([(3,x3.1,(x0.getD x2.toNat 0),x3.2.1,0,(([]:List X)++x1))]:List Y)) x5) else none) else none) else none) else none) else (Eu x0 x1 (i64.wrap (x2+1)) x3 x4 x5)) else none) else none) else (some (x4,x3)))
def TM (x1:List Int) (x2:List X) (b0:O):Option (List Y×O):=(if ([]:List X).length+x2.length≤68719476736 then ((En x1 b0.1).bind fun y1=>(Eu x1 x2 0 (b0.1,b0.2.1,b0.2.2.1,true,b0.2.2.2.2.1,((y1.length:Int)==0),y1,(([]:List X)++x2),b0.2.2.2.2.2.2.2.2) ([]:List Y) (([]:List X)++x2))) else none)
theorem O7:iA Jf Eu:=lS (by kernel_rfl)
theorem bp:Wc TM Jt:=cT DO rfl ⟨rfl,rfl⟩ (by kernel_rfl)
def SQ:=cG Rt (AH DG) (AH DG) kx
def az:=kB [] [1] 1 SQ
def a_:=kE 0 [] [1] 1 SQ kx
def G8 (x0:Int) (x1:Bool) (x2:Y):Option Bool:=cG Rs az (AH DG) a_ ⟨[(1,.ptr 0 0),(38,.int .i64 x0),(39,.bool x1)],[.var (AD.enc x2)]⟩
def Kf (x0:Bool) (x1:Y):Option Bool:=cG Ru (AH DG) (AH DG) kx ⟨[(1,.ptr 0 0),(36,.bool x0)],[.var (AD.enc x1)]⟩
def RC (x0:Int) (x1:Bool) (x2:Y):Option Bool:=(if x1=true then (some true) else (if (x0==5)=true then (some ((x2.2.2.2.2.2.length:Int)==1)) else (some ((x2.2.2.2.2.2.length:Int)==0))))
def RD (x0:Bool) (x1:Y):Option Bool:=(if (x1.1==2)=true then (G8 x1.1 (x1.1==2) x1) else (G8 x1.1 (x1.1==3) x1))
def Vp (x0:Y):Option Bool:=((AM x0.1 1 8).bind fun y1=>(if (!y1)=false then ((AM x0.2.1 1 6).bind fun y2=>(if (!y2)=false then ((AM x0.2.2.1 1 6).bind fun y3=>(if (!y3)=false then ((AM x0.2.2.2.1 1 9).bind fun y4=>(if (!y4)=false then ((AM x0.2.2.2.2.1 0 1000000000).bind fun y5=>(if (!y5)=false then ((CK x0.2.2.2.2.2).bind fun y6=>(if (!y6)=true then (some false) else (Kf (!y6) x0))) else (some false))) else (some false))) else (some false))) else (some false))) else (some false)))
theorem Y4:Wc RC G8:=jS (by kernel_rfl)
theorem Y5:Tg RD Kf:=jS (by kernel_rfl)
theorem da:Nu Vp Pt:=cT DG rfl ⟨rfl,rfl⟩ (by kernel_rfl)
def RE:=cG Oh (AH Bo) (AH Bo) kx
def D3:=kB [] [6,9,10,11] 4 RE
def D4:=kE 0 [] [6,9,10,11] 4 RE kx
def GW (x0:List Int) (x1:List Y) (x2:List AC) (x3:Bool) (x4:O) (x5:Y) (x6 x7:O):Option (O×List Y×List AC):=cG Qe D3 (AH Bo) D4 ⟨[(1,.lst (.int .i64) x0),(5,.ptr 1 0),(6,.ptr 2 0),(9,.ptr 3 0),(10,.lst AD x1),(11,.lst BP x2),(28,.bool x3)],[.var (U.enc x4),.var (AD.enc x5),.var (U.enc x6),.var (U.enc x7)]⟩
def GX (x0:List Y) (x1:List AC) (x2:Bool) (x3:O) (x4:Y) (x5 x6:O):Option (O×List Y×List AC):=cG Qf D3 (AH Bo) D4 ⟨[(3,.ptr 0 0),(5,.ptr 1 0),(6,.ptr 2 0),(9,.ptr 3 0),(10,.lst AD x0),(11,.lst BP x1),(60,.bool x2)],[.var (U.enc x3),.var (AD.enc x4),.var (U.enc x5),.var (U.enc x6)]⟩
def Jg (x0:List Y) (x1:List AC) (x2:Bool) (x3:O) (x4:Y) (x5 x6:O):Option (O×List Y×List AC):=cG Qg D3 (AH Bo) D4 ⟨[(3,.ptr 0 0),(5,.ptr 1 0),(6,.ptr 2 0),(9,.ptr 3 0),(10,.lst AD x0),(11,.lst BP x1),(50,.bool x2)],[.var (U.enc x3),.var (AD.enc x4),.var (U.enc x5),.var (U.enc x6)]⟩
def Jh (x0:List Y) (x1:List AC) (x2:Bool) (x3:O) (x4:Y) (x5 x6:O):Option (O×List Y×List AC):=cG Oe D3 (AH Bo) D4 ⟨[(5,.ptr 1 0),(6,.ptr 2 0),(9,.ptr 3 0),(10,.lst AD x0),(11,.lst BP x1),(145,.bool x2)],[.var (U.enc x3),.var (AD.enc x4),.var (U.enc x5),.var (U.enc x6)]⟩
def GY (x0:List Y) (x1:List AC) (x2:Int) (x3:O) (x4:Y) (x5 x6:O):Option (O×List Y×List AC):=cG Of D3 (AH Bo) D4 ⟨[(5,.ptr 1 0),(6,.ptr 2 0),(9,.ptr 3 0),(10,.lst AD x0),(11,.lst BP x1),(13,.int .i64 x2)],[.var (U.enc x3),.var (AD.enc x4),.var (U.enc x5),.var (U.enc x6)]⟩
def GZ (x0:List Y) (x1:List AC) (x2:Bool) (x3:O) (x4:Y) (x5 x6:O):Option (O×List Y×List AC):=cG Og D3 (AH Bo) D4 ⟨[(5,.ptr 1 0),(6,.ptr 2 0),(9,.ptr 3 0),(10,.lst AD x0),(11,.lst BP x1),(127,.bool x2)],[.var (U.enc x3),.var (AD.enc x4),.var (U.enc x5),.var (U.enc x6)]⟩
def O8 (x0:List Int) (x1:List Y) (x2:List AC) (x3:Bool) (x4:O) (x5:Y) (x6 x7:O):Option (O×List Y×List AC):=(if x3=true then ((Jt x0 x5.2.2.2.2.2 x7).bind fun y2=>(some (y2.2,y2.1,x2))) else (some (x7,x1,x2)))
def O9 (x0:List Y) (x1:List AC) (x2:Bool) (x3:O) (x4:Y) (x5 x6:O):Option (O×List Y×List AC):=(if (!x6.2.2.2.1)=true then ((IV x3 x3.2.1).bind fun y4=>(if ([]:List X).length+x4.2.2.2.2.2.length≤68719476736 then ((C3 x3 x4 4).bind fun y5=>(some ((y4.1,y4.2.1,y4.2.2.1,true,y4.2.2.2.2.1,y4.2.2.2.2.2.1,y4.2.2.2.2.2.2.1,(([]:List X)++x4.2.2.2.2.2),y4.2.2.2.2.2.2.2.2),y5,x1))) else none)) else ((C3 x3 x4 4).bind fun y6=>(some (x6,y6,x1))))
def O_ (x0:List Y) (x1:List AC) (x2:Bool) (x3:O) (x4:Y) (x5 x6:O):Option (O×List Y×List AC):=(if (!x6.2.2.2.1)=true then (if x6.2.2.1=true then (some (x6,x0,x1)) else (GX x0 x1 x6.2.2.1 x3 x4 x5 x6)) else (GX x0 x1 false x3 x4 x5 x6))
def PA (x0:List Y) (x1:List AC) (x2:Bool) (x3:O) (x4:Y) (x5 x6:O):Option (O×List Y×List AC):=((Fn x6.2.2.2.2.2.2.2.2.2.2.2.2.2 x4.2.1).bind fun y11=>(if ((y11.length:Int)==0)=true then ((Eo (x6.1,x6.2.1,x6.2.2.1,x6.2.2.2.1,x6.2.2.2.2.1,x6.2.2.2.2.2.1,x6.2.2.2.2.2.2.1,x6.2.2.2.2.2.2.2.1,x6.2.2.2.2.2.2.2.2.1,x6.2.2.2.2.2.2.2.2.2.1,x6.2.2.2.2.2.2.2.2.2.2.1,x6.2.2.2.2.2.2.2.2.2.2.2.1,x6.2.2.2.2.2.2.2.2.2.2.2.2.1,y11)).bind fun y12=>(some (y12.2,x0,y12.1))) else (some ((x6.1,x6.2.1,x6.2.2.1,x6.2.2.2.1,x6.2.2.2.2.1,x6.2.2.2.2.2.1,x6.2.2.2.2.2.2.1,x6.2.2.2.2.2.2.2.1,x6.2.2.2.2.2.2.2.2.1,x6.2.2.2.2.2.2.2.2.2.1,x6.2.2.2.2.2.2.2.2.2.2.1,x6.2.2.2.2.2.2.2.2.2.2.2.1,x6.2.2.2.2.2.2.2.2.2.2.2.2.1,y11),x0,x1))))
def PB (x0:List Y) (x1:List AC) (x2:Int) (x3:O) (x4:Y) (x5 x6:O):Option (O×List Y×List AC):=(if (x6.2.2.2.2.2.2.2.2.2.1 != x2)=false then (if (x6.2.2.2.2.2.2.2.2.2.2.2.1 != x4.2.2.2.2.1)=true then (some (x6,x0,x1)) else (Jh x0 x1 (x6.2.2.2.2.2.2.2.2.2.2.2.1 != x4.2.2.2.2.1) x3 x4 x5 x6)) else (some (x6,x0,x1)))
def PC (x0:List Y) (x1:List AC) (x2:Bool) (x3:O) (x4:Y) (x5 x6:O):Option (O×List Y×List AC):=(if x2=true then (if (x4.1==8)=true then (GY x0 x1 2 x3 x4 x5 x6) else (GY x0 x1 1 x3 x4 x5 x6)) else (some (x6,x0,x1)))
def TN (x0:O) (x1:List Int) (x2:Y):Option (O×List Y×List AC):=((CJ x0).bind fun y1=>(if (x2.1==2)=true then (if y1.2.2.2.2.1=true then (GW x1 ([]:List Y) ([]:List AC) (!y1.2.2.2.1) x0 x2 (0,0,false,false,false,false,([]:List Int),([]:List X),0,0,0,0,(ByteArray.empty,ByteArray.empty,0),([]:List Int)) y1) else (GW x1 ([]:List Y) ([]:List AC) false x0 x2 (0,0,false,false,false,false,([]:List Int),([]:List X),0,0,0,0,(ByteArray.empty,ByteArray.empty,0),([]:List Int)) y1)) else (if (x2.1==3)=true then ((Cj x1 x0.1).bind fun y3=>(if (!y3)=true then (some (y1,([]:List Y),([]:List AC))) else (if 0≤(0:Int) then (if 0<(x1.length:Int) then (if ((x1.getD (0:Int).toNat 0)==x0.1)=true then (some (y1,([]:List Y),([]:List AC))) else (Jg ([]:List Y) ([]:List AC) ((x1.getD (0:Int).toNat 0)==x0.1) x0 x2 (0,0,false,false,false,false,([]:List Int),([]:List X),0,0,0,0,(ByteArray.empty,ByteArray.empty,0),([]:List Int)) y1)) else none) else none))) else (if (x2.1==4)=true then (if y1.2.2.2.2.1=true then ((Fn y1.2.2.2.2.2.2.1 x2.2.1).bind fun y7=>(if y1.2.2.2.1=true then (some ((y1.1,y1.2.1,y1.2.2.1,y1.2.2.2.1,y1.2.2.2.2.1,((y7.length:Int)==0),y7,y1.2.2.2.2.2.2.2),([]:List Y),([]:List AC))) else (some ((y1.1,y1.2.1,y1.2.2.1,y1.2.2.2.1,y1.2.2.2.2.1,false,y7,y1.2.2.2.2.2.2.2),([]:List Y),([]:List AC))))) else (some (y1,([]:List Y),([]:List AC)))) else (if (x2.1==5)=true then (if y1.2.2.2.1=true then (if 0≤(0:Int) then (if 0<(x2.2.2.2.2.2.length:Int) then ((Em y1.2.2.2.2.2.2.2.1 (x2.2.2.2.2.2.getD (0:Int).toNat (ByteArray.empty,ByteArray.empty,0))).bind fun y8=>((C3 x0 x2 6).bind fun y9=>(some ((y1.1,y1.2.1,y1.2.2.1,y1.2.2.2.1,y1.2.2.2.2.1,y1.2.2.2.2.2.1,y1.2.2.2.2.2.2.1,y8,y1.2.2.2.2.2.2.2.2),y9,([]:List AC))))) else none) else none) else (some (y1,([]:List Y),([]:List AC)))) else (if (x2.1==7)=true then (if y1.2.2.2.1=true then ((C3 x0 x2 8).bind fun y10=>(some (y1,y10,([]:List AC)))) else (some (y1,([]:List Y),([]:List AC)))) else (if (x2.1==6)=true then (GZ ([]:List Y) ([]:List AC) (x2.1==6) x0 x2 (0,0,false,false,false,false,([]:List Int),([]:List X),0,0,0,0,(ByteArray.empty,ByteArray.empty,0),([]:List Int)) y1) else (GZ ([]:List Y) ([]:List AC) (x2.1==8) x0 x2 (0,0,false,false,false,false,([]:List Int),([]:List X),0,0,0,0,(ByteArray.empty,ByteArray.empty,0),([]:List Int)) y1))))))))
theorem XU:jM O8 GW:=jS (by kernel_rfl)
theorem XV:jL O9 GX:=jS (by kernel_rfl)
theorem XW:jL O_ Jg:=jS (by kernel_rfl)
theorem XX:jL PA Jh:=jS (by kernel_rfl)
theorem XY:jL PB GY:=jS (by kernel_rfl)
theorem XZ:jL PC GZ:=jS (by kernel_rfl)
theorem br:Wc TN N0:=cT Bo rfl ⟨rfl,rfl⟩ (by kernel_rfl)
def SS (x0:O) (x1:Int):Option O:=(if ([]:List X).length+x0.2.2.2.2.2.2.2.1.length≤68719476736 then (some (x0.1,x1,false,false,false,false,([]:List Int),(([]:List X)++x0.2.2.2.2.2.2.2.1),0,0,0,0,(ByteArray.empty,ByteArray.empty,0),([]:List Int))) else none)
theorem bA:Tg SS IV:=cT IR rfl ⟨rfl,rfl⟩ (by kernel_rfl)
def Y6 (x0:O) (x1:Y) (x2:Int):Option (List Y):=(some ([(x2,x0.1,x1.2.1,x1.2.2.2.1,x1.2.2.2.2.1,([]:List X))]:List Y))
theorem Y7:Wc Y6 C3:=cT G2 rfl ⟨rfl,rfl⟩ (by kernel_rfl)
def Xa:=cG M_ (AH Cv) (AH Cv) kx
def Xb:=kE 0 [] [0] 0 Xa kx
def Vq:St→Option (RT (BV.outs Cv)):=lG M9 [] [0,3] 0 (AH Cv) Xb
def EK (x0:List X) (x1:Int):Option Bool:=Vq ⟨[(0,.lst AB x0),(3,.int .i64 x1)],[]⟩
def Iy (x0:List X) (x1:Int):Option Bool:=(if (decide (x1<(x0.length:Int)))=true then (if 0≤x1 then (if x1<(x0.length:Int) then ((AM (((x0.getD x1.toNat (ByteArray.empty,ByteArray.empty,0)).1).size:Int) 1 12).bind fun y1=>(if (!y1)=true then (some false) else (if (decide (((((x0.getD x1.toNat (ByteArray.empty,ByteArray.empty,0)).2).1).size:Int)>20))=true then (some false) else ((AM (((x0.getD x1.toNat (ByteArray.empty,ByteArray.empty,0)).2).2) 1 1000000000).bind fun y2=>(if (!y2)=true then (some false) else (if (decide (x1>0))=true then (if 0≤(i64.wrap (x1-1)) then (if (i64.wrap (x1-1))<(x0.length:Int) then (if (!(Op.bytesLess ((x0.getD (i64.wrap (x1-1)).toNat (ByteArray.empty,ByteArray.empty,0)).1).toList ((x0.getD x1.toNat (ByteArray.empty,ByteArray.empty,0)).1).toList))=true then (some false) else (EK x0 (i64.wrap (x1+1)))) else none) else none) else (EK x0 (i64.wrap (x1+1))))))))) else none) else none) else (some (decide ((x0.length:Int)≤12))))
def ST (x0:List X):Option Bool:=(EK x0 0)
theorem Nk:Tg Iy EK:=lS (by kernel_rfl)
theorem bB:Nu ST CK:=cT Cv rfl ⟨rfl,rfl⟩ (by kernel_rfl)
def Y8:=cG Qj (AH DP) (AH DP) kx
def Y9:=kE 0 [] [] 0 Y8 kx
def Xc:St→Option (RT (BV.outs DP)):=lG Qi [] [0,3] 0 (AH DP) Y9
def Ew (x0:List Int) (x1:Int):Option Bool:=Xc ⟨[(0,.lst (.int .i64) x0),(3,.int .i64 x1)],[]⟩
def Ji (x0:List Int) (x1:Int):Option Bool:=(if (decide (x1<(x0.length:Int)))=true then (if 0≤x1 then (if x1<(x0.length:Int) then ((AM (x0.getD x1.toNat 0) 1 6).bind fun y1=>(if (!y1)=true then (some false) else (if (decide (x1>0))=true then (if 0≤(i64.wrap (x1-1)) then (if (i64.wrap (x1-1))<(x0.length:Int) then (if 0≤x1 then (if x1<(x0.length:Int) then (if (decide ((x0.getD (i64.wrap (x1-1)).toNat 0)≥(x0.getD x1.toNat 0)))=true then (some false) else (Ew x0 (i64.wrap (x1+1)))) else none) else none) else none) else none) else (Ew x0 (i64.wrap (x1+1)))))) else none) else none) else (some true))
def TO (x0:List Int):Option Bool:=(Ew x0 0)
theorem PD:Tg Ji Ew:=lS (by kernel_rfl)
theorem bt:Nu TO CE:=cT DP rfl ⟨rfl,rfl⟩ (by kernel_rfl)
def PE (x0:iy):Option Bool:=(if (x0.1==0)=true then (if (x0.2.1==0)=true then (if (x0.2.2.1==0)=true then (if (false != RR AB x0.2.2.2.1 (ByteArray.empty,ByteArray.empty,0))=true then (some ((x0.2.2.2.2.length:Int)==0)) else (some false)) else (some false)) else (some false)) else (some false))
theorem Xd:Nu PE JO:=cT GP rfl ⟨rfl,rfl⟩ (by kernel_rfl)
def S0:=cG Kr (AH Bw) (AH Bw) kx
def S3:=kE 0 [(5,0)] [5] 1 S0 kx
def SU:St→Option (RT (BV.outs Bw)):=lG Kq [(5,0)] [0,1,5,6] 1 (AH Bw) S3
def Cx (x0:List Int) (x1 x2:Int) (x3:List Int):Option (List Int):=SU ⟨[(0,.lst (.int .i64) x0),(1,.int .i64 x1),(5,.row 0),(6,.int .i64 x2)],[.rows 3 (.int .i64) x3]⟩
def GH (x0:List Int) (x1 x2:Int) (x3:List Int):Option (List Int):=(if (decide (x2<(x0.length:Int)))=true then (if 0≤x2 then (if x2<(x0.length:Int) then (if ((x0.getD x2.toNat 0) != x1)=true then (if 0≤x2 then (if x2<(x0.length:Int) then (if x3.length+([(x0.getD x2.toNat 0)]:List Int).length≤68719476736 then (Cx x0 x1 (i64.wrap (x2+1)) (x3++([(x0.getD x2.toNat 0)]:List Int))) else none) else none) else none) else (Cx x0 x1 (i64.wrap (x2+1)) x3)) else none) else none) else (some x3))
def Nl (x0:List Int) (x1:Int):Option (List Int):=(Cx x0 x1 0 ([]:List Int))
theorem KH:bT GH Cx:=lS (by kernel_rfl)
theorem Vr:Tg Nl Fn:=cT Bw rfl ⟨rfl,rfl⟩ (by kernel_rfl)
end
end Go.Proofs.Ytaedipailemlcaa.Core


namespace Go.Proofs.Ytaedipailemlcaa.Core
open Go
set_option linter.unusedVariables false
theorem AW {n:Int} (h:-9223372036854775808≤n∧n≤9223372036854775807):IntKind.i64.wrap n=n:=IntWalk.i64_in n h
theorem AS {i:Nat} (h:i<9223372036854775807):IntKind.i64.wrap ((i:Int)+1)=((i+1:Nat):Int):=by
 rw [AW (by omega)]
 omega
theorem Gh {P:Nat→Prop} {n:Nat} (h0:P n) (h:∀ i,i<n→P (i+1)→P i):∀ i,i≤n→P i:=by
 intro i hi
 induction hk:n-i generalizing i with
 | zero =>
  have:i=n:=by omega
  subst this
  exact h0
 | succ k ih=>exact h i (by omega) (ih (i+1) (by omega) (by omega))
theorem Ab {α:Type} {xs:List α} {i:Nat} {d:α} (h:i<xs.length):xs.getD i d=xs[i]:=by
 simp [List.getD,h]
end Go.Proofs.Ytaedipailemlcaa.Core

namespace Go.Proofs.Ytaedipailemlcaa.Core
open Go
set_option linter.unusedVariables false
theorem Ac (a b c:Int):AM a b c=some (decide (b≤a)&&decide (a≤c)):=dV (by
 unfold U1
 by_cases h:b≤a<;>simp [h])
theorem Bh (a b c:Int):Ay a b c=some (decide (b≤a)&&decide (a≤c)):=aQ (by
 unfold Rx
 by_cases h:b≤a<;>simp [h])
end Go.Proofs.Ytaedipailemlcaa.Core

namespace Go.Proofs.Ytaedipailemlcaa.Core
open Go
set_option linter.unusedVariables false
def Pz (x:List (ByteArray×ByteArray×Int)) (k:ByteArray):ByteArray×ByteArray×Int :=
 (x.find? fun a=>a.1.toList==k.toList).getD (ByteArray.empty,ByteArray.empty,0)
theorem Bq {α:Type} {x:List α} {i:Nat} (h:i<x.length):x.drop i=x[i]::x.drop (i+1):=List.drop_eq_getElem_cons h
theorem PF (x k) (h:x.length≤maxLen):Js x k=some (Pz x k):=bo (by
 have hm:x.length≤9223372036854775807:=h
 unfold TL
 exact Gh (n:=x.length) (P:=fun i=>∀ z,GV x k (i:Int) z=some (Pz (x.drop i) k)) (fun z=>O4 (by
  unfold Je
  rw [if_neg (by simp),List.drop_length]
  rfl)) (fun i hi ih z=>O4 (by
  unfold Je
  simp only [show ((i:Int)<(x.length:Int)) from by omega,decide_true,if_true,show (0:Int)≤(i:Int) from by omega,Int.toNat_natCast,Ab hi,AS (show i<9223372036854775807 by omega)]
  rw [Bq hi]
  by_cases hk:(x[i].1.toList==k.toList)=true
  ·rw [if_pos hk]
   unfold Pz
   rw [List.find?_cons,hk]
   rfl
  ·rw [if_neg hk,ih]
   unfold Pz
   rw [List.find?_cons,Bool.eq_false_iff.2 hk])) 0 (by omega) _)
end Go.Proofs.Ytaedipailemlcaa.Core

namespace Go.Proofs.Ytaedipailemlcaa.Core
open Go
set_option linter.unusedVariables false
theorem Y_ k:Pq k=some (decide (1≤(k.size:Int))&&decide ((k.size:Int)≤12)):=dW (by simp [VH,Bh])
theorem Jj n:Gp n=some (decide (1≤n)&&decide (n≤6)):=bh (by simp [TG,Bh])
def g9 (v:ByteArray):Bool:=v.toList==(⟨#[]⟩:ByteArray).toList
theorem fP (v:ByteArray):(v.toList==(⟨#[]⟩:ByteArray).toList)=g9 v:=rfl
def cW (op:Int) (k v:ByteArray):Bool :=
 (decide (op=1)||decide (op=2))&&(decide (1≤(k.size:Int))&&decide ((k.size:Int)≤12))&&decide ((v.size:Int)≤20)&&(decide (op=1)||g9 v)
def N5 (x:Int×Int×Int×Int×ByteArray×ByteArray):Bool :=
 decide (1≤x.1)&&decide (x.1≤6)&&(decide (1≤x.2.1)&&decide (x.2.1≤6))&&decide (0≤x.2.2.1) &&
  (if x.1=1 then cW x.2.2.2.1 x.2.2.2.2.1 x.2.2.2.2.2 else decide (x.2.2.2.1=0)&&g9 x.2.2.2.2.1&&g9 x.2.2.2.2.2)
theorem Vs x:Li x=some (N5 x):=aW (by
 have w:∀ b,Il b x=some (if x.1=1 then cW x.2.2.2.1 x.2.2.2.2.1 x.2.2.2.2.2 else decide (x.2.2.2.1=0)&&g9 x.2.2.2.2.1&&g9 x.2.2.2.2.2):=fun b=>VR (by
  unfold NP cW
  simp only [fP]
  by_cases h:x.1=1
  ·simp only [Ac,Option.bind_some]
   by_cases g1:x.2.2.2.1=1
   ·by_cases h2:1≤(x.2.2.2.2.1.size:Int)<;>by_cases h3:(x.2.2.2.2.1.size:Int)≤12<;>by_cases h4:(x.2.2.2.2.2.size:Int)≤20<;>simp [h,g1,h2,h3,h4]
   ·by_cases g2:x.2.2.2.1=2
    ·by_cases h2:1≤(x.2.2.2.2.1.size:Int)<;>by_cases h3:(x.2.2.2.2.1.size:Int)≤12<;>by_cases h4:(x.2.2.2.2.2.size:Int)≤20<;>simp [h,g2,h2,h3,h4]
    ·simp [h,g1,g2]
  ·by_cases h2:x.2.2.2.1=0<;>rcases Bool.eq_false_or_eq_true (g9 x.2.2.2.2.1) with h3 | h3<;>simp [h,h2,h3])
 unfold R7 N5
 simp only [Ac,Option.bind_some,w]
 by_cases h1:1≤x.1<;>by_cases h2:x.1≤6<;>by_cases h3:1≤x.2.1<;>by_cases h4:x.2.1≤6<;>by_cases h5:0≤x.2.2.1<;>simp [h1,h2,h3,h4,h5]<;>omega)
end Go.Proofs.Ytaedipailemlcaa.Core

namespace Go.Proofs.Ytaedipailemlcaa.Core
open Go
set_option linter.unusedVariables false
def Nm (a:ByteArray×ByteArray×Int):Bool:=(decide (1≤(a.1.size:Int))&&decide ((a.1.size:Int)≤12))&&decide ((a.2.1.size:Int)≤20)&&(decide (1≤a.2.2)&&decide (a.2.2≤1000000000))
def Ba (x:List (ByteArray×ByteArray×Int)) (i:Nat):Nat→Bool
 | 0=>decide ((x.length:Int)≤12)
 | k+1=>Nm (x.getD i (ByteArray.empty,ByteArray.empty,0))&&(decide (i=0)||Op.bytesLess (x.getD (i-1) (ByteArray.empty,ByteArray.empty,0)).1.toList (x.getD i (ByteArray.empty,ByteArray.empty,0)).1.toList)&&Ba x (i+1) k
theorem la (n:Int):decide (n>20)=!decide (n≤20):=by
 by_cases h:n≤20<;>simp [h]
 omega
theorem Sn {i:Nat} (h:i<9223372036854775807) (h0:0<i):IntKind.i64.wrap ((i:Int)-1)=((i-1:Nat):Int):=by
 rw [AW (by omega)]
 omega
theorem F4 (x) (h:x.length≤maxLen):CK x=some (Ba x 0 x.length):=bB (by
 have hm:x.length≤9223372036854775807:=h
 unfold ST
 have:=Gh (n:=x.length) (P:=fun i=>EK x (i:Int)=some (Ba x i (x.length-i))) (Nk (by
  unfold Iy
  rw [if_neg (by simp),Nat.sub_self]
  rfl)) (fun i hi ih=>Nk (by
  unfold Iy
  have e:x.length-i=(x.length-(i+1))+1:=by omega
  simp only [show ((i:Int)<(x.length:Int)) from by omega,decide_true,if_true,show (0:Int)≤(i:Int) from by omega,Int.toNat_natCast,AS (show i<9223372036854775807 by omega),ih,Ac,Option.bind_some,la]
  rw [e,Ba,Nm]
  generalize (decide (1≤((x.getD i (ByteArray.empty,ByteArray.empty,0)).1.size:Int))&&decide (((x.getD i (ByteArray.empty,ByteArray.empty,0)).1.size:Int)≤12))=a
  generalize decide (((x.getD i (ByteArray.empty,ByteArray.empty,0)).2.1.size:Int)≤20)=b
  generalize (decide (1≤(x.getD i (ByteArray.empty,ByteArray.empty,0)).2.2)&&decide ((x.getD i (ByteArray.empty,ByteArray.empty,0)).2.2≤1000000000))=c
  cases a
  ·simp
  cases b
  ·simp
  cases c
  ·simp
  by_cases h0:0<i
  ·rw [Sn (by omega) h0]
   simp only [Int.toNat_natCast,show ((0:Int)≤((i-1:Nat):Int)) from by omega,show (((i-1:Nat):Int)<(x.length:Int)) from by omega,if_true]
   rcases Bool.eq_false_or_eq_true (Op.bytesLess (x.getD (i-1) (ByteArray.empty,ByteArray.empty,0)).1.toList (x.getD i (ByteArray.empty,ByteArray.empty,0)).1.toList) with hb | hb<;>simp only [hb]<;>simp [h0,show i≠0 by omega]
  ·have:i=0:=by omega
   subst this
   simp)) 0 (by omega)
 simpa using this)
theorem Vt (x) (h:x.length≤maxLen) (hl:∀ a b:List UInt8,(Op.bytesLess a b||a==b)=!Op.bytesLess b a):Le x=some (Ba x 0 x.length):=aR (by
 have hm:x.length≤9223372036854775807:=h
 unfold R1
 have:=Gh (n:=x.length) (P:=fun i=>EC x x (x.length:Int) (i:Int)=some (Ba x i (x.length-i))) (NK (by
  unfold Id
  rw [if_neg (by simp),Nat.sub_self]
  rfl)) (fun i hi ih=>NK (by
  unfold Id
  have e:x.length-i=(x.length-(i+1))+1:=by omega
  simp only [show ((i:Int)<(x.length:Int)) from by omega,decide_true,if_true,show (0:Int)≤(i:Int) from by omega,Int.toNat_natCast,AS (show i<9223372036854775807 by omega),ih,Bh,Y_,Option.bind_some,la,hl]
  rw [e,Ba,Nm]
  generalize (decide (1≤((x.getD i (ByteArray.empty,ByteArray.empty,0)).1.size:Int))&&decide (((x.getD i (ByteArray.empty,ByteArray.empty,0)).1.size:Int)≤12))=a
  generalize decide (((x.getD i (ByteArray.empty,ByteArray.empty,0)).2.1.size:Int)≤20)=b
  generalize (decide (1≤(x.getD i (ByteArray.empty,ByteArray.empty,0)).2.2)&&decide ((x.getD i (ByteArray.empty,ByteArray.empty,0)).2.2≤1000000000))=c
  cases a
  ·simp
  cases b
  ·simp
  cases c
  ·simp
  by_cases h0:0<i
  ·rw [Sn (by omega) h0]
   simp only [Int.toNat_natCast,show ((0:Int)≤((i-1:Nat):Int)) from by omega,show (((i-1:Nat):Int)<(x.length:Int)) from by omega,if_true]
   rcases Bool.eq_false_or_eq_true (Op.bytesLess (x.getD (i-1) (ByteArray.empty,ByteArray.empty,0)).1.toList (x.getD i (ByteArray.empty,ByteArray.empty,0)).1.toList) with hb | hb<;>simp only [hb]<;>simp [h0,show i≠0 by omega]
  ·have:i=0:=by omega
   subst this
   simp)) 0 (by omega)
 simpa using this)
theorem X2:∀ a b:List UInt8,(Op.bytesLess a b||a==b)=!Op.bytesLess b a
 | [],[]=>rfl
 | [],_::_=>rfl
 | _::_,[]=>rfl
 | a::l,b::m=>by
  have ih:=X2 l m
  simp only [Op.bytesLess]
  by_cases h1:a<b
  ·have h2:¬ b<a:=by exact UInt8.not_lt.2 (UInt8.le_of_lt h1)
   have h3:¬ b=a:=fun h=>by subst h; exact absurd h1 (UInt8.lt_irrefl _)
   simp [h1,h2,h3]
  ·by_cases h2:b<a
   ·have h3:¬ a=b:=fun h=>by subst h; exact absurd h2 (UInt8.lt_irrefl _)
    simp [h1,h2,h3]
   ·have h3:a=b:=UInt8.le_antisymm (UInt8.not_lt.1 h2) (UInt8.not_lt.1 h1)
    subst h3
    simpa [h1] using ih
end Go.Proofs.Ytaedipailemlcaa.Core

namespace Go.Proofs.Ytaedipailemlcaa.Core
open Go
set_option linter.unusedVariables false
abbrev Ae:Type:=ByteArray×ByteArray×Int
abbrev eR:Ae:=(ByteArray.empty,ByteArray.empty,(0:Int))
theorem eS:∀ {a b c:List UInt8},Op.bytesLess a b=true→Op.bytesLess b c=true→Op.bytesLess a c=true
 | _,[],_,h,_=>by cases ‹List UInt8› <;> simp [Op.bytesLess] at h
 | _,_::_,[],_,h=>by simp [Op.bytesLess] at h
 | [],_::_,_::_,_,_=>rfl
 | a::x,b::y,c::z,h,g=>by
  simp only [Op.bytesLess,Bool.or_eq_true,decide_eq_true_eq,Bool.and_eq_true,beq_iff_eq] at h g ⊢
  rcases h with h | ⟨rfl,h⟩
  ·rcases g with g | ⟨rfl,g⟩
   ·exact .inl (UInt8.lt_trans h g)
   ·exact .inl h
  ·rcases g with g | ⟨rfl,g⟩
   ·exact .inl g
   ·exact .inr ⟨rfl,eS h g⟩
def fQ (k:ByteArray) (b:Ae):Bool:=Op.bytesLess b.1.toList k.toList
def db (x:List Ae):Prop:=∀ a b (ha:a<x.length) (hb:b<x.length),a<b→Op.bytesLess x[a].1.toList x[b].1.toList=true
theorem SV {x:List Ae}:∀ (m i:Nat),Ba x i m=true→∀ a,i≤a→a<i+m→a≠0→Op.bytesLess (x.getD (a-1) eR).1.toList (x.getD a eR).1.toList=true
 | 0,i,_,a,h1,h2,_=>by omega
 | m+1,i,h,a,h1,h2,h0=>by
  simp only [Ba,Bool.and_eq_true,Bool.or_eq_true,decide_eq_true_eq] at h
  obtain ⟨⟨_,h3⟩,h4⟩:=h
  by_cases e:a=i
  ·subst e
   exact h3.resolve_left h0
  ·exact SV m (i+1) h4 a (by omega) (by omega) h0
theorem i7 {x:List Ae} (h:Ba x 0 x.length=true):db x:=by
 have st:=SV _ _ h
 have:∀ d a (ha:a+d+1<x.length),Op.bytesLess (x.getD a eR).1.toList (x.getD (a+d+1) eR).1.toList=true:=by
  intro d
  induction d with
  | zero=>intro a ha; exact st (a+1) (by omega) (by omega) (by omega)
  | succ d ih =>
   intro a ha
   exact eS (ih a (by omega)) (st (a+(d+1)+1) (by omega) (by omega) (by omega))
 intro a b ha hb hab
 have:=this (b-a-1) a (by omega)
 rw [show a+(b-a-1)+1=b by omega,Ab ha,Ab hb] at this
 exact this
def bC (x:List Ae) (a:Ae):Bool:=x.any fun b=>(b.1.toList==a.1.toList)&&decide (b.2.2≥a.2.2)
def SW (k:ByteArray) (b:Ae):Bool:=!(Op.bytesLess b.1.toList k.toList||(b.1.toList==k.toList))
def fR (x:List Ae) (a:Ae):List Ae:=x.filter (fQ a.1)++[a]++x.filter (SW a.1)
def BN (x:List Ae):Bool:=Ba x 0 x.length
def EZ (x:List Ae) (a:Ae):List Ae:=if bC x a=true then x else if BN x=true then (if BN (fR x a)=true then fR x a else x) else x
theorem F5 (x:List Ae) (a:Ae) (hx:x.length≤34359738367):Em x a=some (EZ x a):=ay (by
 have J4:∀ same out:List Ae,out.length≤maxLen→Iu x a same out=some (if BN x=true then (if BN out=true then out else same) else same):=fun same out ho=>Vn (by
  unfold Ng BN
  rw [F4 x (by unfold maxLen; omega),F4 out ho]
  cases Ba x 0 x.length<;>cases Ba out 0 out.length<;>simp)
 have L3:∀ same out:List Ae,out.length≤x.length+1→C1 x ((0:Nat):Int) a same out=some (if BN x=true then (if BN (out++(x.drop 0).filter (SW a.1))=true then out++(x.drop 0).filter (SW a.1) else same) else same):=by
  intro same out ho
  refine Gh (n:=x.length) (P:=fun i=>∀ out:List Ae,out.length≤x.length+1+i→C1 x (i:Int) a same out=some (if BN x=true then (if BN (out++(x.drop i).filter (SW a.1))=true then out++(x.drop i).filter (SW a.1) else same) else same)) (fun out ho=>Ni ?_) (fun i hi ih out ho=>Ni ?_) 0 (by omega) out ho
  ·unfold Iw
   rw [if_neg (by simp),J4 same out (by unfold maxLen; omega)]
   simp
  ·unfold Iw
   simp only [show ((i:Int)<(x.length:Int)) from by omega,decide_true,if_true,show (0:Int)≤(i:Int) from by omega,Int.toNat_natCast,Ab hi,AS (show i<9223372036854775807 by omega)]
   rw [Bq hi,List.filter_cons]
   change (if SW a.1 x[i]=true then _ else _)=_
   by_cases hh:SW a.1 x[i]=true
   ·rw [if_pos hh,if_pos (by simp; omega),ih _ (by simp; omega),if_pos hh,List.append_assoc]
    rfl
   ·rw [if_neg hh,ih _ (by omega),if_neg hh]
 have J2:∀ same out:List Ae,out.length≤x.length→Iv x a same out=some (if BN x=true then (if BN (out++[a]++x.filter (SW a.1))=true then out++[a]++x.filter (SW a.1) else same) else same):=fun same out ho=>Vo (by
  unfold Nh
  rw [if_pos (by simp; omega)]
  have:=L3 same (out++[a]) (by simp; omega)
  simpa using this)
 have L0:∀ same:List Ae,C2 x ((0:Nat):Int) a same []=some (if bC (x.drop 0) a=true then same else if BN x=true then (if BN (([]++(x.drop 0).filter (fQ a.1))++[a]++x.filter (SW a.1))=true then ([]++(x.drop 0).filter (fQ a.1))++[a]++x.filter (SW a.1) else same) else same):=by
  intro same
  refine Gh (n:=x.length) (P:=fun i=>∀ out:List Ae,out.length≤i→C2 x (i:Int) a same out=some (if bC (x.drop i) a=true then same else if BN x=true then (if BN ((out++(x.drop i).filter (fQ a.1))++[a]++x.filter (SW a.1))=true then (out++(x.drop i).filter (fQ a.1))++[a]++x.filter (SW a.1) else same) else same)) (fun out ho=>Nj ?_) (fun i hi ih out ho=>Nj ?_) 0 (by omega) [] (by simp)
  ·unfold Ix
   rw [if_neg (by simp),J2 same out ho]
   simp [bC]
  ·unfold Ix
   simp only [show ((i:Int)<(x.length:Int)) from by omega,decide_true,if_true,show (0:Int)≤(i:Int) from by omega,Int.toNat_natCast,Ab hi]
   have J1:∀ out:List Ae,out.length≤i+1→F3 x (i:Int) a same out=some (if bC (x.drop i) a=true then same else if BN x=true then (if BN ((out++(x.drop (i+1)).filter (fQ a.1))++[a]++x.filter (SW a.1))=true then (out++(x.drop (i+1)).filter (fQ a.1))++[a]++x.filter (SW a.1) else same) else same):=fun out ho=>Vm (by
    unfold Nf
    simp only [show ((i:Int)<(x.length:Int)) from by omega,decide_true,if_true,show (0:Int)≤(i:Int) from by omega,Int.toNat_natCast,Ab hi,AS (show i<9223372036854775807 by omega),ih out ho]
    rw [Bq hi]
    rw [show bC (x[i]::x.drop (i+1)) a=(((x[i].1.toList==a.1.toList)&&decide (x[i].2.2≥a.2.2))||bC (x.drop (i+1)) a) from List.any_cons]
    generalize (x[i].1.toList==a.1.toList)=p
    generalize decide (x[i].2.2≥a.2.2)=q
    cases p<;>cases q<;>simp)
   rw [Bq hi,List.filter_cons]
   change (if fQ a.1 x[i]=true then _ else _)=_
   rw [Bq hi] at J1
   by_cases hh:fQ a.1 x[i]=true
   ·rw [if_pos hh,if_pos (by simp; omega),J1 _ (by simp; omega),if_pos hh]
    simp only [List.append_assoc,List.cons_append,List.nil_append]
   ·rw [if_neg hh,J1 _ (by omega),if_neg hh]
 unfold SP
 rw [if_pos (by simp; omega)]
 have:=L0 ([]++x)
 simpa [EZ,fR] using this)
end Go.Proofs.Ytaedipailemlcaa.Core

namespace Go.Proofs.Ytaedipailemlcaa.Core
open Go
set_option linter.unusedVariables false
abbrev EW:Type:=List Int×Int×Int
def G9 (d:EW):Prop:=0≤d.2.1∧d.1.length≤maxLen
theorem X3 (a:Int):0≤Hr .i64 a 255∧Hr .i64 a 255≤255:=by
 unfold Hr
 have h:(BitVec.ofInt (IntKind.bits .i64) a &&& BitVec.ofInt (IntKind.bits .i64) 255).toNat≤255:=by
  rw [BitVec.toNat_and]
  refine Nat.le_trans Nat.and_le_right ?_
  decide
 rw [AW (by omega)]
 omega
theorem EL (d:EW) (h:G9 d):∃ b d',Dd d=some (b,d')∧G9 d'∧0≤b∧b≤255:=by
 have hm:d.1.length≤9223372036854775807:=h.2
 have hp:=h.1
 suffices g:∃ b d',L_ d=some (b,d')∧G9 d'∧0≤b∧b≤255 from g.imp fun b g=>g.imp fun d' g=>⟨aS g.1,g.2⟩
 unfold L_
 rw [if_neg (by omega),if_neg (by omega)]
 by_cases h1:d.2.1<(d.1.length:Int)
 ·rw [if_pos (by simpa using h1),if_pos hp,if_pos h1]
  refine ⟨_,_,rfl,⟨?_,h.2⟩,X3 _⟩
  show 0≤IntKind.i64.wrap (d.2.1+1)
  rw [AW (by omega)]
  omega
 ·rw [if_neg (by simpa using h1)]
  exact ⟨_,_,rfl,h,X3 _⟩
theorem AJ (n:Int) (d:EW) (h:G9 d):∃ v d',AP n d=some (v,d')∧G9 d'∧0≤v∧(0<n→v<n):=by
 suffices g:∃ b d',KV n d=some (b,d')∧G9 d'∧0≤b∧(0<n→b<n) from g.imp fun b g=>g.imp fun d' g=>⟨Yg g.1,g.2⟩
 unfold KV
 by_cases h1:n≤0
 ·exact ⟨0,d,by rw [if_pos (by simpa using h1)],h,by omega,by omega⟩
 ·rw [if_neg (by simpa using h1)]
  by_cases h2:n≤256
  ·obtain ⟨b,d1,e1,k1,b0,b1⟩:=EL d h
   refine ⟨_,_,by rw [if_pos (by simpa using h2),e1,Option.bind_some,if_neg (by omega)],k1,Int.tmod_nonneg _ b0,fun _=>Int.tmod_lt_of_pos _ (by omega)⟩
  ·obtain ⟨b1,d1,e1,k1,b10,b11⟩:=EL d h
   obtain ⟨b2,d2,e2,k2,b20,b21⟩:=EL d1 k1
   obtain ⟨b3,d3,e3,k3,b30,b31⟩:=EL d2 k2
   obtain ⟨b4,d4,e4,k4,b40,b41⟩:=EL d3 k3
   refine ⟨_,_,by rw [if_neg (by simpa using h2),e1,Option.bind_some,e2,Option.bind_some,e3,Option.bind_some,e4,Option.bind_some,if_neg (by omega)],k4,Int.tmod_nonneg _ ?_,fun _=>Int.tmod_lt_of_pos _ (by omega)⟩
   rw [AW (n:=b1*16777216) (by omega),AW (n:=b2*65536) (by omega),AW (n:=b3*256) (by omega),AW (n:=b1*16777216+b2*65536) (by omega),AW (n:=b1*16777216+b2*65536+b3*256) (by omega),AW (by omega)]
   omega
theorem EM (n:Int) (d:EW) (h:G9 d):∃ v d',Bx n d=some (v,d')∧G9 d':=by
 obtain ⟨v,d',e,k,_⟩:=AJ n d h
 exact ⟨_,_,aT (by unfold R4; rw [e,Option.bind_some]),k⟩
theorem Bm (x:List Int) (hx:0<x.length) (d:EW) (h:G9 d):∃ v d',Bf x d=some (v,d')∧G9 d'∧v∈x:=by
 obtain ⟨v,d',e,k,v0,v1⟩:=AJ (x.length:Int) d h
 have v1:=v1 (by omega)
 have hv:v.toNat<x.length:=by omega
 exact ⟨_,_,VT (by unfold NR; rw [e,Option.bind_some,if_pos v0,if_pos v1]),k,by rw [Ab hv]; exact List.getElem_mem hv⟩
theorem Xe (x:List Int) (h:x.length≤maxLen):∃ d,Nv x=some d∧G9 d:=by
 have hm:x.length≤9223372036854775807:=h
 have key:=Gh (n:=x.length) (P:=fun i=>∀ a,∃ d,GR x a (i:Int)=some d∧G9 d) (fun a=>⟨(x,0,a),JP (by
  unfold GS
  rw [if_neg (by simp)]),⟨Int.le_refl _,h⟩⟩) (fun i hi ih a=>by
  by_cases h4:(i:Int)<4000
  ·obtain ⟨d,e,k⟩:=ih (Hr .i64 (IntKind.i64.wrap ((IntKind.i64.wrap ((IntKind.i64.wrap (a*(131:Int)))+(IntKind.i64.wrap (x.getD (i:Int).toNat (0:Int)))))+(7:Int))) (1073741823:Int))
   refine ⟨d,JP ?_,k⟩
   unfold GS
   rw [if_pos (by simpa using hi),if_pos (by simpa using h4)]
   refine Wo ?_
   unfold Ol
   rw [if_pos (by omega),if_pos (by omega),AS (show i<9223372036854775807 by omega)]
   exact e
  ·refine ⟨(x,0,a),JP ?_,⟨Int.le_refl _,h⟩⟩
   unfold GS
   rw [if_pos (by simpa using hi),if_neg (by simpa using h4)]) 0 (by omega)
 obtain ⟨d,e,k⟩:=key (IntKind.i64.wrap ((14301:Int)+(x.length:Int)))
 exact ⟨d,bg e,k⟩
end Go.Proofs.Ytaedipailemlcaa.Core

namespace Go.Proofs.Ytaedipailemlcaa.Core
open Go
set_option linter.unusedVariables false
theorem N6 {x:List Ae}:∀ (m i:Nat),i+m=x.length→(Ba x i m=true↔(∀ a (ha:a<x.length),i≤a→Nm x[a]=true∧(a≠0→Op.bytesLess (x.getD (a-1) eR).1.toList x[a].1.toList=true))∧x.length≤12)
 | 0,i,h=>by
  simp only [Ba,decide_eq_true_eq]
  refine ⟨fun h2=>⟨fun a ha hi=>by omega,by omega⟩,fun h2=>by have:=h2.2; omega⟩
 | m+1,i,h=>by
  have hi:i<x.length:=by omega
  rw [Ba,Bool.and_eq_true,Bool.and_eq_true,N6 m (i+1) (by omega),Ab hi]
  simp only [Bool.or_eq_true,decide_eq_true_eq]
  constructor
  ·rintro ⟨⟨h1,h2⟩,h3,h4⟩
   refine ⟨fun a ha hia=>?_,h4⟩
   by_cases e:a=i
   ·subst e
    exact ⟨h1,fun h0=>h2.resolve_left h0⟩
   ·exact h3 a ha (by omega)
  ·rintro ⟨h3,h4⟩
   refine ⟨⟨(h3 i hi (Nat.le_refl _)).1,?_⟩,fun a ha hia=>h3 a ha (by omega),h4⟩
   by_cases e:i=0
   ·exact .inl e
   ·exact .inr ((h3 i hi (Nat.le_refl _)).2 e)
theorem X4 {x:List Ae}:BN x=true↔(∀ b∈x,Nm b=true)∧db x∧x.length≤12:=by
 constructor
 ·intro h
  have h1:=(N6 x.length 0 (by omega)).1 h
  refine ⟨fun b hb=>?_,i7 h,h1.2⟩
  obtain ⟨a,ha,rfl⟩:=List.getElem_of_mem hb
  exact (h1.1 a ha (Nat.zero_le _)).1
 ·rintro ⟨h1,h2,h3⟩
  refine (N6 x.length 0 (by omega)).2 ⟨fun a ha _=>⟨h1 _ (List.getElem_mem ha),fun h0=>?_⟩,h3⟩
  rw [Ab (show a-1<x.length by omega)]
  exact h2 (a-1) a (by omega) ha (by omega)
theorem g_ {x:List Ae}:db x↔x.Pairwise fun b c=>Op.bytesLess b.1.toList c.1.toList=true:=by
 rw [List.pairwise_iff_getElem]
 rfl
theorem i8 (x:List Ae) (a:Ae):(fR x a).length≤x.length+1:=by
 have h1:(x.filter (SW a.1)).length≤(x.filter fun b=>!fQ a.1 b).length:=by
  rw [← List.countP_eq_length_filter,← List.countP_eq_length_filter]
  refine List.countP_mono_left fun b _ hb=>?_
  simp only [SW,fQ,Bool.not_eq_true',Bool.or_eq_false_iff] at hb ⊢
  exact hb.1
 have h2:(x.filter (fQ a.1)).length+(x.filter fun b=>!fQ a.1 b).length=x.length:=by
  rw [← List.countP_eq_length_filter,← List.countP_eq_length_filter]
  have:=List.length_eq_countP_add_countP (fQ a.1) (l:=x)
  rw [this]
  congr 2
  funext b
  cases fQ a.1 b<;>rfl
 simp only [fR,List.length_append,List.length_cons,List.length_nil]
 omega
theorem i9 {x:List Ae} {a b:Ae} (h:b∈fR x a):b=a∨b∈x:=by
 simp only [fR,List.mem_append,List.mem_filter,List.mem_singleton] at h
 rcases h with (h | h) | h
 ·exact .inr h.1
 ·exact .inl h
 ·exact .inr h.1
theorem EN (x:List ByteArray) (hx:0<x.length) (d:EW) (h:G9 d):∃ v d',De x d=some (v,d')∧G9 d'∧v∈x:=by
 obtain ⟨v,d',e,k,v0,v1⟩:=AJ (x.length:Int) d h
 have v1:=v1 (by omega)
 have hv:v.toNat<x.length:=by omega
 exact ⟨_,_,ae (by unfold SC; rw [e,Option.bind_some,if_pos v0,if_pos v1]),k,by rw [Ab hv]; exact List.getElem_mem hv⟩
theorem Iz (d:EW) (h:G9 d):∃ a d',GE d=some (a,d')∧G9 d'∧Nm a=true:=by
 obtain ⟨k,d1,e1,k1,m1⟩:=EN [(⟨#[97]⟩:ByteArray),(⟨#[98]⟩:ByteArray),(⟨#[99]⟩:ByteArray),(⟨#[100]⟩:ByteArray),(⟨#[101]⟩:ByteArray),(⟨#[102]⟩:ByteArray),(⟨#[103]⟩:ByteArray),(⟨#[104]⟩:ByteArray),(⟨#[107,49]⟩:ByteArray),(⟨#[107,50]⟩:ByteArray),(⟨#[107,51]⟩:ByteArray),(⟨#[107,101,121]⟩:ByteArray)] (by simp) d h
 obtain ⟨v,d2,e2,k2,m2⟩:=EN [(⟨#[]⟩:ByteArray),(⟨#[118]⟩:ByteArray),(⟨#[119]⟩:ByteArray),(⟨#[120,120]⟩:ByteArray),(⟨#[121,121,121]⟩:ByteArray)] (by simp) d1 k1
 obtain ⟨n,d3,e3,k3,n0,n1⟩:=AJ 30 d2 k2
 have n1:=n1 (by omega)
 have f1:Ny d=some (k,d1):=bm (by unfold TJ; rw [e1]; rfl)
 have f2:Nz d1=some (v,d2):=bn (by unfold TK; rw [e2]; rfl)
 refine ⟨(k,v,1001+n),d3,ag (by unfold SG; rw [f1,Option.bind_some,f2,Option.bind_some,e3,Option.bind_some,AW (n:=1001+n) (by omega)]),k3,?_⟩
 have hk:∀ k∈[(⟨#[97]⟩:ByteArray),(⟨#[98]⟩:ByteArray),(⟨#[99]⟩:ByteArray),(⟨#[100]⟩:ByteArray),(⟨#[101]⟩:ByteArray),(⟨#[102]⟩:ByteArray),(⟨#[103]⟩:ByteArray),(⟨#[104]⟩:ByteArray),(⟨#[107,49]⟩:ByteArray),(⟨#[107,50]⟩:ByteArray),(⟨#[107,51]⟩:ByteArray),(⟨#[107,101,121]⟩:ByteArray)],1≤k.size∧k.size≤12:=by decide
 have hv:∀ k∈[(⟨#[]⟩:ByteArray),(⟨#[118]⟩:ByteArray),(⟨#[119]⟩:ByteArray),(⟨#[120,120]⟩:ByteArray),(⟨#[121,121,121]⟩:ByteArray)],k.size≤20:=by decide
 have a1:=hk k m1
 have a2:=hv v m2
 simp only [Nm,Bool.and_eq_true,decide_eq_true_eq]
 omega
theorem T7 {x:List Ae} {a:Ae} (h:BN x=true):BN (EZ x a)=true:=by
 unfold EZ
 rw [if_pos h]
 split
 ·exact h
 ·split
  ·assumption
  ·exact h
theorem X5 (x:List Ae) (a:Ae):(EZ x a).length≤x.length+1:=by
 have:=i8 x a
 unfold EZ
 (repeat' split)<;>omega
theorem MG (d:EW) (h:G9 d):∃ x d',G4 d=some (x,d')∧G9 d'∧BN x=true∧x.length≤5:=by
 have key:=Gh (n:=5) (P:=fun i=>∀ (d:EW) (x:List Ae),G9 d→BN x=true→x.length≤i→∃ y d',FJ (i:Int) d x=some (y,d')∧G9 d'∧BN y=true∧y.length≤5)
  (fun d x hd hx hl=>by
   obtain ⟨v,d1,e1,k1,v0,v1⟩:=AJ 6 d hd
   have v1:=v1 (by omega)
   refine ⟨x,d1,HV ?_,k1,hx,hl⟩
   unfold FK
   rw [e1,Option.bind_some,if_neg (by simp; omega)])
  (fun i hi ih d x hd hx hl=>by
   obtain ⟨v,d1,e1,k1,v0,v1⟩:=AJ 6 d hd
   by_cases hv:(i:Int)<v
   ·obtain ⟨a,d2,e2,k2,o2⟩:=Iz d1 k1
    obtain ⟨y,d3,e3,k3⟩:=ih d2 (EZ x a) k2 (T7 hx) (by have:=X5 x a; omega)
    refine ⟨y,d3,HV ?_,k3⟩
    unfold FK
    rw [e1,Option.bind_some,if_pos (by simpa using hv),e2,Option.bind_some,F5 x a (by omega),Option.bind_some,AS (by omega)]
    exact e3
   ·refine ⟨x,d1,HV ?_,k1,hx,by omega⟩
    unfold FK
    rw [e1,Option.bind_some,if_neg (by simpa using hv)]) 0 (by omega) d [] h (by decide) (by simp)
 obtain ⟨y,d',e,k⟩:=key
 exact ⟨y,d',Yp (by unfold Q1; exact e),k⟩
end Go.Proofs.Ytaedipailemlcaa.Core

namespace Go.Proofs.Ytaedipailemlcaa.Core
open Go
set_option linter.unusedVariables false
end Go.Proofs.Ytaedipailemlcaa.Core

namespace Go.Proofs.Ytaedipailemlcaa.Core
open Go
set_option linter.unusedVariables false
theorem B2 (x:List Int) (n:Int) (h:x.length≤maxLen):Cj x n=some (x.contains n):=dX (by
 have hm:x.length≤9223372036854775807:=h
 unfold VU
 have:=Gh (n:=x.length) (P:=fun i=>G7 x n (i:Int)=some ((x.drop i).contains n)) (Qy (by
  unfold KX
  rw [if_neg (by simp),List.drop_length]
  rfl)) (fun i hi ih=>Qy (by
  unfold KX
  simp only [show ((i:Int)<(x.length:Int)) from by omega,decide_true,if_true,show (0:Int)≤(i:Int) from by omega,Int.toNat_natCast,Ab hi,AS (show i<9223372036854775807 by omega)]
  rw [Bq hi,List.contains_cons,ih]
  by_cases e:x[i]=n
  ·subst e
   simp
  ·simp [e,Ne.symm e])) 0 (by omega)
 simpa using this)
theorem ky (x:List Int) (i:Nat) (hi:i<x.length) (h:x.length≤maxLen):∃ r,CI x x[i]=some r∧((r=(i:Int))↔x[i]∉x.take i):=by
 have hm:x.length≤9223372036854775807:=h
 have key:=Gh (n:=i) (P:=fun k=>∃ r,Br x x[i] (x.length:Int) (k:Int)=some r∧(k:Int)≤r∧((r=(i:Int))↔∀ m (hm:m<i),k≤m→x[m]≠x[i])) ⟨i,BS (by
  unfold Au
  simp only [show ((i:Int)<(x.length:Int)) from by omega,decide_true,if_true,show (0:Int)≤(i:Int) from by omega,Int.toNat_natCast,Ab hi]
  simp),by omega,⟨fun _ m hm hk=>by omega,fun _=>rfl⟩⟩ (fun k hk ⟨r,hr,hkr,hiff⟩=>by
  have hk2:k<x.length:=by omega
  by_cases e:x[i]=x[k]
  ·refine ⟨k,BS ?_,by omega,⟨fun he=>by omega,fun hall=>absurd e.symm (hall k hk (by omega))⟩⟩
   unfold Au
   simp only [show ((k:Int)<(x.length:Int)) from by omega,decide_true,if_true,show (0:Int)≤(k:Int) from by omega,Int.toNat_natCast,Ab hk2]
   rw [if_pos (by simpa using e)]
  ·refine ⟨r,BS ?_,by omega,hiff.trans ⟨fun hall m hm hkm=>?_,fun hall m hm hkm=>hall m hm (by omega)⟩⟩
   ·unfold Au
    simp only [show ((k:Int)<(x.length:Int)) from by omega,decide_true,if_true,show (0:Int)≤(k:Int) from by omega,Int.toNat_natCast,Ab hk2,AS (show k<9223372036854775807 by omega)]
    rw [if_neg (by simpa using e)]
    exact hr
   ·rcases Nat.lt_or_ge k m with h1 | h1
    ·exact hall m hm h1
    ·have:m=k:=by omega
     subst this
     exact fun h=>e h.symm) 0 (by omega)
 obtain ⟨r,hr,_,hiff⟩:=key
 refine ⟨r,If hr,hiff.trans ⟨fun hall hmem=>?_,fun hn m hm _ he=>hn ?_⟩⟩
 ·obtain ⟨m,hm,he⟩:=List.mem_take_iff_getElem.1 hmem
  exact hall m (by omega) (by omega) he
 ·exact List.mem_take_iff_getElem.2 ⟨m,by omega,he⟩
def FX (v:List Int) (i:Nat):Nat→Bool
 | 0=>true
 | k+1=>(decide (1≤v.getD i 0)&&decide (v.getD i 0≤6))&&!(v.take i).contains (v.getD i 0)&&FX v (i+1) k
def P0 (v:List Int):Bool:=(decide (1≤(v.length:Int))&&decide ((v.length:Int)≤4))&&FX v 0 v.length
def DY (x:List (List Int)) (n:Nat):List (List Int)→Bool
 | []=>decide (1≤(n:Int))&&decide ((n:Int)≤9)
 | v::r=>P0 v&&DY x n r
theorem Vu (v:List Int) (h:v.length≤maxLen):Ln v=some (P0 v):=am (by
 have hm:v.length≤9223372036854775807:=h
 unfold SM P0
 simp only [Ac,Option.bind_some]
 have:=Gh (n:=v.length) (P:=fun i=>F0 v (i:Int)=some (FX v i (v.length-i))) (NX (by
  unfold Is
  rw [if_neg (by simp),Nat.sub_self]
  rfl)) (fun i hi ih=>NX (by
  unfold Is
  have e:v.length-i=(v.length-(i+1))+1:=by omega
  rw [e,FX]
  simp only [show ((i:Int)<(v.length:Int)) from by omega,show ((i:Int)≤(v.length:Int)) from by omega,decide_true,if_true,show (0:Int)≤(i:Int) from by omega,Int.toNat_natCast,Ac,Option.bind_some,AS (show i<9223372036854775807 by omega),ih,Int.toNat_zero,List.drop_zero,Int.le_refl,
   B2 (v.take i) _ (by rw [List.length_take]; omega)]
  generalize (decide (1≤v.getD i 0)&&decide (v.getD i 0≤6))=a
  generalize (v.take i).contains (v.getD i 0)=b
  cases a<;>cases b<;>simp)) 0 (by omega)
 simp only [Int.ofNat_zero,Nat.sub_zero] at this
 generalize (decide (1≤(v.length:Int))&&decide ((v.length:Int)≤4))=a
 cases a
 ·simp
 ·simpa using this)
theorem Vv (x:List (List Int)) (h:x.length≤maxLen) (ho:∀ a∈x,a.length≤maxLen):Cw x=some (DY x x.length x):=aa (by
 have hm:x.length≤9223372036854775807:=h
 unfold SB
 exact Gh (n:=x.length) (P:=fun i=>Fw x (i:Int)=some (DY x x.length (x.drop i))) (NS (by
  unfold In
  rw [if_neg (by simp),List.drop_length,Ac]
  rfl)) (fun i hi ih=>NS (by
  unfold In
  simp only [show ((i:Int)<(x.length:Int)) from by omega,decide_true,if_true,show (0:Int)≤(i:Int) from by omega,Int.toNat_natCast,Ab hi,Vu x[i] (ho _ (List.getElem_mem _)),Option.bind_some,AS (show i<9223372036854775807 by omega),ih]
  rw [Bq hi,DY]
  generalize P0 x[i]=a
  cases a<;>simp)) 0 (by omega))
theorem Vw (x:List (List Int)) (h:x.length≤maxLen) (ho:∀ a∈x,a.length≤maxLen):GD x=some (DY x x.length x):=aP (by
 have hm:x.length≤9223372036854775807:=h
 unfold Rw
 exact Gh (n:=x.length) (P:=fun i=>Fp x x (x.length:Int) (i:Int)=some (DY x x.length (x.drop i))) (NI (by
  unfold Ib
  rw [if_neg (by simp),List.drop_length,Bh]
  rfl)) (fun i hi ih=>NI (by
  unfold Ib
  simp only [show ((i:Int)<(x.length:Int)) from by omega,decide_true,if_true,show (0:Int)≤(i:Int) from by omega,Int.toNat_natCast,Ab hi]
  rw [Bq hi,DY]
  have hv:=ho x[i] (List.getElem_mem _)
  generalize x[i]=v at hv
  have hvm:v.length≤9223372036854775807:=hv
  have wj:IZ x v x (x.length:Int) (i:Int)=some ((decide (1≤(v.length:Int))&&decide ((v.length:Int)≤4))&&DY x x.length (x.drop (i+1))):=U3 (by
   unfold NG
   rw [Bh,Option.bind_some,AS (show i<9223372036854775807 by omega),ih]
   generalize (decide (1≤(v.length:Int))&&decide ((v.length:Int)≤4))=a
   cases a<;>simp)
  have:=Gh (n:=v.length) (P:=fun j=>Fo x v x (x.length:Int) (i:Int) v (v.length:Int) (j:Int)=some (FX v j (v.length-j)&&((decide (1≤(v.length:Int))&&decide ((v.length:Int)≤4))&&DY x x.length (x.drop (i+1))))) (NH (by
   unfold Ia
   rw [if_neg (by simp),Nat.sub_self,wj]
   rfl)) (fun j hj ihj=>NH (by
   unfold Ia
   have e:v.length-j=(v.length-(j+1))+1:=by omega
   obtain ⟨r,hr,hiff⟩:=ky v j hj hv
   rw [e,FX]
   simp only [show ((j:Int)<(v.length:Int)) from by omega,decide_true,if_true,show (0:Int)≤(j:Int) from by omega,Int.toNat_natCast,Jj,Option.bind_some,AS (show j<9223372036854775807 by omega),ihj,Ab hj,hr]
   have hb:(r != (j:Int))=(v.take j).contains v[j]:=by
    by_cases e2:r=(j:Int)
    ·have:=hiff.1 e2
     simp [e2,this]
    ·have:v[j]∈v.take j:=Classical.byContradiction fun hn=>e2 (hiff.2 hn)
     simp [e2,this]
   rw [hb]
   generalize (decide (1≤v[j])&&decide (v[j]≤6))=a
   generalize (v.take j).contains v[j]=b
   cases a<;>cases b<;>simp)) 0 (by omega)
  simp only [Int.ofNat_zero,Nat.sub_zero] at this
  unfold P0
  refine Eq.trans this ?_
  congr 1
  generalize FX v 0 v.length=a
  generalize (decide (1≤(v.length:Int))&&decide ((v.length:Int)≤4))=b
  cases a<;>cases b<;>simp)) 0 (by omega))
end Go.Proofs.Ytaedipailemlcaa.Core

namespace Go.Proofs.Ytaedipailemlcaa.Core
open Go
set_option linter.unusedVariables false
abbrev f5:Type:=Int×Int×Int×(ByteArray×ByteArray×Int)×List Int
abbrev AA:Type:=Int×Int×Bool×Bool×Bool×Bool×List Int×List (ByteArray×ByteArray×Int)×Int×f5
def Dl (v:List Int) (i:Nat):Nat→Bool
 | 0=>true
 | k+1=>(decide (1≤v.getD i 0)&&decide (v.getD i 0≤6))&&(decide (i=0)||decide (v.getD (i-1) 0<v.getD i 0))&&Dl v (i+1) k
theorem PG (x:List Int) (h:x.length≤maxLen):CE x=some (Dl x 0 x.length):=bt (by
 have hm:x.length≤9223372036854775807:=h
 unfold TO
 have:=Gh (n:=x.length) (P:=fun i=>Ew x (i:Int)=some (Dl x i (x.length-i))) (PD (by
  unfold Ji
  rw [if_neg (by simp),Nat.sub_self]
  rfl)) (fun i hi ih=>PD (by
  unfold Ji
  have e:x.length-i=(x.length-(i+1))+1:=by omega
  simp only [show ((i:Int)<(x.length:Int)) from by omega,decide_true,if_true,show (0:Int)≤(i:Int) from by omega,Int.toNat_natCast,AS (show i<9223372036854775807 by omega),ih,Ac,Option.bind_some]
  rw [e,Dl]
  generalize (decide (1≤x.getD i 0)&&decide (x.getD i 0≤6))=a
  cases a
  ·simp
  by_cases h0:0<i
  ·rw [Sn (by omega) h0]
   simp only [Int.toNat_natCast,show ((0:Int)≤((i-1:Nat):Int)) from by omega,show (((i-1:Nat):Int)<(x.length:Int)) from by omega,if_true]
   rcases Int.lt_or_le (x.getD (i-1) 0) (x.getD i 0) with hb | hb
   ·have d1:decide (x.getD (i-1) 0≥x.getD i 0)=false:=decide_eq_false (by omega)
    have d2:decide (x.getD (i-1) 0<x.getD i 0)=true:=decide_eq_true hb
    simp only [d1,d2]
    simp [h0,show i≠0 by omega]
   ·have d1:decide (x.getD (i-1) 0≥x.getD i 0)=true:=decide_eq_true (by omega)
    have d2:decide (x.getD (i-1) 0<x.getD i 0)=false:=decide_eq_false (by omega)
    simp only [d1,d2]
    simp [h0,show i≠0 by omega]
  ·have:i=0:=by omega
   subst this
   simp)) 0 (by omega)
 simpa using this)
theorem JD (x:List Int) (h:x.length≤maxLen):E8 x 1 6=some (Dl x 0 x.length):=Tr (by
 have hm:x.length≤9223372036854775807:=h
 unfold Ly
 have:=Gh (n:=x.length) (P:=fun i=>CW x 1 6 x (x.length:Int) (i:Int)=some (Dl x i (x.length-i))) (JA (by
  unfold Fc
  rw [if_neg (by simp),Nat.sub_self]
  rfl)) (fun i hi ih=>JA (by
  unfold Fc
  have e:x.length-i=(x.length-(i+1))+1:=by omega
  simp only [show ((i:Int)<(x.length:Int)) from by omega,decide_true,if_true,show (0:Int)≤(i:Int) from by omega,Int.toNat_natCast,AS (show i<9223372036854775807 by omega),ih,Bh,Option.bind_some]
  rw [e,Dl]
  generalize (decide (1≤x.getD i 0)&&decide (x.getD i 0≤6))=a
  cases a
  ·simp
  by_cases h0:0<i
  ·rw [Sn (by omega) h0]
   simp only [Int.toNat_natCast,show ((0:Int)≤((i-1:Nat):Int)) from by omega,show (((i-1:Nat):Int)<(x.length:Int)) from by omega,if_true]
   rcases Int.lt_or_le (x.getD (i-1) 0) (x.getD i 0) with hb | hb
   ·have d1:decide (x.getD i 0≤x.getD (i-1) 0)=false:=decide_eq_false (by omega)
    have d2:decide (x.getD (i-1) 0<x.getD i 0)=true:=decide_eq_true hb
    simp only [d1,d2]
    simp [h0,show i≠0 by omega]
   ·have d1:decide (x.getD i 0≤x.getD (i-1) 0)=true:=decide_eq_true (by omega)
    have d2:decide (x.getD (i-1) 0<x.getD i 0)=false:=decide_eq_false (by omega)
    simp only [d1,d2]
    simp [h0,show i≠0 by omega]
  ·have:i=0:=by omega
   subst this
   simp)) 0 (by omega)
 simpa using this)
def Gi (t:f5):Bool:=(t.1==0)&&(t.2.1==0)&&(t.2.2.1==0)&&RR (.pair .str (.pair .str (.int .i64))) t.2.2.2.1 (ByteArray.empty,ByteArray.empty,(0:Int))&&((t.2.2.2.2.length:Int)==0)
def Dm (t:f5) (serves:Bool):Bool:=(t.1==1||t.1==2)&&serves&&(decide (0≤t.2.1)&&decide (t.2.1≤1000))&&(decide (1≤t.2.2.1)&&decide (t.2.2.1≤900))
def PH (x:AA):Bool :=
 (decide (1≤x.1)&&decide (x.1≤6))&&(decide (1≤x.2.1)&&decide (x.2.1≤9))&&(!x.2.2.2.2.2.1||(x.2.2.2.1&&x.2.2.2.2.1&&!decide ((x.2.2.2.2.2.2.1.length:Int)>0)))&&(!x.2.2.1||(!x.2.2.2.1&&!x.2.2.2.2.1)) &&
  Dl x.2.2.2.2.2.2.1 0 x.2.2.2.2.2.2.1.length&&Dl x.2.2.2.2.2.2.2.2.2.2.2.2.2 0 x.2.2.2.2.2.2.2.2.2.2.2.2.2.length&&Ba x.2.2.2.2.2.2.2.1 0 x.2.2.2.2.2.2.2.1.length&&(decide (0≤x.2.2.2.2.2.2.2.2.1)&&decide (x.2.2.2.2.2.2.2.2.1≤900)) &&
  (Gi x.2.2.2.2.2.2.2.2.2||Dm x.2.2.2.2.2.2.2.2.2 x.2.2.2.2.2.1)
theorem S4 (t:f5):JO t=some (Gi t):=Xd (by
 unfold PE Gi
 generalize (t.1==0)=a
 generalize (t.2.1==0)=b
 generalize (t.2.2.1==0)=c
 generalize RR (.pair .str (.pair .str (.int .i64))) t.2.2.2.1 (ByteArray.empty,ByteArray.empty,(0:Int))=d
 cases a<;>cases b<;>cases c<;>cases d<;>simp)
theorem T8 (x:AA) (h1:x.2.2.2.2.2.2.1.length≤maxLen) (h2:x.2.2.2.2.2.2.2.1.length≤maxLen) (h3:x.2.2.2.2.2.2.2.2.2.2.2.2.2.length≤maxLen):D1 x=some (PH x):=Yz (by
 have w0:∀ b,Cf b x=some (Gi x.2.2.2.2.2.2.2.2.2||Dm x.2.2.2.2.2.2.2.2.2 x.2.2.2.2.2.1):=fun b=>T4 (by
  unfold MF Dm
  simp only [Ac,S4,Option.bind_some]
  generalize Gi x.2.2.2.2.2.2.2.2.2=a
  generalize (x.2.2.2.2.2.2.2.2.2.1==1)=b
  generalize (x.2.2.2.2.2.2.2.2.2.1==2)=c
  generalize x.2.2.2.2.2.1=d
  generalize (decide (0≤x.2.2.2.2.2.2.2.2.2.2.1)&&decide (x.2.2.2.2.2.2.2.2.2.2.1≤1000))=e
  generalize (decide (1≤x.2.2.2.2.2.2.2.2.2.2.2.1)&&decide (x.2.2.2.2.2.2.2.2.2.2.2.1≤900))=f
  cases a<;>cases b<;>cases c<;>cases d<;>cases e<;>simp)
 unfold RB PH
 simp only [Ac,PG _ h1,PG _ h3,F4 _ h2,Option.bind_some,w0]
 generalize (decide (1≤x.1)&&decide (x.1≤6))=a
 generalize (decide (1≤x.2.1)&&decide (x.2.1≤9))=b
 generalize decide ((x.2.2.2.2.2.2.1.length:Int)>0)=c
 generalize Dl x.2.2.2.2.2.2.1 0 x.2.2.2.2.2.2.1.length=d
 generalize Dl x.2.2.2.2.2.2.2.2.2.2.2.2.2 0 x.2.2.2.2.2.2.2.2.2.2.2.2.2.length=e
 generalize Ba x.2.2.2.2.2.2.2.1 0 x.2.2.2.2.2.2.2.1.length=f
 generalize (decide (0≤x.2.2.2.2.2.2.2.2.1)&&decide (x.2.2.2.2.2.2.2.2.1≤900))=g
 generalize (Gi x.2.2.2.2.2.2.2.2.2||Dm x.2.2.2.2.2.2.2.2.2 x.2.2.2.2.2.1)=t
 generalize x.2.2.2.2.2.1=s
 generalize x.2.2.2.2.1=l
 generalize x.2.2.2.1=m
 generalize x.2.2.1=n
 cases a
 ·simp
 cases b
 ·simp
 cases d<;>cases e<;>cases f<;>cases g<;>cases s<;>cases n<;>cases m<;>cases l<;>cases c<;>simp)
theorem PI (x:AA) (h3:x.2.2.2.2.2.2.2.2.2.2.2.2.2.length≤maxLen):B_ x=some (Dl x.2.2.2.2.2.2.2.2.2.2.2.2.2 0 x.2.2.2.2.2.2.2.2.2.2.2.2.2.length&&(Gi x.2.2.2.2.2.2.2.2.2||Dm x.2.2.2.2.2.2.2.2.2 x.2.2.2.2.2.1),x):=R2 (by
 unfold KD Gi Dm
 simp only [Bh,JD _ h3,Option.bind_some]
 by_cases hk:x.2.2.2.2.2.2.2.2.2.1=0
 ·rw [if_pos (by simp [hk])]
  have k1:(x.2.2.2.2.2.2.2.2.2.1==1)=false:=by simp [hk]
  have k2:(x.2.2.2.2.2.2.2.2.2.1==2)=false:=by simp [hk]
  have k0:(x.2.2.2.2.2.2.2.2.2.1==0)=true:=by simp [hk]
  rw [k1,k2,k0]
  have hl:((x.2.2.2.2.2.2.2.2.2.2.2.2.2.length:Int)==0)=true→Dl x.2.2.2.2.2.2.2.2.2.2.2.2.2 0 x.2.2.2.2.2.2.2.2.2.2.2.2.2.length=true:=by
   intro h
   have:x.2.2.2.2.2.2.2.2.2.2.2.2.2.length=0:=by simpa using h
   rw [this]
   rfl
  generalize ((x.2.2.2.2.2.2.2.2.2.2.2.2.2.length:Int)==0)=l at hl
  generalize Dl x.2.2.2.2.2.2.2.2.2.2.2.2.2 0 x.2.2.2.2.2.2.2.2.2.2.2.2.2.length=u at hl
  generalize (x.2.2.2.2.2.2.2.2.2.2.1==0)=b
  generalize (x.2.2.2.2.2.2.2.2.2.2.2.1==0)=c
  generalize RR (.pair .str (.pair .str (.int .i64))) x.2.2.2.2.2.2.2.2.2.2.2.2.1 (ByteArray.empty,ByteArray.empty,(0:Int))=d
  cases b<;>cases c<;>cases d<;>cases l<;>cases u<;>simp at hl ⊢
 ·rw [if_neg (by simp [hk])]
  have k0:(x.2.2.2.2.2.2.2.2.2.1==0)=false:=by simp [hk]
  have k12:(decide (1≤x.2.2.2.2.2.2.2.2.2.1)&&decide (x.2.2.2.2.2.2.2.2.2.1≤2))=(x.2.2.2.2.2.2.2.2.2.1==1||x.2.2.2.2.2.2.2.2.2.1==2):=by
   rw [Bool.eq_iff_iff]
   simp
   omega
  rw [k12,k0]
  generalize (x.2.2.2.2.2.2.2.2.2.1==1||x.2.2.2.2.2.2.2.2.2.1==2)=k
  generalize Dl x.2.2.2.2.2.2.2.2.2.2.2.2.2 0 x.2.2.2.2.2.2.2.2.2.2.2.2.2.length=u
  generalize (decide (0≤x.2.2.2.2.2.2.2.2.2.2.1)&&decide (x.2.2.2.2.2.2.2.2.2.2.1≤1000))=e
  generalize (decide (1≤x.2.2.2.2.2.2.2.2.2.2.2.1)&&decide (x.2.2.2.2.2.2.2.2.2.2.2.1≤900))=f
  cases k<;>cases u<;>cases e<;>cases f<;>rcases Bool.eq_false_or_eq_true x.2.2.2.2.2.1 with hs | hs<;>simp [hs])
theorem T9 (x:AA) (h1:x.2.2.2.2.2.2.1.length≤maxLen) (h2:x.2.2.2.2.2.2.2.1.length≤maxLen) (h3:x.2.2.2.2.2.2.2.2.2.2.2.2.2.length≤maxLen):D0 x=some (PH x):=Yc (by
 have w0:∀ b,HK b x=some ((!x.2.2.2.2.2.1||(x.2.2.2.1&&x.2.2.2.2.1&&!decide ((x.2.2.2.2.2.2.1.length:Int)>0)))&&(!x.2.2.1||(!x.2.2.2.1&&!x.2.2.2.2.1))&&(Dl x.2.2.2.2.2.2.2.2.2.2.2.2.2 0 x.2.2.2.2.2.2.2.2.2.2.2.2.2.length&&(Gi x.2.2.2.2.2.2.2.2.2||Dm x.2.2.2.2.2.2.2.2.2 x.2.2.2.2.2.1))):=fun b=>Tp (by
  unfold Lv
  simp only [PI x h3,Option.bind_some]
  generalize (Dl x.2.2.2.2.2.2.2.2.2.2.2.2.2 0 x.2.2.2.2.2.2.2.2.2.2.2.2.2.length&&(Gi x.2.2.2.2.2.2.2.2.2||Dm x.2.2.2.2.2.2.2.2.2 x.2.2.2.2.2.1))=t
  generalize decide ((x.2.2.2.2.2.2.1.length:Int)>0)=c
  generalize x.2.2.2.2.2.1=s
  generalize x.2.2.2.2.1=l
  generalize x.2.2.2.1=m
  generalize x.2.2.1=n
  cases s<;>cases n<;>cases m<;>cases l<;>cases c<;>simp)
 unfold Qp PH
 simp only [Bh,Jj,JD _ h1,Vt _ h2 X2,Option.bind_some,w0]
 generalize (decide (1≤x.1)&&decide (x.1≤6))=a
 generalize (decide (1≤x.2.1)&&decide (x.2.1≤9))=b
 generalize Dl x.2.2.2.2.2.2.1 0 x.2.2.2.2.2.2.1.length=d
 generalize Dl x.2.2.2.2.2.2.2.2.2.2.2.2.2 0 x.2.2.2.2.2.2.2.2.2.2.2.2.2.length=e
 generalize Ba x.2.2.2.2.2.2.2.1 0 x.2.2.2.2.2.2.2.1.length=f
 generalize (decide (0≤x.2.2.2.2.2.2.2.2.1)&&decide (x.2.2.2.2.2.2.2.2.1≤900))=g
 generalize (Gi x.2.2.2.2.2.2.2.2.2||Dm x.2.2.2.2.2.2.2.2.2 x.2.2.2.2.2.1)=t
 generalize (!x.2.2.2.2.2.1||(x.2.2.2.1&&x.2.2.2.2.1&&!decide ((x.2.2.2.2.2.2.1.length:Int)>0)))=p
 generalize (!x.2.2.1||(!x.2.2.2.1&&!x.2.2.2.2.1))=q
 cases a
 ·simp
 cases b
 ·simp
 cases d<;>cases e<;>cases f<;>cases g<;>cases p<;>cases q<;>simp)
end Go.Proofs.Ytaedipailemlcaa.Core

namespace Go.Proofs.Ytaedipailemlcaa.Core
open Go
set_option linter.unusedVariables false
abbrev B3:Type:=Int×Int×Int×Int×Int×List (ByteArray×ByteArray×Int)
def X6 (x:B3):Bool :=
 (decide (1≤x.1)&&decide (x.1≤8))&&(decide (1≤x.2.1)&&decide (x.2.1≤6))&&(decide (1≤x.2.2.1)&&decide (x.2.2.1≤6))&&(decide (1≤x.2.2.2.1)&&decide (x.2.2.2.1≤9))&&(decide (0≤x.2.2.2.2.1)&&decide (x.2.2.2.2.1≤1000000000))&&Ba x.2.2.2.2.2 0 x.2.2.2.2.2.length &&
  (if x.1=2∨x.1=3 then true else if x.1=5 then ((x.2.2.2.2.2.length:Int)==1) else ((x.2.2.2.2.2.length:Int)==0))
theorem ZA (x:B3) (h:x.2.2.2.2.2.length≤maxLen):Pt x=some (X6 x):=da (by
 have w1:∀ a b,G8 a b x=some (if b=true then true else if a=5 then ((x.2.2.2.2.2.length:Int)==1) else ((x.2.2.2.2.2.length:Int)==0)):=fun a b=>Y4 (by
  unfold RC
  by_cases h1:b=true<;>by_cases h2:a=5<;>simp [h1,h2])
 have w0:∀ b,Kf b x=some (if x.1=2∨x.1=3 then true else if x.1=5 then ((x.2.2.2.2.2.length:Int)==1) else ((x.2.2.2.2.2.length:Int)==0)):=fun b=>Y5 (by
  unfold RD
  by_cases h1:x.1=2<;>by_cases h2:x.1=3<;>simp [h1,h2,w1])
 unfold Vp X6
 simp only [Ac,F4 _ h,Option.bind_some,w0]
 generalize (decide (1≤x.1)&&decide (x.1≤8))=a
 generalize (decide (1≤x.2.1)&&decide (x.2.1≤6))=b
 generalize (decide (1≤x.2.2.1)&&decide (x.2.2.1≤6))=c
 generalize (decide (1≤x.2.2.2.1)&&decide (x.2.2.2.1≤9))=d
 generalize (decide (0≤x.2.2.2.2.1)&&decide (x.2.2.2.2.1≤1000000000))=e
 generalize Ba x.2.2.2.2.2 0 x.2.2.2.2.2.length=f
 cases a<;>cases b<;>cases c<;>cases d<;>cases e<;>cases f<;>simp)
end Go.Proofs.Ytaedipailemlcaa.Core

namespace Go.Proofs.Ytaedipailemlcaa.Core
open Go
set_option linter.unusedVariables false
set_option linter.unusedSimpArgs false
abbrev Dn:Type:=Int×Int×Int×Ae
def kz (v:List Int):Prop:=(∀ a∈v,1≤a∧a≤6)∧v.Pairwise (· < ·)
theorem bD {v:List Int}:∀ (m i:Nat),i+m=v.length→(Dl v i m=true↔∀ a (ha:a<v.length),i≤a→(1≤v[a]∧v[a]≤6)∧(a≠0→v.getD (a-1) 0<v[a]))
 | 0,i,h=>by
  simp only [Dl,true_iff]
  intro a ha hi
  omega
 | m+1,i,h=>by
  have hi:i<v.length:=by omega
  rw [Dl,Bool.and_eq_true,Bool.and_eq_true,bD m (i+1) (by omega),Ab hi]
  simp only [Bool.or_eq_true,Bool.and_eq_true,decide_eq_true_eq]
  constructor
  ·rintro ⟨⟨h1,h2⟩,h3⟩ a ha hia
   by_cases e:a=i
   ·subst e
    exact ⟨h1,fun h0=>h2.resolve_left h0⟩
   ·exact h3 a ha (by omega)
  ·intro h3
   refine ⟨⟨(h3 i hi (Nat.le_refl _)).1,?_⟩,fun a ha hia=>h3 a ha (by omega)⟩
   by_cases e:i=0
   ·exact .inl e
   ·exact .inr ((h3 i hi (Nat.le_refl _)).2 e)
theorem j_ {v:List Int}:Dl v 0 v.length=true↔kz v:=by
 rw [bD _ _ (by omega)]
 constructor
 ·intro h
  refine ⟨fun a ha=>?_,?_⟩
  ·obtain ⟨i,hi,rfl⟩:=List.getElem_of_mem ha
   exact (h i hi (Nat.zero_le _)).1
  ·have st:∀ d a (ha:a+d+1<v.length),v.getD a 0<v.getD (a+d+1) 0:=by
    intro d
    induction d with
    | zero =>
     intro a ha
     have:=(h (a+1) (by omega) (Nat.zero_le _)).2 (by omega)
     rw [Ab (show a+0+1<v.length from ha)]
     simpa using this
    | succ d ih =>
     intro a ha
     have h1:=ih a (by omega)
     have h2:=(h (a+(d+1)+1) ha (Nat.zero_le _)).2 (by omega)
     rw [Ab ha]
     simp only [Nat.add_sub_cancel] at h2
     have h3:v.getD (a+d+1) 0<v[a+(d+1)+1]:=h2
     omega
   rw [List.pairwise_iff_getElem]
   intro i j hi hj hij
   have:=st (j-i-1) i (by omega)
   rw [show i+(j-i-1)+1=j by omega,Ab hi,Ab hj] at this
   exact this
 ·rintro ⟨h1,h2⟩ a ha _
  refine ⟨h1 _ (List.getElem_mem ha),fun h0=>?_⟩
  rw [Ab (show a-1<v.length by omega)]
  exact (List.pairwise_iff_getElem.1 h2) (a-1) a (by omega) ha (by omega)
theorem f7 {v:List Int} (h:kz v):v.length≤6:=by
 have hs:v.Sublist [1,2,3,4,5,6]:=by
  have key:∀ (l:List Int) (n:Nat),n≤6→(∀ a∈l,(6-n:Int)<a∧a≤6)→l.Pairwise (· < ·)→l.length≤n:=by
   intro l
   induction l with
   | nil=>intro n _ _ _; simp
   | cons a l ih =>
    intro n hn hb hp
    have ha:=hb a (by simp)
    have hp2:=List.pairwise_cons.1 hp
    have:=ih ((6-a).toNat) (by omega) (fun b hb'=>⟨by have:=hp2.1 b hb'; omega,(hb b (by simp [hb'])).2⟩) hp2.2
    simp only [List.length_cons]
    omega
  have hl:=key v 6 (by omega) (fun a ha=>by have:=h.1 a ha; omega) h.2
  exact List.Sublist.trans (List.Sublist.refl v) (by
   have:∀ (l:List Int) (s:List Int),s.Pairwise (· < ·)→l.Pairwise (· < ·)→(∀ a∈l,a∈s)→l.Sublist s:=by
    intro l s
    induction s generalizing l with
    | nil =>
     intro _ _ hm
     cases l with
     | nil=>exact List.Sublist.slnil
     | cons a l=>exact absurd (hm a (by simp)) (by simp)
    | cons b s ih =>
     intro hs hl hm
     cases l with
     | nil=>exact List.nil_sublist _
     | cons a l =>
      have hs2:=List.pairwise_cons.1 hs
      have hl2:=List.pairwise_cons.1 hl
      rcases List.mem_cons.1 (hm a (by simp)) with e | e
      ·subst e
       refine (ih l hs2.2 hl2.2 fun c hc=>?_).cons_cons _
       rcases List.mem_cons.1 (hm c (by simp [hc])) with e | e
       ·have:=hl2.1 c hc; omega
       ·exact e
      ·refine (ih (a::l) hs2.2 hl fun c hc=>?_).cons _
       rcases List.mem_cons.1 (hm c hc) with e2 | e2
       ·have h1:=hs2.1 a e
        rcases List.mem_cons.1 hc with e3 | e3
        ·omega
        ·have:=hl2.1 c e3; omega
       ·exact e2
   refine this v [1,2,3,4,5,6] (by decide) h.2 fun a ha=>?_
   have:=h.1 a ha
   have h5:a=1∨a=2∨a=3∨a=4∨a=5∨a=6:=by omega
   rcases h5 with h | h | h | h | h | h<;>simp [h])
 simpa using hs.length_le
structure Hq (m:AA):Prop where
 id:1≤m.1∧m.1≤6
 ep:1≤m.2.1∧m.2.1≤9
 serves:m.2.2.2.2.2.1=true→m.2.2.2.1=true∧m.2.2.2.2.1=true∧m.2.2.2.2.2.2.1=[]
 fell:m.2.2.1=true→m.2.2.2.1=false∧m.2.2.2.2.1=false
 waits:kz m.2.2.2.2.2.2.1
 left:kz m.2.2.2.2.2.2.2.2.2.2.2.2.2
 items:BN m.2.2.2.2.2.2.2.1=true
 count:0≤m.2.2.2.2.2.2.2.2.1∧m.2.2.2.2.2.2.2.2.1≤900
 task:Gi m.2.2.2.2.2.2.2.2.2=true∨Dm m.2.2.2.2.2.2.2.2.2 m.2.2.2.2.2.1=true
theorem f8 {m:AA}:PH m=true↔Hq m:=by
 unfold PH
 simp only [Bool.and_eq_true,Bool.or_eq_true,Bool.not_eq_true',decide_eq_true_eq,j_,decide_eq_false_iff_not]
 constructor
 ·rintro ⟨⟨⟨⟨⟨⟨⟨⟨h1,h2⟩,h3⟩,h4⟩,h5⟩,h6⟩,h7⟩,h8⟩,h9⟩
  refine ⟨h1,h2,fun h=>?_,fun h=>?_,h5,h6,h7,h8,h9⟩
  ·rcases h3 with h3 | ⟨⟨a,b⟩,c⟩
   ·rw [h] at h3; cases h3
   ·exact ⟨a,b,List.length_eq_zero_iff.1 (by omega)⟩
  ·rcases h4 with h4 | h4
   ·rw [h] at h4; cases h4
   ·exact h4
 ·rintro ⟨h1,h2,h3,h4,h5,h6,h7,h8,h9⟩
  refine ⟨⟨⟨⟨⟨⟨⟨⟨h1,h2⟩,?_⟩,?_⟩,h5⟩,h6⟩,h7⟩,h8⟩,h9⟩
  ·cases hs:m.2.2.2.2.2.1 with
   | false=>exact .inl rfl
   | true =>
    obtain ⟨a,b,c⟩:=h3 hs
    exact .inr ⟨⟨a,b⟩,by rw [c]; simp⟩
  ·cases hs:m.2.2.1 with
   | false=>exact .inl rfl
   | true=>exact .inr (h4 hs)
theorem PJ {x:List Ae} (h:BN x=true):x.length≤12:=(X4.1 h).2.2
theorem Hq.lens {m:AA} (h:Hq m):m.2.2.2.2.2.2.1.length≤6∧m.2.2.2.2.2.2.2.1.length≤12∧m.2.2.2.2.2.2.2.2.2.2.2.2.2.length≤6:=⟨f7 h.waits,PJ h.items,f7 h.left⟩
theorem Vx (m:AA) (h1:m.2.2.2.2.2.2.1.length≤68719476736) (h2:m.2.2.2.2.2.2.2.1.length≤68719476736) (h3:m.2.2.2.2.2.2.2.2.2.2.2.2.2.length≤68719476736):CJ m=some m:=af (by
 unfold SF
 rw [if_pos (by simpa using h1),if_pos (by simpa using h2),if_pos (by simpa using h3)]
 rfl)
theorem Hq.copy {m:AA} (h:Hq m):CJ m=some m:=by
 obtain ⟨h1,h2,h3⟩:=h.lens
 exact Vx m (by omega) (by omega) (by omega)
def Do (view:List Int) (id:Int):List Int:=[1,2,3,4,5,6].filter fun v=>v != id&&view.contains v
theorem P1 (view:List Int) (id:Int):kz (Do view id):=by
 refine ⟨fun a ha=>?_,List.Pairwise.filter _ (by decide)⟩
 have:=(List.mem_filter.1 ha).1
 simp at this
 omega
theorem Gj (view:List Int) (id:Int) (h:view.length≤maxLen):En view id=some (Do view id):=XR (by
 unfold O5
 have step:∀ (v:Nat) (acc r:List Int),v≤6→1≤v→acc.length≤6→Bc view id ((v+1:Nat):Int) (if ((v:Int) != id&&view.contains (v:Int))=true then acc++[(v:Int)] else acc)=some r→Bc view id (v:Int) acc=some r:=by
  intro v acc r hv hv1 ha hr
  refine K5 ?_
  unfold Gg
  rw [if_pos (by simp; omega),AS (show v<9223372036854775807 by omega),B2 view _ h]
  by_cases h1:((v:Int) != id)=true
  ·rw [if_pos h1,Option.bind_some]
   by_cases h2:view.contains (v:Int)=true
   ·rw [if_pos h2,if_pos (by simp; omega)]
    rw [if_pos (by rw [h1,h2]; rfl)] at hr
    exact hr
   ·rw [if_neg h2]
    rw [if_neg (fun hc=>h2 (by simp only [Bool.and_eq_true] at hc; exact hc.2))] at hr
    exact hr
  ·rw [if_neg h1]
   rw [if_neg (fun hc=>h1 (by simp only [Bool.and_eq_true] at hc; exact hc.1))] at hr
   exact hr
 have fin:∀ acc,Bc view id ((7:Nat):Int) acc=some acc:=fun acc=>K5 (by
  unfold Gg
  rw [if_neg (by decide)])
 have g:∀ (acc:List Int) (v:Int),(if (v != id&&view.contains v)=true then acc++[v] else acc).length≤acc.length+1:=by
  intro acc v; split<;>simp
 refine step 1 [] _ (by omega) (by omega) (by simp) ?_
 refine step 2 _ _ (by omega) (by omega) (by have:=g [] ((1:Nat):Int); simp only [List.length_nil] at this; omega) ?_
 have l2:=g [] ((1:Nat):Int)
 generalize e1:(if (((1:Nat):Int) != id&&view.contains ((1:Nat):Int))=true then ([]:List Int)++[((1:Nat):Int)] else [])=a1 at l2 ⊢
 have l3:=g a1 ((2:Nat):Int)
 generalize e2:(if (((2:Nat):Int) != id&&view.contains ((2:Nat):Int))=true then a1++[((2:Nat):Int)] else a1)=a2 at l3 ⊢
 have l4:=g a2 ((3:Nat):Int)
 simp only [List.length_nil] at l2
 refine step 3 _ _ (by omega) (by omega) (by omega) ?_
 generalize e3:(if (((3:Nat):Int) != id&&view.contains ((3:Nat):Int))=true then a2++[((3:Nat):Int)] else a2)=a3 at l4 ⊢
 have l5:=g a3 ((4:Nat):Int)
 refine step 4 _ _ (by omega) (by omega) (by omega) ?_
 generalize e4:(if (((4:Nat):Int) != id&&view.contains ((4:Nat):Int))=true then a3++[((4:Nat):Int)] else a3)=a4 at l5 ⊢
 have l6:=g a4 ((5:Nat):Int)
 refine step 5 _ _ (by omega) (by omega) (by omega) ?_
 generalize e5:(if (((5:Nat):Int) != id&&view.contains ((5:Nat):Int))=true then a4++[((5:Nat):Int)] else a4)=a5 at l6 ⊢
 refine step 6 _ _ (by omega) (by omega) (by omega) ?_
 rw [fin]
 congr 1
 unfold Do
 have fl:∀ (p:Int→Bool) (v:Int) (l:List Int),(v::l).filter p=(if p v=true then [v] else [])++l.filter p:=by
  intro p v l; rw [List.filter_cons]; split<;>simp
 have ap:∀ (c:Bool) (a:List Int) (v:Int),(if c=true then a++[v] else a)=a++(if c=true then [v] else []):=by
  intro c a v; split<;>simp
 rw [ap,← e5,ap,← e4,ap,← e3,ap,← e2,ap,← e1,ap]
 simp only [fl,List.filter_nil,List.append_nil,List.nil_append,List.append_assoc]
 rfl)
theorem bE {v:List Int} (h:kz v) (p:Int→Bool):kz (v.filter p):=⟨fun a ha=>h.1 a (List.mem_filter.1 ha).1,h.2.filter p⟩
theorem KI (v:List Int) (x:Int) (h:v.length≤68719476736):Fn v x=some (v.filter (· != x)):=Vr (by
 unfold Nl
 have key:=Gh (n:=v.length) (P:=fun i=>∀ acc:List Int,acc.length≤i→Cx v x (i:Int) acc=some (acc++(v.drop i).filter (· != x))) (fun acc ha=>KH (by
  unfold GH
  rw [if_neg (by simp)]
  simp)) (fun i hi ih acc ha=>KH (by
  unfold GH
  simp only [show ((i:Int)<(v.length:Int)) from by omega,decide_true,if_true,show (0:Int)≤(i:Int) from by omega,Int.toNat_natCast,Ab hi,AS (show i<9223372036854775807 by omega)]
  rw [Bq hi,List.filter_cons]
  by_cases hh:(v[i] != x)=true
  ·rw [if_pos hh,if_pos (by simp; omega),ih _ (by simp; omega),if_pos hh,List.append_assoc]
   rfl
  ·rw [if_neg hh,ih _ (by omega),if_neg hh])) 0 (by omega) [] (by simp)
 simpa using key)
end Go.Proofs.Ytaedipailemlcaa.Core

namespace Go.Proofs.Ytaedipailemlcaa.Core
open Go
set_option linter.unusedVariables false
set_option linter.unusedSimpArgs false
def Bn (view:List Int) (id:Int):List Int:=view.filter (· != id)
def Kg (m:AA) (view:List Int) (its:List Ae):AA :=
 (m.1,m.2.1,m.2.2.1,true,m.2.2.2.2.1,(((Do view m.1).length:Int)==0),Do view m.1,its,m.2.2.2.2.2.2.2.2)
def SX (m:AA) (e:Int):AA :=
 (m.1,e,false,false,false,false,([]:List Int),m.2.2.2.2.2.2.2.1,(0:Int),(0:Int),(0:Int),(0:Int),(ByteArray.empty,ByteArray.empty,(0:Int)),([]:List Int))
def Ex (m:AA) (x:B3) (k:Int):List B3:=[(k,m.1,x.2.1,x.2.2.2.1,x.2.2.2.2.1,([]:List Ae))]
def PL (m:AA) (its:List Ae):AA :=
 (m.1,m.2.1,m.2.2.1,m.2.2.2.1,m.2.2.2.2.1,m.2.2.2.2.2.1,m.2.2.2.2.2.2.1,its,m.2.2.2.2.2.2.2.2.1,(0:Int),(0:Int),(0:Int),(ByteArray.empty,ByteArray.empty,(0:Int)),([]:List Int))
def Ea (m:AA):List Dn×AA :=
 if (m.2.2.2.2.2.2.2.2.2.1==1)=true then ([(m.2.2.2.2.2.2.2.2.2.2.1,m.2.1,m.2.2.2.2.2.2.2.2.2.2.2.1,m.2.2.2.2.2.2.2.2.2.2.2.2.1)],PL m (EZ m.2.2.2.2.2.2.2.1 m.2.2.2.2.2.2.2.2.2.2.2.2.1))
 else ([(m.2.2.2.2.2.2.2.2.2.2.1,m.2.1,m.2.2.2.2.2.2.2.2.2.2.2.1,Pz m.2.2.2.2.2.2.2.1 m.2.2.2.2.2.2.2.2.2.2.2.2.1.1)],PL m m.2.2.2.2.2.2.2.1)
theorem PM (view:List Int) (its:List Ae) (m:AA) (h:view.length≤68719476736) (hi:its.length≤68719476736) :
  Jt view its m=some ((Bn view m.1).map (fun v=>(3,m.1,v,m.2.1,0,its)),Kg m view its):=bp (by
 unfold TM
 rw [if_pos (by simpa using hi),Gj view _ (by unfold maxLen; omega),Option.bind_some]
 have key:=Gh (n:=view.length) (P:=fun i=>∀ acc:List B3,acc.length≤i→Eu view its (i:Int) (Kg m view its) acc ([]++its)=some (acc++((view.drop i).filter (· != m.1)).map (fun v=>((3:Int),m.1,v,m.2.1,(0:Int),its)),Kg m view its)) (fun acc ha=>O7 (by
  unfold Jf
  rw [if_neg (by simp)]
  simp)) (fun i hi2 ih acc ha=>O7 (by
  unfold Jf
  simp only [show ((i:Int)<(view.length:Int)) from by omega,decide_true,if_true,show (0:Int)≤(i:Int) from by omega,Int.toNat_natCast,Ab hi2,AS (show i<9223372036854775807 by omega)]
  rw [show (Kg m view its).1=m.1 from rfl,show (Kg m view its).2.1=m.2.1 from rfl,Bq hi2,List.filter_cons]
  by_cases hh:(view[i] != m.1)=true
  ·rw [if_pos hh,if_pos (by simpa using hi),if_pos (by simp; omega),ih _ (by simp; omega),if_pos hh,List.map_cons,List.append_assoc]
   rfl
  ·rw [if_neg hh,ih _ (by omega),if_neg hh])) 0 (by omega) [] (by simp)
 exact key)
theorem Nn (m:AA) (e:Int) (h:m.2.2.2.2.2.2.2.1.length≤68719476736):IV m e=some (SX m e):=bA (by
 unfold SS
 rw [if_pos (by simpa using h)]
 rfl)
theorem FM (m:AA) (x:B3) (k:Int):C3 m x k=some (Ex m x k):=Y7 rfl
theorem Gk (m:AA) (h:m.2.2.2.2.2.2.2.1.length≤34359738367):Eo m=some (Ea m):=XS (by
 unfold O6 Ea
 rw [F5 _ _ h,PF _ _ (by unfold maxLen; omega)]
 split<;>rfl)
def f9 (m:AA) (f:Int):AA :=
 (m.1,m.2.1,m.2.2.1,m.2.2.2.1,m.2.2.2.2.1,m.2.2.2.2.2.1,m.2.2.2.2.2.2.1,m.2.2.2.2.2.2.2.1,m.2.2.2.2.2.2.2.2.1,m.2.2.2.2.2.2.2.2.2.1,m.2.2.2.2.2.2.2.2.2.2.1,m.2.2.2.2.2.2.2.2.2.2.2.1,m.2.2.2.2.2.2.2.2.2.2.2.2.1,m.2.2.2.2.2.2.2.2.2.2.2.2.2.filter (· != f))
def So (m:AA) (f:Int):AA×List B3×List Dn :=
 if (((m.2.2.2.2.2.2.2.2.2.2.2.2.2.filter (· != f)).length:Int)==0)=true then ((Ea (f9 m f)).2,[],(Ea (f9 m f)).1) else (f9 m f,[],[])
def i_ (m:AA) (view:List Int) (x:B3):AA×List B3×List Dn :=
 if x.1=2 then (if (m.2.2.2.2.1&&!m.2.2.2.1)=true then (Kg m view x.2.2.2.2.2,(Bn view m.1).map (fun v=>(3,m.1,v,m.2.1,0,x.2.2.2.2.2)),[]) else (m,[],[]))
 else if x.1=3 then (if (!view.contains m.1||(view.getD 0 0==m.1))=true then (m,[],[]) else if (!m.2.2.2.1&&m.2.2.1)=true then (m,[],[])
  else if m.2.2.2.1=true then (m,Ex m x 4,[]) else
   ((m.1,m.2.1,false,true,false,false,([]:List Int),x.2.2.2.2.2,(0:Int),(0:Int),(0:Int),(0:Int),(ByteArray.empty,ByteArray.empty,(0:Int)),([]:List Int)),Ex m x 4,[]))
 else if x.1=4 then (if m.2.2.2.2.1=true then
   ((m.1,m.2.1,m.2.2.1,m.2.2.2.1,m.2.2.2.2.1,m.2.2.2.1&&(((m.2.2.2.2.2.2.1.filter (· != x.2.1)).length:Int)==0),m.2.2.2.2.2.2.1.filter (· != x.2.1),m.2.2.2.2.2.2.2),[],[]) else (m,[],[]))
 else if x.1=5 then (if m.2.2.2.1=true then
   ((m.1,m.2.1,m.2.2.1,m.2.2.2.1,m.2.2.2.2.1,m.2.2.2.2.2.1,m.2.2.2.2.2.2.1,EZ m.2.2.2.2.2.2.2.1 (x.2.2.2.2.2.getD 0 (ByteArray.empty,ByteArray.empty,(0:Int))),m.2.2.2.2.2.2.2.2),Ex m x 6,[]) else (m,[],[]))
 else if x.1=7 then (if m.2.2.2.1=true then (m,Ex m x 8,[]) else (m,[],[]))
 else if (x.1=6∨x.1=8)∧m.2.2.2.2.2.2.2.2.2.1=(if x.1=8 then 2 else 1)∧m.2.2.2.2.2.2.2.2.2.2.2.1=x.2.2.2.2.1 then
  (So m x.2.1)
 else (m,[],[])
theorem Xf (m:AA) (view:List Int) (x:B3) (hm:Hq m) (hv:view.length≤68719476736) (hv0:0<view.length) (hx:x.2.2.2.2.2.length≤68719476736) (h5:x.1=5→0<x.2.2.2.2.2.length) :
  N0 m view x=some (i_ m view x):=br (by
 obtain ⟨l1,l2,l3⟩:=hm.lens
 unfold TN
 rw [hm.copy,Option.bind_some]
 unfold i_
 by_cases k2:x.1=2
 ·rw [if_pos (by simpa using k2),if_pos k2]
  have J:∀ b y,GW view [] [] b m x y m=some (if b=true then (Kg m view x.2.2.2.2.2,(Bn view m.1).map (fun v=>(3,m.1,v,m.2.1,0,x.2.2.2.2.2)),[]) else (m,[],[])):=fun b y=>XU (by
   unfold O8
   cases b
   ·rfl
   ·rw [if_pos rfl,PM view _ m hv hx]
    rfl)
  rw [J,J]
  cases m.2.2.2.2.1<;>cases m.2.2.2.1<;>rfl
 ·rw [if_neg (by simpa using k2),if_neg k2]
  by_cases k3:x.1=3
  ·rw [if_pos (by simpa using k3),if_pos k3,B2 view _ (by unfold maxLen; omega),Option.bind_some]
   have J2:∀ b y,GX [] [] b m x y m=some (if m.2.2.2.1=true then (m,Ex m x 4,[]) else
     ((m.1,m.2.1,false,true,false,false,([]:List Int),x.2.2.2.2.2,(0:Int),(0:Int),(0:Int),(0:Int),(ByteArray.empty,ByteArray.empty,(0:Int)),([]:List Int)),Ex m x 4,[])):=fun b y=>XV (by
    unfold O9
    rw [Nn m _ (by omega),FM,Option.bind_some,Option.bind_some]
    have hx':([]:List Ae).length+x.2.2.2.2.2.length≤68719476736:=by simpa using hx
    cases m.2.2.2.1
    ·rw [if_pos (show (!false)=true from rfl),if_pos hx']; rfl
    ·rfl)
   have J1:∀ b y,Jg [] [] b m x y m=some (if (!m.2.2.2.1&&m.2.2.1)=true then (m,[],[]) else if m.2.2.2.1=true then (m,Ex m x 4,[]) else
     ((m.1,m.2.1,false,true,false,false,([]:List Int),x.2.2.2.2.2,(0:Int),(0:Int),(0:Int),(0:Int),(ByteArray.empty,ByteArray.empty,(0:Int)),([]:List Int)),Ex m x 4,[])):=fun b y=>XW (by
    unfold O_
    rw [J2,J2]
    cases m.2.2.2.1<;>cases m.2.2.1<;>rfl)
   rw [show view.getD (0:Int).toNat 0=view.getD 0 0 from rfl]
   cases view.contains m.1
   ·rfl
   ·rw [if_neg (by simp),if_pos (by omega),if_pos (by omega),J1]
    cases (view.getD 0 0==m.1)<;>rfl
  ·rw [if_neg (by simpa using k3),if_neg k3]
   by_cases k4:x.1=4
   ·rw [if_pos (by simpa using k4),if_pos k4,KI _ _ (by omega),Option.bind_some]
    cases m.2.2.2.2.1<;>cases m.2.2.2.1<;>rfl
   ·rw [if_neg (by simpa using k4),if_neg k4]
    by_cases k5:x.1=5
    ·have:=h5 k5
     rw [if_pos (by simpa using k5),if_pos k5,F5 _ _ (by omega),Option.bind_some,FM,Option.bind_some,show x.2.2.2.2.2.getD (0:Int).toNat (ByteArray.empty,ByteArray.empty,(0:Int))=x.2.2.2.2.2.getD 0 (ByteArray.empty,ByteArray.empty,(0:Int)) from rfl]
     cases m.2.2.2.1
     ·rfl
     ·rw [if_pos rfl,if_pos rfl,if_pos (by omega),if_pos (by omega)]
    ·rw [if_neg (by simpa using k5),if_neg k5]
     by_cases k7:x.1=7
     ·rw [if_pos (by simpa using k7),if_pos k7,FM,Option.bind_some]
      cases m.2.2.2.1<;>rfl
     ·rw [if_neg (by simpa using k7),if_neg k7]
      have J5:∀ b y,Jh [] [] b m x y m=some (So m x.2.1):=fun b y=>XX (by
       unfold PA
       rw [KI _ _ (by omega),Option.bind_some,Gk _ (by simp only; omega),Option.bind_some]
       unfold So
       split<;>rfl)
      have J4:∀ op y,GY [] [] op m x y m=some (if m.2.2.2.2.2.2.2.2.2.1=op∧m.2.2.2.2.2.2.2.2.2.2.2.1=x.2.2.2.2.1 then (So m x.2.1) else (m,[],[])):=fun op y=>XY (by
       unfold PB
       rw [J5]
       by_cases h1:m.2.2.2.2.2.2.2.2.2.1=op
       ·rw [if_pos (by simp [h1])]
        by_cases h2:m.2.2.2.2.2.2.2.2.2.2.2.1=x.2.2.2.2.1
        ·rw [if_neg (by simp [h2]),if_pos (show _∧_ from ⟨h1,h2⟩)]
        ·rw [if_pos (by simp [h2]),if_neg (show ¬(_∧_) from fun h=>h2 h.2)]
       ·rw [if_neg (by simp [h1]),if_neg (fun h=>h1 h.1)])
      have J3:∀ b y,GZ [] [] b m x y m=some (if b=true∧m.2.2.2.2.2.2.2.2.2.1=(if x.1=8 then 2 else 1)∧m.2.2.2.2.2.2.2.2.2.2.2.1=x.2.2.2.2.1 then (So m x.2.1) else (m,[],[])):=fun b y=>XZ (by
       unfold PC
       rw [J4,J4]
       cases b
       ·rw [if_neg (by simp),if_neg (by simp)]
       ·rw [if_pos rfl]
        by_cases k8:x.1=8
        ·simp only [k8,beq_self_eq_true,if_true,true_and]
        ·rw [if_neg (by simpa using k8)]
         simp only [k8,if_false,true_and])
      rw [J3,J3]
      by_cases k6:x.1=6
      ·simp only [k6,beq_self_eq_true,if_true,true_and,true_or]
      ·rw [if_neg (by simpa using k6)]
       simp only [k6,false_or,beq_iff_eq])
structure T_ (views:List (List Int)):Prop where
 ok:DY views views.length views=true
theorem Gv {n:Nat}:∀ {l:List (List Int)} {x:List (List Int)},DY x n l=true↔(∀ v∈l,P0 v=true)∧1≤n∧n≤9
 | [],x=>by simp [DY]; omega
 | v::l,x=>by
  rw [DY,Bool.and_eq_true,Gv]
  simp [and_assoc]
theorem T_.len {views:List (List Int)} (h:T_ views):1≤views.length∧views.length≤9:=(Gv.1 h.ok).2
theorem T_.view {views:List (List Int)} (h:T_ views) {v:List Int} (hv:v∈views):1≤v.length∧v.length≤4:=by
 have:=(Gv.1 h.ok).1 v hv
 unfold P0 at this
 simp only [Bool.and_eq_true,decide_eq_true_eq] at this
 omega
theorem T_.get {views:List (List Int)} (h:T_ views) {i:Nat} (hi:i<views.length):1≤(views.getD i []).length∧(views.getD i []).length≤4:=by
 rw [Ab hi]
 exact h.view (List.getElem_mem hi)
theorem EO {views:List (List Int)} (h:T_ views):Cw views=some true:=by
 rw [Vv views (by have:=h.len; unfold maxLen; omega) (fun a ha=>by have:=h.view ha; unfold maxLen; omega),h.ok]
theorem HW {m:AA} (h:Hq m):D1 m=some true:=by
 obtain ⟨h1,h2,h3⟩:=h.lens
 rw [T8 m (by unfold maxLen; omega) (by unfold maxLen; omega) (by unfold maxLen; omega),f8.2 h]
def TP (m:AA) (views:List (List Int)) (x:B3):AA×List B3×List Dn :=
 if (X6 x&&(x.2.2.1==m.1)&&decide (m.2.1≤x.2.2.2.1)&&decide (x.2.2.2.1≤(views.length:Int)))=true then
  if x.2.2.2.1=m.2.1 then i_ m (views.getD (m.2.1-1).toNat []) x
  else if (x.1==1&&(x.2.2.2.1==m.2.1+1)&&m.2.2.2.1&&(views.getD (m.2.1-1).toNat []).contains m.1)=true then (SX m x.2.2.2.1,[(2,m.1,x.2.1,x.2.2.2.1,0,m.2.2.2.2.2.2.2.1)],[])
  else if (x.1==3&&(views.getD (x.2.2.2.1-1).toNat []).contains m.1&&((views.getD (x.2.2.2.1-1).toNat []).getD 0 0 != m.1))=true then
   ((m.1,x.2.2.2.1,false,true,false,false,([]:List Int),x.2.2.2.2.2,(0:Int),(0:Int),(0:Int),(0:Int),(ByteArray.empty,ByteArray.empty,(0:Int)),([]:List Int)),Ex m x 4,[])
  else (m,[],[])
 else (m,[],[])
theorem kA {x:B3} (h:X6 x=true):x.2.2.2.2.2.length≤12∧(x.1=5→x.2.2.2.2.2.length=1):=by
 unfold X6 at h
 simp only [Bool.and_eq_true] at h
 refine ⟨PJ (x:=x.2.2.2.2.2) h.1.2,fun h5=>?_⟩
 have:=h.2
 rw [if_neg (by omega),if_pos h5] at this
 simp only [beq_iff_eq] at this
 omega
theorem Vy (m:AA) (views:List (List Int)) (x:B3) (hm:Hq m) (hv:T_ views) (hx:x.2.2.2.2.2.length≤68719476736) :
  Lo m views x=some (TP m views x):=ax (by
 have hvl:=hv.len
 have hep:=hm.ep
 unfold SO TP
 rw [hm.copy,Option.bind_some,HW hm,Option.bind_some,if_pos (by rfl),EO hv,Option.bind_some,if_pos (by rfl),ZA x (by unfold maxLen; omega),Option.bind_some]
 cases hmo:X6 x with
 | false=>rfl
 | true =>
  obtain ⟨xl,x5⟩:=kA hmo
  rw [if_pos (by rfl)]
  by_cases h1:x.2.2.1=m.1
  ·rw [if_pos (by simp [h1])]
   by_cases h2:x.2.2.2.1<m.2.1
   ·rw [if_neg (by simpa using h2),if_neg (by simp; omega)]
   ·rw [if_pos (by simpa using h2)]
    by_cases h3:x.2.2.2.1>(views.length:Int)
    ·rw [if_neg (by simpa using h3),if_neg (by simp; omega)]
    ·rw [if_pos (by simpa using h3),if_neg (by simp; omega),if_pos (by simp [h1]; omega)]
     have wm:IntKind.i64.wrap (m.2.1-1)=m.2.1-1:=AW (by omega)
     have wp:IntKind.i64.wrap (m.2.1+1)=m.2.1+1:=AW (by omega)
     have wx:IntKind.i64.wrap (x.2.2.2.1-1)=x.2.2.2.1-1:=AW (by omega)
     have g1:=hv.get (i:=(m.2.1-1).toNat) (by omega)
     have g2:=hv.get (i:=(x.2.2.2.1-1).toNat) (by omega)
     have J3:∀ b y,EJ [] [] b m x y m=some (if b=true then ((m.1,x.2.2.2.1,false,true,false,false,([]:List Int),x.2.2.2.2.2,(0:Int),(0:Int),(0:Int),(0:Int),(ByteArray.empty,ByteArray.empty,(0:Int)),([]:List Int)),Ex m x 4,[]) else (m,[],[])):=fun b y=>Vh (by
      unfold NZ
      cases b
      ·rfl
      ·rw [if_pos rfl,if_pos (by simpa using hx),FM]
       rfl)
     have J2:∀ b y,It views [] [] b m x y m=some (if (x.1==3&&(views.getD (x.2.2.2.1-1).toNat []).contains m.1&&((views.getD (x.2.2.2.1-1).toNat []).getD 0 0 != m.1))=true then
       ((m.1,x.2.2.2.1,false,true,false,false,([]:List Int),x.2.2.2.2.2,(0:Int),(0:Int),(0:Int),(0:Int),(ByteArray.empty,ByteArray.empty,(0:Int)),([]:List Int)),Ex m x 4,[]) else (m,[],[])):=fun b y=>Vi (by
      unfold Na
      rw [wx,if_pos (by omega),if_pos (by omega),B2 _ _ (by unfold maxLen; omega),Option.bind_some,show (views.getD (x.2.2.2.1-1).toNat ([]:List Int)).getD (0:Int).toNat 0=(views.getD (x.2.2.2.1-1).toNat []).getD 0 0 from rfl]
      simp only [J3]
      rw [if_pos (show (0:Int)≤0 by omega),if_pos (show (0:Int)<((views.getD (x.2.2.2.1-1).toNat ([]:List Int)).length:Int) by omega)]
      cases (x.1==3)<;>cases (views.getD (x.2.2.2.1-1).toNat ([]:List Int)).contains m.1<;>rfl)
     have J1:∀ b y,C0 views [] [] b m x y m=some (if b=true then (SX m x.2.2.2.1,[(2,m.1,x.2.1,x.2.2.2.1,0,m.2.2.2.2.2.2.2.1)],[]) else
       if (x.1==3&&(views.getD (x.2.2.2.1-1).toNat []).contains m.1&&((views.getD (x.2.2.2.1-1).toNat []).getD 0 0 != m.1))=true then
       ((m.1,x.2.2.2.1,false,true,false,false,([]:List Int),x.2.2.2.2.2,(0:Int),(0:Int),(0:Int),(0:Int),(ByteArray.empty,ByteArray.empty,(0:Int)),([]:List Int)),Ex m x 4,[]) else (m,[],[])):=fun b y=>Vj (by
      unfold Nb
      have hl:([]:List Ae).length+m.2.2.2.2.2.2.2.1.length≤68719476736:=by have:=hm.lens; simp; omega
      rw [J2,Nn m _ (by have:=hm.lens; omega),Option.bind_some,if_pos hl]
      cases b<;>rfl)
     refine Vk ?_
     unfold Nc
     rw [wm,wp]
     by_cases h4:x.2.2.2.1=m.2.1
     ·rw [if_pos (by simpa using h4),if_pos (by omega),if_pos (by omega),if_pos h4,Xf m _ x hm (by omega) (by omega) hx (fun h=>by have:=x5 h; omega)]
      rfl
     ·rw [if_neg (by simpa using h4),if_neg h4,B2 _ _ (by unfold maxLen; omega),Option.bind_some]
      simp only [J1]
      rw [if_pos (show (0:Int)≤m.2.1-1 by omega),if_pos (show m.2.1-1<(views.length:Int) by omega)]
      cases (x.1==1)<;>cases (x.2.2.2.1==m.2.1+1)<;>cases m.2.2.2.1<;>cases (views.getD (m.2.1-1).toNat ([]:List Int)).contains m.1<;>rfl
  ·rw [if_neg (by simp [h1]),if_neg (by simp [h1])])
end Go.Proofs.Ytaedipailemlcaa.Core

namespace Go.Proofs.Ytaedipailemlcaa.Core
open Go
set_option linter.unusedVariables false
set_option linter.unusedSimpArgs false
theorem TQ {v:List Int}:∀ (m i:Nat),i+m=v.length→(FX v i m=true↔∀ a (ha:a<v.length),i≤a→(1≤v[a]∧v[a]≤6)∧v[a]∉v.take a)
 | 0,i,h=>by
  simp only [FX,true_iff]
  intro a ha hi
  omega
 | m+1,i,h=>by
  have hi:i<v.length:=by omega
  rw [FX,Bool.and_eq_true,Bool.and_eq_true,TQ m (i+1) (by omega),Ab hi]
  simp only [Bool.and_eq_true,decide_eq_true_eq,Bool.not_eq_true',List.contains_eq_mem,decide_eq_false_iff_not]
  constructor
  ·rintro ⟨⟨h1,h2⟩,h3⟩ a ha hia
   by_cases e:a=i
   ·subst e
    exact ⟨h1,h2⟩
   ·exact h3 a ha (by omega)
  ·intro h3
   exact ⟨⟨(h3 i hi (Nat.le_refl _)).1,(h3 i hi (Nat.le_refl _)).2⟩,fun a ha hia=>h3 a ha (by omega)⟩
structure jA (v:List Int):Prop where
 len:1≤v.length∧v.length≤4
 mem:∀ a∈v,1≤a∧a≤6
 nd:v.Nodup
theorem f_ {v:List Int}:P0 v=true↔jA v:=by
 unfold P0
 simp only [Bool.and_eq_true,decide_eq_true_eq]
 rw [TQ _ _ (by omega)]
 constructor
 ·rintro ⟨h1,h2⟩
  refine ⟨by omega,fun a ha=>?_,?_⟩
  ·obtain ⟨i,hi,rfl⟩:=List.getElem_of_mem ha
   exact (h2 i hi (Nat.zero_le _)).1
  ·rw [List.nodup_iff_pairwise_ne,List.pairwise_iff_getElem]
   intro i j hi hj hij e
   have:=(h2 j hj (Nat.zero_le _)).2
   apply this
   rw [← e]
   exact List.mem_iff_getElem.2 ⟨i,by rw [List.length_take]; omega,by rw [List.getElem_take]⟩
 ·rintro ⟨h1,h2,h3⟩
  refine ⟨by omega,fun a ha _=>⟨h2 _ (List.getElem_mem ha),fun hm=>?_⟩⟩
  obtain ⟨i,hi,e⟩:=List.getElem_of_mem hm
  rw [List.length_take] at hi
  rw [List.getElem_take] at e
  have:=(List.getElem_inj h3).1 e
  omega
theorem T_.wok {views:List (List Int)} (h:T_ views) {i:Nat} (hi:i<views.length):jA (views.getD i []):=by
 rw [Ab hi]
 exact f_.1 ((Gv.1 h.ok).1 _ (List.getElem_mem hi))
structure k_ (x:B3):Prop where
 kind:1≤x.1∧x.1≤8
 frm:1≤x.2.1∧x.2.1≤6
 to:1≤x.2.2.1∧x.2.2.1≤6
 ep:1≤x.2.2.2.1∧x.2.2.2.1≤9
 num:0≤x.2.2.2.2.1∧x.2.2.2.2.1≤1000000000
 items:BN x.2.2.2.2.2=true
 shape:if x.1=2∨x.1=3 then True else if x.1=5 then x.2.2.2.2.2.length=1 else x.2.2.2.2.2=[]
theorem kC {x:B3}:X6 x=true↔k_ x:=by
 unfold X6
 simp only [Bool.and_eq_true,decide_eq_true_eq]
 constructor
 ·rintro ⟨⟨⟨⟨⟨⟨h1,h2⟩,h3⟩,h4⟩,h5⟩,h6⟩,h7⟩
  refine ⟨h1,h2,h3,h4,h5,h6,?_⟩
  split at h7
  ·rename_i e; rw [if_pos e]; trivial
  ·rename_i e
   rw [if_neg e]
   split at h7
   ·rename_i e2; rw [if_pos e2]; simp only [beq_iff_eq] at h7; omega
   ·rename_i e2; rw [if_neg e2]; simp only [beq_iff_eq] at h7; exact List.length_eq_zero_iff.1 (by omega)
 ·rintro ⟨h1,h2,h3,h4,h5,h6,h7⟩
  refine ⟨⟨⟨⟨⟨⟨h1,h2⟩,h3⟩,h4⟩,h5⟩,h6⟩,?_⟩
  split
  ·rfl
  ·rename_i e
   rw [if_neg e] at h7
   split
   ·rename_i e2; rw [if_pos e2] at h7; simp; omega
   ·rename_i e2; rw [if_neg e2] at h7; simp [h7]
theorem PN:BN []=true:=rfl
def UA (m n:AA) (l:List B3):Prop:=∀ y∈l,k_ y∧y.2.1=m.1∧y.2.2.2.1=n.2.1
theorem Vz {m n:AA} {view:List Int} {k num:Int} {its:List Ae} (hm:1≤m.1∧m.1≤6) (he:1≤n.2.1∧n.2.1≤9) (hv:∀ a∈view,1≤a∧a≤6) (hk:1≤k∧k≤8) (hn:0≤num∧num≤1000000000) (hi:BN its=true)
  (hs:if k=2∨k=3 then True else if k=5 then its.length=1 else its=[]):UA m n ((Bn view m.1).map fun v=>(k,m.1,v,n.2.1,num,its)):=by
 intro y hy
 obtain ⟨v,hv2,rfl⟩:=List.mem_map.1 hy
 exact ⟨⟨hk,hm,hv v (List.mem_filter.1 hv2).1,he,hn,hi,hs⟩,rfl,rfl⟩
theorem MH {m n:AA} {x:B3} {k:Int} (hm:1≤m.1∧m.1≤6) (hx:k_ x) (he:x.2.2.2.1=n.2.1) (hk:k=4∨k=6∨k=8):UA m n (Ex m x k):=by
 intro y hy
 simp only [Ex,List.mem_singleton] at hy
 subst hy
 refine ⟨⟨by show 1≤k∧k≤8; omega,hm,hx.frm,hx.ep,hx.num,PN,?_⟩,rfl,he⟩
 show if k=2∨k=3 then True else if k=5 then ([]:List Ae).length=1 else ([]:List Ae)=[]
 rw [if_neg (by omega),if_neg (by omega)]
theorem SY {m n:AA}:UA m n []:=fun y hy=>by cases hy
theorem Sp:Gi ((0:Int),(0:Int),(0:Int),(ByteArray.empty,ByteArray.empty,(0:Int)),([]:List Int))=true:=by simp [Gi,RR]
theorem Hq.has {m:AA} {view:List Int} {its:List Ae} (h:Hq m) (hl:m.2.2.2.2.1=true) (hb:m.2.2.2.1=false) (hi:BN its=true):Hq (Kg m view its):=by
 have hns:m.2.2.2.2.2.1=false:=by
  cases hs:m.2.2.2.2.2.1 with
  | false=>rfl
  | true=>have:=(h.serves hs).1; rw [hb] at this; cases this
 refine ⟨h.id,h.ep,fun hs=>⟨rfl,hl,?_⟩,fun hf=>?_,P1 _ _,h.left,hi,h.count,?_⟩
 ·simp only [Kg,beq_iff_eq] at hs ⊢
  exact List.length_eq_zero_iff.1 (by omega)
 ·have:=(h.fell hf).2; rw [hl] at this; cases this
 ·rcases h.task with h1 | h1
  ·exact .inl h1
  ·unfold Dm at h1
   rw [hns] at h1
   simp at h1
theorem Hq.bare {m:AA} (h:Hq m) {e:Int} (he:1≤e∧e≤9):Hq (SX m e) :=
 ⟨h.id,he,fun hs=>(by cases hs),fun hf=>(by cases hf),⟨by simp [SX],by simp [SX]⟩,⟨by simp [SX],by simp [SX]⟩,h.items,⟨by simp [SX],by simp [SX]⟩,.inl Sp⟩
theorem Hq.install {m:AA} (h:Hq m) {e:Int} {its:List Ae} (he:1≤e∧e≤9) (hi:BN its=true) :
  Hq (m.1,e,false,true,false,false,([]:List Int),its,(0:Int),(0:Int),(0:Int),(0:Int),(ByteArray.empty,ByteArray.empty,(0:Int)),([]:List Int)) :=
 ⟨h.id,he,fun hs=>(by cases hs),fun hf=>(by cases hf),⟨by simp,by simp⟩,⟨by simp,by simp⟩,hi,⟨by simp,by simp⟩,.inl Sp⟩
theorem Hq.clear {m:AA} (h:Hq m) {its:List Ae} (hi:BN its=true):Hq (PL m its) :=
 ⟨h.id,h.ep,h.serves,h.fell,h.waits,⟨by simp [PL],by simp [PL]⟩,hi,h.count,.inl Sp⟩
theorem Hq.finish {m:AA} (h:Hq m):Hq (Ea m).2:=by
 unfold Ea
 split
 ·exact h.clear (T7 h.items)
 ·exact h.clear h.items
theorem kD {m:AA} (h:Hq m) (h0:m.2.2.2.2.2.2.2.2.2.1≠0):Dm m.2.2.2.2.2.2.2.2.2 m.2.2.2.2.2.1=true:=by
 rcases h.task with h1 | h1
 ·unfold Gi at h1
  simp only [Bool.and_eq_true,beq_iff_eq] at h1
  exact absurd h1.1.1.1.1 h0
 ·exact h1
def bF (l:List Dn):Prop:=l.length≤1∧∀ s∈l,0≤s.1∧s.1≤1000
theorem EP:bF []:=⟨by simp,fun s hs=>by cases hs⟩
theorem X7 {m:AA} (h:Hq m) (h0:m.2.2.2.2.2.2.2.2.2.1≠0):bF (Ea m).1:=by
 have h1:=kD h h0
 unfold Dm at h1
 simp only [Bool.and_eq_true,decide_eq_true_eq] at h1
 unfold Ea
 split
 ·exact ⟨by simp,fun s hs=>by simp at hs; subst hs; exact h1.1.2⟩
 ·exact ⟨by simp,fun s hs=>by simp at hs; subst hs; exact h1.1.2⟩
structure dd (m:AA) (r:AA×List B3×List Dn):Prop where
 mok:Hq r.1
 id:r.1.1=m.1
 ep:m.2.1≤r.1.2.1
 told:UA m r.1 r.2.1
 tlen:r.2.1.length≤4
 said:bF r.2.2
theorem FN {m:AA} (h:Hq m):dd m (m,[],[]):=⟨h,rfl,Int.le_refl _,SY,by simp,EP⟩
theorem EU (view:List Int) (id:Int):(Bn view id).length≤view.length:=List.length_filter_le _ _
theorem Hq.left_filter {m:AA} (h:Hq m) (f:Int):Hq (f9 m f):=by
 refine ⟨h.id,h.ep,h.serves,h.fell,h.waits,bE h.left _,h.items,h.count,?_⟩
 rcases h.task with h1 | h1
 ·left
  unfold Gi at h1 ⊢
  simp only [Bool.and_eq_true,beq_iff_eq] at h1 ⊢
  refine ⟨h1.1,?_⟩
  have h2:=List.length_filter_le (· != f) m.2.2.2.2.2.2.2.2.2.2.2.2.2
  have h3:=h1.2
  show (((m.2.2.2.2.2.2.2.2.2.2.2.2.2.filter (· != f)).length:Nat):Int)=0
  omega
 ·exact .inr h1
theorem kF {m:AA} {view:List Int} {x:B3} (hm:Hq m) (hv:jA view) (hx:k_ x) (he:x.2.2.2.1=m.2.1):dd m (i_ m view x):=by
 unfold i_
 split
 ·split
  ·rename_i h1 h2
   simp only [Bool.and_eq_true,Bool.not_eq_true'] at h2
   refine ⟨hm.has h2.1 h2.2 hx.items,rfl,Int.le_refl _,?_,by simp only [List.length_map]; have:=EU view m.1; have:=hv.len; omega,EP⟩
   exact Vz (n:=Kg m view x.2.2.2.2.2) hm.id hm.ep hv.mem (by omega) (by omega) hx.items (by simp)
  ·exact FN hm
 ·split
  ·split
   ·exact FN hm
   ·split
    ·exact FN hm
    ·split
     ·exact ⟨hm,rfl,Int.le_refl _,MH hm.id hx he (by omega),by simp [Ex],EP⟩
     ·exact ⟨hm.install hm.ep hx.items,rfl,Int.le_refl _,MH hm.id hx he (by omega),by simp [Ex],EP⟩
  ·split
   ·split
    ·rename_i hl
     refine ⟨⟨hm.id,hm.ep,fun hs=>?_,hm.fell,bE hm.waits _,hm.left,hm.items,hm.count,?_⟩,rfl,Int.le_refl _,SY,by simp,EP⟩
     ·simp only [Bool.and_eq_true,beq_iff_eq] at hs
      exact ⟨hs.1,hl,List.length_eq_zero_iff.1 (show (List.filter (· != x.2.1) m.2.2.2.2.2.2.1).length=0 by have h:((List.filter (· != x.2.1) m.2.2.2.2.2.2.1).length:Int)=0:=hs.2; omega)⟩
     ·rcases hm.task with h1 | h1
      ·exact .inl h1
      ·right
       have hs:m.2.2.2.2.2.1=true:=by
        unfold Dm at h1
        simp only [Bool.and_eq_true] at h1
        exact h1.1.1.2
       obtain ⟨a,b,c⟩:=hm.serves hs
       rw [hs] at h1
       simp only [c,List.filter_nil,List.length_nil,a,Bool.true_and]
       exact h1
    ·exact FN hm
   ·split
    ·split
     ·exact ⟨⟨hm.id,hm.ep,hm.serves,hm.fell,hm.waits,hm.left,T7 hm.items,hm.count,hm.task⟩,rfl,Int.le_refl _,MH hm.id hx he (by omega),by simp [Ex],EP⟩
     ·exact FN hm
    ·split
     ·split
      ·exact ⟨hm,rfl,Int.le_refl _,MH hm.id hx he (by omega),by simp [Ex],EP⟩
      ·exact FN hm
     ·by_cases hc:(x.1=6∨x.1=8)∧m.2.2.2.2.2.2.2.2.2.1=(if x.1=8 then 2 else 1)∧m.2.2.2.2.2.2.2.2.2.2.2.1=x.2.2.2.2.1
      ·rw [if_pos hc]
       have hn:=hm.left_filter x.2.1
       unfold So
       split
       ·refine ⟨hn.finish,?_,?_,SY,by simp,X7 hn ?_⟩
        ·unfold Ea; split<;>rfl
        ·unfold Ea; split<;>exact Int.le_refl _
        ·have:=hc.2.1
         show m.2.2.2.2.2.2.2.2.2.1≠0
         rw [this]
         split<;>omega
       ·exact ⟨hn,rfl,Int.le_refl _,SY,by simp,EP⟩
      ·rw [if_neg hc]
       exact FN hm
theorem jB {m:AA} {views:List (List Int)} {x:B3} (hm:Hq m) (hv:T_ views):dd m (TP m views x):=by
 unfold TP
 split
 ·rename_i hc
  simp only [Bool.and_eq_true,decide_eq_true_eq,beq_iff_eq] at hc
  obtain ⟨⟨⟨h1,h2⟩,h3⟩,h4⟩:=hc
  have hx:=kC.1 h1
  have hvl:=hv.len
  have he:=hm.ep
  split
  ·rename_i e
   exact kF hm (hv.wok (by omega)) hx e
  ·split
   ·refine ⟨hm.bare hx.ep,rfl,h3,fun y hy=>?_,by simp,EP⟩
    simp only [List.mem_singleton] at hy
    subst hy
    exact ⟨⟨by simp,hm.id,hx.frm,hx.ep,by simp,hm.items,by simp⟩,rfl,rfl⟩
   ·split
    ·exact ⟨hm.install hx.ep hx.items,rfl,h3,MH hm.id hx rfl (by omega),by simp [Ex],EP⟩
    ·exact FN hm
 ·exact FN hm
end Go.Proofs.Ytaedipailemlcaa.Core

namespace Go.Proofs.Ytaedipailemlcaa.Core
open Go
set_option linter.unusedVariables false
set_option linter.unusedSimpArgs false
def Hj:AA:=((0:Int),(0:Int),false,false,false,false,([]:List Int),([]:List Ae),(0:Int),(0:Int),(0:Int),(0:Int),(ByteArray.empty,ByteArray.empty,(0:Int)),([]:List Int))
def S5 (m:AA) (views:List (List Int)) (op call:Int) (key val:ByteArray):Bool :=
 m.2.2.2.2.2.1&&(m.2.2.2.2.2.2.2.2.2.1==0)&&decide (m.2.2.2.2.2.2.2.2.1<900)&&(op==1||op==2)&&(decide (0≤call)&&decide (call≤1000))&&(decide (1≤(key.size:Int))&&decide ((key.size:Int)≤12))&&decide ((val.size:Int)≤20)&&(op==1||g9 val)&&decide (m.2.1≤(views.length:Int))&&((views.getD (m.2.1-1).toNat []).getD 0 0==m.1)
def MI (m:AA) (key val:ByteArray):Ae:=(key,val,1000*m.2.1+(m.2.2.2.2.2.2.2.2.1+1))
def I0 (m:AA) (view:List Int) (op call:Int) (key val:ByteArray):AA :=
 (m.1,m.2.1,m.2.2.1,m.2.2.2.1,m.2.2.2.2.1,m.2.2.2.2.2.1,m.2.2.2.2.2.2.1,m.2.2.2.2.2.2.2.1,m.2.2.2.2.2.2.2.2.1+1,op,call,m.2.2.2.2.2.2.2.2.1+1,MI m key val,Do view m.1)
def fS (m:AA) (view:List Int) (op:Int) (key val:ByteArray):List B3 :=
 (Bn view m.1).map fun v=>(if op=1 then 5 else 7,m.1,v,m.2.1,m.2.2.2.2.2.2.2.2.1+1,if op=1 then [MI m key val] else [])
def Xg (m:AA) (view:List Int) (op call:Int) (key val:ByteArray):AA×List B3×List Dn×Bool :=
 if Do view m.1=[] then ((Ea (I0 m view op call key val)).2,[],(Ea (I0 m view op call key val)).1,true) else (I0 m view op call key val,fS m view op key val,[],true)
def Ff (m:AA) (views:List (List Int)) (op call:Int) (key val:ByteArray):AA×List B3×List Dn×Bool :=
 if S5 m views op call key val=true then
  (if op=1∧RR (.pair .str (.pair .str (.int .i64))) (Pz (EZ m.2.2.2.2.2.2.2.1 (MI m key val)) key) (MI m key val)=false then (Hj,[],[],false) else Xg m (views.getD (m.2.1-1).toNat []) op call key val)
 else (Hj,[],[],false)
theorem ZB (m:AA) (views:List (List Int)) (op call:Int) (key val:ByteArray) (hm:Hq m) (hv:T_ views):Pr m views op call key val=some (Ff m views op call key val):=dY (by
 have hvl:=hv.len
 have hep:=hm.ep
 have hl:=hm.lens
 have hcnt:=hm.count
 have wm:IntKind.i64.wrap (m.2.1-1)=m.2.1-1:=AW (by omega)
 have wc:IntKind.i64.wrap (m.2.2.2.2.2.2.2.2.1+1)=m.2.2.2.2.2.2.2.2.1+1:=AW (by omega)
 have w1:IntKind.i64.wrap (1000*m.2.1)=1000*m.2.1:=AW (by omega)
 have w2:IntKind.i64.wrap (1000*m.2.1+(m.2.2.2.2.2.2.2.2.1+1))=1000*m.2.1+(m.2.2.2.2.2.2.2.2.1+1):=AW (by omega)
 unfold Vf
 rw [HW hm,Option.bind_some,if_neg (by simp),EO hv,Option.bind_some,if_neg (by simp)]
 have bad:S5 m views op call key val=false→Ff m views op call key val=(Hj,[],[],false):=fun h=>by unfold Ff; rw [h]; rfl
 by_cases c1:m.2.2.2.2.2.1=true
 case neg =>
  rw [if_pos (by simpa using c1),bad (by unfold S5; simp [c1])]
  rfl
 rw [if_neg (by simpa using c1)]
 by_cases c2:m.2.2.2.2.2.2.2.2.2.1=0
 case neg =>
  rw [if_pos (by simpa using c2),bad (by unfold S5; simp [c2])]
  rfl
 rw [if_neg (by simpa using c2)]
 by_cases c3:m.2.2.2.2.2.2.2.2.1<900
 case neg =>
  rw [if_pos (by simp; omega),bad (by unfold S5; simp [c3])]
  rfl
 rw [if_neg (by simp; omega)]
 have view:∀ (hep2:m.2.1≤(views.length:Int)),1≤(views.getD (m.2.1-1).toNat []).length∧(views.getD (m.2.1-1).toNat []).length≤4:=fun h=>hv.get (by omega)
 have L2:∀ (v:List Int) (hv:v.length≤4) (y:AA) (its:List Ae),op=1→C4 op [] v 0 m y [] (I0 m v op call key val) (MI m key val) its=some (I0 m v op call key val,fS m v op key val,[],true):=by
  intro v hv y its ho
  have key':=Gh (n:=v.length) (P:=fun i=>∀ acc:List B3,acc.length≤i→C4 op [] v (i:Int) m y acc (I0 m v op call key val) (MI m key val) its=some (I0 m v op call key val,acc++((v.drop i).filter (· != m.1)).map (fun v=>((5:Int),m.1,v,m.2.1,m.2.2.2.2.2.2.2.2.1+1,[MI m key val])),[],true)) (fun acc ha=>Q5 (by
   unfold Kb
   rw [if_neg (by simp)]
   simp)) (fun i hi ih acc ha=>Q5 (by
   unfold Kb
   simp only [show ((i:Int)<(v.length:Int)) from by omega,decide_true,if_true,show (0:Int)≤(i:Int) from by omega,Int.toNat_natCast,Ab hi,AS (show i<9223372036854775807 by omega),ho,beq_self_eq_true]
   rw [ho] at ih
   rw [Bq hi,List.filter_cons]
   by_cases hh:v[i]=m.1
   ·rw [if_pos (by simpa using hh),ih _ (by omega),if_neg (by simpa using hh)]
   ·rw [if_neg (by simpa using hh),if_pos (by simp; omega),ih _ (by simp; omega),if_pos (by simpa using hh),List.map_cons,List.append_assoc]
    rfl)) 0 (by omega) [] (by simp)
  unfold fS
  rw [if_pos ho,if_pos ho]
  exact key'
 have L4:∀ (v:List Int) (hv:v.length≤4) (y:AA),op≠1→C5 op [] v 0 m y [] (I0 m v op call key val) (MI m key val)=some (I0 m v op call key val,fS m v op key val,[],true):=by
  intro v hv y ho
  have key':=Gh (n:=v.length) (P:=fun i=>∀ acc:List B3,acc.length≤i→C5 op [] v (i:Int) m y acc (I0 m v op call key val) (MI m key val)=some (I0 m v op call key val,acc++((v.drop i).filter (· != m.1)).map (fun v=>((7:Int),m.1,v,m.2.1,m.2.2.2.2.2.2.2.2.1+1,([]:List Ae))),[],true)) (fun acc ha=>Q6 (by
   unfold Kc
   rw [if_neg (by simp)]
   simp)) (fun i hi ih acc ha=>Q6 (by
   unfold Kc
   have ho':¬ ((op==1)=true):=by simpa using ho
   simp only [show ((i:Int)<(v.length:Int)) from by omega,decide_true,if_true,show (0:Int)≤(i:Int) from by omega,Int.toNat_natCast,Ab hi,AS (show i<9223372036854775807 by omega),if_neg ho']
   rw [Bq hi,List.filter_cons]
   by_cases hh:v[i]=m.1
   ·rw [if_pos (by simpa using hh),ih _ (by omega),if_neg (by simpa using hh)]
   ·rw [if_neg (by simpa using hh),if_pos (by simp; omega),ih _ (by simp; omega),if_pos (by simpa using hh),List.map_cons,List.append_assoc]
    rfl)) 0 (by omega) [] (by simp)
  unfold fS
  rw [if_neg ho,if_neg ho]
  exact key'
 have nil_iff:∀ l:List Int,((l.length:Int)==0)=true↔l=[]:=fun l=>by
  rw [beq_iff_eq]
  exact ⟨fun h=>List.length_eq_zero_iff.1 (by omega),fun h=>by rw [h]; rfl⟩
 have J1:∀ (b:Bool) (y:AA) (its:List Ae),op=1→m.2.1≤(views.length:Int)→KZ views op call [] b m y [] (m.1,m.2.1,m.2.2.1,m.2.2.2.1,m.2.2.2.2.1,m.2.2.2.2.2.1,m.2.2.2.2.2.2.1,m.2.2.2.2.2.2.2.1,m.2.2.2.2.2.2.2.2.1+1,m.2.2.2.2.2.2.2.2.2) (MI m key val) its=some (Xg m (views.getD (m.2.1-1).toNat []) op call key val):=fun b y its ho he=>Ys (by
  have:=view he
  unfold Q2 Xg
  rw [wm,if_pos (by omega),if_pos (by omega),Gj _ _ (by unfold maxLen; omega),Option.bind_some]
  by_cases hz:Do (views.getD (m.2.1-1).toNat []) m.1=[]
  ·rw [if_pos ((nil_iff _).2 hz),if_pos hz]
   have:=Gk (I0 m (views.getD (m.2.1-1).toNat []) op call key val) (by show m.2.2.2.2.2.2.2.1.length≤_; omega)
   unfold I0 at this
   simp only
   rw [this]
   rfl
  ·rw [if_neg (fun h=>hz ((nil_iff _).1 h)),if_neg hz]
   exact L2 _ (by omega) y its ho)
 have J3:∀ (b:Bool) (y:AA),op≠1→m.2.1≤(views.length:Int)→Ka views op call [] b m y [] (m.1,m.2.1,m.2.2.1,m.2.2.2.1,m.2.2.2.2.1,m.2.2.2.2.2.1,m.2.2.2.2.2.2.1,m.2.2.2.2.2.2.2.1,m.2.2.2.2.2.2.2.2.1+1,m.2.2.2.2.2.2.2.2.2) (MI m key val)=some (Xg m (views.getD (m.2.1-1).toNat []) op call key val):=fun b y ho he=>Yt (by
  have:=view he
  unfold Q3 Xg
  rw [wm,if_pos (by omega),if_pos (by omega),Gj _ _ (by unfold maxLen; omega),Option.bind_some]
  by_cases hz:Do (views.getD (m.2.1-1).toNat []) m.1=[]
  ·rw [if_pos ((nil_iff _).2 hz),if_pos hz]
   have:=Gk (I0 m (views.getD (m.2.1-1).toNat []) op call key val) (by show m.2.2.2.2.2.2.2.1.length≤_; omega)
   unfold I0 at this
   simp only
   rw [this]
   rfl
  ·rw [if_neg (fun h=>hz ((nil_iff _).1 h)),if_neg hz]
   exact L4 _ (by omega) y ho)
 have J0:∀ (b:Bool) (y:AA),S5 m views op call key val=true→m.2.1≤(views.length:Int)→B1 views op call key val [] b m y []=some (Ff m views op call key val):=fun b y hmay he=>Yu (by
  unfold Q4 Ff
  rw [if_pos hmay,hm.copy,Option.bind_some,wc,w1,w2]
  by_cases ho:op=1
  ·rw [if_pos (by simpa using ho),F5 _ _ (by omega),Option.bind_some,PF _ _ (by have:=X5 m.2.2.2.2.2.2.2.1 (key,val,1000*m.2.1+(m.2.2.2.2.2.2.2.2.1+1)); unfold maxLen; omega),Option.bind_some]
   cases hq:RR (.pair .str (.pair .str (.int .i64))) (Pz (EZ m.2.2.2.2.2.2.2.1 (MI m key val)) key) (MI m key val) with
   | false =>
    have hq':RR AB (Pz (EZ m.2.2.2.2.2.2.2.1 (key,val,1000*m.2.1+(m.2.2.2.2.2.2.2.2.1+1))) key) (key,val,1000*m.2.1+(m.2.2.2.2.2.2.2.2.1+1))=false:=hq
    rw [hq',if_pos (show (true != false)=true from rfl),if_pos (show op=1∧false=false from ⟨ho,rfl⟩)]
    rfl
   | true =>
    have hq':RR AB (Pz (EZ m.2.2.2.2.2.2.2.1 (key,val,1000*m.2.1+(m.2.2.2.2.2.2.2.2.1+1))) key) (key,val,1000*m.2.1+(m.2.2.2.2.2.2.2.2.1+1))=true:=hq
    rw [hq',if_neg (show ¬ (true != true)=true by simp),if_neg (show ¬ (op=1∧true=false) by rintro ⟨_,h⟩; cases h)]
    exact J1 _ y _ ho he
  ·rw [if_neg (by simpa using ho),if_neg (fun h=>ho h.1)]
   exact J3 _ y ho he)
 have tail:op=1∨op=2→((AM call 0 1000).bind fun y3=>(if (!y3)=true then (some (Hj,([]:List B3),([]:List Dn),false)) else ((AM (key.size:Int) 1 12).bind fun y4=>(if (!y4)=true then (some (Hj,([]:List B3),([]:List Dn),false)) else (if (decide ((val.size:Int)>20))=true then (some (Hj,([]:List B3),([]:List Dn),false)) else (if (op==2)=true then (if (!(val.toList==(⟨#[]⟩:ByteArray).toList))=true then (some (Hj,([]:List B3),([]:List Dn),false)) else (if (decide (m.2.1>(views.length:Int)))=true then (some (Hj,([]:List B3),([]:List Dn),false)) else (if 0≤(IntKind.i64.wrap (m.2.1-1)) then (if (IntKind.i64.wrap (m.2.1-1))<(views.length:Int) then (if 0≤(0:Int) then (if (0:Int)<((views.getD (IntKind.i64.wrap (m.2.1-1)).toNat ([]:List Int)).length:Int) then (if (((views.getD (IntKind.i64.wrap (m.2.1-1)).toNat ([]:List Int)).getD (0:Int).toNat 0) != m.1)=true then (some (Hj,([]:List B3),([]:List Dn),false)) else (B1 views op call key val ([]:List Dn) (((views.getD (IntKind.i64.wrap (m.2.1-1)).toNat ([]:List Int)).getD (0:Int).toNat 0) != m.1) m Hj ([]:List B3))) else none) else none) else none) else none))) else (if (decide (m.2.1>(views.length:Int)))=true then (some (Hj,([]:List B3),([]:List Dn),false)) else (if 0≤(IntKind.i64.wrap (m.2.1-1)) then (if (IntKind.i64.wrap (m.2.1-1))<(views.length:Int) then (if 0≤(0:Int) then (if (0:Int)<((views.getD (IntKind.i64.wrap (m.2.1-1)).toNat ([]:List Int)).length:Int) then (if (((views.getD (IntKind.i64.wrap (m.2.1-1)).toNat ([]:List Int)).getD (0:Int).toNat 0) != m.1)=true then (some (Hj,([]:List B3),([]:List Dn),false)) else (B1 views op call key val ([]:List Dn) (((views.getD (IntKind.i64.wrap (m.2.1-1)).toNat ([]:List Int)).getD (0:Int).toNat 0) != m.1) m Hj ([]:List B3))) else none) else none) else none) else none))))))))=some (Ff m views op call key val):=by
  intro hop
  rw [Ac,Option.bind_some,Ac,Option.bind_some,wm]
  cases c5:(decide (0≤call)&&decide (call≤1000)) with
  | false=>rw [bad (by unfold S5; rw [c5]; simp)]; rfl
  | true =>
  rw [if_neg (by simp)]
  cases c6:(decide (1≤(key.size:Int))&&decide ((key.size:Int)≤12)) with
  | false=>rw [bad (by unfold S5; rw [c6]; simp)]; rfl
  | true =>
  rw [if_neg (by simp)]
  by_cases c7:(val.size:Int)≤20
  case neg=>rw [if_pos (by simp; omega),bad (by unfold S5; simp [c7])]
  rw [if_neg (by simp; omega)]
  have last:(op==1||g9 val)=true→(if (decide (m.2.1>(views.length:Int)))=true then (some (Hj,([]:List B3),([]:List Dn),false)) else (if 0≤m.2.1-1 then (if m.2.1-1<(views.length:Int) then (if 0≤(0:Int) then (if (0:Int)<((views.getD (m.2.1-1).toNat ([]:List Int)).length:Int) then (if (((views.getD (m.2.1-1).toNat ([]:List Int)).getD (0:Int).toNat 0) != m.1)=true then (some (Hj,([]:List B3),([]:List Dn),false)) else (B1 views op call key val ([]:List Dn) (((views.getD (m.2.1-1).toNat ([]:List Int)).getD (0:Int).toNat 0) != m.1) m Hj ([]:List B3))) else none) else none) else none) else none))=some (Ff m views op call key val):=by
   intro c8
   by_cases c9:m.2.1≤(views.length:Int)
   case neg=>rw [if_pos (by simp; omega),bad (by unfold S5; simp [c9])]
   have:=view c9
   rw [if_neg (by simp; omega),if_pos (by omega),if_pos (by omega),if_pos (by omega),if_pos (by omega),show (views.getD (m.2.1-1).toNat ([]:List Int)).getD (0:Int).toNat 0=(views.getD (m.2.1-1).toNat []).getD 0 0 from rfl]
   by_cases c10:(views.getD (m.2.1-1).toNat []).getD 0 0=m.1
   case neg=>rw [if_pos (by simpa using c10),bad (by unfold S5; rw [show ((views.getD (m.2.1-1).toNat []).getD 0 0==m.1)=false from by simpa using c10,Bool.and_false])]
   rw [if_neg (by simpa using c10)]
   refine J0 _ _ ?_ c9
   unfold S5
   rw [c1,c5,c6,c8]
   simp only [c2,beq_self_eq_true,c3,c7,c9,c10,decide_true,Bool.and_true,Bool.true_and]
   rcases hop with h | h<;>simp [h]
  by_cases c8:op=2
  ·rw [if_pos (by simpa using c8)]
   cases ce:g9 val with
   | false =>
    rw [if_pos (by rw [fP,ce]; rfl),bad (by unfold S5; rw [ce,show (op==1)=false from by simp [c8]]; simp)]
   | true =>
    rw [if_neg (by rw [fP,ce]; simp)]
    exact last (by rw [ce,Bool.or_true])
  ·rw [if_neg (by simpa using c8)]
   exact last (by rw [show (op==1)=true from by simp; omega]; rfl)
 by_cases c4:op=1
 ·rw [if_neg (by simpa using c4)]
  exact tail (.inl c4)
 ·rw [if_pos (by simpa using c4)]
  by_cases c4':op=2
  ·rw [if_neg (by simpa using c4')]
   exact tail (.inr c4')
  ·rw [if_pos (by simpa using c4'),bad (by unfold S5; rw [show (op==1||op==2)=false from by simp [c4,c4']]; simp)]
   rfl)
structure gA (m:AA) (r:AA×List B3×List Dn×Bool):Prop where
 mok:r.2.2.2=true→Hq r.1
 id:r.2.2.2=true→r.1.1=m.1
 ep:r.2.2.2=true→r.1.2.1=m.2.1
 told:r.2.2.2=true→UA m r.1 r.2.1
 tlen:r.2.1.length≤4
 said:bF r.2.2.1
theorem cX {m:AA}:gA m (Hj,[],[],false):=⟨fun h=>(by cases h),fun h=>(by cases h),fun h=>(by cases h),fun h=>(by cases h),by simp,EP⟩
theorem hJ {m:AA} {views:List (List Int)} {op call:Int} {key val:ByteArray} (h:S5 m views op call key val=true) :
  m.2.2.2.2.2.1=true∧m.2.2.2.2.2.2.2.2.2.1=0∧m.2.2.2.2.2.2.2.2.1<900∧(op=1∨op=2)∧(0≤call∧call≤1000)∧(1≤(key.size:Int)∧(key.size:Int)≤12)∧(val.size:Int)≤20∧(op=1∨g9 val=true)∧m.2.1≤(views.length:Int)∧(views.getD (m.2.1-1).toNat []).getD 0 0=m.1:=by
 unfold S5 at h
 simp only [Bool.and_eq_true,Bool.or_eq_true,decide_eq_true_eq,beq_iff_eq] at h
 obtain ⟨⟨⟨⟨⟨⟨⟨⟨⟨h1,h2⟩,h3⟩,h4⟩,h5⟩,h6⟩,h7⟩,h8⟩,h9⟩,h10⟩:=h
 exact ⟨h1,h2,h3,h4,h5,h6,h7,h8,h9,h10⟩
theorem jC {m:AA} {key val:ByteArray} (h:Hq m) (h3:m.2.2.2.2.2.2.2.2.1<900) (h6:1≤(key.size:Int)∧(key.size:Int)≤12) (h7:(val.size:Int)≤20):BN [MI m key val]=true:=by
 refine X4.2 ⟨fun b hb=>?_,?_,by simp⟩
 ·simp only [List.mem_singleton] at hb
  subst hb
  unfold Nm MI
  have:=h.ep
  have:=h.count
  simp only [Bool.and_eq_true,decide_eq_true_eq]
  omega
 ·exact g_.2 (by simp)
theorem Hq.task1 {m:AA} {view:List Int} {op call:Int} {key val:ByteArray} (h:Hq m) (h1:m.2.2.2.2.2.1=true) (h3:m.2.2.2.2.2.2.2.2.1<900) (h4:op=1∨op=2) (h5:0≤call∧call≤1000):Hq (I0 m view op call key val):=by
 have hc:=h.count
 refine ⟨h.id,h.ep,h.serves,h.fell,h.waits,P1 _ _,h.items,?_,.inr ?_⟩
 ·show 0≤m.2.2.2.2.2.2.2.2.1+1∧m.2.2.2.2.2.2.2.2.1+1≤900
  omega
 ·unfold Dm I0
  rw [h1]
  simp only [Bool.and_eq_true,Bool.or_eq_true,decide_eq_true_eq,beq_iff_eq]
  exact ⟨⟨⟨h4,trivial⟩,h5⟩,by omega⟩
theorem hO {m:AA} {views:List (List Int)} {op call:Int} {key val:ByteArray} (hm:Hq m) (hv:T_ views):gA m (Ff m views op call key val):=by
 unfold Ff
 split
 ·rename_i hmay
  obtain ⟨h1,h2,h3,h4,h5,h6,h7,h8,h9,h10⟩:=hJ hmay
  split
  ·exact cX
  ·unfold Xg
   have hep:=hm.ep
   have ht:=hm.task1 (view:=views.getD (m.2.1-1).toNat []) (key:=key) (val:=val) h1 h3 h4 h5
   have h0:(I0 m (views.getD (m.2.1-1).toNat []) op call key val).2.2.2.2.2.2.2.2.2.1≠0:=by show op≠0; omega
   have hw:=hv.wok (i:=(m.2.1-1).toNat) (by omega)
   split
   ·exact ⟨fun _=>ht.finish,fun _=>(by unfold Ea; split<;>rfl),fun _=>(by unfold Ea; split<;>rfl),fun _=>SY,by simp,X7 ht h0⟩
   ·refine ⟨fun _=>ht,fun _=>rfl,fun _=>rfl,fun _=>?_,?_,EP⟩
    ·unfold fS
     have hc:=hm.count
     have hi:=jC hm h3 h6 h7
     refine Vz (n:=I0 m (views.getD (m.2.1-1).toNat []) op call key val) hm.id hm.ep hw.mem (by split<;>omega) (by omega) ?_ ?_
     ·split
      ·exact hi
      ·exact PN
     ·by_cases ho:op=1
      ·rw [if_pos ho,if_pos ho,if_neg (by omega),if_pos rfl]; rfl
      ·rw [if_neg ho,if_neg ho,if_neg (by omega),if_neg (by omega)]
    ·unfold fS
     simp only [List.length_map]
     have:=EU (views.getD (m.2.1-1).toNat []) m.1
     have:=hw.len
     omega
 ·exact cX
def Ey (m:AA) (e:Int):AA:=(m.1,e,false,false,true,false,([]:List Int),m.2.2.2.2.2.2.2.1,(0:Int),(0:Int),(0:Int),(0:Int),(ByteArray.empty,ByteArray.empty,(0:Int)),([]:List Int))
def Jk (m:AA) (views:List (List Int)) (e:Int):AA×List B3×Bool :=
 if 2≤e∧e≤(views.length:Int)∧m.2.1<e∧(views.getD (e-1).toNat []).getD 0 0=m.1 then
  if (m.2.2.2.1&&(m.2.1==e-1)&&(views.getD (e-2).toNat []).contains m.1)=true then
   (Kg (Ey m e) (views.getD (e-1).toNat []) m.2.2.2.2.2.2.2.1,(Bn (views.getD (e-1).toNat []) m.1).map (fun v=>(3,m.1,v,e,0,m.2.2.2.2.2.2.2.1)),true)
  else (Ey m e,(Bn (views.getD (e-2).toNat []) m.1).map (fun v=>(1,m.1,v,e,0,[])),true)
 else (Hj,[],false)
theorem Hq.new1 {m:AA} (h:Hq m) {e:Int} (he:1≤e∧e≤9):Hq (Ey m e) :=
 ⟨h.id,he,fun hs=>(by cases hs),fun hf=>(by cases hf),⟨by simp [Ey],by simp [Ey]⟩,⟨by simp [Ey],by simp [Ey]⟩,h.items,⟨by simp [Ey],by simp [Ey]⟩,.inl Sp⟩
theorem ZD (m:AA) (views:List (List Int)) (e:Int) (hm:Hq m) (hv:T_ views):Ps m views e=some (Jk m views e):=dZ (by
 have hvl:=hv.len
 have hep:=hm.ep
 have hl:=hm.lens
 unfold Vg Jk
 rw [HW hm,Option.bind_some,if_neg (by simp),EO hv,Option.bind_some,if_neg (by simp),Ac,Option.bind_some]
 by_cases h1:2≤e∧e≤(views.length:Int)
 case neg =>
  rw [if_pos (by rw [← Bool.decide_and,decide_eq_false h1]; rfl),if_neg (fun h=>h1 ⟨h.1,h.2.1⟩)]
  rfl
 have we:IntKind.i64.wrap (e-1)=e-1:=AW (by omega)
 have we2:IntKind.i64.wrap (e-2)=e-2:=AW (by omega)
 rw [if_neg (by rw [← Bool.decide_and,decide_eq_true h1]; simp),we]
 by_cases h2:m.2.1<e
 case neg =>
  rw [if_pos (by simp; omega),if_neg (fun h=>h2 h.2.2.1)]
  rfl
 have g1:=hv.get (i:=(e-1).toNat) (by omega)
 have g2:=hv.get (i:=(e-2).toNat) (by omega)
 rw [if_neg (by simp; omega),if_pos (by omega),if_pos (by omega),if_pos (by omega),if_pos (by omega),show (views.getD (e-1).toNat ([]:List Int)).getD (0:Int).toNat 0=(views.getD (e-1).toNat []).getD 0 0 from rfl]
 by_cases h3:(views.getD (e-1).toNat []).getD 0 0=m.1
 case neg =>
  rw [if_pos (by simpa using h3),if_neg (fun h=>h3 h.2.2.2)]
  rfl
 rw [if_neg (by simpa using h3),if_pos ⟨h1.1,h1.2,h2,h3⟩]
 have L2:∀ y,D2 views e 0 m y [] ([]++m.2.2.2.2.2.2.2.1) (Ey m e)=some (Ey m e,(Bn (views.getD (e-2).toNat []) m.1).map (fun v=>(1,m.1,v,e,0,[])),true):=by
  intro y
  have hcopy:=(hm.new1 (e:=e) (by omega)).copy
  have key':=Gh (n:=(views.getD (e-2).toNat []).length) (P:=fun i=>∀ acc:List B3,acc.length≤i→D2 views e (i:Int) m y acc ([]++m.2.2.2.2.2.2.2.1) (Ey m e)=some (Ey m e,acc++(((views.getD (e-2).toNat []).drop i).filter (· != m.1)).map (fun v=>((1:Int),m.1,v,e,(0:Int),([]:List Ae))),true)) (fun acc ha=>Q_ (by
   unfold Ke
   rw [we2,if_pos (by omega),if_pos (by omega),if_neg (by simp),hcopy]
   simp)) (fun i hi ih acc ha=>Q_ (by
   unfold Ke
   rw [we2,if_pos (by omega),if_pos (by omega)]
   simp only [show ((i:Int)<((views.getD (e-2).toNat ([]:List Int)).length:Int)) from by omega,decide_true,if_true,show (0:Int)≤(i:Int) from by omega,Int.toNat_natCast,AS (show i<9223372036854775807 by omega),show (0:Int)≤e-2 from by omega,show e-2<(views.length:Int) from by omega]
   rw [Ab hi,Bq hi,List.filter_cons]
   by_cases hh:((views.getD (e-2).toNat ([]:List Int))[i] != m.1)=true
   ·rw [if_pos hh,if_pos (by simp; omega),ih _ (by simp; omega),if_pos hh,List.map_cons,List.append_assoc]
    rfl
   ·rw [if_neg hh,ih _ (by omega),if_neg hh])) 0 (by omega) [] (by simp)
  exact key'
 have J1:∀ (b:Bool) y,FS views e b m y []=some (if b=true then (Kg (Ey m e) (views.getD (e-1).toNat []) m.2.2.2.2.2.2.2.1,(Bn (views.getD (e-1).toNat []) m.1).map (fun v=>(3,m.1,v,e,0,m.2.2.2.2.2.2.2.1)),true) else (Ey m e,(Bn (views.getD (e-2).toNat []) m.1).map (fun v=>(1,m.1,v,e,0,[])),true)):=fun b y=>Yw (by
  unfold Q8
  rw [we,if_pos (by simp; omega)]
  cases b
  ·rw [if_neg (by simp)]
   exact L2 y
  ·rw [if_pos rfl,if_pos (by omega),if_pos (by omega)]
   have hh:=PM (views.getD (e-1).toNat []) m.2.2.2.2.2.2.2.1 (Ey m e) (by omega) (by omega)
   have hc:=((hm.new1 (e:=e) (by omega)).has (view:=views.getD (e-1).toNat []) (its:=m.2.2.2.2.2.2.2.1) rfl rfl hm.items).copy
   unfold Ey at hh hc ⊢
   simp only [List.nil_append]
   rw [hh,Option.bind_some,hc]
   rfl)
 refine Yx ?_
 unfold Q9
 rw [we,we2,B2 _ _ (by unfold maxLen; omega),Option.bind_some]
 simp only [J1]
 rw [if_pos (show (0:Int)≤e-2 by omega),if_pos (show e-2<(views.length:Int) by omega)]
 cases m.2.2.2.1<;>cases (m.2.1==e-1)<;>cases (views.getD (e-2).toNat ([]:List Int)).contains m.1<;>rfl)
theorem hP {m:AA} {views:List (List Int)} {e:Int} (hm:Hq m) (hv:T_ views):(Jk m views e).2.2=true→Hq (Jk m views e).1∧(Jk m views e).1.1=m.1∧UA m (Jk m views e).1 (Jk m views e).2.1∧(Jk m views e).2.1.length≤4:=by
 intro h
 have hvl:=hv.len
 have hep:=hm.ep
 unfold Jk at h ⊢
 split
 ·rename_i hc
  have he:1≤e∧e≤9:=by omega
  split
  ·have hw:=hv.wok (i:=(e-1).toNat) (by omega)
   refine ⟨(hm.new1 he).has rfl rfl hm.items,rfl,Vz (n:=Kg (Ey m e) (views.getD (e-1).toNat []) m.2.2.2.2.2.2.2.1) hm.id he hw.mem (by omega) (by omega) hm.items (by simp),?_⟩
   simp only [List.length_map]
   have:=EU (views.getD (e-1).toNat []) m.1
   have:=hw.len
   omega
  ·have hw:=hv.wok (i:=(e-2).toNat) (by omega)
   refine ⟨hm.new1 he,rfl,Vz (n:=Ey m e) hm.id he hw.mem (by omega) (by omega) PN (by simp),?_⟩
   simp only [List.length_map]
   have:=EU (views.getD (e-2).toNat []) m.1
   have:=hw.len
   omega
 ·rename_i hc
  rw [if_neg hc] at h
  cases h
def V0 (m:AA):AA:=(m.1,m.2.1,true,false,false,false,([]:List Int),([]:List Ae),(0:Int),(0:Int),(0:Int),(0:Int),(ByteArray.empty,ByteArray.empty,(0:Int)),([]:List Int))
theorem bw (m:AA):Rv m=some (V0 m):=eQ rfl
theorem Hq.fall1 {m:AA} (h:Hq m):Hq (V0 m) :=
 ⟨h.id,h.ep,fun hs=>(by cases hs),fun hf=>⟨rfl,rfl⟩,⟨by simp [V0],by simp [V0]⟩,⟨by simp [V0],by simp [V0]⟩,PN,⟨by simp [V0],by simp [V0]⟩,.inl Sp⟩
def FO (id:Int) (views:List (List Int)):AA :=
 (id,(1:Int),false,(views.getD 0 []).contains id,((views.getD 0 []).getD 0 0==id),((views.getD 0 []).getD 0 0==id),([]:List Int),([]:List Ae),(0:Int),(0:Int),(0:Int),(0:Int),(ByteArray.empty,ByteArray.empty,(0:Int)),([]:List Int))
theorem S6 (id:Int) (views:List (List Int)) (hi:1≤id∧id≤6) (hv:T_ views):JM id views=some (FO id views,true):=W_ (by
 have hvl:=hv.len
 have g:=hv.get (i:=0) (by omega)
 unfold Oy
 rw [EO hv,Option.bind_some,if_pos (by rfl),Ac,Option.bind_some,if_neg (by rw [← Bool.decide_and,decide_eq_true hi]; simp)]
 refine Sx ?_
 unfold Kx
 rw [show views.getD (0:Int).toNat ([]:List Int)=views.getD 0 [] from rfl,B2 _ _ (by unfold maxLen; omega),Option.bind_some]
 repeat rw [if_pos (by omega)]
 rfl)
theorem Hq.first1 {id:Int} {views:List (List Int)} (hi:1≤id∧id≤6) (hv:T_ views):Hq (FO id views):=by
 have hvl:=hv.len
 have g:=hv.get (i:=0) (by omega)
 refine ⟨hi,by simp [FO],fun hs=>⟨?_,hs,rfl⟩,fun hf=>(by cases hf),⟨by simp [FO],by simp [FO]⟩,⟨by simp [FO],by simp [FO]⟩,PN,⟨by simp [FO],by simp [FO]⟩,.inl Sp⟩
 simp only [FO,beq_iff_eq] at hs ⊢
 rw [← hs,List.contains_iff_mem,Ab (show 0<(views.getD 0 []).length by omega)]
 exact List.getElem_mem _
end Go.Proofs.Ytaedipailemlcaa.Core

namespace Go.Proofs.Ytaedipailemlcaa.Core
open Go
set_option linter.unusedVariables false
set_option linter.unusedSimpArgs false
abbrev TR:Type:=Int×ByteArray×ByteArray×Int×Int×Int×Int×Int×ByteArray
abbrev Az:Type:=List (List Int)×List AA×List B3×List TR
abbrev Kh:Type:=Int×Int×Int×Int×ByteArray×ByteArray
def Jl:TR:=((0:Int),ByteArray.empty,ByteArray.empty,(0:Int),(0:Int),(0:Int),(0:Int),(0:Int),ByteArray.empty)
def FT:B3:=((0:Int),(0:Int),(0:Int),(0:Int),(0:Int),([]:List Ae))
def CT (g:Az) (i:Nat):AA:=g.2.1.getD i Hj
structure UJ (g:Az) (n:Nat):Prop where
 views:T_ g.1
 six:g.2.1.length=6
 mem:∀ i,i<6→Hq (CT g i)∧(CT g i).1=(i:Int)+1
 fly:∀ x∈g.2.2.1,k_ x
 flen:g.2.2.1.length≤8*n
 clen:g.2.2.2.length≤n
def bG (at_:Int) (s:Dn) (c:TR):TR :=
 (c.1,c.2.1,c.2.2.1,c.2.2.2.1,at_,s.2.2.2.2.2,s.2.1,s.2.2.1,if (c.1==2)=true then s.2.2.2.2.1 else c.2.2.2.2.2.2.2.2)
def SZ (at_:Int) (cs:List TR) (s:Dn):List TR :=
 if (decide (s.1≥(cs.length:Int))||decide ((cs.getD s.1.toNat Jl).2.2.2.2.1≥0))=true then cs else cs.set s.1.toNat (bG at_ s (cs.getD s.1.toNat Jl))
def Ga (g:Az) (n:AA) (told:List B3) (said:List Dn) (at_:Int):Az :=
 (g.1,g.2.1.set (n.1-1).toNat n,g.2.2.1++told,said.foldl (SZ at_) g.2.2.2)
theorem hU (at_:Int) (cs:List TR) (s:Dn):(SZ at_ cs s).length=cs.length:=by unfold SZ; split<;>simp
theorem UB (at_:Int):∀ (said:List Dn) (cs:List TR),(said.foldl (SZ at_) cs).length=cs.length
 | [],cs=>rfl
 | s::l,cs=>by rw [List.foldl_cons,UB at_ l,hU]
theorem gC {α:Type} {l:List α} {i:Nat} {a d:α} (h:i<l.length):(l.set i a).getD i d=a:=by simp [List.getD,h]
theorem Eb (n:AA) (told:List B3) (said:List Dn) (at_:Int) (g:Az) (hn:1≤n.1∧n.1≤6) (h6:g.2.1.length=6) (hf:g.2.2.1.length+told.length≤68719476736) (hc:g.2.2.2.length≤68719476736) (hs:bF said) :
  DX n told said at_ g=some (Ga g n told said at_):=XA (by
 have hsl:=hs.1
 unfold Oz
 rw [AW (show -9223372036854775808≤n.1-1∧n.1-1≤9223372036854775807 by omega)]
 simp only [List.nil_append,List.length_nil,Nat.zero_add]
 rw [if_pos (by omega),if_pos (by omega),if_pos (by omega),if_pos (by omega),if_pos (by omega)]
 have key:=Gh (n:=said.length) (P:=fun i=>∀ (cs:List TR),cs.length≤68719476736→Bs said at_ (i:Int) (g.1,g.2.1.set (n.1-1).toNat n,g.2.2.1++told,cs) n (g.2.1.set (n.1-1).toNat n) (g.2.2.1++told)=some (g.1,g.2.1.set (n.1-1).toNat n,g.2.2.1++told,(said.drop i).foldl (SZ at_) cs)) (fun cs hcs=>K4 (by
  unfold Ge
  rw [if_neg (by simp)]
  simp)) (fun i hi ih cs hcs=>K4 (by
  unfold Ge
  have hz:said.getD i ((0:Int),(0:Int),(0:Int),ByteArray.empty,ByteArray.empty,(0:Int))=said[i]:=Ab hi
  have h0:=(hs.2 said[i] (List.getElem_mem hi)).1
  simp only [show ((i:Int)<(said.length:Int)) from by omega,decide_true,if_true,show (0:Int)≤(i:Int) from by omega,Int.toNat_natCast,hz,AS (show i<9223372036854775807 by omega)]
  have hz3:cs.getD said[i].1.toNat ((0:Int),ByteArray.empty,ByteArray.empty,(0:Int),(0:Int),(0:Int),(0:Int),(0:Int),ByteArray.empty)=cs.getD said[i].1.toNat Jl:=rfl
  rw [Bq hi,List.foldl_cons,hz3]
  by_cases c1:said[i].1≥(cs.length:Int)
  ·rw [if_pos (by simpa using c1),ih cs hcs]
   have:SZ at_ cs said[i]=cs:=by unfold SZ; rw [if_pos (by simp [c1])]
   rw [this]
  ·rw [if_neg (by simpa using c1),if_pos (by omega),if_pos (by omega)]
   by_cases c2:(cs.getD said[i].1.toNat Jl).2.2.2.2.1≥0
   ·rw [if_pos (show decide ((cs.getD said[i].1.toNat Jl).2.2.2.2.1≥0)=true from decide_eq_true c2),ih cs hcs]
    have:SZ at_ cs said[i]=cs:=by unfold SZ; rw [if_pos (by rw [decide_eq_true c2,Bool.or_true])]
    rw [this]
   ·rw [if_neg (show ¬ decide ((cs.getD said[i].1.toNat Jl).2.2.2.2.1≥0)=true from fun h=>c2 (of_decide_eq_true h))]
    have hcl:said[i].1.toNat<cs.length:=by omega
    have e:SZ at_ cs said[i]=cs.set said[i].1.toNat (bG at_ said[i] (cs.getD said[i].1.toNat Jl)):=by unfold SZ; rw [if_neg (by rw [decide_eq_false c1,decide_eq_false c2]; simp)]
    rw [e]
    refine Sy ?_
    unfold K3
    have hz2:∀ (l:List TR),l.getD said[i].1.toNat ((0:Int),ByteArray.empty,ByteArray.empty,(0:Int),(0:Int),(0:Int),(0:Int),(0:Int),ByteArray.empty)=l.getD said[i].1.toNat Jl:=fun l=>rfl
    simp only [List.nil_append,List.length_nil,Nat.zero_add,hz2,gC hcl,List.set_set,List.length_set]
    have hk:∀ r,(if cs.length≤68719476736 then r else (none:Option Az))=r:=fun r=>if_pos hcs
    rw [if_pos (show cs.length≤68719476736 from hcs),if_pos (show (0:Int)≤said[i].1 from h0),if_pos (show said[i].1<(cs.length:Int) by omega),AS (show i<9223372036854775807 by omega)]
    unfold bG
    by_cases c3:(cs.getD said[i].1.toNat Jl).1=2
    ·rw [if_pos (show ((cs.getD said[i].1.toNat Jl).1==2)=true by simpa using c3),if_pos (show ((cs.getD said[i].1.toNat Jl).1==2)=true by simpa using c3)]
     exact ih _ (by simpa using hcs)
    ·rw [if_neg (show ¬ ((cs.getD said[i].1.toNat Jl).1==2)=true by simpa using c3),if_neg (show ¬ ((cs.getD said[i].1.toNat Jl).1==2)=true by simpa using c3)]
     exact ih _ (by simpa using hcs))) 0 (by omega) g.2.2.2 hc
 exact key)
theorem eT {g:Az} {n:AA} {told:List B3} {said:List Dn} {at_:Int} {i j:Nat} (h6:g.2.1.length=6) (hj:j<6) (hn:n.1=(i:Int)+1) (hi:i<6):CT (Ga g n told said at_) j=if j=i then n else CT g j:=by
 unfold CT Ga
 simp only [hn,show ((i:Int)+1-1).toNat=i from by omega]
 by_cases e:j=i
 ·subst e
  rw [if_pos rfl]
  exact gC (by omega)
 ·rw [if_neg e]
  simp [List.getD,List.getElem?_set,Ne.symm e]
theorem UJ.member {g:Az} {k:Nat} (h:UJ g k) {n:AA} {told:List B3} {said:List Dn} {at_:Int} {i:Nat} (hi:i<6) (hn:Hq n) (hid:n.1=(i:Int)+1) (ht:∀ y∈told,k_ y) (hl:told.length≤4):UJ (Ga g n told said at_) (k+1):=by
 refine ⟨h.views,by simp [Ga,h.six],fun j hj=>?_,fun x hx=>?_,?_,?_⟩
 ·rw [eT h.six hj hid hi]
  split
  ·rename_i e
   subst e
   exact ⟨hn,hid⟩
  ·exact h.mem j hj
 ·rcases List.mem_append.1 hx with h1 | h1
  ·exact h.fly x h1
  ·exact ht x h1
 ·have:=h.flen
  simp only [Ga,List.length_append]
  omega
 ·have:=h.clen
  simp only [Ga,UB]
  omega
def V5 (g:Az) (at_:Int) (e:Kh):Az:=(g.1,g.2.1,g.2.2.1,g.2.2.2++[(e.2.2.2.1,e.2.2.2.2.1,e.2.2.2.2.2,at_,-1,0,0,0,ByteArray.empty)])
def UC (g:Az) (at_:Int) (e:Kh):Int×Az :=
 if (Ff (CT g (e.2.1-1).toNat) g.1 e.2.2.2.1 (g.2.2.2.length:Int) e.2.2.2.2.1 e.2.2.2.2.2).2.2.2=true then
  (0,Ga (V5 g at_ e) (Ff (CT g (e.2.1-1).toNat) g.1 e.2.2.2.1 (g.2.2.2.length:Int) e.2.2.2.2.1 e.2.2.2.2.2).1 (Ff (CT g (e.2.1-1).toNat) g.1 e.2.2.2.1 (g.2.2.2.length:Int) e.2.2.2.2.1 e.2.2.2.2.2).2.1 (Ff (CT g (e.2.1-1).toNat) g.1 e.2.2.2.1 (g.2.2.2.length:Int) e.2.2.2.2.1 e.2.2.2.2.2).2.2.1 at_)
 else (1,V5 g at_ e)
theorem kG {e:Kh} (h:N5 e=true):1≤e.1∧e.1≤6∧1≤e.2.1∧e.2.1≤6∧0≤e.2.2.1:=by
 unfold N5 at h
 simp only [Bool.and_eq_true,decide_eq_true_eq] at h
 omega
theorem UJ.told {g:Az} {k:Nat} (h:UJ g k):True:=trivial
theorem jD {m n:AA} {l:List B3} (h:UA m n l):∀ y∈l,k_ y:=fun y hy=>(h y hy).1
theorem UD (at_:Int) (e:Kh) (g:Az) (k:Nat) (hg:UJ g k) (hk:k≤1000) (hn:1≤e.2.1∧e.2.1≤6):KS at_ e g=some (UC g at_ e)∧UJ (UC g at_ e).2 (k+1)∧(UC g at_ e).2.1=g.1:=by
 have hc:=hg.clen
 have hf:=hg.flen
 have h6:=hg.six
 have wn:IntKind.i64.wrap (e.2.1-1)=e.2.1-1:=AW (by omega)
 have wl:IntKind.i64.wrap (((g.2.2.2.length+1:Nat):Int)-1)=(g.2.2.2.length:Int):=by rw [AW (by omega)]; omega
 obtain ⟨m1,m2⟩:=hg.mem (e.2.1-1).toNat (by omega)
 have hb:=hO (op:=e.2.2.2.1) (call:=(g.2.2.2.length:Int)) (key:=e.2.2.2.2.1) (val:=e.2.2.2.2.2) m1 hg.views
 refine ⟨Yo ?_,?_,?_⟩
 ·unfold Qz UC
  simp only [List.nil_append,List.length_nil,Nat.zero_add,List.length_append,List.length_cons]
  rw [if_pos (by omega),if_pos (by omega),wn,if_pos (by omega),if_pos (by omega),wl,
   show g.2.1.getD (e.2.1-1).toNat ((0:Int),(0:Int),false,false,false,false,([]:List Int),([]:List Ae),(0:Int),(0:Int),(0:Int),(0:Int),(ByteArray.empty,ByteArray.empty,(0:Int)),([]:List Int))=CT g (e.2.1-1).toNat from rfl,
   ZB _ _ _ _ _ _ m1 hg.views,Option.bind_some]
  cases hq:(Ff (CT g (e.2.1-1).toNat) g.1 e.2.2.2.1 (g.2.2.2.length:Int) e.2.2.2.2.1 e.2.2.2.2.2).2.2.2 with
  | false=>rfl
  | true =>
   have hid:=hb.id hq
   have hmo:=hb.mok hq
   have htl:=hb.tlen
   rw [if_neg (by simp),if_pos rfl]
   have:=Eb (Ff (CT g (e.2.1-1).toNat) g.1 e.2.2.2.1 (g.2.2.2.length:Int) e.2.2.2.2.1 e.2.2.2.2.2).1 (Ff (CT g (e.2.1-1).toNat) g.1 e.2.2.2.1 (g.2.2.2.length:Int) e.2.2.2.2.1 e.2.2.2.2.2).2.1 (Ff (CT g (e.2.1-1).toNat) g.1 e.2.2.2.1 (g.2.2.2.length:Int) e.2.2.2.2.1 e.2.2.2.2.2).2.2.1 at_ (V5 g at_ e) hmo.id h6 (by show g.2.2.1.length+_≤_; omega) (by simp only [V5,List.length_append,List.length_cons,List.length_nil]; omega) hb.said
   unfold V5 at this ⊢
   rw [this]
   rfl
 ·unfold UC
  have hgc:∀ (P:Az→Prop),P (V5 g at_ e)→P (V5 g at_ e):=fun _ h=>h
  split
  ·rename_i hq
   have hid:=hb.id hq
   have hmo:=hb.mok hq
   have htl:=hb.tlen
   have hm:=hg.member (said:=(Ff (CT g (e.2.1-1).toNat) g.1 e.2.2.2.1 (g.2.2.2.length:Int) e.2.2.2.2.1 e.2.2.2.2.2).2.2.1) (at_:=at_) (i:=(e.2.1-1).toNat) (by omega) hmo (by rw [hid,m2]) (jD (hb.told hq)) htl
   exact ⟨hm.views,hm.six,hm.mem,hm.fly,hm.flen,by simp only [Ga,UB,V5,List.length_append,List.length_cons,List.length_nil]; omega⟩
  ·exact ⟨hg.views,hg.six,hg.mem,hg.fly,by have:=hg.flen; show g.2.2.1.length≤_; omega,by simp only [V5,List.length_append,List.length_cons,List.length_nil]; omega⟩
 ·unfold UC; split<;>rfl
end Go.Proofs.Ytaedipailemlcaa.Core

namespace Go.Proofs.Ytaedipailemlcaa.Core
open Go
set_option linter.unusedVariables false
set_option linter.unusedSimpArgs false
def Xh (g:Az) (at_:Int) (m:AA) (node:Int):Nat→Int→Int×Az
 | 0,_=>(1,g)
 | k+1,e=>if ((g.1.getD (e-1).toNat []).getD 0 0 != node)=true then Xh g at_ m node k (e+1)
  else if (Jk m g.1 e).2.2=true then (0,Ga g (Jk m g.1 e).1 (Jk m g.1 e).2.1 [] at_) else (1,g)
def bH (g:Az) (at_ node:Int):Int×Az:=Xh g at_ (CT g (node-1).toNat) node ((g.1.length:Int)-(CT g (node-1).toNat).2.1).toNat ((CT g (node-1).toNat).2.1+1)
theorem UJ.up {g:Az} {k:Nat} (h:UJ g k):UJ g (k+1):=⟨h.views,h.six,h.mem,h.fly,by have:=h.flen; omega,by have:=h.clen; omega⟩
theorem UE (at_ node:Int) (g:Az) (k:Nat) (hg:UJ g k) (hk:k≤1000) (hn:1≤node∧node≤6):KT at_ node g=some (bH g at_ node)∧UJ (bH g at_ node).2 (k+1)∧(bH g at_ node).2.1=g.1:=by
 have hc:=hg.clen
 have hf:=hg.flen
 have h6:=hg.six
 have hvl:=hg.views.len
 have wn:IntKind.i64.wrap (node-1)=node-1:=AW (by omega)
 obtain ⟨m1,m2⟩:=hg.mem (node-1).toNat (by omega)
 have hep:=m1.ep
 have wm:IntKind.i64.wrap ((CT g (node-1).toNat).2.1+1)=(CT g (node-1).toNat).2.1+1:=AW (by omega)
 have key:∀ (j:Nat) (e:Int),e=(g.1.length:Int)+1-(j:Int)→2≤e→FH at_ node e g (CT g (node-1).toNat)=some (Xh g at_ (CT g (node-1).toNat) node j e)∧UJ (Xh g at_ (CT g (node-1).toNat) node j e).2 (k+1)∧(Xh g at_ (CT g (node-1).toNat) node j e).2.1=g.1:=by
  intro j
  induction j with
  | zero =>
   intro e he h2
   refine ⟨HT ?_,hg.up,rfl⟩
   unfold FI
   rw [if_neg (by simp; omega)]
   rfl
  | succ j ih =>
   intro e he h2
   have we:IntKind.i64.wrap (e-1)=e-1:=AW (by omega)
   have we2:IntKind.i64.wrap (e+1)=e+1:=AW (by omega)
   have gv:=hg.views.get (i:=(e-1).toNat) (by omega)
   have ha:=hP (e:=e) m1 hg.views
   obtain ⟨i1,i2,i3⟩:=ih (e+1) (by omega) (by omega)
   unfold Xh
   refine ⟨HT ?_,?_,?_⟩
   ·unfold FI
    rw [if_pos (by simp; omega),we,we2,if_pos (by omega),if_pos (by omega),if_pos (by omega),if_pos (by omega),show (g.1.getD (e-1).toNat ([]:List Int)).getD (0:Int).toNat 0=(g.1.getD (e-1).toNat []).getD 0 0 from rfl]
    by_cases h3:((g.1.getD (e-1).toNat []).getD 0 0 != node)=true
    ·rw [if_pos h3,if_pos h3,i1]
    ·rw [if_neg h3,if_neg h3,ZD _ _ _ m1 hg.views,Option.bind_some]
     cases hq:(Jk (CT g (node-1).toNat) g.1 e).2.2 with
     | false=>rfl
     | true =>
      obtain ⟨a1,a2,a3,a4⟩:=ha hq
      rw [if_neg (by simp),if_pos rfl,Eb _ _ _ _ _ a1.id h6 (by omega) (by omega) EP]
      rfl
   ·split
    ·exact i2
    ·split
     ·rename_i hq
      obtain ⟨a1,a2,a3,a4⟩:=ha hq
      exact hg.member (i:=(node-1).toNat) (by omega) a1 (by rw [a2,m2]) (jD a3) a4
     ·exact hg.up
   ·split
    ·exact i3
    ·split<;>rfl
 have hmain:=key ((g.1.length:Int)-(CT g (node-1).toNat).2.1).toNat ((CT g (node-1).toNat).2.1+1)
 by_cases hle:(CT g (node-1).toNat).2.1≤(g.1.length:Int)
 ·obtain ⟨k1,k2,k3⟩:=hmain (by omega) (by omega)
  refine ⟨Q0 ?_,k2,k3⟩
  unfold KY
  rw [wn,if_pos (by omega),if_pos (by omega),show g.2.1.getD (node-1).toNat ((0:Int),(0:Int),false,false,false,false,([]:List Int),([]:List Ae),(0:Int),(0:Int),(0:Int),(0:Int),(ByteArray.empty,ByteArray.empty,(0:Int)),([]:List Int))=CT g (node-1).toNat from rfl,wm]
  exact k1
 ·have e0:((g.1.length:Int)-(CT g (node-1).toNat).2.1).toNat=0:=by omega
  unfold bH
  rw [e0]
  refine ⟨Q0 ?_,hg.up,rfl⟩
  unfold KY
  rw [wn,if_pos (by omega),if_pos (by omega),show g.2.1.getD (node-1).toNat ((0:Int),(0:Int),false,false,false,false,([]:List Int),([]:List Ae),(0:Int),(0:Int),(0:Int),(0:Int),(ByteArray.empty,ByteArray.empty,(0:Int)),([]:List Int))=CT g (node-1).toNat from rfl,wm]
  refine HT ?_
  unfold FI
  rw [if_neg (fun h=>hle (by have:=of_decide_eq_true h; omega))]
  rfl
def bI (g:Az) (i:Nat):Az:=(g.1,g.2.1,g.2.2.1.take i++g.2.2.1.drop (i+1),g.2.2.2)
def hX (g:Az) (at_:Int) (e:Kh):Int×Az :=
 if g.2.2.1=[] then (1,g)
 else if e.1=4 then (0,(g.1,g.2.1,g.2.2.1++[g.2.2.1.getD (e.2.2.1 % (g.2.2.1.length:Int)).toNat FT],g.2.2.2))
 else if e.1=3 then (0,bI g (e.2.2.1 % (g.2.2.1.length:Int)).toNat)
 else (0,Ga (bI g (e.2.2.1 % (g.2.2.1.length:Int)).toNat)
  (TP (CT g ((g.2.2.1.getD (e.2.2.1 % (g.2.2.1.length:Int)).toNat FT).2.2.1-1).toNat) g.1 (g.2.2.1.getD (e.2.2.1 % (g.2.2.1.length:Int)).toNat FT)).1
  (TP (CT g ((g.2.2.1.getD (e.2.2.1 % (g.2.2.1.length:Int)).toNat FT).2.2.1-1).toNat) g.1 (g.2.2.1.getD (e.2.2.1 % (g.2.2.1.length:Int)).toNat FT)).2.1
  (TP (CT g ((g.2.2.1.getD (e.2.2.1 % (g.2.2.1.length:Int)).toNat FT).2.2.1-1).toNat) g.1 (g.2.2.1.getD (e.2.2.1 % (g.2.2.1.length:Int)).toNat FT)).2.2 at_)
theorem UJ.less {g:Az} {k:Nat} (h:UJ g k) (i:Nat):UJ (bI g i) k:=by
 refine ⟨h.views,h.six,h.mem,fun x hx=>?_,?_,h.clen⟩
 ·rcases List.mem_append.1 hx with h1 | h1
  ·exact h.fly x (List.mem_of_mem_take h1)
  ·exact h.fly x (List.mem_of_mem_drop h1)
 ·have:=h.flen
  simp only [bI,List.length_append,List.length_take,List.length_drop]
  omega
theorem Xi (at_:Int) (e:Kh) (g:Az) (k:Nat) (hg:UJ g k) (hk:k≤1000) (hn:0≤e.2.2.1):Nx at_ e g=some (hX g at_ e)∧UJ (hX g at_ e).2 (k+1)∧(hX g at_ e).2.1=g.1:=by
 have hc:=hg.clen
 have hf:=hg.flen
 have h6:=hg.six
 have hvl:=hg.views.len
 by_cases h0:g.2.2.1=[]
 ·unfold hX
  rw [if_pos h0]
  refine ⟨TI ?_,hg.up,rfl⟩
  unfold N4
  rw [h0,if_pos (by rfl)]
 ·have hl:0<g.2.2.1.length:=List.length_pos_iff.2 h0
  have hm:Int.tmod e.2.2.1 (g.2.2.1.length:Int)=e.2.2.1 % (g.2.2.1.length:Int):=Int.tmod_eq_emod_of_nonneg hn
  have hr0:=Int.emod_nonneg e.2.2.1 (show (g.2.2.1.length:Int)≠0 by omega)
  have hr1:=Int.emod_lt_of_pos e.2.2.1 (show 0<(g.2.2.1.length:Int) by omega)
  generalize hq:e.2.2.1 % (g.2.2.1.length:Int)=q at hm hr0 hr1
  have hx:=hg.fly (g.2.2.1.getD q.toNat FT) (by rw [Ab (show q.toNat<g.2.2.1.length by omega)]; exact List.getElem_mem _)
  have wq:IntKind.i64.wrap (q+1)=q+1:=AW (by omega)
  have hto:=hx.to
  have wt:IntKind.i64.wrap ((g.2.2.1.getD q.toNat FT).2.2.1-1)=(g.2.2.1.getD q.toNat FT).2.2.1-1:=AW (by omega)
  obtain ⟨m1,m2⟩:=hg.mem ((g.2.2.1.getD q.toNat FT).2.2.1-1).toNat (by omega)
  have hh:=jB (x:=g.2.2.1.getD q.toNat FT) m1 hg.views
  have hless:=hg.less q.toNat
  have hxl:=PJ hx.items
  have hz:g.2.2.1.getD q.toNat ((0:Int),(0:Int),(0:Int),(0:Int),(0:Int),([]:List Ae))=g.2.2.1.getD q.toNat FT:=rfl
  have hz2:∀ i,g.2.1.getD i ((0:Int),(0:Int),false,false,false,false,([]:List Int),([]:List Ae),(0:Int),(0:Int),(0:Int),(0:Int),(ByteArray.empty,ByteArray.empty,(0:Int)),([]:List Int))=CT g i:=fun i=>rfl
  have e1:(g.2.2.1.take q.toNat).drop (0:Int).toNat=g.2.2.1.take q.toNat:=rfl
  have e2:(g.2.2.1.take (g.2.2.1.length:Int).toNat).drop (q+1).toNat=g.2.2.1.drop (q.toNat+1):=by
   rw [show (g.2.2.1.length:Int).toNat=g.2.2.1.length from by omega,List.take_length,show (q+1).toNat=q.toNat+1 from by omega]
  unfold hX
  rw [if_neg h0,hq]
  refine ⟨TI ?_,?_,?_⟩
  ·unfold N4
   rw [if_neg (by simp; exact h0),if_neg (by omega),hm,hz,wq,wt,hz2,e1,e2,if_pos hr0,if_pos hr1]
   simp only [List.nil_append,List.length_nil,Nat.zero_add]
   by_cases h4:e.1=4
   ·rw [if_pos (by simpa using h4),if_pos h4,if_pos (by omega),if_pos (by simp; omega)]
   ·rw [if_neg (by simpa using h4),if_neg h4,if_pos (by omega),if_pos hr0,if_pos (by omega),if_pos (by omega),if_pos (by omega),if_pos (by omega),if_pos (by simp; omega),if_pos (by simp; omega)]
    by_cases h3:e.1=3
    ·rw [if_pos (by simpa using h3),if_pos h3]
     rfl
    ·rw [if_neg (by simpa using h3),if_neg h3,if_pos (by omega),if_pos (by omega),Vy _ _ _ m1 hg.views (by omega),Option.bind_some]
     have htl:=hh.tlen
     have:=Eb (TP (CT g ((g.2.2.1.getD q.toNat FT).2.2.1-1).toNat) g.1 (g.2.2.1.getD q.toNat FT)).1 (TP (CT g ((g.2.2.1.getD q.toNat FT).2.2.1-1).toNat) g.1 (g.2.2.1.getD q.toNat FT)).2.1 (TP (CT g ((g.2.2.1.getD q.toNat FT).2.2.1-1).toNat) g.1 (g.2.2.1.getD q.toNat FT)).2.2 at_ (bI g q.toNat) hh.mok.id h6 (by have:=hless.flen; omega) (by have:=hless.clen; omega) hh.said
     unfold bI at this ⊢
     rw [this]
     rfl
  ·split
   ·refine ⟨hg.views,hg.six,hg.mem,fun x hx'=>?_,by simp only [List.length_append,List.length_cons,List.length_nil]; omega,by show g.2.2.2.length≤_; omega⟩
    rcases List.mem_append.1 hx' with h1 | h1
    ·exact hg.fly x h1
    ·simp only [List.mem_singleton] at h1; subst h1; exact hx
   ·split
    ·exact hless.up
    ·exact hless.member (i:=((g.2.2.1.getD q.toNat FT).2.2.1-1).toNat) (by omega) hh.mok (by rw [hh.id,m2]) (jD hh.told) hh.tlen
  ·split
   ·rfl
   ·split<;>rfl
def kM (g:Az) (at_:Int) (e:Kh):Int×Az :=
 if e.1=1 then UC g at_ e else if e.1=5 then bH g at_ e.2.1
 else if e.1=6 then (0,Ga g (V0 (CT g (e.2.1-1).toNat)) [] [] at_) else hX g at_ e
theorem Ki (at_:Int) (e:Kh) (g:Az) (k:Nat) (hg:UJ g k) (hk:k≤1000) (he:N5 e=true):LE at_ e g=some (kM g at_ e)∧UJ (kM g at_ e).2 (k+1)∧(kM g at_ e).2.1=g.1:=by
 have hn:=kG he
 have h6:=hg.six
 have hc:=hg.clen
 have hf:=hg.flen
 unfold kM
 by_cases h1:e.1=1
 ·obtain ⟨a,b,c⟩:=UD at_ e g k hg hk (by omega)
  rw [if_pos h1]
  refine ⟨LF ?_,b,c⟩
  unfold Ik
  rw [if_pos (by simpa using h1),a]
  rfl
 ·rw [if_neg h1]
  by_cases h5:e.1=5
  ·obtain ⟨a,b,c⟩:=UE at_ e.2.1 g k hg hk (by omega)
   rw [if_pos h5]
   refine ⟨LF ?_,b,c⟩
   unfold Ik
   rw [if_neg (by simpa using h1),if_pos (by simpa using h5),a]
   rfl
  ·rw [if_neg h5]
   by_cases h7:e.1=6
   ·obtain ⟨m1,m2⟩:=hg.mem (e.2.1-1).toNat (by omega)
    rw [if_pos h7]
    refine ⟨LF ?_,hg.member (i:=(e.2.1-1).toNat) (by omega) m1.fall1 m2 (fun y hy=>by cases hy) (by simp),rfl⟩
    have wn:IntKind.i64.wrap (e.2.1-1)=e.2.1-1:=AW (by omega)
    unfold Ik
    rw [if_neg (by simpa using h1),if_neg (by simpa using h5),if_pos (by simpa using h7),wn,if_pos (by omega),if_pos (by omega),
     show g.2.1.getD (e.2.1-1).toNat ((0:Int),(0:Int),false,false,false,false,([]:List Int),([]:List Ae),(0:Int),(0:Int),(0:Int),(0:Int),(ByteArray.empty,ByteArray.empty,(0:Int)),([]:List Int))=CT g (e.2.1-1).toNat from rfl,
     bw,Option.bind_some,Eb _ _ _ _ _ m1.fall1.id h6 (by simp; omega) (by omega) EP]
    rfl
   ·obtain ⟨a,b,c⟩:=Xi at_ e g k hg hk (by omega)
    rw [if_neg h7]
    refine ⟨LF ?_,b,c⟩
    unfold Ik
    rw [if_neg (by simpa using h1),if_neg (by simpa using h5),if_neg (by simpa using h7),a]
    rfl
end Go.Proofs.Ytaedipailemlcaa.Core

namespace Go.Proofs.Ytaedipailemlcaa.Core
open Go
set_option linter.unusedVariables false
set_option linter.unusedSimpArgs false
theorem I1 (x:List (List Int)) (h:x.length≤1000) (ho:∀ a∈x,a.length≤1000):EY x=some x:=Sw (by
 unfold Kv
 have key:=Gh (n:=x.length) (P:=fun i=>DI x (i:Int) (x.take i)=some x) (Io (by
  unfold FF
  rw [if_neg (by simp),List.take_length])) (fun i hi ih=>Io (by
  unfold FF
  have:=ho x[i] (List.getElem_mem hi)
  simp only [show ((i:Int)<(x.length:Int)) from by omega,decide_true,if_true,show (0:Int)≤(i:Int) from by omega,Int.toNat_natCast,Ab hi,AS (show i<9223372036854775807 by omega),List.nil_append,List.length_nil,Nat.zero_add,List.length_cons,List.length_take]
  rw [if_pos (by omega),if_pos (by omega),List.take_append_getElem]
  exact ih)) 0 (by omega)
 exact key)
theorem RP (x:List B3) (h:x.length≤100000) (ho:∀ a∈x,a.2.2.2.2.2.length≤1000):HF x=some x:=T2 (by
 unfold MD
 have key:=Gh (n:=x.length) (P:=fun i=>CX x (i:Int) (x.take i)=some x) (JC (by
  unfold Fe
  rw [if_neg (by simp),List.take_length])) (fun i hi ih=>JC (by
  unfold Fe
  have:=ho x[i] (List.getElem_mem hi)
  simp only [show ((i:Int)<(x.length:Int)) from by omega,decide_true,if_true,show (0:Int)≤(i:Int) from by omega,Int.toNat_natCast,Ab hi,AS (show i<9223372036854775807 by omega),List.nil_append,List.length_nil,Nat.zero_add,List.length_cons,List.length_take]
  rw [if_pos (by omega),if_pos (by omega)]
  change CX x _ (x.take i++[x[i]])=_
  rw [List.take_append_getElem]
  exact ih)) 0 (by omega)
 exact key)
theorem V6 (g:Az) (k:Nat) (hg:UJ g k) (hk:k≤1000):Lj g=some g:=aX (by
 have hvl:=hg.views.len
 have hc:=hg.clen
 have hf:=hg.flen
 have h6:=hg.six
 unfold R8
 rw [I1 g.1 (by omega) (fun a ha=>by have:=hg.views.view ha; omega),Option.bind_some,RP g.2.2.1 (by omega) (fun a ha=>by have:=PJ (hg.fly a ha).items; omega),Option.bind_some,if_pos (by simp; omega)]
 have key:∀ (a b c d e:_),EH ((0:Nat):Int) g.1 g.2.1 g.2.2.1 g.2.2.2 a b c d e [] g.1 g.2.2.1 ([]++g.2.2.2)=some g:=by
  intro a b c d e
  have key':=Gh (n:=g.2.1.length) (P:=fun i=>EH (i:Int) g.1 g.2.1 g.2.2.1 g.2.2.2 a b c d e (g.2.1.take i) g.1 g.2.2.1 ([]++g.2.2.2)=some g) (NQ (by
   unfold Im
   rw [if_neg (by simp),List.take_length]
   rfl)) (fun i hi ih=>NQ (by
   unfold Im
   have hm:=(hg.mem i (by omega)).1
   unfold CT at hm
   rw [Ab hi] at hm
   simp only [show ((i:Int)<(g.2.1.length:Int)) from by omega,decide_true,if_true,show (0:Int)≤(i:Int) from by omega,Int.toNat_natCast,Ab hi,hm.copy,Option.bind_some,AS (show i<9223372036854775807 by omega),List.length_take,List.length_cons,List.length_nil]
   rw [if_pos (by omega),List.take_append_getElem]
   exact ih)) 0 (by omega)
  exact key'
 exact key _ _ _ _ _)
def Cg (views:List (List Int)):Az:=(views,[FO 1 views,FO 2 views,FO 3 views,FO 4 views,FO 5 views,FO 6 views],[],[])
theorem Xj {views:List (List Int)} (hv:T_ views):UJ (Cg views) 0:=by
 refine ⟨hv,rfl,fun i hi=>?_,fun x hx=>(by cases hx),(by simp [Cg]),(by simp [Cg])⟩
 have h5:i=0∨i=1∨i=2∨i=3∨i=4∨i=5:=by omega
 rcases h5 with rfl | rfl | rfl | rfl | rfl | rfl<;>exact ⟨Hq.first1 (by omega) hv,rfl⟩
theorem I2 {views:List (List Int)} (hv:T_ views):G3 views=some (Cg views,true):=Yj (by
 have hvl:=hv.len
 unfold Qv
 rw [EO hv,Option.bind_some,if_neg (by simp),I1 views (by omega) (fun a ha=>by have:=hv.view ha; omega),Option.bind_some]
 have step:∀ (i:Nat) (a:_) (b:_) (c:_) (d:_) (l:List AA) r,1≤i→i≤6→l.length≤6→Dk views ((i+1:Nat):Int) a b c d (l++[FO (i:Int) views]) views=some r→Dk views (i:Int) a b c d l views=some r:=by
  intro i a b c d l r h1 h6 hl hr
  refine MB ?_
  unfold HR
  rw [if_pos (by simp; omega),S6 _ _ (by omega) hv,Option.bind_some,if_pos (by simp; omega),AS (show i<9223372036854775807 by omega)]
  exact hr
 refine step 1 _ _ _ _ _ _ (by omega) (by omega) (by simp) ?_
 refine step 2 _ _ _ _ _ _ (by omega) (by omega) (by simp) ?_
 refine step 3 _ _ _ _ _ _ (by omega) (by omega) (by simp) ?_
 refine step 4 _ _ _ _ _ _ (by omega) (by omega) (by simp) ?_
 refine step 5 _ _ _ _ _ _ (by omega) (by omega) (by simp) ?_
 refine step 6 _ _ _ _ _ _ (by omega) (by omega) (by simp) ?_
 refine MB ?_
 unfold HR
 rw [if_neg (by decide)]
 rfl)
def PO:Nat→List Kh→Az→List Int→Az×List Int
 | _,[],g,cs=>(g,cs)
 | n,e::es,g,cs=>PO (n+1) es (kM g (n:Int) e).2 (cs++[(kM g (n:Int) e).1])
theorem de:∀ (es:List Kh) (n:Nat) (g:Az) (cs:List Int),UJ g n→n+es.length≤70→(∀ e∈es,N5 e=true)→UJ (PO n es g cs).1 (n+es.length)∧(PO n es g cs).1.1=g.1∧(PO n es g cs).2.length=cs.length+es.length
 | [],n,g,cs,hg,_,_=>⟨hg,rfl,rfl⟩
 | e::es,n,g,cs,hg,hn,he=>by
  simp only [List.length_cons] at hn
  obtain ⟨_,h2,h3⟩:=Ki (n:Int) e g n hg (by omega) (he e (by simp))
  obtain ⟨h4,h5,h6⟩:=de es (n+1) _ (cs++[(kM g (n:Int) e).1]) h2 (by omega) (fun x hx=>he x (by simp [hx]))
  refine ⟨?_,h5.trans h3,?_⟩
  ·have:n+(e::es).length=n+1+es.length:=by simp only [List.length_cons]; omega
   rw [this]
   exact h4
  ·simp only [PO,h6,List.length_append,List.length_cons,List.length_nil]
   omega
theorem V7 {views:List (List Int)} {events:List Kh} (hv:T_ views) (hl:events.length≤70) (he:∀ e∈events,N5 e=true) :
  KP views events=some ((PO 0 events (Cg views) []).1,(PO 0 events (Cg views) []).2,true):=Yh (by
 have hg:=Xj hv
 obtain ⟨r1,r2,r3⟩:=de events 0 (Cg views) [] hg (by omega) he
 unfold Qt
 rw [I2 hv,Option.bind_some]
 have L3:∀ y,Dg events ((0:Nat):Int) y (Cg views) []=some ((PO 0 events (Cg views) []).1,(PO 0 events (Cg views) []).2,true):=by
  intro y
  have key:=Gh (n:=events.length) (P:=fun i=>∀ (g:Az) (cs:List Int),UJ g i→cs.length=i→PO i (events.drop i) g cs=PO 0 events (Cg views) []→Dg events (i:Int) y g cs=some ((PO 0 events (Cg views) []).1,(PO 0 events (Cg views) []).2,true)) (fun g cs hgi hcs hr=>L8 (by
   unfold HN
   rw [if_neg (by simp),V6 g events.length hgi (by omega),Option.bind_some]
   rw [List.drop_eq_nil_of_le (Nat.le_refl _)] at hr
   rw [← hr]
   rfl)) (fun i hi ih g cs hgi hcs hr=>L8 (by
   unfold HN
   obtain ⟨d1,d2,_⟩:=Ki (i:Int) events[i] g i hgi (by omega) (he _ (List.getElem_mem hi))
   simp only [show ((i:Int)<(events.length:Int)) from by omega,decide_true,if_true,show (0:Int)≤(i:Int) from by omega,Int.toNat_natCast,Ab hi,d1,Option.bind_some,AS (show i<9223372036854775807 by omega)]
   rw [if_pos (by simp; omega)]
   refine ih _ _ d2 (by simp; omega) ?_
   rw [Bq hi] at hr
   exact hr)) 0 (by omega) (Cg views) [] hg rfl rfl
  exact key
 have L0:∀ y,Cb events true ((0:Nat):Int) y (Cg views)=some ((PO 0 events (Cg views) []).1,(PO 0 events (Cg views) []).2,true):=by
  intro y
  have J2:FC events true y (Cg views)=some ((PO 0 events (Cg views) []).1,(PO 0 events (Cg views) []).2,true):=Tu (by
   unfold L7
   rw [if_neg (by simp)]
   exact L3 y)
  refine Gh (n:=events.length) (P:=fun i=>Cb events true (i:Int) y (Cg views)=some ((PO 0 events (Cg views) []).1,(PO 0 events (Cg views) []).2,true)) (L9 (by
   unfold HO
   rw [if_neg (by simp)]
   exact J2)) (fun i hi ih=>L9 (by
   unfold HO
   rw [if_pos (by simpa using hi),if_pos rfl]
   refine Tt ?_
   unfold L6
   have hz:events.getD i ((0:Int),(0:Int),(0:Int),(0:Int),ByteArray.empty,ByteArray.empty)=events[i]:=Ab hi
   rw [if_pos (by simp; omega),if_pos (by omega),if_pos (by omega),Int.toNat_natCast,hz,Vs,he _ (List.getElem_mem hi),Option.bind_some,AS (show i<9223372036854775807 by omega)]
   exact ih)) 0 (by omega)
 exact L0 _)
theorem UF (d:EW) (h:G9 d):∃ v d',KQ d=some (v,d')∧G9 d'∧T_ v:=by
 have inner:∀ (m j:Nat),j+m=3→∀ (i:Int) (d:EW) (vs:List (List Int)) (v:List Int),G9 d→0≤i→vs.length≤10→v.length≤j→(j=0∨1≤v.length)→(∀ a∈v,1≤a∧a≤6)→v.Nodup →
   ∃ v' d',jA v'∧G9 d'∧∀ r,Di (IntKind.i64.wrap (i+1)) d' (vs++[v'])=some r→Dh i (j:Int) d vs v=some r:=by
  intro m
  induction m with
  | zero =>
   intro j hj i d vs v hd hi hvs hv h1 hm hnd
   obtain ⟨y,d1,e1,k1,y0,y1⟩:=AJ 3 d hd
   have y1:=y1 (by omega)
   refine ⟨v,d1,⟨by omega,hm,hnd⟩,k1,fun r hr=>FE ?_⟩
   unfold Dj
   have wy:IntKind.i64.wrap (1+y)=1+y:=AW (by omega)
   rw [e1,Option.bind_some,wy,if_neg (by simp; omega),if_pos (by simp; omega)]
   exact hr
  | succ m ih =>
   intro j hj i d vs v hd hi hvs hv h1 hm hnd
   obtain ⟨y,d1,e1,k1,y0,y1⟩:=AJ 3 d hd
   have y1:=y1 (by omega)
   have wy:IntKind.i64.wrap (1+y)=1+y:=AW (by omega)
   by_cases hlt:(j:Int)<1+y
   ·obtain ⟨z,d2,e2,k2,z0,z1⟩:=AJ 4 d1 k1
    have z1:=z1 (by omega)
    have wz:IntKind.i64.wrap (1+z)=1+z:=AW (by omega)
    by_cases hc:v.contains (1+z)=true
    ·obtain ⟨v',d',w1,w2,w3⟩:=ih (j+1) (by omega) i d2 vs v k2 hi hvs (by omega) (.inr (by
      cases v with
      | nil=>simp at hc
      | cons a v=>simp)) hm hnd
     refine ⟨v',d',w1,w2,fun r hr=>FE ?_⟩
     unfold Dj
     rw [e1,Option.bind_some,wy,if_pos (by simpa using hlt),e2,Option.bind_some,wz,B2 v _ (by unfold maxLen; omega),Option.bind_some,hc,if_neg (by simp),AS (show j<9223372036854775807 by omega)]
     exact w3 r hr
    ·have hc':v.contains (1+z)=false:=by simpa using hc
     obtain ⟨v',d',w1,w2,w3⟩:=ih (j+1) (by omega) i d2 vs (v++[1+z]) k2 hi hvs (by simp; omega) (.inr (by simp)) (fun a ha=>by
      rcases List.mem_append.1 ha with h | h
      ·exact hm a h
      ·simp only [List.mem_singleton] at h; omega) (by
      rw [List.nodup_append]
      refine ⟨hnd,by simp,fun a ha b hb e=>?_⟩
      simp only [List.mem_singleton] at hb
      subst hb
      subst e
      rw [List.contains_iff_mem.2 ha] at hc'
      cases hc')
     refine ⟨v',d',w1,w2,fun r hr=>FE ?_⟩
     unfold Dj
     rw [e1,Option.bind_some,wy,if_pos (by simpa using hlt),e2,Option.bind_some,wz,B2 v _ (by unfold maxLen; omega),Option.bind_some,hc',if_pos (by rfl),if_pos (by simp; omega),AS (show j<9223372036854775807 by omega)]
     exact w3 r hr
   ·refine ⟨v,d1,⟨by omega,hm,hnd⟩,k1,fun r hr=>FE ?_⟩
    unfold Dj
    rw [e1,Option.bind_some,wy,if_neg (by simpa using hlt),if_pos (by simp; omega)]
    exact hr
 have outer:∀ (m i:Nat),i+m=5→∀ (d:EW) (vs:List (List Int)),G9 d→vs.length=i→(∀ v∈vs,jA v)→∃ v' d',Di (i:Int) d vs=some (v',d')∧G9 d'∧T_ v':=by
  have fin:∀ (vs:List (List Int)),1≤vs.length→vs.length≤5→(∀ v∈vs,jA v)→T_ vs:=fun vs h1 h2 h3=>⟨Gv.2 ⟨fun v hv=>f_.2 (h3 v hv),h1,by omega⟩⟩
  intro m
  induction m with
  | zero =>
   intro i hi d vs hd hl hv
   obtain ⟨y,d1,e1,k1,y0,y1⟩:=AJ 5 d hd
   have y1:=y1 (by omega)
   have wy:IntKind.i64.wrap (1+y)=1+y:=AW (by omega)
   refine ⟨vs,d1,HQ ?_,k1,fin vs (by omega) (by omega) hv⟩
   unfold FD
   rw [e1,Option.bind_some,wy,if_neg (by simp; omega)]
  | succ m ih =>
   intro i hi d vs hd hl hv
   obtain ⟨y,d1,e1,k1,y0,y1⟩:=AJ 5 d hd
   have y1:=y1 (by omega)
   have wy:IntKind.i64.wrap (1+y)=1+y:=AW (by omega)
   by_cases hlt:(i:Int)<1+y
   ·obtain ⟨v',d2,w1,k2,w3⟩:=inner 3 0 (by omega) (i:Int) d1 vs [] k1 (by omega) (by omega) (by simp) (.inl rfl) (by simp) (by simp)
    obtain ⟨r1,d3,q1,q2,q3⟩:=ih (i+1) (by omega) d2 (vs++[v']) k2 (by simp; omega) (fun v hv'=>by
     rcases List.mem_append.1 hv' with h | h
     ·exact hv v h
     ·simp only [List.mem_singleton] at h; subst h; exact w1)
    refine ⟨r1,d3,HQ ?_,q2,q3⟩
    unfold FD
    rw [e1,Option.bind_some,wy,if_pos (by simpa using hlt)]
    exact w3 _ (by rw [AS (show i<9223372036854775807 by omega)]; exact q1)
   ·have hi1:1≤i:=by omega
    refine ⟨vs,d1,HQ ?_,k1,fin vs (by omega) (by omega) hv⟩
    unfold FD
    rw [e1,Option.bind_some,wy,if_neg (by simpa using hlt)]
 obtain ⟨v,d',e,k,hv⟩:=outer 5 0 (by omega) d [] h rfl (fun v hv=>by cases hv)
 exact ⟨v,d',Yi (by unfold Qu; exact e),k,hv⟩
end Go.Proofs.Ytaedipailemlcaa.Core

namespace Go.Proofs.Ytaedipailemlcaa.Core
open Go
set_option linter.unusedVariables false
set_option linter.unusedSimpArgs false
theorem V8 (d:EW) (g:Az) (k:Nat) (h:G9 d) (hg:UJ g k):∃ e d',Lh d g=some (e,d',g)∧G9 d'∧N5 e=true:=by
 have hvl:=hg.views.len
 have h6:=hg.six
 have ev:∀ (kd nd at_:Int),2≤kd∧kd≤6→1≤nd∧nd≤6→0≤at_→N5 (kd,nd,at_,0,ByteArray.empty,ByteArray.empty)=true:=by
  intro kd nd at_ h1 h2 h3
  unfold N5
  simp only [show decide (1≤kd)=true from decide_eq_true (by omega),show decide (kd≤6)=true from decide_eq_true (by omega),show decide (1≤nd)=true from decide_eq_true (by omega),show decide (nd≤6)=true from decide_eq_true (by omega),show decide (0≤at_)=true from decide_eq_true h3,if_neg (show ¬ kd=1 by omega)]
  simp [g9]
 have ev1:∀ (nd at_ op:Int) (key val:ByteArray),1≤nd∧nd≤6→0≤at_→cW op key val=true→N5 (1,nd,at_,op,key,val)=true:=by
  intro nd at_ op key val h2 h3 h4
  unfold N5
  simp only [show decide (1≤nd)=true from decide_eq_true (by omega),show decide (nd≤6)=true from decide_eq_true (by omega),show decide (0≤at_)=true from decide_eq_true h3,if_true,h4]
  rfl
 have L3:∀ (m i:Nat),i+m=6→∀ (d:EW) (nd at_ op:Int) (key val:ByteArray) (a b c:_),G9 d→1≤nd∧nd≤6→∃ nd' d',CM (i:Int) d g a (1,nd,at_,op,key,val) b c=some ((1,nd',at_,op,key,val),d',g)∧G9 d'∧1≤nd'∧nd'≤6:=by
  intro m
  induction m with
  | zero =>
   intro i hi d nd at_ op key val a b c hd hn
   refine ⟨nd,d,Ft ?_,hd,hn⟩
   unfold EE
   rw [if_neg (by simp; omega)]
  | succ m ih =>
   intro i hi d nd at_ op key val a b c hd hn
   have ws:=AS (show i<9223372036854775807 by omega)
   by_cases hs:(CT g i).2.2.2.2.2.1=true
   ·obtain ⟨o,d1,e1,k1⟩:=EM 4 d hd
    cases o
    ·obtain ⟨nd',d',e2,k2,n2⟩:=ih (i+1) (by omega) d1 ((i+1:Nat):Int) at_ op key val a b c k1 (by omega)
     refine ⟨nd',d',Ft ?_,k2,n2⟩
     unfold EE
     rw [if_pos (by simp; omega),if_pos (by omega),if_pos (by omega),Int.toNat_natCast,show g.2.1.getD i ((0:Int),(0:Int),false,false,false,false,([]:List Int),([]:List Ae),(0:Int),(0:Int),(0:Int),(0:Int),(ByteArray.empty,ByteArray.empty,(0:Int)),([]:List Int))=CT g i from rfl,if_pos hs,e1,Option.bind_some,if_pos (by rfl),ws]
     exact e2
    ·obtain ⟨nd',d',e2,k2,n2⟩:=ih (i+1) (by omega) d1 nd at_ op key val a b c k1 hn
     refine ⟨nd',d',Ft ?_,k2,n2⟩
     unfold EE
     rw [if_pos (by simp; omega),if_pos (by omega),if_pos (by omega),Int.toNat_natCast,show g.2.1.getD i ((0:Int),(0:Int),false,false,false,false,([]:List Int),([]:List Ae),(0:Int),(0:Int),(0:Int),(0:Int),(ByteArray.empty,ByteArray.empty,(0:Int)),([]:List Int))=CT g i from rfl,if_pos hs,e1,Option.bind_some,if_neg (by simp),ws]
     exact e2
   ·obtain ⟨nd',d',e2,k2,n2⟩:=ih (i+1) (by omega) d nd at_ op key val a b c hd hn
    refine ⟨nd',d',Ft ?_,k2,n2⟩
    unfold EE
    rw [if_pos (by simp; omega),if_pos (by omega),if_pos (by omega),Int.toNat_natCast,show g.2.1.getD i ((0:Int),(0:Int),false,false,false,false,([]:List Int),([]:List Ae),(0:Int),(0:Int),(0:Int),(0:Int),(ByteArray.empty,ByteArray.empty,(0:Int)),([]:List Int))=CT g i from rfl,if_neg hs,ws]
    exact e2
 have L4:∀ (m i:Nat),i+m=6→∀ (d:EW) (kd nd at_:Int) (a:_),G9 d→1≤nd∧nd≤6→∃ nd' d',CN (i:Int) d g a (kd,nd,at_,0,ByteArray.empty,ByteArray.empty)=some ((kd,nd',at_,0,ByteArray.empty,ByteArray.empty),d',g)∧G9 d'∧1≤nd'∧nd'≤6:=by
  intro m
  induction m with
  | zero =>
   intro i hi d kd nd at_ a hd hn
   refine ⟨nd,d,EG ?_,hd,hn⟩
   unfold Cz
   rw [if_neg (by simp; omega)]
  | succ m ih =>
   intro i hi d kd nd at_ a hd hn
   have ws:=AS (show i<9223372036854775807 by omega)
   obtain ⟨m1,m2⟩:=hg.mem i (by omega)
   have hep:=m1.ep
   have hz:∀ j,g.2.1.getD j ((0:Int),(0:Int),false,false,false,false,([]:List Int),([]:List Ae),(0:Int),(0:Int),(0:Int),(0:Int),(ByteArray.empty,ByteArray.empty,(0:Int)),([]:List Int))=CT g j:=fun j=>rfl
   obtain ⟨nd0,d0,e0,k0,n0⟩:=ih (i+1) (by omega) d kd nd at_ a hd hn
   by_cases h1:(CT g i).2.1<(g.1.length:Int)
   ·have gv:=hg.views.get (i:=(CT g i).2.1.toNat) (by omega)
    by_cases h2:((g.1.getD (CT g i).2.1.toNat ([]:List Int)).getD (0:Int).toNat 0==(CT g i).1)=true
    ·obtain ⟨o,d1,e1,k1⟩:=EM 3 d hd
     cases o
     ·obtain ⟨nd',d',e2,k2,n2⟩:=ih (i+1) (by omega) d1 kd (CT g i).1 at_ a k1 (by omega)
      refine ⟨nd',d',EG ?_,k2,n2⟩
      unfold Cz
      rw [if_pos (by simp; omega),if_pos (by omega),if_pos (by omega),Int.toNat_natCast,hz,if_pos (by simpa using h1),if_pos (by omega),if_pos (by omega),if_pos (by omega),if_pos (by omega),if_pos h2,e1,Option.bind_some,if_pos (by rfl),ws]
      exact e2
     ·obtain ⟨nd',d',e2,k2,n2⟩:=ih (i+1) (by omega) d1 kd nd at_ a k1 hn
      refine ⟨nd',d',EG ?_,k2,n2⟩
      unfold Cz
      rw [if_pos (by simp; omega),if_pos (by omega),if_pos (by omega),Int.toNat_natCast,hz,if_pos (by simpa using h1),if_pos (by omega),if_pos (by omega),if_pos (by omega),if_pos (by omega),if_pos h2,e1,Option.bind_some,if_neg (by simp),ws]
      exact e2
    ·refine ⟨nd0,d0,EG ?_,k0,n0⟩
     unfold Cz
     rw [if_pos (by simp; omega),if_pos (by omega),if_pos (by omega),Int.toNat_natCast,hz,if_pos (by simpa using h1),if_pos (by omega),if_pos (by omega),if_pos (by omega),if_pos (by omega),if_neg h2,ws]
     exact e0
   ·refine ⟨nd0,d0,EG ?_,k0,n0⟩
    unfold Cz
    rw [if_pos (by simp; omega),if_pos (by omega),if_pos (by omega),Int.toNat_natCast,hz,if_neg (by simpa using h1),ws]
    exact e0
 have keyOk:∀ key∈([(⟨#[97]⟩:ByteArray),(⟨#[98]⟩:ByteArray),(⟨#[99]⟩:ByteArray)]:List ByteArray),key.size=1:=by
  intro key hk
  simp only [List.mem_cons,List.mem_nil_iff,or_false] at hk
  rcases hk with rfl | rfl | rfl<;>rfl
 have valOk:∀ v∈([(⟨#[118]⟩:ByteArray),(⟨#[119]⟩:ByteArray),(⟨#[120]⟩:ByteArray),(⟨#[121]⟩:ByteArray)]:List ByteArray),v.size=1:=by
  intro v hk
  simp only [List.mem_cons,List.mem_nil_iff,or_false] at hk
  rcases hk with rfl | rfl | rfl | rfl<;>rfl
 have J2:∀ (d:EW) (a:_) (kd nd at_:Int),G9 d→1≤kd∧kd≤6→1≤nd∧nd≤6→0≤at_→∃ e d',ED d g a (kd,nd,at_,0,ByteArray.empty,ByteArray.empty)=some (e,d',g)∧G9 d'∧N5 e=true:=by
  intro d a kd nd at_ hd hk hn ha
  by_cases h1:kd=1
  ·subst h1
   obtain ⟨op,d1,e1,k1,mem1⟩:=Bm [1,1,2] (by simp) d hd
   obtain ⟨key,d2,e2,k2,mem2⟩:=EN [(⟨#[97]⟩:ByteArray),(⟨#[98]⟩:ByteArray),(⟨#[99]⟩:ByteArray)] (by simp) d1 k1
   have hkey:=keyOk key mem2
   by_cases ho:op=1
   ·obtain ⟨val,d3,e3,k3,mem3⟩:=EN [(⟨#[118]⟩:ByteArray),(⟨#[119]⟩:ByteArray),(⟨#[120]⟩:ByteArray),(⟨#[121]⟩:ByteArray)] (by simp) d2 k2
    have hval:=valOk val mem3
    obtain ⟨nd',d',e4,k4,n4⟩:=L3 6 0 (by omega) d3 nd at_ op key val a _ _ k3 hn
    refine ⟨_,d',Fu ?_,k4,ev1 nd' at_ op key val n4 ha (by unfold cW; simp [ho,hkey,hval])⟩
    unfold EF
    rw [if_pos (by simp),e1,Option.bind_some,e2,Option.bind_some,if_pos (by simpa using ho),e3,Option.bind_some]
    exact e4
   ·have ho2:op=2:=by simp at mem1; omega
    obtain ⟨nd',d',e4,k4,n4⟩:=L3 6 0 (by omega) d2 nd at_ op key ByteArray.empty a _ _ k2 hn
    refine ⟨_,d',Fu ?_,k4,ev1 nd' at_ op key ByteArray.empty n4 ha (by unfold cW; simp [ho2,hkey,g9])⟩
    unfold EF
    rw [if_pos (by simp),e1,Option.bind_some,e2,Option.bind_some,if_neg (by simpa using ho)]
    exact e4
  ·by_cases h5:kd=5
   ·obtain ⟨nd',d',e4,k4,n4⟩:=L4 6 0 (by omega) d kd nd at_ a hd hn
    refine ⟨_,d',Fu ?_,k4,ev kd nd' at_ (by omega) n4 ha⟩
    unfold EF
    rw [if_neg (by simpa using h1),if_pos (by simpa using h5)]
    exact e4
   ·refine ⟨_,d,Fu ?_,hd,ev kd nd at_ (by omega) hn ha⟩
    unfold EF
    rw [if_neg (by simpa using h1),if_neg (by simpa using h5)]
 have J1:∀ (d:EW) (a:_) (kd nd at_:Int),G9 d→1≤kd∧kd≤6→1≤nd∧nd≤6→0≤at_→∃ e d',Ah d g a (kd,nd,at_,0,ByteArray.empty,ByteArray.empty)=some (e,d',g)∧G9 d'∧N5 e=true:=by
  intro d a kd nd at_ hd hk hn ha
  by_cases h2:kd=2
  ·obtain ⟨o,d1,e1,k1⟩:=EM 2 d hd
   cases o
   ·obtain ⟨e,d',e2,k2,v2⟩:=J2 d1 a kd nd at_ k1 hk hn ha
    refine ⟨e,d',Ii ?_,k2,v2⟩
    unfold Fq
    rw [if_pos (by simpa using h2),e1,Option.bind_some,if_neg (by simp)]
    exact e2
   ·obtain ⟨e,d',e2,k2,v2⟩:=J2 d1 a kd nd 0 k1 hk hn (by omega)
    refine ⟨e,d',Ii ?_,k2,v2⟩
    unfold Fq
    rw [if_pos (by simpa using h2),e1,Option.bind_some,if_pos (by rfl)]
    exact e2
  ·obtain ⟨e,d',e2,k2,v2⟩:=J2 d a kd nd at_ hd hk hn ha
   refine ⟨e,d',Ii ?_,k2,v2⟩
   unfold Fq
   rw [if_neg (by simpa using h2)]
   exact e2
 have six:∀ (d:EW) (a:_) (kd nd at_:Int),G9 d→1≤kd∧kd≤6→1≤nd∧nd≤6→0≤at_→∃ e d',(if (kd==6)=true then ((Bx 4 d).bind fun y5=>(if (!y5.1)=true then (Ah y5.2 g a (1,nd,at_,0,ByteArray.empty,ByteArray.empty)) else (Ah y5.2 g a (kd,nd,at_,0,ByteArray.empty,ByteArray.empty)))) else (Ah d g a (kd,nd,at_,0,ByteArray.empty,ByteArray.empty)))=some (e,d',g)∧G9 d'∧N5 e=true:=by
  intro d a kd nd at_ hd hk hn ha
  by_cases h2:kd=6
  ·obtain ⟨o,d1,e1,k1⟩:=EM 4 d hd
   cases o
   ·obtain ⟨e,d',e2,k2,v2⟩:=J1 d1 a 1 nd at_ k1 (by omega) hn ha
    refine ⟨e,d',?_,k2,v2⟩
    rw [if_pos (by simpa using h2),e1,Option.bind_some,if_pos (by rfl)]
    exact e2
   ·obtain ⟨e,d',e2,k2,v2⟩:=J1 d1 a kd nd at_ k1 hk hn ha
    refine ⟨e,d',?_,k2,v2⟩
    rw [if_pos (by simpa using h2),e1,Option.bind_some,if_neg (by simp)]
    exact e2
  ·obtain ⟨e,d',e2,k2,v2⟩:=J1 d a kd nd at_ hd hk hn ha
   refine ⟨e,d',?_,k2,v2⟩
   rw [if_neg (by simpa using h2)]
   exact e2
 obtain ⟨kd,d1,e1,k1,mem1⟩:=Bm [1,1,1,2,2,2,2,2,2,2,2,3,4,5,6] (by simp) d h
 obtain ⟨nd,d2,e2,k2,n0,n1⟩:=AJ 4 d1 k1
 obtain ⟨at_,d3,e3,k3,a0,a1⟩:=AJ 20 d2 k2
 have n1:=n1 (by omega)
 have wn:IntKind.i64.wrap (1+nd)=1+nd:=AW (by omega)
 have hkd:1≤kd∧kd≤6:=by
  simp only [List.mem_cons,List.mem_nil_iff,or_false] at mem1
  omega
 have fin:∃ e d',Ih d3 g ((0:Int),(0:Int),(0:Int),(0:Int),ByteArray.empty,ByteArray.empty) (kd,1+nd,at_,0,ByteArray.empty,ByteArray.empty)=some (e,d',g)∧G9 d'∧N5 e=true:=by
  by_cases hf:((g.2.2.1.length:Int)==0)=true
  ·cases hin:(decide (2≤kd)&&decide (kd≤4)) with
   | true =>
    obtain ⟨e,d',e4,k4,v4⟩:=J1 d3 ((0:Int),(0:Int),(0:Int),(0:Int),ByteArray.empty,ByteArray.empty) 1 (1+nd) at_ k3 (by omega) (by omega) a0
    refine ⟨e,d',Ij ?_,k4,v4⟩
    unfold Fs
    rw [if_pos hf,Ac,Option.bind_some,if_pos hin,if_neg (show ¬ ((1:Int)==6)=true by decide)]
    exact e4
   | false =>
    obtain ⟨e,d',e4,k4,v4⟩:=six d3 ((0:Int),(0:Int),(0:Int),(0:Int),ByteArray.empty,ByteArray.empty) kd (1+nd) at_ k3 hkd (by omega) a0
    refine ⟨e,d',Ij ?_,k4,v4⟩
    unfold Fs
    rw [if_pos hf,Ac,Option.bind_some,if_neg (by rw [hin]; simp)]
    exact e4
  ·obtain ⟨e,d',e4,k4,v4⟩:=six d3 ((0:Int),(0:Int),(0:Int),(0:Int),ByteArray.empty,ByteArray.empty) kd (1+nd) at_ k3 hkd (by omega) a0
   refine ⟨e,d',Ij ?_,k4,v4⟩
   unfold Fs
   rw [if_neg hf]
   exact e4
 obtain ⟨e,d',e4,k4,v4⟩:=fin
 refine ⟨e,d',aV ?_,k4,v4⟩
 unfold R6
 rw [e1,Option.bind_some,e2,Option.bind_some,e3,Option.bind_some,wn]
 exact e4
end Go.Proofs.Ytaedipailemlcaa.Core

namespace Go.Proofs.Ytaedipailemlcaa.Core
open Go
set_option linter.unusedVariables false
set_option linter.unusedSimpArgs false
theorem V9 (x:List Int) (d:EW) (hx:x.length≤1048576) (h:G9 d):∃ v es d',Lf x d=some ((v,es),d')∧G9 d'∧T_ v∧es.length≤69∧∀ e∈es,N5 e=true:=by
 obtain ⟨v,d1,e1,k1,hv⟩:=UF d h
 have L:∀ (n:Nat),n≤69→∀ a b,∃ es d',Cy (n:Int) ((0:Nat):Int) d1 a b [] v (Cg v)=some ((v,es),d')∧G9 d'∧es.length≤69∧∀ e∈es,N5 e=true:=by
  intro n hn a b
  refine Gh (n:=n) (P:=fun i=>∀ (d:EW) (es:List Kh) (g:Az),G9 d→UJ g i→es.length=i→(∀ e∈es,N5 e=true)→∃ es' d',Cy (n:Int) (i:Int) d a b es v g=some ((v,es'),d')∧G9 d'∧es'.length≤69∧∀ e∈es',N5 e=true) (fun d es g hd hg hl he=>?_) (fun i hi ih d es g hd hg hl he=>?_) 0 (by omega) d1 [] (Cg v) k1 (Xj hv) rfl (fun e he=>by cases he)
  ·refine ⟨es,d,NL ?_,hd,by omega,he⟩
   unfold Ie
   rw [if_neg (by simp)]
  ·obtain ⟨e,d2,e2,k2,ke⟩:=V8 d g i hd hg
   obtain ⟨q1,q2,q3⟩:=Ki (i:Int) e g i hg (by omega) ke
   obtain ⟨es',d3,e3,k3⟩:=ih d2 (es++[e]) (kM g (i:Int) e).2 k2 q2 (by simp; omega) (fun y hy=>by
    rcases List.mem_append.1 hy with hy | hy
    ·exact he y hy
    ·rw [List.mem_singleton.1 hy]; exact ke)
   refine ⟨es',d3,NL ?_,k3⟩
   unfold Ie
   rw [if_pos (by simpa using hi),e2,Option.bind_some]
   dsimp only
   rw [q1,Option.bind_some,if_pos (by simp; omega),AS (by omega)]
   exact e3
 have wq:IntKind.i64.wrap (Int.tdiv (x.length:Int) 4)=((x.length / 4:Nat):Int):=by
  rw [Int.tdiv_eq_ediv_of_nonneg (by omega),AW (by omega)]
  omega
 have wn:IntKind.i64.wrap (20+((x.length / 4:Nat):Int))=((20+x.length / 4:Nat):Int):=by rw [AW (by omega)]; omega
 by_cases hn:20+x.length / 4≤69
 ·obtain ⟨es,d',e,k,k2⟩:=L (20+x.length / 4) hn [] []
  refine ⟨v,es,d',R3 ?_,k,hv,k2⟩
  unfold Lz
  rw [e1,Option.bind_some,I2 hv,Option.bind_some,if_neg (by omega),wq,wn,if_neg (by simp; omega)]
  exact e
 ·obtain ⟨es,d',e,k,k2⟩:=L 69 (by omega) [] []
  refine ⟨v,es,d',R3 ?_,k,hv,k2⟩
  unfold Lz
  rw [e1,Option.bind_some,I2 hv,Option.bind_some,if_neg (by omega),wq,wn,if_pos (by simp; omega)]
  exact e
def lc (g:Az):Prop:=∃ v es,T_ v∧es.length≤70∧(∀ e∈es,N5 e=true)∧g=(PO 0 es (Cg v) []).1
theorem UG (x:List Int) (d:EW) (hx:x.length≤1048576) (h:G9 d):∃ g d' n,KO x d=some (g,d')∧G9 d'∧UJ g n∧n≤69∧lc g:=by
 obtain ⟨v,es,d1,e1,k1,hv,hl,he⟩:=V9 x d hx h
 obtain ⟨r1,r2,r3⟩:=de es 0 (Cg v) [] (Xj hv) (by omega) he
 refine ⟨_,d1,0+es.length,Yf ?_,k1,r1,by omega,v,es,hv,by omega,he,rfl⟩
 unfold Qr
 rw [e1,Option.bind_some,V7 hv (by omega) he,Option.bind_some]
theorem V_:∃ b,Lk 13 65=some b:=by
 have key:=Gh (n:=13) (P:=fun i=>∀ l:List Int,l.length=13→∃ b,Fx 13 65 (i:Int) l=some b) (fun l hl=>⟨_,NT (by
  unfold Ip
  rw [if_neg (by simp)])⟩) (fun i hi ih l hl=>by
  obtain ⟨b,hb⟩:=ih (l.set i 65) (by simpa using hl)
  refine ⟨b,NT ?_⟩
  unfold Ip
  rw [if_pos (by simp; omega),if_pos (by omega),if_pos (by omega),AS (by omega),Int.toNat_natCast]
  exact hb) 0 (by omega) (List.replicate 13 0) (by simp)
 obtain ⟨b,hb⟩:=key
 exact ⟨b,ah (by
  unfold SH
  rw [if_pos (by omega),if_pos (by omega)]
  exact hb)⟩
theorem WA (n:Nat) (h:n<1000):∃ b,Ll (n:Int)=some b∧b.size≤100:=by
 have one:∀ y:Int,(K6 ([y]:List Int)).size=1:=fun y=>rfl
 have fig:∀ y:Int,∃ r,JN y=some r:=fun y=>by
  by_cases hy:y<10
  ·exact ⟨_,O3 (by unfold Jd; rw [if_pos (by simpa using hy)])⟩
  ·exact ⟨_,O3 (by unfold Jd; rw [if_neg (by simpa using hy)])⟩
 have L:∀ (k n:Nat) (acc:ByteArray),n<10^k→n<1000→acc.size+k≤100→∃ b,Fy (n:Int) false acc=some b∧b.size≤100:=by
  intro k
  induction k with
  | zero =>
   intro n acc hn hk ha
   have:n=0:=by simpa using hn
   subst this
   refine ⟨acc,Ir ?_,by omega⟩
   unfold Fz
   rw [if_neg (by simp),if_neg (by simp)]
  | succ k ih =>
   intro n acc hn hk ha
   by_cases h0:n=0
   ·subst h0
    refine ⟨acc,Ir ?_,by omega⟩
    unfold Fz
    rw [if_neg (by simp),if_neg (by simp)]
   ·obtain ⟨r,hr⟩:=fig (Int.tmod (n:Int) 10)
    have hq:n / 10<10^k:=by rw [Nat.pow_succ] at hn; omega
    obtain ⟨b,hb,hs⟩:=ih (n / 10) (K6 ([r]:List Int)++acc) hq (by omega) (by rw [ByteArray.size_append,one]; omega)
    refine ⟨b,Ir ?_,hs⟩
    unfold Fz
    rw [if_pos (by simpa using h0),if_neg (by omega),if_neg (by have:=Int.tmod_nonneg (a:=(n:Int)) 10 (by omega); simp; omega)]
    refine Vc ?_
    unfold NV
    rw [hr,Option.bind_some,if_pos (by rw [one]; omega),if_neg (by omega),Int.tdiv_eq_ediv_of_nonneg (by omega),AW (by omega)]
    exact hb
 by_cases h0:n=0
 ·subst h0
  exact ⟨_,SI (by unfold ME; rw [if_pos (by rfl)]),by decide⟩
 ·obtain ⟨b,hb,hs⟩:=L 3 n ⟨#[]⟩ (by omega) h (by decide)
  refine ⟨b,SI ?_,hs⟩
  unfold ME
  rw [if_neg (by simpa using h0),show decide ((n:Int)<0)=false from decide_eq_false (by omega)]
  exact hb
theorem RQ (d:EW) (h:G9 d):∃ x d',HE d=some (x,d')∧G9 d'∧x.length≤100:=by
 obtain ⟨x,d1,e1,k1,hx,hl⟩:=MG d h
 obtain ⟨v,d2,e2,k2,v0,v1⟩:=AJ 16 d1 k1
 suffices g:∃ x' d',HS d=some (x',d')∧G9 d'∧x'.length≤100 from by
  obtain ⟨x',d',e,k⟩:=g
  exact ⟨x',d',Tx e,k⟩
 unfold HS
 rw [e1,Option.bind_some,e2,Option.bind_some]
 dsimp only
 by_cases c0:v=0
 ·obtain ⟨a,d3,e3,k3,_⟩:=Iz d2 k2
  rw [if_pos (by simpa using c0),e3,Option.bind_some,if_pos (by simp; omega)]
  exact ⟨_,_,rfl,k3,by simp; omega⟩
 rw [if_neg (by simpa using c0)]
 by_cases c1:v=1
 ·rw [if_pos (by simpa using c1)]
  by_cases hp:0<x.length
  ·obtain ⟨a,d3,e3,k3,_⟩:=Bm [0,(-1),1000000000,1000000001] (by simp) d2 k2
   rw [if_pos (by simpa using hp),e3,Option.bind_some,if_pos (by omega),if_pos (by omega)]
   exact ⟨_,_,rfl,k3,by simp; omega⟩
  ·rw [if_neg (by simpa using hp)]
   exact ⟨_,_,rfl,k2,by omega⟩
 rw [if_neg (by simpa using c1)]
 by_cases c2:v=2
 ·rw [if_pos (by simpa using c2)]
  by_cases hp:0<x.length
  ·obtain ⟨b,hb⟩:=V_
   obtain ⟨a,d3,e3,k3,_⟩:=EN [(⟨#[]⟩:ByteArray),b] (by simp) d2 k2
   rw [if_pos (by simpa using hp),hb,Option.bind_some,e3,Option.bind_some,if_pos (by omega),if_pos (by omega)]
   exact ⟨_,_,rfl,k3,by simp; omega⟩
  ·rw [if_neg (by simpa using hp)]
   exact ⟨_,_,rfl,k2,by omega⟩
 rw [if_neg (by simpa using c2)]
 by_cases c3:v=3
 ·rw [if_pos (by simpa using c3)]
  have key:=Gh (n:=13) (P:=fun i=>∀ (d:EW) (l:List Ae),G9 d→l.length≤i→∃ x' d',Dr (i:Int) d x l=some (x',d')∧G9 d'∧x'.length≤100) (fun d l hd hl=>by
    obtain ⟨y,d3,e3,k3,y0,y1⟩:=AJ 2 d hd
    have y1:=y1 (by omega)
    refine ⟨l,d3,Fd ?_,k3,by omega⟩
    unfold Ds
    rw [e3,Option.bind_some,AW (by omega),if_neg (by simp; omega)])
   (fun i hi ih d l hd hl=>by
    obtain ⟨y,d3,e3,k3,y0,y1⟩:=AJ 2 d hd
    have y1:=y1 (by omega)
    by_cases hc:(i:Int)<12+y
    ·obtain ⟨b,hb,hs⟩:=WA (10+i) (by omega)
     obtain ⟨x',d4,e4,k4⟩:=ih d3 (l++[((⟨#[109]⟩:ByteArray)++b,(⟨#[]⟩:ByteArray),5)]) k3 (by simp; omega)
     refine ⟨x',d4,Fd ?_,k4⟩
     unfold Ds
     have w1:IntKind.i64.wrap (10+(i:Int))=((10+i:Nat):Int):=by rw [AW (by omega)]; omega
     rw [e3,Option.bind_some,AW (n:=12+y) (by omega),if_pos (by simpa using hc),w1,hb,Option.bind_some,if_pos (by show 1+b.size≤_; omega),if_pos (by simp; omega),AS (by omega)]
     exact e4
    ·refine ⟨l,d3,Fd ?_,k3,by omega⟩
     unfold Ds
     rw [e3,Option.bind_some,AW (by omega),if_neg (by simpa using hc)]) 0 (by omega) d2 [] k2 (by simp)
  exact key
 rw [if_neg (by simpa using c3)]
 exact ⟨_,_,rfl,k2,by omega⟩
theorem Xk (d:EW) (h:G9 d):∃ x d',Nw d=some (x,d')∧G9 d'∧x.2.2.2.2.2.length≤100:=by
 obtain ⟨v1,d1,e1,k1,_⟩:=AJ 8 d h
 obtain ⟨v2,d2,e2,k2,_⟩:=AJ 4 d1 k1
 obtain ⟨v3,d3,e3,k3,_⟩:=AJ 4 d2 k2
 obtain ⟨v4,d4,e4,k4,_⟩:=AJ 4 d3 k3
 obtain ⟨v5,d5,e5,k5,_⟩:=AJ 6 d4 k4
 have J1:∀ (a:Int) (b:Bool) (z x:B3),x.2.2.2.2.2.length≤100→∃ x' d',GT a b d5 z x=some (x',d')∧G9 d'∧x'.2.2.2.2.2.length≤100:=fun a b z x hx=>by
  cases b with
  | true =>
   obtain ⟨y,d6,e6,k6,_,hl⟩:=MG d5 k5
   exact ⟨_,_,JV (by unfold GU; rw [if_pos rfl,e6,Option.bind_some]),k6,by show y.length≤100; omega⟩
  | false =>
   by_cases ha:a=5
   ·obtain ⟨y,d6,e6,k6,_⟩:=Iz d5 k5
    exact ⟨_,_,JV (by unfold GU; rw [if_neg (by simp),if_pos (by simpa using ha),e6,Option.bind_some]),k6,by show [y].length≤100; simp⟩
   ·exact ⟨_,_,JV (by unfold GU; rw [if_neg (by simp),if_neg (by simpa using ha)]),k5,hx⟩
 have J0:∀ (z x:B3),x.2.2.2.2.2.length≤100→∃ x' d',JT d5 z x=some (x',d')∧G9 d'∧x'.2.2.2.2.2.length≤100:=fun z x hx=>by
  by_cases ha:x.1=2
  ·obtain ⟨x',d',e,k⟩:=J1 x.1 (x.1==2) z x hx
   exact ⟨x',d',Ox (by unfold JU; rw [if_pos (by simpa using ha)]; exact e),k⟩
  ·obtain ⟨x',d',e,k⟩:=J1 x.1 (x.1==3) z x hx
   exact ⟨x',d',Ox (by unfold JU; rw [if_neg (by simpa using ha)]; exact e),k⟩
 obtain ⟨x',d',e,k⟩:=J0 FT (IntKind.i64.wrap (1+v1),IntKind.i64.wrap (1+v2),IntKind.i64.wrap (1+v3),IntKind.i64.wrap (1+v4),v5,[]) (by simp)
 refine ⟨x',d',bl ?_,k⟩
 unfold TH
 rw [e1,Option.bind_some,e2,Option.bind_some,e3,Option.bind_some,e4,Option.bind_some,e5,Option.bind_some]
 exact e
theorem S7 (d:EW) (h:G9 d):∃ x d',JL d=some (x,d')∧G9 d'∧x.2.2.2.2.2.length≤100:=by
 obtain ⟨x,d1,e1,k1,hx⟩:=Xk d h
 obtain ⟨v,d2,e2,k2,v0,v1⟩:=AJ 20 d1 k1
 suffices g:∃ x' d',JS d=some (x',d')∧G9 d'∧x'.2.2.2.2.2.length≤100 from by
  obtain ⟨x',d',e,k⟩:=g
  exact ⟨x',d',Wx e,k⟩
 unfold JS
 rw [e1,Option.bind_some,e2,Option.bind_some]
 dsimp only
 split
 ·obtain ⟨a,d3,e3,k3,_⟩:=Bm [0,1,2,5,9] (by simp) d2 k2
  rw [e3,Option.bind_some]
  exact ⟨_,_,rfl,k3,hx⟩
 ·split
  ·obtain ⟨a,d3,e3,k3,_⟩:=Bm [0,6,7] (by simp) d2 k2
   rw [e3,Option.bind_some]
   exact ⟨_,_,rfl,k3,hx⟩
  ·split
   ·obtain ⟨a,d3,e3,k3,_⟩:=Bm [0,9,10] (by simp) d2 k2
    rw [e3,Option.bind_some]
    exact ⟨_,_,rfl,k3,hx⟩
   ·split
    ·obtain ⟨a,d3,e3,k3,_⟩:=Bm [(-1),1000000000,1000000001] (by simp) d2 k2
     rw [e3,Option.bind_some]
     exact ⟨_,_,rfl,k3,hx⟩
    ·split
     ·obtain ⟨y,d3,e3,k3,hy⟩:=RQ d2 k2
      rw [e3,Option.bind_some]
      exact ⟨_,_,rfl,k3,hy⟩
     ·exact ⟨_,_,rfl,k2,hx⟩
theorem kH {g:Az} {k:Nat} (hg:UJ g k) {i:Nat} (hi:i<g.2.2.1.length):(g.2.2.1.getD i FT).2.2.2.2.2.length≤100:=by
 rw [Ab hi]
 have:=PJ (hg.fly _ (List.getElem_mem hi)).items
 omega
theorem UH (g:Az) (k:Nat) (hg:UJ g k) (m:AA) (d:EW) (h:G9 d):∃ x d',FR g m d=some (x,d')∧G9 d'∧x.2.2.2.2.2.length≤100:=by
 obtain ⟨x,d1,e1,k1,hx⟩:=S7 d h
 have J1:∀ (a:Bool) (d:EW) (z x:B3),G9 d→x.2.2.2.2.2.length≤100→∃ x' d',HL a d g m z x=some (x',d')∧G9 d'∧x'.2.2.2.2.2.length≤100:=fun a d z x hd hx=>by
  obtain ⟨v,d2,e2,k2,_⟩:=AJ 2 d hd
  exact ⟨(x.1,x.2.1,x.2.2.1,IntKind.i64.wrap (m.2.1+v),m.2.2.2.2.2.2.2.2.2.2.2.1,x.2.2.2.2.2),d2,Tq (by unfold Lw; rw [e2,Option.bind_some]),k2,hx⟩
 have J0:∀ (a:Bool) (d:EW) (z x:B3),(a=true→0<g.2.2.1.length)→G9 d→x.2.2.2.2.2.length≤100→∃ x' d',FB a d g m z x=some (x',d')∧G9 d'∧x'.2.2.2.2.2.length≤100:=fun a d z x ha hd hx=>by
  cases a with
  | true =>
   have ha:=ha rfl
   obtain ⟨v,d2,e2,k2,v0,v1⟩:=AJ (g.2.2.1.length:Int) d hd
   have v1:=v1 (by omega)
   refine ⟨g.2.2.1.getD v.toNat FT,d2,Lx (by unfold HM; rw [if_pos rfl,e2,Option.bind_some,if_pos v0,if_pos v1]; rfl),k2,kH hg (by omega)⟩
  | false =>
   obtain ⟨x',d',e,k⟩:=J1 false d z x hd hx
   exact ⟨x',d',Lx (by unfold HM; rw [if_neg (by simp)]; exact e),k⟩
 by_cases hf:0<g.2.2.1.length
 ·obtain ⟨o,d2,e2,k2⟩:=EM 3 d1 k1
  obtain ⟨x',d',e,k⟩:=J0 (!o) d2 FT (x.1,x.2.1,m.1,x.2.2.2) (fun _=>hf) k2 hx
  refine ⟨x',d',Qs ?_,k⟩
  unfold KW
  rw [e1,Option.bind_some,if_pos (by simpa using hf),e2,Option.bind_some]
  exact e
 ·obtain ⟨x',d',e,k⟩:=J0 false d1 FT (x.1,x.2.1,m.1,x.2.2.2) (fun h=>by cases h) k1 hx
  refine ⟨x',d',Qs ?_,k⟩
  unfold KW
  rw [e1,Option.bind_some,if_neg (by simpa using hf)]
  exact e
theorem MN (x:List Int) (hx:x.length≤1048576):∃ m v y,E7 x=some (m,v,y)∧Hq m∧T_ v∧y.2.2.2.2.2.length≤100:=by
 obtain ⟨d,e0,k0⟩:=Xe x (by unfold maxLen; omega)
 obtain ⟨g,d1,n,e1,k1,hg,hn⟩:=UG x d hx k0
 have h6:=hg.six
 obtain ⟨v,d2,e2,k2,v0,v1⟩:=AJ (g.2.1.length:Int) d1 k1
 have v1:=v1 (by omega)
 obtain ⟨y,d3,e3,k3,hy⟩:=UH g n hg (CT g v.toNat) d2 k2
 by_cases hc:1≤y.2.2.1∧y.2.2.1≤6
 ·refine ⟨CT g (y.2.2.1-1).toNat,g.1,y,IY ?_,(hg.mem _ (by omega)).1,hg.views,hy⟩
  unfold FA
  rw [e0,Option.bind_some,e1,Option.bind_some,e2,Option.bind_some,if_pos v0,if_pos v1]
  change ((FR g (CT g v.toNat) d2).bind _)=_
  rw [e3,Option.bind_some]
  dsimp only
  rw [Ac,Option.bind_some,if_pos (by rw [h6]; simp; omega),AW (by omega),if_pos (by omega),if_pos (by omega)]
  rfl
 ·refine ⟨CT g v.toNat,g.1,y,IY ?_,(hg.mem _ (by omega)).1,hg.views,hy⟩
  unfold FA
  rw [e0,Option.bind_some,e1,Option.bind_some,e2,Option.bind_some,if_pos v0,if_pos v1]
  change ((FR g (CT g v.toNat) d2).bind _)=_
  rw [e3,Option.bind_some]
  dsimp only
  rw [Ac,Option.bind_some,if_neg (by rw [h6]; simp; omega)]
  rfl
end Go.Proofs.Ytaedipailemlcaa.Core

namespace Go.Proofs.Ytaedipailemlcaa.Core
open Go
set_option linter.unusedVariables false
set_option linter.unusedSimpArgs false
def gD (views:List (List Int)) (e:Int):Int:=(views.getD (e-1).toNat []).getD 0 0
def Sa (l:List Ae) (b:Int):Prop:=∀ y∈l,y.2.2≤b
theorem Sa.mono {l:List Ae} {a b:Int} (h:Sa l a) (hab:a≤b):Sa l b:=fun y hy=>Int.le_trans (h y hy) hab
theorem eU {x:List Ae} {a b:Ae} (h:b∈EZ x a):b=a∨b∈x:=by
 unfold EZ at h
 split at h
 ·exact .inr h
 ·split at h
  ·split at h
   ·exact i9 h
   ·exact .inr h
  ·exact .inr h
theorem Sa.put {l:List Ae} {a:Ae} {b:Int} (h:Sa l b) (ha:a.2.2≤b):Sa (EZ l a) b:=fun y hy=>by
 rcases eU hy with e | e
 ·rw [e]; exact ha
 ·exact h y e
structure V1 (views:List (List Int)) (m:AA):Prop where
 lead:m.2.2.2.2.1=true→m.2.1≤(views.length:Int)∧gD views m.2.1=m.1
 ver:Sa m.2.2.2.2.2.2.2.1 (1000*m.2.1+900)
 own:m.2.2.2.2.1=true→m.2.2.2.1=true→Sa m.2.2.2.2.2.2.2.1 (1000*m.2.1+m.2.2.2.2.2.2.2.2.1)
 task:m.2.2.2.2.2.2.2.2.2.1≠0→m.2.2.2.2.2.2.2.2.2.2.2.2.1.2.2≤1000*m.2.1+m.2.2.2.2.2.2.2.2.1
structure V2 (views:List (List Int)) (x:B3):Prop where
 inst:x.1=3→x.2.2.2.2.1=0
 old:x.1=2∨x.1=3→Sa x.2.2.2.2.2 (1000*x.2.2.2.1)
 store:x.1=5→x.2.2.1≠gD views x.2.2.2.1∧Sa x.2.2.2.2.2 (1000*x.2.2.2.1+900)
theorem V1.finish {views:List (List Int)} {m:AA} (h:V1 views m) (hc:m.2.2.2.2.2.2.2.2.1≤900) (h0:m.2.2.2.2.2.2.2.2.2.1≠0):V1 views (Ea m).2:=by
 have ht:=h.task h0
 unfold Ea
 split
 ·exact ⟨h.lead,h.ver.put (by omega),fun h1 h2=>(h.own h1 h2).put ht,fun h0=>absurd rfl h0⟩
 ·exact ⟨h.lead,h.ver,h.own,fun h0=>absurd rfl h0⟩
theorem V1.bare {views:List (List Int)} {m:AA} (h:V1 views m) {e:Int} (he:m.2.1≤e):V1 views (SX m e) :=
 ⟨fun h=>(by cases h),h.ver.mono (by show _≤1000*e+900; omega),fun h=>(by cases h),fun h=>absurd rfl h⟩
theorem V1.has {views:List (List Int)} {m:AA} {view:List Int} {its:List Ae} (h:V1 views m) (hc:0≤m.2.2.2.2.2.2.2.2.1) (hi:Sa its (1000*m.2.1)):V1 views (Kg m view its) :=
 ⟨h.lead,hi.mono (by show _≤1000*m.2.1+900; omega),fun _ _=>hi.mono (by show _≤1000*m.2.1+m.2.2.2.2.2.2.2.2.1; omega),h.task⟩
def V4 (views:List (List Int)) (n:AA) (told:List B3):Prop:=V1 views n∧∀ y∈told,V2 views y
theorem gE {view:List Int} {i v:Int} (h:v∈Bn view i):v≠i:=by
 have:=(List.mem_filter.1 h).2
 simpa using this
structure V3 (g:Az):Prop where
 mem:∀ i,i<6→V1 g.1 (CT g i)
 fly:∀ x∈g.2.2.1,V2 g.1 x
theorem V3.member {g:Az} (h:V3 g) (h6:g.2.1.length=6) {n:AA} {told:List B3} {said:List Dn} {at_:Int} {i:Nat} (hi:i<6) (hid:n.1=(i:Int)+1) (hn:V4 g.1 n told):V3 (Ga g n told said at_):=by
 refine ⟨fun j hj=>?_,fun x hx=>?_⟩
 ·rw [eT h6 hj hid hi]
  split
  ·exact hn.1
  ·exact h.mem j hj
 ·rcases List.mem_append.1 hx with h1 | h1
  ·exact h.fly x h1
  ·exact hn.2 x h1
theorem V3.less {g:Az} (h:V3 g) (i:Nat):V3 (bI g i):=⟨h.mem,fun x hx=>by
 rcases List.mem_append.1 hx with h1 | h1
 ·exact h.fly x (List.mem_of_mem_take h1)
 ·exact h.fly x (List.mem_of_mem_drop h1)⟩
end Go.Proofs.Ytaedipailemlcaa.Core

namespace Go.Proofs.Ytaedipailemlcaa.Core
open Go
set_option linter.unusedVariables false
set_option linter.unusedSimpArgs false
theorem WB (a b:Int):IT a b=some (decide (a<b)):=ak (by
 have h:∀ a,G5 a=some false:=fun a=>Yy (by unfold RA; simp)
 unfold SJ
 rw [h,Option.bind_some,if_neg (by simp)])
def df (l:List Int) (j:Nat):List Int:=(l.set (j+1) (l.getD j 0)).set j (l.getD (j+1) 0)
def jE:Nat→List Int→List Int
 | 0,l=>l
 | j+1,l=>if l.getD (j+1) 0<l.getD j 0 then jE j (df l j) else l
def lF:Nat→Nat→List Int→List Int
 | 0,_,l=>l
 | k+1,i,l=>lF k (i+1) (jE i l)
theorem WC (l:List Int) (j:Nat):(df l j).length=l.length:=by simp [df]
theorem ZK:∀ (j:Nat) (l:List Int),(jE j l).length=l.length
 | 0,l=>rfl
 | j+1,l=>by
  unfold jE
  split
  ·rw [ZK j,WC]
  ·rfl
theorem hY {l:List Int} {j:Nat} (h:j+1<l.length):(df l j).Perm l:=by
 obtain ⟨p,a,b,q,rfl,rfl⟩:∃ p a b q,l=p++a::b::q∧p.length=j :=
  ⟨l.take j,l[j],l[j+1],l.drop (j+2),by rw [← List.drop_eq_getElem_cons h,← List.drop_eq_getElem_cons (show j<l.length by omega),List.take_append_drop],by rw [List.length_take]; omega⟩
 have e:df (p++a::b::q) p.length=p++b::a::q:=by
  unfold df
  have e1:(p++a::b::q).getD p.length 0=a:=by simp [List.getD]
  have e2:(p++a::b::q).getD (p.length+1) 0=b:=by simp [List.getD]
  rw [e1,e2,List.set_append_right _ _ (by omega),List.set_append_right _ _ (by omega)]
  simp
 rw [e]
 exact List.Perm.append_left p (List.Perm.swap a b q)
theorem eV:∀ (j:Nat) (l:List Int),j<l.length→(jE j l).Perm l
 | 0,l,_=>List.Perm.refl l
 | j+1,l,h=>by
  unfold jE
  split
  ·exact (eV j _ (by rw [WC]; omega)).trans (hY h)
  ·exact List.Perm.refl l
theorem bJ:∀ (k i:Nat) (l:List Int),i+k=l.length→(lF k i l).Perm l
 | 0,_,l,_=>List.Perm.refl l
 | k+1,i,l,h=>(bJ k (i+1) _ (by rw [ZK]; omega)).trans (eV i l (by omega))
theorem gF {l:List Int} {j:Nat} (h:j+1<l.length) (a:Nat):(df l j).getD a 0=if a=j then l.getD (j+1) 0 else if a=j+1 then l.getD j 0 else l.getD a 0:=by
 unfold df
 simp only [List.getD_eq_getElem?_getD,List.getElem?_set,List.length_set]
 by_cases h1:a=j
 ·subst h1
  rw [if_pos rfl,if_pos (by omega),if_pos rfl]
  simp
 ·rw [if_neg (fun e=>h1 e.symm),if_neg h1]
  by_cases h2:a=j+1
  ·subst h2
   rw [if_pos rfl,if_pos (by omega),if_pos rfl]
   simp
  ·rw [if_neg (fun e=>h2 e.symm),if_neg h2]
def lA (i:Nat) (l:List Int):Prop:=∀ a b,a<b→b≤i→l.getD a 0≤l.getD b 0
theorem jF (i:Nat):∀ (j:Nat) (l:List Int),j≤i→i<l.length→(∀ a b,a<b→b≤i→b≠j→l.getD a 0≤l.getD b 0)→lA i (jE j l)
 | 0,l,_,_,h=>fun a b h1 h2=>h a b h1 h2 (by omega)
 | j+1,l,hj,hi,h=>by
  unfold jE
  split
  ·rename_i hlt
   refine jF i j _ (by omega) (by rw [WC]; exact hi) fun a b h1 h2 h3=>?_
   rw [gF (by omega),gF (by omega)]
   rw [if_neg h3]
   by_cases hb:b=j+1
   ·subst hb
    rw [if_pos rfl]
    by_cases ha:a=j
    ·rw [if_pos ha]; omega
    ·rw [if_neg ha,if_neg (by omega)]
     exact h a j (by omega) (by omega) (by omega)
   ·rw [if_neg hb]
    by_cases ha:a=j
    ·rw [if_pos ha]; exact h (j+1) b (by omega) h2 hb
    ·rw [if_neg ha]
     by_cases ha2:a=j+1
     ·rw [if_pos ha2]; exact h j b (by omega) h2 hb
     ·rw [if_neg ha2]; exact h a b h1 h2 hb
  ·rename_i hlt
   intro a b h1 h2
   by_cases hb:b=j+1
   ·subst hb
    by_cases ha:a=j
    ·subst ha; omega
    ·have:=h a j (by omega) (by omega) (by omega)
     omega
   ·exact h a b h1 h2 hb
theorem jG:∀ (k i:Nat) (l:List Int),i+k=l.length→1≤i→lA (i-1) l→lA (l.length-1) (lF k i l)
 | 0,i,l,h,hi,hu=>by
  have:i-1=l.length-1:=by omega
  rw [← this]; exact hu
 | k+1,i,l,h,hi,hu=>by
  have:=jG k (i+1) (jE i l) (by rw [ZK]; omega) (by omega) (by
   rw [Nat.add_sub_cancel]
   exact jF i i l (Nat.le_refl _) (by omega) fun a b h1 h2 h3=>hu a b h1 (by omega))
  rw [ZK] at this
  exact this
theorem gG (n i:Nat) (hn:n≤12) (g:List Int→List Int) (K:∀ l:List Int,l.length=n→Af 0 (n:Int) ((i:Int)+1) l=some (g l)) (hi:i<n) :
  ∀ (j:Nat) (l:List Int),j<n→l.length=n→BF 0 (n:Int) (i:Int) (j:Int) l=some (g (jE j l))
 | 0,l,hj,hl=>DA (by
  unfold Bt
  rw [if_neg (by simp),AW (by omega)]
  exact K l hl)
 | j+1,l,hj,hl=>DA (by
  unfold Bt
  have e1:IntKind.i64.wrap (((j+1:Nat):Int)-1)=(j:Int):=by rw [AW (by omega)]; omega
  have e2:((j+1:Nat):Int).toNat=j+1:=by omega
  have e3:((j:Nat):Int).toNat=j:=by omega
  rw [if_pos (by simp<;>omega),if_pos (by omega),if_pos (by omega),e1,if_pos (by omega),if_pos (by omega),WB,Option.bind_some,e2,e3]
  unfold jE
  by_cases h:l.getD (j+1) 0<l.getD j 0
  ·rw [if_pos (by simpa using h),if_pos h]
   refine Gf ?_
   unfold C_
   simp only [e1,e2,e3]
   rw [if_pos (by omega),if_pos (by omega),if_pos (by omega),if_pos (by omega),if_pos (by omega),if_pos (by omega),if_pos (by omega),if_pos (by rw [List.length_set]; omega)]
   exact gG n i hn g K hi j (df l j) (by omega) (by rw [WC]; exact hl)
  ·rw [if_neg (by simpa using h),if_neg h,AW (by omega)]
   exact K l hl)
theorem gH (n:Nat) (hn:n≤12):∀ (k i:Nat) (l:List Int),i+k=n→l.length=n→Af 0 (n:Int) (i:Int) l=some (lF k i l)
 | 0,i,l,h,hl=>Bu (by
  unfold BG
  rw [if_neg (by simp; omega)]
  rfl)
 | k+1,i,l,h,hl=>Bu (by
  unfold BG
  rw [if_pos (by simp; omega)]
  exact gG n i hn (lF k (i+1)) (fun l hl=>by have:=gH n hn k (i+1) l (by omega) hl; rw [← this]; congr 1) (by omega) i l (by omega) hl)
set_option maxRecDepth 100000 in
theorem lB (n:Nat) (h:n≤12):∃ r,KR (IntKind.u64.wrap (n:Int))=some r:=by
 have h1:∃ r,EI (n:Int) 0=some r:=by
  have hs:IntKind.u8.wrap (n:Int)=(n:Int):=by
   have:n=0∨n=1∨n=2∨n=3∨n=4∨n=5∨n=6∨n=7∨n=8∨n=9∨n=10∨n=11∨n=12:=by omega
   rcases this with h | h | h | h | h | h | h | h | h | h | h | h | h<;>subst h<;>rfl
  have ht:∃ r,GG (n:Int) 0=some r:=by
   unfold GG
   rw [if_neg (by simp; omega),if_pos (by rw [hs]; omega),if_pos (by
    rw [hs]
    exact Int.lt_of_lt_of_le (show (n:Int)<13 by omega) (by decide))]
   exact ⟨_,rfl⟩
  obtain ⟨r,hr⟩:=ht
  exact ⟨r,SK hr⟩
 obtain ⟨r,hr⟩:=h1
 have h2:IU (n:Int)=some r:=Vd (by
  unfold NW
  rw [if_neg (by simp; omega)]
  exact SL (by
   unfold KG
   rw [if_neg (by simp; omega)]
   exact hr))
 have hu:IntKind.u64.wrap (n:Int)=(n:Int):=by
  have:n=0∨n=1∨n=2∨n=3∨n=4∨n=5∨n=6∨n=7∨n=8∨n=9∨n=10∨n=11∨n=12:=by omega
  rcases this with h | h | h | h | h | h | h | h | h | h | h | h | h<;>subst h<;>rfl
 exact ⟨r,Ym (by unfold Qx; rw [hu,h2]; rfl)⟩
theorem gI (l:List Int) (h:l.length≤12):∃ r,Dq l=some r∧r.Perm l∧r.Pairwise (· ≤ ·):=by
 obtain ⟨b,hb⟩:=lB l.length h
 have hins:∃ r,CC 0 (l.length:Int) l=some r∧r.Perm l∧r.Pairwise (· ≤ ·):=by
  by_cases h0:l.length=0
  ·have:l=[]:=List.length_eq_zero_iff.1 h0
   subst this
   refine ⟨[],Dv ?_,List.Perm.refl _,List.Pairwise.nil⟩
   unfold CD
   refine Bu ?_
   unfold BG
   rw [if_neg (by rw [AW (by omega)]; simp)]
  ·refine ⟨lF (l.length-1) 1 l,Dv ?_,bJ _ _ _ (by omega),?_⟩
   ·unfold CD
    rw [AW (by omega)]
    exact gH l.length h (l.length-1) 1 l (by omega) rfl
   ·have hu:=jG (l.length-1) 1 l (by omega) (Nat.le_refl _) (fun a b h1 h2=>by omega)
    have hp:=(bJ (l.length-1) 1 l (by omega)).length_eq
    rw [List.pairwise_iff_getElem]
    intro i j hi hj hij
    have:=hu i j hij (by omega)
    rwa [Ab hi,Ab hj] at this
 obtain ⟨r,h1,h2,h3⟩:=hins
 refine ⟨r,RK ?_,h2,h3⟩
 unfold JB
 have hq:Bg 0 (l.length:Int) b l=some r:=LG (by
  unfold Fv
  refine Jb ?_
  unfold Et
  rw [if_pos (by rw [AW (by omega)]; simp; omega),h1]
  rfl)
 rw [hb,Option.bind_some,hq]
 rfl
theorem gJ:∀ {a b:List Int},a.Pairwise (· < ·)→b.Pairwise (· < ·)→(∀ x,x∈a↔x∈b)→a=b
 | [],[],_,_,_=>rfl
 | [],y::b,_,_,h=>absurd ((h y).2 (by simp)) (by simp)
 | x::a,[],_,_,h=>absurd ((h x).1 (by simp)) (by simp)
 | x::a,y::b,ha,hb,h=>by
  rw [List.pairwise_cons] at ha hb
  have hxy:x=y:=by
   have h1:=(h x).1 (by simp)
   have h2:=(h y).2 (by simp)
   rcases List.mem_cons.1 h1 with e | h1
   ·exact e
   ·rcases List.mem_cons.1 h2 with e | h2
    ·exact e.symm
    ·have:=ha.1 y h2
     have:=hb.1 x h1
     omega
  subst hxy
  rw [gJ ha.2 hb.2 fun z=>?_]
  constructor
  ·intro hz
   rcases List.mem_cons.1 ((h z).1 (by simp [hz])) with e | h
   ·subst e; have:=ha.1 z hz; omega
   ·exact h
  ·intro hz
   rcases List.mem_cons.1 ((h z).2 (by simp [hz])) with e | h
   ·subst e; have:=hb.1 z hz; omega
   ·exact h
theorem fT {view:List Int} {id x:Int} (hv:jA view):x∈Do view id↔x∈Bn view id:=by
 unfold Do Bn
 simp only [List.mem_filter,Bool.and_eq_true,List.contains_eq_mem,decide_eq_true_eq]
 constructor
 ·rintro ⟨_,h1,h2⟩; exact ⟨h2,h1⟩
 ·rintro ⟨h1,h2⟩
  have:=hv.mem x h1
  refine ⟨?_,h2,h1⟩
  have h5:x=1∨x=2∨x=3∨x=4∨x=5∨x=6:=by omega
  rcases h5 with h | h | h | h | h | h<;>simp [h]
theorem cY {view:List Int} (hv:jA view) (id:Int):Dq (Bn view id)=some (Do view id):=by
 have hl:=EU view id
 have:=hv.len
 obtain ⟨r,h1,h2,h3⟩:=gI (Bn view id) (by omega)
 rw [h1]
 congr 1
 have hnd:r.Nodup:=h2.nodup_iff.2 (hv.nd.filter _)
 refine gJ ?_ (P1 view id).2 fun x=>(h2.mem_iff).trans (fT hv).symm
 have:=h3.and (List.nodup_iff_pairwise_ne.1 hnd)
 exact this.imp fun {a b} h=>by have:=h.1; have:=h.2; omega
theorem X8 {view:List Int} (hv:jA view) (id:Int):(Do view id).length=(Bn view id).length:=by
 obtain ⟨r,h1,h2,_⟩:=gI (Bn view id) (by have:=EU view id; have:=hv.len; omega)
 rw [cY hv] at h1
 cases h1
 exact h2.length_eq
end Go.Proofs.Ytaedipailemlcaa.Core

namespace Go.Proofs.Ytaedipailemlcaa.Core
open Go
set_option linter.unusedVariables false
set_option linter.unusedSimpArgs false
theorem eW (x:List Int) (n:Int) (h:x.length≤maxLen):Dw x n=some (x.contains n):=ML (by
 have hm:x.length≤9223372036854775807:=h
 have key:=Gh (n:=x.length) (P:=fun i=>∃ r,Br x n (x.length:Int) (i:Int)=some r∧(decide (r≥0)=(x.drop i).contains n)) ⟨-1,BS (by
  unfold Au
  rw [if_neg (by simp)]),by simp⟩ (fun i hi ⟨r,hr,hc⟩=>by
  by_cases e:n=x[i]
  ·refine ⟨(i:Int),BS ?_,?_⟩
   ·unfold Au
    simp only [show ((i:Int)<(x.length:Int)) from by omega,decide_true,if_true,show (0:Int)≤(i:Int) from by omega,Int.toNat_natCast,Ab hi]
    rw [if_pos (by simpa using e)]
   ·rw [Bq hi,List.contains_cons,e]
    simp only [beq_self_eq_true,Bool.true_or]
    exact decide_eq_true (by omega)
  ·refine ⟨r,BS ?_,?_⟩
   ·unfold Au
    simp only [show ((i:Int)<(x.length:Int)) from by omega,decide_true,if_true,show (0:Int)≤(i:Int) from by omega,Int.toNat_natCast,Ab hi,AS (show i<9223372036854775807 by omega)]
    rw [if_neg (by simpa using e)]
    exact hr
   ·rw [Bq hi,hc,List.contains_cons]
    simp [e]) 0 (by omega)
 obtain ⟨r,hr,hc⟩:=key
 unfold Gb
 have:CI x n=some r:=If hr
 rw [this,Option.bind_some,hc,List.drop_zero])
theorem Sb (m:AA) (h1:m.2.2.2.2.2.2.1.length≤68719476736) (h2:m.2.2.2.2.2.2.2.1.length≤68719476736) (h3:m.2.2.2.2.2.2.2.2.2.2.2.2.2.length≤68719476736):Fm m=some m:=U4 (by
 unfold NJ
 rw [E9 h1,Option.bind_some,B6 h2,Option.bind_some,E9 h3,Option.bind_some])
theorem Hq.icopy {m:AA} (h:Hq m):Fm m=some m:=by
 obtain ⟨h1,h2,h3⟩:=h.lens
 exact Sb m (by omega) (by omega) (by omega)
theorem WD (x:B3) (h:x.2.2.2.2.2.length≤68719476736):Lg x=some x:=aU (by
 unfold R5
 rw [B6 h,Option.bind_some])
theorem PP (view:List Int) (m:AA) (h:view.length≤68719476736):Bl view m=some (Bn view m.1,m):=Ry (by
 unfold KC
 have key:=Gh (n:=view.length) (P:=fun i=>∀ acc:List Int,acc.length≤i→CA view (view.length:Int) (i:Int) m acc=some (acc++(view.drop i).filter (· != m.1),m)) (fun acc ha=>Hi (by
  unfold Ep
  rw [if_neg (by simp)]
  simp)) (fun i hi ih acc ha=>Hi (by
  unfold Ep
  simp only [show ((i:Int)<(view.length:Int)) from by omega,decide_true,if_true,show (0:Int)≤(i:Int) from by omega,Int.toNat_natCast,Ab hi,AS (show i<9223372036854775807 by omega)]
  rw [Bq hi,List.filter_cons]
  by_cases hh:(view[i] != m.1)=true
  ·rw [if_pos hh,if_pos (by simp; omega),ih _ (by simp; omega),if_pos hh,List.append_assoc]
   rfl
  ·rw [if_neg hh,ih _ (by omega),if_neg hh])) 0 (by omega) [] (by simp)
 exact key)
def ld (m:AA) (ids:List Int) (x:B3):List B3:=ids.map fun v=>(x.1,m.1,v,m.2.1,x.2.2.2.2)
theorem I3 (ids:List Int) (x:B3) (m:AA) (h:ids.length≤68719476736) (hx:x.2.2.2.2.2.length≤68719476736):Bd ids x m=some (ld m ids x,m):=RI (by
 unfold I_
 have key:=Gh (n:=ids.length) (P:=fun i=>∀ acc:List B3,acc.length≤i→Ck ids (ids.length:Int) (i:Int) m x acc=some (acc++(ids.drop i).map (fun v=>(x.1,m.1,v,m.2.1,x.2.2.2.2)),m)) (fun acc ha=>Gq (by
  unfold ET
  rw [if_neg (by simp)]
  simp)) (fun i hi ih acc ha=>Gq (by
  unfold ET
  simp only [show ((i:Int)<(ids.length:Int)) from by omega,decide_true,if_true,show (0:Int)≤(i:Int) from by omega,Int.toNat_natCast,Ab hi,AS (show i<9223372036854775807 by omega)]
  rw [WD x hx,Option.bind_some,if_pos (by simp; omega),ih _ (by simp; omega),Bq hi,List.map_cons,List.append_assoc]
  rfl)) 0 (by omega) [] (by simp)
 exact key)
def mC (m:AA):AA:=(m.1,m.2.1,m.2.2.1,m.2.2.2.1,false,false,([]:List Int),m.2.2.2.2.2.2.2.1,(0:Int),(0:Int),(0:Int),(0:Int),(ByteArray.empty,ByteArray.empty,(0:Int)),([]:List Int))
theorem bz (m:AA):IS m=some (mC m):=U6 rfl
theorem UI (view:List Int) (its:List Ae) (m:AA) (hv:jA view) (hi:its.length≤68719476736) (hs:m.2.2.2.2.2.1=false) :
  DH view its m=some ((Bn view m.1).map (fun v=>(3,m.1,v,m.2.1,0,its)),Kg m view its):=Pu (by
 have hvl:=hv.len
 have hrl:=EU view m.1
 unfold Ic
 rw [PP view m (by omega),Option.bind_some,B6 hi,Option.bind_some,E9 (by show (Bn view m.1).length≤_; omega),Option.bind_some,cY hv,Option.bind_some]
 have ho:=X8 hv m.1
 unfold Kg
 rw [ho]
 by_cases h0:(Bn view m.1).length=0
 ·rw [if_pos (by simpa using h0),I3 _ _ _ (by show (Bn view m.1).length≤_; omega) hi,Option.bind_some,h0]
  rfl
 ·rw [if_neg (by simpa using h0),I3 _ _ _ (by show (Bn view m.1).length≤_; omega) hi,Option.bind_some]
  have:(((Bn view m.1).length:Int)==0)=false:=by simpa using h0
  rw [this]
  show some (_,(m.1,m.2.1,m.2.2.1,true,m.2.2.2.2.1,m.2.2.2.2.2.1,_))=_
  rw [hs]
  rfl)
end Go.Proofs.Ytaedipailemlcaa.Core

namespace Go.Proofs.Ytaedipailemlcaa.Core
open Go
set_option linter.unusedVariables false
set_option linter.unusedSimpArgs false
theorem FP {m:AA} (h:Hq m):D0 m=some true:=by
 obtain ⟨h1,h2,h3⟩:=h.lens
 rw [T9 m (by unfold maxLen; omega) (by unfold maxLen; omega) (by unfold maxLen; omega),f8.2 h]
theorem No {views:List (List Int)} (h:T_ views):GD views=some true:=by
 have:=h.len
 rw [Vw views (by unfold maxLen; omega) (fun a ha=>by have:=(h.view ha).2; unfold maxLen; omega),h.ok]
end Go.Proofs.Ytaedipailemlcaa.Core

namespace Go.Proofs.Ytaedipailemlcaa.Core
open Go
set_option linter.unusedVariables false
set_option linter.unusedSimpArgs false
theorem b6 (x:List Int):Tl x=some (decide ((x.length:Int)>1048576)):=fO rfl
theorem hZ {v:List Int} {i:Int} (hw:jA v) (h:i∈v):(Bn v i).length+1=v.length:=by
 have:∀ l:List Int,l.Nodup→i∈l→(l.filter (· != i)).length+1=l.length:=by
  intro l
  induction l with
  | nil=>intro _ h; cases h
  | cons a l ih =>
   intro hn hm
   have hn2:=List.nodup_cons.1 hn
   by_cases e:a=i
   ·subst e
    have:l.filter (· != a)=l:=List.filter_eq_self.2 fun b hb=>by
     have:b≠a:=fun e=>hn2.1 (e▸hb)
     simpa using this
    rw [List.filter_cons_of_neg (by simp),this]
    rfl
   ·rw [List.filter_cons_of_pos (by simpa using e)]
    rcases List.mem_cons.1 hm with e2 | e2
    ·exact absurd e2.symm e
    ·simp only [List.length_cons]
     have:=ih hn2.2 e2
     omega
 exact this v hw.nd h
end Go.Proofs.Ytaedipailemlcaa.Core

namespace Go.Proofs.Ytaedipailemlcaa.Core
open Go
set_option linter.unusedVariables false
set_option linter.unusedSimpArgs false
def I4 (m:AA) (views:List (List Int)) (e:Int):AA×List B3×Bool :=
 if 2≤e∧e≤(views.length:Int)∧m.2.1<e∧(views.getD (e-1).toNat []).getD 0 0=m.1 then
  if (m.2.2.2.1&&(m.2.1==e-1))=true then
   (Kg (Ey m e) (views.getD (e-1).toNat []) m.2.2.2.2.2.2.2.1,(Bn (views.getD (e-1).toNat []) m.1).map (fun v=>(3,m.1,v,e,0,m.2.2.2.2.2.2.2.1)),true)
  else (Ey m e,(Bn (views.getD (e-2).toNat []) m.1).map (fun v=>(1,m.1,v,e,0,[])),true)
 else (Hj,[],false)
theorem ZE (m:AA) (views:List (List Int)) (e:Int) (hm:Hq m) (hv:T_ views):Pp m views e=some (I4 m views e):=dU (by
 have hvl:=hv.len
 have hep:=hm.ep
 have hl:=hm.lens
 unfold Uz I4
 rw [FP hm,Option.bind_some,if_neg (by simp),No hv,Option.bind_some,if_neg (by simp),Bh,Option.bind_some]
 by_cases h1:2≤e∧e≤(views.length:Int)
 case neg =>
  rw [if_pos (by rw [← Bool.decide_and,decide_eq_false h1]; rfl),if_neg (fun h=>h1 ⟨h.1,h.2.1⟩)]
  rfl
 have we:IntKind.i64.wrap (e-1)=e-1:=AW (by omega)
 have we2:IntKind.i64.wrap (e-2)=e-2:=AW (by omega)
 rw [if_neg (by rw [← Bool.decide_and,decide_eq_true h1]; simp),we]
 by_cases h2:m.2.1<e
 case neg =>
  rw [if_pos (by simp; omega),if_neg (fun h=>h2 h.2.2.1)]
  rfl
 have g1:=hv.get (i:=(e-1).toNat) (by omega)
 have hw:=hv.wok (i:=(e-1).toNat) (by omega)
 have hw2:=hv.wok (i:=(e-2).toNat) (by omega)
 have hwl:=hw2.len
 rw [if_neg (by simp; omega),if_pos (by omega),if_pos (by omega),if_pos (by omega),if_pos (by omega)]
 by_cases h3:(views.getD (e-1).toNat []).getD 0 0=m.1
 case neg =>
  rw [if_pos (by simpa using h3),if_neg (fun h=>h3 h.2.2.2)]
  rfl
 rw [if_neg (by simpa using h3),if_pos ⟨h1.1,h1.2,h2,h3⟩]
 refine Yb ?_
 unfold Qo
 rw [hm.icopy,Option.bind_some,we]
 have J1:∀ b z,G6 views e b m z m=some (if b=true then (Kg (Ey m e) (views.getD (e-1).toNat []) m.2.2.2.2.2.2.2.1,(Bn (views.getD (e-1).toNat []) m.1).map (fun v=>(3,m.1,v,e,0,m.2.2.2.2.2.2.2.1)),true)
   else (Ey m e,(Bn (views.getD (e-2).toNat []) m.1).map (fun v=>(1,m.1,v,e,0,[])),true)):=fun b z=>Ya (by
  unfold Qn
  rw [bz,Option.bind_some,we,we2]
  cases b with
  | true =>
   rw [if_pos rfl,if_pos (by omega),if_pos (by omega)]
   change ((DH (views.getD (e-1).toNat []) m.2.2.2.2.2.2.2.1 (Ey m e)).bind _)=_
   rw [UI _ _ (Ey m e) hw (by omega) rfl,Option.bind_some]
   rfl
  | false =>
   rw [if_neg (by simp),if_pos (by omega),if_pos (by omega)]
   change eZ ((Bl (views.getD (e-2).toNat []) (Ey m e)).bind _) ((Bl (views.getD (e-2).toNat []) (Ey m e)).bind _)=_
   have hrl:=EU (views.getD (e-2).toNat []) m.1
   rw [PP _ (Ey m e) (by omega),Option.bind_some,Option.bind_some,I3 _ _ (Ey m e) (by show (Bn (views.getD (e-2).toNat []) m.1).length≤_; omega) (by simp),Option.bind_some,Option.bind_some,Option.bind_some,b7]
   exact b7)
 cases hb:m.2.2.2.1 with
 | true=>rw [if_pos rfl,J1,Bool.true_and]
 | false=>rw [if_neg (by simp),J1,Bool.false_and])
theorem h_ {m:AA} {views:List (List Int)} {e:Int} (hm:Hq m) (hv:T_ views):(I4 m views e).2.2=true→Hq (I4 m views e).1:=by
 intro h
 have hvl:=hv.len
 have hep:=hm.ep
 unfold I4 at h ⊢
 split
 ·rename_i hc
  have he:1≤e∧e≤9:=by omega
  split
  ·exact (hm.new1 he).has rfl rfl hm.items
  ·exact hm.new1 he
 ·rename_i hc
  rw [if_neg hc] at h
  cases h
theorem S8 (id:Int) (views:List (List Int)) (hi:1≤id∧id≤6) (hv:T_ views):GQ id views=some (FO id views,true):=Wn (by
 have hvl:=hv.len
 have g:=hv.get (i:=0) (by omega)
 unfold Oi
 rw [Jj,Option.bind_some,if_pos (by rw [← Bool.decide_and,decide_eq_true hi]; rfl),No hv,Option.bind_some,if_neg (by simp)]
 refine Sv ?_
 unfold Ku
 rw [show views.getD (0:Int).toNat ([]:List Int)=views.getD 0 [] from rfl,eW _ _ (by unfold maxLen; omega),Option.bind_some]
 repeat rw [if_pos (by omega)]
 rfl)
theorem dg (x) (hx:Kd.ok (.slice (.int .u8)) x):Qk x=some true:=YZ (by
 unfold Ql
 rw [b6,Option.bind_some]
 by_cases hbig:x.length≤1048576
 case neg=>rw [if_pos (by simp; omega)]
 rw [if_neg (by simp; omega)]
 obtain ⟨m,v,y,e,hm,hv,hy⟩:=MN x hbig
 have hvl:=hv.len
 have hep:=hm.ep
 rw [e,Option.bind_some]
 dsimp only
 have J3:HH v m y=some true:=To (by
  have g:=hv.get (i:=0) (by omega)
  have hw:=hv.wok (i:=0) (by omega)
  have hn:1≤(v.getD 0 []).getD 0 0∧(v.getD 0 []).getD 0 0≤6:=by
   rw [Ab (show 0<(v.getD 0 []).length by omega)]
   exact hw.mem _ (List.getElem_mem _)
  unfold Ls
  rw [if_pos (by omega),if_pos (by omega),if_pos (by omega),if_pos (by show (0:Int)<((v.getD 0 []).length:Int); omega)]
  change ((GQ ((v.getD 0 []).getD 0 0) v).bind _)=_
  rw [S8 _ v hn hv,Option.bind_some,if_pos rfl,if_pos (by simp [FO]),FP (Hq.first1 hn hv)]
  rfl)
 have L0:∀ (k:Nat) (e:Int),2≤e→e+(k:Int)=(v.length:Int)+1→Df v e m y=some true:=by
  intro k
  induction k with
  | zero =>
   intro e h2 he
   refine Lu ?_
   unfold HJ
   rw [if_neg (by simp; omega)]
   exact J3
  | succ k ih =>
   intro e h2 he
   have hn:=ih (e+1) (by omega) (by omega)
   have we:IntKind.i64.wrap (e-1)=e-1:=AW (by omega)
   have wn:IntKind.i64.wrap (e+1)=e+1:=AW (by omega)
   have g1:=hv.get (i:=(e-1).toNat) (by omega)
   have hw:=hv.wok (i:=(e-1).toNat) (by omega)
   have hok:=h_ (e:=e) hm hv
   have L2:∀ (told:List B3) (n:AA),(∀ t∈told,(t.1==3)=n.2.2.2.1∧t.2.2.1≠m.1)→told.length≤4→BA v e told ((0:Nat):Int) m y n=some true:=fun told n ht hl =>
    Gh (n:=told.length) (P:=fun i=>BA v e told (i:Int) m y n=some true) (Lt (by
     unfold HI
     rw [if_neg (by simp),wn]
     exact ih (e+1) (by omega) (by omega))) (fun i hi ihi=>Lt (by
     unfold HI
     have hz:told.getD i ((0:Int),(0:Int),(0:Int),(0:Int),(0:Int),([]:List Ae))=told[i]:=Ab hi
     obtain ⟨t1,t2⟩:=ht told[i] (List.getElem_mem hi)
     simp only [show ((i:Int)<(told.length:Int)) from by omega,decide_true,if_true,show (0:Int)≤(i:Int) from by omega,Int.toNat_natCast,hz,t1]
     rw [if_neg (by cases n.2.2.2.1<;>simp [RR]),if_neg (by simpa using t2),AS (show i<9223372036854775807 by omega)]
     exact ihi)) 0 (by omega)
   have J1:∀ b,E_ v e (I4 m v e).2.1 (I4 m v e).2.2 b m y (I4 m v e).1=some true:=fun b=>Tn (by
    unfold Lr
    rw [wn,we]
    unfold I4 at hok ⊢
    by_cases hc:2≤e∧e≤(v.length:Int)∧m.2.1<e∧(v.getD (e-1).toNat []).getD 0 0=m.1
    case neg =>
     rw [if_neg hc]
     exact hn
    rw [if_pos hc] at hok ⊢
    by_cases hh:(m.2.2.2.1&&(m.2.1==e-1))=true
    ·rw [if_pos hh] at hok ⊢
     have hmk:=hok rfl
     simp only [Bool.and_eq_true,beq_iff_eq] at hh
     have hL2:=L2 ((Bn (v.getD (e-1).toNat []) m.1).map (fun v=>(3,m.1,v,e,0,m.2.2.2.2.2.2.2.1))) (Kg (Ey m e) (v.getD (e-1).toNat []) m.2.2.2.2.2.2.2.1) (fun t ht=>by
      obtain ⟨a,ha,rfl⟩:=List.mem_map.1 ht
      exact ⟨rfl,gE ha⟩) (by
      simp only [List.length_map]
      have:=EU (v.getD (e-1).toNat []) m.1
      omega)
     rw [if_neg (by simp),if_pos (by rfl),if_pos (by simp [Kg,Ey]),FP hmk,Option.bind_some,if_pos (by rfl)]
     have hfin:(if (Kg (Ey m e) (v.getD (e-1).toNat []) m.2.2.2.2.2.2.2.1).2.2.2.1=true then (if (m.2.1 != e-1)=false then (if (!m.2.2.2.1)=true then (some false) else (BA v e ((Bn (v.getD (e-1).toNat []) m.1).map (fun v=>(3,m.1,v,e,0,m.2.2.2.2.2.2.2.1))) 0 m y (Kg (Ey m e) (v.getD (e-1).toNat []) m.2.2.2.2.2.2.2.1))) else (some false)) else (BA v e ((Bn (v.getD (e-1).toNat []) m.1).map (fun v=>(3,m.1,v,e,0,m.2.2.2.2.2.2.2.1))) 0 m y (Kg (Ey m e) (v.getD (e-1).toNat []) m.2.2.2.2.2.2.2.1)))=some true:=by
      rw [if_pos (show (Kg (Ey m e) (v.getD (e-1).toNat []) m.2.2.2.2.2.2.2.1).2.2.2.1=true from rfl),if_pos (by simpa using hh.2),if_neg (by rw [hh.1]; simp)]
      exact hL2
     by_cases hs:(Kg (Ey m e) (v.getD (e-1).toNat []) m.2.2.2.2.2.2.2.1).2.2.2.2.2.1=true
     ·have hone:(v.getD (e-1).toNat []).length=1:=by
       have h0:(Do (v.getD (e-1).toNat []) m.1).length=0:=by
        have:(((Do (v.getD (e-1).toNat []) m.1).length:Int)==0)=true:=hs
        simpa using this
       rw [X8 hw] at h0
       have hin:m.1∈v.getD (e-1).toNat []:=by
        rw [← hc.2.2.2,Ab (show 0<(v.getD (e-1).toNat []).length by omega)]
        exact List.getElem_mem _
       have:=hZ hw hin
       omega
      rw [if_pos hs,if_pos (by omega),if_pos (by omega),if_pos (by rw [hone]; rfl)]
      exact hfin
     ·rw [if_neg hs]
      exact hfin
    ·rw [if_neg hh] at hok ⊢
     have hmk:=hok rfl
     have hw2:=hv.wok (i:=(e-2).toNat) (by omega)
     have hL2:=L2 ((Bn (v.getD (e-2).toNat []) m.1).map (fun v=>(1,m.1,v,e,0,[]))) (Ey m e) (fun t ht=>by
      obtain ⟨a,ha,rfl⟩:=List.mem_map.1 ht
      exact ⟨rfl,gE ha⟩) (by
      simp only [List.length_map]
      have:=EU (v.getD (e-2).toNat []) m.1
      have:=hw2.len
      omega)
     rw [if_neg (by simp),if_pos (by rfl),if_pos (by simp [Ey]),FP hmk,Option.bind_some,if_pos (by rfl),if_neg (by simp [Ey]),if_neg (by simp [Ey])]
     exact hL2)
   refine Lu ?_
   unfold HJ
   rw [if_pos (by simp; omega),ZE m v e hm hv,Option.bind_some,we]
   by_cases hlt:e>m.2.1
   ·rw [if_pos (by simpa using hlt),if_pos (by omega),if_pos (by omega),if_pos (by omega),if_pos (by omega)]
    have:(I4 m v e).2.2=((v.getD (e-1).toNat []).getD 0 0==m.1):=by
     unfold I4
     by_cases h3:(v.getD (e-1).toNat []).getD 0 0=m.1
     ·rw [if_pos ⟨h2,by omega,by omega,h3⟩,show ((v.getD (e-1).toNat []).getD 0 0==m.1)=true by simpa using h3]
      split<;>rfl
     ·rw [if_neg (fun h=>h3 h.2.2.2),show ((v.getD (e-1).toNat []).getD 0 0==m.1)=false by simpa using h3]
    rw [if_neg (by
     change ¬ (true != RR .bool (I4 m v e).2.2 ((v.getD (e-1).toNat []).getD 0 0==m.1))=true
     rw [this]
     simp [RR])]
    exact J1 _
   ·rw [if_neg (by simpa using hlt)]
    have:(I4 m v e).2.2=false:=by
     unfold I4
     rw [if_neg (fun h=>hlt h.2.2.1)]
    rw [if_neg (by rw [this]; simp [RR])]
    exact J1 _
 obtain ⟨k,hk⟩:∃ k:Nat,(2:Int)+(k:Int)=(v.length:Int)+1:=⟨v.length-1,by omega⟩
 exact L0 k 2 (by omega) hk)
end Go.Proofs.Ytaedipailemlcaa.Core

namespace Go.Proofs.Ytaedipailemlcaa.Core
open Go
theorem jH {P:Program} {c:List Char} {rest:List (List Char)} (h:behindMainWord (wordsSigns P.initOrder.toList)=c::rest) (h1:(c == "gc".toList||c == "spec".toList)=false) (h2:(c == "cut".toList||(c == "finals".toList&&rest.head? == some "cut".toList))=true):P.make=some .cut:=by
 unfold Program.make
 rw [h]
 simp only [h1,h2]
 rfl
theorem jI {P:Program} {c:List Char} {rest:List (List Char)} (h:behindMainWord (wordsSigns P.initOrder.toList)=c::rest) (h1:((stripLifts liftWords (c::rest)).2.head? == some "cut".toList)=true) (h2:(stripLifts liftWords (c::rest)).1=[])
  (h3:P.laysLater=false) (h4:P.bearsReflect=false) (h5:P.doorFits []=true):P.mayEnter=true:=by
 unfold Program.mayEnter
 rw [h]
 simp only [h1,h2,h3,h4,h5]
 simp
theorem jJ {P:Program} {c:List Char} {rest:List (List Char)} (h:behindMainWord (wordsSigns P.initOrder.toList)=c::rest) (h1:(c == "carried".toList)=false) (h2:(stripLifts liftWords (c::rest)).1=[]):P.liftsFinal=false:=by
 have e:(some c==some "carried".toList)=false:=h1
 unfold Program.liftsFinal Program.headLifts
 rw [h]
 simp only [List.head?_cons,e,h2]
 simp
theorem HX {a b:Bool} (h:a=true) (g:b=true):(a&&b)=true:=by rw [h,g]; rfl
theorem jK {α:Type} [BEq α] [LawfulBEq α] {a b:α} (h:a=b):(a==b)=true:=by rw [h]; exact beq_self_eq_true b
end Go.Proofs.Ytaedipailemlcaa.Core

namespace Go.Proofs.Ytaedipailemlcaa.Core
open Go
set_option maxRecDepth 100000
def mG:List Nat:=[104,97,114,110,101,115,115,32,101,53,49,55,56,48,52,50,49,49,99,56,99,101,55,52,97,102,50,54,54,52,52,49,101,52,50,56,50,101,102,102,57,102,56,49,99,98,49,50,102,99,53,54,98,99,98,55,49,55,100,99,49,48,54,101,53,51,48,52,48,48,97,56,32,99,117,116,32,97,116,32,108,111,111,112,46,101,120,97,109,112,108,101,47,103,48,48,49,56,48,47,108,97,119,115,46,70,110,65,100,111,112,116,115]
def mH:List Nat:=[99,117,116]
def mI:List (List Nat):=[[97,116],[108,111,111,112,46,101,120,97,109,112,108,101,47,103,48,48,49,56,48,47,108,97,119,115,46,70,110,65,100,111,112,116,115]]
theorem io:Try.prog.initOrder.toList=mG.map Char.ofNat:=(congrArg String.toList (show Try.prog.initOrder=String.ofList (mG.map Char.ofNat) from by kernel_rfl)).trans String.toList_ofList
theorem mD:behindMainWord (wordsSigns Try.prog.initOrder.toList)=mH.map Char.ofNat::mI.map fun w=>w.map Char.ofNat:=by
 rw [io]
 kernel_rfl
theorem mE:Try.prog.make=some .cut:=jH mD (by kernel_rfl) (by kernel_rfl)
theorem lC:Try.prog.mayEnter=true:=jI mD (by kernel_rfl) (by kernel_rfl) (by kernel_rfl) (by kernel_rfl) (by kernel_rfl)
theorem kI:Try.prog.liftsFinal=false:=jJ mD (by kernel_rfl) (by kernel_rfl)
theorem eX:laidOutB Try.prog=true:=by kernel_rfl
theorem fU:mapsRowed Try.prog=true:=by kernel_rfl
theorem lD:Try.prog.stopsHeard=true:=by kernel_rfl
end Go.Proofs.Ytaedipailemlcaa.Core
