/- Texts of the proof, packed: part 4. -/
import Derived.Test.YtffahmnodgnohaaP2
import Derived.IntWalk
import Derived.JoinedOf
import Derived.Test.YtffahmnodgnohaaRows
import Derived.ProofKit
set_option linter.unusedVariables false
set_option linter.unusedSimpArgs false
namespace Go.Proofs.Ytffahmnodgnohaa.Core
open Go IntKind
set_option maxRecDepth 100000
noncomputable section
def CD (x0:Nat) (x1:Int) (x2:List AF) (x3:List AC) (x4:List U) (x5:List ByteArray) (x6:AI):Option (Bool×J):=cG FW (AW Bh) (AW Bh) kx ⟨[(0,.ptr 0 0),(3,.ptr 5 0),(5,.eptr 2 x0 0),(6,.int .i64 x1)],[.var [.row 1,.row 2,.row 3,.row 4],.rows 94 AK x2,.rows 89 Ah x3,.rows 183 AB x4,.rows 9 .str x5,.var (AM.enc x6)]⟩
def FF (x0:Nat) (x1:Int) (x2:List AF) (x3:List AC) (x4:List U) (x5:List ByteArray) (x6:AI):Option (Bool×J):=(if (decide (x1>10000))=true then (some (false,(x2,x3,x4,x5))) else (let z1:List AC:=x3.set x0 ((x3.getD x0 (0,0,AA,([]:List U),false,([]:List Int),false)).1,x1,((x3.getD x0 (0,0,AA,([]:List U),false,([]:List Int),false)).2).2); (let z2:List AC:=z1.set x0 ((z1.getD x0 (0,0,AA,([]:List U),false,([]:List Int),false)).1,((z1.getD x0 (0,0,AA,([]:List U),false,([]:List Int),false)).2).1,x6.2.2.2,(((z1.getD x0 (0,0,AA,([]:List U),false,([]:List Int),false)).2).2).2); (let z3:List AC:=z2.set x0 ((z2.getD x0 (0,0,AA,([]:List U),false,([]:List Int),false)).1,((z2.getD x0 (0,0,AA,([]:List U),false,([]:List Int),false)).2).1,(((z2.getD x0 (0,0,AA,([]:List U),false,([]:List Int),false)).2).2).1,([]:List U),((((z2.getD x0 (0,0,AA,([]:List U),false,([]:List Int),false)).2).2).2).2); (let z4:List AC:=z3.set x0 ((z3.getD x0 (0,0,AA,([]:List U),false,([]:List Int),false)).1,((z3.getD x0 (0,0,AA,([]:List U),false,([]:List Int),false)).2).1,(((z3.getD x0 (0,0,AA,([]:List U),false,([]:List Int),false)).2).2).1,((((z3.getD x0 (0,0,AA,([]:List U),false,([]:List Int),false)).2).2).2).1,false,(((((z3.getD x0 (0,0,AA,([]:List U),false,([]:List Int),false)).2).2).2).2).2); (let z5:List AC:=z4.set x0 ((z4.getD x0 (0,0,AA,([]:List U),false,([]:List Int),false)).1,((z4.getD x0 (0,0,AA,([]:List U),false,([]:List Int),false)).2).1,(((z4.getD x0 (0,0,AA,([]:List U),false,([]:List Int),false)).2).2).1,((((z4.getD x0 (0,0,AA,([]:List U),false,([]:List Int),false)).2).2).2).1,(((((z4.getD x0 (0,0,AA,([]:List U),false,([]:List Int),false)).2).2).2).2).1,([]:List Int),((((((z4.getD x0 (0,0,AA,([]:List U),false,([]:List Int),false)).2).2).2).2).2).2); ((EB x0 1 (⟨#[]⟩:ByteArray) (x2,z5,x4,x5)).bind fun y6=>(some (true,y6)))))))))
def GS (x1:AI) (b0:J):Option (Bool×J):=(if 0<=(i64.wrap (x1.2.1-1)) then (if (i64.wrap (x1.2.1-1))<(b0.2.1.length:Int) then (if ((((b0.2.1.getD ((i64.wrap (x1.2.1-1)).toNat) (0,0,AA,([]:List U),false,([]:List Int),false)).2).1)==0)=true then (CD ((i64.wrap (x1.2.1-1)).toNat) ((b0.2.1.getD ((i64.wrap (x1.2.1-1)).toNat) (0,0,AA,([]:List U),false,([]:List Int),false)).1) b0.1 b0.2.1 b0.2.2.1 b0.2.2.2 x1) else (CD ((i64.wrap (x1.2.1-1)).toNat) (i64.wrap ((((b0.2.1.getD ((i64.wrap (x1.2.1-1)).toNat) (0,0,AA,([]:List U),false,([]:List Int),false)).2).1)+10)) b0.1 b0.2.1 b0.2.2.1 b0.2.2.2 x1)) else none) else none)
theorem Jj:Z1 FF CD:=jS (by kernel_rfl)
theorem Lq:MI GS EA:=cT Bh rfl ⟨rfl,rfl⟩ (by kernel_rfl)
def Fv (x0:Bool) (x1:List AF) (x2:List AC) (x3:List U) (x4:List ByteArray) (x5:U):Option (Bool×J):=cG GA (AW Bs) (AW Bs) kx ⟨[(0,.ptr 0 0),(3,.ptr 5 0),(13,.bool x0)],[.var [.row 1,.row 2,.row 3,.row 4],.rows 94 AK x1,.rows 89 Ah x2,.rows 183 AB x3,.rows 9 .str x4,.var (AB.enc x5)]⟩
def Fw (x0:Bool) (x1:List AF) (x2:List AC) (x3:List U) (x4:List ByteArray) (x5:U):Option (Bool×J):=((BX x5.2.2.1 1 (x2.length:Int)).bind fun y2=>(if (!y2)=true then (some (false,(x1,x2,x3,x4))) else (if 0<=(i64.wrap (x5.2.2.1-1)) then (if (i64.wrap (x5.2.2.1-1))<(x2.length:Int) then (if (x5.1==2)=true then ((Cc ((i64.wrap (x5.2.2.1-1)).toNat) x5 (x1,x2,x3,x4)).bind fun y3=>(some (y3.1,y3.2))) else ((DN ((i64.wrap (x5.2.2.1-1)).toNat) x5 (x1,x2,x3,x4)).bind fun y4=>(some (y4.1,y4.2)))) else none) else none)))
def HZ (x1:U) (b0:J):Option (Bool×J):=(if (x1.1==1)=false then (if (x1.1==3)=true then ((Dn x1 b0).bind fun y1=>(some (y1.1,y1.2))) else (Fv (x1.1==3) b0.1 b0.2.1 b0.2.2.1 b0.2.2.2 x1)) else ((Dn x1 b0).bind fun y5=>(some (y5.1,y5.2))))
theorem LG:aR Fw Fv:=jS (by kernel_rfl)
theorem Mv:MI HZ DM:=cT Bs rfl ⟨rfl,rfl⟩ (by kernel_rfl)
def L6 (b0:AY):Option (ByteArray×AY):=((JC ([(⟨#[120]⟩:ByteArray),(⟨#[121]⟩:ByteArray),(⟨#[122]⟩:ByteArray),(⟨#[49,44,50]⟩:ByteArray),(⟨#[50,44,51]⟩:ByteArray)]:List ByteArray) b0).bind fun y1=>(some (y1.1,y1.2)))
theorem R2:Wa L6 Hq:=cT Fb rfl ⟨rfl,rfl⟩ (by kernel_rfl)
def Nm:=cG II (AW BP) (AW BP) kx
def Nn:=kE 0 [] [] 3 Nm kx
def Mw:St->Option (RT (CU.outs BP)):=lG IH [] [0,3,6,7] 3 (AW BP) Nn
def DW (x0 x1:Int) (x2:J) (x3:AI) (x4:AC):Option (Int×J):=Mw ⟨[(0,.ptr 0 0),(3,.ptr 1 0),(6,.int .i64 x0),(7,.int .i64 x1)],[.var (AJ.enc x2),.var (AM.enc x3),.var (Cw.enc x4)]⟩
def DX (x0:Int) (x1:J) (x2:AI) (x3:AC):Option (Int×J):=cG HB (AW BP) (AW BP) kx ⟨[(0,.ptr 0 0),(3,.ptr 1 0),(6,.int .i64 x0)],[.var (AJ.enc x1),.var (AM.enc x2),.var (Cw.enc x3)]⟩
def Et (x0 x1:Int) (x2:J) (x3:AI) (x4:AC):Option (Int×J):=(if (decide (x1<=(x2.1.length:Int)))=true then ((ER (1,x3.2.1,x1,x0,0,AA) x2).bind fun y2=>(DW x0 (i64.wrap (x1+1)) y2 x3 x4)) else (some (0,x2)))
def Ha (x0:Int) (x1:J) (x2:AI) (x3:AC):Option (Int×J):=(if (decide (x0>10000))=true then (some (1,x1)) else ((Di (x2.2.1,x0,x2.2.2.2,([]:List U),false,([]:List Int),false) x1).bind fun y1=>(DW x0 1 y1 x2 x3)))
def KM (x1:AI) (b0:J):Option (Int×J):=(if 0<=(i64.wrap (x1.2.1-1)) then (if (i64.wrap (x1.2.1-1))<(b0.2.1.length:Int) then (if (decide ((((b0.2.1.getD (i64.wrap (x1.2.1-1)).toNat (0,0,AA,([]:List U),false,([]:List Int),false)).2).1)>0))=true then (DX (i64.wrap ((((b0.2.1.getD (i64.wrap (x1.2.1-1)).toNat (0,0,AA,([]:List U),false,([]:List Int),false)).2).1)+10)) b0 x1 (b0.2.1.getD (i64.wrap (x1.2.1-1)).toNat (0,0,AA,([]:List U),false,([]:List Int),false))) else (DX x1.2.1 b0 x1 (b0.2.1.getD (i64.wrap (x1.2.1-1)).toNat (0,0,AA,([]:List U),false,([]:List Int),false)))) else none) else none)
theorem Hc:YS Et DW:=lS (by kernel_rfl)
theorem Mx:YR Ha DX:=jS (by kernel_rfl)
theorem QG:MI KM GK:=cT BP rfl ⟨rfl,rfl⟩ (by kernel_rfl)
def N_ (x1:U) (b0:J):Option J:=(if ([]:List U).length+b0.2.2.1.length<=68719476736 then (if (([]:List U)++b0.2.2.1).length+([x1]:List U).length<=68719476736 then (some (b0.1,b0.2.1,((([]:List U)++b0.2.2.1)++([x1]:List U)),b0.2.2.2)) else none) else none)
theorem Ti:MI N_ ER:=cT Gt rfl ⟨rfl,rfl⟩ (by kernel_rfl)
def JL (x0:J) (x1:U):Option (Int×J):=cG I4 (AW DD) (AW DD) kx ⟨[(0,.ptr 0 0),(3,.ptr 1 0)],[.var (AJ.enc x0),.var (AB.enc x1)]⟩
def JM (x0:J) (x1:U):Option (Int×J):=(if 0<=(i64.wrap (x1.2.2.1-1)) then (if (i64.wrap (x1.2.2.1-1))<(x0.1.length:Int) then ((Hs (x0.1.getD (i64.wrap (x1.2.2.1-1)).toNat (0,0,AA)) x1).bind fun y3=>(if (!y3.2.2)=true then (some (1,x0)) else (if ([]:List AF).length+x0.1.length<=68719476736 then (if 0<=(i64.wrap (x1.2.2.1-1)) then (if (i64.wrap (x1.2.2.1-1))<((([]:List AF)++x0.1).length:Int) then (let z4:List AF:=(([]:List AF)++x0.1).set ((i64.wrap (x1.2.2.1-1)).toNat) y3.1; ((ER y3.2.1 (z4,x0.2)).bind fun y5=>(some (0,y5)))) else none) else none) else none))) else none) else none)
def L7 (x1:U) (b0:J):Option (Int×J):=(if (x1.1==2)=true then ((GL x1 b0).bind fun y1=>(some (y1.1,y1.2))) else (if (x1.1==4)=true then ((Hr x1 b0).bind fun y2=>(some (y2.1,y2.2))) else (JL b0 x1)))
theorem On:MI JM JL:=jS (by kernel_rfl)
theorem R3:MI L7 Fc:=cT DD rfl ⟨rfl,rfl⟩ (by kernel_rfl)
def My (x1:List ByteArray) (b0:AY):Option (ByteArray×AY):=((B4 (x1.length:Int) b0).bind fun y1=>(if 0<=y1.1 then (if y1.1<(x1.length:Int) then (some ((x1.getD y1.1.toNat AA),y1.2)) else none) else none))
theorem TJ:MI My JC:=cT GB rfl ⟨rfl,rfl⟩ (by kernel_rfl)
def Mz:=kE 0 [] [] 5 (AW Bo) kx
def MG:St->Option (RT (CU.outs Bo)):=lG HC [] [0,1,2,3,13,14] 5 (AW Bo) Mz
def C2 (x0:Nat) (x1:Int) (x2:ByteArray) (x3 x4:Int) (x5:List AF) (x6:List AC) (x7:List U) (x8:List ByteArray):Option J:=MG ⟨[(0,.ptr 0 0),(1,.eptr 2 x0 0),(2,.int .i64 x1),(3,.str x2),(13,.int .i64 x3),(14,.int .i64 x4)],[.var [.row 1,.row 2,.row 3,.row 4],.rows 94 AK x5,.rows 89 Ah x6,.rows 183 AB x7,.rows 9 .str x8]⟩
def EU (x0:Nat) (x1:Int) (x2:ByteArray) (x3 x4:Int) (x5:List AF) (x6:List AC) (x7:List U) (x8:List ByteArray):Option J:=(if (decide (x4<x3))=true then (if x7.length+([(x1,(x6.getD x0 (0,0,AA,([]:List U),false,([]:List Int),false)).1,(i64.wrap (x4+1)),((x6.getD x0 (0,0,AA,([]:List U),false,([]:List Int),false)).2).1,0,x2)]:List U).length<=68719476736 then (C2 x0 x1 x2 x3 (i64.wrap (x4+1)) x5 x6 (x7++([(x1,(x6.getD x0 (0,0,AA,([]:List U),false,([]:List Int),false)).1,(i64.wrap (x4+1)),((x6.getD x0 (0,0,AA,([]:List U),false,([]:List Int),false)).2).1,0,x2)]:List U)) x8) else none) else (some (x5,x6,x7,x8)))
def JN (x1:Nat) (x2:Int) (x3:ByteArray) (b0:J):Option J:=(C2 x1 x2 x3 (b0.1.length:Int) 0 b0.1 b0.2.1 b0.2.2.1 b0.2.2.2)
theorem GX:aY EU C2:=lS (by kernel_rfl)
theorem Oo:YR JN EB:=cT Bo rfl ⟨rfl,rfl⟩ (by kernel_rfl)
def IS (x1:U) (b0:J):Option (Bool×J):=((BX x1.2.2.1 1 (b0.1.length:Int)).bind fun y1=>(if (!y1)=true then (some (false,b0)) else (if 0<=(i64.wrap (x1.2.2.1-1)) then (if (i64.wrap (x1.2.2.1-1))<(b0.1.length:Int) then ((Ht (b0.1.getD ((i64.wrap (x1.2.2.1-1)).toNat) (0,0,AA)) x1).bind fun y2=>(if 0<=(i64.wrap (x1.2.2.1-1)) then (if (i64.wrap (x1.2.2.1-1))<(b0.1.length:Int) then (let z3:List AF:=b0.1.set ((i64.wrap (x1.2.2.1-1)).toNat) y2.1; (if y2.2.2=true then (if b0.2.2.1.length+([y2.2.1]:List U).length<=68719476736 then (some (y2.2.2,(z3,b0.2.1,(b0.2.2.1++([y2.2.1]:List U)),b0.2.2.2))) else none) else (some (y2.2.2,(z3,b0.2))))) else none) else none)) else none) else none)))
theorem No:MI IS Dn:=cT Dm rfl ⟨rfl,rfl⟩ (by kernel_rfl)
def Cy (x0:Nat) (x1 x2 x3 x4 x5:Int) (x6:ByteArray) (x7:Bool) (x8:List AF) (x9:List AC) (x10:List U) (x11:List ByteArray):Option (Bool×J):=cG FD (AW Be) (AW Be) kx ⟨[(0,.ptr 0 0),(1,.eptr 2 x0 0),(5,.fptr [.int .i64 x1,.int .i64 x2,.int .i64 x3,.int .i64 x4,.int .i64 x5,.str x6] 0),(29,.bool x7)],[.var [.row 1,.row 2,.row 3,.row 4],.rows 94 AK x8,.rows 89 Ah x9,.rows 183 AB x10,.rows 9 .str x11,.dead]⟩
def Eu (x0:Nat) (x1 x2 x3 x4 x5:Int) (x6:ByteArray) (x7:Bool) (x8:List AF) (x9:List AC) (x10:List U) (x11:List ByteArray):Option (Bool×J):=(if (((((x9.getD x0 (0,0,AA,([]:List U),false,([]:List Int),false)).2).2).2).1).length+([(x1,x2,x3,x4,x5,x6)]:List U).length<=68719476736 then (if x0=x0 then (let z2:List AC:=x9.set x0 ((x9.getD x0 (0,0,AA,([]:List U),false,([]:List Int),false)).1,((x9.getD x0 (0,0,AA,([]:List U),false,([]:List Int),false)).2).1,(((x9.getD x0 (0,0,AA,([]:List U),false,([]:List Int),false)).2).2).1,((((((x9.getD x0 (0,0,AA,([]:List U),false,([]:List Int),false)).2).2).2).1)++([(x1,x2,x3,x4,x5,x6)]:List U)),((((x9.getD x0 (0,0,AA,([]:List U),false,([]:List Int),false)).2).2).2).2); ((Gw (x8.length:Int)).bind fun y3=>(if (((((((z2.getD x0 (0,0,AA,([]:List U),false,([]:List Int),false)).2).2).2).1).length:Int)==y3)=true then (let z4:List AC:=z2.set x0 ((z2.getD x0 (0,0,AA,([]:List U),false,([]:List Int),false)).1,((z2.getD x0 (0,0,AA,([]:List U),false,([]:List Int),false)).2).1,(((z2.getD x0 (0,0,AA,([]:List U),false,([]:List Int),false)).2).2).1,((((z2.getD x0 (0,0,AA,([]:List U),false,([]:List Int),false)).2).2).2).1,true,(((((z2.getD x0 (0,0,AA,([]:List U),false,([]:List Int),false)).2).2).2).2).2); ((Gf (((((z4.getD x0 (0,0,AA,([]:List U),false,([]:List Int),false)).2).2).2).1) ((((z4.getD x0 (0,0,AA,([]:List U),false,([]:List Int),false)).2).2).1)).bind fun y5=>(let z6:List AC:=z4.set x0 ((z4.getD x0 (0,0,AA,([]:List U),false,([]:List Int),false)).1,((z4.getD x0 (0,0,AA,([]:List U),false,([]:List Int),false)).2).1,y5,(((z4.getD x0 (0,0,AA,([]:List U),false,([]:List Int),false)).2).2).2); ((EB x0 3 ((((z6.getD x0 (0,0,AA,([]:List U),false,([]:List Int),false)).2).2).1) (x8,z6,x10,x11)).bind fun y7=>(some (true,y7)))))) else (some (true,(x8,z2,x10,x11)))))) else none) else none)
def Fx (x1:Nat) (x2:U) (b0:J):Option (Bool×J):=((BY (((((b0.2.1.getD x1 (0,0,AA,([]:List U),false,([]:List Int),false)).2).2).2).1) x2).bind fun y1=>(if (x2.2.2.2.1 != (((b0.2.1.getD x1 (0,0,AA,([]:List U),false,([]:List Int),false)).2).1))=true then (some (false,b0)) else (if ((((((b0.2.1.getD x1 (0,0,AA,([]:List U),false,([]:List Int),false)).2).2).2).2).1)=true then (some (false,b0)) else (if y1=true then (some (false,b0)) else (Cy x1 x2.1 x2.2.1 x2.2.2.1 x2.2.2.2.1 x2.2.2.2.2.1 x2.2.2.2.2.2 y1 b0.1 b0.2.1 b0.2.2.1 b0.2.2.2)))))
theorem JO:aF Eu Cy:=jS (by kernel_rfl)
theorem LH:YG Fx Cc:=cT Be rfl ⟨rfl,rfl⟩ (by kernel_rfl)
def Dx (x0:Nat) (x1:Bool) (x2:List AF) (x3:List AC) (x4:List U) (x5:List ByteArray) (x6:U):Option (Bool×J):=cG GC (AW Bt) (AW Bt) kx ⟨[(0,.ptr 0 0),(1,.eptr 2 x0 0),(5,.ptr 5 0),(22,.bool x1)],[.var [.row 1,.row 2,.row 3,.row 4],.rows 94 AK x2,.rows 89 Ah x3,.rows 183 AB x4,.rows 9 .str x5,.var (AB.enc x6),.dead]⟩
def Fy (x0:Nat) (x1:Bool) (x2:List AF) (x3:List AC) (x4:List U) (x5:List ByteArray) (x6:U):Option (Bool×J):=(if (((((((x3.getD x0 (0,0,AA,([]:List U),false,([]:List Int),false)).2).2).2).2).2).1).length+([x6.2.1]:List Int).length<=68719476736 then (if x0=x0 then (let z2:List AC:=x3.set x0 ((x3.getD x0 (0,0,AA,([]:List U),false,([]:List Int),false)).1,((x3.getD x0 (0,0,AA,([]:List U),false,([]:List Int),false)).2).1,(((x3.getD x0 (0,0,AA,([]:List U),false,([]:List Int),false)).2).2).1,((((x3.getD x0 (0,0,AA,([]:List U),false,([]:List Int),false)).2).2).2).1,(((((x3.getD x0 (0,0,AA,([]:List U),false,([]:List Int),false)).2).2).2).2).1,((((((((x3.getD x0 (0,0,AA,([]:List U),false,([]:List Int),false)).2).2).2).2).2).1)++([x6.2.1]:List Int)),((((((x3.getD x0 (0,0,AA,([]:List U),false,([]:List Int),false)).2).2).2).2).2).2); ((Gw (x2.length:Int)).bind fun y3=>(if (((((((((z2.getD x0 (0,0,AA,([]:List U),false,([]:List Int),false)).2).2).2).2).2).1).length:Int)==y3)=true then (let z4:List AC:=z2.set x0 ((z2.getD x0 (0,0,AA,([]:List U),false,([]:List Int),false)).1,((z2.getD x0 (0,0,AA,([]:List U),false,([]:List Int),false)).2).1,(((z2.getD x0 (0,0,AA,([]:List U),false,([]:List Int),false)).2).2).1,((((z2.getD x0 (0,0,AA,([]:List U),false,([]:List Int),false)).2).2).2).1,(((((z2.getD x0 (0,0,AA,([]:List U),false,([]:List Int),false)).2).2).2).2).1,((((((z2.getD x0 (0,0,AA,([]:List U),false,([]:List Int),false)).2).2).2).2).2).1,true); (if x5.length+([(((z4.getD x0 (0,0,AA,([]:List U),false,([]:List Int),false)).2).2).1]:List ByteArray).length<=68719476736 then (some (true,(x2,z4,x4,(x5++([(((z4.getD x0 (0,0,AA,([]:List U),false,([]:List Int),false)).2).2).1]:List ByteArray))))) else none)) else (some (true,(x2,z2,x4,x5)))))) else none) else none)
def Hd (x1:Nat) (x2:U) (b0:J):Option (Bool×J):=(if (x2.2.2.2.1 != (((b0.2.1.getD x1 (0,0,AA,([]:List U),false,([]:List Int),false)).2).1))=true then (some (false,b0)) else ((C8 (((((((b0.2.1.getD x1 (0,0,AA,([]:List U),false,([]:List Int),false)).2).2).2).2).2).1) x2.2.1).bind fun y1=>(if y1=true then (some (false,b0)) else (Dx x1 y1 b0.1 b0.2.1 b0.2.2.1 b0.2.2.2 x2))))
theorem LI:Z1 Fy Dx:=jS (by kernel_rfl)
theorem M0:YG Hd DN:=cT Bt rfl ⟨rfl,rfl⟩ (by kernel_rfl)
def OA (x1:AC) (b0:J):Option J:=(if ([]:List AC).length+b0.2.1.length<=68719476736 then (if 0<=(i64.wrap (x1.1-1)) then (if (i64.wrap (x1.1-1))<((([]:List AC)++b0.2.1).length:Int) then (let z1:List AC:=(([]:List AC)++b0.2.1).set ((i64.wrap (x1.1-1)).toNat) x1; (some (b0.1,z1,b0.2.2))) else none) else none) else none)
theorem Tj:MI OA Di:=cT Gu rfl ⟨rfl,rfl⟩ (by kernel_rfl)
def Np:=kJ HE [] [0,5] 4 (AW Ad) (AW Ad) kx
def Nq:=kE 2 [] [0,5] 4 Np kx
def M1:St->Option (RT (CU.outs Ad)):=lG HD [] [0,5,7] 4 (AW Ad) Nq
def Nr:=cG El (AW Ad) (AW Ad) kx
def Ns:=kE 0 [] [0,3,5] 3 Nr kx
def M2:St->Option (RT (CU.outs Ad)):=lG IJ [] [0,3,5,6] 3 (AW Ad) Ns
def DY (x0:Int) (x1:J) (x2:U) (x3:AC) (x4:List U):Option (Int×J):=M1 ⟨[(0,.ptr 0 0),(5,.ptr 2 0),(7,.int .i64 x0)],[.var (AJ.enc x1),.var (AB.enc x2),.var (Cw.enc x3),.frz AB x4]⟩
def DZ (x0:J) (x1:U) (x2:AC):Option (Int×J):=cG El (AW Ad) (AW Ad) kx ⟨[(0,.ptr 0 0),(3,.ptr 1 0),(5,.ptr 2 0)],[.var (AJ.enc x0),.var (AB.enc x1),.var (Cw.enc x2)]⟩
def Da (x0:Int) (x1:J) (x2:U) (x3:AC):Option (Int×J):=M2 ⟨[(0,.ptr 0 0),(3,.ptr 1 0),(5,.ptr 2 0),(6,.int .i64 x0)],[.var (AJ.enc x1),.var (AB.enc x2),.var (Cw.enc x3)]⟩
def He (x0:Bool) (x1:J) (x2:U) (x3:AC):Option (Int×J):=cG HF (AW Ad) (AW Ad) kx ⟨[(0,.ptr 0 0),(3,.ptr 1 0),(5,.ptr 2 0),(25,.bool x0)],[.var (AJ.enc x1),.var (AB.enc x2),.var (Cw.enc x3)]⟩
def Ew (x0:Int) (x1:J) (x2:U) (x3:AC) (x4:List U):Option (Int×J):=(if (decide (x0<=(x1.1.length:Int)))=true then ((ER (3,x3.1,x0,x3.2.1,0,x3.2.2.1) x1).bind fun y3=>(DY (i64.wrap (x0+1)) y3 x2 x3 x4)) else ((Di x3 x1).bind fun y4=>(some (0,y4))))
def Hf (x0:J) (x1:U) (x2:AC):Option (Int×J):=(if ([]:List U).length+x2.2.2.2.1.length<=68719476736 then (if (([]:List U)++x2.2.2.2.1).length+([x1]:List U).length<=68719476736 then ((Gx (x0.1.length:Int)).bind fun y1=>(if ((((([]:List U)++x2.2.2.2.1)++([x1]:List U)).length:Int)==y1)=true then ((Gg ((([]:List U)++x2.2.2.2.1)++([x1]:List U)) x2.2.2.1).bind fun y2=>(DY 1 x0 x1 (x2.1,x2.2.1,y2,((([]:List U)++x2.2.2.2.1)++([x1]:List U)),true,x2.2.2.2.2.2) ((([]:List U)++x2.2.2.2.1)++([x1]:List U)))) else ((Di (x2.1,x2.2.1,x2.2.2.1,((([]:List U)++x2.2.2.2.1)++([x1]:List U)),x2.2.2.2.2) x0).bind fun y5=>(some (0,y5))))) else none) else none)
def Ex (x0:Int) (x1:J) (x2:U) (x3:AC):Option (Int×J):=(if (decide (x0<(x3.2.2.2.1.length:Int)))=true then (if 0<=x0 then (if x0<(x3.2.2.2.1.length:Int) then (if ((((x3.2.2.2.1.getD x0.toNat (0,0,0,0,0,AA)).2).1)==x2.2.1)=true then (some (1,x1)) else (Da (i64.wrap (x0+1)) x1 x2 x3)) else none) else none) else (DZ x1 x2 x3))
def Hg (x0:Bool) (x1:J) (x2:U) (x3:AC):Option (Int×J):=(Da 0 x1 x2 x3)
def KN (x1:U) (b0:J):Option (Int×J):=(if 0<=(i64.wrap (x1.2.2.1-1)) then (if (i64.wrap (x1.2.2.1-1))<(b0.2.1.length:Int) then (if ((((b0.2.1.getD (i64.wrap (x1.2.2.1-1)).toNat (0,0,AA,([]:List U),false,([]:List Int),false)).2).1) != x1.2.2.2.1)=false then (if ((((((b0.2.1.getD (i64.wrap (x1.2.2.1-1)).toNat (0,0,AA,([]:List U),false,([]:List Int),false)).2).2).2).2).1)=true then (some (1,b0)) else (He ((((((b0.2.1.getD (i64.wrap (x1.2.2.1-1)).toNat (0,0,AA,([]:List U),false,([]:List Int),false)).2).2).2).2).1) b0 x1 (b0.2.1.getD (i64.wrap (x1.2.2.1-1)).toNat (0,0,AA,([]:List U),false,([]:List Int),false)))) else (some (1,b0))) else none) else none)
theorem Hh:YS Ew DY:=lS (by kernel_rfl)
theorem M3:YG Hf DZ:=jS (by kernel_rfl)
theorem Hi:YR Ex Da:=lS (by kernel_rfl)
theorem M4:YR Hg He:=jS (by kernel_rfl)
theorem QH:MI KN GL:=cT Ad rfl ⟨rfl,rfl⟩ (by kernel_rfl)
def Fi (x0:Bool) (x1:J) (x2:U) (x3:AC):Option (Int×J):=cG Jy (AW DE) (AW DE) kx ⟨[(0,.ptr 0 0),(3,.ptr 1 0),(5,.ptr 2 0),(26,.bool x0)],[.var (AJ.enc x1),.var (AB.enc x2),.var (Cw.enc x3)]⟩
def JP (x0:Bool) (x1:J) (x2:U) (x3:AC):Option (Int×J):=(if ([]:List Int).length+x3.2.2.2.2.2.1.length<=68719476736 then (if (([]:List Int)++x3.2.2.2.2.2.1).length+([x2.2.1]:List Int).length<=68719476736 then ((Gx (x1.1.length:Int)).bind fun y2=>(if ((((([]:List Int)++x3.2.2.2.2.2.1)++([x2.2.1]:List Int)).length:Int)==y2)=true then (if ([]:List ByteArray).length+x1.2.2.2.length<=68719476736 then (if (([]:List ByteArray)++x1.2.2.2).length+([x3.2.2.1]:List ByteArray).length<=68719476736 then ((Di (x3.1,x3.2.1,x3.2.2.1,x3.2.2.2.1,x3.2.2.2.2.1,((([]:List Int)++x3.2.2.2.2.2.1)++([x2.2.1]:List Int)),true) (x1.1,x1.2.1,x1.2.2.1,((([]:List ByteArray)++x1.2.2.2)++([x3.2.2.1]:List ByteArray)))).bind fun y3=>(some (0,y3))) else none) else none) else ((Di (x3.1,x3.2.1,x3.2.2.1,x3.2.2.2.1,x3.2.2.2.2.1,((([]:List Int)++x3.2.2.2.2.2.1)++([x2.2.1]:List Int)),x3.2.2.2.2.2.2) x1).bind fun y4=>(some (0,y4))))) else none) else none)
def L8 (x1:U) (b0:J):Option (Int×J):=(if 0<=(i64.wrap (x1.2.2.1-1)) then (if (i64.wrap (x1.2.2.1-1))<(b0.2.1.length:Int) then (if ((((b0.2.1.getD (i64.wrap (x1.2.2.1-1)).toNat (0,0,AA,([]:List U),false,([]:List Int),false)).2).1) != x1.2.2.2.1)=false then ((Lk (((((((b0.2.1.getD (i64.wrap (x1.2.2.1-1)).toNat (0,0,AA,([]:List U),false,([]:List Int),false)).2).2).2).2).2).1) x1.2.1).bind fun y1=>(if y1=true then (some (1,b0)) else (Fi y1 b0 x1 (b0.2.1.getD (i64.wrap (x1.2.2.1-1)).toNat (0,0,AA,([]:List U),false,([]:List Int),false))))) else (some (1,b0))) else none) else none)
theorem Oq:YR JP Fi:=jS (by kernel_rfl)
theorem R4:MI L8 Hr:=cT DE rfl ⟨rfl,rfl⟩ (by kernel_rfl)
def QI:=cG J5 (AW At) (AW At) kx
def QJ:=cG GD (AW At) (AW At) kx
def ED (x0:Bool) (x1:AF) (x2:U) (x3:AF) (x4:U):Option (AF×U×Bool):=cG J4 QI (AW At) kx ⟨[(2,.ptr 0 0),(3,.ptr 1 0),(4,.ptr 2 0),(5,.ptr 3 0),(64,.bool x0)],[.var (AK.enc x1),.var (AB.enc x2),.var (AK.enc x3),.var (AB.enc x4)]⟩
def Fj (x0:Bool) (x1:AF) (x2:U) (x3:AF) (x4:U):Option (AF×U×Bool):=cG GD (AW At) (AW At) kx ⟨[(2,.ptr 0 0),(3,.ptr 1 0),(4,.ptr 2 0),(5,.ptr 3 0),(35,.bool x0)],[.var (AK.enc x1),.var (AB.enc x2),.var (AK.enc x3),.var (AB.enc x4)]⟩
def EE (x0:Bool) (x1:AF) (x2:U) (x3:AF) (x4:U):Option (AF×U×Bool):=cG Jz QJ (AW At) kx ⟨[(2,.ptr 0 0),(3,.ptr 1 0),(4,.ptr 2 0),(5,.ptr 3 0),(35,.bool x0)],[.var (AK.enc x1),.var (AB.enc x2),.var (AK.enc x3),.var (AB.enc x4)]⟩
def Fk (x0:Bool) (x1:AF) (x2:U) (x3:AF) (x4:U):Option (AF×U×Bool):=cG J6 (AW At) (AW At) kx ⟨[(2,.ptr 0 0),(3,.ptr 1 0),(4,.ptr 2 0),(5,.ptr 3 0),(23,.bool x0)],[.var (AK.enc x1),.var (AB.enc x2),.var (AK.enc x3),.var (AB.enc x4)]⟩
def JQ (x0:Bool) (x1:AF) (x2:U) (x3:AF) (x4:U):Option (AF×U×Bool):=(if x0=true then (some ((x2.2.2.2.1,x2.2.2.2.1,x2.2.2.2.2.2),(4,x2.2.2.1,x2.2.1,x2.2.2.2.1,0,x2.2.2.2.2.2),true)) else (some (x1,(0,0,0,0,0,AA),false)))
def JR (x0:Bool) (x1:AF) (x2:U) (x3:AF) (x4:U):Option (AF×U×Bool):=(if (x2.1==3)=true then (ED (decide (x2.2.2.2.1>=x1.1)) x1 x2 x3 x4) else (ED false x1 x2 x3 x4))
def JS (x0:Bool) (x1:AF) (x2:U) (x3:AF) (x4:U):Option (AF×U×Bool):=(if x0=true then (some ((x2.2.2.2.1,x1.2),(2,x2.2.2.1,x2.2.1,x2.2.2.2.1,x1.2),true)) else (Fj x0 x1 x2 x3 x4))
def JT (x0:Bool) (x1:AF) (x2:U) (x3:AF) (x4:U):Option (AF×U×Bool):=(if (x2.1==1)=true then (EE (decide (x2.2.2.2.1>x1.1)) x1 x2 x3 x4) else (EE false x1 x2 x3 x4))
def L9 (x0:AF) (x1:U):Option (AF×U×Bool):=((JD x0).bind fun y1=>(if (!y1)=false then ((CT x1.2.2.2.1 1 10000).bind fun y2=>(if (!y2)=false then (if (decide ((x1.2.2.2.2.2.size:Int)>40))=true then (some (x0,(0,0,0,0,0,AA),false)) else (Fk (decide ((x1.2.2.2.2.2.size:Int)>40)) x0 x1 (0,0,AA) (0,0,0,0,0,AA))) else (some (x0,(0,0,0,0,0,AA),false)))) else (some (x0,(0,0,0,0,0,AA),false))))
theorem Or:YS JQ ED:=jS (by kernel_rfl)
theorem Ot:YS JR Fj:=jS (by kernel_rfl)
theorem Ou:YS JS EE:=jS (by kernel_rfl)
theorem Ov:YS JT Fk:=jS (by kernel_rfl)
theorem R5:MI L9 Hs:=cT At rfl ⟨rfl,rfl⟩ (by kernel_rfl)
def KO:=cG J9 (AW Bg) (AW Bg) kx
def KP:=kB [] [2,4,5,7] 5 KO
def KQ:=kE 0 [] [2,4,5,7] 5 KO kx
def EF (x0:Bool) (x1:AF) (x2:U) (x3:AF) (x4 x5:U):Option (AF×U×Bool):=cG J7 KP (AW Bg) KQ ⟨[(2,.ptr 0 0),(3,.ptr 1 0),(4,.ptr 2 0),(5,.ptr 3 0),(7,.ptr 4 0),(55,.bool x0)],[.var (AK.enc x1),.var (AB.enc x2),.var (AK.enc x3),.var (AB.enc x4),.var (AB.enc x5)]⟩
def EG (x0:Bool) (x1:AF) (x2:U) (x3:AF) (x4 x5:U):Option (AF×U×Bool):=cG J8 KP (AW Bg) KQ ⟨[(2,.ptr 0 0),(3,.ptr 1 0),(4,.ptr 2 0),(5,.ptr 3 0),(7,.ptr 4 0),(34,.bool x0)],[.var (AK.enc x1),.var (AB.enc x2),.var (AK.enc x3),.var (AB.enc x4),.var (AB.enc x5)]⟩
def Fl (x0:Bool) (x1:AF) (x2:U) (x3:AF) (x4:U):Option (AF×U×Bool):=cG J_ (AW Bg) (AW Bg) kx ⟨[(2,.ptr 0 0),(3,.ptr 1 0),(4,.ptr 2 0),(5,.ptr 3 0),(22,.bool x0)],[.var (AK.enc x1),.var (AB.enc x2),.var (AK.enc x3),.var (AB.enc x4)]⟩
def JU (x0:Bool) (x1:AF) (x2:U) (x3:AF) (x4 x5:U):Option (AF×U×Bool):=(if x0=true then (some ((x2.2.2.2.1,x2.2.2.2.1,x2.2.2.2.2.2),(4,x5.2.1,x5.2.2.1,x5.2.2.2.1,x5.2.2.2.2.1,x2.2.2.2.2.2),true)) else (some (x1,(0,0,0,0,0,AA),false)))
def JV (x0:Bool) (x1:AF) (x2:U) (x3:AF) (x4 x5:U):Option (AF×U×Bool):=(if x0=true then (some ((x2.2.2.2.1,x1.2),(2,x5.2.1,x5.2.2.1,x5.2.2.2.1,x1.2),true)) else (if (x2.1==3)=true then (EF (decide (x2.2.2.2.1>=x1.1)) x1 x2 x3 x4 x5) else (EF false x1 x2 x3 x4 x5)))
def JW (x0:Bool) (x1:AF) (x2:U) (x3:AF) (x4:U):Option (AF×U×Bool):=(if (x2.1==1)=true then (EG (decide (x2.2.2.2.1>x1.1)) x1 x2 x3 x4 (0,x2.2.2.1,x2.2.1,x2.2.2.2.1,0,AA)) else (EG false x1 x2 x3 x4 (0,x2.2.2.1,x2.2.1,x2.2.2.2.1,0,AA)))
def L_ (x0:AF) (x1:U):Option (AF×U×Bool):=((BX x1.2.2.2.1 1 10000).bind fun y1=>(if (!y1)=false then (if (decide ((x1.2.2.2.2.2.size:Int)>40))=false then ((GI x0).bind fun y2=>(if (!y2)=true then (some (x0,(0,0,0,0,0,AA),false)) else (Fl (!y2) x0 x1 (0,0,AA) (0,0,0,0,0,AA)))) else (some (x0,(0,0,0,0,0,AA),false))) else (some (x0,(0,0,0,0,0,AA),false))))
theorem Ow:aR JU EF:=jS (by kernel_rfl)
theorem Ox:aR JV EG:=jS (by kernel_rfl)
theorem Oy:YS JW Fl:=jS (by kernel_rfl)
theorem R6:MI L_ Ht:=cT Bg rfl ⟨rfl,rfl⟩ (by kernel_rfl)
def B5 (x0:List U) (x1:U):Option Bool:=((Bf x0 x1).bind fun y1=>(some (decide (y1>=0))))
theorem EK:MI B5 BY:=cT Au rfl ⟨rfl,rfl⟩ (by kernel_rfl)
def Jk (x0 x1:U):Option Bool:=(some (x0.2.1==x1.2.1))
theorem Jl:MI Jk C9:=cT CA rfl ⟨rfl,rfl⟩ (by kernel_rfl)
def Oz:=cG I6 (AW Bu) (AW Bu) kx
def O0:=kE 0 [] [6] 0 Oz kx
def Nt:St->Option (RT (CU.outs Bu)):=lG I5 [] [5,6,10,11,12] 0 (AW Bu) O0
def Bz (x0:Int) (x1:ByteArray) (x2:List U) (x3 x4:Int):Option ByteArray:=Nt ⟨[(5,.int .i64 x0),(6,.str x1),(10,.lst AB x2),(11,.int .i64 x3),(12,.int .i64 x4)],[]⟩
def FQ (x0:Int) (x1:ByteArray) (x2:List U) (x3 x4:Int):Option ByteArray:=(if (decide (x4<x3))=true then (if 0<=x4 then (if x4<(x2.length:Int) then (if (((x2.getD x4.toNat (0,0,0,0,0,AA)).1)==2)=true then (if (decide (((((((x2.getD x4.toNat (0,0,0,0,0,AA)).2).2).2).2).1)>x0))=true then (Bz ((((((x2.getD x4.toNat (0,0,0,0,0,AA)).2).2).2).2).1) ((((((x2.getD x4.toNat (0,0,0,0,0,AA)).2).2).2).2).2) x2 x3 (i64.wrap (x4+1))) else (Bz x0 x1 x2 x3 (i64.wrap (x4+1)))) else (Bz x0 x1 x2 x3 (i64.wrap (x4+1)))) else none) else none) else (some x1))
def LJ (x0:List U) (x1:ByteArray):Option ByteArray:=(Bz 0 x1 x0 (x0.length:Int) 0)
theorem IT:YS FQ Bz:=lS (by kernel_rfl)
theorem Q9:MI LJ Gf:=cT Bu rfl ⟨rfl,rfl⟩ (by kernel_rfl)
def OB (x0:Int):Option Int:=(if (decide (x0<0))=true then (some 0) else (if 2=0 then none else (some (i64.wrap ((i64.wrap (Int.tdiv x0 2))+1)))))
theorem Tk:Wa OB Gx:=cT Gv rfl ⟨rfl,rfl⟩ (by kernel_rfl)
def O1:=cG I_ (AW Bb) (AW Bb) kx
def Fm:=kE 0 [] [6] 0 O1 kx
def IU:St->Option (RT (CU.outs Bb)):=lG I9 [] [0,5,6,7] 0 (AW Bb) Fm
def O2:=kB [] [0,5,6,7] 0 IU
def JX:=cG I8 O2 (AW Bb) Fm
def O3:=kB [] [0,5,6,7] 0 JX
def O4:=kE 1 [] [0,5,6,7] 0 JX Fm
def Ds (x0:List U) (x1:Int) (x2:ByteArray) (x3:Int) (x4:Bool):Option ByteArray:=cG I7 O3 (AW Bb) O4 ⟨[(0,.lst AB x0),(5,.int .i64 x1),(6,.str x2),(7,.int .i64 x3),(29,.bool x4)],[]⟩
def Ci (x0:List U) (x1:Int) (x2:ByteArray) (x3:Int):Option ByteArray:=IU ⟨[(0,.lst AB x0),(5,.int .i64 x1),(6,.str x2),(7,.int .i64 x3)],[]⟩
def IV (x0:List U) (x1:Int) (x2:ByteArray) (x3:Int) (x4:Bool):Option ByteArray:=(if x4=true then (if 0<=x3 then (if x3<(x0.length:Int) then (if 0<=x3 then (if x3<(x0.length:Int) then (Ci x0 ((((((x0.getD x3.toNat (0,0,0,0,0,AA)).2).2).2).2).1) ((((((x0.getD x3.toNat (0,0,0,0,0,AA)).2).2).2).2).2) (i64.wrap (x3+1))) else none) else none) else none) else none) else (Ci x0 x1 x2 (i64.wrap (x3+1))))
def FR (x0:List U) (x1:Int) (x2:ByteArray) (x3:Int):Option ByteArray:=(if (decide (x3<(x0.length:Int)))=true then (if 0<=x3 then (if x3<(x0.length:Int) then (if (((x0.getD x3.toNat (0,0,0,0,0,AA)).1)==2)=true then (if 0<=x3 then (if x3<(x0.length:Int) then (Ds x0 x1 x2 x3 (decide (((((((x0.getD x3.toNat (0,0,0,0,0,AA)).2).2).2).2).1)>x1))) else none) else none) else (Ds x0 x1 x2 x3 false)) else none) else none) else (some x2))
def LK (x0:List U) (x1:ByteArray):Option ByteArray:=(Ci x0 0 x1 0)
theorem Nu:YS IV Ds:=jS (by kernel_rfl)
theorem IW:YR FR Ci:=lS (by kernel_rfl)
theorem Q_:MI LK Gg:=cT Bb rfl ⟨rfl,rfl⟩ (by kernel_rfl)
def M5 (x0:AF):Option Bool:=((CT x0.1 0 10000).bind fun y1=>(if y1=true then ((CT x0.2.1 0 x0.1).bind fun y2=>(if y2=true then (if (decide ((x0.2.2.size:Int)<=40))=true then (if (decide (x0.2.1>0))=false then (some (x0.2.2.toList==(⟨#[]⟩:ByteArray).toList)) else (some true)) else (some false)) else (some false))) else (some false)))
theorem TK:Wa M5 JD:=cT GE rfl ⟨rfl,rfl⟩ (by kernel_rfl)
def EV:=cG CG (AW AR) (AW AR) kx
def EW:=kE 0 [] [] 0 EV kx
def EL:St->Option (RT (CU.outs AR)):=lG CF [] [0,1,7,8] 0 (AW AR) EW
def Av (x0:List U) (x1:U) (x2 x3:Int):Option Int:=EL ⟨[(0,.lst AB x0),(1,.clo 184 AB x1),(7,.int .i64 x2),(8,.int .i64 x3)],[]⟩
def Aw (x0:List U) (x1:U) (x2 x3:Int):Option Int:=(if (decide (x3<x2))=true then (if 0<=x3 then (if x3<(x0.length:Int) then ((C9 (x0.getD x3.toNat (0,0,0,0,0,AA)) x1).bind fun y1=>(if y1=true then (some x3) else (Av x0 x1 x2 (i64.wrap (x3+1))))) else none) else none) else (some (-1:Int)))
def CZ (x0:List U) (x1:U):Option Int:=(Av x0 x1 (x0.length:Int) 0)
theorem BZ:YR Aw Av:=lS (by kernel_rfl)
theorem Ey:MI CZ Bf:=cT AR rfl ⟨rfl,rfl⟩ (by kernel_rfl)
end
end Go.Proofs.Ytffahmnodgnohaa.Core


namespace Go.Proofs.Ytffahmnodgnohaa.Core
open Go
theorem BJ {n:Int} (h:-9223372036854775808<=n/\n<=9223372036854775807):IntKind.i64.wrap n=n:=IntWalk.i64_in n h
theorem BM {i:Nat} (h:i<9223372036854775807):IntKind.i64.wrap ((i:Int)+1)=((i+1:Nat):Int):=by
 rw [BJ (by omega)]
 omega
theorem R7 {P:Nat->Prop} {n:Nat} (h0:P n) (h:∀ i,i<n->P (i+1)->P i):∀ i,i<=n->P i:=by
 intro i hi
 induction hk:n-i generalizing i with
 | zero =>
  have:i=n:=by omega
  subst this
  exact h0
 | succ k ih=>exact h i (by omega) (ih (i+1) (by omega) (by omega))
theorem Bi {α:Type} {xs:List α} {i:Nat} {d:α} (h:i<xs.length):xs.getD i d=xs[i]:=by
 simp [List.getD,h]

theorem Ce (a b c:Int):CT a b c=some (decide (b<=a)&&decide (a<=c)):=Uj (by
 unfold P_
 by_cases h:b<=a<;>simp [h])
theorem Bc (a b c:Int):BX a b c=some (decide (b<=a)&&decide (a<=c)):=TD (by
 unfold Ms
 by_cases h:b<=a<;>simp [h])

abbrev OC:Type:=List Int×Int×Int
def VZ (d:OC):Prop:=0<=d.2.1/\d.1.length<=maxLen
theorem RY (a:Int):0<=F0 .i64 a 255/\F0 .i64 a 255<=255:=by
 unfold F0
 have h:(BitVec.ofInt (IntKind.bits .i64) a &&& BitVec.ofInt (IntKind.bits .i64) 255).toNat<=255:=by
  rw [BitVec.toNat_and]
  refine Nat.le_trans Nat.and_le_right ?_
  decide
 rw [BJ (by omega)]
 omega
theorem Db (d:OC) (h:VZ d):∃ b d',Cx d=some (b,d')/\VZ d'/\0<=b/\b<=255:=by
 have hm:d.1.length<=9223372036854775807:=h.2
 have hp:=h.1
 suffices g:∃ b d',JI d=some (b,d')/\VZ d'/\0<=b/\b<=255 from g.imp fun b g=>g.imp fun d' g=>⟨TE g.1,g.2⟩
 unfold JI
 rw [if_neg (by omega),if_neg (by omega)]
 by_cases h1:d.2.1<(d.1.length:Int)
 ·rw [if_pos (by simpa using h1),if_pos hp,if_pos h1]
  refine ⟨_,_,rfl,⟨?_,h.2⟩,RY _⟩
  show 0<=IntKind.i64.wrap (d.2.1+1)
  rw [BJ (by omega)]
  omega
 ·rw [if_neg (by simpa using h1)]
  exact ⟨_,_,rfl,h,RY _⟩
theorem CK (n:Int) (d:OC) (h:VZ d):∃ v d',B4 n d=some (v,d')/\VZ d'/\0<=v/\(0<n->v<n):=by
 suffices g:∃ b d',Hu n d=some (b,d')/\VZ d'/\0<=b/\(0<n->b<n) from g.imp fun b g=>g.imp fun d' g=>⟨Ry g.1,g.2⟩
 unfold Hu
 by_cases h1:n<=0
 ·exact ⟨0,d,by rw [if_pos (by simpa using h1)],h,by omega,by omega⟩
 ·rw [if_neg (by simpa using h1)]
  by_cases h2:n<=256
  ·obtain ⟨b,d1,e1,k1,b0,b1⟩:=Db d h
   refine ⟨_,_,by rw [if_pos (by simpa using h2),e1,Z,if_neg (by omega)],k1,Int.tmod_nonneg _ b0,fun _=>Int.tmod_lt_of_pos _ (by omega)⟩
  ·obtain ⟨b1,d1,e1,k1,b10,b11⟩:=Db d h
   obtain ⟨b2,d2,e2,k2,b20,b21⟩:=Db d1 k1
   obtain ⟨b3,d3,e3,k3,b30,b31⟩:=Db d2 k2
   obtain ⟨b4,d4,e4,k4,b40,b41⟩:=Db d3 k3
   refine ⟨_,_,by rw [if_neg (by simpa using h2),e1,Z,e2,Z,e3,Z,e4,Z,if_neg (by omega)],k4,Int.tmod_nonneg _ ?_,fun _=>Int.tmod_lt_of_pos _ (by omega)⟩
   rw [BJ (n:=b1*16777216) (by omega),BJ (n:=b2*65536) (by omega),BJ (n:=b3*256) (by omega),BJ (n:=b1*16777216+b2*65536) (by omega),BJ (n:=b1*16777216+b2*65536+b3*256) (by omega),BJ (by omega)]
   omega
theorem M6 (x:List Int) (hx:0<x.length) (d:OC) (h:VZ d):∃ v d',GJ x d=some (v,d')/\VZ d'/\v∈x:=by
 obtain ⟨v,d',e,k,v0,v1⟩:=CK (x.length:Int) d h
 have v1:=v1 (by omega)
 have hv:v.toNat<x.length:=by omega
 exact ⟨_,_,QF (by unfold KL; rw [e,Z,if_pos v0,if_pos v1]),k,by rw [Bi hv]; exact DG hv⟩
theorem RA (x:List Int) (h:x.length<=maxLen):∃ d,Kc x=some d/\VZ d:=by
 have hm:x.length<=9223372036854775807:=h
 have key:=R7 (n:=x.length) (P:=fun i=>∀ a,∃ d,FA x a (i:Int)=some d/\VZ d) (fun a=>⟨(x,0,a),Gh (by
  unfold FB
  rw [if_neg (by simp)]),⟨Int.le_refl _,h⟩⟩) (fun i hi ih a=>by
  by_cases h4:(i:Int)<4000
  ·obtain ⟨d,e,k⟩:=ih (F0 .i64 (IntKind.i64.wrap ((IntKind.i64.wrap ((IntKind.i64.wrap (a*(131:Int)))+(IntKind.i64.wrap (x.getD (i:Int).toNat (0:Int)))))+(7:Int))) (1073741823:Int))
   refine ⟨d,Gh ?_,k⟩
   unfold FB
   rw [if_pos (by simpa using hi),if_pos (by simpa using h4)]
   refine Q4 ?_
   unfold LE
   rw [if_pos (by omega),if_pos (by omega),BM (show i<9223372036854775807 by omega)]
   exact e
  ·refine ⟨(x,0,a),Gh ?_,⟨Int.le_refl _,h⟩⟩
   unfold FB
   rw [if_pos (by simpa using hi),if_neg (by simpa using h4)]) 0 (by omega)
 obtain ⟨d,e,k⟩:=key (IntKind.i64.wrap ((14301:Int)+(x.length:Int)))
 exact ⟨d,Tg e,k⟩

abbrev B7:Type:=Int×Int×ByteArray
abbrev Al:Type:=Int×Int×Int×Int×Int×ByteArray
def Ck:Al:=((0:Int),(0:Int),(0:Int),(0:Int),(0:Int),AA)
def Dt (v:B7):Bool:=(decide (0<=v.1)&&decide (v.1<=10000))&&(decide (0<=v.2.1)&&decide (v.2.1<=v.1))&&decide ((v.2.2.size:Int)<=40)&&(decide (v.2.1>0)||v.2.2.toList==(⟨#[]⟩:ByteArray).toList)
def Bd (v:B7) (m:Al):B7×Al×Bool :=
 if Dt v=true/\(1<=m.2.2.2.1/\m.2.2.2.1<=10000)/\(m.2.2.2.2.2.size:Int)<=40 then
  if m.1=1/\m.2.2.2.1>v.1 then ((m.2.2.2.1,v.2),(2,m.2.2.1,m.2.1,m.2.2.2.1,v.2),true)
  else if m.1=3/\m.2.2.2.1>=v.1 then ((m.2.2.2.1,m.2.2.2.1,m.2.2.2.2.2),(4,m.2.2.1,m.2.1,m.2.2.2.1,0,m.2.2.2.2.2),true)
  else (v,Ck,false)
 else (v,Ck,false)
theorem QK (v:B7):JD v=some (Dt v):=TK (by
 unfold M5 Dt
 simp only [Ce,Z]
 generalize (decide (0<=v.1)&&decide (v.1<=10000))=a
 generalize (decide (0<=v.2.1)&&decide (v.2.1<=v.1))=b
 generalize decide ((v.2.2.size:Int)<=40)=c
 generalize decide (v.2.1>0)=d
 generalize (v.2.2.toList==(⟨#[]⟩:ByteArray).toList)=e
 cases a<;>cases b<;>cases c<;>cases d<;>simp)
theorem KR (v:B7):GI v=some (Dt v):=TC (by
 have h0:∀ b,GM b v=some (decide (v.2.1>0)||v.2.2.toList==(⟨#[]⟩:ByteArray).toList):=fun b=>P9 (by
  unfold KE
  cases decide (v.2.1>0)<;>simp)
 unfold Mr Dt
 simp only [Bc,Z,h0]
 have e:decide ((v.2.2.size:Int)>40)=!decide ((v.2.2.size:Int)<=40):=by
  by_cases h:(v.2.2.size:Int)<=40<;>simp [h]
  omega
 rw [e]
 generalize (decide (0<=v.1)&&decide (v.1<=10000))=a
 generalize (decide (0<=v.2.1)&&decide (v.2.1<=v.1))=b
 generalize decide ((v.2.2.size:Int)<=40)=c
 generalize (decide (v.2.1>0)||v.2.2.toList==(⟨#[]⟩:ByteArray).toList)=d
 cases a<;>cases b<;>cases c<;>simp)
theorem O5 (v:B7) (m:Al):Ht v m=some (Bd v m):=R6 (by
 have h2:∀ b a1 a2 a3,EF b v m a1 a2 a3=some (if b=true then ((m.2.2.2.1,m.2.2.2.1,m.2.2.2.2.2),(4,a3.2.1,a3.2.2.1,a3.2.2.2.1,a3.2.2.2.2.1,m.2.2.2.2.2),true) else (v,Ck,false)):=fun b a1 a2 a3=>Ow (by
  unfold JU
  cases b<;>rfl)
 have h1:∀ b a1 a2 a3,EG b v m a1 a2 a3=some (if b=true then ((m.2.2.2.1,v.2),(2,a3.2.1,a3.2.2.1,a3.2.2.2.1,v.2),true) else if m.1=3/\m.2.2.2.1>=v.1 then ((m.2.2.2.1,m.2.2.2.1,m.2.2.2.2.2),(4,a3.2.1,a3.2.2.1,a3.2.2.2.1,a3.2.2.2.2.1,m.2.2.2.2.2),true) else (v,Ck,false)):=fun b a1 a2 a3=>Ox (by
  unfold JV
  simp only [h2]
  by_cases e1:m.1=3<;>by_cases e2:m.2.2.2.1>=v.1<;>cases b<;>simp [e1,e2])
 have h0:∀ b a1 a2,Fl b v m a1 a2=some (if m.1=1/\m.2.2.2.1>v.1 then ((m.2.2.2.1,v.2),(2,m.2.2.1,m.2.1,m.2.2.2.1,v.2),true) else if m.1=3/\m.2.2.2.1>=v.1 then ((m.2.2.2.1,m.2.2.2.1,m.2.2.2.2.2),(4,m.2.2.1,m.2.1,m.2.2.2.1,0,m.2.2.2.2.2),true) else (v,Ck,false)):=fun b a1 a2=>Oy (by
  unfold JW
  simp only [h1]
  by_cases e1:m.1=1<;>by_cases e2:m.2.2.2.1>v.1<;>simp [e1,e2])
 unfold L_ Bd
 simp only [Bc,KR,Z,h0]
 by_cases e1:1<=m.2.2.2.1/\m.2.2.2.1<=10000
 ·by_cases e2:(m.2.2.2.2.2.size:Int)<=40
  ·cases e3:Dt v<;>simp [e1.1,e1.2,e2,Ck]
  ·have e2':(m.2.2.2.2.2.size:Int)>40:=by omega
   simp [e1.1,e1.2,e2,e2',Ck]
 ·rw [if_neg (by rw [<- Bool.decide_and,decide_eq_false e1]; simp),if_neg (fun h=>e1 h.2.1)]
  rfl)
theorem O6 (v:B7) (m:Al):Hs v m=some (Bd v m):=R5 (by
 have h3:∀ b a1 a2,ED b v m a1 a2=some (if b=true then ((m.2.2.2.1,m.2.2.2.1,m.2.2.2.2.2),(4,m.2.2.1,m.2.1,m.2.2.2.1,0,m.2.2.2.2.2),true) else (v,Ck,false)):=fun b a1 a2=>Or (by
  unfold JQ
  cases b<;>rfl)
 have h2:∀ b a1 a2,Fj b v m a1 a2=some (if m.1=3/\m.2.2.2.1>=v.1 then ((m.2.2.2.1,m.2.2.2.1,m.2.2.2.2.2),(4,m.2.2.1,m.2.1,m.2.2.2.1,0,m.2.2.2.2.2),true) else (v,Ck,false)):=fun b a1 a2=>Ot (by
  unfold JR
  simp only [h3]
  by_cases e1:m.1=3<;>by_cases e2:m.2.2.2.1>=v.1<;>simp [e1,e2])
 have h1:∀ b a1 a2,EE b v m a1 a2=some (if b=true then ((m.2.2.2.1,v.2),(2,m.2.2.1,m.2.1,m.2.2.2.1,v.2),true) else if m.1=3/\m.2.2.2.1>=v.1 then ((m.2.2.2.1,m.2.2.2.1,m.2.2.2.2.2),(4,m.2.2.1,m.2.1,m.2.2.2.1,0,m.2.2.2.2.2),true) else (v,Ck,false)):=fun b a1 a2=>Ou (by
  unfold JS
  simp only [h2]
  cases b<;>simp)
 have h0:∀ b a1 a2,Fk b v m a1 a2=some (if m.1=1/\m.2.2.2.1>v.1 then ((m.2.2.2.1,v.2),(2,m.2.2.1,m.2.1,m.2.2.2.1,v.2),true) else if m.1=3/\m.2.2.2.1>=v.1 then ((m.2.2.2.1,m.2.2.2.1,m.2.2.2.2.2),(4,m.2.2.1,m.2.1,m.2.2.2.1,0,m.2.2.2.2.2),true) else (v,Ck,false)):=fun b a1 a2=>Ov (by
  unfold JT
  simp only [h1]
  by_cases e1:m.1=1<;>by_cases e2:m.2.2.2.1>v.1<;>simp [e1,e2])
 unfold L9 Bd
 simp only [Ce,QK,Z,h0]
 by_cases e1:1<=m.2.2.2.1/\m.2.2.2.1<=10000
 ·by_cases e2:(m.2.2.2.2.2.size:Int)<=40
  ·have e2':¬ ((40:Int)<(m.2.2.2.2.2.size:Int)):=by omega
   cases e3:Dt v<;>simp [e1.1,e1.2,e2,e2',Ck]
  ·have e2':(m.2.2.2.2.2.size:Int)>40:=by omega
   cases e3:Dt v<;>simp [e1.1,e1.2,e2,e2',Ck]
 ·have e4:(decide (1<=m.2.2.2.1)&&decide (m.2.2.2.1<=10000))=false:=by rw [<- Bool.decide_and,decide_eq_false e1]
  simp only [e1,e4]
  cases e3:Dt v<;>simp [Ck])
theorem Hj (v:B7):Dt v=true↔(0<=v.1/\v.1<=10000)/\(0<=v.2.1/\v.2.1<=v.1)/\(v.2.2.size:Int)<=40/\(v.2.1>0\/v.2.2.toList=(⟨#[]⟩:ByteArray).toList):=by
 simp only [Dt,AD,decide_eq_true_eq,Ez,beq_iff_eq,and_assoc]
theorem Va (v:B7) (m:Al) (h:Dt v=true):Dt (Bd v m).1=true/\v.1<=(Bd v m).1.1/\v.2.1<=(Bd v m).1.2.1:=by
 obtain ⟨⟨a1,a2⟩,⟨a3,a4⟩,a5,a6⟩:=(Hj v).1 h
 unfold Bd
 split
 ·rename_i h1
  obtain ⟨_,⟨h2,h2'⟩,h3⟩:=h1
  split
  ·rename_i h4
   have h4:=h4.2
   refine ⟨(Hj _).2 ⟨⟨?_,?_⟩,⟨?_,?_⟩,a5,a6⟩,?_,Int.le_refl _⟩<;>simp only<;>omega
  ·split
   ·rename_i h4 h5
    have h5:=h5.2
    refine ⟨(Hj _).2 ⟨⟨?_,?_⟩,⟨?_,?_⟩,h3,.inl ?_⟩,?_,?_⟩<;>simp only<;>omega
   ·exact ⟨h,Int.le_refl _,Int.le_refl _⟩
 ·exact ⟨h,Int.le_refl _,Int.le_refl _⟩
/- What is drawn. -/
theorem Tl (x:List ByteArray) (hx:0<x.length) (d:OC) (h:VZ d):∃ v d',JC x d=some (v,d')/\VZ d'/\v∈x:=by
 obtain ⟨v,d',e,k,v0,v1⟩:=CK (x.length:Int) d h
 have v1:=v1 (by omega)
 have hv:v.toNat<x.length:=by omega
 exact ⟨_,_,TJ (by unfold My; rw [e,Z,if_pos v0,if_pos v1]),k,by rw [Bi hv]; exact DG hv⟩
def JY:List ByteArray:=[(⟨#[120]⟩:ByteArray),(⟨#[121]⟩:ByteArray),(⟨#[122]⟩:ByteArray),(⟨#[49,44,50]⟩:ByteArray),(⟨#[50,44,51]⟩:ByteArray)]
theorem O7 (d:OC) (h:VZ d):∃ v d',Hq d=some (v,d')/\VZ d'/\v∈JY:=by
 obtain ⟨v,d',e,k,hv⟩:=Tl JY (by decide) d h
 unfold JY at e
 exact ⟨_,_,R2 (by unfold L6; rw [e]; rfl),k,hv⟩
theorem Tm (x:List Int):OW x=some (decide ((x.length:Int)>(1048576:Int))):=V9 rfl

theorem DF {α:Type} {x:List α} {i:Nat} (h:i<x.length):x.drop i=x[i]::x.drop (i+1):=List.drop_eq_getElem_cons h



def ZH (a:ByteArray×ByteArray×Int):Bool:=(decide (1<=(a.1.size:Int))&&decide ((a.1.size:Int)<=12))&&decide ((a.2.1.size:Int)<=20)&&(decide (1<=a.2.2)&&decide (a.2.2<=1000000000))
def T8 (x:List (ByteArray×ByteArray×Int)) (i:Nat):Nat->Bool
 | 0=>decide ((x.length:Int)<=12)
 | k+1=>ZH (x.getD i (AA,AA,0))&&(decide (i=0)||Op.bytesLess (x.getD (i-1) (AA,AA,0)).1.toList (x.getD i (AA,AA,0)).1.toList)&&T8 x (i+1) k

abbrev ZQ:Type:=ByteArray×ByteArray×Int
def Wd (x:List ZQ):Bool:=T8 x 0 x.length





def T9 (v:List Int) (i:Nat):Nat->Bool
 | 0=>true
 | k+1=>(decide (1<=v.getD i 0)&&decide (v.getD i 0<=6))&&!(v.take i).contains (v.getD i 0)&&T9 v (i+1) k
def Zx (v:List Int):Bool:=(decide (1<=(v.length:Int))&&decide ((v.length:Int)<=4))&&T9 v 0 v.length
def T_ (x:List (List Int)) (n:Nat):List (List Int)->Bool
 | []=>decide (1<=(n:Int))&&decide ((n:Int)<=9)
 | v::r=>Zx v&&T_ x n r

abbrev YL:Type:=Int×Int×Int×(ByteArray×ByteArray×Int)×List Int
abbrev SL:Type:=Int×Int×Bool×Bool×Bool×Bool×List Int×List (ByteArray×ByteArray×Int)×Int×YL
def Zy (t:YL):Bool:=(t.1==0)&&(t.2.1==0)&&(t.2.2.1==0)&&Vg (.pair .str (.pair .str (.int .i64))) t.2.2.2.1 (AA,AA,(0:Int))&&((t.2.2.2.2.length:Int)==0)
def YM (t:YL) (serves:Bool):Bool:=(t.1==1||t.1==2)&&serves&&(decide (0<=t.2.1)&&decide (t.2.1<=1000))&&(decide (1<=t.2.2.1)&&decide (t.2.2.1<=900))

abbrev aH:Type:=Int×Int×Int×Int×Int×List (ByteArray×ByteArray×Int)

def ah (v:List Int):Prop:=(∀ a∈v,1<=a/\a<=6)/\v.Pairwise (· < ·)
structure ar (m:SL):Prop where
 id:1<=m.1/\m.1<=6
 ep:1<=m.2.1/\m.2.1<=9
 serves:m.2.2.2.2.2.1=true->m.2.2.2.1=true/\m.2.2.2.2.1=true/\m.2.2.2.2.2.2.1=[]
 fell:m.2.2.1=true->m.2.2.2.1=false/\m.2.2.2.2.1=false
 waits:ah m.2.2.2.2.2.2.1
 left:ah m.2.2.2.2.2.2.2.2.2.2.2.2.2
 items:Wd m.2.2.2.2.2.2.2.1=true
 count:0<=m.2.2.2.2.2.2.2.2.1/\m.2.2.2.2.2.2.2.2.1<=900
 task:Zy m.2.2.2.2.2.2.2.2.2=true\/YM m.2.2.2.2.2.2.2.2.2 m.2.2.2.2.2.1=true

structure au (views:List (List Int)):Prop where
 ok:T_ views views.length views=true

structure ax (x:aH):Prop where
 kind:1<=x.1/\x.1<=8
 frm:1<=x.2.1/\x.2.1<=6
 to:1<=x.2.2.1/\x.2.2.1<=6
 ep:1<=x.2.2.2.1/\x.2.2.2.1<=9
 num:0<=x.2.2.2.2.1/\x.2.2.2.2.1<=1000000000
 items:Wd x.2.2.2.2.2=true
 shape:if x.1=2\/x.1=3 then True else if x.1=5 then x.2.2.2.2.2.length=1 else x.2.2.2.2.2=[]



def aI:SL:=((0:Int),(0:Int),false,false,false,false,([]:List Int),([]:List ZQ),(0:Int),(0:Int),(0:Int),(0:Int),(AA,AA,(0:Int)),([]:List Int))

theorem Vb (x:List Int) (n:Int) (h:x.length<=maxLen):C8 x n=some (x.contains n):=Jh (by
 have hm:x.length<=9223372036854775807:=h
 have key:=R7 (n:=x.length) (P:=fun i=>∃ r,CB x n (x.length:Int) (i:Int)=some r/\(decide (r>=0)=(x.drop i).contains n)) ⟨-1,C_ (by
  unfold CC
  rw [if_neg (by simp)]),by simp⟩ (fun i hi ⟨r,hr,hc⟩=>by
  by_cases e:n=x[i]
  ·refine ⟨(i:Int),C_ ?_,?_⟩
   ·unfold CC
    simp only [show ((i:Int)<(x.length:Int)) from by omega,decide_true,if_true,show (0:Int)<=(i:Int) from by omega,CH,Bi hi]
    rw [if_pos (by simpa using e)]
   ·rw [DF hi,List.contains_cons,e]
    simp only [beq_self_eq_true,Bool.true_or]
    exact decide_eq_true (by omega)
  ·refine ⟨r,C_ ?_,?_⟩
   ·unfold CC
    simp only [show ((i:Int)<(x.length:Int)) from by omega,decide_true,if_true,show (0:Int)<=(i:Int) from by omega,CH,Bi hi,BM (show i<9223372036854775807 by omega)]
    rw [if_neg (by simpa using e)]
    exact hr
   ·rw [DF hi,hc,List.contains_cons]
    simp [e]) 0 (by omega)
 obtain ⟨r,hr,hc⟩:=key
 unfold FE
 have:D_ x n=some r:=Lo hr
 rw [this,Z,hc,List.drop_zero])

abbrev JZ:Type:=Int×Int×ByteArray×List Al×Bool×List Int×Bool
abbrev EM:Type:=Int×Int×Int×ByteArray
abbrev D0:Type:=List B7×List JZ×List Al×List ByteArray
def Ao:JZ:=((0:Int),(0:Int),AA,([]:List Al),false,([]:List Int),false)
def BH:B7:=((0:Int),(0:Int),AA)
def EN (n:Nat):Int:=(n:Int) / 2+1
def Kh (kind id b:Int) (v:ByteArray):Nat->Nat->List Al
 | _,0=>[]
 | i,k+1=>(kind,id,(i:Int)+1,b,0,v)::Kh kind id b v (i+1) k
def Ec:List Al->Int->ByteArray->ByteArray
 | [],_,v=>v
 | m::l,b,v=>if m.1=2/\m.2.2.2.2.1>b then Ec l m.2.2.2.2.1 m.2.2.2.2.2 else Ec l b v
def IX (t:JZ):Int:=if t.2.1=0 then t.1 else t.2.1+10
def Dy (kp:Bool) (h:EM) (c:D0):Bool×D0 :=
 let j:=(h.2.1-1).toNat
 let t:=c.2.1.getD j Ao
 if IX t>10000 then (false,c)
 else (true,(c.1,c.2.1.set j (t.1,IX t,h.2.2.2,[],false,[],kp&&t.2.2.2.2.2.2),c.2.2.1++Kh 1 t.1 (IX t) AA 0 c.1.length,c.2.2.2))
def MA (m:Al) (c:D0):Bool×D0 :=
 let j:=(m.2.2.1-1).toNat
 let r:=Bd (c.1.getD j BH) m
 (r.2.2,(c.1.set j r.1,c.2.1,if r.2.2=true then c.2.2.1++[r.2.1] else c.2.2.1,c.2.2.2))
def Co (m:Al) (c:D0):Bool×D0 :=
 let j:=(m.2.2.1-1).toNat
 let t:=c.2.1.getD j Ao
 if m.2.2.2.1≠t.2.1\/t.2.2.2.2.1=true\/t.2.2.2.1.any (fun x=>x.2.1==m.2.1)=true then (false,c)
 else if ((t.2.2.2.1++[m]).length:Int)=EN c.1.length then
  (true,(c.1,c.2.1.set j (t.1,t.2.1,Ec (t.2.2.2.1++[m]) 0 t.2.2.1,t.2.2.2.1++[m],true,t.2.2.2.2.2),c.2.2.1++Kh 3 t.1 t.2.1 (Ec (t.2.2.2.1++[m]) 0 t.2.2.1) 0 c.1.length,c.2.2.2))
 else (true,(c.1,c.2.1.set j (t.1,t.2.1,t.2.2.1,t.2.2.2.1++[m],t.2.2.2.2),c.2.2))
def Gl (m:Al) (c:D0):Bool×D0 :=
 let j:=(m.2.2.1-1).toNat
 let t:=c.2.1.getD j Ao
 if m.2.2.2.1≠t.2.1\/t.2.2.2.2.2.1.contains m.2.1=true then (false,c)
 else if ((t.2.2.2.2.2.1++[m.2.1]).length:Int)=EN c.1.length then
  (true,(c.1,c.2.1.set j (t.1,t.2.1,t.2.2.1,t.2.2.2.1,t.2.2.2.2.1,t.2.2.2.2.2.1++[m.2.1],true),c.2.2.1,c.2.2.2++[t.2.2.1]))
 else (true,(c.1,c.2.1.set j (t.1,t.2.1,t.2.2.1,t.2.2.2.1,t.2.2.2.2.1,t.2.2.2.2.2.1++[m.2.1],t.2.2.2.2.2.2),c.2.2))
def GT (m:Al) (c:D0):Bool×D0 :=
 if m.1=1\/m.1=3 then MA m c else if m.1=2 then Co m c else Gl m c
def Cl (h:EM) (c:D0):Nat:=(h.2.2.1 % (c.2.2.1.length:Int)).toNat
def OD (h:EM) (c:D0):D0:=(c.1,c.2.1,c.2.2.1.take (Cl h c)++c.2.2.1.drop (Cl h c+1),c.2.2.2)
def C3 (kp:Bool) (h:EM) (c:D0):Bool×D0 :=
 if h.1=1 then Dy kp h c
 else if c.2.2.1.length=0 then (false,c)
 else if h.1=4 then (true,(c.1,c.2.1,c.2.2.1++[c.2.2.1.getD (Cl h c) Ck],c.2.2.2))
 else if h.1=3 then (true,OD h c)
 else GT (c.2.2.1.getD (Cl h c) Ck) (OD h c)
def O8 (n t:Nat) (m:Al):Prop :=
 ((m.1=1\/m.1=3)/\(1<=m.2.2.1/\m.2.2.1<=(n:Int))/\1<=m.2.1/\m.2.1<=(t:Int))\/((m.1=2\/m.1=4)/\(1<=m.2.2.1/\m.2.2.1<=(t:Int))/\1<=m.2.1/\m.2.1<=(n:Int))
structure UA (k:Nat) (j:Nat) (t:JZ):Prop where
 id:t.1=(j:Int)+1
 ballot:0<=t.2.1/\t.2.1<=10000
 pl:t.2.2.2.1.length<=k
 tl:t.2.2.2.2.2.1.length<=k
structure Hl (n t k:Nat) (c:D0):Prop where
 vl:c.1.length=n
 cl:c.2.1.length=t
 tr:∀ j,j<t->UA k j (c.2.1.getD j Ao)
 nl:c.2.2.1.length<=5*k
 ch:c.2.2.2.length<=k
 nt:∀ m∈c.2.2.1,O8 n t m
theorem UA.up {k k' j:Nat} {t:JZ} (h:UA k j t) (hk:k<=k'):UA k' j t:=⟨h.id,h.ballot,Nat.le_trans h.pl hk,Nat.le_trans h.tl hk⟩
theorem Hl.up {n t k k':Nat} {c:D0} (h:Hl n t k c) (hk:k<=k'):Hl n t k' c :=
 ⟨h.vl,h.cl,fun j hj=>(h.tr j hj).up hk,by have:=h.nl; omega,by have:=h.ch; omega,h.nt⟩
theorem OE {α:Type} {xs:List α} {j:Nat} {a d:α} (h:j<xs.length):(xs.set j a).getD j d=a:=by simp [List.getD,h]
theorem M7 {α:Type} {xs:List α} {i j:Nat} {a d:α} (h:j≠i):(xs.set j a).getD i d=xs.getD i d:=by simp [List.getD,List.getElem?_set_ne h]
theorem TL (kind id b:Int) (v:ByteArray):∀ (k i:Nat),(Kh kind id b v i k).length=k
 | 0,i=>rfl
 | k+1,i=>by simp [Kh,TL kind id b v k (i+1)]
theorem GU {kind id b:Int} {v:ByteArray}:∀ {k i:Nat} {m:Al},m∈Kh kind id b v i k->∃ q:Nat,(i<=q/\q<i+k)/\m=(kind,id,(q:Int)+1,b,0,v)
 | 0,i,m,h=>by cases h
 | k+1,i,m,h=>by
  rcases AQ.1 h with h | h
  ·exact ⟨i,⟨Nat.le_refl _,by omega⟩,h⟩
  ·obtain ⟨q,h1,h2⟩:=GU h
   exact ⟨q,⟨by omega,by omega⟩,h2⟩
theorem Hl.trs {n t k:Nat} {c:D0} (h:Hl n t k c) {j:Nat} (hj:j<t) {x:JZ} (hx:UA (k+1) j x):∀ i,i<t->UA (k+1) i ((c.2.1.set j x).getD i Ao):=fun i hi=>by
 by_cases e:j=i
 ·subst e
  rw [OE (by rw [h.cl]; exact hj)]
  exact hx
 ·rw [M7 e]
  exact (h.tr i hi).up (by omega)
theorem Hl.propose {n t k:Nat} {c:D0} (h:Hl n t k c) (kp:Bool) {e:EM} (hn:n<=5) (ht:t<=4) (he:1<=e.2.1/\e.2.1<=(t:Int)):Hl n t (k+1) (Dy kp e c).2:=by
 have hj:(e.2.1-1).toNat<t:=by omega
 have htr:=h.tr _ hj
 unfold Dy
 dsimp only
 split
 ·exact h.up (by omega)
 ·rename_i hb
  refine ⟨h.vl,by simp [h.cl],h.trs hj ⟨htr.id,?_,by simp,by simp⟩,?_,by have:=h.ch; simp only; omega,fun m hm=>?_⟩
  ·have:=htr.ballot
   have:=htr.id
   simp only [IX] at hb ⊢
   split at hb<;>split<;>omega
  ·have:=h.nl
   have:=h.vl
   simp only [List.length_append,TL]
   omega
  ·rcases Am.1 hm with hm | hm
   ·exact h.nt m hm
   ·obtain ⟨q,hq,rfl⟩:=GU hm
    have:=htr.id
    have:=h.vl
    refine .inl ⟨.inl rfl,⟨?_,?_⟩,?_,?_⟩<;>simp only<;>omega
theorem UB {v:B7} {m:Al} (h:(Bd v m).2.2=true):(m.1=1/\(Bd v m).2.1=(2,m.2.2.1,m.2.1,m.2.2.2.1,v.2)/\(Bd v m).1=(m.2.2.2.1,v.2)/\m.2.2.2.1>v.1)\/(m.1=3/\(Bd v m).2.1=(4,m.2.2.1,m.2.1,m.2.2.2.1,0,m.2.2.2.2.2)/\(Bd v m).1=(m.2.2.2.1,m.2.2.2.1,m.2.2.2.2.2)/\m.2.2.2.1>=v.1):=by
 unfold Bd at h ⊢
 split at h
 ·rename_i c1
  rw [if_pos c1]
  split at h
  ·rename_i c2
   rw [if_pos c2]
   exact .inl ⟨c2.1,rfl,rfl,c2.2⟩
  ·rename_i c2
   rw [if_neg c2]
   split at h
   ·rename_i c3
    rw [if_pos c3]
    exact .inr ⟨c3.1,rfl,rfl,c3.2⟩
   ·cases h
 ·cases h
theorem UC {v:B7} {m:Al} (h:(Bd v m).2.2=false):(Bd v m).1=v:=by
 unfold Bd at h ⊢
 split at h
 ·rename_i c1
  rw [if_pos c1]
  split at h
  ·cases h
  ·rename_i c2
   rw [if_neg c2]
   split at h
   ·cases h
   ·rename_i c3
    rw [if_neg c3]
 ·rename_i c1
  rw [if_neg c1]
theorem Hl.hear {n t k:Nat} {c:D0} (h:Hl n t k c) {m:Al} (hm:O8 n t m):Hl n t (k+1) (MA m c).2:=by
 unfold MA
 dsimp only
 refine ⟨by simp [h.vl],h.cl,fun j hj=>(h.tr j hj).up (by omega),?_,by have:=h.ch; simp only; omega,fun x hx=>?_⟩
 ·have:=h.nl
  split<;>simp<;>omega
 ·split at hx
  ·rename_i hr
   rcases Am.1 hx with hx | hx
   ·exact h.nt x hx
   ·rw [CM] at hx
    subst hx
    rcases UB hr with ⟨a,b,_⟩ | ⟨a,b,_⟩<;>rw [b]<;>rcases hm with ⟨k1,k2,k3⟩ | ⟨k1,k2,k3⟩
    ·exact .inr ⟨.inl rfl,k3,k2⟩
    ·omega
    ·exact .inr ⟨.inr rfl,k3,k2⟩
    ·omega
  ·exact h.nt x hx
theorem Hl.promised {n t k:Nat} {c:D0} (h:Hl n t k c) {m:Al} (hn:n<=5) (hm:O8 n t m) (h2:m.1=2):Hl n t (k+1) (Co m c).2:=by
 have hto:1<=m.2.2.1/\m.2.2.1<=(t:Int):=by rcases hm with ⟨a,b,c⟩ | ⟨a,b,c⟩<;>omega
 have hj:(m.2.2.1-1).toNat<t:=by omega
 have htr:=h.tr _ hj
 have hpl:=htr.pl
 have htl:=htr.tl
 unfold Co
 dsimp only
 split
 ·exact h.up (by omega)
 ·split
  ·refine ⟨h.vl,by simp [h.cl],h.trs hj ⟨htr.id,htr.ballot,by simp only [List.length_append,List.length_cons,List.length_nil]; omega,by simp only; omega⟩,?_,by have:=h.ch; simp only; omega,fun x hx=>?_⟩
   ·have:=h.nl
    have:=h.vl
    simp only [List.length_append,TL]
    omega
   ·rcases Am.1 hx with hx | hx
    ·exact h.nt x hx
    ·obtain ⟨q,hq,rfl⟩:=GU hx
     have:=htr.id
     have:=h.vl
     refine .inl ⟨.inr rfl,⟨?_,?_⟩,?_,?_⟩<;>simp only<;>omega
  ·exact ⟨h.vl,by simp [h.cl],h.trs hj ⟨htr.id,htr.ballot,by simp only [List.length_append,List.length_cons,List.length_nil]; omega,by simp only; omega⟩,by have:=h.nl; simp only; omega,by have:=h.ch; simp only; omega,h.nt⟩
theorem Hl.taken {n t k:Nat} {c:D0} (h:Hl n t k c) {m:Al} (hm:O8 n t m) (h2:m.1=4):Hl n t (k+1) (Gl m c).2:=by
 have hto:1<=m.2.2.1/\m.2.2.1<=(t:Int):=by rcases hm with ⟨a,b,c⟩ | ⟨a,b,c⟩<;>omega
 have hj:(m.2.2.1-1).toNat<t:=by omega
 have htr:=h.tr _ hj
 have hpl:=htr.pl
 have htl:=htr.tl
 unfold Gl
 dsimp only
 split
 ·exact h.up (by omega)
 ·split
  ·exact ⟨h.vl,by simp [h.cl],h.trs hj ⟨htr.id,htr.ballot,by simp only; omega,by simp only [List.length_append,List.length_cons,List.length_nil]; omega⟩,by have:=h.nl; simp only; omega,by have:=h.ch; simp; omega,h.nt⟩
  ·exact ⟨h.vl,by simp [h.cl],h.trs hj ⟨htr.id,htr.ballot,by simp only; omega,by simp only [List.length_append,List.length_cons,List.length_nil]; omega⟩,by have:=h.nl; simp only; omega,by have:=h.ch; simp only; omega,h.nt⟩
theorem Hl.less {n t k:Nat} {c:D0} (h:Hl n t k c) (e:EM):Hl n t k (OD e c) :=
 ⟨h.vl,h.cl,h.tr,by have:=h.nl; simp only [OD,List.length_append,List.length_take,List.length_drop]; omega,h.ch,fun m hm=>by
  rcases Am.1 hm with hm | hm
  ·exact h.nt m (List.mem_of_mem_take hm)
  ·exact h.nt m (List.mem_of_mem_drop hm)⟩
theorem QL {e:EM} {c:D0} (he:0<=e.2.2.1) (h0:c.2.2.1.length≠0):Cl e c<c.2.2.1.length:=by
 unfold Cl
 have h1:=Int.emod_lt_of_pos e.2.2.1 (show (0:Int)<(c.2.2.1.length:Int) by omega)
 have h2:=Int.emod_nonneg e.2.2.1 (show (c.2.2.1.length:Int)≠0 by omega)
 omega
theorem Hl.carry {n t k:Nat} {c:D0} (h:Hl n t k c) {m:Al} (hn:n<=5) (hm:O8 n t m):Hl n t (k+1) (GT m c).2:=by
 unfold GT
 split
 ·exact h.hear hm
 ·split
  ·rename_i h2; exact h.promised hn hm h2
  ·exact h.taken hm (by rcases hm with ⟨a,_⟩ | ⟨a,_⟩<;>omega)
structure FH (t:Nat) (e:EM):Prop where
 kind:1<=e.1/\e.1<=4
 id:1<=e.2.1/\e.2.1<=(t:Int)
 at_:0<=e.2.2.1
 val:if e.1=1 then 1<=(e.2.2.2.size:Int)/\(e.2.2.2.size:Int)<=40 else e.2.2.2.toList=(⟨#[]⟩:ByteArray).toList
theorem Hl.happen {n t k:Nat} {c:D0} (h:Hl n t k c) (kp:Bool) {e:EM} (hn:n<=5) (ht:t<=4) (he:FH t e):Hl n t (k+1) (C3 kp e c).2:=by
 unfold C3
 split
 ·exact h.propose kp hn ht he.id
 ·split
  ·exact h.up (by omega)
  ·rename_i h0
   have hp:=QL he.at_ h0
   have hm:c.2.2.1.getD (Cl e c) Ck∈c.2.2.1:=by rw [Bi hp]; exact DG hp
   split
   ·exact ⟨h.vl,h.cl,fun j hj=>(h.tr j hj).up (by omega),by have:=h.nl; simp; omega,by have:=h.ch; simp only; omega,fun x hx=>by
     rcases Am.1 hx with hx | hx
     ·exact h.nt x hx
     ·rw [CM] at hx; subst hx; exact h.nt _ hm⟩
   ·split
    ·exact (h.less e).up (by omega)
    ·exact (h.less e).carry hn (h.nt _ hm)

theorem XO:(((0:Int),(0:Int),AA,([]:List Al),false,([]:List Int),false):JZ)=Ao:=rfl
theorem ZR:(((0:Int),(0:Int),(0:Int),(0:Int),(0:Int),AA):Al)=Ck:=rfl
theorem Vc (j:Nat) (kind:Int) (v:ByteArray) (vs:List B7) (ts:List JZ) (ch:List ByteArray) (hv:vs.length<=1000):∀ (k i:Nat) (ns:List Al),i+k=vs.length->ns.length+k<=68719476736 ->
  C2 j kind v (vs.length:Int) (i:Int) vs ts ns ch=some (vs,ts,ns++Kh kind (ts.getD j Ao).1 (ts.getD j Ao).2.1 v i k,ch)
 | 0,i,ns,hk,hl=>GX (by
  unfold EU
  rw [if_neg (by rw [decide_eq_false (by omega)]; simp)]
  simp [Kh])
 | k+1,i,ns,hk,hl=>GX (by
  unfold EU
  have w:IntKind.i64.wrap ((i:Int)+1)=(i:Int)+1:=by rw [BJ (by omega)]
  have w2:(i:Int)+1=((i+1:Nat):Int):=by omega
  rw [if_pos (decide_eq_true (by omega)),if_pos (by simp only [List.length_cons,List.length_nil]; omega),w]
  have:=Vc j kind v vs ts ch hv k (i+1) (ns++[(kind,(ts.getD j Ao).1,(i:Int)+1,(ts.getD j Ao).2.1,0,v)]) (by omega) (by simp only [List.length_append,List.length_cons,List.length_nil]; omega)
  rw [CL,List.singleton_append,<- w2] at this
  exact this)
theorem OF (j:Nat) (kind:Int) (v:ByteArray) (c:D0) (hl:c.2.2.1.length+c.1.length<=68719476736) (hv:c.1.length<=1000):EB j kind v c=some (c.1,c.2.1,c.2.2.1++Kh kind (c.2.1.getD j Ao).1 (c.2.1.getD j Ao).2.1 v 0 c.1.length,c.2.2.2):=Oo (by
 unfold JN
 exact Vc j kind v c.1 c.2.1 c.2.2.2 hv c.1.length 0 c.2.2.1 (by omega) (by omega))
theorem R8 (x:List Al) (m:Al) (h:x.length<=maxLen):BY x m=some (x.any fun y=>y.2.1==m.2.1):=EK (by
 have hm:x.length<=9223372036854775807:=h
 have key:=R7 (n:=x.length) (P:=fun i=>∃ r,Av x m (x.length:Int) (i:Int)=some r/\(decide (r>=0)=(x.drop i).any fun y=>y.2.1==m.2.1)) ⟨-1,BZ (by
  unfold Aw
  rw [if_neg (by simp)]),by simp⟩ (fun i hi ih=>by
  have hz:x.getD i ((0:Int),(0:Int),(0:Int),(0:Int),(0:Int),AA)=x[i]:=Bi hi
  have hp:C9 x[i] m=some (x[i].2.1==m.2.1):=Jl rfl
  by_cases e:x[i].2.1=m.2.1
  ·refine ⟨(i:Int),BZ ?_,?_⟩
   ·unfold Aw
    rw [if_pos (decide_eq_true (by omega)),if_pos (by omega),if_pos (by omega),CH,hz,hp,Z,if_pos (by simpa using e)]
   ·rw [DF hi,List.any_cons,e]
    simp only [beq_self_eq_true,Bool.true_or]
    exact decide_eq_true (by omega)
  ·obtain ⟨r,h1,h2⟩:=ih
   refine ⟨r,BZ ?_,?_⟩
   ·unfold Aw
    rw [if_pos (decide_eq_true (by omega)),if_pos (by omega),if_pos (by omega),CH,hz,hp,Z,if_neg (by simpa using e),BM (by omega)]
    exact h1
   ·have e':(x[i].2.1==m.2.1)=false:=by simpa using e
    rw [h2,DF hi,List.any_cons,e',Bool.false_or]) 0 (by omega)
 obtain ⟨r,h1,h2⟩:=key
 unfold B5
 rw [show Bf x m=some r from Ey (by unfold CZ; exact h1),Z,h2]
 simp)
theorem O9 (m:Al) (l:List Al) (b:Int) (v:ByteArray):Ec (m::l) b v=if m.1=2/\m.2.2.2.2.1>b then Ec l m.2.2.2.2.1 m.2.2.2.2.2 else Ec l b v:=rfl
theorem Ja (x:List Al) (h:x.length<=maxLen):∀ (k i:Nat) (b:Int) (v:ByteArray),i+k=x.length->Bz b v x (x.length:Int) (i:Int)=some (Ec (x.drop i) b v)
 | 0,i,b,v,hk=>IT (by
  unfold FQ
  rw [if_neg (by rw [decide_eq_false (by omega)]; simp),List.drop_eq_nil_of_le (by omega)]
  rfl)
 | k+1,i,b,v,hk=>IT (by
  have hm:x.length<=9223372036854775807:=h
  have hi:i<x.length:=by omega
  have hz:x.getD i ((0:Int),(0:Int),(0:Int),(0:Int),(0:Int),AA)=x[i]:=Bi hi
  unfold FQ
  rw [if_pos (decide_eq_true (by omega)),if_pos (by omega),if_pos (by omega),CH,hz,BM (by omega),Ja x h k (i+1) _ _ (by omega),Ja x h k (i+1) _ _ (by omega),DF hi,O9]
  by_cases h1:x[i].1=2
  ·rw [if_pos (by simpa using h1)]
   by_cases h2:x[i].2.2.2.2.1>b
   ·rw [if_pos (decide_eq_true h2),if_pos ⟨h1,h2⟩]
   ·rw [if_neg (by rw [decide_eq_false h2]; simp),if_neg (fun q=>h2 q.2)]
  ·rw [if_neg (by simpa using h1),if_neg (fun q=>h1 q.1)])
theorem Nv (x:List Al) (v:ByteArray) (h:x.length<=maxLen):Gf x v=some (Ec x 0 v):=Q9 (by
 unfold LJ
 exact Ja x h x.length 0 0 v (by omega))
theorem LL (n:Nat) (h:n<=1000):Gw (n:Int)=some (EN n):=Te (by
 unfold N8 EN
 rw [if_neg (by rw [decide_eq_false (by omega)]; simp),if_neg (by decide),Int.tdiv_eq_ediv_of_nonneg (by omega),BJ (n:=(n:Int) / 2) (by omega),BJ (by omega)])
theorem QM {n t k:Nat} {c:D0} (h:Hl n t k c) {e:EM} (hn:n<=5) (ht:t<=4) (hk:k<=100000) (he:FH t e):EA e c=some (Dy true e c):=Lq (by
 have hid:=he.id
 have hj:(e.2.1-1).toNat<t:=by omega
 have hjl:(e.2.1-1).toNat<c.2.1.length:=by rw [h.cl]; exact hj
 have htr:=h.tr _ hj
 have hcl:=h.cl
 have hnl:=h.nl
 have hvl:=h.vl
 have w:IntKind.i64.wrap (e.2.1-1)=e.2.1-1:=BJ (by omega)
 obtain ⟨vs,ts,ns,ch⟩:=c
 simp only at hcl hjl htr hnl hvl
 have J0:∀ x:Int,CD (e.2.1-1).toNat x vs ts ns ch e=some (if x>10000 then (false,(vs,ts,ns,ch)) else (true,(vs,ts.set (e.2.1-1).toNat ((ts.getD (e.2.1-1).toNat Ao).1,x,e.2.2.2,[],false,[],(ts.getD (e.2.1-1).toNat Ao).2.2.2.2.2.2),ns++Kh 1 (ts.getD (e.2.1-1).toNat Ao).1 x AA 0 vs.length,ch))):=fun x=>Jj (by
  unfold FF
  by_cases hx:x>10000
  ·rw [if_pos (decide_eq_true hx),if_pos hx]
  ·rw [if_neg (by rw [decide_eq_false hx]; simp),if_neg hx]
   simp only [XO,OE hjl,List.set_set]
   rw [OF _ _ _ _ (by simp only; omega) (by simp only; omega),Z]
   simp only [OE hjl]
   rfl)
 unfold GS
 rw [w,if_pos (by omega),if_pos (by simp only; omega)]
 simp only [XO,J0]
 have hb:=htr.ballot
 have hii:=htr.id
 unfold Dy IX
 simp only [Bool.true_and]
 by_cases h0:(ts.getD (e.2.1-1).toNat Ao).2.1=0
 ·rw [if_pos (by simpa using h0)]
  simp only [h0,if_true]
 ·rw [if_neg (by simpa using h0),BJ (by omega)]
  simp only [h0,if_false])
theorem M8 {n t k:Nat} {c:D0} (h:Hl n t k c) {m:Al} (hn:n<=5) (hk:k<=100000) (hm:1<=m.2.2.1/\m.2.2.1<=(n:Int)):Dn m c=some (MA m c):=No (by
 have hnl:=h.nl
 have hvl:=h.vl
 have hj:(m.2.2.1-1).toNat<c.1.length:=by omega
 have w:IntKind.i64.wrap (m.2.2.1-1)=m.2.2.1-1:=BJ (by omega)
 unfold IS
 rw [Bc,Z,if_neg (by rw [<- Bool.decide_and,decide_eq_true (by omega)]; simp),w,if_pos (by omega),if_pos (by omega)]
 simp only [show (((0:Int),(0:Int),AA):B7)=BH from rfl,O5,Z]
 rw [if_pos (by omega),if_pos (by omega)]
 unfold MA
 simp only
 cases hr:(Bd (c.1.getD (m.2.2.1-1).toNat BH) m).2.2 with
 | true =>
  rw [if_pos rfl,if_pos (by simp only [List.length_cons,List.length_nil]; omega)]
  simp
 | false =>
  rw [if_neg (by simp)]
  simp)
theorem O_ {n t k:Nat} {c:D0} (h:Hl n t k c) {m:Al} (hn:n<=5) (hk:k<=100000) (hm:1<=m.2.2.1/\m.2.2.1<=(t:Int)):Cc (m.2.2.1-1).toNat m c=some (Co m c):=LH (by
 have hj:(m.2.2.1-1).toNat<t:=by omega
 have htr:=h.tr _ hj
 have hpl:=htr.pl
 have hcl:=h.cl
 have hnl:=h.nl
 have hvl:=h.vl
 obtain ⟨vs,ts,ns,ch⟩:=c
 simp only at hcl htr hpl hnl hvl
 have hjl:(m.2.2.1-1).toNat<ts.length:=by omega
 have J0:∀ b,Cy (m.2.2.1-1).toNat m.1 m.2.1 m.2.2.1 m.2.2.2.1 m.2.2.2.2.1 m.2.2.2.2.2 b vs ts ns ch=some (let t:=ts.getD (m.2.2.1-1).toNat Ao
   if ((t.2.2.2.1++[m]).length:Int)=EN vs.length then
    (true,(vs,ts.set (m.2.2.1-1).toNat (t.1,t.2.1,Ec (t.2.2.2.1++[m]) 0 t.2.2.1,t.2.2.2.1++[m],true,t.2.2.2.2.2),ns++Kh 3 t.1 t.2.1 (Ec (t.2.2.2.1++[m]) 0 t.2.2.1) 0 vs.length,ch))
   else (true,(vs,ts.set (m.2.2.1-1).toNat (t.1,t.2.1,t.2.2.1,t.2.2.2.1++[m],t.2.2.2.2),ns,ch))):=fun b=>JO (by
  unfold Eu
  simp only [XO,OE hjl,List.set_set,LL vs.length (by omega),Z]
  rw [if_pos (by simp only [List.length_cons,List.length_nil]; omega)]
  simp only [if_true,show (m.1,m.2.1,m.2.2.1,m.2.2.2.1,m.2.2.2.2.1,m.2.2.2.2.2)=m from rfl]
  by_cases hc:(((ts.getD (m.2.2.1-1).toNat Ao).2.2.2.1++[m]).length:Int)=EN vs.length
  ·rw [if_pos (by simpa using hc),if_pos hc,Nv _ _ (by simp only [List.length_append,List.length_cons,List.length_nil]; unfold maxLen; omega),Z]
   rw [OF _ _ _ _ (by simp only; omega) (by simp only; omega),Z]
   simp only [OE hjl]
  ·rw [if_neg (by simpa using hc),if_neg hc])
 unfold Fx
 simp only [XO]
 rw [R8 _ _ (by unfold maxLen; omega),Z,J0]
 unfold Co
 simp only
 by_cases h1:m.2.2.2.1=(ts.getD (m.2.2.1-1).toNat Ao).2.1
 ·rw [if_neg (by simpa using h1)]
  by_cases h2:(ts.getD (m.2.2.1-1).toNat Ao).2.2.2.2.1=true
  ·rw [if_pos h2,if_pos (.inr (.inl h2))]
  ·rw [if_neg h2]
   by_cases h3:((ts.getD (m.2.2.1-1).toNat Ao).2.2.2.1.any fun x=>x.2.1==m.2.1)=true
   ·rw [if_pos h3,if_pos (.inr (.inr h3))]
   ·have hn':¬ (m.2.2.2.1≠(ts.getD (m.2.2.1-1).toNat Ao).2.1\/(ts.getD (m.2.2.1-1).toNat Ao).2.2.2.2.1=true\/((ts.getD (m.2.2.1-1).toNat Ao).2.2.2.1.any fun x=>x.2.1==m.2.1)=true):=fun q=>q.elim (fun q=>q h1) fun q=>q.elim h2 h3
    rw [if_neg h3,if_neg hn']
 ·rw [if_pos (by simpa using h1),if_pos (.inl h1)])
theorem R9 {n t k:Nat} {c:D0} (h:Hl n t k c) {m:Al} (hn:n<=5) (hk:k<=100000) (hm:1<=m.2.2.1/\m.2.2.1<=(t:Int)):DN (m.2.2.1-1).toNat m c=some (Gl m c):=M0 (by
 have hj:(m.2.2.1-1).toNat<t:=by omega
 have htr:=h.tr _ hj
 have htl:=htr.tl
 have hcl:=h.cl
 have hvl:=h.vl
 have hch:=h.ch
 obtain ⟨vs,ts,ns,ch⟩:=c
 simp only at hcl htr htl hvl hch
 have hjl:(m.2.2.1-1).toNat<ts.length:=by omega
 have J0:∀ b,Dx (m.2.2.1-1).toNat b vs ts ns ch m=some (let t:=ts.getD (m.2.2.1-1).toNat Ao
   if ((t.2.2.2.2.2.1++[m.2.1]).length:Int)=EN vs.length then
    (true,(vs,ts.set (m.2.2.1-1).toNat (t.1,t.2.1,t.2.2.1,t.2.2.2.1,t.2.2.2.2.1,t.2.2.2.2.2.1++[m.2.1],true),ns,ch++[t.2.2.1]))
   else (true,(vs,ts.set (m.2.2.1-1).toNat (t.1,t.2.1,t.2.2.1,t.2.2.2.1,t.2.2.2.2.1,t.2.2.2.2.2.1++[m.2.1],t.2.2.2.2.2.2),ns,ch))):=fun b=>LI (by
  unfold Fy
  simp only [XO,OE hjl,List.set_set,LL vs.length (by omega),Z]
  rw [if_pos (by simp only [List.length_cons,List.length_nil]; omega)]
  simp only [if_true]
  by_cases hc:(((ts.getD (m.2.2.1-1).toNat Ao).2.2.2.2.2.1++[m.2.1]).length:Int)=EN vs.length
  ·rw [if_pos (by simpa using hc),if_pos hc,if_pos (by simp only [List.length_cons,List.length_nil]; omega)]
  ·rw [if_neg (by simpa using hc),if_neg hc])
 unfold Hd
 simp only [XO]
 rw [Vb _ _ (by unfold maxLen; omega),Z,J0]
 unfold Gl
 simp only
 by_cases h1:m.2.2.2.1=(ts.getD (m.2.2.1-1).toNat Ao).2.1
 ·rw [if_neg (by simpa using h1)]
  by_cases h2:((ts.getD (m.2.2.1-1).toNat Ao).2.2.2.2.2.1.contains m.2.1)=true
  ·rw [if_pos h2,if_pos (.inr h2)]
  ·have hn':¬ (m.2.2.2.1≠(ts.getD (m.2.2.1-1).toNat Ao).2.1\/((ts.getD (m.2.2.1-1).toNat Ao).2.2.2.2.2.1.contains m.2.1)=true):=fun q=>q.elim (fun q=>q h1) h2
   rw [if_neg h2,if_neg hn']
 ·rw [if_pos (by simpa using h1),if_pos (.inl h1)])
theorem R_ {n t k:Nat} {c:D0} (h:Hl n t k c) {m:Al} (hn:n<=5) (ht:t<=4) (hk:k<=100000) (hm:O8 n t m):DM m c=some (GT m c):=Mv (by
 unfold HZ GT
 have hto:m.1=1\/m.1=3->1<=m.2.2.1/\m.2.2.1<=(n:Int):=fun e=>by rcases hm with ⟨_,b,_⟩ | ⟨a,_⟩<;>omega
 by_cases h1:m.1=1
 ·rw [if_neg (by simp [h1]),M8 h hn hk (hto (.inl h1)),Z,if_pos (.inl h1)]
 ·rw [if_pos (by simpa using h1)]
  by_cases h3:m.1=3
  ·rw [if_pos (by simpa using h3),M8 h hn hk (hto (.inr h3)),Z,if_pos (.inr h3)]
  ·have hm2:1<=m.2.2.1/\m.2.2.1<=(t:Int):=by rcases hm with ⟨a,_⟩ | ⟨a,b,_⟩<;>omega
   have hcl:=h.cl
   have w:IntKind.i64.wrap (m.2.2.1-1)=m.2.2.1-1:=BJ (by omega)
   rw [if_neg (by simpa using h3),if_neg (by omega)]
   refine LG ?_
   unfold Fw
   rw [Bc,Z,if_neg (by rw [<- Bool.decide_and,decide_eq_true (by omega)]; simp),w,if_pos (by omega),if_pos (by omega)]
   change (if (m.1==2)=true then ((Cc (m.2.2.1-1).toNat m c).bind fun y3=>some (y3.1,y3.2)) else ((DN (m.2.2.1-1).toNat m c).bind fun y3=>some (y3.1,y3.2)))=_
   rw [O_ h hn hk hm2,R9 h hn hk hm2]
   by_cases h2:m.1=2
   ·rw [if_pos (by simpa using h2),if_pos h2]; rfl
   ·rw [if_neg (by simpa using h2),if_neg h2]; rfl)
theorem RB {n t k:Nat} {c:D0} (h:Hl n t k c) {e:EM} (hn:n<=5) (ht:t<=4) (hk:k<=100000) (he:FH t e):C1 e c=some (C3 true e c):=MF (by
 have hnl:=h.nl
 unfold GW C3
 by_cases h1:e.1=1
 ·rw [if_pos (by simpa using h1),if_pos h1,QM h hn ht hk he,Z]
 ·rw [if_neg (by simpa using h1),if_neg h1]
  by_cases h0:c.2.2.1.length=0
  ·rw [if_pos (by simp [h0]),if_pos h0]
  ·have hp:=QL he.at_ h0
   have hm:c.2.2.1.getD (Cl e c) Ck∈c.2.2.1:=by rw [Bi hp]; exact DG hp
   have em:Int.tmod e.2.2.1 (c.2.2.1.length:Int)=(Cl e c:Int):=by
    have h2:=Int.emod_nonneg e.2.2.1 (show (c.2.2.1.length:Int)≠0 by omega)
    rw [Int.tmod_eq_emod_of_nonneg he.at_]
    unfold Cl
    omega
   rw [if_neg (by simpa using h0),if_neg h0,em,if_neg (by omega),if_pos (by omega),if_pos (by omega),CH]
   simp only [ZR]
   by_cases h4:e.1=4
   ·rw [if_pos (by simpa using h4),if_pos h4,if_pos (by simp only [List.length_cons,List.length_nil]; omega)]
   ·rw [if_neg (by simpa using h4),if_neg h4,BM (by omega),FX (by omega) (by omega),Z]
    by_cases h3:e.1=3
    ·rw [if_neg (by simp [h3]),if_pos h3]
     rfl
    ·rw [if_pos (by simpa using h3),if_neg h3]
     change ((DM (c.2.2.1.getD (Cl e c) Ck) (OD e c)).bind _)=_
     rw [R_ (h.less e) hn ht hk (h.nt _ hm),Z])







theorem We (a b:ByteArray):(a.toList==b.toList)=decide (a=b):=by
 rw [Bool.eq_iff_iff,beq_iff_eq,decide_eq_true_eq]
 refine ⟨fun h=>?_,fun h=>by rw [h]⟩
 rw [ByteArray.toList_eq,ByteArray.toList_eq] at h
 cases a with
 | mk da =>
  cases b with
  | mk db=>exact congrArg ByteArray.mk (Array.toList_inj.1 h)



abbrev aJ:Type:=Int×ByteArray×ByteArray×Int×Int×Int×Int×Int×ByteArray
abbrev RC:Type:=List (List Int)×List SL×List aH×List aJ
def aK (g:RC) (i:Nat):SL:=g.2.1.getD i aI
structure Z2 (g:RC) (n:Nat):Prop where
 views:au g.1
 six:g.2.1.length=6
 mem:∀ i,i<6->ar (aK g i)/\(aK g i).1=(i:Int)+1
 fly:∀ x∈g.2.2.1,ax x
 flen:g.2.2.1.length<=8*n
 clen:g.2.2.2.length<=n

theorem Z2.up {g:RC} {k:Nat} (h:Z2 g k):Z2 g (k+1):=⟨h.views,h.six,h.mem,h.fly,by have:=h.flen; omega,by have:=h.clen; omega⟩
def ZS (g:RC) (i:Nat):RC:=(g.1,g.2.1,g.2.2.1.take i++g.2.2.1.drop (i+1),g.2.2.2)
theorem Z2.less {g:RC} {k:Nat} (h:Z2 g k) (i:Nat):Z2 (ZS g i) k:=by
 refine ⟨h.views,h.six,h.mem,fun x hx=>?_,?_,h.clen⟩
 ·rcases Am.1 hx with h1 | h1
  ·exact h.fly x (List.mem_of_mem_take h1)
  ·exact h.fly x (List.mem_of_mem_drop h1)
 ·have:=h.flen
  simp only [ZS,List.length_append,List.length_take,List.length_drop]
  omega









def LN (b:Bool):Int:=if b=true then 0 else 1
def GV (kp:Bool):List EM->D0->List Int->D0×List Int
 | [],c,cs=>(c,cs)
 | e::es,c,cs=>GV kp es (C3 kp e c).2 (cs++[LN (C3 kp e c).1])
def Hw:Nat->List JZ
 | 0=>[]
 | t+1=>Hw t++[((t:Int)+1,0,AA,[],false,[],false)]
theorem Fn:∀ t,(Hw t).length=t
 | 0=>rfl
 | t+1=>by simp [Hw,Fn t]
def DA (n t:Nat):D0:=(List.replicate n BH,Hw t,[],[])
theorem PA:∀ (t j:Nat),j<t->(Hw t).getD j Ao=((j:Int)+1,0,AA,[],false,[],false)
 | 0,j,h=>by omega
 | t+1,j,h=>by
  by_cases e:j<t
  ·have:=PA t j e
   rw [Hw,List.getD,AZ (by rw [Fn]; exact e)]
   exact this
  ·have:j=t:=by omega
   subst this
   rw [Hw,List.getD,BG (by rw [Fn]; exact Nat.le_refl _),Fn,Nat.sub_self]
   rfl
theorem SM (n t:Nat):Hl n t 0 (DA n t):=⟨by simp [DA],Fn t,fun j hj=>by
 rw [show (DA n t).2.1=Hw t from rfl,PA t j hj]
 exact ⟨rfl,by simp,by simp,by simp⟩,by simp [DA],by simp [DA],fun m hm=>by simp [DA] at hm⟩
theorem QN (t:Nat) (ht:t<=4) (vs:List B7):∀ (k i:Nat),i+k=t->DP (t:Int) (i:Int) [] [] [] [] [] vs (Hw i) [] []=some ((vs,Hw t,[],[]),true)
 | 0,i,hk=>HL (by
  have:i=t:=by omega
  subst this
  unfold Eo
  rw [if_neg (by simp)])
 | k+1,i,hk=>HL (by
  unfold Eo
  have w:IntKind.i64.wrap ((i:Int)+1)=(i:Int)+1:=BJ (by omega)
  rw [if_pos (decide_eq_true (by omega)),if_pos (by rw [Fn]; simp only [List.length_cons,List.length_nil]; omega),w]
  exact QN t ht vs k (i+1) (by omega))
theorem Nw {n t:Nat} (hn:1<=n/\n<=5) (ht:1<=t/\t<=4):GF (n:Int) (t:Int)=some (DA n t,true):=P4 (by
 unfold KB
 rw [Bc,Z,if_pos (by rw [<- Bool.decide_and,decide_eq_true (by omega)]; rfl),Bc,Z,if_neg (by rw [<- Bool.decide_and,decide_eq_true (by omega)]; simp)]
 refine Mj ?_
 unfold HK
 rw [if_pos (by omega),if_pos (by omega),CH]
 exact QN t ht.2 _ t 0 (by omega))
theorem PB {t:Nat} {e:EM} (h:FH t e):Hp e (t:Int)=some true:=R0 (by
 unfold L3
 rw [Bc,Z,if_pos (by rw [<- Bool.decide_and,decide_eq_true h.kind]; rfl),Bc,Z,if_pos (by rw [<- Bool.decide_and,decide_eq_true h.id]; rfl),if_neg (by have:=h.at_; simpa using this)]
 refine Om ?_
 unfold JK
 have hv:=h.val
 by_cases h1:e.1=1
 ·rw [if_pos h1] at hv
  rw [if_pos (by simpa using h1),Bc,Z,<- Bool.decide_and,decide_eq_true hv]
 ·rw [if_neg h1] at hv
  rw [if_neg (by simpa using h1),hv]
  simp)
theorem SA (b:Bool):Ke b=some (LN b):=Th (by
 unfold N9 LN
 cases b<;>rfl)
theorem RZ {n t:Nat} (hn:n<=5) (ht:t<=4) {es:List EM} (hl:es.length<=1000) (he:∀ e∈es,FH t e) (c0:D0) :
  ∀ (k i:Nat) (c:D0) (cs:List Int),i+k=es.length->Hl n t i c->cs.length=i ->
   DQ es (es.length:Int) (i:Int) [] [] [] [] [] c.1 c.2.1 c.2.2.1 c.2.2.2 cs=some ((GV true (es.drop i) c cs).1,(GV true (es.drop i) c cs).2,true)
 | 0,i,c,cs,hk,hc,hcs=>HR (by
  unfold Ep
  rw [if_neg (by rw [decide_eq_false (by omega)]; simp),List.drop_eq_nil_of_le (by omega)]
  rfl)
 | k+1,i,c,cs,hk,hc,hcs=>HR (by
  have hi:i<es.length:=by omega
  have hei:=he _ (DG hi)
  have hz:es.getD i ((0:Int),(0:Int),(0:Int),AA)=es[i]:=Bi hi
  unfold Ep
  rw [if_pos (decide_eq_true (by omega)),if_pos (by omega),if_pos (by omega),CH,hz]
  change ((C1 es[i] c).bind _)=_
  rw [RB hc hn ht (by omega) hei,Z,SA,Z,if_pos (by simp only [List.length_cons,List.length_nil]; omega),BM (by omega),DF hi]
  exact RZ hn ht hl he c0 k (i+1) _ _ (by omega) (hc.happen true hn ht hei) (by simp [hcs]))
theorem Nx {n t:Nat} (hn:1<=n/\n<=5) (ht:1<=t/\t<=4) {es:List EM} (hl:es.length<=80) (he:∀ e∈es,FH t e) :
  GG (n:Int) (t:Int) es=some ((GV true es (DA n t) []).1,(GV true es (DA n t) []).2,true):=P5 (by
 unfold KC
 rw [Nw hn ht,Z,if_pos (by rfl),if_neg (by rw [decide_eq_false (by omega)]; simp)]
 refine Mn ?_
 unfold HQ
 refine R7 (n:=es.length) (P:=fun i=>DR (t:Int) es es (es.length:Int) (i:Int) [] [] [] [] [] (DA n t).1 (DA n t).2.1 (DA n t).2.2.1 (DA n t).2.2.2=some ((GV true es (DA n t) []).1,(GV true es (DA n t) []).2,true)) (HS (by
  unfold Eq
  rw [if_neg (by simp)]
  refine Mm ?_
  unfold HO
  have:=RZ hn.2 ht.2 (es:=es) (by omega) he (DA n t) es.length 0 (DA n t) [] (by omega) (SM n t) rfl
  rw [List.drop_zero] at this
  exact this)) (fun i hi ih=>HS (by
  have hei:=he _ (DG hi)
  have hz:es.getD i ((0:Int),(0:Int),(0:Int),AA)=es[i]:=Bi hi
  unfold Eq
  rw [if_pos (decide_eq_true (by omega)),if_pos (by omega),if_pos (by omega),CH,hz,PB hei,Z,if_neg (by simp),BM (by omega)]
  exact ih)) 0 (by omega))
theorem TM (x:List ByteArray) (h:x.length<=maxLen):Gd x x=some true:=Q1 (by
 have hm:x.length<=9223372036854775807:=h
 unfold K_
 rw [if_neg (by simp)]
 exact R7 (n:=x.length) (P:=fun i=>Do x x (i:Int)=some true) (IP (by
  unfold FN
  rw [if_neg (by simp)])) (fun i hi ih=>IP (by
  unfold FN
  rw [if_pos (decide_eq_true (by omega)),if_pos (by omega),if_pos (by omega),if_pos (by omega),if_pos (by omega),if_neg (by simp),BM (by omega)]
  exact ih)) 0 (by omega))

def Wf (kp:Bool) (e:EM) (c:D0) (t:JZ):Bool×D0 :=
 if IX t>10000 then (false,c)
 else (true,(c.1,c.2.1.set (e.2.1-1).toNat (t.1,IX t,e.2.2.2,[],false,[],kp&&t.2.2.2.2.2.2),c.2.2.1++Kh 1 t.1 (IX t) AA 0 c.1.length,c.2.2.2))
theorem Lr (kp:Bool) (e:EM) (c:D0):Dy kp e c=Wf kp e c (c.2.1.getD (e.2.1-1).toNat Ao):=rfl
def Wg (m:Al) (c:D0) (t:JZ):Bool×D0 :=
 if m.2.2.2.1≠t.2.1\/t.2.2.2.2.1=true\/t.2.2.2.1.any (fun x=>x.2.1==m.2.1)=true then (false,c)
 else if ((t.2.2.2.1++[m]).length:Int)=EN c.1.length then
  (true,(c.1,c.2.1.set (m.2.2.1-1).toNat (t.1,t.2.1,Ec (t.2.2.2.1++[m]) 0 t.2.2.1,t.2.2.2.1++[m],true,t.2.2.2.2.2),c.2.2.1++Kh 3 t.1 t.2.1 (Ec (t.2.2.2.1++[m]) 0 t.2.2.1) 0 c.1.length,c.2.2.2))
 else (true,(c.1,c.2.1.set (m.2.2.1-1).toNat (t.1,t.2.1,t.2.2.1,t.2.2.2.1++[m],t.2.2.2.2),c.2.2))
theorem KS (m:Al) (c:D0):Co m c=Wg m c (c.2.1.getD (m.2.2.1-1).toNat Ao):=rfl
def ZI (m:Al) (c:D0) (t:JZ):Bool×D0 :=
 if m.2.2.2.1≠t.2.1\/t.2.2.2.2.2.1.contains m.2.1=true then (false,c)
 else if ((t.2.2.2.2.2.1++[m.2.1]).length:Int)=EN c.1.length then
  (true,(c.1,c.2.1.set (m.2.2.1-1).toNat (t.1,t.2.1,t.2.2.1,t.2.2.2.1,t.2.2.2.2.1,t.2.2.2.2.2.1++[m.2.1],true),c.2.2.1,c.2.2.2++[t.2.2.1]))
 else (true,(c.1,c.2.1.set (m.2.2.1-1).toNat (t.1,t.2.1,t.2.2.1,t.2.2.2.1,t.2.2.2.2.1,t.2.2.2.2.2.1++[m.2.1],t.2.2.2.2.2.2),c.2.2))
theorem QO (m:Al) (c:D0):Gl m c=ZI m c (c.2.1.getD (m.2.2.1-1).toNat Ao):=rfl
def Wh (m:Al) (c:D0) (r:B7×Al×Bool):Bool×D0:=(r.2.2,(c.1.set (m.2.2.1-1).toNat r.1,c.2.1,if r.2.2=true then c.2.2.1++[r.2.1] else c.2.2.1,c.2.2.2))
theorem Wi (m:Al) (c:D0):MA m c=Wh m c (Bd (c.1.getD (m.2.2.1-1).toNat BH) m):=rfl
theorem FC (m:Al) (c:D0) (h:c.2.2.1.length<=1000000):ER m c=some (c.1,c.2.1,c.2.2.1++[m],c.2.2.2):=Ti (by
 unfold N_
 rw [if_pos (by simp only [List.length_nil]; omega),if_pos (by simp only [List.nil_append,List.length_cons,List.length_nil]; omega),List.nil_append])
theorem Dz (t:JZ) (c:D0) (h:c.2.1.length<=1000) (h1:1<=t.1/\t.1<=(c.2.1.length:Int)):Di t c=some (c.1,c.2.1.set (t.1-1).toNat t,c.2.2):=Tj (by
 unfold OA
 rw [if_pos (by simp only [List.length_nil]; omega),BJ (by omega),if_pos (by omega),if_pos (by rw [List.nil_append]; omega),List.nil_append])
theorem LO (b:Int) (e:EM) (o:JZ) (n:Nat) (hn:n<=5):∀ (k i:Nat) (c:D0),i+k=n->c.1.length=n->c.2.2.1.length+k<=1000000 ->
  DW b ((i:Int)+1) c e o=some (0,(c.1,c.2.1,c.2.2.1++Kh 1 e.2.1 b AA i k,c.2.2.2))
 | 0,i,c,hk,hc,hl=>Hc (by
  unfold Et
  rw [if_neg (by rw [decide_eq_false (by omega)]; simp)]
  simp [Kh])
 | k+1,i,c,hk,hc,hl=>Hc (by
  unfold Et
  rw [if_pos (decide_eq_true (by omega)),FC _ _ (by omega),Z,show IntKind.i64.wrap ((i:Int)+1+1)=((i+1:Nat):Int)+1 from by rw [BJ (by omega)]; omega,LO b e o n hn k (i+1) (c.1,c.2.1,c.2.2.1++[(1,e.2.1,(i:Int)+1,b,0,AA)],c.2.2.2) (by omega) hc (by simp only [List.length_append,List.length_cons,List.length_nil]; omega)]
  simp [Kh])
theorem M9 {n t k:Nat} {c:D0} (h:Hl n t k c) {e:EM} (hn:n<=5) (ht:t<=4) (hk:k<=1000) (he:FH t e):GK e c=some (LN (Dy false e c).1,(Dy false e c).2):=QG (by
 have hid:=he.id
 have hj:(e.2.1-1).toNat<t:=by omega
 have htr:=h.tr _ hj
 have hcl:=h.cl
 have hnl:=h.nl
 have hvl:=h.vl
 have hb:=htr.ballot
 have hii:=htr.id
 have hie:(c.2.1.getD (e.2.1-1).toNat Ao).1=e.2.1:=by omega
 have w:IntKind.i64.wrap (e.2.1-1)=e.2.1-1:=BJ (by omega)
 have J0:∀ x o,DX x c e o=some (if x>10000 then (1,c) else (0,(c.1,c.2.1.set (e.2.1-1).toNat (e.2.1,x,e.2.2.2,[],false,[],false),c.2.2.1++Kh 1 e.2.1 x AA 0 c.1.length,c.2.2.2))):=fun x o=>Mx (by
  unfold Ha
  by_cases hx:x>10000
  ·rw [if_pos (decide_eq_true hx),if_pos hx]
  ·rw [if_neg (by rw [decide_eq_false hx]; simp),if_neg hx,Dz (e.2.1,x,e.2.2.2,[],false,[],false) c (by omega) ⟨hid.1,by rw [hcl]; exact hid.2⟩,Z]
   have:=LO x e o n hn n 0 (c.1,c.2.1.set (e.2.1-1).toNat (e.2.1,x,e.2.2.2,[],false,[],false),c.2.2) (by omega) hvl (by simp only; omega)
   rw [hvl]
   exact this)
 rw [Lr]
 unfold KM
 rw [w,if_pos (by omega),if_pos (by omega)]
 obtain ⟨tt,htt⟩:∃ tt,c.2.1.getD (e.2.1-1).toNat Ao=tt:=⟨_,rfl⟩
 have htt':c.2.1.getD (e.2.1-1).toNat (((0:Int),(0:Int),AA,([]:List Al),false,([]:List Int),false):JZ)=tt:=htt
 rw [htt] at hb hie
 rw [htt',htt]
 unfold Wf IX LN
 rw [hie,J0,J0,Bool.false_and]
 by_cases h0:tt.2.1=0
 ·rw [if_neg (by simp only [decide_eq_true_eq]; omega)]
  simp only [h0,if_true]
  split<;>rfl
 ·rw [if_pos (by simp only [decide_eq_true_eq]; omega),BJ (n:=tt.2.1+10) (by omega)]
  simp only [h0,if_false]
  split<;>rfl)
theorem Jb (x:List Al) (h:x.length<=maxLen):∀ (k i:Nat) (b:Int) (v:ByteArray),i+k=x.length->Ci x b v (i:Int)=some (Ec (x.drop i) b v)
 | 0,i,b,v,hk=>IW (by
  unfold FR
  rw [if_neg (by rw [decide_eq_false (by omega)]; simp),List.drop_eq_nil_of_le (by omega)]
  rfl)
 | k+1,i,b,v,hk=>IW (by
  have hm:x.length<=9223372036854775807:=h
  have hi:i<x.length:=by omega
  have hz:x.getD i ((0:Int),(0:Int),(0:Int),(0:Int),(0:Int),AA)=x[i]:=Bi hi
  have J1:∀ q,Ds x b v (i:Int) q=some (if q=true then Ec (x.drop (i+1)) x[i].2.2.2.2.1 x[i].2.2.2.2.2 else Ec (x.drop (i+1)) b v):=fun q=>Nu (by
   unfold IV
   cases q with
   | true=>rw [if_pos rfl,if_pos (by omega),if_pos (by omega),if_pos (by omega),if_pos (by omega),CH,hz,BM (by omega),Jb x h k (i+1) _ _ (by omega),if_pos rfl]
   | false=>rw [if_neg (by simp),BM (by omega),Jb x h k (i+1) _ _ (by omega),if_neg (by simp)])
  unfold FR
  rw [if_pos (decide_eq_true (by omega)),if_pos (by omega),if_pos (by omega),CH,hz,DF hi,O9]
  by_cases h1:x[i].1=2
  ·rw [if_pos (by simpa using h1),if_pos (by omega),if_pos (by omega),J1]
   by_cases h2:x[i].2.2.2.2.1>b
   ·rw [if_pos (decide_eq_true h2),if_pos ⟨h1,h2⟩]
   ·rw [if_neg (by rw [decide_eq_false h2]; simp),if_neg (fun q=>h2 q.2)]
  ·rw [if_neg (by simpa using h1),J1,if_neg (by simp),if_neg (fun q=>h1 q.1)])
theorem Ny (x:List Al) (v:ByteArray) (h:x.length<=maxLen):Gg x v=some (Ec x 0 v):=Q_ (by
 unfold LK
 exact Jb x h x.length 0 0 v (by omega))
theorem LP (n:Nat) (h:n<=1000):Gx (n:Int)=some (EN n):=Tk (by
 unfold OB EN
 rw [if_neg (by rw [decide_eq_false (by omega)]; simp),if_neg (by decide),Int.tdiv_eq_ediv_of_nonneg (by omega),BJ (n:=(n:Int) / 2) (by omega),BJ (by omega)])
theorem LQ (m:Al) (t:JZ) (ps:List Al) (n:Nat) (hn:n<=5):∀ (k i:Nat) (c:D0),i+k=n->c.1.length=n->c.2.2.1.length+k<=1000000->c.2.1.length<=1000->1<=t.1/\t.1<=(c.2.1.length:Int) ->
  DY ((i:Int)+1) c m t ps=some (0,(c.1,c.2.1.set (t.1-1).toNat t,c.2.2.1++Kh 3 t.1 t.2.1 t.2.2.1 i k,c.2.2.2))
 | 0,i,c,hk,hc,hl,h2,h3=>Hh (by
  unfold Ew
  rw [if_neg (by rw [decide_eq_false (by omega)]; simp),Dz _ _ h2 h3,Z]
  simp [Kh])
 | k+1,i,c,hk,hc,hl,h2,h3=>Hh (by
  unfold Ew
  rw [if_pos (decide_eq_true (by omega)),FC _ _ (by omega),Z,show IntKind.i64.wrap ((i:Int)+1+1)=((i+1:Nat):Int)+1 from by rw [BJ (by omega)]; omega,LQ m t ps n hn k (i+1) (c.1,c.2.1,c.2.2.1++[(3,t.1,(i:Int)+1,t.2.1,0,t.2.2.1)],c.2.2.2) (by omega) hc (by simp only [List.length_append,List.length_cons,List.length_nil]; omega) h2 h3]
  simp [Kh])
theorem M_ (c:D0) (m:Al) (tt:JZ) (hl:tt.2.2.2.1.length<=1000000):∀ (q i:Nat),i+q=tt.2.2.2.1.length->∀ r,(if ((tt.2.2.2.1.drop i).any fun x=>x.2.1==m.2.1)=true then some ((1:Int),c) else DZ c m tt)=some r->Da (i:Int) c m tt=some r
 | 0,i,hi,r,hr=>Hi (by
  rw [List.drop_eq_nil_of_le (by omega)] at hr
  unfold Ex
  rw [if_neg (by rw [decide_eq_false (by omega)]; simp)]
  exact hr)
 | q+1,i,hi,r,hr=>Hi (by
  have hil:i<tt.2.2.2.1.length:=by omega
  have hz:tt.2.2.2.1.getD i ((0:Int),(0:Int),(0:Int),(0:Int),(0:Int),AA)=tt.2.2.2.1[i]:=Bi hil
  rw [DF hil,List.any_cons] at hr
  unfold Ex
  rw [if_pos (decide_eq_true (by omega)),if_pos (by omega),if_pos (by omega),CH,hz]
  by_cases e:tt.2.2.2.1[i].2.1=m.2.1
  ·have e':(tt.2.2.2.1[i].2.1==m.2.1)=true:=by simpa using e
   rw [if_pos e']
   rw [e',Bool.true_or,if_pos rfl] at hr
   exact hr
  ·have e':(tt.2.2.2.1[i].2.1==m.2.1)=false:=by simpa using e
   rw [if_neg (by simp [e']),BM (by omega)]
   rw [e',Bool.false_or] at hr
   exact M_ c m tt hl q (i+1) (by omega) r hr)
theorem NA {n t k:Nat} {c:D0} (h:Hl n t k c) {m:Al} (hn:n<=5) (ht:t<=4) (hk:k<=1000) (hm:1<=m.2.2.1/\m.2.2.1<=(t:Int)):GL m c=some (LN (Co m c).1,(Co m c).2):=QH (by
 have hj:(m.2.2.1-1).toNat<t:=by omega
 have htr:=h.tr _ hj
 have hcl:=h.cl
 have hnl:=h.nl
 have hvl:=h.vl
 have w:IntKind.i64.wrap (m.2.2.1-1)=m.2.2.1-1:=BJ (by omega)
 rw [KS]
 unfold KN
 rw [w,if_pos (by omega),if_pos (by omega)]
 obtain ⟨tt,htt⟩:∃ tt,c.2.1.getD (m.2.2.1-1).toNat Ao=tt:=⟨_,rfl⟩
 have htt':c.2.1.getD (m.2.2.1-1).toNat (((0:Int),(0:Int),AA,([]:List Al),false,([]:List Int),false):JZ)=tt:=htt
 rw [htt] at htr
 rw [htt',htt]
 unfold Wg LN
 have hpl:=htr.pl
 have hii:=htr.id
 have hj1:(tt.1-1).toNat=(m.2.2.1-1).toNat:=by omega
 have J2:DZ c m tt=some (0,if ((tt.2.2.2.1++[m]).length:Int)=EN c.1.length then
    (c.1,c.2.1.set (m.2.2.1-1).toNat (tt.1,tt.2.1,Ec (tt.2.2.2.1++[m]) 0 tt.2.2.1,tt.2.2.2.1++[m],true,tt.2.2.2.2.2),c.2.2.1++Kh 3 tt.1 tt.2.1 (Ec (tt.2.2.2.1++[m]) 0 tt.2.2.1) 0 c.1.length,c.2.2.2)
   else (c.1,c.2.1.set (m.2.2.1-1).toNat (tt.1,tt.2.1,tt.2.2.1,tt.2.2.2.1++[m],tt.2.2.2.2),c.2.2)):=M3 (by
  unfold Hf
  rw [if_pos (by simp only [List.length_nil]; omega),if_pos (by simp only [List.nil_append,List.length_cons,List.length_nil]; omega)]
  simp only [List.nil_append]
  rw [LP _ (by omega),Z]
  by_cases hc:((tt.2.2.2.1++[m]).length:Int)=EN c.1.length
  ·rw [if_pos (by simpa using hc),if_pos hc,Ny _ _ (by simp only [List.length_append,List.length_cons,List.length_nil]; unfold maxLen; omega),Z]
   have:=LQ m (tt.1,tt.2.1,Ec (tt.2.2.2.1++[m]) 0 tt.2.2.1,tt.2.2.2.1++[m],true,tt.2.2.2.2.2) (tt.2.2.2.1++[m]) n hn n 0 c (by omega) hvl (by omega) (by omega) (show 1<=tt.1/\tt.1<=(c.2.1.length:Int) from by omega)
   simp only [hj1] at this
   rw [hvl]
   exact this
  ·rw [if_neg (by simpa using hc),if_neg hc,Dz (tt.1,tt.2.1,tt.2.2.1,tt.2.2.2.1++[m],tt.2.2.2.2) c (by omega) (show 1<=tt.1/\tt.1<=(c.2.1.length:Int) from by omega),Z]
   simp only [hj1])
 by_cases h1:m.2.2.2.1=tt.2.1
 ·have e1:(tt.2.1 != m.2.2.2.1)=false:=by simp [h1]
  rw [if_pos e1]
  by_cases h2:tt.2.2.2.2.1=true
  ·rw [if_pos h2]
   simp only [h2,true_or,or_true,if_true]
   rfl
  ·rw [if_neg h2]
   refine M4 ?_
   unfold Hg
   refine M_ c m tt (by omega) tt.2.2.2.1.length 0 (by omega) _ ?_
   rw [List.drop_zero]
   by_cases h3:(tt.2.2.2.1.any fun x=>x.2.1==m.2.1)=true
   ·rw [if_pos h3]
    simp only [h3,or_true,if_true]
    rfl
   ·have hn':¬ (m.2.2.2.1≠tt.2.1\/tt.2.2.2.2.1=true\/(tt.2.2.2.1.any fun x=>x.2.1==m.2.1)=true):=fun q=>q.elim (fun q=>q h1) fun q=>q.elim h2 h3
    rw [if_neg h3,J2]
    simp only [if_neg hn']
    split<;>rfl
 ·have e1:¬ (tt.2.1 != m.2.2.2.1)=false:=by simpa using fun q=>h1 q.symm
  rw [if_neg e1]
  simp only [ne_eq,h1,not_false_eq_true,true_or,if_true]
  rfl)
theorem TN (x:List Int) (n:Int) (h:x.length<=maxLen):Lk x n=some (x.contains n):=Uk (by
 have hm:x.length<=9223372036854775807:=h
 unfold QA
 have key:=R7 (n:=x.length) (P:=fun i=>Fd x n (i:Int)=some ((x.drop i).contains n)) (L1 (by
  unfold Hv
  rw [if_neg (by simp)]
  simp)) (fun i hi ih=>L1 (by
  unfold Hv
  rw [if_pos (decide_eq_true (by omega)),if_pos (by omega),if_pos (by omega),CH,Bi hi,BM (by omega),ih,DF hi,List.contains_cons]
  by_cases e:n=x[i]
  ·subst e; simp
  ·have e':(n==x[i])=false:=by simpa using e
   rw [if_neg (by simp; exact fun q=>e q.symm),e',Bool.false_or])) 0 (by omega)
 rw [List.drop_zero] at key
 exact key)
theorem PC {n t k:Nat} {c:D0} (h:Hl n t k c) {m:Al} (hn:n<=5) (ht:t<=4) (hk:k<=1000) (hm:1<=m.2.2.1/\m.2.2.1<=(t:Int)):Hr m c=some (LN (Gl m c).1,(Gl m c).2):=R4 (by
 have hj:(m.2.2.1-1).toNat<t:=by omega
 have htr:=h.tr _ hj
 have hcl:=h.cl
 have hvl:=h.vl
 have hch:=h.ch
 have w:IntKind.i64.wrap (m.2.2.1-1)=m.2.2.1-1:=BJ (by omega)
 rw [QO]
 unfold L8
 rw [w,if_pos (by omega),if_pos (by omega)]
 obtain ⟨tt,htt⟩:∃ tt,c.2.1.getD (m.2.2.1-1).toNat Ao=tt:=⟨_,rfl⟩
 have htt':c.2.1.getD (m.2.2.1-1).toNat (((0:Int),(0:Int),AA,([]:List Al),false,([]:List Int),false):JZ)=tt:=htt
 rw [htt] at htr
 rw [htt',htt]
 unfold ZI LN
 have htl:=htr.tl
 have hii:=htr.id
 have hj1:(tt.1-1).toNat=(m.2.2.1-1).toNat:=by omega
 have J0:∀ b,Fi b c m tt=some (0,if ((tt.2.2.2.2.2.1++[m.2.1]).length:Int)=EN c.1.length then
    (c.1,c.2.1.set (m.2.2.1-1).toNat (tt.1,tt.2.1,tt.2.2.1,tt.2.2.2.1,tt.2.2.2.2.1,tt.2.2.2.2.2.1++[m.2.1],true),c.2.2.1,c.2.2.2++[tt.2.2.1])
   else (c.1,c.2.1.set (m.2.2.1-1).toNat (tt.1,tt.2.1,tt.2.2.1,tt.2.2.2.1,tt.2.2.2.2.1,tt.2.2.2.2.2.1++[m.2.1],tt.2.2.2.2.2.2),c.2.2)):=fun b=>Oq (by
  unfold JP
  rw [if_pos (by simp only [List.length_nil]; omega),if_pos (by simp only [List.nil_append,List.length_cons,List.length_nil]; omega)]
  simp only [List.nil_append]
  rw [LP _ (by omega),Z]
  by_cases hc:((tt.2.2.2.2.2.1++[m.2.1]).length:Int)=EN c.1.length
  ·rw [if_pos (by simpa using hc),if_pos hc,if_pos (by simp only [List.length_nil]; omega),if_pos (by simp only [List.length_cons,List.length_nil]; omega),Dz (tt.1,tt.2.1,tt.2.2.1,tt.2.2.2.1,tt.2.2.2.2.1,tt.2.2.2.2.2.1++[m.2.1],true) (c.1,c.2.1,c.2.2.1,c.2.2.2++[tt.2.2.1]) (by simp only; omega) (show 1<=tt.1/\tt.1<=(c.2.1.length:Int) from by omega),Z]
   simp only [hj1]
  ·rw [if_neg (by simpa using hc),if_neg hc,Dz (tt.1,tt.2.1,tt.2.2.1,tt.2.2.2.1,tt.2.2.2.2.1,tt.2.2.2.2.2.1++[m.2.1],tt.2.2.2.2.2.2) c (by omega) (show 1<=tt.1/\tt.1<=(c.2.1.length:Int) from by omega),Z]
   simp only [hj1])
 by_cases h1:m.2.2.2.1=tt.2.1
 ·have e1:(tt.2.1 != m.2.2.2.1)=false:=by simp [h1]
  rw [if_pos e1,TN _ _ (by unfold maxLen; omega),Z]
  by_cases h2:(tt.2.2.2.2.2.1.contains m.2.1)=true
  ·rw [if_pos h2]
   simp only [h2,or_true,if_true]
   rfl
  ·have hn':¬ (m.2.2.2.1≠tt.2.1\/(tt.2.2.2.2.2.1.contains m.2.1)=true):=fun q=>q.elim (fun q=>q h1) h2
   rw [if_neg h2,J0]
   simp only [if_neg hn']
   split<;>rfl
 ·have e1:¬ (tt.2.1 != m.2.2.2.1)=false:=by simpa using fun q=>h1 q.symm
  rw [if_neg e1]
  simp only [ne_eq,h1,not_false_eq_true,true_or,if_true]
  rfl)
theorem PD {n t k:Nat} {c:D0} (h:Hl n t k c) {m:Al} (hn:n<=5) (ht:t<=4) (hk:k<=1000) (hm:O8 n t m):Fc m c=some (LN (GT m c).1,(GT m c).2):=R3 (by
 unfold L7 GT
 have hvl:=h.vl
 have hnl:=h.nl
 by_cases h2:m.1=2
 ·have hm2:1<=m.2.2.1/\m.2.2.1<=(t:Int):=by rcases hm with ⟨a,_⟩ | ⟨a,b,_⟩<;>omega
  rw [if_pos (by simpa using h2),NA h hn ht hk hm2,Z,if_neg (by omega),if_pos h2]
 ·rw [if_neg (by simpa using h2)]
  by_cases h4:m.1=4
  ·have hm2:1<=m.2.2.1/\m.2.2.1<=(t:Int):=by rcases hm with ⟨a,_⟩ | ⟨a,b,_⟩<;>omega
   rw [if_pos (by simpa using h4),PC h hn ht hk hm2,Z,if_neg (by omega),if_neg h2]
  ·have hm1:(m.1=1\/m.1=3)/\1<=m.2.2.1/\m.2.2.1<=(n:Int):=by rcases hm with ⟨a,b,_⟩ | ⟨a,_⟩<;>omega
   have w:IntKind.i64.wrap (m.2.2.1-1)=m.2.2.1-1:=BJ (by omega)
   rw [if_neg (by simpa using h4),if_pos hm1.1]
   refine On ?_
   unfold JM
   rw [w,if_pos (by omega),if_pos (by omega)]
   rw [Wi]
   obtain ⟨v,hv⟩:∃ v,c.1.getD (m.2.2.1-1).toNat BH=v:=⟨_,rfl⟩
   have hv':c.1.getD (m.2.2.1-1).toNat (((0:Int),(0:Int),AA):B7)=v:=hv
   have hs:c.1.set (m.2.2.1-1).toNat v=c.1:=by
    rw [<- hv,Bi (show (m.2.2.1-1).toNat<c.1.length by omega),List.set_getElem_self]
   rw [hv',hv,O6,Z]
   have hsm:=@UC v m
   generalize Bd v m=r at hsm
   obtain ⟨r1,r2,r3⟩:=r
   unfold Wh LN
   dsimp only at hsm ⊢
   cases r3 with
   | true =>
    rw [if_neg (by simp),if_pos (by simp only [List.length_nil]; omega),if_pos (by omega),if_pos (by simp only [List.nil_append]; omega)]
    rw [List.nil_append,FC r2 (c.1.set (m.2.2.1-1).toNat r1,c.2) (by simp only; omega),Z]
    rfl
   | false =>
    have:=hsm rfl
    subst this
    rw [if_pos (by simp),hs]
    rfl)
theorem MB {n t k:Nat} {c:D0} (h:Hl n t k c) {e:EM} (hn:n<=5) (ht:t<=4) (hk:k<=1000) (he:FH t e):Ig e c=some (LN (C3 false e c).1,(C3 false e c).2):=Um (by
 have hnl:=h.nl
 unfold QD C3
 by_cases h1:e.1=1
 ·rw [if_pos (by simpa using h1),if_pos h1,M9 h hn ht hk he,Z]
 ·rw [if_neg (by simpa using h1),if_neg h1]
  by_cases h0:c.2.2.1.length=0
  ·rw [if_pos (by simp [h0]),if_pos h0]; rfl
  ·have hp:=QL he.at_ h0
   have hm:c.2.2.1.getD (Cl e c) Ck∈c.2.2.1:=by rw [Bi hp]; exact DG hp
   have em:Int.tmod e.2.2.1 (c.2.2.1.length:Int)=(Cl e c:Int):=by
    have h2:=Int.emod_nonneg e.2.2.1 (show (c.2.2.1.length:Int)≠0 by omega)
    rw [Int.tmod_eq_emod_of_nonneg he.at_]
    unfold Cl
    omega
   rw [if_neg (by simpa using h0),if_neg h0,em,if_neg (by omega),if_pos (by omega),if_pos (by omega),CH]
   simp only [ZR]
   by_cases h4:e.1=4
   ·rw [if_pos (by simpa using h4),if_pos h4,FC _ _ (by omega),Z]; rfl
   ·have hc:(([]:List Al)++((c.2.2.1.take (Cl e c)).drop (0:Int).toNat))++((c.2.2.1.take (c.2.2.1.length:Int).toNat).drop (((Cl e c+1:Nat):Int)).toNat)=c.2.2.1.take (Cl e c)++c.2.2.1.drop (Cl e c+1):=by
     rw [List.nil_append,CH,CH,List.take_length]
     rfl
    rw [if_neg (by simpa using h4),if_neg h4,BM (by omega),if_pos (by omega),if_pos (by omega),if_pos (by omega),if_pos (by omega),if_pos (by omega),if_pos (by omega),
     if_pos (by simp only [List.length_nil,List.length_drop,List.length_take]; omega),if_pos (by simp only [List.length_nil,List.length_append,List.length_drop,List.length_take]; omega),hc]
    by_cases h3:e.1=3
    ·rw [if_pos (by simpa using h3),if_pos h3]
     rfl
    ·rw [if_neg (by simpa using h3),if_neg h3]
     change ((Fc (c.2.2.1.getD (Cl e c) Ck) (OD e c)).bind _)=_
     rw [PD (h.less e) hn ht hk (h.nt _ hm),Z])

theorem QP (t:Nat) (ht:t<=4) (q vs:List B7):∀ (k i:Nat),i+k=t->DO (t:Int) ((i:Int)+1) [] [] [] [] q (Hw i) vs=some ((vs,Hw t,[],[]),true)
 | 0,i,hk=>HI (by
  have:i=t:=by omega
  subst this
  unfold En
  rw [if_neg (by rw [decide_eq_false (by omega)]; simp)])
 | k+1,i,hk=>HI (by
  unfold En
  rw [if_pos (decide_eq_true (by omega)),if_pos (by rw [Fn]; simp only [List.length_cons,List.length_nil]; omega),show IntKind.i64.wrap ((i:Int)+1+1)=((i+1:Nat):Int)+1 from by rw [BJ (by omega)]; omega]
  exact QP t ht q vs k (i+1) (by omega))
theorem IY {n t:Nat} (hn:1<=n/\n<=5) (ht:1<=t/\t<=4):EZ (n:Int) (t:Int)=some (DA n t,true):=P3 (by
 unfold KA
 rw [Ce,Z,if_pos (by rw [<- Bool.decide_and,decide_eq_true (by omega)]; rfl),Ce,Z,if_neg (by rw [<- Bool.decide_and,decide_eq_true (by omega)]; simp)]
 refine Mh ?_
 unfold HH
 rw [if_pos (by omega),if_pos (by omega),CH]
 exact QP t ht.2 _ _ t 0 (by omega))
theorem SB {v:ByteArray} (h:v∈JY):1<=(v.size:Int)/\(v.size:Int)<=40:=by
 simp only [JY,AQ,List.not_mem_nil,or_false] at h
 rcases h with rfl | rfl | rfl | rfl | rfl<;>exact ⟨by decide,by decide⟩
theorem QQ {n t N:Nat} (hn:n<=5) (ht:1<=t/\t<=4) (hNb:N<=79):∀ (k i:Nat) (d:OC) (es:List EM) (c:D0),i+k=N->VZ d->Hl n t i c->es.length=i->(∀ e∈es,FH t e) ->
  ∃ es' d',Bk (N:Int) (i:Int) d [] 0 0 es (n:Int) (t:Int) c=some (((n:Int),(t:Int),es'),d')/\es'.length=N/\∀ e∈es',FH t e
 | 0,i,d,es,c,hk,hd,hc,hl,he=>⟨es,d,KJ (by
  unfold GQ
  rw [if_neg (by rw [decide_eq_false (by omega)]; simp)]),by omega,he⟩
 | k+1,i,d,es,c,hk,hd,hc,hl,he=>by
  have J3:∀ (d:OC) (e:EM),VZ d->FH t e->∃ es' d',Ea (N:Int) (i:Int) d [] 0 0 es (n:Int) (t:Int) c e=some (((n:Int),(t:Int),es'),d')/\es'.length=N/\∀ e∈es',FH t e:=fun d e hd hh=>by
   obtain ⟨es',d',h1,h2,h3⟩:=QQ hn ht hNb k (i+1) d (es++[e]) (C3 false e c).2 (by omega) hd (hc.happen false hn ht.2 hh) (by simp [hl]) (fun x hx=>by
    rcases Am.1 hx with hx | hx
    ·exact he x hx
    ·rw [CM.1 hx]; exact hh)
   refine ⟨es',d',QB ?_,h2,h3⟩
   unfold KG
   rw [MB hc hn ht.2 (by omega) hh,Z,if_pos (by simp only [List.length_cons,List.length_nil]; omega),BM (by omega)]
   exact h1
  have J2:∀ (d:OC) (e:EM),VZ d->(1<=e.1/\e.1<=4)->(1<=e.2.1/\e.2.1<=(t:Int))->0<=e.2.2.1->e.2.2.2=AA->∃ es' d',Eb (N:Int) (i:Int) d [] 0 0 es (n:Int) (t:Int) c e=some (((n:Int),(t:Int),es'),d')/\es'.length=N/\∀ e∈es',FH t e:=fun d e hd h1 h2 h3 h4=>by
   by_cases h5:e.1=1
   ·obtain ⟨v,d1,e1,k1,hv⟩:=O7 d hd
    obtain ⟨es',d',g1,g2,g3⟩:=J3 d1 (e.1,e.2.1,e.2.2.1,v) k1 ⟨h1,h2,h3,by simp only [h5,if_true]; exact SB hv⟩
    refine ⟨es',d',KH ?_,g2,g3⟩
    unfold GO
    rw [if_pos (by simpa using h5),e1,Z]
    exact g1
   ·obtain ⟨es',d',g1,g2,g3⟩:=J3 d e hd ⟨h1,h2,h3,by rw [if_neg h5,h4]; rfl⟩
    refine ⟨es',d',KH ?_,g2,g3⟩
    unfold GO
    rw [if_neg (by simpa using h5)]
    exact g1
  obtain ⟨x1,d1,e1,k1,m1⟩:=M6 [1,2,2,2,2,2,2,2,2,3,4] (by simp) d hd
  obtain ⟨x2,d2,e2,k2,a2,b2⟩:=CK (t:Int) d1 k1
  obtain ⟨x3,d3,e3,k3,a3,b3⟩:=CK 12 d2 k2
  have b2:=b2 (by omega)
  have m1:1<=x1/\x1<=4:=by
   simp only [AQ,List.not_mem_nil,or_false] at m1
   omega
  have w:IntKind.i64.wrap (1+x2)=1+x2:=BJ (by omega)
  have J1:∃ es' d',GN (N:Int) (i:Int) d3 [] 0 0 es (n:Int) (t:Int) c (x1,1+x2,x3,AA)=some (((n:Int),(t:Int),es'),d')/\es'.length=N/\∀ e∈es',FH t e:=by
   by_cases h0:c.2.2.1.length=0
   ·obtain ⟨es',d',g1,g2,g3⟩:=J2 d3 (1,1+x2,x3,AA) k3 (by simp) (by simp only; omega) a3 rfl
    refine ⟨es',d',KI ?_,g2,g3⟩
    unfold GP
    rw [if_pos (by simp [h0])]
    exact g1
   ·obtain ⟨es',d',g1,g2,g3⟩:=J2 d3 (x1,1+x2,x3,AA) k3 m1 (by simp only; omega) a3 rfl
    refine ⟨es',d',KI ?_,g2,g3⟩
    unfold GP
    rw [if_neg (by simpa using h0)]
    exact g1
  obtain ⟨es',d',g1,g2,g3⟩:=J1
  refine ⟨es',d',KJ ?_,g2,g3⟩
  unfold GQ
  rw [if_pos (decide_eq_true (by omega)),e1,Z,e2,Z,e3,Z,w]
  exact g1
theorem MH (x:List Int) (hx:x.length<=1048576):∃ (n t:Nat) (es:List EM),Ff x=some ((n:Int),(t:Int),es)/\(1<=n/\n<=5)/\(1<=t/\t<=3)/\es.length<=79/\∀ e∈es,FH t e:=by
 obtain ⟨d,e,k⟩:=RA x (by unfold maxLen; omega)
 obtain ⟨x1,d1,e1,k1,a1,b1⟩:=CK 5 d k
 obtain ⟨x2,d2,e2,k2,a2,b2⟩:=CK 3 d1 k1
 have b1:=b1 (by omega)
 have b2:=b2 (by omega)
 obtain ⟨n,rfl⟩:=Int.eq_ofNat_of_zero_le a1
 obtain ⟨t,rfl⟩:=Int.eq_ofNat_of_zero_le a2
 have w1:IntKind.i64.wrap (1+(n:Int))=((n+1:Nat):Int):=by rw [BJ (by omega)]; omega
 have w2:IntKind.i64.wrap (1+(t:Int))=((t+1:Nat):Int):=by rw [BJ (by omega)]; omega
 obtain ⟨N,hNb,eN⟩:∃ N:Nat,N<=79/\∀ r:Option ((Int×Int×List EM)×OC),(if (3:Int)=0 then none else (if decide (IntKind.i64.wrap (20+IntKind.i64.wrap (Int.tdiv (x.length:Int) 3))>79)=true then Bk 79 0 d2 [] 0 0 [] ((n+1:Nat):Int) ((t+1:Nat):Int) (DA (n+1) (t+1)) else Bk (IntKind.i64.wrap (20+IntKind.i64.wrap (Int.tdiv (x.length:Int) 3))) 0 d2 [] 0 0 [] ((n+1:Nat):Int) ((t+1:Nat):Int) (DA (n+1) (t+1))))=r↔Bk (N:Int) ((0:Nat):Int) d2 [] 0 0 [] ((n+1:Nat):Int) ((t+1:Nat):Int) (DA (n+1) (t+1))=r:=by
  have e3:IntKind.i64.wrap (20+IntKind.i64.wrap (Int.tdiv (x.length:Int) 3))=((20+x.length / 3:Nat):Int):=by
   rw [Int.tdiv_eq_ediv_of_nonneg (by omega),BJ (n:=(x.length:Int) / 3) (by omega),BJ (by omega)]
   omega
  rw [e3]
  by_cases h:20+x.length / 3>79
  ·exact ⟨79,by omega,fun r=>by rw [if_neg (by decide),if_pos (decide_eq_true (by omega))]; exact Iff.rfl⟩
  ·exact ⟨20+x.length / 3,by omega,fun r=>by rw [if_neg (by decide),if_neg (by rw [decide_eq_false (by omega)]; simp)]; exact Iff.rfl⟩
 obtain ⟨es,d',g1,g2,g3⟩:=QQ (n:=n+1) (t:=t+1) (N:=N) (by omega) (by omega) hNb N 0 d2 [] (DA (n+1) (t+1)) (by omega) k2 (SM _ _) rfl (fun e he=>by simp at he)
 refine ⟨n+1,t+1,es,Og ?_,by omega,by omega,by omega,g3⟩
 have hD:JA x d=some ((((n+1:Nat):Int),((t+1:Nat):Int),es),d'):=TH (by
  unfold Mt
  rw [e1,Z,e2,Z,w1,w2,IY (by omega) (by omega),Z]
  exact (eN _).2 g1)
 unfold JG
 rw [e,Z,hD]
 rfl

def cnt (q:Nat->Bool):Nat->Nat
 | 0=>0
 | n+1=>cnt q n+(if q n=true then 1 else 0)
theorem TO {p q:Nat->Bool}:∀ n,n<cnt p n+cnt q n->∃ a,a<n/\p a=true/\q a=true
 | 0,h=>by simp [cnt] at h
 | n+1,h=>by
  simp only [cnt] at h
  by_cases hp:p n=true
  ·by_cases hq:q n=true
   ·exact ⟨n,by omega,hp,hq⟩
   ·rw [if_pos hp,if_neg hq] at h
    obtain ⟨a,h1,h2⟩:=TO (p:=p) (q:=q) n (by omega)
    exact ⟨a,by omega,h2⟩
  ·have:(if q n=true then 1 else 0)<=1:=by split<;>omega
   rw [if_neg hp] at h
   obtain ⟨a,h1,h2⟩:=TO (p:=p) (q:=q) n (by omega)
   exact ⟨a,by omega,h2⟩
theorem RD {p q:Nat->Bool}:∀ n,(∀ a,a<n->p a=q a)->cnt p n=cnt q n
 | 0,_=>rfl
 | n+1,h=>by rw [cnt,cnt,RD n (fun a ha=>h a (by omega)),h n (by omega)]
theorem Wj {q:Nat->Bool} {x:Nat} (hq:q x=false):∀ n,x<n->cnt (fun a=>a==x||q a) n=cnt q n+1
 | 0,h=>by omega
 | n+1,h=>by
  rw [cnt,cnt]
  by_cases e:x=n
  ·subst e
   rw [RD (p:=fun a=>a==x||q a) (q:=q) x (fun a ha=>by
    have:(a==x)=false:=by simp; omega
    simp only [this,Bool.false_or]),if_pos (by simp),hq]
   simp
  ·have:(n==x)=false:=by simp; omega
   rw [Wj hq n (by omega)]
   simp only [this,Bool.false_or]
   omega
theorem TP {n:Nat}:∀ L:List Int,L.Nodup->(∀ x∈L,1<=x/\x<=(n:Int))->cnt (fun a=>L.contains ((a:Int)+1)) n=L.length
 | [],_,_=>by
  have:∀ k,cnt (fun a=>([]:List Int).contains ((a:Int)+1)) k=0:=by
   intro k
   induction k with
   | zero=>rfl
   | succ k ih=>rw [cnt,ih]; simp
  exact this n
 | x::L,hd,hx=>by
  have h1:=hx x (by simp)
  obtain ⟨hd1,hd2⟩:=List.nodup_cons.1 hd
  have ih:=TP L hd2 (fun y hy=>hx y (by simp [hy]))
  have hq:(fun a:Nat=>L.contains ((a:Int)+1)) (x-1).toNat=false:=by
   simp only
   rw [show (((x-1).toNat:Nat):Int)+1=x from by omega]
   simpa using hd1
  rw [List.length_cons,<- ih,<- Wj hq n (by omega)]
  refine RD n (fun a ha=>?_)
  simp only [List.contains_cons]
  congr 1
  by_cases e:(a:Int)+1=x
  ·have:a=(x-1).toNat:=by omega
   simp [e,<- this]
  ·have h2:((a:Int)+1==x)=false:=by simpa using e
   have h3:(a==(x-1).toNat)=false:=by simp; omega
   rw [h2,h3]
theorem UD {n:Nat} {p q:Nat->Bool} (hp:EN n<=(cnt p n:Int)) (hq:EN n<=(cnt q n:Int)):∃ a,a<n/\p a=true/\q a=true:=by
 unfold EN at hp hq
 exact TO n (by omega)
abbrev OG:Type:=Int->Option ByteArray
def Vd (n:Nat) (P:OG) (A:Nat->Int->Prop) (V:Nat->B7) (m:Al):Prop :=
 (1<=m.2.1/\m.2.1<=(n:Int))/\(1<=m.2.2.2.1/\m.2.2.2.1<=(V (m.2.1-1).toNat).1)/\(0<=m.2.2.2.2.1/\m.2.2.2.2.1<m.2.2.2.1)/\(0<m.2.2.2.2.1->P m.2.2.2.2.1=some m.2.2.2.2.2) /\
  ∀ b',m.2.2.2.2.1<b'->b'<m.2.2.2.1->¬ A (m.2.1-1).toNat b'
def TQ (n:Nat) (P:OG) (A:Nat->Int->Prop) (V:Nat->B7) (b:Int) (v:ByteArray):Prop :=
 ∀ b',0<b'->b'<b->∃ q:Nat->Bool,EN n<=(cnt q n:Int)/\∀ a,a<n->q a=true->b'<(V a).1/\(A a b'->P b'=some v)
structure Up (n:Nat) (P P':OG) (A A':Nat->Int->Prop) (V V':Nat->B7):Prop where
 p:∀ b v,P b=some v->P' b=some v
 v:∀ a,a<n->(V a).1<=(V' a).1
 a:∀ a b,A' a b->A a b\/(V a).1<=b
 a2:∀ a b,A a b->A' a b
theorem Vd.up {n:Nat} {P P':OG} {A A':Nat->Int->Prop} {V V':Nat->B7} {m:Al} (h:Vd n P A V m) (u:Up n P P' A A' V V'):Vd n P' A' V' m:=by
 obtain ⟨h1,h2,h3,h4,h5⟩:=h
 have:=u.v (m.2.1-1).toNat (by omega)
 refine ⟨h1,by omega,h3,fun q=>u.p _ _ (h4 q),fun b' q1 q2 q3=>?_⟩
 rcases u.a _ _ q3 with q | q
 ·exact h5 b' q1 q2 q
 ·omega
theorem TQ.up {n:Nat} {P P':OG} {A A':Nat->Int->Prop} {V V':Nat->B7} {b:Int} {v:ByteArray} (h:TQ n P A V b v) (u:Up n P P' A A' V V'):TQ n P' A' V' b v:=fun b' h1 h2=>by
 obtain ⟨q,hq,hh⟩:=h b' h1 h2
 refine ⟨q,hq,fun a ha hqa=>?_⟩
 obtain ⟨g1,g2⟩:=hh a ha hqa
 have:=u.v a ha
 refine ⟨by omega,fun ha'=>?_⟩
 rcases u.a _ _ ha' with q1 | q1
 ·exact u.p _ _ (g2 q1)
 ·omega
structure FY (n t:Nat) (S:ByteArray->Prop) (P:OG) (A:Nat->Int->Prop) (c:D0):Prop where
 vok:∀ a,a<n->Dt (c.1.getD a BH)=true
 vac:∀ a,a<n->0<(c.1.getD a BH).2.1->P (c.1.getD a BH).2.1=some (c.1.getD a BH).2.2
 acc:∀ a b,A a b->a<n/\0<b/\b<=(c.1.getD a BH).2.1/\∃ v,P b=some v
 tb:∀ j,j<t->(c.2.1.getD j Ao).2.1=0\/((c.2.1.getD j Ao).2.1-((j:Int)+1)) % 10=0
 pb:∀ b v,P b=some v->∃ j,j<t/\(b-((j:Int)+1)) % 10=0/\0<b/\b<=(c.2.1.getD j Ao).2.1/\(b=(c.2.1.getD j Ao).2.1->(c.2.1.getD j Ao).2.2.2.2.1=true/\(c.2.1.getD j Ao).2.2.1=v)
 ps:∀ b v,P b=some v->S v
 sv:∀ j,j<t->0<(c.2.1.getD j Ao).2.1->S (c.2.1.getD j Ao).2.2.1
 safe:∀ b v,P b=some v->TQ n P A (fun a=>c.1.getD a BH) b v
 n2:∀ m∈c.2.2.1,m.1=2->Vd n P A (fun a=>c.1.getD a BH) m
 n3:∀ m∈c.2.2.1,m.1=3->P m.2.2.2.1=some m.2.2.2.2.2
 n4:∀ m∈c.2.2.1,m.1=4->A (m.2.1-1).toNat m.2.2.2.1
 pr:∀ j,j<t->∀ m∈(c.2.1.getD j Ao).2.2.2.1,m.1=2/\m.2.2.2.1=(c.2.1.getD j Ao).2.1/\Vd n P A (fun a=>c.1.getD a BH) m
 pn:∀ j,j<t->((c.2.1.getD j Ao).2.2.2.1.map (·.2.1)).Nodup
 tk:∀ j,j<t->∀ x∈(c.2.1.getD j Ao).2.2.2.2.2.1,(1<=x/\x<=(n:Int))/\A (x-1).toNat (c.2.1.getD j Ao).2.1
 tn:∀ j,j<t->(c.2.1.getD j Ao).2.2.2.2.2.1.Nodup
 ch:∀ v∈c.2.2.2,∃ b,P b=some v/\∃ q:Nat->Bool,EN n<=(cnt q n:Int)/\∀ a,a<n->q a=true->A a b
variable {n t:Nat} {S:ByteArray->Prop} {P:OG} {A:Nat->Int->Prop} {c:D0}
theorem FY.notes (h:FY n t S P A c) {ns:List Al} (hs:∀ m∈ns,m∈c.2.2.1):FY n t S P A (c.1,c.2.1,ns,c.2.2.2) :=
 ⟨h.vok,h.vac,h.acc,h.tb,h.pb,h.ps,h.sv,h.safe,fun m hm=>h.n2 m (hs m hm),fun m hm=>h.n3 m (hs m hm),fun m hm=>h.n4 m (hs m hm),h.pr,h.pn,h.tk,h.tn,h.ch⟩
theorem Un {k:Nat} (hc:Hl n t k c) {j:Nat} (hj:j<t) (x:JZ) (i:Nat):(c.2.1.set j x).getD i Ao=if i=j then x else c.2.1.getD i Ao:=by
 by_cases e:i=j
 ·subst e; rw [if_pos rfl,OE (by rw [hc.cl]; exact hj)]
 ·rw [if_neg e,M7 (fun q=>e q.symm)]
theorem UE {k:Nat} (hc:Hl n t k c) {j:Nat} (hj:j<n) (x:B7) (i:Nat):(c.1.set j x).getD i BH=if i=j then x else c.1.getD i BH:=by
 by_cases e:i=j
 ·subst e; rw [if_pos rfl,OE (by rw [hc.vl]; exact hj)]
 ·rw [if_neg e,M7 (fun q=>e q.symm)]
theorem FY.propose {k:Nat} (h:FY n t S P A c) (hc:Hl n t k c) (ht:t<=4) (kp:Bool) {e:EM} (he:1<=e.2.1/\e.2.1<=(t:Int)) (hs:S e.2.2.2):FY n t S P A (Dy kp e c).2:=by
 have hj:(e.2.1-1).toNat<t:=by omega
 rw [Lr]
 have htr:=hc.tr _ hj
 have htb:=h.tb _ hj
 have gt:=Un hc hj
 obtain ⟨tt,htt⟩:∃ tt,c.2.1.getD (e.2.1-1).toNat Ao=tt:=⟨_,rfl⟩
 rw [htt] at htr htb ⊢
 have hid:=htr.id
 have hba:=htr.ballot
 unfold Wf
 split
 ·exact h
 ·rename_i hb
  have hnb:tt.2.1<IX tt/\((IX tt)-((((e.2.1-1).toNat:Nat):Int)+1)) % 10=0:=by
   unfold IX
   split<;>omega
  generalize IX tt=nb at hnb hb
  refine ⟨h.vok,h.vac,h.acc,fun j hj'=>?_,fun b v hp=>?_,h.ps,fun j hj' h0=>?_,h.safe,?_,?_,?_,fun j hj' m hm=>?_,fun j hj'=>?_,fun j hj' x hx=>?_,fun j hj'=>?_,h.ch⟩
  ·simp only [gt]
   split
   ·rename_i e1; subst e1; exact .inr hnb.2
   ·exact h.tb j hj'
  ·obtain ⟨j,p1,p2,p3,p4,p5⟩:=h.pb b v hp
   refine ⟨j,p1,p2,p3,?_,?_⟩
   ·simp only [gt]
    split
    ·rename_i e1; subst e1; rw [htt] at p4; simp only; omega
    ·exact p4
   ·simp only [gt]
    split
    ·rename_i e1; subst e1; rw [htt] at p4; intro q; simp only at q; omega
    ·exact p5
  ·simp only [gt] at h0 ⊢
   split
   ·exact hs
   ·rename_i e1; rw [if_neg e1] at h0; exact h.sv j hj' h0
  ·intro m hm h2
   rcases Am.1 hm with hm | hm
   ·exact h.n2 m hm h2
   ·obtain ⟨q,_,rfl⟩:=GU hm; simp at h2
  ·intro m hm h2
   rcases Am.1 hm with hm | hm
   ·exact h.n3 m hm h2
   ·obtain ⟨q,_,rfl⟩:=GU hm; simp at h2
  ·intro m hm h2
   rcases Am.1 hm with hm | hm
   ·exact h.n4 m hm h2
   ·obtain ⟨q,_,rfl⟩:=GU hm; simp at h2
  ·simp only [gt] at hm ⊢
   split at hm
   ·simp at hm
   ·rename_i e1; rw [if_neg e1]; exact h.pr j hj' m hm
  ·simp only [gt]
   split
   ·simp
   ·exact h.pn j hj'
  ·simp only [gt] at hx ⊢
   split at hx
   ·simp at hx
   ·rename_i e1; rw [if_neg e1]; exact h.tk j hj' x hx
  ·simp only [gt]
   split
   ·simp
   ·exact h.tn j hj'
theorem FY.voice {k:Nat} (h:FY n t S P A c) (hc:Hl n t k c) {a0:Nat} (ha0:a0<n) {v':B7} {A':Nat->Int->Prop} {x:Al} (hok:Dt v'=true) (hva:0<v'.2.1->P v'.2.1=some v'.2.2)
  (u:Up n P P A A' (fun a=>c.1.getD a BH) (fun a=>(c.1.set a0 v').getD a BH)) (hacc:∀ a b,A' a b->a<n/\0<b/\b<=((c.1.set a0 v').getD a BH).2.1/\∃ v,P b=some v)
  (h2:x.1=2->Vd n P A' (fun a=>(c.1.set a0 v').getD a BH) x) (h3:x.1≠3) (h4:x.1=4->A' (x.2.1-1).toNat x.2.2.2.1) :
  FY n t S P A' (c.1.set a0 v',c.2.1,c.2.2.1++[x],c.2.2.2):=by
 have gv:=UE hc ha0 v'
 refine ⟨fun a ha=>?_,fun a ha h0=>?_,hacc,h.tb,h.pb,h.ps,h.sv,fun b v hb=>(h.safe b v hb).up u,fun m hm e=>?_,fun m hm e=>?_,fun m hm e=>?_,fun j hj m hm=>?_,h.pn,fun j hj y hy=>?_,h.tn,fun v hv=>?_⟩
 ·simp only [gv]
  split
  ·exact hok
  ·exact h.vok a ha
 ·simp only [gv] at h0 ⊢
  split
  ·rename_i e; rw [if_pos e] at h0; exact hva h0
  ·rename_i e; rw [if_neg e] at h0; exact h.vac a ha h0
 ·rcases Am.1 hm with hm | hm
  ·exact (h.n2 m hm e).up u
  ·rw [CM] at hm; subst hm; exact h2 e
 ·rcases Am.1 hm with hm | hm
  ·exact h.n3 m hm e
  ·rw [CM] at hm; subst hm; exact absurd e h3
 ·rcases Am.1 hm with hm | hm
  ·exact u.a2 _ _ (h.n4 m hm e)
  ·rw [CM] at hm; subst hm; exact h4 e
 ·obtain ⟨p1,p2,p3⟩:=h.pr j hj m hm
  exact ⟨p1,p2,p3.up u⟩
 ·obtain ⟨p1,p2⟩:=h.tk j hj y hy
  exact ⟨p1,u.a2 _ _ p2⟩
 ·obtain ⟨b,p1,q,p2,p3⟩:=h.ch v hv
  exact ⟨b,p1,q,p2,fun a ha hq=>u.a2 _ _ (p3 a ha hq)⟩
theorem ZJ {v:B7} {m:Al} (h:(Bd v m).2.2=true):1<=m.2.2.2.1:=by
 unfold Bd at h
 split at h
 ·rename_i c1; exact c1.2.1.1
 ·cases h
theorem FY.hear {k:Nat} (h:FY n t S P A c) (hc:Hl n t k c) {m:Al} (hm:1<=m.2.2.1/\m.2.2.1<=(n:Int)) (h3:m.1=3->P m.2.2.2.1=some m.2.2.2.2.2):∃ A',FY n t S P A' (MA m c).2:=by
 have ha0:(m.2.2.1-1).toNat<n:=by omega
 have gv:=fun v'=>UE hc ha0 v'
 have hok:=h.vok _ ha0
 have hva:=h.vac _ ha0
 have hac:=h.acc
 rw [Wi]
 obtain ⟨v,hv⟩:∃ v,c.1.getD (m.2.2.1-1).toNat BH=v:=⟨_,rfl⟩
 rw [hv] at hok hva ⊢
 have hok':=(Va v m hok).1
 obtain ⟨⟨k1,k2⟩,⟨k3,k4⟩,_,_⟩:=(Hj v).1 hok
 cases hr:(Bd v m).2.2 with
 | false =>
  have hs:c.1.set (m.2.2.1-1).toNat v=c.1:=by
   rw [<- hv,Bi (show (m.2.2.1-1).toNat<c.1.length by rw [hc.vl]; exact ha0),List.set_getElem_self]
  refine ⟨A,?_⟩
  unfold Wh
  rw [UC hr,hs,hr,if_neg (by simp)]
  exact h
 | true =>
  have hle:=ZJ hr
  unfold Wh
  rw [hr,if_pos rfl]
  rcases UB hr with ⟨e1,e2,e3,e4⟩ | ⟨e1,e2,e3,e4⟩
  ·rw [e3] at hok'
   rw [e2,e3]
   refine ⟨A,h.voice hc ha0 hok' hva ⟨fun b v q=>q,fun a ha=>?_,fun a b q=>.inl q,fun a b q=>q⟩ (fun a b q=>?_) (fun _=>⟨hm,⟨hle,?_⟩,⟨k3,?_⟩,hva,fun b' q1 q2 q3=>?_⟩) (by simp) (by simp)⟩
   ·simp only [gv]
    split
    ·rename_i e; subst e; rw [hv]; simp only; omega
    ·exact Int.le_refl _
   ·obtain ⟨p1,p2,p3,p4⟩:=hac a b q
    refine ⟨p1,p2,?_,p4⟩
    simp only [gv]
    split
    ·rename_i e; subst e; rw [hv] at p3; exact p3
    ·exact p3
   ·simp only [gv,if_true]
    exact Int.le_refl _
   ·simp only; omega
   ·have:=(hac _ _ q3).2.2.1
    simp only at q1
    rw [hv] at this
    omega
  ·rw [e3] at hok'
   rw [e2,e3]
   have hp3:=h3 e1
   have gA:∀ a,((c.1.set (m.2.2.1-1).toNat (m.2.2.2.1,m.2.2.2.1,m.2.2.2.2.2)).getD a BH)=if a=(m.2.2.1-1).toNat then (m.2.2.2.1,m.2.2.2.1,m.2.2.2.2.2) else c.1.getD a BH:=gv _
   refine ⟨fun a b=>A a b\/(a=(m.2.2.1-1).toNat/\b=m.2.2.2.1),h.voice hc ha0 hok' (fun _=>hp3) ⟨fun b v q=>q,fun a ha=>?_,fun a b q=>?_,fun a b q=>.inl q⟩ (fun a b q=>?_) (by simp) (by simp) (fun _=>.inr ⟨rfl,rfl⟩)⟩
   ·simp only [gA]
    split
    ·rename_i e; subst e; rw [hv]; simp only; omega
    ·exact Int.le_refl _
   ·rcases q with q | ⟨q1,q2⟩
    ·exact .inl q
    ·subst q1 q2; simp only [hv]; exact .inr e4
   ·rcases q with q | ⟨q1,q2⟩
    ·obtain ⟨p1,p2,p3,p4⟩:=hac a b q
     refine ⟨p1,p2,?_,p4⟩
     simp only [gA]
     split
     ·rename_i e; subst e; rw [hv] at p3; simp only; omega
     ·exact p3
    ·subst q1 q2
     refine ⟨ha0,by omega,?_,_,hp3⟩
     simp only [gA,if_true]
     exact Int.le_refl _
theorem FY.taken {k:Nat} (h:FY n t S P A c) (hc:Hl n t k c) (ht:t<=4) {m:Al} (hm:1<=m.2.2.1/\m.2.2.1<=(t:Int)) (hf:1<=m.2.1/\m.2.1<=(n:Int)) (h4:A (m.2.1-1).toNat m.2.2.2.1):FY n t S P A (Gl m c).2:=by
 have hj:(m.2.2.1-1).toNat<t:=by omega
 rw [QO]
 have htb:=h.tb _ hj
 have htk:=h.tk _ hj
 have htn:=h.tn _ hj
 have hsv:=h.sv _ hj
 have hpr:=h.pr _ hj
 have hpn:=h.pn _ hj
 have gt:=Un hc hj
 obtain ⟨tt,htt⟩:∃ tt,c.2.1.getD (m.2.2.1-1).toNat Ao=tt:=⟨_,rfl⟩
 rw [htt] at htb htk htn hsv hpr hpn ⊢
 unfold ZI
 split
 ·exact h
 ·rename_i hne
  have hb:m.2.2.2.1=tt.2.1:=Classical.byContradiction fun q=>hne (.inl q)
  have hnc:¬ tt.2.2.2.2.2.1.contains m.2.1=true:=fun q=>hne (.inr q)
  have htk':∀ x∈tt.2.2.2.2.2.1++[m.2.1],(1<=x/\x<=(n:Int))/\A (x-1).toNat tt.2.1:=fun x hx=>by
   rcases Am.1 hx with hx | hx
   ·exact htk x hx
   ·rw [CM] at hx; subst hx; exact ⟨hf,hb▸h4⟩
  have htn':(tt.2.2.2.2.2.1++[m.2.1]).Nodup:=by
   rw [List.nodup_append]
   refine ⟨htn,by simp,fun a ha b hb2=>?_⟩
   rw [CM] at hb2
   subst hb2
   intro e
   subst e
   exact hnc (by simpa using ha)
  have gen:∀ (fl:Bool) (ch':List ByteArray),(∀ v∈ch',∃ b,P b=some v/\∃ q:Nat->Bool,EN n<=(cnt q n:Int)/\∀ a,a<n->q a=true->A a b)->FY n t S P A (c.1,c.2.1.set (m.2.2.1-1).toNat (tt.1,tt.2.1,tt.2.2.1,tt.2.2.2.1,tt.2.2.2.2.1,tt.2.2.2.2.2.1++[m.2.1],fl),c.2.2.1,ch'):=fun fl ch' hch=>by
   refine ⟨h.vok,h.vac,h.acc,fun j hj'=>?_,fun b v hp=>?_,h.ps,fun j hj' h0=>?_,h.safe,h.n2,h.n3,h.n4,fun j hj' x hx=>?_,fun j hj'=>?_,fun j hj' x hx=>?_,fun j hj'=>?_,hch⟩
   ·simp only [gt]
    split
    ·rename_i e1; subst e1; exact htb
    ·exact h.tb j hj'
   ·obtain ⟨j,p1,p2,p3,p4,p5⟩:=h.pb b v hp
    refine ⟨j,p1,p2,p3,?_,?_⟩
    ·simp only [gt]
     split
     ·rename_i e1; subst e1; rw [htt] at p4; exact p4
     ·exact p4
    ·simp only [gt]
     split
     ·rename_i e1; subst e1; rw [htt] at p5; exact p5
     ·exact p5
   ·simp only [gt] at h0 ⊢
    split
    ·rename_i e1; rw [if_pos e1] at h0; exact hsv h0
    ·rename_i e1; rw [if_neg e1] at h0; exact h.sv j hj' h0
   ·simp only [gt] at hx ⊢
    split at hx
    ·rename_i e1; rw [if_pos e1]; exact hpr x hx
    ·rename_i e1; rw [if_neg e1]; exact h.pr j hj' x hx
   ·simp only [gt]
    split
    ·exact hpn
    ·exact h.pn j hj'
   ·simp only [gt] at hx ⊢
    split at hx
    ·rename_i e1; rw [if_pos e1]; exact htk' x hx
    ·rename_i e1; rw [if_neg e1]; exact h.tk j hj' x hx
   ·simp only [gt]
    split
    ·exact htn'
    ·exact h.tn j hj'
  split
  ·rename_i hq
   refine gen true _ (fun v hv=>?_)
   rcases Am.1 hv with hv | hv
   ·exact h.ch v hv
   ·rw [CM] at hv
    subst hv
    obtain ⟨_,p0,_,w,hw⟩:=h.acc _ _ h4
    obtain ⟨j,p1,p2,p3,p4,p5⟩:=h.pb _ _ hw
    have ej:j=(m.2.2.1-1).toNat:=by rw [hb] at p2 p0; omega
    subst ej
    rw [htt] at p5
    refine ⟨tt.2.1,by rw [<- hb,hw,(p5 hb).2],fun a=>(tt.2.2.2.2.2.1++[m.2.1]).contains ((a:Int)+1),?_,fun a ha hqa=>?_⟩
    ·rw [TP _ htn' (fun x hx=>(htk' x hx).1),hq,hc.vl]
     exact Int.le_refl _
    ·have:=(htk' _ (List.contains_iff_mem.1 hqa)).2
     rw [show ((a:Int)+1-1).toNat=a from by omega] at this
     exact this
  ·exact gen _ _ h.ch
theorem RE:∀ (l:List Al) (b:Int) (v:ByteArray),(∃ m,m∈l/\m.1=2/\m.2.2.2.2.1>b/\Ec l b v=m.2.2.2.2.2/\∀ m',m'∈l->m'.1=2->m'.2.2.2.2.1<=m.2.2.2.2.1)\/(Ec l b v=v/\∀ m',m'∈l->m'.1=2->m'.2.2.2.2.1<=b)
 | [],b,v=>.inr ⟨rfl,fun m' h=>by cases h⟩
 | x::l,b,v=>by
  rw [O9]
  by_cases hx:x.1=2/\x.2.2.2.2.1>b
  ·rw [if_pos hx]
   rcases RE l x.2.2.2.2.1 x.2.2.2.2.2 with ⟨m,h1,h2,h3,h4,h5⟩ | ⟨h1,h2⟩
   ·refine .inl ⟨m,by simp [h1],h2,by omega,h4,fun m' hm' e=>?_⟩
    rcases AQ.1 hm' with rfl | hm'
    ·omega
    ·exact h5 m' hm' e
   ·refine .inl ⟨x,by simp,hx.1,hx.2,h1,fun m' hm' e=>?_⟩
    rcases AQ.1 hm' with rfl | hm'
    ·exact Int.le_refl _
    ·exact h2 m' hm' e
  ·rw [if_neg hx]
   rcases RE l b v with ⟨m,h1,h2,h3,h4,h5⟩ | ⟨h1,h2⟩
   ·refine .inl ⟨m,by simp [h1],h2,h3,h4,fun m' hm' e=>?_⟩
    rcases AQ.1 hm' with rfl | hm'
    ·have:¬ m'.2.2.2.2.1>b:=fun q=>hx ⟨e,q⟩
     omega
    ·exact h5 m' hm' e
   ·refine .inr ⟨h1,fun m' hm' e=>?_⟩
    rcases AQ.1 hm' with rfl | hm'
    ·have:¬ m'.2.2.2.2.1>b:=fun q=>hx ⟨e,q⟩
     omega
    ·exact h2 m' hm' e
theorem FY.promised {k:Nat} (h:FY n t S P A c) (hc:Hl n t k c) (ht:t<=4) {m:Al} (hm:1<=m.2.2.1/\m.2.2.1<=(t:Int)) (h2:m.1=2) (hp:Vd n P A (fun a=>c.1.getD a BH) m):∃ P',FY n t S P' A (Co m c).2:=by
 have hj:(m.2.2.1-1).toNat<t:=by omega
 rw [KS]
 have htr:=hc.tr _ hj
 have htb:=h.tb _ hj
 have htk:=h.tk _ hj
 have htn:=h.tn _ hj
 have hsv:=h.sv _ hj
 have hpr:=h.pr _ hj
 have hpn:=h.pn _ hj
 have gt:=Un hc hj
 obtain ⟨tt,htt⟩:∃ tt,c.2.1.getD (m.2.2.1-1).toNat Ao=tt:=⟨_,rfl⟩
 rw [htt] at htr htb htk htn hsv hpr hpn ⊢
 unfold Wg
 split
 ·exact ⟨P,h⟩
 rename_i hne
 have hb:m.2.2.2.1=tt.2.1:=Classical.byContradiction fun q=>hne (.inl q)
 have hask:tt.2.2.2.2.1≠true:=fun q=>hne (.inr (.inl q))
 have hany:¬ (tt.2.2.2.1.any fun x=>x.2.1==m.2.1)=true:=fun q=>hne (.inr (.inr q))
 have hb1:1<=tt.2.1:=by rw [<- hb]; exact hp.2.1.1
 have hpr':∀ x∈tt.2.2.2.1++[m],x.1=2/\x.2.2.2.1=tt.2.1/\Vd n P A (fun a=>c.1.getD a BH) x:=fun x hx=>by
  rcases Am.1 hx with hx | hx
  ·exact hpr x hx
  ·rw [CM] at hx; subst hx; exact ⟨h2,hb,hp⟩
 have hpn':((tt.2.2.2.1++[m]).map (·.2.1)).Nodup:=by
  rw [List.map_append,List.nodup_append]
  refine ⟨hpn,by simp,fun a ha b hb2=>?_⟩
  obtain ⟨x,hx,rfl⟩:=List.mem_map.1 ha
  simp only [List.map_cons,List.map_nil,CM] at hb2
  subst hb2
  intro e
  exact hany (List.any_eq_true.2 ⟨x,hx,by simpa using e⟩)
 split
 ·rename_i hq
  have hnone:∀ v,P tt.2.1≠some v:=fun v e=>by
   obtain ⟨j,p1,p2,p3,p4,p5⟩:=h.pb _ _ e
   have ej:j=(m.2.2.1-1).toNat:=by omega
   subst ej
   rw [htt] at p5
   exact hask (p5 rfl).1
  have hpk:=RE (tt.2.2.2.1++[m]) 0 tt.2.2.1
  have hw:S (Ec (tt.2.2.2.1++[m]) 0 tt.2.2.1):=by
   rcases hpk with ⟨x,x1,x2,x3,x4,x5⟩ | ⟨x1,x2⟩
   ·rw [x4]; exact h.ps _ _ ((hpr' x x1).2.2.2.2.2.1 x3)
   ·rw [x1]; exact hsv (by omega)
  generalize Ec (tt.2.2.2.1++[m]) 0 tt.2.2.1=w at hpk hw
  have g0:∀ b,(fun b=>if b=tt.2.1 then some w else P b:OG) b=if b=tt.2.1 then some w else P b:=fun b=>rfl
  have up1:∀ b v,P b=some v->(if b=tt.2.1 then some w else P b)=some v:=fun b v e=>by
   rw [if_neg (fun q:b=tt.2.1=>hnone v (by rw [<- q]; exact e))]
   exact e
  have u:Up n P (fun b=>if b=tt.2.1 then some w else P b) A A (fun a=>c.1.getD a BH) (fun a=>c.1.getD a BH):=⟨up1,fun a _=>Int.le_refl _,fun a b q=>.inl q,fun a b q=>q⟩
  have hsafe:TQ n (fun b=>if b=tt.2.1 then some w else P b) A (fun a=>c.1.getD a BH) tt.2.1 w:=by
   intro b' l1 l2
   have fromQ:(∀ x,x∈tt.2.2.2.1++[m]->A (x.2.1-1).toNat b'->P b'=some w)->∃ q:Nat->Bool,EN n<=(cnt q n:Int)/\∀ a,a<n->q a=true->b'<(c.1.getD a BH).1/\(A a b'->(if b'=tt.2.1 then some w else P b')=some w):=fun hh=>by
    refine ⟨fun a=>((tt.2.2.2.1++[m]).map (·.2.1)).contains ((a:Int)+1),?_,fun a ha hqa=>?_⟩
    ·rw [TP _ hpn' (fun y hy=>by obtain ⟨x,hx,rfl⟩:=List.mem_map.1 hy; exact (hpr' x hx).2.2.1),List.length_map,hq,hc.vl]
     exact Int.le_refl _
    ·obtain ⟨x,hx,ex⟩:=List.mem_map.1 (List.contains_iff_mem.1 hqa)
     have hxp:=hpr' x hx
     have ea:(x.2.1-1).toNat=a:=by omega
     have h1:=hxp.2.2.2.1.2
     rw [hxp.2.1,ea] at h1
     refine ⟨Int.lt_of_lt_of_le l2 h1,fun hA=>?_⟩
     rw [if_neg (by omega)]
     exact hh x hx (by rw [ea]; exact hA)
   have le:∀ x,x∈tt.2.2.2.1++[m]->A (x.2.1-1).toNat b'->b'<=x.2.2.2.2.1:=fun x hx hA=>by
    by_cases hl:b'<=x.2.2.2.2.1
    ·exact hl
    ·have hxp:=hpr' x hx
     exact absurd hA (hxp.2.2.2.2.2.2 b' (by omega) (by rw [hxp.2.1]; exact l2))
   rcases hpk with ⟨x,x1,x2,x3,x4,x5⟩ | ⟨x1,x2⟩
   ·have hxP:=(hpr' x x1).2.2.2.2.2.1 x3
    rw [<- x4] at hxP
    by_cases hlt:b'<x.2.2.2.2.1
    ·obtain ⟨q,q1,q2⟩:=h.safe _ _ hxP b' l1 hlt
     refine ⟨q,q1,fun a ha hqa=>⟨(q2 a ha hqa).1,fun hA=>?_⟩⟩
     simp only
     rw [if_neg (by omega)]
     exact (q2 a ha hqa).2 hA
    ·refine fromQ fun y hy hA=>?_
     have l3:=le y hy hA
     have l4:=x5 y hy (hpr' y hy).1
     have:b'=x.2.2.2.2.1:=by omega
     rw [this]
     exact hxP
   ·refine fromQ fun y hy hA=>?_
    have l3:=le y hy hA
    have l4:=x2 y hy (hpr' y hy).1
    omega
  refine ⟨fun b=>if b=tt.2.1 then some w else P b,h.vok,fun a ha h0=>up1 _ _ (h.vac a ha h0),fun a b q=>?_,fun j hj'=>?_,fun b v hpb=>?_,fun b v hpb=>?_,fun j hj' h0=>?_,fun b v hpb=>?_,fun x hx e=>?_,fun x hx e=>?_,fun x hx e=>?_,fun j hj' x hx=>?_,fun j hj'=>?_,fun j hj' x hx=>?_,fun j hj'=>?_,fun v hv=>?_⟩
  ·obtain ⟨p1,p2,p3,v,p4⟩:=h.acc a b q
   exact ⟨p1,p2,p3,v,up1 _ _ p4⟩
  ·simp only [gt]
   split
   ·rename_i e1; subst e1; exact htb
   ·exact h.tb j hj'
  ·try simp only at hpb
   split at hpb
   ·rename_i e
    cases hpb
    refine ⟨_,hj,?_,by omega,?_,?_⟩
    ·rw [e]; exact htb.resolve_left (by omega)
    ·simp only [gt,if_true]; omega
    ·simp only [gt,if_true]; exact fun _=>⟨trivial,trivial⟩
   ·rename_i e
    obtain ⟨j,p1,p2,p3,p4,p5⟩:=h.pb b v hpb
    refine ⟨j,p1,p2,p3,?_,?_⟩
    ·simp only [gt]
     split
     ·rename_i e1; subst e1; rw [htt] at p4; exact p4
     ·exact p4
    ·simp only [gt]
     split
     ·intro q; exact absurd q e
     ·exact p5
  ·try simp only at hpb
   split at hpb
   ·cases hpb; exact hw
   ·exact h.ps b v hpb
  ·simp only [gt] at h0 ⊢
   split
   ·exact hw
   ·rename_i e1; rw [if_neg e1] at h0; exact h.sv j hj' h0
  ·try simp only at hpb
   split at hpb
   ·rename_i e; cases hpb; rw [e]; exact hsafe
   ·exact (h.safe b v hpb).up u
  ·rcases Am.1 hx with hx | hx
   ·exact (h.n2 x hx e).up u
   ·obtain ⟨q,_,rfl⟩:=GU hx; simp at e
  ·rcases Am.1 hx with hx | hx
   ·exact up1 _ _ (h.n3 x hx e)
   ·obtain ⟨q,_,rfl⟩:=GU hx; simp
  ·rcases Am.1 hx with hx | hx
   ·exact h.n4 x hx e
   ·obtain ⟨q,_,rfl⟩:=GU hx; simp at e
  ·simp only [gt] at hx ⊢
   split at hx
   ·rename_i e1
    rw [if_pos e1]
    obtain ⟨p1,p2,p3⟩:=hpr' x hx
    exact ⟨p1,p2,p3.up u⟩
   ·rename_i e1
    rw [if_neg e1]
    obtain ⟨p1,p2,p3⟩:=h.pr j hj' x hx
    exact ⟨p1,p2,p3.up u⟩
  ·simp only [gt]
   split
   ·exact hpn'
   ·exact h.pn j hj'
  ·simp only [gt] at hx ⊢
   split at hx
   ·rename_i e1; rw [if_pos e1]; exact htk x hx
   ·rename_i e1; rw [if_neg e1]; exact h.tk j hj' x hx
  ·simp only [gt]
   split
   ·exact htn
   ·exact h.tn j hj'
  ·obtain ⟨b,p1,p2⟩:=h.ch v hv
   exact ⟨b,up1 _ _ p1,p2⟩
 ·refine ⟨P,h.vok,h.vac,h.acc,fun j hj'=>?_,fun b v hpb=>?_,h.ps,fun j hj' h0=>?_,h.safe,h.n2,h.n3,h.n4,fun j hj' x hx=>?_,fun j hj'=>?_,fun j hj' x hx=>?_,fun j hj'=>?_,h.ch⟩
  ·simp only [gt]
   split
   ·rename_i e1; subst e1; exact htb
   ·exact h.tb j hj'
  ·obtain ⟨j,p1,p2,p3,p4,p5⟩:=h.pb b v hpb
   refine ⟨j,p1,p2,p3,?_,?_⟩
   ·simp only [gt]
    split
    ·rename_i e1; subst e1; rw [htt] at p4; exact p4
    ·exact p4
   ·simp only [gt]
    split
    ·rename_i e1; subst e1; rw [htt] at p5; exact p5
    ·exact p5
  ·simp only [gt] at h0 ⊢
   split
   ·rename_i e1; rw [if_pos e1] at h0; exact hsv h0
   ·rename_i e1; rw [if_neg e1] at h0; exact h.sv j hj' h0
  ·simp only [gt] at hx ⊢
   split at hx
   ·rename_i e1; rw [if_pos e1]; exact hpr' x hx
   ·rename_i e1; rw [if_neg e1]; exact h.pr j hj' x hx
  ·simp only [gt]
   split
   ·exact hpn'
   ·exact h.pn j hj'
  ·simp only [gt] at hx ⊢
   split at hx
   ·rename_i e1; rw [if_pos e1]; exact htk x hx
   ·rename_i e1; rw [if_neg e1]; exact h.tk j hj' x hx
  ·simp only [gt]
   split
   ·exact htn
   ·exact h.tn j hj'
theorem FY.happen {k:Nat} (h:FY n t S P A c) (hc:Hl n t k c) (ht:t<=4) (kp:Bool) {e:EM} (he:FH t e) (hs:e.1=1->S e.2.2.2):∃ P' A',FY n t S P' A' (C3 kp e c).2:=by
 unfold C3
 split
 ·rename_i h1; exact ⟨P,A,h.propose hc ht kp he.id (hs h1)⟩
 ·split
  ·exact ⟨P,A,h⟩
  ·rename_i h0
   have hp:=QL he.at_ h0
   have hm:c.2.2.1.getD (Cl e c) Ck∈c.2.2.1:=by rw [Bi hp]; exact DG hp
   split
   ·refine ⟨P,A,h.notes fun x hx=>?_⟩
    rcases Am.1 hx with hx | hx
    ·exact hx
    ·rw [CM] at hx; subst hx; exact hm
   ·have hl:FY n t S P A (OD e c):=h.notes fun x hx=>by
     rcases Am.1 hx with hx | hx
     ·exact List.mem_of_mem_take hx
     ·exact List.mem_of_mem_drop hx
    have hcl:=hc.less e
    split
    ·exact ⟨P,A,hl⟩
    ·have hn2:=h.n2 _ hm
     have hn3:=h.n3 _ hm
     have hn4:=h.n4 _ hm
     have hnt:=hc.nt _ hm
     generalize c.2.2.1.getD (Cl e c) Ck=m at hn2 hn3 hn4 hnt
     unfold GT
     split
     ·rename_i h1
      obtain ⟨A',hA⟩:=hl.hear hcl (m:=m) (by rcases hnt with ⟨_,b,_⟩ | ⟨a,_⟩<;>omega) hn3
      exact ⟨P,A',hA⟩
     ·rename_i h1
      split
      ·rename_i h2
       obtain ⟨P',hP⟩:=hl.promised hcl ht (m:=m) (by rcases hnt with ⟨a,_⟩ | ⟨_,b,_⟩<;>omega) h2 (hn2 h2)
       exact ⟨P',A,hP⟩
      ·rename_i h2
       have hk:m.1=4:=by rcases hnt with ⟨a,_⟩ | ⟨a,_⟩<;>omega
       exact ⟨P,A,hl.taken hcl ht (m:=m) (by rcases hnt with ⟨a,_⟩ | ⟨_,b,_⟩<;>omega) (by rcases hnt with ⟨a,_⟩ | ⟨_,_,b⟩<;>omega) (hn4 hk)⟩
end Go.Proofs.Ytffahmnodgnohaa.Core

namespace Go.Proofs.Ytffahmnodgnohaa.Core
open Go
variable {n t:Nat} {S:ByteArray->Prop} {P:OG} {A:Nat->Int->Prop} {c:D0}
theorem Wk (ht:t<=4) (hn5:n<=5) (kp:Bool):∀ (es:List EM) (k:Nat) (c:D0) (cs:List Int) (P:OG) (A:Nat->Int->Prop),Hl n t k c->FY n t S P A c->(∀ e∈es,FH t e/\(e.1=1->S e.2.2.2)) ->
  ∃ P' A',FY n t S P' A' (GV kp es c cs).1/\Hl n t (k+es.length) (GV kp es c cs).1
 | [],k,c,cs,P,A,hc,h,he=>⟨P,A,h,hc⟩
 | e::es,k,c,cs,P,A,hc,h,he=>by
  obtain ⟨P1,A1,h1⟩:=h.happen hc ht kp (he e (by simp)).1 (he e (by simp)).2
  obtain ⟨P2,A2,h2,h3⟩:=Wk ht hn5 kp es (k+1) _ (cs++[LN (C3 kp e c).1]) P1 A1 (hc.happen kp hn5 ht (he e (by simp)).1) h1 (fun x hx=>he x (by simp [hx]))
  refine ⟨P2,A2,h2,?_⟩
  rw [List.length_cons,show k+(es.length+1)=k+1+es.length from by omega]
  exact h3
theorem ZK (n t:Nat) (S:ByteArray->Prop):FY n t S (fun _=>none) (fun _ _=>False) (DA n t):=by
 have gv:∀ a,(DA n t).1.getD a BH=BH:=fun a=>by
  unfold DA
  simp only [List.getD]
  by_cases h:a<n
  ·rw [List.getElem?_replicate_of_lt h]; rfl
  ·rw [Cb (by simp; omega)]; rfl
 have gt:∀ j,j<t->(DA n t).2.1.getD j Ao=((j:Int)+1,0,AA,[],false,[],false):=fun j hj=>PA t j hj
 have vok0:Dt BH=true:=(Hj _).2 ⟨⟨by decide,by decide⟩,⟨by decide,by decide⟩,by decide,.inr rfl⟩
 refine ⟨fun a _=>by rw [gv]; exact vok0,fun a _ h=>by rw [gv] at h; simp [BH] at h,fun a b h=>h.elim,fun j hj=>.inl (by rw [gt j hj]),fun b v h=>(by cases h),fun b v h=>(by cases h),fun j hj h=>by rw [gt j hj] at h; simp at h,fun b v h=>(by cases h),fun m h=>by simp [DA] at h,fun m h=>by simp [DA] at h,fun m h=>by simp [DA] at h,
  fun j hj m h=>by rw [gt j hj] at h; simp at h,fun j hj=>by rw [gt j hj]; simp,fun j hj x h=>by rw [gt j hj] at h; simp at h,fun j hj=>by rw [gt j hj]; simp,fun v h=>by simp [DA] at h⟩
theorem FY.pos (h:FY n t S P A c) {b:Int} {q:Nat->Bool} (q1:EN n<=(cnt q n:Int)) (q2:∀ a,a<n->q a=true->A a b):0<b:=by
 obtain ⟨a,a1,a2,_⟩:=UD q1 q1
 exact (h.acc _ _ (q2 a a1 a2)).2.1
theorem FY.later (h:FY n t S P A c) {b b2:Int} {v w:ByteArray} (hb:P b=some v) (hb2:P b2=some w) {q:Nat->Bool} (q1:EN n<=(cnt q n:Int)) (q2:∀ a,a<n->q a=true->A a b) (hlt:b<=b2):v=w:=by
 by_cases e:b=b2
 ·subst e; rw [hb] at hb2; exact Option.some.inj hb2
 ·obtain ⟨p,p1,p2⟩:=h.safe _ _ hb2 b (h.pos q1 q2) (by omega)
  obtain ⟨a,a1,a2,a3⟩:=UD q1 p1
  have:=(p2 a a1 a3).2 (q2 a a1 a2)
  rw [hb] at this
  exact Option.some.inj this
theorem FY.one (h:FY n t S P A c) {v w:ByteArray} (hv:v∈c.2.2.2) (hw:w∈c.2.2.2):v=w:=by
 obtain ⟨b,p1,q,p2,p3⟩:=h.ch v hv
 obtain ⟨b2,r1,q',r2,r3⟩:=h.ch w hw
 by_cases e:b<=b2
 ·exact h.later p1 r1 p2 p3 e
 ·exact (h.later r1 p1 r2 r3 (by omega)).symm
theorem NB (vs:List B7) (ts:List JZ) (ns:List Al) (L:List ByteArray) (hL:L.length<=1000000):∀ (k i:Nat),i+k=L.length->Dp L (L.length:Int) (i:Int) vs ts ns L=some ((L.drop i).all fun s=>decide (s=L.getD 0 AA))
 | 0,i,hk=>IQ (by
  unfold FO
  rw [if_neg (by rw [decide_eq_false (by omega)]; simp),List.drop_eq_nil_of_le (by omega)]
  rfl)
 | k+1,i,hk=>IQ (by
  have hi:i<L.length:=by omega
  unfold FO
  rw [if_pos (decide_eq_true (by omega)),if_pos (by omega),if_pos (by omega),if_pos (by omega),if_pos (by omega),CH,Bi hi,BM (by omega),NB vs ts ns L hL k (i+1) (by omega),DF hi,List.all_cons,show (0:Int).toNat=0 from rfl,We]
  cases decide (L[i]=L.getD 0 AA) with
  | true=>rw [if_neg (by simp),Bool.true_and]
  | false=>rw [if_pos (by simp),Bool.false_and])
theorem PE (c:D0) (h:c.2.2.2.length<=1000000):E_ c=some (c.2.2.2.all fun s=>decide (s=c.2.2.2.getD 0 AA)):=Q2 (by
 unfold LA
 have:=NB c.1 c.2.1 c.2.2.1 c.2.2.2 h c.2.2.2.length 0 (by omega)
 rw [List.drop_zero] at this
 exact this)
def ZT (es:List EM) (v:ByteArray):Prop:=(v.size:Int)<=40/\∃ e∈es,e.1=1/\e.2.2.2=v
theorem ZL {es:List EM} {t:Nat} (he:∀ e∈es,FH t e):∀ e∈es,FH t e/\(e.1=1->ZT es e.2.2.2):=fun e hm=>⟨he e hm,fun h1=>by
 have:=(he e hm).val
 rw [if_pos h1] at this
 exact ⟨this.2,e,hm,h1,rfl⟩⟩
end Go.Proofs.Ytffahmnodgnohaa.Core

namespace Go.Proofs.Ytffahmnodgnohaa.Core
open Go
def E6 (a b:JZ):Prop:=a.1=b.1/\a.2.1=b.2.1/\a.2.2.1=b.2.2.1/\a.2.2.2.1=b.2.2.2.1/\a.2.2.2.2.1=b.2.2.2.2.1/\a.2.2.2.2.2.1=b.2.2.2.2.2.1
structure Hk (c d:D0):Prop where
 v:c.1=d.1
 n:c.2.2=d.2.2
 l:c.2.1.length=d.2.1.length
 t:∀ j,E6 (c.2.1.getD j Ao) (d.2.1.getD j Ao)
theorem Hk.refl (c:D0):Hk c c:=⟨rfl,rfl,rfl,fun _=>⟨rfl,rfl,rfl,rfl,rfl,rfl⟩⟩
theorem Hk.set {c d:D0} (s:Hk c d) {j:Nat} {x y:JZ} (e:E6 x y) (i:Nat):E6 ((c.2.1.set j x).getD i Ao) ((d.2.1.set j y).getD i Ao):=by
 by_cases h:j<c.2.1.length
 ·by_cases h2:j=i
  ·subst h2
   rw [OE h,OE (by rw [<- s.l]; exact h)]
   exact e
  ·rw [M7 h2,M7 h2]
   exact s.t i
 ·rw [List.set_eq_of_length_le (by omega),List.set_eq_of_length_le (by have:=s.l; omega)]
  exact s.t i
theorem Hk.propose {c d:D0} (s:Hk c d) (kp kq:Bool) (e:EM):(Dy kp e c).1=(Dy kq e d).1/\Hk (Dy kp e c).2 (Dy kq e d).2:=by
 rw [Lr,Lr]
 have ht:=s.t (e.2.1-1).toNat
 generalize c.2.1.getD (e.2.1-1).toNat Ao=x at ht
 generalize d.2.1.getD (e.2.1-1).toNat Ao=y at ht
 obtain ⟨h1,h2,h3,h4,h5,h6⟩:=ht
 have hn:IX x=IX y:=by unfold IX; rw [h1,h2]
 unfold Wf
 rw [hn]
 split
 ·exact ⟨rfl,s⟩
 ·refine ⟨rfl,s.v,?_,by simp [s.l],s.set ⟨h1,rfl,rfl,rfl,rfl,rfl⟩⟩
  simp only [h1,s.v,s.n]
theorem Hk.hear {c d:D0} (s:Hk c d) (m:Al):(MA m c).1=(MA m d).1/\Hk (MA m c).2 (MA m d).2:=by
 unfold MA
 rw [s.v,s.n]
 exact ⟨rfl,⟨rfl,rfl,s.l,s.t⟩⟩
theorem Hk.promised {c d:D0} (s:Hk c d) (m:Al):(Co m c).1=(Co m d).1/\Hk (Co m c).2 (Co m d).2:=by
 rw [KS,KS]
 have ht:=s.t (m.2.2.1-1).toNat
 generalize c.2.1.getD (m.2.2.1-1).toNat Ao=x at ht
 generalize d.2.1.getD (m.2.2.1-1).toNat Ao=y at ht
 obtain ⟨x1,x2,x3,x4,x5,x6,x7⟩:=x
 obtain ⟨y1,y2,y3,y4,y5,y6,y7⟩:=y
 obtain ⟨h1,h2,h3,h4,h5,h6⟩:=ht
 dsimp only at h1 h2 h3 h4 h5 h6
 subst h1 h2 h3 h4 h5 h6
 unfold Wg
 dsimp only
 rw [<- s.v]
 split
 ·exact ⟨rfl,s⟩
 ·split
  ·refine ⟨rfl,rfl,?_,by simp [s.l],s.set ⟨rfl,rfl,rfl,rfl,rfl,rfl⟩⟩
   simp only [s.n]
  ·exact ⟨rfl,rfl,s.n,by simp [s.l],s.set ⟨rfl,rfl,rfl,rfl,rfl,rfl⟩⟩
theorem Hk.taken {c d:D0} (s:Hk c d) (m:Al):(Gl m c).1=(Gl m d).1/\Hk (Gl m c).2 (Gl m d).2:=by
 rw [QO,QO]
 have ht:=s.t (m.2.2.1-1).toNat
 generalize c.2.1.getD (m.2.2.1-1).toNat Ao=x at ht
 generalize d.2.1.getD (m.2.2.1-1).toNat Ao=y at ht
 obtain ⟨x1,x2,x3,x4,x5,x6,x7⟩:=x
 obtain ⟨y1,y2,y3,y4,y5,y6,y7⟩:=y
 obtain ⟨h1,h2,h3,h4,h5,h6⟩:=ht
 dsimp only at h1 h2 h3 h4 h5 h6
 subst h1 h2 h3 h4 h5 h6
 unfold ZI
 dsimp only
 rw [<- s.v]
 split
 ·exact ⟨rfl,s⟩
 ·split
  ·refine ⟨rfl,rfl,?_,by simp [s.l],s.set ⟨rfl,rfl,rfl,rfl,rfl,rfl⟩⟩
   simp only [s.n]
  ·exact ⟨rfl,rfl,s.n,by simp [s.l],s.set ⟨rfl,rfl,rfl,rfl,rfl,rfl⟩⟩
theorem Hk.carry {c d:D0} (s:Hk c d) (m:Al):(GT m c).1=(GT m d).1/\Hk (GT m c).2 (GT m d).2:=by
 unfold GT
 split
 ·exact s.hear m
 ·split
  ·exact s.promised m
  ·exact s.taken m
theorem Hk.happen {c d:D0} (s:Hk c d) (kp kq:Bool) (e:EM):(C3 kp e c).1=(C3 kq e d).1/\Hk (C3 kp e c).2 (C3 kq e d).2:=by
 have hp:Cl e c=Cl e d:=by unfold Cl; rw [s.n]
 have hl:Hk (OD e c) (OD e d):=⟨s.v,by unfold OD; simp only [hp,s.n],s.l,s.t⟩
 unfold C3
 rw [hp,s.n]
 split
 ·exact s.propose kp kq e
 ·split
  ·exact ⟨rfl,s⟩
  ·split
   ·exact ⟨rfl,s.v,rfl,s.l,s.t⟩
   ·split
    ·exact ⟨rfl,hl⟩
    ·exact hl.carry _
theorem Ve (kp kq:Bool):∀ (es:List EM) {c d:D0} (cs:List Int),Hk c d->(GV kp es c cs).2=(GV kq es d cs).2/\Hk (GV kp es c cs).1 (GV kq es d cs).1
 | [],c,d,cs,s=>⟨rfl,s⟩
 | e::es,c,d,cs,s=>by
  obtain ⟨h1,h2⟩:=s.happen kp kq e
  rw [GV,GV,h1]
  exact Ve kp kq es _ h2
theorem RF {n t k:Nat} {c:D0} (h:Hl n t k c) (hn:n<=5) (ht:t<=4) (hk:k<=1000):JB c=some c:=TI (by
 have hvl:=h.vl
 have hcl:=h.cl
 have hnl:=h.nl
 have hch:=h.ch
 unfold Mu
 rw [if_pos (by simp only [List.length_nil]; omega),if_pos (by simp only [List.length_nil]; omega),if_pos (by simp only [List.length_nil]; omega)]
 simp only [List.nil_append]
 have key:=R7 (n:=c.2.1.length) (P:=fun i=>DV (i:Int) c.1 c.2.1 c.2.2.1 c.2.2.2 [] [] [] [] c.1 c.2.2.1 c.2.2.2 (c.2.1.take i) c.1 c.2.2.1 c.2.2.2=some c) (KK (by
  unfold GR
  rw [if_neg (by simp),List.take_length])) (fun i hi ih=>KK (by
  have htr:=h.tr i (by omega)
  rw [Bi hi] at htr
  have hz:c.2.1.getD i ((0:Int),(0:Int),AA,([]:List Al),false,([]:List Int),false)=c.2.1[i]:=Bi hi
  have hpl:=htr.pl
  have htl:=htr.tl
  unfold GR
  rw [if_pos (decide_eq_true (by omega)),if_pos (by omega),if_pos (by omega),CH,hz]
  simp only [List.nil_append]
  rw [if_pos (by simp only [List.length_nil]; omega),if_pos (by simp only [List.length_nil]; omega),if_pos (by simp only [List.length_take,List.length_cons,List.length_nil]; omega),BM (by omega)]
  change DV _ c.1 c.2.1 c.2.2.1 c.2.2.2 [] [] [] [] c.1 c.2.2.1 c.2.2.2 (c.2.1.take i++[c.2.1[i]]) c.1 c.2.2.1 c.2.2.2=_
  rw [List.take_append_getElem]
  exact ih)) 0 (by omega)
 exact key)
theorem SC {t:Nat} {e:EM} (h:FH t e):Ll (t:Int) e=some true:=Ul (by
 unfold QC
 rw [Ce,Z,if_pos (by rw [<- Bool.decide_and,decide_eq_true h.kind]; rfl),Ce,Z,if_pos (by rw [<- Bool.decide_and,decide_eq_true h.id]; rfl),if_neg (by have:=h.at_; simpa using this)]
 refine R1 ?_
 unfold L5
 have hv:=h.val
 by_cases h1:e.1=1
 ·rw [if_pos h1] at hv
  rw [if_pos (by simpa using h1),Ce,Z,<- Bool.decide_and,decide_eq_true hv]
 ·rw [if_neg h1] at hv
  rw [if_neg (by simpa using h1),hv]
  simp)
theorem Ra {n t:Nat} (hn:n<=5) (ht:t<=4) {es:List EM} (hl:es.length<=1000) (he:∀ e∈es,FH t e) (y:D0) :
  ∀ (k i:Nat) (c:D0) (cs:List Int),i+k=es.length->Hl n t i c->cs.length=i ->
   DS es (i:Int) y c cs=some ((GV false (es.drop i) c cs).1,(GV false (es.drop i) c cs).2,true)
 | 0,i,c,cs,hk,hc,hcs=>HX (by
  unfold Er
  rw [if_neg (by rw [decide_eq_false (by omega)]; simp),RF hc hn ht (by omega),Z,List.drop_eq_nil_of_le (by omega)]
  rfl)
 | k+1,i,c,cs,hk,hc,hcs=>HX (by
  have hi:i<es.length:=by omega
  have hei:=he _ (DG hi)
  have hz:es.getD i ((0:Int),(0:Int),(0:Int),AA)=es[i]:=Bi hi
  unfold Er
  rw [if_pos (decide_eq_true (by omega)),if_pos (by omega),if_pos (by omega),CH,hz,MB hc hn ht (by omega) hei,Z,if_pos (by simp only [List.length_cons,List.length_nil]; omega),BM (by omega),DF hi]
  exact Ra hn ht hl he y k (i+1) _ _ (by omega) (hc.happen false hn ht hei) (by simp [hcs]))
theorem Nz {n t:Nat} (hn:1<=n/\n<=5) (ht:1<=t/\t<=4) {es:List EM} (hl:es.length<=80) (he:∀ e∈es,FH t e) :
  GH (n:Int) (t:Int) es=some ((GV false es (DA n t) []).1,(GV false es (DA n t) []).2,true):=P6 (by
 unfold KD
 rw [IY hn ht,Z]
 have J2:∀ y,DU es true y (DA n t)=some ((GV false es (DA n t) []).1,(GV false es (DA n t) []).2,true):=fun y=>Mq (by
  unfold HW
  rw [if_neg (by simp)]
  have:=Ra hn.2 ht.2 (es:=es) (by omega) he y es.length 0 (DA n t) [] (by omega) (SM n t) rfl
  rw [List.drop_zero] at this
  exact this)
 refine R7 (n:=es.length) (P:=fun i=>∀ y,CY (t:Int) es true (i:Int) y (DA n t)=some ((GV false es (DA n t) []).1,(GV false es (DA n t) []).2,true)) (fun y=>HY (by
  unfold Es
  rw [if_neg (by simp)]
  exact J2 y)) (fun i hi ih y=>HY (by
  have hei:=he _ (DG hi)
  have hz:es.getD i ((0:Int),(0:Int),(0:Int),AA)=es[i]:=Bi hi
  unfold Es
  rw [if_pos (decide_eq_true (by omega)),if_pos rfl]
  refine Mp ?_
  unfold HV
  rw [if_pos (decide_eq_true (by omega)),if_pos (by omega),if_pos (by omega),CH,hz,SC hei,Z,BM (by omega)]
  exact ih y)) 0 (by omega) _)
theorem V_ (x:List Int) (h:x.length<=maxLen):Ho x x=some true:=Rv (by
 have hm:x.length<=9223372036854775807:=h
 unfold Lz
 rw [if_neg (by simp)]
 exact R7 (n:=x.length) (P:=fun i=>EC x x (i:Int)=some true) (JH (by
  unfold Fh
  rw [if_neg (by simp)])) (fun i hi ih=>JH (by
  unfold Fh
  rw [if_pos (decide_eq_true (by omega)),if_pos (by omega),if_pos (by omega),if_pos (by omega),if_pos (by omega),if_neg (by simp),BM (by omega)]
  exact ih)) 0 (by omega))
theorem PF (c:D0) (hl:c.2.2.2.length<=1000000) (h:∀ v∈c.2.2.2,∀ w∈c.2.2.2,v=w):Ge c=some true:=Q3 (by
 unfold LB
 by_cases h0:c.2.2.2.length=0
 ·refine FP ?_
  unfold Dr
  rw [if_neg (by simp [h0])]
 ·refine R7 (n:=c.2.2.2.length) (P:=fun i=>Dq (i:Int) c=some true) (FP (by
   unfold Dr
   rw [if_neg (by simp)])) (fun i hi ih=>FP (by
   have h00:0<c.2.2.2.length:=by omega
   have e:c.2.2.2.getD i AA=c.2.2.2.getD (0:Int).toNat AA:=by
    rw [show (0:Int).toNat=0 from rfl,Bi hi,Bi h00]
    exact h _ (DG hi) _ (DG h00)
   unfold Dr
   rw [if_pos (decide_eq_true (by omega)),if_pos (by omega),if_pos (by omega),if_pos (by omega),if_pos (by omega),CH,e,if_neg (by simp),BM (by omega)]
   exact ih)) 1 (by omega))
theorem Ls {es:List EM} (hl:es.length<=1000) (n:Int) (codes:List Int) (c w:D0) {i:Nat} (hi:i<c.2.2.2.length) (hcl:c.2.2.2.length<=1000) {r:Bool}
  (hr:Ch n es ((i+1:Nat):Int) codes c.1 c.2.1 c.2.2.1 c.2.2.2 w=some r):∀ (q k:Nat) (was:Bool),k+q=es.length->(was=true\/∃ e∈es.drop k,e.1=1/\e.2.2.2=c.2.2.2[i]) ->
   By n es (i:Int) was (k:Int) codes c.1 c.2.1 c.2.2.1 c.2.2.2 w=some r
 | 0,k,was,hk,h=>IL (by
  have hw:was=true:=h.resolve_right (by rw [List.drop_eq_nil_of_le (by omega)]; rintro ⟨e,he,_⟩; cases he)
  unfold FJ
  rw [if_neg (by rw [decide_eq_false (by omega)]; simp),if_neg (by rw [hw]; simp),BM (by omega)]
  exact hr)
 | q+1,k,was,hk,h=>IL (by
  have hkl:k<es.length:=by omega
  have hz:es.getD k ((0:Int),(0:Int),(0:Int),AA)=es[k]:=Bi hkl
  unfold FJ
  rw [if_pos (decide_eq_true (by omega)),BM (by omega)]
  cases was with
  | true =>
   rw [if_pos rfl]
   exact Ls hl n codes c w hi hcl hr q (k+1) true (by omega) (.inl rfl)
  | false =>
   obtain ⟨e,he,e1,e2⟩:=h.resolve_left (by simp)
   rw [DF hkl] at he
   rw [if_neg (by simp),if_pos (by omega),if_pos (by omega),CH,hz]
   by_cases h1:es[k].1=1
   ·rw [if_pos (by simpa using h1),if_pos (by omega),if_pos (by omega),if_pos (by omega),if_pos (by omega),CH,Bi hi,We]
    refine Ls hl n codes c w hi hcl hr q (k+1) _ (by omega) ?_
    by_cases h2:es[k].2.2.2=c.2.2.2[i]
    ·exact .inl (decide_eq_true h2)
    ·rcases AQ.1 he with he | he
     ·rw [he] at e2; exact absurd e2 h2
     ·exact .inr ⟨e,he,e1,e2⟩
   ·rw [if_neg (by simpa using h1)]
    refine Ls hl n codes c w hi hcl hr q (k+1) _ (by omega) ?_
    rcases AQ.1 he with he | he
    ·rw [he] at e1; exact absurd e1 h1
    ·exact .inr ⟨e,he,e1,e2⟩)
theorem Tn (x0) (hx0:Kd.ok (.slice (.int .u8)) x0):K8 x0=some true:=Q0 (by
 unfold K9
 rw [Tm,Z]
 by_cases hb:(x0.length:Int)>1048576
 ·rw [if_pos (decide_eq_true hb)]
 rw [if_neg (by rw [decide_eq_false hb]; simp)]
 obtain ⟨n,t,es,eD,h1,h2,h3,he⟩:=MH x0 (by omega)
 have hr:=Nx (n:=n) (t:=t) h1 (by omega) (es:=es) (by omega) he
 have hs:=Nz (n:=n) (t:=t) h1 (by omega) (es:=es) (by omega) he
 obtain ⟨P,A,hp,hc⟩:=Wk (S:=ZT es) (n:=n) (t:=t) (by omega) h1.2 true es 0 (DA n t) [] _ _ (SM n t) (ZK n t _) (ZL he)
 obtain ⟨s1,s2⟩:=Ve true false es [] (Hk.refl (DA n t))
 have hlen:∀ (kp:Bool) (es:List EM) (c:D0) (cs:List Int),(GV kp es c cs).2.length=cs.length+es.length:=by
  intro kp es
  induction es with
  | nil=>intro c cs; rfl
  | cons e es ih=>intro c cs; rw [GV,ih]; simp; omega
 have hcodes:=hlen true es (DA n t) []
 rw [<- s1] at hs
 rw [eD,Z,hr,Z,hs,Z]
 generalize (GV true es (DA n t) []).1=c at hp hc s2
 generalize (GV false es (DA n t) []).1=d at s2
 generalize (GV true es (DA n t) []).2=codes at hcodes
 have hcl:=hc.cl
 have hvl:=hc.vl
 have hch:=hc.ch
 have hone:∀ v∈c.2.2.2,∀ w∈c.2.2.2,v=w:=fun v hv w hw=>hp.one hv hw
 have hO:E_ c=some true:=by
  rw [PE c (by omega)]
  congr 1
  rw [Ax]
  intro v hv
  refine decide_eq_true (hone v hv _ ?_)
  have h00:0<c.2.2.2.length:=List.length_pos_of_mem hv
  rw [Bi h00]
  exact DG h00
 have hd:d.2.2.2=c.2.2.2:=by rw [<- s2.n]
 dsimp only
 rw [if_pos (show (!true)=false from rfl),V_ codes (by unfold maxLen; simp at hcodes; omega),Z,if_pos (show (!true)=false from rfl),hd,TM _ (by unfold maxLen; omega),Z,if_pos (show (!true)=false from rfl),if_pos (by rw [hvl]; simp),hO,Z,if_pos (show (!true)=false from rfl),PF c (by omega) hone,Z,if_neg (by simp)]
 have L2:Cg (n:Int) ((0:Nat):Int) codes c.1 c.2.1 c.2.2.1 c.2.2.2 d=some true:=R7 (n:=n) (P:=fun i=>Cg (n:Int) (i:Int) codes c.1 c.2.1 c.2.2.1 c.2.2.2 d=some true) (IM (by
  unfold FK
  rw [if_neg (by simp)])) (fun i hi ih=>IM (by
  have hz:c.1.getD i ((0:Int),(0:Int),AA)=c.1.getD i BH:=rfl
  unfold FK
  rw [if_pos (decide_eq_true (by omega)),if_pos (by omega),if_pos (by omega),CH,hz,KR,hp.vok i hi,Z,if_neg (by simp),BM (by omega)]
  exact ih)) 0 (by omega)
 exact R7 (n:=c.2.2.2.length) (P:=fun i=>Ch (n:Int) es (i:Int) codes c.1 c.2.1 c.2.2.1 c.2.2.2 d=some true) (IN (by
  unfold FM
  rw [if_neg (by simp)]
  exact L2)) (fun i hi ih=>IN (by
  obtain ⟨b,hbP,_⟩:=hp.ch _ (DG hi)
  obtain ⟨_,e,e1,e2,e3⟩:=hp.ps _ _ hbP
  unfold FM
  rw [if_pos (decide_eq_true (by omega))]
  exact Ls (by omega) (n:Int) codes c d hi (by omega) ih es.length 0 false (by omega) (.inr ⟨e,by simpa using e1,e2,e3⟩))) 0 (by omega))

theorem YN {P:Program} {c:List Char} {rest:List (List Char)} (h:behindMainWord (wordsSigns P.initOrder.toList)=c::rest) (h1:(c == "gc".toList||c == "spec".toList)=false) (h2:(c == "cut".toList||(c == "finals".toList&&rest.head? == some "cut".toList))=true):P.make=some .cut:=by
 unfold Program.make
 rw [h]
 simp only [h1,h2]
 rfl
theorem YO {P:Program} {c:List Char} {rest:List (List Char)} (h:behindMainWord (wordsSigns P.initOrder.toList)=c::rest) (h1:((stripLifts liftWords (c::rest)).2.head? == some "cut".toList)=true) (h2:(stripLifts liftWords (c::rest)).1=[])
  (h3:P.laysLater=false) (h4:P.bearsReflect=false) (h5:P.doorFits []=true):P.mayEnter=true:=by
 unfold Program.mayEnter
 rw [h]
 simp only [h1,h2,h3,h4,h5]
 simp
theorem YP {P:Program} {c:List Char} {rest:List (List Char)} (h:behindMainWord (wordsSigns P.initOrder.toList)=c::rest) (h1:(c == "carried".toList)=false) (h2:(stripLifts liftWords (c::rest)).1=[]):P.liftsFinal=false:=by
 have e:(some c==some "carried".toList)=false:=h1
 unfold Program.liftsFinal Program.headLifts
 rw [h]
 simp only [List.head?_cons,e,h2]
 simp
theorem Fo {a b:Bool} (h:a=true) (g:b=true):(a&&b)=true:=by rw [h,g]; rfl
theorem YQ {α:Type} [BEq α] [LawfulBEq α] {a b:α} (h:a=b):(a==b)=true:=by rw [h]; exact beq_self_eq_true b
end Go.Proofs.Ytffahmnodgnohaa.Core

namespace Go.Proofs.Ytffahmnodgnohaa.Core
open Go
set_option maxRecDepth 100000
def ak:List Nat:=[104,97,114,110,101,115,115,32,57,52,51,54,48,100,51,54,48,102,97,48,51,101,55,56,99,49,99,55,102,52,101,50,52,51,100,50,100,97,57,53,55,57,52,98,57,49,49,99,102,51,55,51,101,101,49,49,101,100,97,49,52,100,97,99,49,98,51,56,98,51,55,99,32,99,117,116,32,97,116,32,108,111,111,112,46,101,120,97,109,112,108,101,47,103,48,48,49,56,48,47,108,97,119,115,46,70,110,69,120,97,99,116,77,115,103,84,101,120,116,32,108,111,111,112,46,101,120,97,109,112,108,101,47,103,48,48,49,56,48,47,108,97,119,115,46,70,110,69,120,97,99,116,82,101,97,100,77,115,103,32,108,111,111,112,46,101,120,97,109,112,108,101,47,103,48,48,49,56,48,47,108,97,119,115,46,70,110,77,115,103,115,32,108,111,111,112,46,101,120,97,109,112,108,101,47,103,48,48,49,56,48,47,108,97,119,115,46,70,110,69,120,97,99,116,77,101,109,98,101,114,78,101,119,32,108,111,111,112,46,101,120,97,109,112,108,101,47,103,48,48,49,56,48,47,108,97,119,115,46,70,110,69,120,97,99,116,67,111,117,110,99,105,108,78,101,119,32,108,111,111,112,46,101,120,97,109,112,108,101,47,103,48,48,49,56,48,47,108,97,119,115,46,70,110,69,120,97,99,116,71,114,111,117,112,78,101,119,32,108,111,111,112,46,101,120,97,109,112,108,101,47,103,48,48,49,56,48,47,108,97,119,115,46,70,110,65,108,111,110,101,49,50,32,108,111,111,112,46,101,120,97,109,112,108,101,47,103,48,48,49,56,48,47,108,97,119,115,46,70,110,67,104,111,115,101,110,32,108,111,111,112,46,101,120,97,109,112,108,101,47,103,48,48,49,56,48,47,108,97,119,115,46,70,110,68,101,99,105,100,101,115]
def ay:List Nat:=[99,117,116]
def az:List (List Nat):=[[97,116],[108,111,111,112,46,101,120,97,109,112,108,101,47,103,48,48,49,56,48,47,108,97,119,115,46,70,110,69,120,97,99,116,77,115,103,84,101,120,116],[108,111,111,112,46,101,120,97,109,112,108,101,47,103,48,48,49,56,48,47,108,97,119,115,46,70,110,69,120,97,99,116,82,101,97,100,77,115,103],[108,111,111,112,46,101,120,97,109,112,108,101,47,103,48,48,49,56,48,47,108,97,119,115,46,70,110,77,115,103,115],[108,111,111,112,46,101,120,97,109,112,108,101,47,103,48,48,49,56,48,47,108,97,119,115,46,70,110,69,120,97,99,116,77,101,109,98,101,114,78,101,119],[108,111,111,112,46,101,120,97,109,112,108,101,47,103,48,48,49,56,48,47,108,97,119,115,46,70,110,69,120,97,99,116,67,111,117,110,99,105,108,78,101,119],[108,111,111,112,46,101,120,97,109,112,108,101,47,103,48,48,49,56,48,47,108,97,119,115,46,70,110,69,120,97,99,116,71,114,111,117,112,78,101,119],[108,111,111,112,46,101,120,97,109,112,108,101,47,103,48,48,49,56,48,47,108,97,119,115,46,70,110,65,108,111,110,101,49,50],[108,111,111,112,46,101,120,97,109,112,108,101,47,103,48,48,49,56,48,47,108,97,119,115,46,70,110,67,104,111,115,101,110],[108,111,111,112,46,101,120,97,109,112,108,101,47,103,48,48,49,56,48,47,108,97,119,115,46,70,110,68,101,99,105,100,101,115]]
theorem io:Try.prog.initOrder.toList=ak.map Char.ofNat:=(congrArg String.toList (show Try.prog.initOrder=String.ofList (ak.map Char.ofNat) from by kernel_rfl)).trans String.toList_ofList
theorem af:behindMainWord (wordsSigns Try.prog.initOrder.toList)=ay.map Char.ofNat::az.map fun w=>w.map Char.ofNat:=by
 rw [io]
 kernel_rfl
theorem ag:Try.prog.make=some .cut:=YN af (by kernel_rfl) (by kernel_rfl)
theorem Zz:Try.prog.mayEnter=true:=YO af (by kernel_rfl) (by kernel_rfl) (by kernel_rfl) (by kernel_rfl) (by kernel_rfl)
theorem ZM:Try.prog.liftsFinal=false:=YP af (by kernel_rfl) (by kernel_rfl)
theorem Vf:laidOutB Try.prog=true:=by kernel_rfl
theorem WA:mapsRowed Try.prog=true:=by kernel_rfl
theorem Z0:Try.prog.stopsHeard=true:=by kernel_rfl
end Go.Proofs.Ytffahmnodgnohaa.Core
