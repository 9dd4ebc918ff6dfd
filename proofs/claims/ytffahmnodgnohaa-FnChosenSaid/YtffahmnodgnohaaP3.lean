/- Texts of the proof, packed: part 4. -/
import Derived.Test.YtffahmnodgnohaaP2
import Derived.IntWalk
import Derived.JoinedOf
import Derived.Test.YtffahmnodgnohaaRows
import Derived.ProofKit
set_option linter.unusedVariables false
set_option linter.unusedSimpArgs false
namespace Go.Proofs.Ytffahmnodgnohaa.Core
open Go IntKind
set_option maxRecDepth 100000
noncomputable section
def Cj (x0:Nat) (x1 x2 x3 x4 x5:Int) (x6:ByteArray) (x7:Bool) (x8:List AF) (x9:List AE) (x10:List U) (x11:List ByteArray):Option (Bool×J):=cG Ek (Ag Bc) (Ag Bc) kx ⟨[(0,.ptr 0 0),(1,.eptr 2 x0 0),(5,.fptr [.int .i64 x1,.int .i64 x2,.int .i64 x3,.int .i64 x4,.int .i64 x5,.str x6] 0),(29,.bool x7)],[.var [.row 1,.row 2,.row 3,.row 4],.rows 94 AI x8,.rows 89 Af x9,.rows 183 AC x10,.rows 9 .str x11,.dead]⟩
def ES (x0:Nat) (x1 x2 x3 x4 x5:Int) (x6:ByteArray) (x7:Bool) (x8:List AF) (x9:List AE) (x10:List U) (x11:List ByteArray):Option (Bool×J):=(if (((((x9.getD x0 (0,0,AA,([]:List U),false,([]:List Int),false)).2).2).2).1).length+([(x1,x2,x3,x4,x5,x6)]:List U).length<=68719476736 then (if x0=x0 then (let z2:List AE:=x9.set x0 ((x9.getD x0 (0,0,AA,([]:List U),false,([]:List Int),false)).1,((x9.getD x0 (0,0,AA,([]:List U),false,([]:List Int),false)).2).1,(((x9.getD x0 (0,0,AA,([]:List U),false,([]:List Int),false)).2).2).1,((((((x9.getD x0 (0,0,AA,([]:List U),false,([]:List Int),false)).2).2).2).1)++([(x1,x2,x3,x4,x5,x6)]:List U)),((((x9.getD x0 (0,0,AA,([]:List U),false,([]:List Int),false)).2).2).2).2); ((Ez (x8.length:Int)).bind fun y3=>(if (((((((z2.getD x0 (0,0,AA,([]:List U),false,([]:List Int),false)).2).2).2).1).length:Int)==y3)=true then (let z4:List AE:=z2.set x0 ((z2.getD x0 (0,0,AA,([]:List U),false,([]:List Int),false)).1,((z2.getD x0 (0,0,AA,([]:List U),false,([]:List Int),false)).2).1,(((z2.getD x0 (0,0,AA,([]:List U),false,([]:List Int),false)).2).2).1,((((z2.getD x0 (0,0,AA,([]:List U),false,([]:List Int),false)).2).2).2).1,true,(((((z2.getD x0 (0,0,AA,([]:List U),false,([]:List Int),false)).2).2).2).2).2); ((GA (((((z4.getD x0 (0,0,AA,([]:List U),false,([]:List Int),false)).2).2).2).1) ((((z4.getD x0 (0,0,AA,([]:List U),false,([]:List Int),false)).2).2).1)).bind fun y5=>(let z6:List AE:=z4.set x0 ((z4.getD x0 (0,0,AA,([]:List U),false,([]:List Int),false)).1,((z4.getD x0 (0,0,AA,([]:List U),false,([]:List Int),false)).2).1,y5,(((z4.getD x0 (0,0,AA,([]:List U),false,([]:List Int),false)).2).2).2); ((Dp x0 3 ((((z6.getD x0 (0,0,AA,([]:List U),false,([]:List Int),false)).2).2).1) (x8,z6,x10,x11)).bind fun y7=>(some (true,y7)))))) else (some (true,(x8,z2,x10,x11)))))) else none) else none)
def FT (x1:Nat) (x2:U) (b0:J):Option (Bool×J):=((BW (((((b0.2.1.getD x1 (0,0,AA,([]:List U),false,([]:List Int),false)).2).2).2).1) x2).bind fun y1=>(if (x2.2.2.2.1 != (((b0.2.1.getD x1 (0,0,AA,([]:List U),false,([]:List Int),false)).2).1))=true then (some (false,b0)) else (if ((((((b0.2.1.getD x1 (0,0,AA,([]:List U),false,([]:List Int),false)).2).2).2).2).1)=true then (some (false,b0)) else (if y1=true then (some (false,b0)) else (Cj x1 x2.1 x2.2.1 x2.2.2.1 x2.2.2.2.1 x2.2.2.2.2.1 x2.2.2.2.2.2 y1 b0.1 b0.2.1 b0.2.2.1 b0.2.2.2)))))
theorem IN:YJ ES Cj:=jS (by kernel_rfl)
theorem J4:XS FT CQ:=cT Bc rfl ⟨rfl,rfl⟩ (by kernel_rfl)
def Da (x0:Nat) (x1:Bool) (x2:List AF) (x3:List AE) (x4:List U) (x5:List ByteArray) (x6:U):Option (Bool×J):=cG Fj (Ag Bo) (Ag Bo) kx ⟨[(0,.ptr 0 0),(1,.eptr 2 x0 0),(5,.ptr 5 0),(22,.bool x1)],[.var [.row 1,.row 2,.row 3,.row 4],.rows 94 AI x2,.rows 89 Af x3,.rows 183 AC x4,.rows 9 .str x5,.var (AC.enc x6),.dead]⟩
def FU (x0:Nat) (x1:Bool) (x2:List AF) (x3:List AE) (x4:List U) (x5:List ByteArray) (x6:U):Option (Bool×J):=(if (((((((x3.getD x0 (0,0,AA,([]:List U),false,([]:List Int),false)).2).2).2).2).2).1).length+([x6.2.1]:List Int).length<=68719476736 then (if x0=x0 then (let z2:List AE:=x3.set x0 ((x3.getD x0 (0,0,AA,([]:List U),false,([]:List Int),false)).1,((x3.getD x0 (0,0,AA,([]:List U),false,([]:List Int),false)).2).1,(((x3.getD x0 (0,0,AA,([]:List U),false,([]:List Int),false)).2).2).1,((((x3.getD x0 (0,0,AA,([]:List U),false,([]:List Int),false)).2).2).2).1,(((((x3.getD x0 (0,0,AA,([]:List U),false,([]:List Int),false)).2).2).2).2).1,((((((((x3.getD x0 (0,0,AA,([]:List U),false,([]:List Int),false)).2).2).2).2).2).1)++([x6.2.1]:List Int)),((((((x3.getD x0 (0,0,AA,([]:List U),false,([]:List Int),false)).2).2).2).2).2).2); ((Ez (x2.length:Int)).bind fun y3=>(if (((((((((z2.getD x0 (0,0,AA,([]:List U),false,([]:List Int),false)).2).2).2).2).2).1).length:Int)==y3)=true then (let z4:List AE:=z2.set x0 ((z2.getD x0 (0,0,AA,([]:List U),false,([]:List Int),false)).1,((z2.getD x0 (0,0,AA,([]:List U),false,([]:List Int),false)).2).1,(((z2.getD x0 (0,0,AA,([]:List U),false,([]:List Int),false)).2).2).1,((((z2.getD x0 (0,0,AA,([]:List U),false,([]:List Int),false)).2).2).2).1,(((((z2.getD x0 (0,0,AA,([]:List U),false,([]:List Int),false)).2).2).2).2).1,((((((z2.getD x0 (0,0,AA,([]:List U),false,([]:List Int),false)).2).2).2).2).2).1,true); (if x5.length+([(((z4.getD x0 (0,0,AA,([]:List U),false,([]:List Int),false)).2).2).1]:List ByteArray).length<=68719476736 then (some (true,(x2,z4,x4,(x5++([(((z4.getD x0 (0,0,AA,([]:List U),false,([]:List Int),false)).2).2).1]:List ByteArray))))) else none)) else (some (true,(x2,z2,x4,x5)))))) else none) else none)
def Gz (x1:Nat) (x2:U) (b0:J):Option (Bool×J):=(if (x2.2.2.2.1 != (((b0.2.1.getD x1 (0,0,AA,([]:List U),false,([]:List Int),false)).2).1))=true then (some (false,b0)) else ((Ct (((((((b0.2.1.getD x1 (0,0,AA,([]:List U),false,([]:List Int),false)).2).2).2).2).2).1) x2.2.1).bind fun y1=>(if y1=true then (some (false,b0)) else (Da x1 y1 b0.1 b0.2.1 b0.2.2.1 b0.2.2.2 x2))))
theorem J5:Xz FU Da:=jS (by kernel_rfl)
theorem Lf:XS Gz C6:=cT Bo rfl ⟨rfl,rfl⟩ (by kernel_rfl)
def Mh (x1:AE) (b0:J):Option J:=(if ([]:List AE).length+b0.2.1.length<=68719476736 then (if 0<=(i64.wrap (x1.1-1)) then (if (i64.wrap (x1.1-1))<((([]:List AE)++b0.2.1).length:Int) then (let z1:List AE:=(([]:List AE)++b0.2.1).set ((i64.wrap (x1.1-1)).toNat) x1; (some (b0.1,z1,b0.2.2))) else none) else none) else none)
theorem Rj:Mz Mh DN:=cT GO rfl ⟨rfl,rfl⟩ (by kernel_rfl)
def MM:=kJ Gh [] [0,5] 4 (Ag Ac) (Ag Ac) kx
def MN:=kE 2 [] [0,5] 4 MM kx
def Lg:St->Option (RT (Co.outs Ac)):=lG Gg [] [0,5,7] 4 (Ag Ac) MN
def MO:=cG EL (Ag Ac) (Ag Ac) kx
def MP:=kE 0 [] [0,3,5] 3 MO kx
def Lh:St->Option (RT (Co.outs Ac)):=lG HO [] [0,3,5,6] 3 (Ag Ac) MP
def DC (x0:Int) (x1:J) (x2:U) (x3:AE) (x4:List U):Option (Int×J):=Lg ⟨[(0,.ptr 0 0),(5,.ptr 2 0),(7,.int .i64 x0)],[.var (AU.enc x1),.var (AC.enc x2),.var (Dv.enc x3),.frz AC x4]⟩
def DD (x0:J) (x1:U) (x2:AE):Option (Int×J):=cG EL (Ag Ac) (Ag Ac) kx ⟨[(0,.ptr 0 0),(3,.ptr 1 0),(5,.ptr 2 0)],[.var (AU.enc x0),.var (AC.enc x1),.var (Dv.enc x2)]⟩
def DE (x0:Int) (x1:J) (x2:U) (x3:AE):Option (Int×J):=Lh ⟨[(0,.ptr 0 0),(3,.ptr 1 0),(5,.ptr 2 0),(6,.int .i64 x0)],[.var (AU.enc x1),.var (AC.enc x2),.var (Dv.enc x3)]⟩
def G0 (x0:Bool) (x1:J) (x2:U) (x3:AE):Option (Int×J):=cG Gi (Ag Ac) (Ag Ac) kx ⟨[(0,.ptr 0 0),(3,.ptr 1 0),(5,.ptr 2 0),(25,.bool x0)],[.var (AU.enc x1),.var (AC.enc x2),.var (Dv.enc x3)]⟩
def ET (x0:Int) (x1:J) (x2:U) (x3:AE) (x4:List U):Option (Int×J):=(if (decide (x0<=(x1.1.length:Int)))=true then ((D3 (3,x3.1,x0,x3.2.1,0,x3.2.2.1) x1).bind fun y3=>(DC (i64.wrap (x0+1)) y3 x2 x3 x4)) else ((DN x3 x1).bind fun y4=>(some (0,y4))))
def G1 (x0:J) (x1:U) (x2:AE):Option (Int×J):=(if ([]:List U).length+x2.2.2.2.1.length<=68719476736 then (if (([]:List U)++x2.2.2.2.1).length+([x1]:List U).length<=68719476736 then ((GQ (x0.1.length:Int)).bind fun y1=>(if ((((([]:List U)++x2.2.2.2.1)++([x1]:List U)).length:Int)==y1)=true then ((GB ((([]:List U)++x2.2.2.2.1)++([x1]:List U)) x2.2.2.1).bind fun y2=>(DC 1 x0 x1 (x2.1,x2.2.1,y2,((([]:List U)++x2.2.2.2.1)++([x1]:List U)),true,x2.2.2.2.2.2) ((([]:List U)++x2.2.2.2.1)++([x1]:List U)))) else ((DN (x2.1,x2.2.1,x2.2.2.1,((([]:List U)++x2.2.2.2.1)++([x1]:List U)),x2.2.2.2.2) x0).bind fun y5=>(some (0,y5))))) else none) else none)
def EU (x0:Int) (x1:J) (x2:U) (x3:AE):Option (Int×J):=(if (decide (x0<(x3.2.2.2.1.length:Int)))=true then (if 0<=x0 then (if x0<(x3.2.2.2.1.length:Int) then (if ((((x3.2.2.2.1.getD x0.toNat (0,0,0,0,0,AA)).2).1)==x2.2.1)=true then (some (1,x1)) else (DE (i64.wrap (x0+1)) x1 x2 x3)) else none) else none) else (DD x1 x2 x3))
def G2 (x0:Bool) (x1:J) (x2:U) (x3:AE):Option (Int×J):=(DE 0 x1 x2 x3)
def JG (x1:U) (b0:J):Option (Int×J):=(if 0<=(i64.wrap (x1.2.2.1-1)) then (if (i64.wrap (x1.2.2.1-1))<(b0.2.1.length:Int) then (if ((((b0.2.1.getD (i64.wrap (x1.2.2.1-1)).toNat (0,0,AA,([]:List U),false,([]:List Int),false)).2).1) != x1.2.2.2.1)=false then (if ((((((b0.2.1.getD (i64.wrap (x1.2.2.1-1)).toNat (0,0,AA,([]:List U),false,([]:List Int),false)).2).2).2).2).1)=true then (some (1,b0)) else (G0 ((((((b0.2.1.getD (i64.wrap (x1.2.2.1-1)).toNat (0,0,AA,([]:List U),false,([]:List Int),false)).2).2).2).2).1) b0 x1 (b0.2.1.getD (i64.wrap (x1.2.2.1-1)).toNat (0,0,AA,([]:List U),false,([]:List Int),false)))) else (some (1,b0))) else none) else none)
theorem G3:XD ET DC:=lS (by kernel_rfl)
theorem Li:XS G1 DD:=jS (by kernel_rfl)
theorem G4:XC EU DE:=lS (by kernel_rfl)
theorem Lj:XC G2 G0:=jS (by kernel_rfl)
theorem OT:Mz JG Fs:=cT Ac rfl ⟨rfl,rfl⟩ (by kernel_rfl)
def FD (x0:Bool) (x1:J) (x2:U) (x3:AE):Option (Int×J):=cG Ix (Ag Cz) (Ag Cz) kx ⟨[(0,.ptr 0 0),(3,.ptr 1 0),(5,.ptr 2 0),(26,.bool x0)],[.var (AU.enc x1),.var (AC.enc x2),.var (Dv.enc x3)]⟩
def IP (x0:Bool) (x1:J) (x2:U) (x3:AE):Option (Int×J):=(if ([]:List Int).length+x3.2.2.2.2.2.1.length<=68719476736 then (if (([]:List Int)++x3.2.2.2.2.2.1).length+([x2.2.1]:List Int).length<=68719476736 then ((GQ (x1.1.length:Int)).bind fun y2=>(if ((((([]:List Int)++x3.2.2.2.2.2.1)++([x2.2.1]:List Int)).length:Int)==y2)=true then (if ([]:List ByteArray).length+x1.2.2.2.length<=68719476736 then (if (([]:List ByteArray)++x1.2.2.2).length+([x3.2.2.1]:List ByteArray).length<=68719476736 then ((DN (x3.1,x3.2.1,x3.2.2.1,x3.2.2.2.1,x3.2.2.2.2.1,((([]:List Int)++x3.2.2.2.2.2.1)++([x2.2.1]:List Int)),true) (x1.1,x1.2.1,x1.2.2.1,((([]:List ByteArray)++x1.2.2.2)++([x3.2.2.1]:List ByteArray)))).bind fun y3=>(some (0,y3))) else none) else none) else ((DN (x3.1,x3.2.1,x3.2.2.1,x3.2.2.2.1,x3.2.2.2.2.1,((([]:List Int)++x3.2.2.2.2.2.1)++([x2.2.1]:List Int)),x3.2.2.2.2.2.2) x1).bind fun y4=>(some (0,y4))))) else none) else none)
def Kq (x1:U) (b0:J):Option (Int×J):=(if 0<=(i64.wrap (x1.2.2.1-1)) then (if (i64.wrap (x1.2.2.1-1))<(b0.2.1.length:Int) then (if ((((b0.2.1.getD (i64.wrap (x1.2.2.1-1)).toNat (0,0,AA,([]:List U),false,([]:List Int),false)).2).1) != x1.2.2.2.1)=false then ((KU (((((((b0.2.1.getD (i64.wrap (x1.2.2.1-1)).toNat (0,0,AA,([]:List U),false,([]:List Int),false)).2).2).2).2).2).1) x1.2.1).bind fun y1=>(if y1=true then (some (1,b0)) else (FD y1 b0 x1 (b0.2.1.getD (i64.wrap (x1.2.2.1-1)).toNat (0,0,AA,([]:List U),false,([]:List Int),false))))) else (some (1,b0))) else none) else none)
theorem NB:XC IP FD:=jS (by kernel_rfl)
theorem P8:Mz Kq G_:=cT Cz rfl ⟨rfl,rfl⟩ (by kernel_rfl)
def OU:=cG I0 (Ag Ar) (Ag Ar) kx
def OV:=cG Fk (Ag Ar) (Ag Ar) kx
def Dq (x0:Bool) (x1:AF) (x2:U) (x3:AF) (x4:U):Option (AF×U×Bool):=cG Iz OU (Ag Ar) kx ⟨[(2,.ptr 0 0),(3,.ptr 1 0),(4,.ptr 2 0),(5,.ptr 3 0),(64,.bool x0)],[.var (AI.enc x1),.var (AC.enc x2),.var (AI.enc x3),.var (AC.enc x4)]⟩
def FE (x0:Bool) (x1:AF) (x2:U) (x3:AF) (x4:U):Option (AF×U×Bool):=cG Fk (Ag Ar) (Ag Ar) kx ⟨[(2,.ptr 0 0),(3,.ptr 1 0),(4,.ptr 2 0),(5,.ptr 3 0),(35,.bool x0)],[.var (AI.enc x1),.var (AC.enc x2),.var (AI.enc x3),.var (AC.enc x4)]⟩
def Dr (x0:Bool) (x1:AF) (x2:U) (x3:AF) (x4:U):Option (AF×U×Bool):=cG Iy OV (Ag Ar) kx ⟨[(2,.ptr 0 0),(3,.ptr 1 0),(4,.ptr 2 0),(5,.ptr 3 0),(35,.bool x0)],[.var (AI.enc x1),.var (AC.enc x2),.var (AI.enc x3),.var (AC.enc x4)]⟩
def FF (x0:Bool) (x1:AF) (x2:U) (x3:AF) (x4:U):Option (AF×U×Bool):=cG I1 (Ag Ar) (Ag Ar) kx ⟨[(2,.ptr 0 0),(3,.ptr 1 0),(4,.ptr 2 0),(5,.ptr 3 0),(23,.bool x0)],[.var (AI.enc x1),.var (AC.enc x2),.var (AI.enc x3),.var (AC.enc x4)]⟩
def IQ (x0:Bool) (x1:AF) (x2:U) (x3:AF) (x4:U):Option (AF×U×Bool):=(if x0=true then (some ((x2.2.2.2.1,x2.2.2.2.1,x2.2.2.2.2.2),(4,x2.2.2.1,x2.2.1,x2.2.2.2.1,0,x2.2.2.2.2.2),true)) else (some (x1,(0,0,0,0,0,AA),false)))
def IR (x0:Bool) (x1:AF) (x2:U) (x3:AF) (x4:U):Option (AF×U×Bool):=(if (x2.1==3)=true then (Dq (decide (x2.2.2.2.1>=x1.1)) x1 x2 x3 x4) else (Dq false x1 x2 x3 x4))
def IS (x0:Bool) (x1:AF) (x2:U) (x3:AF) (x4:U):Option (AF×U×Bool):=(if x0=true then (some ((x2.2.2.2.1,x1.2),(2,x2.2.2.1,x2.2.1,x2.2.2.2.1,x1.2),true)) else (FE x0 x1 x2 x3 x4))
def IT (x0:Bool) (x1:AF) (x2:U) (x3:AF) (x4:U):Option (AF×U×Bool):=(if (x2.1==1)=true then (Dr (decide (x2.2.2.2.1>x1.1)) x1 x2 x3 x4) else (Dr false x1 x2 x3 x4))
def Kr (x0:AF) (x1:U):Option (AF×U×Bool):=((IB x0).bind fun y1=>(if (!y1)=false then ((Dm x1.2.2.2.1 1 10000).bind fun y2=>(if (!y2)=false then (if (decide ((x1.2.2.2.2.2.size:Int)>40))=true then (some (x0,(0,0,0,0,0,AA),false)) else (FF (decide ((x1.2.2.2.2.2.size:Int)>40)) x0 x1 (0,0,AA) (0,0,0,0,0,AA))) else (some (x0,(0,0,0,0,0,AA),false)))) else (some (x0,(0,0,0,0,0,AA),false))))
theorem NC:XD IQ Dq:=jS (by kernel_rfl)
theorem ND:XD IR FE:=jS (by kernel_rfl)
theorem NE:XD IS Dr:=jS (by kernel_rfl)
theorem NF:XD IT FF:=jS (by kernel_rfl)
theorem P9:Mz Kr HA:=cT Ar rfl ⟨rfl,rfl⟩ (by kernel_rfl)
def JH:=cG I4 (Ag Be) (Ag Be) kx
def JI:=kB [] [2,4,5,7] 5 JH
def JJ:=kE 0 [] [2,4,5,7] 5 JH kx
def Ds (x0:Bool) (x1:AF) (x2:U) (x3:AF) (x4 x5:U):Option (AF×U×Bool):=cG I2 JI (Ag Be) JJ ⟨[(2,.ptr 0 0),(3,.ptr 1 0),(4,.ptr 2 0),(5,.ptr 3 0),(7,.ptr 4 0),(55,.bool x0)],[.var (AI.enc x1),.var (AC.enc x2),.var (AI.enc x3),.var (AC.enc x4),.var (AC.enc x5)]⟩
def Dt (x0:Bool) (x1:AF) (x2:U) (x3:AF) (x4 x5:U):Option (AF×U×Bool):=cG I3 JI (Ag Be) JJ ⟨[(2,.ptr 0 0),(3,.ptr 1 0),(4,.ptr 2 0),(5,.ptr 3 0),(7,.ptr 4 0),(34,.bool x0)],[.var (AI.enc x1),.var (AC.enc x2),.var (AI.enc x3),.var (AC.enc x4),.var (AC.enc x5)]⟩
def FH (x0:Bool) (x1:AF) (x2:U) (x3:AF) (x4:U):Option (AF×U×Bool):=cG I5 (Ag Be) (Ag Be) kx ⟨[(2,.ptr 0 0),(3,.ptr 1 0),(4,.ptr 2 0),(5,.ptr 3 0),(22,.bool x0)],[.var (AI.enc x1),.var (AC.enc x2),.var (AI.enc x3),.var (AC.enc x4)]⟩
def IU (x0:Bool) (x1:AF) (x2:U) (x3:AF) (x4 x5:U):Option (AF×U×Bool):=(if x0=true then (some ((x2.2.2.2.1,x2.2.2.2.1,x2.2.2.2.2.2),(4,x5.2.1,x5.2.2.1,x5.2.2.2.1,x5.2.2.2.2.1,x2.2.2.2.2.2),true)) else (some (x1,(0,0,0,0,0,AA),false)))
def IV (x0:Bool) (x1:AF) (x2:U) (x3:AF) (x4 x5:U):Option (AF×U×Bool):=(if x0=true then (some ((x2.2.2.2.1,x1.2),(2,x5.2.1,x5.2.2.1,x5.2.2.2.1,x1.2),true)) else (if (x2.1==3)=true then (Ds (decide (x2.2.2.2.1>=x1.1)) x1 x2 x3 x4 x5) else (Ds false x1 x2 x3 x4 x5)))
def IW (x0:Bool) (x1:AF) (x2:U) (x3:AF) (x4:U):Option (AF×U×Bool):=(if (x2.1==1)=true then (Dt (decide (x2.2.2.2.1>x1.1)) x1 x2 x3 x4 (0,x2.2.2.1,x2.2.1,x2.2.2.2.1,0,AA)) else (Dt false x1 x2 x3 x4 (0,x2.2.2.1,x2.2.1,x2.2.2.2.1,0,AA)))
def Kt (x0:AF) (x1:U):Option (AF×U×Bool):=((BV x1.2.2.2.1 1 10000).bind fun y1=>(if (!y1)=false then (if (decide ((x1.2.2.2.2.2.size:Int)>40))=false then ((H9 x0).bind fun y2=>(if (!y2)=true then (some (x0,(0,0,0,0,0,AA),false)) else (FH (!y2) x0 x1 (0,0,AA) (0,0,0,0,0,AA)))) else (some (x0,(0,0,0,0,0,AA),false))) else (some (x0,(0,0,0,0,0,AA),false))))
theorem NG:Yb IU Ds:=jS (by kernel_rfl)
theorem NH:Yb IV Dt:=jS (by kernel_rfl)
theorem NI:XD IW FH:=jS (by kernel_rfl)
theorem P_:Mz Kt HB:=cT Be rfl ⟨rfl,rfl⟩ (by kernel_rfl)
def Bx (x0:List U) (x1:U):Option Bool:=((Bd x0 x1).bind fun y1=>(some (decide (y1>=0))))
theorem Dy:Mz Bx BW:=cT As rfl ⟨rfl,rfl⟩ (by kernel_rfl)
def Ik (x0 x1:U):Option Bool:=(some (x0.2.1==x1.2.1))
theorem Il:Mz Ik Cu:=cT B6 rfl ⟨rfl,rfl⟩ (by kernel_rfl)
def NJ:=cG Hz (Ag Bp) (Ag Bp) kx
def NK:=kE 0 [] [6] 0 NJ kx
def MQ:St->Option (RT (Co.outs Bp)):=lG Hy [] [5,6,10,11,12] 0 (Ag Bp) NK
def Bu (x0:Int) (x1:ByteArray) (x2:List U) (x3 x4:Int):Option ByteArray:=MQ ⟨[(5,.int .i64 x0),(6,.str x1),(10,.lst AC x2),(11,.int .i64 x3),(12,.int .i64 x4)],[]⟩
def Ep (x0:Int) (x1:ByteArray) (x2:List U) (x3 x4:Int):Option ByteArray:=(if (decide (x4<x3))=true then (if 0<=x4 then (if x4<(x2.length:Int) then (if (((x2.getD x4.toNat (0,0,0,0,0,AA)).1)==2)=true then (if (decide (((((((x2.getD x4.toNat (0,0,0,0,0,AA)).2).2).2).2).1)>x0))=true then (Bu ((((((x2.getD x4.toNat (0,0,0,0,0,AA)).2).2).2).2).1) ((((((x2.getD x4.toNat (0,0,0,0,0,AA)).2).2).2).2).2) x2 x3 (i64.wrap (x4+1))) else (Bu x0 x1 x2 x3 (i64.wrap (x4+1)))) else (Bu x0 x1 x2 x3 (i64.wrap (x4+1)))) else none) else none) else (some x1))
def J6 (x0:List U) (x1:ByteArray):Option ByteArray:=(Bu 0 x1 x0 (x0.length:Int) 0)
theorem HS:XD Ep Bu:=lS (by kernel_rfl)
theorem PB:Mz J6 GA:=cT Bp rfl ⟨rfl,rfl⟩ (by kernel_rfl)
def Mi (x0:Int):Option Int:=(if (decide (x0<0))=true then (some 0) else (if 2=0 then none else (some (i64.wrap ((i64.wrap (Int.tdiv x0 2))+1)))))
theorem Rk:VO Mi GQ:=cT GP rfl ⟨rfl,rfl⟩ (by kernel_rfl)
def NL:=cG H8 (Ag BZ) (Ag BZ) kx
def FI:=kE 0 [] [6] 0 NL kx
def HT:St->Option (RT (Co.outs BZ)):=lG H7 [] [0,5,6,7] 0 (Ag BZ) FI
def NM:=kB [] [0,5,6,7] 0 HT
def IX:=cG H6 NM (Ag BZ) FI
def NN:=kB [] [0,5,6,7] 0 IX
def NO:=kE 1 [] [0,5,6,7] 0 IX FI
def DV (x0:List U) (x1:Int) (x2:ByteArray) (x3:Int) (x4:Bool):Option ByteArray:=cG H5 NN (Ag BZ) NO ⟨[(0,.lst AC x0),(5,.int .i64 x1),(6,.str x2),(7,.int .i64 x3),(29,.bool x4)],[]⟩
def CU (x0:List U) (x1:Int) (x2:ByteArray) (x3:Int):Option ByteArray:=HT ⟨[(0,.lst AC x0),(5,.int .i64 x1),(6,.str x2),(7,.int .i64 x3)],[]⟩
def HU (x0:List U) (x1:Int) (x2:ByteArray) (x3:Int) (x4:Bool):Option ByteArray:=(if x4=true then (if 0<=x3 then (if x3<(x0.length:Int) then (if 0<=x3 then (if x3<(x0.length:Int) then (CU x0 ((((((x0.getD x3.toNat (0,0,0,0,0,AA)).2).2).2).2).1) ((((((x0.getD x3.toNat (0,0,0,0,0,AA)).2).2).2).2).2) (i64.wrap (x3+1))) else none) else none) else none) else none) else (CU x0 x1 x2 (i64.wrap (x3+1))))
def Eq (x0:List U) (x1:Int) (x2:ByteArray) (x3:Int):Option ByteArray:=(if (decide (x3<(x0.length:Int)))=true then (if 0<=x3 then (if x3<(x0.length:Int) then (if (((x0.getD x3.toNat (0,0,0,0,0,AA)).1)==2)=true then (if 0<=x3 then (if x3<(x0.length:Int) then (DV x0 x1 x2 x3 (decide (((((((x0.getD x3.toNat (0,0,0,0,0,AA)).2).2).2).2).1)>x1))) else none) else none) else (DV x0 x1 x2 x3 false)) else none) else none) else (some x2))
def J7 (x0:List U) (x1:ByteArray):Option ByteArray:=(CU x0 0 x1 0)
theorem MR:XD HU DV:=jS (by kernel_rfl)
theorem HV:XC Eq CU:=lS (by kernel_rfl)
theorem PC:Mz J7 GB:=cT BZ rfl ⟨rfl,rfl⟩ (by kernel_rfl)
def Lk (x0:AF):Option Bool:=((Dm x0.1 0 10000).bind fun y1=>(if y1=true then ((Dm x0.2.1 0 x0.1).bind fun y2=>(if y2=true then (if (decide ((x0.2.2.size:Int)<=40))=true then (if (decide (x0.2.1>0))=false then (some (x0.2.2.toList==(⟨#[]⟩:ByteArray).toList)) else (some true)) else (some false)) else (some false))) else (some false)))
theorem RG:VO Lk IB:=cT Fl rfl ⟨rfl,rfl⟩ (by kernel_rfl)
def D8:=cG CA (Ag AN) (Ag AN) kx
def D9:=kE 0 [] [] 0 D8 kx
def Dz:St->Option (RT (Co.outs AN)):=lG B_ [] [0,1,7,8] 0 (Ag AN) D9
def At (x0:List U) (x1:U) (x2 x3:Int):Option Int:=Dz ⟨[(0,.lst AC x0),(1,.clo 184 AC x1),(7,.int .i64 x2),(8,.int .i64 x3)],[]⟩
def Au (x0:List U) (x1:U) (x2 x3:Int):Option Int:=(if (decide (x3<x2))=true then (if 0<=x3 then (if x3<(x0.length:Int) then ((Cu (x0.getD x3.toNat (0,0,0,0,0,AA)) x1).bind fun y1=>(if y1=true then (some x3) else (At x0 x1 x2 (i64.wrap (x3+1))))) else none) else none) else (some (-1:Int)))
def CN (x0:List U) (x1:U):Option Int:=(At x0 x1 (x0.length:Int) 0)
theorem BX:XC Au At:=lS (by kernel_rfl)
theorem EV:Mz CN Bd:=cT AN rfl ⟨rfl,rfl⟩ (by kernel_rfl)
end
end Go.Proofs.Ytffahmnodgnohaa.Core


namespace Go.Proofs.Ytffahmnodgnohaa.Core
open Go
theorem BH {n:Int} (h:-9223372036854775808<=n/\n<=9223372036854775807):IntKind.i64.wrap n=n:=IntWalk.i64_in n h
theorem Bv {i:Nat} (h:i<9223372036854775807):IntKind.i64.wrap ((i:Int)+1)=((i+1:Nat):Int):=by
 rw [BH (by omega)]
 omega
theorem WJ {P:Nat->Prop} {n:Nat} (h0:P n) (h:∀ i,i<n->P (i+1)->P i):∀ i,i<=n->P i:=by
 intro i hi
 induction hk:n-i generalizing i with
 | zero =>
  have:i=n:=by omega
  subst this
  exact h0
 | succ k ih=>exact h i (by omega) (ih (i+1) (by omega) (by omega))
theorem CW {α:Type} {xs:List α} {i:Nat} {d:α} (h:i<xs.length):xs.getD i d=xs[i]:=by
 simp [List.getD,h]

theorem E8 (a b c:Int):Dm a b c=some (decide (b<=a)&&decide (a<=c)):=Si (by
 unfold ON
 by_cases h:b<=a<;>simp [h])
theorem Ba (a b c:Int):BV a b c=some (decide (b<=a)&&decide (a<=c)):=RA (by
 unfold LY
 by_cases h:b<=a<;>simp [h])

abbrev Mj:Type:=List Int×Int×Int
def TW (d:Mj):Prop:=0<=d.2.1/\d.1.length<=maxLen
theorem Pa (a:Int):0<=FX .i64 a 255/\FX .i64 a 255<=255:=by
 unfold FX
 have h:(BitVec.ofInt (IntKind.bits .i64) a &&& BitVec.ofInt (IntKind.bits .i64) 255).toNat<=255:=by
  rw [BitVec.toNat_and]
  refine Nat.le_trans Nat.and_le_right ?_
  decide
 rw [BH (by omega)]
 omega
theorem DF (d:Mj) (h:TW d):∃ b d',Ci d=some (b,d')/\TW d'/\0<=b/\b<=255:=by
 have hm:d.1.length<=9223372036854775807:=h.2
 have hp:=h.1
 suffices g:∃ b d',IH d=some (b,d')/\TW d'/\0<=b/\b<=255 from g.imp fun b g=>g.imp fun d' g=>⟨RB g.1,g.2⟩
 unfold IH
 rw [if_neg (by omega),if_neg (by omega)]
 by_cases h1:d.2.1<(d.1.length:Int)
 ·rw [if_pos (by simpa using h1),if_pos hp,if_pos h1]
  refine ⟨_,_,rfl,⟨?_,h.2⟩,Pa _⟩
  show 0<=IntKind.i64.wrap (d.2.1+1)
  rw [BH (by omega)]
  omega
 ·rw [if_neg (by simpa using h1)]
  exact ⟨_,_,rfl,h,Pa _⟩
theorem CD (n:Int) (d:Mj) (h:TW d):∃ v d',Bw n d=some (v,d')/\TW d'/\0<=v/\(0<n->v<n):=by
 suffices g:∃ b d',HC n d=some (b,d')/\TW d'/\0<=b/\(0<n->b<n) from g.imp fun b g=>g.imp fun d' g=>⟨P3 g.1,g.2⟩
 unfold HC
 by_cases h1:n<=0
 ·exact ⟨0,d,by rw [if_pos (by simpa using h1)],h,by omega,by omega⟩
 ·rw [if_neg (by simpa using h1)]
  by_cases h2:n<=256
  ·obtain ⟨b,d1,e1,k1,b0,b1⟩:=DF d h
   refine ⟨_,_,by rw [if_pos (by simpa using h2),e1,Z,if_neg (by omega)],k1,Int.tmod_nonneg _ b0,fun _=>Int.tmod_lt_of_pos _ (by omega)⟩
  ·obtain ⟨b1,d1,e1,k1,b10,b11⟩:=DF d h
   obtain ⟨b2,d2,e2,k2,b20,b21⟩:=DF d1 k1
   obtain ⟨b3,d3,e3,k3,b30,b31⟩:=DF d2 k2
   obtain ⟨b4,d4,e4,k4,b40,b41⟩:=DF d3 k3
   refine ⟨_,_,by rw [if_neg (by simpa using h2),e1,Z,e2,Z,e3,Z,e4,Z,if_neg (by omega)],k4,Int.tmod_nonneg _ ?_,fun _=>Int.tmod_lt_of_pos _ (by omega)⟩
   rw [BH (n:=b1*16777216) (by omega),BH (n:=b2*65536) (by omega),BH (n:=b3*256) (by omega),BH (n:=b1*16777216+b2*65536) (by omega),BH (n:=b1*16777216+b2*65536+b3*256) (by omega),BH (by omega)]
   omega
theorem Ll (x:List Int) (hx:0<x.length) (d:Mj) (h:TW d):∃ v d',Fp x d=some (v,d')/\TW d'/\v∈x:=by
 obtain ⟨v,d',e,k,v0,v1⟩:=CD (x.length:Int) d h
 have v1:=v1 (by omega)
 have hv:v.toNat<x.length:=by omega
 exact ⟨_,_,OR (by unfold JE; rw [e,Z,if_pos v0,if_pos v1]),k,by rw [CW hv]; exact E2 hv⟩
theorem PD (x:List Int) (h:x.length<=maxLen):∃ d,JU x=some d/\TW d:=by
 have hm:x.length<=9223372036854775807:=h
 have key:=WJ (n:=x.length) (P:=fun i=>∀ a,∃ d,Ef x a (i:Int)=some d/\TW d) (fun a=>⟨(x,0,a),GC (by
  unfold Eg
  rw [if_neg (by simp)]),⟨Int.le_refl _,h⟩⟩) (fun i hi ih a=>by
  by_cases h4:(i:Int)<4000
  ·obtain ⟨d,e,k⟩:=ih (FX .i64 (IntKind.i64.wrap ((IntKind.i64.wrap ((IntKind.i64.wrap (a*(131:Int)))+(IntKind.i64.wrap (x.getD (i:Int).toNat (0:Int)))))+(7:Int))) (1073741823:Int))
   refine ⟨d,GC ?_,k⟩
   unfold Eg
   rw [if_pos (by simpa using hi),if_pos (by simpa using h4)]
   refine O9 ?_
   unfold Jx
   rw [if_pos (by omega),if_pos (by omega),Bv (show i<9223372036854775807 by omega)]
   exact e
  ·refine ⟨(x,0,a),GC ?_,⟨Int.le_refl _,h⟩⟩
   unfold Eg
   rw [if_pos (by simpa using hi),if_neg (by simpa using h4)]) 0 (by omega)
 obtain ⟨d,e,k⟩:=key (IntKind.i64.wrap ((14301:Int)+(x.length:Int)))
 exact ⟨d,Rg e,k⟩

abbrev Bs:Type:=Int×Int×ByteArray
abbrev Am:Type:=Int×Int×Int×Int×Int×ByteArray
def CX:Am:=((0:Int),(0:Int),(0:Int),(0:Int),(0:Int),AA)
def DW (v:Bs):Bool:=(decide (0<=v.1)&&decide (v.1<=10000))&&(decide (0<=v.2.1)&&decide (v.2.1<=v.1))&&decide ((v.2.2.size:Int)<=40)&&(decide (v.2.1>0)||v.2.2.toList==(⟨#[]⟩:ByteArray).toList)
def Bb (v:Bs) (m:Am):Bs×Am×Bool :=
 if DW v=true/\(1<=m.2.2.2.1/\m.2.2.2.1<=10000)/\(m.2.2.2.2.2.size:Int)<=40 then
  if m.1=1/\m.2.2.2.1>v.1 then ((m.2.2.2.1,v.2),(2,m.2.2.1,m.2.1,m.2.2.2.1,v.2),true)
  else if m.1=3/\m.2.2.2.1>=v.1 then ((m.2.2.2.1,m.2.2.2.1,m.2.2.2.2.2),(4,m.2.2.1,m.2.1,m.2.2.2.1,0,m.2.2.2.2.2),true)
  else (v,CX,false)
 else (v,CX,false)
theorem OW (v:Bs):IB v=some (DW v):=RG (by
 unfold Lk DW
 simp only [E8,Z]
 generalize (decide (0<=v.1)&&decide (v.1<=10000))=a
 generalize (decide (0<=v.2.1)&&decide (v.2.1<=v.1))=b
 generalize decide ((v.2.2.size:Int)<=40)=c
 generalize decide (v.2.1>0)=d
 generalize (v.2.2.toList==(⟨#[]⟩:ByteArray).toList)=e
 cases a<;>cases b<;>cases c<;>cases d<;>simp)
theorem OX (v:Bs):H9 v=some (DW v):=Q_ (by
 have h0:∀ b,Ft b v=some (decide (v.2.1>0)||v.2.2.toList==(⟨#[]⟩:ByteArray).toList):=fun b=>OM (by
  unfold I9
  cases decide (v.2.1>0)<;>simp)
 unfold LX DW
 simp only [Ba,Z,h0]
 have e:decide ((v.2.2.size:Int)>40)=!decide ((v.2.2.size:Int)<=40):=by
  by_cases h:(v.2.2.size:Int)<=40<;>simp [h]
  omega
 rw [e]
 generalize (decide (0<=v.1)&&decide (v.1<=10000))=a
 generalize (decide (0<=v.2.1)&&decide (v.2.1<=v.1))=b
 generalize decide ((v.2.2.size:Int)<=40)=c
 generalize (decide (v.2.1>0)||v.2.2.toList==(⟨#[]⟩:ByteArray).toList)=d
 cases a<;>cases b<;>cases c<;>simp)
theorem NP (v:Bs) (m:Am):HB v m=some (Bb v m):=P_ (by
 have h2:∀ b a1 a2 a3,Ds b v m a1 a2 a3=some (if b=true then ((m.2.2.2.1,m.2.2.2.1,m.2.2.2.2.2),(4,a3.2.1,a3.2.2.1,a3.2.2.2.1,a3.2.2.2.2.1,m.2.2.2.2.2),true) else (v,CX,false)):=fun b a1 a2 a3=>NG (by
  unfold IU
  cases b<;>rfl)
 have h1:∀ b a1 a2 a3,Dt b v m a1 a2 a3=some (if b=true then ((m.2.2.2.1,v.2),(2,a3.2.1,a3.2.2.1,a3.2.2.2.1,v.2),true) else if m.1=3/\m.2.2.2.1>=v.1 then ((m.2.2.2.1,m.2.2.2.1,m.2.2.2.2.2),(4,a3.2.1,a3.2.2.1,a3.2.2.2.1,a3.2.2.2.2.1,m.2.2.2.2.2),true) else (v,CX,false)):=fun b a1 a2 a3=>NH (by
  unfold IV
  simp only [h2]
  by_cases e1:m.1=3<;>by_cases e2:m.2.2.2.1>=v.1<;>cases b<;>simp [e1,e2])
 have h0:∀ b a1 a2,FH b v m a1 a2=some (if m.1=1/\m.2.2.2.1>v.1 then ((m.2.2.2.1,v.2),(2,m.2.2.1,m.2.1,m.2.2.2.1,v.2),true) else if m.1=3/\m.2.2.2.1>=v.1 then ((m.2.2.2.1,m.2.2.2.1,m.2.2.2.2.2),(4,m.2.2.1,m.2.1,m.2.2.2.1,0,m.2.2.2.2.2),true) else (v,CX,false)):=fun b a1 a2=>NI (by
  unfold IW
  simp only [h1]
  by_cases e1:m.1=1<;>by_cases e2:m.2.2.2.1>v.1<;>simp [e1,e2])
 unfold Kt Bb
 simp only [Ba,OX,Z,h0]
 by_cases e1:1<=m.2.2.2.1/\m.2.2.2.1<=10000
 ·by_cases e2:(m.2.2.2.2.2.size:Int)<=40
  ·cases e3:DW v<;>simp [e1.1,e1.2,e2,CX]
  ·have e2':(m.2.2.2.2.2.size:Int)>40:=by omega
   simp [e1.1,e1.2,e2,e2',CX]
 ·rw [if_neg (by rw [<- Bool.decide_and,decide_eq_false e1]; simp),if_neg (fun h=>e1 h.2.1)]
  rfl)
theorem NQ (v:Bs) (m:Am):HA v m=some (Bb v m):=P9 (by
 have h3:∀ b a1 a2,Dq b v m a1 a2=some (if b=true then ((m.2.2.2.1,m.2.2.2.1,m.2.2.2.2.2),(4,m.2.2.1,m.2.1,m.2.2.2.1,0,m.2.2.2.2.2),true) else (v,CX,false)):=fun b a1 a2=>NC (by
  unfold IQ
  cases b<;>rfl)
 have h2:∀ b a1 a2,FE b v m a1 a2=some (if m.1=3/\m.2.2.2.1>=v.1 then ((m.2.2.2.1,m.2.2.2.1,m.2.2.2.2.2),(4,m.2.2.1,m.2.1,m.2.2.2.1,0,m.2.2.2.2.2),true) else (v,CX,false)):=fun b a1 a2=>ND (by
  unfold IR
  simp only [h3]
  by_cases e1:m.1=3<;>by_cases e2:m.2.2.2.1>=v.1<;>simp [e1,e2])
 have h1:∀ b a1 a2,Dr b v m a1 a2=some (if b=true then ((m.2.2.2.1,v.2),(2,m.2.2.1,m.2.1,m.2.2.2.1,v.2),true) else if m.1=3/\m.2.2.2.1>=v.1 then ((m.2.2.2.1,m.2.2.2.1,m.2.2.2.2.2),(4,m.2.2.1,m.2.1,m.2.2.2.1,0,m.2.2.2.2.2),true) else (v,CX,false)):=fun b a1 a2=>NE (by
  unfold IS
  simp only [h2]
  cases b<;>simp)
 have h0:∀ b a1 a2,FF b v m a1 a2=some (if m.1=1/\m.2.2.2.1>v.1 then ((m.2.2.2.1,v.2),(2,m.2.2.1,m.2.1,m.2.2.2.1,v.2),true) else if m.1=3/\m.2.2.2.1>=v.1 then ((m.2.2.2.1,m.2.2.2.1,m.2.2.2.2.2),(4,m.2.2.1,m.2.1,m.2.2.2.1,0,m.2.2.2.2.2),true) else (v,CX,false)):=fun b a1 a2=>NF (by
  unfold IT
  simp only [h1]
  by_cases e1:m.1=1<;>by_cases e2:m.2.2.2.1>v.1<;>simp [e1,e2])
 unfold Kr Bb
 simp only [E8,OW,Z,h0]
 by_cases e1:1<=m.2.2.2.1/\m.2.2.2.1<=10000
 ·by_cases e2:(m.2.2.2.2.2.size:Int)<=40
  ·have e2':¬ ((40:Int)<(m.2.2.2.2.2.size:Int)):=by omega
   cases e3:DW v<;>simp [e1.1,e1.2,e2,e2',CX]
  ·have e2':(m.2.2.2.2.2.size:Int)>40:=by omega
   cases e3:DW v<;>simp [e1.1,e1.2,e2,e2',CX]
 ·have e4:(decide (1<=m.2.2.2.1)&&decide (m.2.2.2.1<=10000))=false:=by rw [<- Bool.decide_and,decide_eq_false e1]
  simp only [e1,e4]
  cases e3:DW v<;>simp [CX])
theorem G5 (v:Bs):DW v=true↔(0<=v.1/\v.1<=10000)/\(0<=v.2.1/\v.2.1<=v.1)/\(v.2.2.size:Int)<=40/\(v.2.1>0\/v.2.2.toList=(⟨#[]⟩:ByteArray).toList):=by
 simp only [DW,AB,decide_eq_true_eq,EW,beq_iff_eq,and_assoc]
theorem TX (v:Bs) (m:Am) (h:DW v=true):DW (Bb v m).1=true/\v.1<=(Bb v m).1.1/\v.2.1<=(Bb v m).1.2.1:=by
 obtain ⟨⟨a1,a2⟩,⟨a3,a4⟩,a5,a6⟩:=(G5 v).1 h
 unfold Bb
 split
 ·rename_i h1
  obtain ⟨_,⟨h2,h2'⟩,h3⟩:=h1
  split
  ·rename_i h4
   have h4:=h4.2
   refine ⟨(G5 _).2 ⟨⟨?_,?_⟩,⟨?_,?_⟩,a5,a6⟩,?_,Int.le_refl _⟩<;>simp only<;>omega
  ·split
   ·rename_i h4 h5
    have h5:=h5.2
    refine ⟨(G5 _).2 ⟨⟨?_,?_⟩,⟨?_,?_⟩,h3,.inl ?_⟩,?_,?_⟩<;>simp only<;>omega
   ·exact ⟨h,Int.le_refl _,Int.le_refl _⟩
 ·exact ⟨h,Int.le_refl _,Int.le_refl _⟩
/- What is drawn. -/
theorem Rl (x:List ByteArray) (hx:0<x.length) (d:Mj) (h:TW d):∃ v d',IA x d=some (v,d')/\TW d'/\v∈x:=by
 obtain ⟨v,d',e,k,v0,v1⟩:=CD (x.length:Int) d h
 have v1:=v1 (by omega)
 have hv:v.toNat<x.length:=by omega
 exact ⟨_,_,RF (by unfold Ld; rw [e,Z,if_pos v0,if_pos v1]),k,by rw [CW hv]; exact E2 hv⟩
def IY:List ByteArray:=[(⟨#[120]⟩:ByteArray),(⟨#[121]⟩:ByteArray),(⟨#[122]⟩:ByteArray),(⟨#[49,44,50]⟩:ByteArray),(⟨#[50,44,51]⟩:ByteArray)]
theorem NR (d:Mj) (h:TW d):∃ v d',G9 d=some (v,d')/\TW d'/\v∈IY:=by
 obtain ⟨v,d',e,k,hv⟩:=Rl IY (by decide) d h
 unfold IY at e
 exact ⟨_,_,P6 (by unfold Ko; rw [e]; rfl),k,hv⟩
theorem Rm (x:List Int):M2 x=some (decide ((x.length:Int)>(1048576:Int))):=T7 rfl

theorem D4 {α:Type} {x:List α} {i:Nat} (h:i<x.length):x.drop i=x[i]::x.drop (i+1):=List.drop_eq_getElem_cons h



def XK (a:ByteArray×ByteArray×Int):Bool:=(decide (1<=(a.1.size:Int))&&decide ((a.1.size:Int)<=12))&&decide ((a.2.1.size:Int)<=20)&&(decide (1<=a.2.2)&&decide (a.2.2<=1000000000))
def R7 (x:List (ByteArray×ByteArray×Int)) (i:Nat):Nat->Bool
 | 0=>decide ((x.length:Int)<=12)
 | k+1=>XK (x.getD i (AA,AA,0))&&(decide (i=0)||Op.bytesLess (x.getD (i-1) (AA,AA,0)).1.toList (x.getD i (AA,AA,0)).1.toList)&&R7 x (i+1) k

abbrev XT:Type:=ByteArray×ByteArray×Int
def UZ (x:List XT):Bool:=R7 x 0 x.length





def R8 (v:List Int) (i:Nat):Nat->Bool
 | 0=>true
 | k+1=>(decide (1<=v.getD i 0)&&decide (v.getD i 0<=6))&&!(v.take i).contains (v.getD i 0)&&R8 v (i+1) k
def X1 (v:List Int):Bool:=(decide (1<=(v.length:Int))&&decide ((v.length:Int)<=4))&&R8 v 0 v.length
def R9 (x:List (List Int)) (n:Nat):List (List Int)->Bool
 | []=>decide (1<=(n:Int))&&decide ((n:Int)<=9)
 | v::r=>X1 v&&R9 x n r

abbrev WK:Type:=Int×Int×Int×(ByteArray×ByteArray×Int)×List Int
abbrev QO:Type:=Int×Int×Bool×Bool×Bool×Bool×List Int×List (ByteArray×ByteArray×Int)×Int×WK
def X2 (t:WK):Bool:=(t.1==0)&&(t.2.1==0)&&(t.2.2.1==0)&&Te (.pair .str (.pair .str (.int .i64))) t.2.2.2.1 (AA,AA,(0:Int))&&((t.2.2.2.2.length:Int)==0)
def WL (t:WK) (serves:Bool):Bool:=(t.1==1||t.1==2)&&serves&&(decide (0<=t.2.1)&&decide (t.2.1<=1000))&&(decide (1<=t.2.2.1)&&decide (t.2.2.1<=900))

abbrev YL:Type:=Int×Int×Int×Int×Int×List (ByteArray×ByteArray×Int)

def Yi (v:List Int):Prop:=(∀ a∈v,1<=a/\a<=6)/\v.Pairwise (· < ·)
structure Yo (m:QO):Prop where
 id:1<=m.1/\m.1<=6
 ep:1<=m.2.1/\m.2.1<=9
 serves:m.2.2.2.2.2.1=true->m.2.2.2.1=true/\m.2.2.2.2.1=true/\m.2.2.2.2.2.2.1=[]
 fell:m.2.2.1=true->m.2.2.2.1=false/\m.2.2.2.2.1=false
 waits:Yi m.2.2.2.2.2.2.1
 left:Yi m.2.2.2.2.2.2.2.2.2.2.2.2.2
 items:UZ m.2.2.2.2.2.2.2.1=true
 count:0<=m.2.2.2.2.2.2.2.2.1/\m.2.2.2.2.2.2.2.2.1<=900
 task:X2 m.2.2.2.2.2.2.2.2.2=true\/WL m.2.2.2.2.2.2.2.2.2 m.2.2.2.2.2.1=true

structure Yp (views:List (List Int)):Prop where
 ok:R9 views views.length views=true

structure Yq (x:YL):Prop where
 kind:1<=x.1/\x.1<=8
 frm:1<=x.2.1/\x.2.1<=6
 to:1<=x.2.2.1/\x.2.2.1<=6
 ep:1<=x.2.2.2.1/\x.2.2.2.1<=9
 num:0<=x.2.2.2.2.1/\x.2.2.2.2.1<=1000000000
 items:UZ x.2.2.2.2.2=true
 shape:if x.1=2\/x.1=3 then True else if x.1=5 then x.2.2.2.2.2.length=1 else x.2.2.2.2.2=[]



def YM:QO:=((0:Int),(0:Int),false,false,false,false,([]:List Int),([]:List XT),(0:Int),(0:Int),(0:Int),(0:Int),(AA,AA,(0:Int)),([]:List Int))

theorem TY (x:List Int) (n:Int) (h:x.length<=maxLen):Ct x n=some (x.contains n):=Ih (by
 have hm:x.length<=9223372036854775807:=h
 have key:=WJ (n:=x.length) (P:=fun i=>∃ r,B7 x n (x.length:Int) (i:Int)=some r/\(decide (r>=0)=(x.drop i).contains n)) ⟨-1,Cv (by
  unfold B8
  rw [if_neg (by simp)]),by simp⟩ (fun i hi ⟨r,hr,hc⟩=>by
  by_cases e:n=x[i]
  ·refine ⟨(i:Int),Cv ?_,?_⟩
   ·unfold B8
    simp only [show ((i:Int)<(x.length:Int)) from by omega,decide_true,if_true,show (0:Int)<=(i:Int) from by omega,DH,CW hi]
    rw [if_pos (by simpa using e)]
   ·rw [D4 hi,List.contains_cons,e]
    simp only [beq_self_eq_true,Bool.true_or]
    exact decide_eq_true (by omega)
  ·refine ⟨r,Cv ?_,?_⟩
   ·unfold B8
    simp only [show ((i:Int)<(x.length:Int)) from by omega,decide_true,if_true,show (0:Int)<=(i:Int) from by omega,DH,CW hi,Bv (show i<9223372036854775807 by omega)]
    rw [if_neg (by simpa using e)]
    exact hr
   ·rw [D4 hi,hc,List.contains_cons]
    simp [e]) 0 (by omega)
 obtain ⟨r,hr,hc⟩:=key
 unfold El
 have:Dn x n=some r:=KX hr
 rw [this,Z,hc,List.drop_zero])

abbrev Im:Type:=Int×Int×ByteArray×List Am×Bool×List Int×Bool
abbrev FW:Type:=Int×Int×Int×ByteArray
abbrev Es:Type:=List Bs×List Im×List Am×List ByteArray
def BE:Im:=((0:Int),(0:Int),AA,([]:List Am),false,([]:List Int),false)
def Aj:Bs:=((0:Int),(0:Int),AA)
def De (n:Nat):Int:=(n:Int) / 2+1
def JY (kind id b:Int) (v:ByteArray):Nat->Nat->List Am
 | _,0=>[]
 | i,k+1=>(kind,id,(i:Int)+1,b,0,v)::JY kind id b v (i+1) k
def ED:List Am->Int->ByteArray->ByteArray
 | [],_,v=>v
 | m::l,b,v=>if m.1=2/\m.2.2.2.2.1>b then ED l m.2.2.2.2.1 m.2.2.2.2.2 else ED l b v
def J8 (t:Im):Int:=if t.2.1=0 then t.1 else t.2.1+10
def Fz (kp:Bool) (h:FW) (c:Es):Bool×Es :=
 let j:=(h.2.1-1).toNat
 let t:=c.2.1.getD j BE
 if J8 t>10000 then (false,c)
 else (true,(c.1,c.2.1.set j (t.1,J8 t,h.2.2.2,[],false,[],kp&&t.2.2.2.2.2.2),c.2.2.1++JY 1 t.1 (J8 t) AA 0 c.1.length,c.2.2.2))
def RH (m:Am) (c:Es):Bool×Es :=
 let j:=(m.2.2.1-1).toNat
 let r:=Bb (c.1.getD j Aj) m
 (r.2.2,(c.1.set j r.1,c.2.1,if r.2.2=true then c.2.2.1++[r.2.1] else c.2.2.1,c.2.2.2))
def Eh (m:Am) (c:Es):Bool×Es :=
 let j:=(m.2.2.1-1).toNat
 let t:=c.2.1.getD j BE
 if m.2.2.2.1≠t.2.1\/t.2.2.2.2.1=true\/t.2.2.2.1.any (fun x=>x.2.1==m.2.1)=true then (false,c)
 else if ((t.2.2.2.1++[m]).length:Int)=De c.1.length then
  (true,(c.1,c.2.1.set j (t.1,t.2.1,ED (t.2.2.2.1++[m]) 0 t.2.2.1,t.2.2.2.1++[m],true,t.2.2.2.2.2),c.2.2.1++JY 3 t.1 t.2.1 (ED (t.2.2.2.1++[m]) 0 t.2.2.1) 0 c.1.length,c.2.2.2))
 else (true,(c.1,c.2.1.set j (t.1,t.2.1,t.2.2.1,t.2.2.2.1++[m],t.2.2.2.2),c.2.2))
def KZ (m:Am) (c:Es):Bool×Es :=
 let j:=(m.2.2.1-1).toNat
 let t:=c.2.1.getD j BE
 if m.2.2.2.1≠t.2.1\/t.2.2.2.2.2.1.contains m.2.1=true then (false,c)
 else if ((t.2.2.2.2.2.1++[m.2.1]).length:Int)=De c.1.length then
  (true,(c.1,c.2.1.set j (t.1,t.2.1,t.2.2.1,t.2.2.2.1,t.2.2.2.2.1,t.2.2.2.2.2.1++[m.2.1],true),c.2.2.1,c.2.2.2++[t.2.2.1]))
 else (true,(c.1,c.2.1.set j (t.1,t.2.1,t.2.2.1,t.2.2.2.1,t.2.2.2.2.1,t.2.2.2.2.2.1++[m.2.1],t.2.2.2.2.2.2),c.2.2))
def Ka (m:Am) (c:Es):Bool×Es :=
 if m.1=1\/m.1=3 then RH m c else if m.1=2 then Eh m c else KZ m c
def DO (h:FW) (c:Es):Nat:=(h.2.2.1 % (c.2.2.1.length:Int)).toNat
def RI (h:FW) (c:Es):Es:=(c.1,c.2.1,c.2.2.1.take (DO h c)++c.2.2.1.drop (DO h c+1),c.2.2.2)
def Ei (kp:Bool) (h:FW) (c:Es):Bool×Es :=
 if h.1=1 then Fz kp h c
 else if c.2.2.1.length=0 then (false,c)
 else if h.1=4 then (true,(c.1,c.2.1,c.2.2.1++[c.2.2.1.getD (DO h c) CX],c.2.2.2))
 else if h.1=3 then (true,RI h c)
 else Ka (c.2.2.1.getD (DO h c) CX) (RI h c)
def NS (n t:Nat) (m:Am):Prop :=
 ((m.1=1\/m.1=3)/\(1<=m.2.2.1/\m.2.2.1<=(n:Int))/\1<=m.2.1/\m.2.1<=(t:Int))\/((m.1=2\/m.1=4)/\(1<=m.2.2.1/\m.2.2.1<=(t:Int))/\1<=m.2.1/\m.2.1<=(n:Int))
structure R_ (k:Nat) (j:Nat) (t:Im):Prop where
 id:t.1=(j:Int)+1
 ballot:0<=t.2.1/\t.2.1<=10000
 pl:t.2.2.2.1.length<=k
 tl:t.2.2.2.2.2.1.length<=k
structure HW (n t k:Nat) (c:Es):Prop where
 vl:c.1.length=n
 cl:c.2.1.length=t
 tr:∀ j,j<t->R_ k j (c.2.1.getD j BE)
 nl:c.2.2.1.length<=5*k
 ch:c.2.2.2.length<=k
 nt:∀ m∈c.2.2.1,NS n t m
theorem R_.up {k k' j:Nat} {t:Im} (h:R_ k j t) (hk:k<=k'):R_ k' j t:=⟨h.id,h.ballot,Nat.le_trans h.pl hk,Nat.le_trans h.tl hk⟩
theorem HW.up {n t k k':Nat} {c:Es} (h:HW n t k c) (hk:k<=k'):HW n t k' c :=
 ⟨h.vl,h.cl,fun j hj=>(h.tr j hj).up hk,by have:=h.nl; omega,by have:=h.ch; omega,h.nt⟩
theorem Pb {α:Type} {xs:List α} {j:Nat} {a d:α} (h:j<xs.length):(xs.set j a).getD j d=a:=by simp [List.getD,h]
theorem RJ {α:Type} {xs:List α} {i j:Nat} {a d:α} (h:j≠i):(xs.set j a).getD i d=xs.getD i d:=by simp [List.getD,List.getElem?_set_ne h]
theorem RK (kind id b:Int) (v:ByteArray):∀ (k i:Nat),(JY kind id b v i k).length=k
 | 0,i=>rfl
 | k+1,i=>by simp [JY,RK kind id b v k (i+1)]
theorem F0 {kind id b:Int} {v:ByteArray}:∀ {k i:Nat} {m:Am},m∈JY kind id b v i k->∃ q:Nat,(i<=q/\q<i+k)/\m=(kind,id,(q:Int)+1,b,0,v)
 | 0,i,m,h=>by cases h
 | k+1,i,m,h=>by
  rcases AO.1 h with h | h
  ·exact ⟨i,⟨Nat.le_refl _,by omega⟩,h⟩
  ·obtain ⟨q,h1,h2⟩:=F0 h
   exact ⟨q,⟨by omega,by omega⟩,h2⟩
theorem HW.trs {n t k:Nat} {c:Es} (h:HW n t k c) {j:Nat} (hj:j<t) {x:Im} (hx:R_ (k+1) j x):∀ i,i<t->R_ (k+1) i ((c.2.1.set j x).getD i BE):=fun i hi=>by
 by_cases e:j=i
 ·subst e
  rw [Pb (by rw [h.cl]; exact hj)]
  exact hx
 ·rw [RJ e]
  exact (h.tr i hi).up (by omega)
theorem HW.propose {n t k:Nat} {c:Es} (h:HW n t k c) (kp:Bool) {e:FW} (hn:n<=5) (ht:t<=4) (he:1<=e.2.1/\e.2.1<=(t:Int)):HW n t (k+1) (Fz kp e c).2:=by
 have hj:(e.2.1-1).toNat<t:=by omega
 have htr:=h.tr _ hj
 unfold Fz
 dsimp only
 split
 ·exact h.up (by omega)
 ·rename_i hb
  refine ⟨h.vl,by simp [h.cl],h.trs hj ⟨htr.id,?_,by simp,by simp⟩,?_,by have:=h.ch; simp only; omega,fun m hm=>?_⟩
  ·have:=htr.ballot
   have:=htr.id
   simp only [J8] at hb ⊢
   split at hb<;>split<;>omega
  ·have:=h.nl
   have:=h.vl
   simp only [List.length_append,RK]
   omega
  ·rcases Ak.1 hm with hm | hm
   ·exact h.nt m hm
   ·obtain ⟨q,hq,rfl⟩:=F0 hm
    have:=htr.id
    have:=h.vl
    refine .inl ⟨.inl rfl,⟨?_,?_⟩,?_,?_⟩<;>simp only<;>omega
theorem SA {v:Bs} {m:Am} (h:(Bb v m).2.2=true):(m.1=1/\(Bb v m).2.1=(2,m.2.2.1,m.2.1,m.2.2.2.1,v.2)/\(Bb v m).1=(m.2.2.2.1,v.2)/\m.2.2.2.1>v.1)\/(m.1=3/\(Bb v m).2.1=(4,m.2.2.1,m.2.1,m.2.2.2.1,0,m.2.2.2.2.2)/\(Bb v m).1=(m.2.2.2.1,m.2.2.2.1,m.2.2.2.2.2)/\m.2.2.2.1>=v.1):=by
 unfold Bb at h ⊢
 split at h
 ·rename_i c1
  rw [if_pos c1]
  split at h
  ·rename_i c2
   rw [if_pos c2]
   exact .inl ⟨c2.1,rfl,rfl,c2.2⟩
  ·rename_i c2
   rw [if_neg c2]
   split at h
   ·rename_i c3
    rw [if_pos c3]
    exact .inr ⟨c3.1,rfl,rfl,c3.2⟩
   ·cases h
 ·cases h
theorem SB {v:Bs} {m:Am} (h:(Bb v m).2.2=false):(Bb v m).1=v:=by
 unfold Bb at h ⊢
 split at h
 ·rename_i c1
  rw [if_pos c1]
  split at h
  ·cases h
  ·rename_i c2
   rw [if_neg c2]
   split at h
   ·cases h
   ·rename_i c3
    rw [if_neg c3]
 ·rename_i c1
  rw [if_neg c1]
theorem HW.hear {n t k:Nat} {c:Es} (h:HW n t k c) {m:Am} (hm:NS n t m):HW n t (k+1) (RH m c).2:=by
 unfold RH
 dsimp only
 refine ⟨by simp [h.vl],h.cl,fun j hj=>(h.tr j hj).up (by omega),?_,by have:=h.ch; simp only; omega,fun x hx=>?_⟩
 ·have:=h.nl
  split<;>simp<;>omega
 ·split at hx
  ·rename_i hr
   rcases Ak.1 hx with hx | hx
   ·exact h.nt x hx
   ·rw [Bz] at hx
    subst hx
    rcases SA hr with ⟨a,b,_⟩ | ⟨a,b,_⟩<;>rw [b]<;>rcases hm with ⟨k1,k2,k3⟩ | ⟨k1,k2,k3⟩
    ·exact .inr ⟨.inl rfl,k3,k2⟩
    ·omega
    ·exact .inr ⟨.inr rfl,k3,k2⟩
    ·omega
  ·exact h.nt x hx
theorem HW.promised {n t k:Nat} {c:Es} (h:HW n t k c) {m:Am} (hn:n<=5) (hm:NS n t m) (h2:m.1=2):HW n t (k+1) (Eh m c).2:=by
 have hto:1<=m.2.2.1/\m.2.2.1<=(t:Int):=by rcases hm with ⟨a,b,c⟩ | ⟨a,b,c⟩<;>omega
 have hj:(m.2.2.1-1).toNat<t:=by omega
 have htr:=h.tr _ hj
 have hpl:=htr.pl
 have htl:=htr.tl
 unfold Eh
 dsimp only
 split
 ·exact h.up (by omega)
 ·split
  ·refine ⟨h.vl,by simp [h.cl],h.trs hj ⟨htr.id,htr.ballot,by simp only [List.length_append,List.length_cons,List.length_nil]; omega,by simp only; omega⟩,?_,by have:=h.ch; simp only; omega,fun x hx=>?_⟩
   ·have:=h.nl
    have:=h.vl
    simp only [List.length_append,RK]
    omega
   ·rcases Ak.1 hx with hx | hx
    ·exact h.nt x hx
    ·obtain ⟨q,hq,rfl⟩:=F0 hx
     have:=htr.id
     have:=h.vl
     refine .inl ⟨.inr rfl,⟨?_,?_⟩,?_,?_⟩<;>simp only<;>omega
  ·exact ⟨h.vl,by simp [h.cl],h.trs hj ⟨htr.id,htr.ballot,by simp only [List.length_append,List.length_cons,List.length_nil]; omega,by simp only; omega⟩,by have:=h.nl; simp only; omega,by have:=h.ch; simp only; omega,h.nt⟩
theorem HW.taken {n t k:Nat} {c:Es} (h:HW n t k c) {m:Am} (hm:NS n t m) (h2:m.1=4):HW n t (k+1) (KZ m c).2:=by
 have hto:1<=m.2.2.1/\m.2.2.1<=(t:Int):=by rcases hm with ⟨a,b,c⟩ | ⟨a,b,c⟩<;>omega
 have hj:(m.2.2.1-1).toNat<t:=by omega
 have htr:=h.tr _ hj
 have hpl:=htr.pl
 have htl:=htr.tl
 unfold KZ
 dsimp only
 split
 ·exact h.up (by omega)
 ·split
  ·exact ⟨h.vl,by simp [h.cl],h.trs hj ⟨htr.id,htr.ballot,by simp only; omega,by simp only [List.length_append,List.length_cons,List.length_nil]; omega⟩,by have:=h.nl; simp only; omega,by have:=h.ch; simp; omega,h.nt⟩
  ·exact ⟨h.vl,by simp [h.cl],h.trs hj ⟨htr.id,htr.ballot,by simp only; omega,by simp only [List.length_append,List.length_cons,List.length_nil]; omega⟩,by have:=h.nl; simp only; omega,by have:=h.ch; simp only; omega,h.nt⟩
theorem HW.less {n t k:Nat} {c:Es} (h:HW n t k c) (e:FW):HW n t k (RI e c) :=
 ⟨h.vl,h.cl,h.tr,by have:=h.nl; simp only [RI,List.length_append,List.length_take,List.length_drop]; omega,h.ch,fun m hm=>by
  rcases Ak.1 hm with hm | hm
  ·exact h.nt m (List.mem_of_mem_take hm)
  ·exact h.nt m (List.mem_of_mem_drop hm)⟩
theorem OY {e:FW} {c:Es} (he:0<=e.2.2.1) (h0:c.2.2.1.length≠0):DO e c<c.2.2.1.length:=by
 unfold DO
 have h1:=Int.emod_lt_of_pos e.2.2.1 (show (0:Int)<(c.2.2.1.length:Int) by omega)
 have h2:=Int.emod_nonneg e.2.2.1 (show (c.2.2.1.length:Int)≠0 by omega)
 omega
theorem HW.carry {n t k:Nat} {c:Es} (h:HW n t k c) {m:Am} (hn:n<=5) (hm:NS n t m):HW n t (k+1) (Ka m c).2:=by
 unfold Ka
 split
 ·exact h.hear hm
 ·split
  ·rename_i h2; exact h.promised hn hm h2
  ·exact h.taken hm (by rcases hm with ⟨a,_⟩ | ⟨a,_⟩<;>omega)
structure F3 (t:Nat) (e:FW):Prop where
 kind:1<=e.1/\e.1<=4
 id:1<=e.2.1/\e.2.1<=(t:Int)
 at_:0<=e.2.2.1
 val:if e.1=1 then 1<=(e.2.2.2.size:Int)/\(e.2.2.2.size:Int)<=40 else e.2.2.2.toList=(⟨#[]⟩:ByteArray).toList
theorem HW.happen {n t k:Nat} {c:Es} (h:HW n t k c) (kp:Bool) {e:FW} (hn:n<=5) (ht:t<=4) (he:F3 t e):HW n t (k+1) (Ei kp e c).2:=by
 unfold Ei
 split
 ·exact h.propose kp hn ht he.id
 ·split
  ·exact h.up (by omega)
  ·rename_i h0
   have hp:=OY he.at_ h0
   have hm:c.2.2.1.getD (DO e c) CX∈c.2.2.1:=by rw [CW hp]; exact E2 hp
   split
   ·exact ⟨h.vl,h.cl,fun j hj=>(h.tr j hj).up (by omega),by have:=h.nl; simp; omega,by have:=h.ch; simp only; omega,fun x hx=>by
     rcases Ak.1 hx with hx | hx
     ·exact h.nt x hx
     ·rw [Bz] at hx; subst hx; exact h.nt _ hm⟩
   ·split
    ·exact (h.less e).up (by omega)
    ·exact (h.less e).carry hn (h.nt _ hm)

theorem VM:(((0:Int),(0:Int),AA,([]:List Am),false,([]:List Int),false):Im)=BE:=rfl
theorem XU:(((0:Int),(0:Int),(0:Int),(0:Int),(0:Int),AA):Am)=CX:=rfl
theorem TZ (j:Nat) (kind:Int) (v:ByteArray) (vs:List Bs) (ts:List Im) (ch:List ByteArray) (hv:vs.length<=1000):∀ (k i:Nat) (ns:List Am),i+k=vs.length->ns.length+k<=68719476736 ->
  Cn j kind v (vs.length:Int) (i:Int) vs ts ns ch=some (vs,ts,ns++JY kind (ts.getD j BE).1 (ts.getD j BE).2.1 v i k,ch)
 | 0,i,ns,hk,hl=>F5 (by
  unfold D7
  rw [if_neg (by rw [decide_eq_false (by omega)]; simp)]
  simp [JY])
 | k+1,i,ns,hk,hl=>F5 (by
  unfold D7
  have w:IntKind.i64.wrap ((i:Int)+1)=(i:Int)+1:=by rw [BH (by omega)]
  have w2:(i:Int)+1=((i+1:Nat):Int):=by omega
  rw [if_pos (decide_eq_true (by omega)),if_pos (by simp only [List.length_cons,List.length_nil]; omega),w]
  have:=TZ j kind v vs ts ch hv k (i+1) (ns++[(kind,(ts.getD j BE).1,(i:Int)+1,(ts.getD j BE).2.1,0,v)]) (by omega) (by simp only [List.length_append,List.length_cons,List.length_nil]; omega)
  rw [CE,List.singleton_append,<- w2] at this
  exact this)
theorem Mk (j:Nat) (kind:Int) (v:ByteArray) (c:Es) (hl:c.2.2.1.length+c.1.length<=68719476736) (hv:c.1.length<=1000):Dp j kind v c=some (c.1,c.2.1,c.2.2.1++JY kind (c.2.1.getD j BE).1 (c.2.1.getD j BE).2.1 v 0 c.1.length,c.2.2.2):=NA (by
 unfold IM
 exact TZ j kind v c.1 c.2.1 c.2.2.2 hv c.1.length 0 c.2.2.1 (by omega) (by omega))
theorem QA (x:List Am) (m:Am) (h:x.length<=maxLen):BW x m=some (x.any fun y=>y.2.1==m.2.1):=Dy (by
 have hm:x.length<=9223372036854775807:=h
 have key:=WJ (n:=x.length) (P:=fun i=>∃ r,At x m (x.length:Int) (i:Int)=some r/\(decide (r>=0)=(x.drop i).any fun y=>y.2.1==m.2.1)) ⟨-1,BX (by
  unfold Au
  rw [if_neg (by simp)]),by simp⟩ (fun i hi ih=>by
  have hz:x.getD i ((0:Int),(0:Int),(0:Int),(0:Int),(0:Int),AA)=x[i]:=CW hi
  have hp:Cu x[i] m=some (x[i].2.1==m.2.1):=Il rfl
  by_cases e:x[i].2.1=m.2.1
  ·refine ⟨(i:Int),BX ?_,?_⟩
   ·unfold Au
    rw [if_pos (decide_eq_true (by omega)),if_pos (by omega),if_pos (by omega),DH,hz,hp,Z,if_pos (by simpa using e)]
   ·rw [D4 hi,List.any_cons,e]
    simp only [beq_self_eq_true,Bool.true_or]
    exact decide_eq_true (by omega)
  ·obtain ⟨r,h1,h2⟩:=ih
   refine ⟨r,BX ?_,?_⟩
   ·unfold Au
    rw [if_pos (decide_eq_true (by omega)),if_pos (by omega),if_pos (by omega),DH,hz,hp,Z,if_neg (by simpa using e),Bv (by omega)]
    exact h1
   ·have e':(x[i].2.1==m.2.1)=false:=by simpa using e
    rw [h2,D4 hi,List.any_cons,e',Bool.false_or]) 0 (by omega)
 obtain ⟨r,h1,h2⟩:=key
 unfold Bx
 rw [show Bd x m=some r from EV (by unfold CN; exact h1),Z,h2]
 simp)
theorem NT (m:Am) (l:List Am) (b:Int) (v:ByteArray):ED (m::l) b v=if m.1=2/\m.2.2.2.2.1>b then ED l m.2.2.2.2.1 m.2.2.2.2.2 else ED l b v:=rfl
theorem IZ (x:List Am) (h:x.length<=maxLen):∀ (k i:Nat) (b:Int) (v:ByteArray),i+k=x.length->Bu b v x (x.length:Int) (i:Int)=some (ED (x.drop i) b v)
 | 0,i,b,v,hk=>HS (by
  unfold Ep
  rw [if_neg (by rw [decide_eq_false (by omega)]; simp),List.drop_eq_nil_of_le (by omega)]
  rfl)
 | k+1,i,b,v,hk=>HS (by
  have hm:x.length<=9223372036854775807:=h
  have hi:i<x.length:=by omega
  have hz:x.getD i ((0:Int),(0:Int),(0:Int),(0:Int),(0:Int),AA)=x[i]:=CW hi
  unfold Ep
  rw [if_pos (decide_eq_true (by omega)),if_pos (by omega),if_pos (by omega),DH,hz,Bv (by omega),IZ x h k (i+1) _ _ (by omega),IZ x h k (i+1) _ _ (by omega),D4 hi,NT]
  by_cases h1:x[i].1=2
  ·rw [if_pos (by simpa using h1)]
   by_cases h2:x[i].2.2.2.2.1>b
   ·rw [if_pos (decide_eq_true h2),if_pos ⟨h1,h2⟩]
   ·rw [if_neg (by rw [decide_eq_false h2]; simp),if_neg (fun q=>h2 q.2)]
  ·rw [if_neg (by simpa using h1),if_neg (fun q=>h1 q.1)])
theorem MS (x:List Am) (v:ByteArray) (h:x.length<=maxLen):GA x v=some (ED x 0 v):=PB (by
 unfold J6
 exact IZ x h x.length 0 0 v (by omega))
theorem GG (n:Nat) (h:n<=1000):Ez (n:Int)=some (De n):=Re (by
 unfold Me De
 rw [if_neg (by rw [decide_eq_false (by omega)]; simp),if_neg (by decide),Int.tdiv_eq_ediv_of_nonneg (by omega),BH (n:=(n:Int) / 2) (by omega),BH (by omega)])
theorem OZ {n t k:Nat} {c:Es} (h:HW n t k c) {e:FW} (hn:n<=5) (ht:t<=4) (hk:k<=100000) (he:F3 t e):Do e c=some (Fz true e c):=KY (by
 have hid:=he.id
 have hj:(e.2.1-1).toNat<t:=by omega
 have hjl:(e.2.1-1).toNat<c.2.1.length:=by rw [h.cl]; exact hj
 have htr:=h.tr _ hj
 have hcl:=h.cl
 have hnl:=h.nl
 have hvl:=h.vl
 have w:IntKind.i64.wrap (e.2.1-1)=e.2.1-1:=BH (by omega)
 obtain ⟨vs,ts,ns,ch⟩:=c
 simp only at hcl hjl htr hnl hvl
 have J0:∀ x:Int,B9 (e.2.1-1).toNat x vs ts ns ch e=some (if x>10000 then (false,(vs,ts,ns,ch)) else (true,(vs,ts.set (e.2.1-1).toNat ((ts.getD (e.2.1-1).toNat BE).1,x,e.2.2.2,[],false,[],(ts.getD (e.2.1-1).toNat BE).2.2.2.2.2.2),ns++JY 1 (ts.getD (e.2.1-1).toNat BE).1 x AA 0 vs.length,ch))):=fun x=>Ij (by
  unfold Em
  by_cases hx:x>10000
  ·rw [if_pos (decide_eq_true hx),if_pos hx]
  ·rw [if_neg (by rw [decide_eq_false hx]; simp),if_neg hx]
   simp only [VM,Pb hjl,List.set_set]
   rw [Mk _ _ _ _ (by simp only; omega) (by simp only; omega),Z]
   simp only [Pb hjl]
   rfl)
 unfold Fy
 rw [w,if_pos (by omega),if_pos (by simp only; omega)]
 simp only [VM,J0]
 have hb:=htr.ballot
 have hii:=htr.id
 unfold Fz J8
 simp only [Bool.true_and]
 by_cases h0:(ts.getD (e.2.1-1).toNat BE).2.1=0
 ·rw [if_pos (by simpa using h0)]
  simp only [h0,if_true]
 ·rw [if_neg (by simpa using h0),BH (by omega)]
  simp only [h0,if_false])
theorem Ln {n t k:Nat} {c:Es} (h:HW n t k c) {m:Am} (hn:n<=5) (hk:k<=100000) (hm:1<=m.2.2.1/\m.2.2.1<=(n:Int)):DS m c=some (RH m c):=ML (by
 have hnl:=h.nl
 have hvl:=h.vl
 have hj:(m.2.2.1-1).toNat<c.1.length:=by omega
 have w:IntKind.i64.wrap (m.2.2.1-1)=m.2.2.1-1:=BH (by omega)
 unfold HR
 rw [Ba,Z,if_neg (by rw [<- Bool.decide_and,decide_eq_true (by omega)]; simp),w,if_pos (by omega),if_pos (by omega)]
 simp only [show (((0:Int),(0:Int),AA):Bs)=Aj from rfl,NP,Z]
 rw [if_pos (by omega),if_pos (by omega)]
 unfold RH
 simp only
 cases hr:(Bb (c.1.getD (m.2.2.1-1).toNat Aj) m).2.2 with
 | true =>
  rw [if_pos rfl,if_pos (by simp only [List.length_cons,List.length_nil]; omega)]
  simp
 | false =>
  rw [if_neg (by simp)]
  simp)
theorem NU {n t k:Nat} {c:Es} (h:HW n t k c) {m:Am} (hn:n<=5) (hk:k<=100000) (hm:1<=m.2.2.1/\m.2.2.1<=(t:Int)):CQ (m.2.2.1-1).toNat m c=some (Eh m c):=J4 (by
 have hj:(m.2.2.1-1).toNat<t:=by omega
 have htr:=h.tr _ hj
 have hpl:=htr.pl
 have hcl:=h.cl
 have hnl:=h.nl
 have hvl:=h.vl
 obtain ⟨vs,ts,ns,ch⟩:=c
 simp only at hcl htr hpl hnl hvl
 have hjl:(m.2.2.1-1).toNat<ts.length:=by omega
 have J0:∀ b,Cj (m.2.2.1-1).toNat m.1 m.2.1 m.2.2.1 m.2.2.2.1 m.2.2.2.2.1 m.2.2.2.2.2 b vs ts ns ch=some (let t:=ts.getD (m.2.2.1-1).toNat BE
   if ((t.2.2.2.1++[m]).length:Int)=De vs.length then
    (true,(vs,ts.set (m.2.2.1-1).toNat (t.1,t.2.1,ED (t.2.2.2.1++[m]) 0 t.2.2.1,t.2.2.2.1++[m],true,t.2.2.2.2.2),ns++JY 3 t.1 t.2.1 (ED (t.2.2.2.1++[m]) 0 t.2.2.1) 0 vs.length,ch))
   else (true,(vs,ts.set (m.2.2.1-1).toNat (t.1,t.2.1,t.2.2.1,t.2.2.2.1++[m],t.2.2.2.2),ns,ch))):=fun b=>IN (by
  unfold ES
  simp only [VM,Pb hjl,List.set_set,GG vs.length (by omega),Z]
  rw [if_pos (by simp only [List.length_cons,List.length_nil]; omega)]
  simp only [if_true,show (m.1,m.2.1,m.2.2.1,m.2.2.2.1,m.2.2.2.2.1,m.2.2.2.2.2)=m from rfl]
  by_cases hc:(((ts.getD (m.2.2.1-1).toNat BE).2.2.2.1++[m]).length:Int)=De vs.length
  ·rw [if_pos (by simpa using hc),if_pos hc,MS _ _ (by simp only [List.length_append,List.length_cons,List.length_nil]; unfold maxLen; omega),Z]
   rw [Mk _ _ _ _ (by simp only; omega) (by simp only; omega),Z]
   simp only [Pb hjl]
  ·rw [if_neg (by simpa using hc),if_neg hc])
 unfold FT
 simp only [VM]
 rw [QA _ _ (by unfold maxLen; omega),Z,J0]
 unfold Eh
 simp only
 by_cases h1:m.2.2.2.1=(ts.getD (m.2.2.1-1).toNat BE).2.1
 ·rw [if_neg (by simpa using h1)]
  by_cases h2:(ts.getD (m.2.2.1-1).toNat BE).2.2.2.2.1=true
  ·rw [if_pos h2,if_pos (.inr (.inl h2))]
  ·rw [if_neg h2]
   by_cases h3:((ts.getD (m.2.2.1-1).toNat BE).2.2.2.1.any fun x=>x.2.1==m.2.1)=true
   ·rw [if_pos h3,if_pos (.inr (.inr h3))]
   ·have hn':¬ (m.2.2.2.1≠(ts.getD (m.2.2.1-1).toNat BE).2.1\/(ts.getD (m.2.2.1-1).toNat BE).2.2.2.2.1=true\/((ts.getD (m.2.2.1-1).toNat BE).2.2.2.1.any fun x=>x.2.1==m.2.1)=true):=fun q=>q.elim (fun q=>q h1) fun q=>q.elim h2 h3
    rw [if_neg h3,if_neg hn']
 ·rw [if_pos (by simpa using h1),if_pos (.inl h1)])
theorem QB {n t k:Nat} {c:Es} (h:HW n t k c) {m:Am} (hn:n<=5) (hk:k<=100000) (hm:1<=m.2.2.1/\m.2.2.1<=(t:Int)):C6 (m.2.2.1-1).toNat m c=some (KZ m c):=Lf (by
 have hj:(m.2.2.1-1).toNat<t:=by omega
 have htr:=h.tr _ hj
 have htl:=htr.tl
 have hcl:=h.cl
 have hvl:=h.vl
 have hch:=h.ch
 obtain ⟨vs,ts,ns,ch⟩:=c
 simp only at hcl htr htl hvl hch
 have hjl:(m.2.2.1-1).toNat<ts.length:=by omega
 have J0:∀ b,Da (m.2.2.1-1).toNat b vs ts ns ch m=some (let t:=ts.getD (m.2.2.1-1).toNat BE
   if ((t.2.2.2.2.2.1++[m.2.1]).length:Int)=De vs.length then
    (true,(vs,ts.set (m.2.2.1-1).toNat (t.1,t.2.1,t.2.2.1,t.2.2.2.1,t.2.2.2.2.1,t.2.2.2.2.2.1++[m.2.1],true),ns,ch++[t.2.2.1]))
   else (true,(vs,ts.set (m.2.2.1-1).toNat (t.1,t.2.1,t.2.2.1,t.2.2.2.1,t.2.2.2.2.1,t.2.2.2.2.2.1++[m.2.1],t.2.2.2.2.2.2),ns,ch))):=fun b=>J5 (by
  unfold FU
  simp only [VM,Pb hjl,List.set_set,GG vs.length (by omega),Z]
  rw [if_pos (by simp only [List.length_cons,List.length_nil]; omega)]
  simp only [if_true]
  by_cases hc:(((ts.getD (m.2.2.1-1).toNat BE).2.2.2.2.2.1++[m.2.1]).length:Int)=De vs.length
  ·rw [if_pos (by simpa using hc),if_pos hc,if_pos (by simp only [List.length_cons,List.length_nil]; omega)]
  ·rw [if_neg (by simpa using hc),if_neg hc])
 unfold Gz
 simp only [VM]
 rw [TY _ _ (by unfold maxLen; omega),Z,J0]
 unfold KZ
 simp only
 by_cases h1:m.2.2.2.1=(ts.getD (m.2.2.1-1).toNat BE).2.1
 ·rw [if_neg (by simpa using h1)]
  by_cases h2:((ts.getD (m.2.2.1-1).toNat BE).2.2.2.2.2.1.contains m.2.1)=true
  ·rw [if_pos h2,if_pos (.inr h2)]
  ·have hn':¬ (m.2.2.2.1≠(ts.getD (m.2.2.1-1).toNat BE).2.1\/((ts.getD (m.2.2.1-1).toNat BE).2.2.2.2.2.1.contains m.2.1)=true):=fun q=>q.elim (fun q=>q h1) h2
   rw [if_neg h2,if_neg hn']
 ·rw [if_pos (by simpa using h1),if_pos (.inl h1)])
theorem QC {n t k:Nat} {c:Es} (h:HW n t k c) {m:Am} (hn:n<=5) (ht:t<=4) (hk:k<=100000) (hm:NS n t m):C5 m c=some (Ka m c):=La (by
 unfold Gw Ka
 have hto:m.1=1\/m.1=3->1<=m.2.2.1/\m.2.2.1<=(n:Int):=fun e=>by rcases hm with ⟨_,b,_⟩ | ⟨a,_⟩<;>omega
 by_cases h1:m.1=1
 ·rw [if_neg (by simp [h1]),Ln h hn hk (hto (.inl h1)),Z,if_pos (.inl h1)]
 ·rw [if_pos (by simpa using h1)]
  by_cases h3:m.1=3
  ·rw [if_pos (by simpa using h3),Ln h hn hk (hto (.inr h3)),Z,if_pos (.inr h3)]
  ·have hm2:1<=m.2.2.1/\m.2.2.1<=(t:Int):=by rcases hm with ⟨a,_⟩ | ⟨a,b,_⟩<;>omega
   have hcl:=h.cl
   have w:IntKind.i64.wrap (m.2.2.1-1)=m.2.2.1-1:=BH (by omega)
   rw [if_neg (by simpa using h3),if_neg (by omega)]
   refine Jz ?_
   unfold FS
   rw [Ba,Z,if_neg (by rw [<- Bool.decide_and,decide_eq_true (by omega)]; simp),w,if_pos (by omega),if_pos (by omega)]
   change (if (m.1==2)=true then ((CQ (m.2.2.1-1).toNat m c).bind fun y3=>some (y3.1,y3.2)) else ((C6 (m.2.2.1-1).toNat m c).bind fun y3=>some (y3.1,y3.2)))=_
   rw [NU h hn hk hm2,QB h hn hk hm2]
   by_cases h2:m.1=2
   ·rw [if_pos (by simpa using h2),if_pos h2]; rfl
   ·rw [if_neg (by simpa using h2),if_neg h2]; rfl)
theorem PE {n t k:Nat} {c:Es} (h:HW n t k c) {e:FW} (hn:n<=5) (ht:t<=4) (hk:k<=100000) (he:F3 t e):Cm e c=some (Ei true e c):=Kx (by
 have hnl:=h.nl
 unfold F4 Ei
 by_cases h1:e.1=1
 ·rw [if_pos (by simpa using h1),if_pos h1,OZ h hn ht hk he,Z]
 ·rw [if_neg (by simpa using h1),if_neg h1]
  by_cases h0:c.2.2.1.length=0
  ·rw [if_pos (by simp [h0]),if_pos h0]
  ·have hp:=OY he.at_ h0
   have hm:c.2.2.1.getD (DO e c) CX∈c.2.2.1:=by rw [CW hp]; exact E2 hp
   have em:Int.tmod e.2.2.1 (c.2.2.1.length:Int)=(DO e c:Int):=by
    have h2:=Int.emod_nonneg e.2.2.1 (show (c.2.2.1.length:Int)≠0 by omega)
    rw [Int.tmod_eq_emod_of_nonneg he.at_]
    unfold DO
    omega
   rw [if_neg (by simpa using h0),if_neg h0,em,if_neg (by omega),if_pos (by omega),if_pos (by omega),DH]
   simp only [XU]
   by_cases h4:e.1=4
   ·rw [if_pos (by simpa using h4),if_pos h4,if_pos (by simp only [List.length_cons,List.length_nil]; omega)]
   ·rw [if_neg (by simpa using h4),if_neg h4,Bv (by omega),E0 (by omega) (by omega),Z]
    by_cases h3:e.1=3
    ·rw [if_neg (by simp [h3]),if_pos h3]
     rfl
    ·rw [if_pos (by simpa using h3),if_neg h3]
     change ((C5 (c.2.2.1.getD (DO e c) CX) (RI e c)).bind _)=_
     rw [QC (h.less e) hn ht hk (h.nt _ hm),Z])







theorem Ua (a b:ByteArray):(a.toList==b.toList)=decide (a=b):=by
 rw [Bool.eq_iff_iff,beq_iff_eq,decide_eq_true_eq]
 refine ⟨fun h=>?_,fun h=>by rw [h]⟩
 rw [ByteArray.toList_eq,ByteArray.toList_eq] at h
 cases a with
 | mk da =>
  cases b with
  | mk db=>exact congrArg ByteArray.mk (Array.toList_inj.1 h)



abbrev YN:Type:=Int×ByteArray×ByteArray×Int×Int×Int×Int×Int×ByteArray
abbrev PF:Type:=List (List Int)×List QO×List YL×List YN
def YO (g:PF) (i:Nat):QO:=g.2.1.getD i YM
structure X6 (g:PF) (n:Nat):Prop where
 views:Yp g.1
 six:g.2.1.length=6
 mem:∀ i,i<6->Yo (YO g i)/\(YO g i).1=(i:Int)+1
 fly:∀ x∈g.2.2.1,Yq x
 flen:g.2.2.1.length<=8*n
 clen:g.2.2.2.length<=n

theorem X6.up {g:PF} {k:Nat} (h:X6 g k):X6 g (k+1):=⟨h.views,h.six,h.mem,h.fly,by have:=h.flen; omega,by have:=h.clen; omega⟩
def XV (g:PF) (i:Nat):PF:=(g.1,g.2.1,g.2.2.1.take i++g.2.2.1.drop (i+1),g.2.2.2)
theorem X6.less {g:PF} {k:Nat} (h:X6 g k) (i:Nat):X6 (XV g i) k:=by
 refine ⟨h.views,h.six,h.mem,fun x hx=>?_,?_,h.clen⟩
 ·rcases Ak.1 hx with h1 | h1
  ·exact h.fly x (List.mem_of_mem_take h1)
  ·exact h.fly x (List.mem_of_mem_drop h1)
 ·have:=h.flen
  simp only [XV,List.length_append,List.length_take,List.length_drop]
  omega









def J9 (b:Bool):Int:=if b=true then 0 else 1
def RL (kp:Bool):List FW->Es->List Int->Es×List Int
 | [],c,cs=>(c,cs)
 | e::es,c,cs=>RL kp es (Ei kp e c).2 (cs++[J9 (Ei kp e c).1])
def HE:Nat->List Im
 | 0=>[]
 | t+1=>HE t++[((t:Int)+1,0,AA,[],false,[],false)]
theorem FJ:∀ t,(HE t).length=t
 | 0=>rfl
 | t+1=>by simp [HE,FJ t]
def Er (n t:Nat):Es:=(List.replicate n Aj,HE t,[],[])
theorem NV:∀ (t j:Nat),j<t->(HE t).getD j BE=((j:Int)+1,0,AA,[],false,[],false)
 | 0,j,h=>by omega
 | t+1,j,h=>by
  by_cases e:j<t
  ·have:=NV t j e
   rw [HE,List.getD,AY (by rw [FJ]; exact e)]
   exact this
  ·have:j=t:=by omega
   subst this
   rw [HE,List.getD,BF (by rw [FJ]; exact Nat.le_refl _),FJ,Nat.sub_self]
   rfl
theorem Sl (n t:Nat):HW n t 0 (Er n t):=⟨by simp [Er],FJ t,fun j hj=>by
 rw [show (Er n t).2.1=HE t from rfl,NV t j hj]
 exact ⟨rfl,by simp,by simp,by simp⟩,by simp [Er],by simp [Er],fun m hm=>by simp [Er] at hm⟩
theorem Oa (t:Nat) (ht:t<=4) (vs:List Bs):∀ (k i:Nat),i+k=t->C8 (t:Int) (i:Int) [] [] [] [] [] vs (HE i) [] []=some ((vs,HE t,[],[]),true)
 | 0,i,hk=>Gp (by
  have:i=t:=by omega
  subst this
  unfold EO
  rw [if_neg (by simp)])
 | k+1,i,hk=>Gp (by
  unfold EO
  have w:IntKind.i64.wrap ((i:Int)+1)=(i:Int)+1:=BH (by omega)
  rw [if_pos (decide_eq_true (by omega)),if_pos (by rw [FJ]; simp only [List.length_cons,List.length_nil]; omega),w]
  exact Oa t ht vs k (i+1) (by omega))
theorem MT {n t:Nat} (hn:1<=n/\n<=5) (ht:1<=t/\t<=4):Fn (n:Int) (t:Int)=some (Er n t,true):=OK (by
 unfold I7
 rw [Ba,Z,if_pos (by rw [<- Bool.decide_and,decide_eq_true (by omega)]; rfl),Ba,Z,if_neg (by rw [<- Bool.decide_and,decide_eq_true (by omega)]; simp)]
 refine LR ?_
 unfold Gn
 rw [if_pos (by omega),if_pos (by omega),DH]
 exact Oa t ht.2 _ t 0 (by omega))
theorem NW {t:Nat} {e:FW} (h:F3 t e):G8 e (t:Int)=some true:=P5 (by
 unfold Kn
 rw [Ba,Z,if_pos (by rw [<- Bool.decide_and,decide_eq_true h.kind]; rfl),Ba,Z,if_pos (by rw [<- Bool.decide_and,decide_eq_true h.id]; rfl),if_neg (by have:=h.at_; simpa using this)]
 refine M9 ?_
 unfold IJ
 have hv:=h.val
 by_cases h1:e.1=1
 ·rw [if_pos h1] at hv
  rw [if_pos (by simpa using h1),Ba,Z,<- Bool.decide_and,decide_eq_true hv]
 ·rw [if_neg h1] at hv
  rw [if_neg (by simpa using h1),hv]
  simp)
theorem QD (b:Bool):JV b=some (J9 b):=Rh (by
 unfold Mf J9
 cases b<;>rfl)
theorem Pc {n t:Nat} (hn:n<=5) (ht:t<=4) {es:List FW} (hl:es.length<=1000) (he:∀ e∈es,F3 t e) (c0:Es) :
  ∀ (k i:Nat) (c:Es) (cs:List Int),i+k=es.length->HW n t i c->cs.length=i ->
   C9 es (es.length:Int) (i:Int) [] [] [] [] [] c.1 c.2.1 c.2.2.1 c.2.2.2 cs=some ((RL true (es.drop i) c cs).1,(RL true (es.drop i) c cs).2,true)
 | 0,i,c,cs,hk,hc,hcs=>Gu (by
  unfold EP
  rw [if_neg (by rw [decide_eq_false (by omega)]; simp),List.drop_eq_nil_of_le (by omega)]
  rfl)
 | k+1,i,c,cs,hk,hc,hcs=>Gu (by
  have hi:i<es.length:=by omega
  have hei:=he _ (E2 hi)
  have hz:es.getD i ((0:Int),(0:Int),(0:Int),AA)=es[i]:=CW hi
  unfold EP
  rw [if_pos (decide_eq_true (by omega)),if_pos (by omega),if_pos (by omega),DH,hz]
  change ((Cm es[i] c).bind _)=_
  rw [PE hc hn ht (by omega) hei,Z,QD,Z,if_pos (by simp only [List.length_cons,List.length_nil]; omega),Bv (by omega),D4 hi]
  exact Pc hn ht hl he c0 k (i+1) _ _ (by omega) (hc.happen true hn ht hei) (by simp [hcs]))
theorem MU {n t:Nat} (hn:1<=n/\n<=5) (ht:1<=t/\t<=4) {es:List FW} (hl:es.length<=80) (he:∀ e∈es,F3 t e) :
  Fo (n:Int) (t:Int) es=some ((RL true es (Er n t) []).1,(RL true es (Er n t) []).2,true):=OL (by
 unfold I8
 rw [MT hn ht,Z,if_pos (by rfl),if_neg (by rw [decide_eq_false (by omega)]; simp)]
 refine LW ?_
 unfold Gt
 refine WJ (n:=es.length) (P:=fun i=>C_ (t:Int) es es (es.length:Int) (i:Int) [] [] [] [] [] (Er n t).1 (Er n t).2.1 (Er n t).2.2.1 (Er n t).2.2.2=some ((RL true es (Er n t) []).1,(RL true es (Er n t) []).2,true)) (Gv (by
  unfold EQ
  rw [if_neg (by simp)]
  refine LV ?_
  unfold Gs
  have:=Pc hn.2 ht.2 (es:=es) (by omega) he (Er n t) es.length 0 (Er n t) [] (by omega) (Sl n t) rfl
  rw [List.drop_zero] at this
  exact this)) (fun i hi ih=>Gv (by
  have hei:=he _ (E2 hi)
  have hz:es.getD i ((0:Int),(0:Int),(0:Int),AA)=es[i]:=CW hi
  unfold EQ
  rw [if_pos (decide_eq_true (by omega)),if_pos (by omega),if_pos (by omega),DH,hz,NW hei,Z,if_neg (by simp),Bv (by omega)]
  exact ih)) 0 (by omega))

def WM (kp:Bool) (e:FW) (c:Es) (t:Im):Bool×Es :=
 if J8 t>10000 then (false,c)
 else (true,(c.1,c.2.1.set (e.2.1-1).toNat (t.1,J8 t,e.2.2.2,[],false,[],kp&&t.2.2.2.2.2.2),c.2.2.1++JY 1 t.1 (J8 t) AA 0 c.1.length,c.2.2.2))
theorem RM (kp:Bool) (e:FW) (c:Es):Fz kp e c=WM kp e c (c.2.1.getD (e.2.1-1).toNat BE):=rfl
def WN (m:Am) (c:Es) (t:Im):Bool×Es :=
 if m.2.2.2.1≠t.2.1\/t.2.2.2.2.1=true\/t.2.2.2.1.any (fun x=>x.2.1==m.2.1)=true then (false,c)
 else if ((t.2.2.2.1++[m]).length:Int)=De c.1.length then
  (true,(c.1,c.2.1.set (m.2.2.1-1).toNat (t.1,t.2.1,ED (t.2.2.2.1++[m]) 0 t.2.2.1,t.2.2.2.1++[m],true,t.2.2.2.2.2),c.2.2.1++JY 3 t.1 t.2.1 (ED (t.2.2.2.1++[m]) 0 t.2.2.1) 0 c.1.length,c.2.2.2))
 else (true,(c.1,c.2.1.set (m.2.2.1-1).toNat (t.1,t.2.1,t.2.2.1,t.2.2.2.1++[m],t.2.2.2.2),c.2.2))
theorem Pd (m:Am) (c:Es):Eh m c=WN m c (c.2.1.getD (m.2.2.1-1).toNat BE):=rfl
def X3 (m:Am) (c:Es) (t:Im):Bool×Es :=
 if m.2.2.2.1≠t.2.1\/t.2.2.2.2.2.1.contains m.2.1=true then (false,c)
 else if ((t.2.2.2.2.2.1++[m.2.1]).length:Int)=De c.1.length then
  (true,(c.1,c.2.1.set (m.2.2.1-1).toNat (t.1,t.2.1,t.2.2.1,t.2.2.2.1,t.2.2.2.2.1,t.2.2.2.2.2.1++[m.2.1],true),c.2.2.1,c.2.2.2++[t.2.2.1]))
 else (true,(c.1,c.2.1.set (m.2.2.1-1).toNat (t.1,t.2.1,t.2.2.1,t.2.2.2.1,t.2.2.2.2.1,t.2.2.2.2.2.1++[m.2.1],t.2.2.2.2.2.2),c.2.2))
theorem Ta (m:Am) (c:Es):KZ m c=X3 m c (c.2.1.getD (m.2.2.1-1).toNat BE):=rfl
def Ub (m:Am) (c:Es) (r:Bs×Am×Bool):Bool×Es:=(r.2.2,(c.1.set (m.2.2.1-1).toNat r.1,c.2.1,if r.2.2=true then c.2.2.1++[r.2.1] else c.2.2.1,c.2.2.2))
theorem Uc (m:Am) (c:Es):RH m c=Ub m c (Bb (c.1.getD (m.2.2.1-1).toNat Aj) m):=rfl
theorem Ej (m:Am) (c:Es) (h:c.2.2.1.length<=1000000):D3 m c=some (c.1,c.2.1,c.2.2.1++[m],c.2.2.2):=Ri (by
 unfold Mg
 rw [if_pos (by simp only [List.length_nil]; omega),if_pos (by simp only [List.nil_append,List.length_cons,List.length_nil]; omega),List.nil_append])
theorem Db (t:Im) (c:Es) (h:c.2.1.length<=1000) (h1:1<=t.1/\t.1<=(c.2.1.length:Int)):DN t c=some (c.1,c.2.1.set (t.1-1).toNat t,c.2.2):=Rj (by
 unfold Mh
 rw [if_pos (by simp only [List.length_nil]; omega),BH (by omega),if_pos (by omega),if_pos (by rw [List.nil_append]; omega),List.nil_append])
theorem J_ (b:Int) (e:FW) (o:Im) (n:Nat) (hn:n<=5):∀ (k i:Nat) (c:Es),i+k=n->c.1.length=n->c.2.2.1.length+k<=1000000 ->
  DA b ((i:Int)+1) c e o=some (0,(c.1,c.2.1,c.2.2.1++JY 1 e.2.1 b AA i k,c.2.2.2))
 | 0,i,c,hk,hc,hl=>Gy (by
  unfold ER
  rw [if_neg (by rw [decide_eq_false (by omega)]; simp)]
  simp [JY])
 | k+1,i,c,hk,hc,hl=>Gy (by
  unfold ER
  rw [if_pos (decide_eq_true (by omega)),Ej _ _ (by omega),Z,show IntKind.i64.wrap ((i:Int)+1+1)=((i+1:Nat):Int)+1 from by rw [BH (by omega)]; omega,J_ b e o n hn k (i+1) (c.1,c.2.1,c.2.2.1++[(1,e.2.1,(i:Int)+1,b,0,AA)],c.2.2.2) (by omega) hc (by simp only [List.length_append,List.length_cons,List.length_nil]; omega)]
  simp [JY])
theorem Lo {n t k:Nat} {c:Es} (h:HW n t k c) {e:FW} (hn:n<=5) (ht:t<=4) (hk:k<=1000) (he:F3 t e):Fq e c=some (J9 (Fz false e c).1,(Fz false e c).2):=OS (by
 have hid:=he.id
 have hj:(e.2.1-1).toNat<t:=by omega
 have htr:=h.tr _ hj
 have hcl:=h.cl
 have hnl:=h.nl
 have hvl:=h.vl
 have hb:=htr.ballot
 have hii:=htr.id
 have hie:(c.2.1.getD (e.2.1-1).toNat BE).1=e.2.1:=by omega
 have w:IntKind.i64.wrap (e.2.1-1)=e.2.1-1:=BH (by omega)
 have J0:∀ x o,DB x c e o=some (if x>10000 then (1,c) else (0,(c.1,c.2.1.set (e.2.1-1).toNat (e.2.1,x,e.2.2.2,[],false,[],false),c.2.2.1++JY 1 e.2.1 x AA 0 c.1.length,c.2.2.2))):=fun x o=>Lc (by
  unfold Gx
  by_cases hx:x>10000
  ·rw [if_pos (decide_eq_true hx),if_pos hx]
  ·rw [if_neg (by rw [decide_eq_false hx]; simp),if_neg hx,Db (e.2.1,x,e.2.2.2,[],false,[],false) c (by omega) ⟨hid.1,by rw [hcl]; exact hid.2⟩,Z]
   have:=J_ x e o n hn n 0 (c.1,c.2.1.set (e.2.1-1).toNat (e.2.1,x,e.2.2.2,[],false,[],false),c.2.2) (by omega) hvl (by simp only; omega)
   rw [hvl]
   exact this)
 rw [RM]
 unfold JF
 rw [w,if_pos (by omega),if_pos (by omega)]
 obtain ⟨tt,htt⟩:∃ tt,c.2.1.getD (e.2.1-1).toNat BE=tt:=⟨_,rfl⟩
 have htt':c.2.1.getD (e.2.1-1).toNat (((0:Int),(0:Int),AA,([]:List Am),false,([]:List Int),false):Im)=tt:=htt
 rw [htt] at hb hie
 rw [htt',htt]
 unfold WM J8 J9
 rw [hie,J0,J0,Bool.false_and]
 by_cases h0:tt.2.1=0
 ·rw [if_neg (by simp only [decide_eq_true_eq]; omega)]
  simp only [h0,if_true]
  split<;>rfl
 ·rw [if_pos (by simp only [decide_eq_true_eq]; omega),BH (n:=tt.2.1+10) (by omega)]
  simp only [h0,if_false]
  split<;>rfl)
theorem Ia (x:List Am) (h:x.length<=maxLen):∀ (k i:Nat) (b:Int) (v:ByteArray),i+k=x.length->CU x b v (i:Int)=some (ED (x.drop i) b v)
 | 0,i,b,v,hk=>HV (by
  unfold Eq
  rw [if_neg (by rw [decide_eq_false (by omega)]; simp),List.drop_eq_nil_of_le (by omega)]
  rfl)
 | k+1,i,b,v,hk=>HV (by
  have hm:x.length<=9223372036854775807:=h
  have hi:i<x.length:=by omega
  have hz:x.getD i ((0:Int),(0:Int),(0:Int),(0:Int),(0:Int),AA)=x[i]:=CW hi
  have J1:∀ q,DV x b v (i:Int) q=some (if q=true then ED (x.drop (i+1)) x[i].2.2.2.2.1 x[i].2.2.2.2.2 else ED (x.drop (i+1)) b v):=fun q=>MR (by
   unfold HU
   cases q with
   | true=>rw [if_pos rfl,if_pos (by omega),if_pos (by omega),if_pos (by omega),if_pos (by omega),DH,hz,Bv (by omega),Ia x h k (i+1) _ _ (by omega),if_pos rfl]
   | false=>rw [if_neg (by simp),Bv (by omega),Ia x h k (i+1) _ _ (by omega),if_neg (by simp)])
  unfold Eq
  rw [if_pos (decide_eq_true (by omega)),if_pos (by omega),if_pos (by omega),DH,hz,D4 hi,NT]
  by_cases h1:x[i].1=2
  ·rw [if_pos (by simpa using h1),if_pos (by omega),if_pos (by omega),J1]
   by_cases h2:x[i].2.2.2.2.1>b
   ·rw [if_pos (decide_eq_true h2),if_pos ⟨h1,h2⟩]
   ·rw [if_neg (by rw [decide_eq_false h2]; simp),if_neg (fun q=>h2 q.2)]
  ·rw [if_neg (by simpa using h1),J1,if_neg (by simp),if_neg (fun q=>h1 q.1)])
theorem MV (x:List Am) (v:ByteArray) (h:x.length<=maxLen):GB x v=some (ED x 0 v):=PC (by
 unfold J7
 exact Ia x h x.length 0 0 v (by omega))
theorem KA (n:Nat) (h:n<=1000):GQ (n:Int)=some (De n):=Rk (by
 unfold Mi De
 rw [if_neg (by rw [decide_eq_false (by omega)]; simp),if_neg (by decide),Int.tdiv_eq_ediv_of_nonneg (by omega),BH (n:=(n:Int) / 2) (by omega),BH (by omega)])
theorem KB (m:Am) (t:Im) (ps:List Am) (n:Nat) (hn:n<=5):∀ (k i:Nat) (c:Es),i+k=n->c.1.length=n->c.2.2.1.length+k<=1000000->c.2.1.length<=1000->1<=t.1/\t.1<=(c.2.1.length:Int) ->
  DC ((i:Int)+1) c m t ps=some (0,(c.1,c.2.1.set (t.1-1).toNat t,c.2.2.1++JY 3 t.1 t.2.1 t.2.2.1 i k,c.2.2.2))
 | 0,i,c,hk,hc,hl,h2,h3=>G3 (by
  unfold ET
  rw [if_neg (by rw [decide_eq_false (by omega)]; simp),Db _ _ h2 h3,Z]
  simp [JY])
 | k+1,i,c,hk,hc,hl,h2,h3=>G3 (by
  unfold ET
  rw [if_pos (decide_eq_true (by omega)),Ej _ _ (by omega),Z,show IntKind.i64.wrap ((i:Int)+1+1)=((i+1:Nat):Int)+1 from by rw [BH (by omega)]; omega,KB m t ps n hn k (i+1) (c.1,c.2.1,c.2.2.1++[(3,t.1,(i:Int)+1,t.2.1,0,t.2.2.1)],c.2.2.2) (by omega) hc (by simp only [List.length_append,List.length_cons,List.length_nil]; omega) h2 h3]
  simp [JY])
theorem Lq (c:Es) (m:Am) (tt:Im) (hl:tt.2.2.2.1.length<=1000000):∀ (q i:Nat),i+q=tt.2.2.2.1.length->∀ r,(if ((tt.2.2.2.1.drop i).any fun x=>x.2.1==m.2.1)=true then some ((1:Int),c) else DD c m tt)=some r->DE (i:Int) c m tt=some r
 | 0,i,hi,r,hr=>G4 (by
  rw [List.drop_eq_nil_of_le (by omega)] at hr
  unfold EU
  rw [if_neg (by rw [decide_eq_false (by omega)]; simp)]
  exact hr)
 | q+1,i,hi,r,hr=>G4 (by
  have hil:i<tt.2.2.2.1.length:=by omega
  have hz:tt.2.2.2.1.getD i ((0:Int),(0:Int),(0:Int),(0:Int),(0:Int),AA)=tt.2.2.2.1[i]:=CW hil
  rw [D4 hil,List.any_cons] at hr
  unfold EU
  rw [if_pos (decide_eq_true (by omega)),if_pos (by omega),if_pos (by omega),DH,hz]
  by_cases e:tt.2.2.2.1[i].2.1=m.2.1
  ·have e':(tt.2.2.2.1[i].2.1==m.2.1)=true:=by simpa using e
   rw [if_pos e']
   rw [e',Bool.true_or,if_pos rfl] at hr
   exact hr
  ·have e':(tt.2.2.2.1[i].2.1==m.2.1)=false:=by simpa using e
   rw [if_neg (by simp [e']),Bv (by omega)]
   rw [e',Bool.false_or] at hr
   exact Lq c m tt hl q (i+1) (by omega) r hr)
theorem Lr {n t k:Nat} {c:Es} (h:HW n t k c) {m:Am} (hn:n<=5) (ht:t<=4) (hk:k<=1000) (hm:1<=m.2.2.1/\m.2.2.1<=(t:Int)):Fs m c=some (J9 (Eh m c).1,(Eh m c).2):=OT (by
 have hj:(m.2.2.1-1).toNat<t:=by omega
 have htr:=h.tr _ hj
 have hcl:=h.cl
 have hnl:=h.nl
 have hvl:=h.vl
 have w:IntKind.i64.wrap (m.2.2.1-1)=m.2.2.1-1:=BH (by omega)
 rw [Pd]
 unfold JG
 rw [w,if_pos (by omega),if_pos (by omega)]
 obtain ⟨tt,htt⟩:∃ tt,c.2.1.getD (m.2.2.1-1).toNat BE=tt:=⟨_,rfl⟩
 have htt':c.2.1.getD (m.2.2.1-1).toNat (((0:Int),(0:Int),AA,([]:List Am),false,([]:List Int),false):Im)=tt:=htt
 rw [htt] at htr
 rw [htt',htt]
 unfold WN J9
 have hpl:=htr.pl
 have hii:=htr.id
 have hj1:(tt.1-1).toNat=(m.2.2.1-1).toNat:=by omega
 have J2:DD c m tt=some (0,if ((tt.2.2.2.1++[m]).length:Int)=De c.1.length then
    (c.1,c.2.1.set (m.2.2.1-1).toNat (tt.1,tt.2.1,ED (tt.2.2.2.1++[m]) 0 tt.2.2.1,tt.2.2.2.1++[m],true,tt.2.2.2.2.2),c.2.2.1++JY 3 tt.1 tt.2.1 (ED (tt.2.2.2.1++[m]) 0 tt.2.2.1) 0 c.1.length,c.2.2.2)
   else (c.1,c.2.1.set (m.2.2.1-1).toNat (tt.1,tt.2.1,tt.2.2.1,tt.2.2.2.1++[m],tt.2.2.2.2),c.2.2)):=Li (by
  unfold G1
  rw [if_pos (by simp only [List.length_nil]; omega),if_pos (by simp only [List.nil_append,List.length_cons,List.length_nil]; omega)]
  simp only [List.nil_append]
  rw [KA _ (by omega),Z]
  by_cases hc:((tt.2.2.2.1++[m]).length:Int)=De c.1.length
  ·rw [if_pos (by simpa using hc),if_pos hc,MV _ _ (by simp only [List.length_append,List.length_cons,List.length_nil]; unfold maxLen; omega),Z]
   have:=KB m (tt.1,tt.2.1,ED (tt.2.2.2.1++[m]) 0 tt.2.2.1,tt.2.2.2.1++[m],true,tt.2.2.2.2.2) (tt.2.2.2.1++[m]) n hn n 0 c (by omega) hvl (by omega) (by omega) (show 1<=tt.1/\tt.1<=(c.2.1.length:Int) from by omega)
   simp only [hj1] at this
   rw [hvl]
   exact this
  ·rw [if_neg (by simpa using hc),if_neg hc,Db (tt.1,tt.2.1,tt.2.2.1,tt.2.2.2.1++[m],tt.2.2.2.2) c (by omega) (show 1<=tt.1/\tt.1<=(c.2.1.length:Int) from by omega),Z]
   simp only [hj1])
 by_cases h1:m.2.2.2.1=tt.2.1
 ·have e1:(tt.2.1 != m.2.2.2.1)=false:=by simp [h1]
  rw [if_pos e1]
  by_cases h2:tt.2.2.2.2.1=true
  ·rw [if_pos h2]
   simp only [h2,true_or,or_true,if_true]
   rfl
  ·rw [if_neg h2]
   refine Lj ?_
   unfold G2
   refine Lq c m tt (by omega) tt.2.2.2.1.length 0 (by omega) _ ?_
   rw [List.drop_zero]
   by_cases h3:(tt.2.2.2.1.any fun x=>x.2.1==m.2.1)=true
   ·rw [if_pos h3]
    simp only [h3,or_true,if_true]
    rfl
   ·have hn':¬ (m.2.2.2.1≠tt.2.1\/tt.2.2.2.2.1=true\/(tt.2.2.2.1.any fun x=>x.2.1==m.2.1)=true):=fun q=>q.elim (fun q=>q h1) fun q=>q.elim h2 h3
    rw [if_neg h3,J2]
    simp only [if_neg hn']
    split<;>rfl
 ·have e1:¬ (tt.2.1 != m.2.2.2.1)=false:=by simpa using fun q=>h1 q.symm
  rw [if_neg e1]
  simp only [ne_eq,h1,not_false_eq_true,true_or,if_true]
  rfl)
theorem RN (x:List Int) (n:Int) (h:x.length<=maxLen):KU x n=some (x.contains n):=Sj (by
 have hm:x.length<=9223372036854775807:=h
 unfold OO
 have key:=WJ (n:=x.length) (P:=fun i=>E7 x n (i:Int)=some ((x.drop i).contains n)) (Km (by
  unfold HD
  rw [if_neg (by simp)]
  simp)) (fun i hi ih=>Km (by
  unfold HD
  rw [if_pos (decide_eq_true (by omega)),if_pos (by omega),if_pos (by omega),DH,CW hi,Bv (by omega),ih,D4 hi,List.contains_cons]
  by_cases e:n=x[i]
  ·subst e; simp
  ·have e':(n==x[i])=false:=by simpa using e
   rw [if_neg (by simp; exact fun q=>e q.symm),e',Bool.false_or])) 0 (by omega)
 rw [List.drop_zero] at key
 exact key)
theorem NX {n t k:Nat} {c:Es} (h:HW n t k c) {m:Am} (hn:n<=5) (ht:t<=4) (hk:k<=1000) (hm:1<=m.2.2.1/\m.2.2.1<=(t:Int)):G_ m c=some (J9 (KZ m c).1,(KZ m c).2):=P8 (by
 have hj:(m.2.2.1-1).toNat<t:=by omega
 have htr:=h.tr _ hj
 have hcl:=h.cl
 have hvl:=h.vl
 have hch:=h.ch
 have w:IntKind.i64.wrap (m.2.2.1-1)=m.2.2.1-1:=BH (by omega)
 rw [Ta]
 unfold Kq
 rw [w,if_pos (by omega),if_pos (by omega)]
 obtain ⟨tt,htt⟩:∃ tt,c.2.1.getD (m.2.2.1-1).toNat BE=tt:=⟨_,rfl⟩
 have htt':c.2.1.getD (m.2.2.1-1).toNat (((0:Int),(0:Int),AA,([]:List Am),false,([]:List Int),false):Im)=tt:=htt
 rw [htt] at htr
 rw [htt',htt]
 unfold X3 J9
 have htl:=htr.tl
 have hii:=htr.id
 have hj1:(tt.1-1).toNat=(m.2.2.1-1).toNat:=by omega
 have J0:∀ b,FD b c m tt=some (0,if ((tt.2.2.2.2.2.1++[m.2.1]).length:Int)=De c.1.length then
    (c.1,c.2.1.set (m.2.2.1-1).toNat (tt.1,tt.2.1,tt.2.2.1,tt.2.2.2.1,tt.2.2.2.2.1,tt.2.2.2.2.2.1++[m.2.1],true),c.2.2.1,c.2.2.2++[tt.2.2.1])
   else (c.1,c.2.1.set (m.2.2.1-1).toNat (tt.1,tt.2.1,tt.2.2.1,tt.2.2.2.1,tt.2.2.2.2.1,tt.2.2.2.2.2.1++[m.2.1],tt.2.2.2.2.2.2),c.2.2)):=fun b=>NB (by
  unfold IP
  rw [if_pos (by simp only [List.length_nil]; omega),if_pos (by simp only [List.nil_append,List.length_cons,List.length_nil]; omega)]
  simp only [List.nil_append]
  rw [KA _ (by omega),Z]
  by_cases hc:((tt.2.2.2.2.2.1++[m.2.1]).length:Int)=De c.1.length
  ·rw [if_pos (by simpa using hc),if_pos hc,if_pos (by simp only [List.length_nil]; omega),if_pos (by simp only [List.length_cons,List.length_nil]; omega),Db (tt.1,tt.2.1,tt.2.2.1,tt.2.2.2.1,tt.2.2.2.2.1,tt.2.2.2.2.2.1++[m.2.1],true) (c.1,c.2.1,c.2.2.1,c.2.2.2++[tt.2.2.1]) (by simp only; omega) (show 1<=tt.1/\tt.1<=(c.2.1.length:Int) from by omega),Z]
   simp only [hj1]
  ·rw [if_neg (by simpa using hc),if_neg hc,Db (tt.1,tt.2.1,tt.2.2.1,tt.2.2.2.1,tt.2.2.2.2.1,tt.2.2.2.2.2.1++[m.2.1],tt.2.2.2.2.2.2) c (by omega) (show 1<=tt.1/\tt.1<=(c.2.1.length:Int) from by omega),Z]
   simp only [hj1])
 by_cases h1:m.2.2.2.1=tt.2.1
 ·have e1:(tt.2.1 != m.2.2.2.1)=false:=by simp [h1]
  rw [if_pos e1,RN _ _ (by unfold maxLen; omega),Z]
  by_cases h2:(tt.2.2.2.2.2.1.contains m.2.1)=true
  ·rw [if_pos h2]
   simp only [h2,or_true,if_true]
   rfl
  ·have hn':¬ (m.2.2.2.1≠tt.2.1\/(tt.2.2.2.2.2.1.contains m.2.1)=true):=fun q=>q.elim (fun q=>q h1) h2
   rw [if_neg h2,J0]
   simp only [if_neg hn']
   split<;>rfl
 ·have e1:¬ (tt.2.1 != m.2.2.2.1)=false:=by simpa using fun q=>h1 q.symm
  rw [if_neg e1]
  simp only [ne_eq,h1,not_false_eq_true,true_or,if_true]
  rfl)
theorem NY {n t k:Nat} {c:Es} (h:HW n t k c) {m:Am} (hn:n<=5) (ht:t<=4) (hk:k<=1000) (hm:NS n t m):E6 m c=some (J9 (Ka m c).1,(Ka m c).2):=P7 (by
 unfold Kp Ka
 have hvl:=h.vl
 have hnl:=h.nl
 by_cases h2:m.1=2
 ·have hm2:1<=m.2.2.1/\m.2.2.1<=(t:Int):=by rcases hm with ⟨a,_⟩ | ⟨a,b,_⟩<;>omega
  rw [if_pos (by simpa using h2),Lr h hn ht hk hm2,Z,if_neg (by omega),if_pos h2]
 ·rw [if_neg (by simpa using h2)]
  by_cases h4:m.1=4
  ·have hm2:1<=m.2.2.1/\m.2.2.1<=(t:Int):=by rcases hm with ⟨a,_⟩ | ⟨a,b,_⟩<;>omega
   rw [if_pos (by simpa using h4),NX h hn ht hk hm2,Z,if_neg (by omega),if_neg h2]
  ·have hm1:(m.1=1\/m.1=3)/\1<=m.2.2.1/\m.2.2.1<=(n:Int):=by rcases hm with ⟨a,b,_⟩ | ⟨a,_⟩<;>omega
   have w:IntKind.i64.wrap (m.2.2.1-1)=m.2.2.1-1:=BH (by omega)
   rw [if_neg (by simpa using h4),if_pos hm1.1]
   refine M_ ?_
   unfold IL
   rw [w,if_pos (by omega),if_pos (by omega)]
   rw [Uc]
   obtain ⟨v,hv⟩:∃ v,c.1.getD (m.2.2.1-1).toNat Aj=v:=⟨_,rfl⟩
   have hv':c.1.getD (m.2.2.1-1).toNat (((0:Int),(0:Int),AA):Bs)=v:=hv
   have hs:c.1.set (m.2.2.1-1).toNat v=c.1:=by
    rw [<- hv,CW (show (m.2.2.1-1).toNat<c.1.length by omega),List.set_getElem_self]
   rw [hv',hv,NQ,Z]
   have hsm:=@SB v m
   generalize Bb v m=r at hsm
   obtain ⟨r1,r2,r3⟩:=r
   unfold Ub J9
   dsimp only at hsm ⊢
   cases r3 with
   | true =>
    rw [if_neg (by simp),if_pos (by simp only [List.length_nil]; omega),if_pos (by omega),if_pos (by simp only [List.nil_append]; omega)]
    rw [List.nil_append,Ej r2 (c.1.set (m.2.2.1-1).toNat r1,c.2) (by simp only; omega),Z]
    rfl
   | false =>
    have:=hsm rfl
    subst this
    rw [if_pos (by simp),hs]
    rfl)
theorem QE {n t k:Nat} {c:Es} (h:HW n t k c) {e:FW} (hn:n<=5) (ht:t<=4) (hk:k<=1000) (he:F3 t e):KV e c=some (J9 (Ei false e c).1,(Ei false e c).2):=Sk (by
 have hnl:=h.nl
 unfold OQ Ei
 by_cases h1:e.1=1
 ·rw [if_pos (by simpa using h1),if_pos h1,Lo h hn ht hk he,Z]
 ·rw [if_neg (by simpa using h1),if_neg h1]
  by_cases h0:c.2.2.1.length=0
  ·rw [if_pos (by simp [h0]),if_pos h0]; rfl
  ·have hp:=OY he.at_ h0
   have hm:c.2.2.1.getD (DO e c) CX∈c.2.2.1:=by rw [CW hp]; exact E2 hp
   have em:Int.tmod e.2.2.1 (c.2.2.1.length:Int)=(DO e c:Int):=by
    have h2:=Int.emod_nonneg e.2.2.1 (show (c.2.2.1.length:Int)≠0 by omega)
    rw [Int.tmod_eq_emod_of_nonneg he.at_]
    unfold DO
    omega
   rw [if_neg (by simpa using h0),if_neg h0,em,if_neg (by omega),if_pos (by omega),if_pos (by omega),DH]
   simp only [XU]
   by_cases h4:e.1=4
   ·rw [if_pos (by simpa using h4),if_pos h4,Ej _ _ (by omega),Z]; rfl
   ·have hc:(([]:List Am)++((c.2.2.1.take (DO e c)).drop (0:Int).toNat))++((c.2.2.1.take (c.2.2.1.length:Int).toNat).drop (((DO e c+1:Nat):Int)).toNat)=c.2.2.1.take (DO e c)++c.2.2.1.drop (DO e c+1):=by
     rw [List.nil_append,DH,DH,List.take_length]
     rfl
    rw [if_neg (by simpa using h4),if_neg h4,Bv (by omega),if_pos (by omega),if_pos (by omega),if_pos (by omega),if_pos (by omega),if_pos (by omega),if_pos (by omega),
     if_pos (by simp only [List.length_nil,List.length_drop,List.length_take]; omega),if_pos (by simp only [List.length_nil,List.length_append,List.length_drop,List.length_take]; omega),hc]
    by_cases h3:e.1=3
    ·rw [if_pos (by simpa using h3),if_pos h3]
     rfl
    ·rw [if_neg (by simpa using h3),if_neg h3]
     change ((E6 (c.2.2.1.getD (DO e c) CX) (RI e c)).bind _)=_
     rw [NY (h.less e) hn ht hk (h.nt _ hm),Z])

theorem Ob (t:Nat) (ht:t<=4) (q vs:List Bs):∀ (k i:Nat),i+k=t->C7 (t:Int) ((i:Int)+1) [] [] [] [] q (HE i) vs=some ((vs,HE t,[],[]),true)
 | 0,i,hk=>Gl (by
  have:i=t:=by omega
  subst this
  unfold EN
  rw [if_neg (by rw [decide_eq_false (by omega)]; simp)])
 | k+1,i,hk=>Gl (by
  unfold EN
  rw [if_pos (decide_eq_true (by omega)),if_pos (by rw [FJ]; simp only [List.length_cons,List.length_nil]; omega),show IntKind.i64.wrap ((i:Int)+1+1)=((i+1:Nat):Int)+1 from by rw [BH (by omega)]; omega]
  exact Ob t ht q vs k (i+1) (by omega))
theorem MW {n t:Nat} (hn:1<=n/\n<=5) (ht:1<=t/\t<=4):Fm (n:Int) (t:Int)=some (Er n t,true):=OJ (by
 unfold I6
 rw [E8,Z,if_pos (by rw [<- Bool.decide_and,decide_eq_true (by omega)]; rfl),E8,Z,if_neg (by rw [<- Bool.decide_and,decide_eq_true (by omega)]; simp)]
 refine LP ?_
 unfold Gk
 rw [if_pos (by omega),if_pos (by omega),DH]
 exact Ob t ht.2 _ _ t 0 (by omega))
theorem QF {v:ByteArray} (h:v∈IY):1<=(v.size:Int)/\(v.size:Int)<=40:=by
 simp only [IY,AO,List.not_mem_nil,or_false] at h
 rcases h with rfl | rfl | rfl | rfl | rfl<;>exact ⟨by decide,by decide⟩
theorem Oc {n t N:Nat} (hn:n<=5) (ht:1<=t/\t<=4) (hNb:N<=79):∀ (k i:Nat) (d:Mj) (es:List FW) (c:Es),i+k=N->TW d->HW n t i c->es.length=i->(∀ e∈es,F3 t e) ->
  ∃ es' d',Bh (N:Int) (i:Int) d [] 0 0 es (n:Int) (t:Int) c=some (((n:Int),(t:Int),es'),d')/\es'.length=N/\∀ e∈es',F3 t e
 | 0,i,d,es,c,hk,hd,hc,hl,he=>⟨es,d,JD (by
  unfold Fx
  rw [if_neg (by rw [decide_eq_false (by omega)]; simp)]),by omega,he⟩
 | k+1,i,d,es,c,hk,hd,hc,hl,he=>by
  have J3:∀ (d:Mj) (e:FW),TW d->F3 t e->∃ es' d',EB (N:Int) (i:Int) d [] 0 0 es (n:Int) (t:Int) c e=some (((n:Int),(t:Int),es'),d')/\es'.length=N/\∀ e∈es',F3 t e:=fun d e hd hh=>by
   obtain ⟨es',d',h1,h2,h3⟩:=Oc hn ht hNb k (i+1) d (es++[e]) (Ei false e c).2 (by omega) hd (hc.happen false hn ht.2 hh) (by simp [hl]) (fun x hx=>by
    rcases Ak.1 hx with hx | hx
    ·exact he x hx
    ·rw [Bz.1 hx]; exact hh)
   refine ⟨es',d',OP ?_,h2,h3⟩
   unfold JA
   rw [QE hc hn ht.2 (by omega) hh,Z,if_pos (by simp only [List.length_cons,List.length_nil]; omega),Bv (by omega)]
   exact h1
  have J2:∀ (d:Mj) (e:FW),TW d->(1<=e.1/\e.1<=4)->(1<=e.2.1/\e.2.1<=(t:Int))->0<=e.2.2.1->e.2.2.2=AA->∃ es' d',EC (N:Int) (i:Int) d [] 0 0 es (n:Int) (t:Int) c e=some (((n:Int),(t:Int),es'),d')/\es'.length=N/\∀ e∈es',F3 t e:=fun d e hd h1 h2 h3 h4=>by
   by_cases h5:e.1=1
   ·obtain ⟨v,d1,e1,k1,hv⟩:=NR d hd
    obtain ⟨es',d',g1,g2,g3⟩:=J3 d1 (e.1,e.2.1,e.2.2.1,v) k1 ⟨h1,h2,h3,by simp only [h5,if_true]; exact QF hv⟩
    refine ⟨es',d',JB ?_,g2,g3⟩
    unfold Fv
    rw [if_pos (by simpa using h5),e1,Z]
    exact g1
   ·obtain ⟨es',d',g1,g2,g3⟩:=J3 d e hd ⟨h1,h2,h3,by rw [if_neg h5,h4]; rfl⟩
    refine ⟨es',d',JB ?_,g2,g3⟩
    unfold Fv
    rw [if_neg (by simpa using h5)]
    exact g1
  obtain ⟨x1,d1,e1,k1,m1⟩:=Ll [1,2,2,2,2,2,2,2,2,3,4] (by simp) d hd
  obtain ⟨x2,d2,e2,k2,a2,b2⟩:=CD (t:Int) d1 k1
  obtain ⟨x3,d3,e3,k3,a3,b3⟩:=CD 12 d2 k2
  have b2:=b2 (by omega)
  have m1:1<=x1/\x1<=4:=by
   simp only [AO,List.not_mem_nil,or_false] at m1
   omega
  have w:IntKind.i64.wrap (1+x2)=1+x2:=BH (by omega)
  have J1:∃ es' d',Fu (N:Int) (i:Int) d3 [] 0 0 es (n:Int) (t:Int) c (x1,1+x2,x3,AA)=some (((n:Int),(t:Int),es'),d')/\es'.length=N/\∀ e∈es',F3 t e:=by
   by_cases h0:c.2.2.1.length=0
   ·obtain ⟨es',d',g1,g2,g3⟩:=J2 d3 (1,1+x2,x3,AA) k3 (by simp) (by simp only; omega) a3 rfl
    refine ⟨es',d',JC ?_,g2,g3⟩
    unfold Fw
    rw [if_pos (by simp [h0])]
    exact g1
   ·obtain ⟨es',d',g1,g2,g3⟩:=J2 d3 (x1,1+x2,x3,AA) k3 m1 (by simp only; omega) a3 rfl
    refine ⟨es',d',JC ?_,g2,g3⟩
    unfold Fw
    rw [if_neg (by simpa using h0)]
    exact g1
  obtain ⟨es',d',g1,g2,g3⟩:=J1
  refine ⟨es',d',JD ?_,g2,g3⟩
  unfold Fx
  rw [if_pos (decide_eq_true (by omega)),e1,Z,e2,Z,e3,Z,w]
  exact g1
theorem Kz (x:List Int) (hx:x.length<=1048576):∃ (n t:Nat) (es:List FW),FA x=some ((n:Int),(t:Int),es)/\(1<=n/\n<=5)/\(1<=t/\t<=3)/\es.length<=79/\∀ e∈es,F3 t e:=by
 obtain ⟨d,e,k⟩:=PD x (by unfold maxLen; omega)
 obtain ⟨x1,d1,e1,k1,a1,b1⟩:=CD 5 d k
 obtain ⟨x2,d2,e2,k2,a2,b2⟩:=CD 3 d1 k1
 have b1:=b1 (by omega)
 have b2:=b2 (by omega)
 obtain ⟨n,rfl⟩:=Int.eq_ofNat_of_zero_le a1
 obtain ⟨t,rfl⟩:=Int.eq_ofNat_of_zero_le a2
 have w1:IntKind.i64.wrap (1+(n:Int))=((n+1:Nat):Int):=by rw [BH (by omega)]; omega
 have w2:IntKind.i64.wrap (1+(t:Int))=((t+1:Nat):Int):=by rw [BH (by omega)]; omega
 obtain ⟨N,hNb,eN⟩:∃ N:Nat,N<=79/\∀ r:Option ((Int×Int×List FW)×Mj),(if (3:Int)=0 then none else (if decide (IntKind.i64.wrap (20+IntKind.i64.wrap (Int.tdiv (x.length:Int) 3))>79)=true then Bh 79 0 d2 [] 0 0 [] ((n+1:Nat):Int) ((t+1:Nat):Int) (Er (n+1) (t+1)) else Bh (IntKind.i64.wrap (20+IntKind.i64.wrap (Int.tdiv (x.length:Int) 3))) 0 d2 [] 0 0 [] ((n+1:Nat):Int) ((t+1:Nat):Int) (Er (n+1) (t+1))))=r↔Bh (N:Int) ((0:Nat):Int) d2 [] 0 0 [] ((n+1:Nat):Int) ((t+1:Nat):Int) (Er (n+1) (t+1))=r:=by
  have e3:IntKind.i64.wrap (20+IntKind.i64.wrap (Int.tdiv (x.length:Int) 3))=((20+x.length / 3:Nat):Int):=by
   rw [Int.tdiv_eq_ediv_of_nonneg (by omega),BH (n:=(x.length:Int) / 3) (by omega),BH (by omega)]
   omega
  rw [e3]
  by_cases h:20+x.length / 3>79
  ·exact ⟨79,by omega,fun r=>by rw [if_neg (by decide),if_pos (decide_eq_true (by omega))]; exact Iff.rfl⟩
  ·exact ⟨20+x.length / 3,by omega,fun r=>by rw [if_neg (by decide),if_neg (by rw [decide_eq_false (by omega)]; simp)]; exact Iff.rfl⟩
 obtain ⟨es,d',g1,g2,g3⟩:=Oc (n:=n+1) (t:=t+1) (N:=N) (by omega) (by omega) hNb N 0 d2 [] (Er (n+1) (t+1)) (by omega) k2 (Sl _ _) rfl (fun e he=>by simp at he)
 refine ⟨n+1,t+1,es,M6 ?_,by omega,by omega,by omega,g3⟩
 have hD:H_ x d=some ((((n+1:Nat):Int),((t+1:Nat):Int),es),d'):=RE (by
  unfold LZ
  rw [e1,Z,e2,Z,w1,w2,MW (by omega) (by omega),Z]
  exact (eN _).2 g1)
 unfold IG
 rw [e,Z,hD]
 rfl

def cnt (q:Nat->Bool):Nat->Nat
 | 0=>0
 | n+1=>cnt q n+(if q n=true then 1 else 0)
theorem RO {p q:Nat->Bool}:∀ n,n<cnt p n+cnt q n->∃ a,a<n/\p a=true/\q a=true
 | 0,h=>by simp [cnt] at h
 | n+1,h=>by
  simp only [cnt] at h
  by_cases hp:p n=true
  ·by_cases hq:q n=true
   ·exact ⟨n,by omega,hp,hq⟩
   ·rw [if_pos hp,if_neg hq] at h
    obtain ⟨a,h1,h2⟩:=RO (p:=p) (q:=q) n (by omega)
    exact ⟨a,by omega,h2⟩
  ·have:(if q n=true then 1 else 0)<=1:=by split<;>omega
   rw [if_neg hp] at h
   obtain ⟨a,h1,h2⟩:=RO (p:=p) (q:=q) n (by omega)
   exact ⟨a,by omega,h2⟩
theorem PG {p q:Nat->Bool}:∀ n,(∀ a,a<n->p a=q a)->cnt p n=cnt q n
 | 0,_=>rfl
 | n+1,h=>by rw [cnt,cnt,PG n (fun a ha=>h a (by omega)),h n (by omega)]
theorem Tb {p q:Nat->Bool}:∀ n,(∀ a,a<n->p a=true->q a=true)->cnt p n<=cnt q n
 | 0,_=>Nat.le_refl _
 | n+1,h=>by
  have:=Tb n (fun a ha=>h a (by omega))
  have hn:=h n (by omega)
  rw [cnt,cnt]
  by_cases hp:p n=true
  ·rw [if_pos hp,if_pos (hn hp)]; omega
  ·rw [if_neg hp]; omega
theorem Ud {q:Nat->Bool} {x:Nat} (hq:q x=false):∀ n,x<n->cnt (fun a=>a==x||q a) n=cnt q n+1
 | 0,h=>by omega
 | n+1,h=>by
  rw [cnt,cnt]
  by_cases e:x=n
  ·subst e
   rw [PG (p:=fun a=>a==x||q a) (q:=q) x (fun a ha=>by
    have:(a==x)=false:=by simp; omega
    simp only [this,Bool.false_or]),if_pos (by simp),hq]
   simp
  ·have:(n==x)=false:=by simp; omega
   rw [Ud hq n (by omega)]
   simp only [this,Bool.false_or]
   omega
theorem RP {n:Nat}:∀ L:List Int,L.Nodup->(∀ x∈L,1<=x/\x<=(n:Int))->cnt (fun a=>L.contains ((a:Int)+1)) n=L.length
 | [],_,_=>by
  have:∀ k,cnt (fun a=>([]:List Int).contains ((a:Int)+1)) k=0:=by
   intro k
   induction k with
   | zero=>rfl
   | succ k ih=>rw [cnt,ih]; simp
  exact this n
 | x::L,hd,hx=>by
  have h1:=hx x (by simp)
  obtain ⟨hd1,hd2⟩:=List.nodup_cons.1 hd
  have ih:=RP L hd2 (fun y hy=>hx y (by simp [hy]))
  have hq:(fun a:Nat=>L.contains ((a:Int)+1)) (x-1).toNat=false:=by
   simp only
   rw [show (((x-1).toNat:Nat):Int)+1=x from by omega]
   simpa using hd1
  rw [List.length_cons,<- ih,<- Ud hq n (by omega)]
  refine PG n (fun a ha=>?_)
  simp only [List.contains_cons]
  congr 1
  by_cases e:(a:Int)+1=x
  ·have:a=(x-1).toNat:=by omega
   simp [e,<- this]
  ·have h2:((a:Int)+1==x)=false:=by simpa using e
   have h3:(a==(x-1).toNat)=false:=by simp; omega
   rw [h2,h3]
theorem SC {n:Nat} {p q:Nat->Bool} (hp:De n<=(cnt p n:Int)) (hq:De n<=(cnt q n:Int)):∃ a,a<n/\p a=true/\q a=true:=by
 unfold De at hp hq
 exact RO n (by omega)
abbrev Ml:Type:=Int->Option ByteArray
def Tc (n:Nat) (P:Ml) (A:Nat->Int->Prop) (V:Nat->Bs) (m:Am):Prop :=
 (1<=m.2.1/\m.2.1<=(n:Int))/\(1<=m.2.2.2.1/\m.2.2.2.1<=(V (m.2.1-1).toNat).1)/\(0<=m.2.2.2.2.1/\m.2.2.2.2.1<m.2.2.2.1)/\(0<m.2.2.2.2.1->P m.2.2.2.2.1=some m.2.2.2.2.2) /\
  ∀ b',m.2.2.2.2.1<b'->b'<m.2.2.2.1->¬ A (m.2.1-1).toNat b'
def RQ (n:Nat) (P:Ml) (A:Nat->Int->Prop) (V:Nat->Bs) (b:Int) (v:ByteArray):Prop :=
 ∀ b',0<b'->b'<b->∃ q:Nat->Bool,De n<=(cnt q n:Int)/\∀ a,a<n->q a=true->b'<(V a).1/\(A a b'->P b'=some v)
structure Up (n:Nat) (P P':Ml) (A A':Nat->Int->Prop) (V V':Nat->Bs):Prop where
 p:∀ b v,P b=some v->P' b=some v
 v:∀ a,a<n->(V a).1<=(V' a).1
 a:∀ a b,A' a b->A a b\/(V a).1<=b
 a2:∀ a b,A a b->A' a b
theorem Tc.up {n:Nat} {P P':Ml} {A A':Nat->Int->Prop} {V V':Nat->Bs} {m:Am} (h:Tc n P A V m) (u:Up n P P' A A' V V'):Tc n P' A' V' m:=by
 obtain ⟨h1,h2,h3,h4,h5⟩:=h
 have:=u.v (m.2.1-1).toNat (by omega)
 refine ⟨h1,by omega,h3,fun q=>u.p _ _ (h4 q),fun b' q1 q2 q3=>?_⟩
 rcases u.a _ _ q3 with q | q
 ·exact h5 b' q1 q2 q
 ·omega
theorem RQ.up {n:Nat} {P P':Ml} {A A':Nat->Int->Prop} {V V':Nat->Bs} {b:Int} {v:ByteArray} (h:RQ n P A V b v) (u:Up n P P' A A' V V'):RQ n P' A' V' b v:=fun b' h1 h2=>by
 obtain ⟨q,hq,hh⟩:=h b' h1 h2
 refine ⟨q,hq,fun a ha hqa=>?_⟩
 obtain ⟨g1,g2⟩:=hh a ha hqa
 have:=u.v a ha
 refine ⟨by omega,fun ha'=>?_⟩
 rcases u.a _ _ ha' with q1 | q1
 ·exact u.p _ _ (g2 q1)
 ·omega
structure E1 (n t:Nat) (S:ByteArray->Prop) (P:Ml) (A:Nat->Int->Prop) (c:Es):Prop where
 vok:∀ a,a<n->DW (c.1.getD a Aj)=true
 vac:∀ a,a<n->0<(c.1.getD a Aj).2.1->P (c.1.getD a Aj).2.1=some (c.1.getD a Aj).2.2
 acc:∀ a b,A a b->a<n/\0<b/\b<=(c.1.getD a Aj).2.1/\∃ v,P b=some v
 tb:∀ j,j<t->(c.2.1.getD j BE).2.1=0\/((c.2.1.getD j BE).2.1-((j:Int)+1)) % 10=0
 pb:∀ b v,P b=some v->∃ j,j<t/\(b-((j:Int)+1)) % 10=0/\0<b/\b<=(c.2.1.getD j BE).2.1/\(b=(c.2.1.getD j BE).2.1->(c.2.1.getD j BE).2.2.2.2.1=true/\(c.2.1.getD j BE).2.2.1=v)
 ps:∀ b v,P b=some v->S v
 sv:∀ j,j<t->0<(c.2.1.getD j BE).2.1->S (c.2.1.getD j BE).2.2.1
 safe:∀ b v,P b=some v->RQ n P A (fun a=>c.1.getD a Aj) b v
 n2:∀ m∈c.2.2.1,m.1=2->Tc n P A (fun a=>c.1.getD a Aj) m
 n3:∀ m∈c.2.2.1,m.1=3->P m.2.2.2.1=some m.2.2.2.2.2
 n4:∀ m∈c.2.2.1,m.1=4->A (m.2.1-1).toNat m.2.2.2.1
 pr:∀ j,j<t->∀ m∈(c.2.1.getD j BE).2.2.2.1,m.1=2/\m.2.2.2.1=(c.2.1.getD j BE).2.1/\Tc n P A (fun a=>c.1.getD a Aj) m
 pn:∀ j,j<t->((c.2.1.getD j BE).2.2.2.1.map (·.2.1)).Nodup
 tk:∀ j,j<t->∀ x∈(c.2.1.getD j BE).2.2.2.2.2.1,(1<=x/\x<=(n:Int))/\A (x-1).toNat (c.2.1.getD j BE).2.1
 tn:∀ j,j<t->(c.2.1.getD j BE).2.2.2.2.2.1.Nodup
 ch:∀ v∈c.2.2.2,∃ b,P b=some v/\∃ q:Nat->Bool,De n<=(cnt q n:Int)/\∀ a,a<n->q a=true->A a b
variable {n t:Nat} {S:ByteArray->Prop} {P:Ml} {A:Nat->Int->Prop} {c:Es}
theorem E1.notes (h:E1 n t S P A c) {ns:List Am} (hs:∀ m∈ns,m∈c.2.2.1):E1 n t S P A (c.1,c.2.1,ns,c.2.2.2) :=
 ⟨h.vok,h.vac,h.acc,h.tb,h.pb,h.ps,h.sv,h.safe,fun m hm=>h.n2 m (hs m hm),fun m hm=>h.n3 m (hs m hm),fun m hm=>h.n4 m (hs m hm),h.pr,h.pn,h.tk,h.tn,h.ch⟩
theorem Sm {k:Nat} (hc:HW n t k c) {j:Nat} (hj:j<t) (x:Im) (i:Nat):(c.2.1.set j x).getD i BE=if i=j then x else c.2.1.getD i BE:=by
 by_cases e:i=j
 ·subst e; rw [if_pos rfl,Pb (by rw [hc.cl]; exact hj)]
 ·rw [if_neg e,RJ (fun q=>e q.symm)]
theorem SD {k:Nat} (hc:HW n t k c) {j:Nat} (hj:j<n) (x:Bs) (i:Nat):(c.1.set j x).getD i Aj=if i=j then x else c.1.getD i Aj:=by
 by_cases e:i=j
 ·subst e; rw [if_pos rfl,Pb (by rw [hc.vl]; exact hj)]
 ·rw [if_neg e,RJ (fun q=>e q.symm)]
theorem E1.propose {k:Nat} (h:E1 n t S P A c) (hc:HW n t k c) (ht:t<=4) (kp:Bool) {e:FW} (he:1<=e.2.1/\e.2.1<=(t:Int)) (hs:S e.2.2.2):E1 n t S P A (Fz kp e c).2:=by
 have hj:(e.2.1-1).toNat<t:=by omega
 rw [RM]
 have htr:=hc.tr _ hj
 have htb:=h.tb _ hj
 have gt:=Sm hc hj
 obtain ⟨tt,htt⟩:∃ tt,c.2.1.getD (e.2.1-1).toNat BE=tt:=⟨_,rfl⟩
 rw [htt] at htr htb ⊢
 have hid:=htr.id
 have hba:=htr.ballot
 unfold WM
 split
 ·exact h
 ·rename_i hb
  have hnb:tt.2.1<J8 tt/\((J8 tt)-((((e.2.1-1).toNat:Nat):Int)+1)) % 10=0:=by
   unfold J8
   split<;>omega
  generalize J8 tt=nb at hnb hb
  refine ⟨h.vok,h.vac,h.acc,fun j hj'=>?_,fun b v hp=>?_,h.ps,fun j hj' h0=>?_,h.safe,?_,?_,?_,fun j hj' m hm=>?_,fun j hj'=>?_,fun j hj' x hx=>?_,fun j hj'=>?_,h.ch⟩
  ·simp only [gt]
   split
   ·rename_i e1; subst e1; exact .inr hnb.2
   ·exact h.tb j hj'
  ·obtain ⟨j,p1,p2,p3,p4,p5⟩:=h.pb b v hp
   refine ⟨j,p1,p2,p3,?_,?_⟩
   ·simp only [gt]
    split
    ·rename_i e1; subst e1; rw [htt] at p4; simp only; omega
    ·exact p4
   ·simp only [gt]
    split
    ·rename_i e1; subst e1; rw [htt] at p4; intro q; simp only at q; omega
    ·exact p5
  ·simp only [gt] at h0 ⊢
   split
   ·exact hs
   ·rename_i e1; rw [if_neg e1] at h0; exact h.sv j hj' h0
  ·intro m hm h2
   rcases Ak.1 hm with hm | hm
   ·exact h.n2 m hm h2
   ·obtain ⟨q,_,rfl⟩:=F0 hm; simp at h2
  ·intro m hm h2
   rcases Ak.1 hm with hm | hm
   ·exact h.n3 m hm h2
   ·obtain ⟨q,_,rfl⟩:=F0 hm; simp at h2
  ·intro m hm h2
   rcases Ak.1 hm with hm | hm
   ·exact h.n4 m hm h2
   ·obtain ⟨q,_,rfl⟩:=F0 hm; simp at h2
  ·simp only [gt] at hm ⊢
   split at hm
   ·simp at hm
   ·rename_i e1; rw [if_neg e1]; exact h.pr j hj' m hm
  ·simp only [gt]
   split
   ·simp
   ·exact h.pn j hj'
  ·simp only [gt] at hx ⊢
   split at hx
   ·simp at hx
   ·rename_i e1; rw [if_neg e1]; exact h.tk j hj' x hx
  ·simp only [gt]
   split
   ·simp
   ·exact h.tn j hj'
theorem E1.voice {k:Nat} (h:E1 n t S P A c) (hc:HW n t k c) {a0:Nat} (ha0:a0<n) {v':Bs} {A':Nat->Int->Prop} {x:Am} (hok:DW v'=true) (hva:0<v'.2.1->P v'.2.1=some v'.2.2)
  (u:Up n P P A A' (fun a=>c.1.getD a Aj) (fun a=>(c.1.set a0 v').getD a Aj)) (hacc:∀ a b,A' a b->a<n/\0<b/\b<=((c.1.set a0 v').getD a Aj).2.1/\∃ v,P b=some v)
  (h2:x.1=2->Tc n P A' (fun a=>(c.1.set a0 v').getD a Aj) x) (h3:x.1≠3) (h4:x.1=4->A' (x.2.1-1).toNat x.2.2.2.1) :
  E1 n t S P A' (c.1.set a0 v',c.2.1,c.2.2.1++[x],c.2.2.2):=by
 have gv:=SD hc ha0 v'
 refine ⟨fun a ha=>?_,fun a ha h0=>?_,hacc,h.tb,h.pb,h.ps,h.sv,fun b v hb=>(h.safe b v hb).up u,fun m hm e=>?_,fun m hm e=>?_,fun m hm e=>?_,fun j hj m hm=>?_,h.pn,fun j hj y hy=>?_,h.tn,fun v hv=>?_⟩
 ·simp only [gv]
  split
  ·exact hok
  ·exact h.vok a ha
 ·simp only [gv] at h0 ⊢
  split
  ·rename_i e; rw [if_pos e] at h0; exact hva h0
  ·rename_i e; rw [if_neg e] at h0; exact h.vac a ha h0
 ·rcases Ak.1 hm with hm | hm
  ·exact (h.n2 m hm e).up u
  ·rw [Bz] at hm; subst hm; exact h2 e
 ·rcases Ak.1 hm with hm | hm
  ·exact h.n3 m hm e
  ·rw [Bz] at hm; subst hm; exact absurd e h3
 ·rcases Ak.1 hm with hm | hm
  ·exact u.a2 _ _ (h.n4 m hm e)
  ·rw [Bz] at hm; subst hm; exact h4 e
 ·obtain ⟨p1,p2,p3⟩:=h.pr j hj m hm
  exact ⟨p1,p2,p3.up u⟩
 ·obtain ⟨p1,p2⟩:=h.tk j hj y hy
  exact ⟨p1,u.a2 _ _ p2⟩
 ·obtain ⟨b,p1,q,p2,p3⟩:=h.ch v hv
  exact ⟨b,p1,q,p2,fun a ha hq=>u.a2 _ _ (p3 a ha hq)⟩
theorem XL {v:Bs} {m:Am} (h:(Bb v m).2.2=true):1<=m.2.2.2.1:=by
 unfold Bb at h
 split at h
 ·rename_i c1; exact c1.2.1.1
 ·cases h
theorem E1.hear {k:Nat} (h:E1 n t S P A c) (hc:HW n t k c) {m:Am} (hm:1<=m.2.2.1/\m.2.2.1<=(n:Int)) (h3:m.1=3->P m.2.2.2.1=some m.2.2.2.2.2):∃ A',E1 n t S P A' (RH m c).2:=by
 have ha0:(m.2.2.1-1).toNat<n:=by omega
 have gv:=fun v'=>SD hc ha0 v'
 have hok:=h.vok _ ha0
 have hva:=h.vac _ ha0
 have hac:=h.acc
 rw [Uc]
 obtain ⟨v,hv⟩:∃ v,c.1.getD (m.2.2.1-1).toNat Aj=v:=⟨_,rfl⟩
 rw [hv] at hok hva ⊢
 have hok':=(TX v m hok).1
 obtain ⟨⟨k1,k2⟩,⟨k3,k4⟩,_,_⟩:=(G5 v).1 hok
 cases hr:(Bb v m).2.2 with
 | false =>
  have hs:c.1.set (m.2.2.1-1).toNat v=c.1:=by
   rw [<- hv,CW (show (m.2.2.1-1).toNat<c.1.length by rw [hc.vl]; exact ha0),List.set_getElem_self]
  refine ⟨A,?_⟩
  unfold Ub
  rw [SB hr,hs,hr,if_neg (by simp)]
  exact h
 | true =>
  have hle:=XL hr
  unfold Ub
  rw [hr,if_pos rfl]
  rcases SA hr with ⟨e1,e2,e3,e4⟩ | ⟨e1,e2,e3,e4⟩
  ·rw [e3] at hok'
   rw [e2,e3]
   refine ⟨A,h.voice hc ha0 hok' hva ⟨fun b v q=>q,fun a ha=>?_,fun a b q=>.inl q,fun a b q=>q⟩ (fun a b q=>?_) (fun _=>⟨hm,⟨hle,?_⟩,⟨k3,?_⟩,hva,fun b' q1 q2 q3=>?_⟩) (by simp) (by simp)⟩
   ·simp only [gv]
    split
    ·rename_i e; subst e; rw [hv]; simp only; omega
    ·exact Int.le_refl _
   ·obtain ⟨p1,p2,p3,p4⟩:=hac a b q
    refine ⟨p1,p2,?_,p4⟩
    simp only [gv]
    split
    ·rename_i e; subst e; rw [hv] at p3; exact p3
    ·exact p3
   ·simp only [gv,if_true]
    exact Int.le_refl _
   ·simp only; omega
   ·have:=(hac _ _ q3).2.2.1
    simp only at q1
    rw [hv] at this
    omega
  ·rw [e3] at hok'
   rw [e2,e3]
   have hp3:=h3 e1
   have gA:∀ a,((c.1.set (m.2.2.1-1).toNat (m.2.2.2.1,m.2.2.2.1,m.2.2.2.2.2)).getD a Aj)=if a=(m.2.2.1-1).toNat then (m.2.2.2.1,m.2.2.2.1,m.2.2.2.2.2) else c.1.getD a Aj:=gv _
   refine ⟨fun a b=>A a b\/(a=(m.2.2.1-1).toNat/\b=m.2.2.2.1),h.voice hc ha0 hok' (fun _=>hp3) ⟨fun b v q=>q,fun a ha=>?_,fun a b q=>?_,fun a b q=>.inl q⟩ (fun a b q=>?_) (by simp) (by simp) (fun _=>.inr ⟨rfl,rfl⟩)⟩
   ·simp only [gA]
    split
    ·rename_i e; subst e; rw [hv]; simp only; omega
    ·exact Int.le_refl _
   ·rcases q with q | ⟨q1,q2⟩
    ·exact .inl q
    ·subst q1 q2; simp only [hv]; exact .inr e4
   ·rcases q with q | ⟨q1,q2⟩
    ·obtain ⟨p1,p2,p3,p4⟩:=hac a b q
     refine ⟨p1,p2,?_,p4⟩
     simp only [gA]
     split
     ·rename_i e; subst e; rw [hv] at p3; simp only; omega
     ·exact p3
    ·subst q1 q2
     refine ⟨ha0,by omega,?_,_,hp3⟩
     simp only [gA,if_true]
     exact Int.le_refl _
theorem E1.taken {k:Nat} (h:E1 n t S P A c) (hc:HW n t k c) (ht:t<=4) {m:Am} (hm:1<=m.2.2.1/\m.2.2.1<=(t:Int)) (hf:1<=m.2.1/\m.2.1<=(n:Int)) (h4:A (m.2.1-1).toNat m.2.2.2.1):E1 n t S P A (KZ m c).2:=by
 have hj:(m.2.2.1-1).toNat<t:=by omega
 rw [Ta]
 have htb:=h.tb _ hj
 have htk:=h.tk _ hj
 have htn:=h.tn _ hj
 have hsv:=h.sv _ hj
 have hpr:=h.pr _ hj
 have hpn:=h.pn _ hj
 have gt:=Sm hc hj
 obtain ⟨tt,htt⟩:∃ tt,c.2.1.getD (m.2.2.1-1).toNat BE=tt:=⟨_,rfl⟩
 rw [htt] at htb htk htn hsv hpr hpn ⊢
 unfold X3
 split
 ·exact h
 ·rename_i hne
  have hb:m.2.2.2.1=tt.2.1:=Classical.byContradiction fun q=>hne (.inl q)
  have hnc:¬ tt.2.2.2.2.2.1.contains m.2.1=true:=fun q=>hne (.inr q)
  have htk':∀ x∈tt.2.2.2.2.2.1++[m.2.1],(1<=x/\x<=(n:Int))/\A (x-1).toNat tt.2.1:=fun x hx=>by
   rcases Ak.1 hx with hx | hx
   ·exact htk x hx
   ·rw [Bz] at hx; subst hx; exact ⟨hf,hb▸h4⟩
  have htn':(tt.2.2.2.2.2.1++[m.2.1]).Nodup:=by
   rw [List.nodup_append]
   refine ⟨htn,by simp,fun a ha b hb2=>?_⟩
   rw [Bz] at hb2
   subst hb2
   intro e
   subst e
   exact hnc (by simpa using ha)
  have gen:∀ (fl:Bool) (ch':List ByteArray),(∀ v∈ch',∃ b,P b=some v/\∃ q:Nat->Bool,De n<=(cnt q n:Int)/\∀ a,a<n->q a=true->A a b)->E1 n t S P A (c.1,c.2.1.set (m.2.2.1-1).toNat (tt.1,tt.2.1,tt.2.2.1,tt.2.2.2.1,tt.2.2.2.2.1,tt.2.2.2.2.2.1++[m.2.1],fl),c.2.2.1,ch'):=fun fl ch' hch=>by
   refine ⟨h.vok,h.vac,h.acc,fun j hj'=>?_,fun b v hp=>?_,h.ps,fun j hj' h0=>?_,h.safe,h.n2,h.n3,h.n4,fun j hj' x hx=>?_,fun j hj'=>?_,fun j hj' x hx=>?_,fun j hj'=>?_,hch⟩
   ·simp only [gt]
    split
    ·rename_i e1; subst e1; exact htb
    ·exact h.tb j hj'
   ·obtain ⟨j,p1,p2,p3,p4,p5⟩:=h.pb b v hp
    refine ⟨j,p1,p2,p3,?_,?_⟩
    ·simp only [gt]
     split
     ·rename_i e1; subst e1; rw [htt] at p4; exact p4
     ·exact p4
    ·simp only [gt]
     split
     ·rename_i e1; subst e1; rw [htt] at p5; exact p5
     ·exact p5
   ·simp only [gt] at h0 ⊢
    split
    ·rename_i e1; rw [if_pos e1] at h0; exact hsv h0
    ·rename_i e1; rw [if_neg e1] at h0; exact h.sv j hj' h0
   ·simp only [gt] at hx ⊢
    split at hx
    ·rename_i e1; rw [if_pos e1]; exact hpr x hx
    ·rename_i e1; rw [if_neg e1]; exact h.pr j hj' x hx
   ·simp only [gt]
    split
    ·exact hpn
    ·exact h.pn j hj'
   ·simp only [gt] at hx ⊢
    split at hx
    ·rename_i e1; rw [if_pos e1]; exact htk' x hx
    ·rename_i e1; rw [if_neg e1]; exact h.tk j hj' x hx
   ·simp only [gt]
    split
    ·exact htn'
    ·exact h.tn j hj'
  split
  ·rename_i hq
   refine gen true _ (fun v hv=>?_)
   rcases Ak.1 hv with hv | hv
   ·exact h.ch v hv
   ·rw [Bz] at hv
    subst hv
    obtain ⟨_,p0,_,w,hw⟩:=h.acc _ _ h4
    obtain ⟨j,p1,p2,p3,p4,p5⟩:=h.pb _ _ hw
    have ej:j=(m.2.2.1-1).toNat:=by rw [hb] at p2 p0; omega
    subst ej
    rw [htt] at p5
    refine ⟨tt.2.1,by rw [<- hb,hw,(p5 hb).2],fun a=>(tt.2.2.2.2.2.1++[m.2.1]).contains ((a:Int)+1),?_,fun a ha hqa=>?_⟩
    ·rw [RP _ htn' (fun x hx=>(htk' x hx).1),hq,hc.vl]
     exact Int.le_refl _
    ·have:=(htk' _ (List.contains_iff_mem.1 hqa)).2
     rw [show ((a:Int)+1-1).toNat=a from by omega] at this
     exact this
  ·exact gen _ _ h.ch
theorem PH:∀ (l:List Am) (b:Int) (v:ByteArray),(∃ m,m∈l/\m.1=2/\m.2.2.2.2.1>b/\ED l b v=m.2.2.2.2.2/\∀ m',m'∈l->m'.1=2->m'.2.2.2.2.1<=m.2.2.2.2.1)\/(ED l b v=v/\∀ m',m'∈l->m'.1=2->m'.2.2.2.2.1<=b)
 | [],b,v=>.inr ⟨rfl,fun m' h=>by cases h⟩
 | x::l,b,v=>by
  rw [NT]
  by_cases hx:x.1=2/\x.2.2.2.2.1>b
  ·rw [if_pos hx]
   rcases PH l x.2.2.2.2.1 x.2.2.2.2.2 with ⟨m,h1,h2,h3,h4,h5⟩ | ⟨h1,h2⟩
   ·refine .inl ⟨m,by simp [h1],h2,by omega,h4,fun m' hm' e=>?_⟩
    rcases AO.1 hm' with rfl | hm'
    ·omega
    ·exact h5 m' hm' e
   ·refine .inl ⟨x,by simp,hx.1,hx.2,h1,fun m' hm' e=>?_⟩
    rcases AO.1 hm' with rfl | hm'
    ·exact Int.le_refl _
    ·exact h2 m' hm' e
  ·rw [if_neg hx]
   rcases PH l b v with ⟨m,h1,h2,h3,h4,h5⟩ | ⟨h1,h2⟩
   ·refine .inl ⟨m,by simp [h1],h2,h3,h4,fun m' hm' e=>?_⟩
    rcases AO.1 hm' with rfl | hm'
    ·have:¬ m'.2.2.2.2.1>b:=fun q=>hx ⟨e,q⟩
     omega
    ·exact h5 m' hm' e
   ·refine .inr ⟨h1,fun m' hm' e=>?_⟩
    rcases AO.1 hm' with rfl | hm'
    ·have:¬ m'.2.2.2.2.1>b:=fun q=>hx ⟨e,q⟩
     omega
    ·exact h2 m' hm' e
theorem E1.promised {k:Nat} (h:E1 n t S P A c) (hc:HW n t k c) (ht:t<=4) {m:Am} (hm:1<=m.2.2.1/\m.2.2.1<=(t:Int)) (h2:m.1=2) (hp:Tc n P A (fun a=>c.1.getD a Aj) m):∃ P',E1 n t S P' A (Eh m c).2:=by
 have hj:(m.2.2.1-1).toNat<t:=by omega
 rw [Pd]
 have htr:=hc.tr _ hj
 have htb:=h.tb _ hj
 have htk:=h.tk _ hj
 have htn:=h.tn _ hj
 have hsv:=h.sv _ hj
 have hpr:=h.pr _ hj
 have hpn:=h.pn _ hj
 have gt:=Sm hc hj
 obtain ⟨tt,htt⟩:∃ tt,c.2.1.getD (m.2.2.1-1).toNat BE=tt:=⟨_,rfl⟩
 rw [htt] at htr htb htk htn hsv hpr hpn ⊢
 unfold WN
 split
 ·exact ⟨P,h⟩
 rename_i hne
 have hb:m.2.2.2.1=tt.2.1:=Classical.byContradiction fun q=>hne (.inl q)
 have hask:tt.2.2.2.2.1≠true:=fun q=>hne (.inr (.inl q))
 have hany:¬ (tt.2.2.2.1.any fun x=>x.2.1==m.2.1)=true:=fun q=>hne (.inr (.inr q))
 have hb1:1<=tt.2.1:=by rw [<- hb]; exact hp.2.1.1
 have hpr':∀ x∈tt.2.2.2.1++[m],x.1=2/\x.2.2.2.1=tt.2.1/\Tc n P A (fun a=>c.1.getD a Aj) x:=fun x hx=>by
  rcases Ak.1 hx with hx | hx
  ·exact hpr x hx
  ·rw [Bz] at hx; subst hx; exact ⟨h2,hb,hp⟩
 have hpn':((tt.2.2.2.1++[m]).map (·.2.1)).Nodup:=by
  rw [List.map_append,List.nodup_append]
  refine ⟨hpn,by simp,fun a ha b hb2=>?_⟩
  obtain ⟨x,hx,rfl⟩:=List.mem_map.1 ha
  simp only [List.map_cons,List.map_nil,Bz] at hb2
  subst hb2
  intro e
  exact hany (List.any_eq_true.2 ⟨x,hx,by simpa using e⟩)
 split
 ·rename_i hq
  have hnone:∀ v,P tt.2.1≠some v:=fun v e=>by
   obtain ⟨j,p1,p2,p3,p4,p5⟩:=h.pb _ _ e
   have ej:j=(m.2.2.1-1).toNat:=by omega
   subst ej
   rw [htt] at p5
   exact hask (p5 rfl).1
  have hpk:=PH (tt.2.2.2.1++[m]) 0 tt.2.2.1
  have hw:S (ED (tt.2.2.2.1++[m]) 0 tt.2.2.1):=by
   rcases hpk with ⟨x,x1,x2,x3,x4,x5⟩ | ⟨x1,x2⟩
   ·rw [x4]; exact h.ps _ _ ((hpr' x x1).2.2.2.2.2.1 x3)
   ·rw [x1]; exact hsv (by omega)
  generalize ED (tt.2.2.2.1++[m]) 0 tt.2.2.1=w at hpk hw
  have g0:∀ b,(fun b=>if b=tt.2.1 then some w else P b:Ml) b=if b=tt.2.1 then some w else P b:=fun b=>rfl
  have up1:∀ b v,P b=some v->(if b=tt.2.1 then some w else P b)=some v:=fun b v e=>by
   rw [if_neg (fun q:b=tt.2.1=>hnone v (by rw [<- q]; exact e))]
   exact e
  have u:Up n P (fun b=>if b=tt.2.1 then some w else P b) A A (fun a=>c.1.getD a Aj) (fun a=>c.1.getD a Aj):=⟨up1,fun a _=>Int.le_refl _,fun a b q=>.inl q,fun a b q=>q⟩
  have hsafe:RQ n (fun b=>if b=tt.2.1 then some w else P b) A (fun a=>c.1.getD a Aj) tt.2.1 w:=by
   intro b' l1 l2
   have fromQ:(∀ x,x∈tt.2.2.2.1++[m]->A (x.2.1-1).toNat b'->P b'=some w)->∃ q:Nat->Bool,De n<=(cnt q n:Int)/\∀ a,a<n->q a=true->b'<(c.1.getD a Aj).1/\(A a b'->(if b'=tt.2.1 then some w else P b')=some w):=fun hh=>by
    refine ⟨fun a=>((tt.2.2.2.1++[m]).map (·.2.1)).contains ((a:Int)+1),?_,fun a ha hqa=>?_⟩
    ·rw [RP _ hpn' (fun y hy=>by obtain ⟨x,hx,rfl⟩:=List.mem_map.1 hy; exact (hpr' x hx).2.2.1),List.length_map,hq,hc.vl]
     exact Int.le_refl _
    ·obtain ⟨x,hx,ex⟩:=List.mem_map.1 (List.contains_iff_mem.1 hqa)
     have hxp:=hpr' x hx
     have ea:(x.2.1-1).toNat=a:=by omega
     have h1:=hxp.2.2.2.1.2
     rw [hxp.2.1,ea] at h1
     refine ⟨Int.lt_of_lt_of_le l2 h1,fun hA=>?_⟩
     rw [if_neg (by omega)]
     exact hh x hx (by rw [ea]; exact hA)
   have le:∀ x,x∈tt.2.2.2.1++[m]->A (x.2.1-1).toNat b'->b'<=x.2.2.2.2.1:=fun x hx hA=>by
    by_cases hl:b'<=x.2.2.2.2.1
    ·exact hl
    ·have hxp:=hpr' x hx
     exact absurd hA (hxp.2.2.2.2.2.2 b' (by omega) (by rw [hxp.2.1]; exact l2))
   rcases hpk with ⟨x,x1,x2,x3,x4,x5⟩ | ⟨x1,x2⟩
   ·have hxP:=(hpr' x x1).2.2.2.2.2.1 x3
    rw [<- x4] at hxP
    by_cases hlt:b'<x.2.2.2.2.1
    ·obtain ⟨q,q1,q2⟩:=h.safe _ _ hxP b' l1 hlt
     refine ⟨q,q1,fun a ha hqa=>⟨(q2 a ha hqa).1,fun hA=>?_⟩⟩
     simp only
     rw [if_neg (by omega)]
     exact (q2 a ha hqa).2 hA
    ·refine fromQ fun y hy hA=>?_
     have l3:=le y hy hA
     have l4:=x5 y hy (hpr' y hy).1
     have:b'=x.2.2.2.2.1:=by omega
     rw [this]
     exact hxP
   ·refine fromQ fun y hy hA=>?_
    have l3:=le y hy hA
    have l4:=x2 y hy (hpr' y hy).1
    omega
  refine ⟨fun b=>if b=tt.2.1 then some w else P b,h.vok,fun a ha h0=>up1 _ _ (h.vac a ha h0),fun a b q=>?_,fun j hj'=>?_,fun b v hpb=>?_,fun b v hpb=>?_,fun j hj' h0=>?_,fun b v hpb=>?_,fun x hx e=>?_,fun x hx e=>?_,fun x hx e=>?_,fun j hj' x hx=>?_,fun j hj'=>?_,fun j hj' x hx=>?_,fun j hj'=>?_,fun v hv=>?_⟩
  ·obtain ⟨p1,p2,p3,v,p4⟩:=h.acc a b q
   exact ⟨p1,p2,p3,v,up1 _ _ p4⟩
  ·simp only [gt]
   split
   ·rename_i e1; subst e1; exact htb
   ·exact h.tb j hj'
  ·try simp only at hpb
   split at hpb
   ·rename_i e
    cases hpb
    refine ⟨_,hj,?_,by omega,?_,?_⟩
    ·rw [e]; exact htb.resolve_left (by omega)
    ·simp only [gt,if_true]; omega
    ·simp only [gt,if_true]; exact fun _=>⟨trivial,trivial⟩
   ·rename_i e
    obtain ⟨j,p1,p2,p3,p4,p5⟩:=h.pb b v hpb
    refine ⟨j,p1,p2,p3,?_,?_⟩
    ·simp only [gt]
     split
     ·rename_i e1; subst e1; rw [htt] at p4; exact p4
     ·exact p4
    ·simp only [gt]
     split
     ·intro q; exact absurd q e
     ·exact p5
  ·try simp only at hpb
   split at hpb
   ·cases hpb; exact hw
   ·exact h.ps b v hpb
  ·simp only [gt] at h0 ⊢
   split
   ·exact hw
   ·rename_i e1; rw [if_neg e1] at h0; exact h.sv j hj' h0
  ·try simp only at hpb
   split at hpb
   ·rename_i e; cases hpb; rw [e]; exact hsafe
   ·exact (h.safe b v hpb).up u
  ·rcases Ak.1 hx with hx | hx
   ·exact (h.n2 x hx e).up u
   ·obtain ⟨q,_,rfl⟩:=F0 hx; simp at e
  ·rcases Ak.1 hx with hx | hx
   ·exact up1 _ _ (h.n3 x hx e)
   ·obtain ⟨q,_,rfl⟩:=F0 hx; simp
  ·rcases Ak.1 hx with hx | hx
   ·exact h.n4 x hx e
   ·obtain ⟨q,_,rfl⟩:=F0 hx; simp at e
  ·simp only [gt] at hx ⊢
   split at hx
   ·rename_i e1
    rw [if_pos e1]
    obtain ⟨p1,p2,p3⟩:=hpr' x hx
    exact ⟨p1,p2,p3.up u⟩
   ·rename_i e1
    rw [if_neg e1]
    obtain ⟨p1,p2,p3⟩:=h.pr j hj' x hx
    exact ⟨p1,p2,p3.up u⟩
  ·simp only [gt]
   split
   ·exact hpn'
   ·exact h.pn j hj'
  ·simp only [gt] at hx ⊢
   split at hx
   ·rename_i e1; rw [if_pos e1]; exact htk x hx
   ·rename_i e1; rw [if_neg e1]; exact h.tk j hj' x hx
  ·simp only [gt]
   split
   ·exact htn
   ·exact h.tn j hj'
  ·obtain ⟨b,p1,p2⟩:=h.ch v hv
   exact ⟨b,up1 _ _ p1,p2⟩
 ·refine ⟨P,h.vok,h.vac,h.acc,fun j hj'=>?_,fun b v hpb=>?_,h.ps,fun j hj' h0=>?_,h.safe,h.n2,h.n3,h.n4,fun j hj' x hx=>?_,fun j hj'=>?_,fun j hj' x hx=>?_,fun j hj'=>?_,h.ch⟩
  ·simp only [gt]
   split
   ·rename_i e1; subst e1; exact htb
   ·exact h.tb j hj'
  ·obtain ⟨j,p1,p2,p3,p4,p5⟩:=h.pb b v hpb
   refine ⟨j,p1,p2,p3,?_,?_⟩
   ·simp only [gt]
    split
    ·rename_i e1; subst e1; rw [htt] at p4; exact p4
    ·exact p4
   ·simp only [gt]
    split
    ·rename_i e1; subst e1; rw [htt] at p5; exact p5
    ·exact p5
  ·simp only [gt] at h0 ⊢
   split
   ·rename_i e1; rw [if_pos e1] at h0; exact hsv h0
   ·rename_i e1; rw [if_neg e1] at h0; exact h.sv j hj' h0
  ·simp only [gt] at hx ⊢
   split at hx
   ·rename_i e1; rw [if_pos e1]; exact hpr' x hx
   ·rename_i e1; rw [if_neg e1]; exact h.pr j hj' x hx
  ·simp only [gt]
   split
   ·exact hpn'
   ·exact h.pn j hj'
  ·simp only [gt] at hx ⊢
   split at hx
   ·rename_i e1; rw [if_pos e1]; exact htk x hx
   ·rename_i e1; rw [if_neg e1]; exact h.tk j hj' x hx
  ·simp only [gt]
   split
   ·exact htn
   ·exact h.tn j hj'
theorem E1.happen {k:Nat} (h:E1 n t S P A c) (hc:HW n t k c) (ht:t<=4) (kp:Bool) {e:FW} (he:F3 t e) (hs:e.1=1->S e.2.2.2):∃ P' A',E1 n t S P' A' (Ei kp e c).2:=by
 unfold Ei
 split
 ·rename_i h1; exact ⟨P,A,h.propose hc ht kp he.id (hs h1)⟩
 ·split
  ·exact ⟨P,A,h⟩
  ·rename_i h0
   have hp:=OY he.at_ h0
   have hm:c.2.2.1.getD (DO e c) CX∈c.2.2.1:=by rw [CW hp]; exact E2 hp
   split
   ·refine ⟨P,A,h.notes fun x hx=>?_⟩
    rcases Ak.1 hx with hx | hx
    ·exact hx
    ·rw [Bz] at hx; subst hx; exact hm
   ·have hl:E1 n t S P A (RI e c):=h.notes fun x hx=>by
     rcases Ak.1 hx with hx | hx
     ·exact List.mem_of_mem_take hx
     ·exact List.mem_of_mem_drop hx
    have hcl:=hc.less e
    split
    ·exact ⟨P,A,hl⟩
    ·have hn2:=h.n2 _ hm
     have hn3:=h.n3 _ hm
     have hn4:=h.n4 _ hm
     have hnt:=hc.nt _ hm
     generalize c.2.2.1.getD (DO e c) CX=m at hn2 hn3 hn4 hnt
     unfold Ka
     split
     ·rename_i h1
      obtain ⟨A',hA⟩:=hl.hear hcl (m:=m) (by rcases hnt with ⟨_,b,_⟩ | ⟨a,_⟩<;>omega) hn3
      exact ⟨P,A',hA⟩
     ·rename_i h1
      split
      ·rename_i h2
       obtain ⟨P',hP⟩:=hl.promised hcl ht (m:=m) (by rcases hnt with ⟨a,_⟩ | ⟨_,b,_⟩<;>omega) h2 (hn2 h2)
       exact ⟨P',A,hP⟩
      ·rename_i h2
       have hk:m.1=4:=by rcases hnt with ⟨a,_⟩ | ⟨a,_⟩<;>omega
       exact ⟨P,A,hl.taken hcl ht (m:=m) (by rcases hnt with ⟨a,_⟩ | ⟨_,b,_⟩<;>omega) (by rcases hnt with ⟨a,_⟩ | ⟨_,_,b⟩<;>omega) (hn4 hk)⟩
end Go.Proofs.Ytffahmnodgnohaa.Core

namespace Go.Proofs.Ytffahmnodgnohaa.Core
open Go
variable {n t:Nat} {S:ByteArray->Prop} {P:Ml} {A:Nat->Int->Prop} {c:Es}
theorem Ue (ht:t<=4) (hn5:n<=5) (kp:Bool):∀ (es:List FW) (k:Nat) (c:Es) (cs:List Int) (P:Ml) (A:Nat->Int->Prop),HW n t k c->E1 n t S P A c->(∀ e∈es,F3 t e/\(e.1=1->S e.2.2.2)) ->
  ∃ P' A',E1 n t S P' A' (RL kp es c cs).1/\HW n t (k+es.length) (RL kp es c cs).1
 | [],k,c,cs,P,A,hc,h,he=>⟨P,A,h,hc⟩
 | e::es,k,c,cs,P,A,hc,h,he=>by
  obtain ⟨P1,A1,h1⟩:=h.happen hc ht kp (he e (by simp)).1 (he e (by simp)).2
  obtain ⟨P2,A2,h2,h3⟩:=Ue ht hn5 kp es (k+1) _ (cs++[J9 (Ei kp e c).1]) P1 A1 (hc.happen kp hn5 ht (he e (by simp)).1) h1 (fun x hx=>he x (by simp [hx]))
  refine ⟨P2,A2,h2,?_⟩
  rw [List.length_cons,show k+(es.length+1)=k+1+es.length from by omega]
  exact h3
theorem XM (n t:Nat) (S:ByteArray->Prop):E1 n t S (fun _=>none) (fun _ _=>False) (Er n t):=by
 have gv:∀ a,(Er n t).1.getD a Aj=Aj:=fun a=>by
  unfold Er
  simp only [List.getD]
  by_cases h:a<n
  ·rw [List.getElem?_replicate_of_lt h]; rfl
  ·rw [CP (by simp; omega)]; rfl
 have gt:∀ j,j<t->(Er n t).2.1.getD j BE=((j:Int)+1,0,AA,[],false,[],false):=fun j hj=>NV t j hj
 have vok0:DW Aj=true:=(G5 _).2 ⟨⟨by decide,by decide⟩,⟨by decide,by decide⟩,by decide,.inr rfl⟩
 refine ⟨fun a _=>by rw [gv]; exact vok0,fun a _ h=>by rw [gv] at h; simp [Aj] at h,fun a b h=>h.elim,fun j hj=>.inl (by rw [gt j hj]),fun b v h=>(by cases h),fun b v h=>(by cases h),fun j hj h=>by rw [gt j hj] at h; simp at h,fun b v h=>(by cases h),fun m h=>by simp [Er] at h,fun m h=>by simp [Er] at h,fun m h=>by simp [Er] at h,
  fun j hj m h=>by rw [gt j hj] at h; simp at h,fun j hj=>by rw [gt j hj]; simp,fun j hj x h=>by rw [gt j hj] at h; simp at h,fun j hj=>by rw [gt j hj]; simp,fun v h=>by simp [Er] at h⟩
theorem E1.pos (h:E1 n t S P A c) {b:Int} {q:Nat->Bool} (q1:De n<=(cnt q n:Int)) (q2:∀ a,a<n->q a=true->A a b):0<b:=by
 obtain ⟨a,a1,a2,_⟩:=SC q1 q1
 exact (h.acc _ _ (q2 a a1 a2)).2.1
theorem E1.later (h:E1 n t S P A c) {b b2:Int} {v w:ByteArray} (hb:P b=some v) (hb2:P b2=some w) {q:Nat->Bool} (q1:De n<=(cnt q n:Int)) (q2:∀ a,a<n->q a=true->A a b) (hlt:b<=b2):v=w:=by
 by_cases e:b=b2
 ·subst e; rw [hb] at hb2; exact Option.some.inj hb2
 ·obtain ⟨p,p1,p2⟩:=h.safe _ _ hb2 b (h.pos q1 q2) (by omega)
  obtain ⟨a,a1,a2,a3⟩:=SC q1 p1
  have:=(p2 a a1 a3).2 (q2 a a1 a2)
  rw [hb] at this
  exact Option.some.inj this
theorem E1.most (h:E1 n t S P A c) {v:ByteArray} (hv:v∈c.2.2.2):De n<=(cnt (fun a=>decide ((c.1.getD a Aj).2.1>0)&&decide ((c.1.getD a Aj).2.2=v)) n:Int):=by
 obtain ⟨b,p1,q,p2,p3⟩:=h.ch v hv
 have:=Tb (p:=q) (q:=fun a=>decide ((c.1.getD a Aj).2.1>0)&&decide ((c.1.getD a Aj).2.2=v)) n (fun a ha hq=>by
  obtain ⟨_,a2,a3,_⟩:=h.acc _ _ (p3 a ha hq)
  have hva:=h.vac a ha (by omega)
  have:=h.later p1 hva p2 p3 a3
  simp only [AB,decide_eq_true_eq]
  exact ⟨by omega,this.symm⟩)
 omega
theorem Ls (vs:List Bs) (ts:List Im) (ns:List Am) (L:List ByteArray) (hL:L.length<=1000000):∀ (k i:Nat),i+k=L.length->DU L (L.length:Int) (i:Int) vs ts ns L=some ((L.drop i).all fun s=>decide (s=L.getD 0 AA))
 | 0,i,hk=>HQ (by
  unfold Eo
  rw [if_neg (by rw [decide_eq_false (by omega)]; simp),List.drop_eq_nil_of_le (by omega)]
  rfl)
 | k+1,i,hk=>HQ (by
  have hi:i<L.length:=by omega
  unfold Eo
  rw [if_pos (decide_eq_true (by omega)),if_pos (by omega),if_pos (by omega),if_pos (by omega),if_pos (by omega),DH,CW hi,Bv (by omega),Ls vs ts ns L hL k (i+1) (by omega),D4 hi,List.all_cons,show (0:Int).toNat=0 from rfl,Ua]
  cases decide (L[i]=L.getD 0 AA) with
  | true=>rw [if_neg (by simp),Bool.true_and]
  | false=>rw [if_pos (by simp),Bool.false_and])
theorem Ib (c:Es) (h:c.2.2.2.length<=1000000):Ca c=some (c.2.2.2.all fun s=>decide (s=c.2.2.2.getD 0 AA)):=O8 (by
 unfold Ju
 have:=Ls c.1 c.2.1 c.2.2.1 c.2.2.2 h c.2.2.2.length 0 (by omega)
 rw [List.drop_zero] at this
 exact this)
theorem Pe (codes:List Int) (vs:List Bs) (ts:List Im) (ns:List Am) (ch:List ByteArray) (hch:0<ch.length) (q:Nat->Bool) (hq:∀ a,q a=(decide ((vs.getD a Aj).2.1>0)&&decide ((vs.getD a Aj).2.2=ch.getD 0 AA))) (n:Nat) (hn:n<=5) (hvl:vs.length=n) {r:Bool}
  (hr:FB (n:Int) (cnt q n:Int) codes vs ts ns ch=some r):∀ (k i:Nat),i+k=n->Bl (n:Int) (cnt q i:Int) (i:Int) codes vs ts ns ch=some r
 | 0,i,hk=>IF (by
  have:i=n:=by omega
  subst this
  unfold FC
  rw [if_neg (by rw [decide_eq_false (by omega)]; simp)]
  exact hr)
 | k+1,i,hk=>IF (by
  have ih:=Pe codes vs ts ns ch hch q hq n hn hvl hr k (i+1) (by omega)
  have hqi:=hq i
  have hle:cnt q i<=i:=by
   have:∀ m,cnt q m<=m:=by
    intro m
    induction m with
    | zero=>exact Nat.le_refl _
    | succ m ih=>rw [cnt]; split<;>omega
   exact this i
  rw [cnt] at ih
  unfold FC
  have hz:vs.getD i ((0:Int),(0:Int),AA)=vs.getD i Aj:=rfl
  rw [if_pos (decide_eq_true (by omega)),if_pos (by omega),if_pos (by omega),DH,hz,Ua,Bv (by omega),Bv (by omega),show (0:Int).toNat=0 from rfl]
  by_cases h1:(vs.getD i Aj).2.1>0
  ·rw [if_pos (decide_eq_true h1),if_pos (by omega),if_pos (by omega),if_pos (by omega),if_pos (by omega)]
   by_cases h2:(vs.getD i Aj).2.2=ch.getD 0 AA
   ·rw [if_pos (decide_eq_true h2)]
    rw [hqi,decide_eq_true h1,decide_eq_true h2,if_pos (by rfl)] at ih
    exact ih
   ·rw [if_neg (by rw [decide_eq_false h2]; simp)]
    rw [hqi,decide_eq_true h1,decide_eq_false h2,if_neg (by simp)] at ih
    exact ih
  ·rw [if_neg (by rw [decide_eq_false h1]; simp)]
   rw [hqi,decide_eq_false h1,if_neg (by simp)] at ih
   exact ih)
def XW (es:List FW) (v:ByteArray):Prop:=(v.size:Int)<=40/\∃ e∈es,e.1=1/\e.2.2.2=v
theorem XN {es:List FW} {t:Nat} (he:∀ e∈es,F3 t e):∀ e∈es,F3 t e/\(e.1=1->XW es e.2.2.2):=fun e hm=>⟨he e hm,fun h1=>by
 have:=(he e hm).val
 rw [if_pos h1] at this
 exact ⟨this.2,e,hm,h1,rfl⟩⟩
theorem Sn (x0) (hx0:Kd.ok (.slice (.int .u8)) x0):Kj x0=some true:=Py (by
 unfold Kk
 rw [Rm,Z]
 by_cases hb:(x0.length:Int)>1048576
 ·rw [if_pos (decide_eq_true hb)]
 rw [if_neg (by rw [decide_eq_false hb]; simp)]
 obtain ⟨n,t,es,eD,h1,h2,h3,he⟩:=Kz x0 (by omega)
 have hr:=MU (n:=n) (t:=t) h1 (by omega) (es:=es) (by omega) he
 obtain ⟨P,A,hp,hc⟩:=Ue (S:=XW es) (n:=n) (t:=t) (by omega) h1.2 true es 0 (Er n t) [] _ _ (Sl n t) (XM n t _) (XN he)
 rw [eD,Z,hr,Z]
 generalize (RL true es (Er n t) []).1=c at hp hc
 generalize (RL true es (Er n t) []).2=codes
 have hcl:=hc.cl
 have hvl:=hc.vl
 have hch:=hc.ch
 dsimp only
 rw [if_pos (show (!true)=false from rfl),if_neg (by rw [hcl]; simp)]
 refine M5 ?_
 unfold IE
 change (if ((c.2.2.2.length:Int)==0)=true then ((Ca c).bind fun y4=>some y4) else Bl (n:Int) 0 0 codes c.1 c.2.1 c.2.2.1 c.2.2.2)=some true
 by_cases h0:c.2.2.2.length=0
 ·rw [if_pos (by simp [h0]),Ib c (by omega),C0.1 h0]
  rfl
 rw [if_neg (by simpa using h0)]
 have h00:0<c.2.2.2.length:=by omega
 have hm0:c.2.2.2.getD 0 AA∈c.2.2.2:=by rw [CW h00]; exact E2 h00
 have hmost:=hp.most hm0
 obtain ⟨b,hbP,_⟩:=hp.ch _ hm0
 have hsz:=(hp.ps _ _ hbP).1
 refine Pe codes c.1 c.2.1 c.2.2.1 c.2.2.2 h00 (fun a=>decide ((c.1.getD a Aj).2.1>0)&&decide ((c.1.getD a Aj).2.2=c.2.2.2.getD 0 AA)) (fun a=>rfl) n h1.2 hvl ?_ n 0 (by omega)
 refine M4 ?_
 unfold ID
 have hone:Ca (c.1,c.2.1,c.2.2.1,(([]:List ByteArray)++c.2.2.2)++([c.2.2.2.getD 0 AA++(⟨#[33]⟩:ByteArray)]:List ByteArray))=some false:=by
  have hg:((([]:List ByteArray)++c.2.2.2)++([c.2.2.2.getD 0 AA++(⟨#[33]⟩:ByteArray)]:List ByteArray)).getD 0 AA=c.2.2.2.getD 0 AA:=by
   simp only [List.getD,List.nil_append]
   rw [AY h00]
  refine (Ib _ (by simp only [List.nil_append,List.length_append,List.length_cons,List.length_nil]; omega)).trans (congrArg some (List.all_eq_false.2 ⟨c.2.2.2.getD 0 AA++(⟨#[33]⟩:ByteArray),List.mem_append_right _ (Bz.2 rfl),fun q=>?_⟩))
  have:=congrArg ByteArray.size ((of_decide_eq_true q).trans hg)
  rw [ByteArray.size_append] at this
  have h33:(⟨#[33]⟩:ByteArray).size=1:=rfl
  omega
 have h33:(⟨#[33]⟩:ByteArray).size=1:=rfl
 have z0:(0:Int).toNat=0:=rfl
 rw [if_pos (by omega),if_pos (by omega),z0,if_pos (by omega),if_pos (by simp only [List.length_nil]; omega),if_pos (by simp only [List.nil_append,List.length_cons,List.length_nil]; omega),GG n (by omega),Z,if_pos (decide_eq_true hmost),hone]
 rfl)
end Go.Proofs.Ytffahmnodgnohaa.Core

namespace Go.Proofs.Ytffahmnodgnohaa.Core
open Go
theorem WO {P:Program} {c:List Char} {rest:List (List Char)} (h:behindMainWord (wordsSigns P.initOrder.toList)=c::rest) (h1:(c == "gc".toList||c == "spec".toList)=false) (h2:(c == "cut".toList||(c == "finals".toList&&rest.head? == some "cut".toList))=true):P.make=some .cut:=by
 unfold Program.make
 rw [h]
 simp only [h1,h2]
 rfl
theorem WP {P:Program} {c:List Char} {rest:List (List Char)} (h:behindMainWord (wordsSigns P.initOrder.toList)=c::rest) (h1:((stripLifts liftWords (c::rest)).2.head? == some "cut".toList)=true) (h2:(stripLifts liftWords (c::rest)).1=[])
  (h3:P.laysLater=false) (h4:P.bearsReflect=false) (h5:P.doorFits []=true):P.mayEnter=true:=by
 unfold Program.mayEnter
 rw [h]
 simp only [h1,h2,h3,h4,h5]
 simp
theorem WQ {P:Program} {c:List Char} {rest:List (List Char)} (h:behindMainWord (wordsSigns P.initOrder.toList)=c::rest) (h1:(c == "carried".toList)=false) (h2:(stripLifts liftWords (c::rest)).1=[]):P.liftsFinal=false:=by
 have e:(some c==some "carried".toList)=false:=h1
 unfold Program.liftsFinal Program.headLifts
 rw [h]
 simp only [List.head?_cons,e,h2]
 simp
theorem FK {a b:Bool} (h:a=true) (g:b=true):(a&&b)=true:=by rw [h,g]; rfl
theorem WR {α:Type} [BEq α] [LawfulBEq α] {a b:α} (h:a=b):(a==b)=true:=by rw [h]; exact beq_self_eq_true b
end Go.Proofs.Ytffahmnodgnohaa.Core

namespace Go.Proofs.Ytffahmnodgnohaa.Core
open Go
set_option maxRecDepth 100000
def Yj:List Nat:=[104,97,114,110,101,115,115,32,57,52,51,54,48,100,51,54,48,102,97,48,51,101,55,56,99,49,99,55,102,52,101,50,52,51,100,50,100,97,57,53,55,57,52,98,57,49,49,99,102,51,55,51,101,101,49,49,101,100,97,49,52,100,97,99,49,98,51,56,98,51,55,99,32,99,117,116,32,97,116,32,108,111,111,112,46,101,120,97,109,112,108,101,47,103,48,48,49,56,48,47,108,97,119,115,46,70,110,69,120,97,99,116,77,115,103,84,101,120,116,32,108,111,111,112,46,101,120,97,109,112,108,101,47,103,48,48,49,56,48,47,108,97,119,115,46,70,110,69,120,97,99,116,82,101,97,100,77,115,103,32,108,111,111,112,46,101,120,97,109,112,108,101,47,103,48,48,49,56,48,47,108,97,119,115,46,70,110,77,115,103,115,32,108,111,111,112,46,101,120,97,109,112,108,101,47,103,48,48,49,56,48,47,108,97,119,115,46,70,110,69,120,97,99,116,77,101,109,98,101,114,78,101,119,32,108,111,111,112,46,101,120,97,109,112,108,101,47,103,48,48,49,56,48,47,108,97,119,115,46,70,110,69,120,97,99,116,67,111,117,110,99,105,108,78,101,119,32,108,111,111,112,46,101,120,97,109,112,108,101,47,103,48,48,49,56,48,47,108,97,119,115,46,70,110,69,120,97,99,116,71,114,111,117,112,78,101,119,32,108,111,111,112,46,101,120,97,109,112,108,101,47,103,48,48,49,56,48,47,108,97,119,115,46,70,110,65,108,111,110,101,49,50,32,108,111,111,112,46,101,120,97,109,112,108,101,47,103,48,48,49,56,48,47,108,97,119,115,46,70,110,67,104,111,115,101,110,32,108,111,111,112,46,101,120,97,109,112,108,101,47,103,48,48,49,56,48,47,108,97,119,115,46,70,110,68,101,99,105,100,101,115]
def Yr:List Nat:=[99,117,116]
def Ys:List (List Nat):=[[97,116],[108,111,111,112,46,101,120,97,109,112,108,101,47,103,48,48,49,56,48,47,108,97,119,115,46,70,110,69,120,97,99,116,77,115,103,84,101,120,116],[108,111,111,112,46,101,120,97,109,112,108,101,47,103,48,48,49,56,48,47,108,97,119,115,46,70,110,69,120,97,99,116,82,101,97,100,77,115,103],[108,111,111,112,46,101,120,97,109,112,108,101,47,103,48,48,49,56,48,47,108,97,119,115,46,70,110,77,115,103,115],[108,111,111,112,46,101,120,97,109,112,108,101,47,103,48,48,49,56,48,47,108,97,119,115,46,70,110,69,120,97,99,116,77,101,109,98,101,114,78,101,119],[108,111,111,112,46,101,120,97,109,112,108,101,47,103,48,48,49,56,48,47,108,97,119,115,46,70,110,69,120,97,99,116,67,111,117,110,99,105,108,78,101,119],[108,111,111,112,46,101,120,97,109,112,108,101,47,103,48,48,49,56,48,47,108,97,119,115,46,70,110,69,120,97,99,116,71,114,111,117,112,78,101,119],[108,111,111,112,46,101,120,97,109,112,108,101,47,103,48,48,49,56,48,47,108,97,119,115,46,70,110,65,108,111,110,101,49,50],[108,111,111,112,46,101,120,97,109,112,108,101,47,103,48,48,49,56,48,47,108,97,119,115,46,70,110,67,104,111,115,101,110],[108,111,111,112,46,101,120,97,109,112,108,101,47,103,48,48,49,56,48,47,108,97,119,115,46,70,110,68,101,99,105,100,101,115]]
theorem io:Try.prog.initOrder.toList=Yj.map Char.ofNat:=(congrArg String.toList (show Try.prog.initOrder=String.ofList (Yj.map Char.ofNat) from by kernel_rfl)).trans String.toList_ofList
theorem Yf:behindMainWord (wordsSigns Try.prog.initOrder.toList)=Yr.map Char.ofNat::Ys.map fun w=>w.map Char.ofNat:=by
 rw [io]
 kernel_rfl
theorem Yg:Try.prog.make=some .cut:=WO Yf (by kernel_rfl) (by kernel_rfl)
theorem X4:Try.prog.mayEnter=true:=WP Yf (by kernel_rfl) (by kernel_rfl) (by kernel_rfl) (by kernel_rfl) (by kernel_rfl)
theorem XO:Try.prog.liftsFinal=false:=WQ Yf (by kernel_rfl) (by kernel_rfl)
theorem Td:laidOutB Try.prog=true:=by kernel_rfl
theorem T8:mapsRowed Try.prog=true:=by kernel_rfl
theorem X5:Try.prog.stopsHeard=true:=by kernel_rfl
end Go.Proofs.Ytffahmnodgnohaa.Core
