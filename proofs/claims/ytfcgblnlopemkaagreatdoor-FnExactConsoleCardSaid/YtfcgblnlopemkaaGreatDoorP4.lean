/- Texts of the proof, packed: part 5. -/
import Derived.Test.YtfcgblnlopemkaaGreatDoorP3
import Derived.IntWalk
set_option linter.unusedVariables false
set_option linter.unusedSimpArgs false
namespace Go.Proofs.YtfcgblnlopemkaaGreatDoor.Core
open Go IntKind
set_option maxRecDepth 100000
noncomputable section
def l9:=cG Me (AE BH) (AE BH) kx
def l_:=kE 2 [(5,1),(6,2)] [0,5,6] 3 l9 kx
def jR:St->Option (RT (BS.outs BH)):=lG Tv [(5,1),(6,2)] [0,3,5,6,8] 3 (AE BH) l_
def mA:=cG Mf (AE BH) (AE BH) kx
def Oe:=kE 0 [(5,1),(6,2)] [0,3,5,6] 3 mA kx
def Uv:St->Option (RT (BS.outs BH)):=lG WN [(5,1),(6,2)] [0,3,5,6,7] 3 (AE BH) Oe
def mB:=kB [(5,1),(6,2)] [0,3,5,6,7] 3 Uv
def Wt:=cG WM mB (AE BH) Oe
def mC:=kB [(5,1),(6,2)] [0,3,5,6,7] 3 Wt
def mD:=kE 1 [(5,1),(6,2)] [0,3,5,6,7] 3 Wt Oe
def I0 (x0:List AA) (x1:Int) (x2:AA) (x3 x4:List AA):Option (List AA):=cG WL mC (AE BH) mD ⟨[(0,.lst AH x0),(3,.ptr 0 0),(5,.row 1),(6,.row 2),(7,.int .i64 x1)],[.var (AH.enc x2),.rows 45 AH x3,.rows 45 AH x4]⟩
def NR (x0:List AA) (x1:AA) (x2 x3:List AA):Option (List AA):=cG Me (AE BH) (AE BH) kx ⟨[(0,.lst AH x0),(5,.row 1),(6,.row 2)],[.var (AH.enc x1),.rows 45 AH x2,.rows 45 AH x3]⟩
def Ej (x0:List AA) (x1:Int) (x2:AA) (x3 x4:List AA):Option (List AA):=jR ⟨[(0,.lst AH x0),(3,.ptr 0 0),(5,.row 1),(6,.row 2),(8,.int .i64 x1)],[.var (AH.enc x2),.rows 45 AH x3,.rows 45 AH x4]⟩
def NS (x0:List AA) (x1:AA) (x2 x3:List AA):Option (List AA):=cG Mf (AE BH) (AE BH) kx ⟨[(0,.lst AH x0),(3,.ptr 0 0),(5,.row 1),(6,.row 2)],[.var (AH.enc x1),.rows 45 AH x2,.rows 45 AH x3]⟩
def Ek (x0:List AA) (x1:Int) (x2:AA) (x3 x4:List AA):Option (List AA):=Uv ⟨[(0,.lst AH x0),(3,.ptr 0 0),(5,.row 1),(6,.row 2),(7,.int .i64 x1)],[.var (AH.enc x2),.rows 45 AH x3,.rows 45 AH x4]⟩
def Uw (x0:List AA) (x1:Int) (x2:AA) (x3 x4:List AA):Option (List AA):=(if 0<=x1 then (if x1<(x0.length:Int) then (if (((x0.getD x1.toNat (O,O,0)).1).toList==x2.1.toList)=true then (if 0<=x1 then (if x1<(x0.length:Int) then (if (decide ((((x0.getD x1.toNat (O,O,0)).2).2)>=x2.2.2))=true then (some x3) else (Ek x0 (i64.wrap (x1+1)) x2 x3 x4)) else none) else none) else (Ek x0 (i64.wrap (x1+1)) x2 x3 x4)) else none) else none)
def Ux (x0:List AA) (x1:AA) (x2 x3:List AA):Option (List AA):=((Dl x0).bind fun y1=>(if (!y1)=false then ((Dl x3).bind fun y2=>(if (!y2)=true then (some x2) else (some x3))) else (some x2)))
def NT (x0:List AA) (x1:Int) (x2:AA) (x3 x4:List AA):Option (List AA):=(if (decide (x1<(x0.length:Int)))=true then (if 0<=x1 then (if x1<(x0.length:Int) then (if (!((Op.bytesLess ((x0.getD x1.toNat (O,O,0)).1).toList x2.1.toList)||(((x0.getD x1.toNat (O,O,0)).1).toList==x2.1.toList)))=true then (if 0<=x1 then (if x1<(x0.length:Int) then (if x4.length+([x0.getD x1.toNat (O,O,0)]:List AA).length<=68719476736 then (Ej x0 (i64.wrap (x1+1)) x2 x3 (x4++([x0.getD x1.toNat (O,O,0)]:List AA))) else none) else none) else none) else (Ej x0 (i64.wrap (x1+1)) x2 x3 x4)) else none) else none) else (NR x0 x2 x3 x4))
def Uy (x0:List AA) (x1:AA) (x2 x3:List AA):Option (List AA):=(if x3.length+([x1]:List AA).length<=68719476736 then (Ej x0 0 x1 x2 (x3++([x1]:List AA))) else none)
def NU (x0:List AA) (x1:Int) (x2:AA) (x3 x4:List AA):Option (List AA):=(if (decide (x1<(x0.length:Int)))=true then (if 0<=x1 then (if x1<(x0.length:Int) then (if (Op.bytesLess ((x0.getD x1.toNat (O,O,0)).1).toList x2.1.toList)=true then (if 0<=x1 then (if x1<(x0.length:Int) then (if x4.length+([x0.getD x1.toNat (O,O,0)]:List AA).length<=68719476736 then (I0 x0 x1 x2 x3 (x4++([x0.getD x1.toNat (O,O,0)]:List AA))) else none) else none) else none) else (I0 x0 x1 x2 x3 x4)) else none) else none) else (NS x0 x2 x3 x4))
def bZ (x0:List AA) (x1:AA):Option (List AA):=(if ([]:List AA).length+x0.length<=68719476736 then (Ek x0 0 x1 (([]:List AA)++x0) ([]:List AA)) else none)
theorem jT:rq Uw I0:=jS (by kernel_rfl)
theorem jU:eP Ux NR:=jS (by kernel_rfl)
theorem Uz:rq NT Ej:=lS (by kernel_rfl)
theorem jV:eP Uy NS:=jS (by kernel_rfl)
theorem U0:rq NU Ek:=lS (by kernel_rfl)
theorem rB:Rb bZ JF:=cT BH rfl ⟨rfl,rfl⟩ (by kernel_rfl)
def fj:=cG R6 (AE DQ) (AE DQ) kx
def fk:=kE 0 [(5,0)] [5] 1 fj kx
def dR:St->Option (RT (BS.outs DQ)):=lG R5 [(5,0)] [0,1,5,6] 1 (AE DQ) fk
def CY (x0:List Int) (x1 x2:Int) (x3:List Int):Option (List Int):=dR ⟨[(0,.lst (.int .i64) x0),(1,.int .i64 x1),(5,.row 0),(6,.int .i64 x2)],[.rows 3 (.int .i64) x3]⟩
def KB (x0:List Int) (x1 x2:Int) (x3:List Int):Option (List Int):=(if (decide (x2<=6))=true then (if (x2 != x1)=true then ((FC x0 x2).bind fun y1=>(if y1=true then (if x3.length+([x2]:List Int).length<=68719476736 then (CY x0 x1 (i64.wrap (x2+1)) (x3++([x2]:List Int))) else none) else (CY x0 x1 (i64.wrap (x2+1)) x3))) else (CY x0 x1 (i64.wrap (x2+1)) x3)) else (some x3))
def Wu (x0:List Int) (x1:Int):Option (List Int):=(CY x0 x1 1 ([]:List Int))
theorem RC:eP KB CY:=lS (by kernel_rfl)
theorem mE:Rb Wu HL:=cT DQ rfl ⟨rfl,rfl⟩ (by kernel_rfl)
def Ww (b0:U):Option (List AK×U):=(if (b0.2.2.2.2.2.2.2.2.2.1==1)=true then ((JF b0.2.2.2.2.2.2.2.1 b0.2.2.2.2.2.2.2.2.2.2.2.2.1).bind fun y1=>(some (([(b0.2.2.2.2.2.2.2.2.2.2.1,b0.2.1,b0.2.2.2.2.2.2.2.2.2.2.2.1,b0.2.2.2.2.2.2.2.2.2.2.2.2.1)]:List AK),(b0.1,b0.2.1,b0.2.2.1,b0.2.2.2.1,b0.2.2.2.2.1,b0.2.2.2.2.2.1,b0.2.2.2.2.2.2.1,y1,b0.2.2.2.2.2.2.2.2.1,0,0,0,(O,O,0),([]:List Int))))) else ((O3 b0.2.2.2.2.2.2.2.1 b0.2.2.2.2.2.2.2.2.2.2.2.2.1.1).bind fun y2=>(some (([(b0.2.2.2.2.2.2.2.2.2.2.1,b0.2.1,b0.2.2.2.2.2.2.2.2.2.2.2.1,y2)]:List AK),(b0.1,b0.2.1,b0.2.2.1,b0.2.2.2.1,b0.2.2.2.2.1,b0.2.2.2.2.2.1,b0.2.2.2.2.2.2.1,b0.2.2.2.2.2.2.2.1,b0.2.2.2.2.2.2.2.2.1,0,0,0,(O,O,0),([]:List Int))))))
theorem mF:MO Ww HM:=cT Jd rfl ⟨rfl,rfl⟩ (by kernel_rfl)
def oT:=cG Yh (AE FP) (AE FP) kx
def oU:=kE 0 [(7,1)] [7] 3 oT kx
def mG:St->Option (RT (BS.outs FP)):=lG Yg [(7,1)] [0,1,2,7,8] 3 (AE FP) oU
def HR (x0:List Int) (x1:List AA) (x2:Int) (x3:U) (x4:List AB) (x5:List AA):Option (List AB×U):=mG ⟨[(0,.ptr 0 0),(1,.lst (.int .i64) x0),(2,.lst AH x1),(7,.row 1),(8,.int .i64 x2)],[.var (Y.enc x3),.rows 112 AJ x4,.frz AH x5]⟩
def Of (x0:List Int) (x1:List AA) (x2:Int) (x3:U) (x4:List AB) (x5:List AA):Option (List AB×U):=(if (decide (x2<(x0.length:Int)))=true then (if 0<=x2 then (if x2<(x0.length:Int) then (if ((x0.getD x2.toNat 0) != x3.1)=true then (if 0<=x2 then (if x2<(x0.length:Int) then (if ([]:List AA).length+x1.length<=68719476736 then (if x4.length+([(3,x3.1,(x0.getD x2.toNat 0),x3.2.1,0,(([]:List AA)++x1))]:List AB).length<=68719476736 then (HR x0 x1 (i64.wrap (x2+1)) x3 (x4++([(3,x3.1,(x0.getD x2.toNat 0),x3.2.1,0,(([]:List AA)++x1))]:List AB)) x5) else none) else none) else none) else none) else (HR x0 x1 (i64.wrap (x2+1)) x3 x4 x5)) else none) else none) else (some (x4,x3)))
def dz (x1:List Int) (x2:List AA) (b0:U):Option (List AB×U):=(if ([]:List AA).length+x2.length<=68719476736 then ((HL x1 b0.1).bind fun y1=>(HR x1 x2 0 (b0.1,b0.2.1,b0.2.2.1,true,b0.2.2.2.2.1,((y1.length:Int)==0),y1,(([]:List AA)++x2),b0.2.2.2.2.2.2.2.2) ([]:List AB) (([]:List AA)++x2))) else none)
theorem Wx:wg Of HR:=lS (by kernel_rfl)
theorem sX:Nm dz O4:=cT FP rfl ⟨rfl,rfl⟩ (by kernel_rfl)
def ba:=cG aS (AE E9) (AE E9) kx
def rC:=kB [] [1] 1 ba
def rD:=kE 0 [] [1] 1 ba kx
def Kq (x0:Int) (x1:Bool) (x2:AB):Option Bool:=cG aR rC (AE E9) rD ⟨[(1,.ptr 0 0),(38,.int .i64 x0),(39,.bool x1)],[.var (AJ.enc x2)]⟩
def QW (x0:Bool) (x1:AB):Option Bool:=cG aT (AE E9) (AE E9) kx ⟨[(1,.ptr 0 0),(36,.bool x0)],[.var (AJ.enc x1)]⟩
def ZH (x0:Int) (x1:Bool) (x2:AB):Option Bool:=(if x1=true then (some true) else (if (x0==5)=true then (some ((x2.2.2.2.2.2.length:Int)==1)) else (some ((x2.2.2.2.2.2.length:Int)==0))))
def ZI (x0:Bool) (x1:AB):Option Bool:=(if (x1.1==2)=true then (Kq x1.1 (x1.1==2) x1) else (Kq x1.1 (x1.1==3) x1))
def jW (x0:AB):Option Bool:=((AZ x0.1 1 8).bind fun y1=>(if (!y1)=false then ((AZ x0.2.1 1 6).bind fun y2=>(if (!y2)=false then ((AZ x0.2.2.1 1 6).bind fun y3=>(if (!y3)=false then ((AZ x0.2.2.2.1 1 9).bind fun y4=>(if (!y4)=false then ((AZ x0.2.2.2.2.1 0 1000000000).bind fun y5=>(if (!y5)=false then ((Dl x0.2.2.2.2.2).bind fun y6=>(if (!y6)=true then (some false) else (QW (!y6) x0))) else (some false))) else (some false))) else (some false))) else (some false))) else (some false)))
theorem oV:Nm ZH Kq:=jS (by kernel_rfl)
theorem oW:Rb ZI QW:=jS (by kernel_rfl)
theorem uZ:MO jW Xr:=cT E9 rfl ⟨rfl,rfl⟩ (by kernel_rfl)
def ZJ:=cG WR (AE Cq) (AE Cq) kx
def GK:=kB [] [6,9,10,11] 4 ZJ
def GL:=kE 0 [] [6,9,10,11] 4 ZJ kx
def Jn (x0:List Int) (x1:List AB) (x2:List AK) (x3:Bool) (x4:U) (x5:AB) (x6 x7:U):Option (U×List AB×List AK):=cG Yi GK (AE Cq) GL ⟨[(1,.lst (.int .i64) x0),(5,.ptr 1 0),(6,.ptr 2 0),(9,.ptr 3 0),(10,.lst AJ x1),(11,.lst Ay x2),(28,.bool x3)],[.var (Y.enc x4),.var (AJ.enc x5),.var (Y.enc x6),.var (Y.enc x7)]⟩
def Jo (x0:List AB) (x1:List AK) (x2:Bool) (x3:U) (x4:AB) (x5 x6:U):Option (U×List AB×List AK):=cG Yj GK (AE Cq) GL ⟨[(3,.ptr 0 0),(5,.ptr 1 0),(6,.ptr 2 0),(9,.ptr 3 0),(10,.lst AJ x0),(11,.lst Ay x1),(60,.bool x2)],[.var (Y.enc x3),.var (AJ.enc x4),.var (Y.enc x5),.var (Y.enc x6)]⟩
def Og (x0:List AB) (x1:List AK) (x2:Bool) (x3:U) (x4:AB) (x5 x6:U):Option (U×List AB×List AK):=cG Yk GK (AE Cq) GL ⟨[(3,.ptr 0 0),(5,.ptr 1 0),(6,.ptr 2 0),(9,.ptr 3 0),(10,.lst AJ x0),(11,.lst Ay x1),(50,.bool x2)],[.var (Y.enc x3),.var (AJ.enc x4),.var (Y.enc x5),.var (Y.enc x6)]⟩
def Oh (x0:List AB) (x1:List AK) (x2:Bool) (x3:U) (x4:AB) (x5 x6:U):Option (U×List AB×List AK):=cG WO GK (AE Cq) GL ⟨[(5,.ptr 1 0),(6,.ptr 2 0),(9,.ptr 3 0),(10,.lst AJ x0),(11,.lst Ay x1),(145,.bool x2)],[.var (Y.enc x3),.var (AJ.enc x4),.var (Y.enc x5),.var (Y.enc x6)]⟩
def Jp (x0:List AB) (x1:List AK) (x2:Int) (x3:U) (x4:AB) (x5 x6:U):Option (U×List AB×List AK):=cG WP GK (AE Cq) GL ⟨[(5,.ptr 1 0),(6,.ptr 2 0),(9,.ptr 3 0),(10,.lst AJ x0),(11,.lst Ay x1),(13,.int .i64 x2)],[.var (Y.enc x3),.var (AJ.enc x4),.var (Y.enc x5),.var (Y.enc x6)]⟩
def Jq (x0:List AB) (x1:List AK) (x2:Bool) (x3:U) (x4:AB) (x5 x6:U):Option (U×List AB×List AK):=cG WQ GK (AE Cq) GL ⟨[(5,.ptr 1 0),(6,.ptr 2 0),(9,.ptr 3 0),(10,.lst AJ x0),(11,.lst Ay x1),(127,.bool x2)],[.var (Y.enc x3),.var (AJ.enc x4),.var (Y.enc x5),.var (Y.enc x6)]⟩
def Wy (x0:List Int) (x1:List AB) (x2:List AK) (x3:Bool) (x4:U) (x5:AB) (x6 x7:U):Option (U×List AB×List AK):=(if x3=true then ((O4 x0 x5.2.2.2.2.2 x7).bind fun y2=>(some (y2.2,y2.1,x2))) else (some (x7,x1,x2)))
def Wz (x0:List AB) (x1:List AK) (x2:Bool) (x3:U) (x4:AB) (x5 x6:U):Option (U×List AB×List AK):=(if (!x6.2.2.2.1)=true then ((Mq x3 x3.2.1).bind fun y4=>(if ([]:List AA).length+x4.2.2.2.2.2.length<=68719476736 then ((Em x3 x4 4).bind fun y5=>(some ((y4.1,y4.2.1,y4.2.2.1,true,y4.2.2.2.2.1,y4.2.2.2.2.2.1,y4.2.2.2.2.2.2.1,(([]:List AA)++x4.2.2.2.2.2),y4.2.2.2.2.2.2.2.2),y5,x1))) else none)) else ((Em x3 x4 4).bind fun y6=>(some (x6,y6,x1))))
def W0 (x0:List AB) (x1:List AK) (x2:Bool) (x3:U) (x4:AB) (x5 x6:U):Option (U×List AB×List AK):=(if (!x6.2.2.2.1)=true then (if x6.2.2.1=true then (some (x6,x0,x1)) else (Jo x0 x1 x6.2.2.1 x3 x4 x5 x6)) else (Jo x0 x1 false x3 x4 x5 x6))
def W3 (x0:List AB) (x1:List AK) (x2:Bool) (x3:U) (x4:AB) (x5 x6:U):Option (U×List AB×List AK):=((Ig x6.2.2.2.2.2.2.2.2.2.2.2.2.2 x4.2.1).bind fun y11=>(if ((y11.length:Int)==0)=true then ((HM (x6.1,x6.2.1,x6.2.2.1,x6.2.2.2.1,x6.2.2.2.2.1,x6.2.2.2.2.2.1,x6.2.2.2.2.2.2.1,x6.2.2.2.2.2.2.2.1,x6.2.2.2.2.2.2.2.2.1,x6.2.2.2.2.2.2.2.2.2.1,x6.2.2.2.2.2.2.2.2.2.2.1,x6.2.2.2.2.2.2.2.2.2.2.2.1,x6.2.2.2.2.2.2.2.2.2.2.2.2.1,y11)).bind fun y12=>(some (y12.2,x0,y12.1))) else (some ((x6.1,x6.2.1,x6.2.2.1,x6.2.2.2.1,x6.2.2.2.2.1,x6.2.2.2.2.2.1,x6.2.2.2.2.2.2.1,x6.2.2.2.2.2.2.2.1,x6.2.2.2.2.2.2.2.2.1,x6.2.2.2.2.2.2.2.2.2.1,x6.2.2.2.2.2.2.2.2.2.2.1,x6.2.2.2.2.2.2.2.2.2.2.2.1,x6.2.2.2.2.2.2.2.2.2.2.2.2.1,y11),x0,x1))))
def W4 (x0:List AB) (x1:List AK) (x2:Int) (x3:U) (x4:AB) (x5 x6:U):Option (U×List AB×List AK):=(if (x6.2.2.2.2.2.2.2.2.2.1 != x2)=false then (if (x6.2.2.2.2.2.2.2.2.2.2.2.1 != x4.2.2.2.2.1)=true then (some (x6,x0,x1)) else (Oh x0 x1 (x6.2.2.2.2.2.2.2.2.2.2.2.1 != x4.2.2.2.2.1) x3 x4 x5 x6)) else (some (x6,x0,x1)))
def W5 (x0:List AB) (x1:List AK) (x2:Bool) (x3:U) (x4:AB) (x5 x6:U):Option (U×List AB×List AK):=(if x2=true then (if (x4.1==8)=true then (Jp x0 x1 2 x3 x4 x5 x6) else (Jp x0 x1 1 x3 x4 x5 x6)) else (some (x6,x0,x1)))
def d4 (x0:U) (x1:List Int) (x2:AB):Option (U×List AB×List AK):=((Dh x0).bind fun y1=>(if (x2.1==2)=true then (if y1.2.2.2.2.1=true then (Jn x1 ([]:List AB) ([]:List AK) (!y1.2.2.2.1) x0 x2 (0,0,false,false,false,false,([]:List Int),([]:List AA),0,0,0,0,(O,O,0),([]:List Int)) y1) else (Jn x1 ([]:List AB) ([]:List AK) false x0 x2 (0,0,false,false,false,false,([]:List Int),([]:List AA),0,0,0,0,(O,O,0),([]:List Int)) y1)) else (if (x2.1==3)=true then ((FC x1 x0.1).bind fun y3=>(if (!y3)=true then (some (y1,([]:List AB),([]:List AK))) else (if 0<=(0:Int) then (if 0<(x1.length:Int) then (if ((x1.getD (0:Int).toNat 0)==x0.1)=true then (some (y1,([]:List AB),([]:List AK))) else (Og ([]:List AB) ([]:List AK) ((x1.getD (0:Int).toNat 0)==x0.1) x0 x2 (0,0,false,false,false,false,([]:List Int),([]:List AA),0,0,0,0,(O,O,0),([]:List Int)) y1)) else none) else none))) else (if (x2.1==4)=true then (if y1.2.2.2.2.1=true then ((Ig y1.2.2.2.2.2.2.1 x2.2.1).bind fun y7=>(if y1.2.2.2.1=true then (some ((y1.1,y1.2.1,y1.2.2.1,y1.2.2.2.1,y1.2.2.2.2.1,((y7.length:Int)==0),y7,y1.2.2.2.2.2.2.2),([]:List AB),([]:List AK))) else (some ((y1.1,y1.2.1,y1.2.2.1,y1.2.2.2.1,y1.2.2.2.2.1,false,y7,y1.2.2.2.2.2.2.2),([]:List AB),([]:List AK))))) else (some (y1,([]:List AB),([]:List AK)))) else (if (x2.1==5)=true then (if y1.2.2.2.1=true then (if 0<=(0:Int) then (if 0<(x2.2.2.2.2.2.length:Int) then ((JF y1.2.2.2.2.2.2.2.1 (x2.2.2.2.2.2.getD (0:Int).toNat (O,O,0))).bind fun y8=>((Em x0 x2 6).bind fun y9=>(some ((y1.1,y1.2.1,y1.2.2.1,y1.2.2.2.1,y1.2.2.2.2.1,y1.2.2.2.2.2.1,y1.2.2.2.2.2.2.1,y8,y1.2.2.2.2.2.2.2.2),y9,([]:List AK))))) else none) else none) else (some (y1,([]:List AB),([]:List AK)))) else (if (x2.1==7)=true then (if y1.2.2.2.1=true then ((Em x0 x2 8).bind fun y10=>(some (y1,y10,([]:List AK)))) else (some (y1,([]:List AB),([]:List AK)))) else (if (x2.1==6)=true then (Jq ([]:List AB) ([]:List AK) (x2.1==6) x0 x2 (0,0,false,false,false,false,([]:List Int),([]:List AA),0,0,0,0,(O,O,0),([]:List Int)) y1) else (Jq ([]:List AB) ([]:List AK) (x2.1==8) x0 x2 (0,0,false,false,false,false,([]:List Int),([]:List AA),0,0,0,0,(O,O,0),([]:List Int)) y1))))))))
theorem mH:xY Wy Jn:=jS (by kernel_rfl)
theorem mI:zu Wz Jo:=jS (by kernel_rfl)
theorem mJ:zu W0 Og:=jS (by kernel_rfl)
theorem mK:zu W3 Oh:=jS (by kernel_rfl)
theorem mL:zu W4 Jp:=jS (by kernel_rfl)
theorem mM:zu W5 Jq:=jS (by kernel_rfl)
theorem sY:Nm d4 VS:=cT Cq rfl ⟨rfl,rfl⟩ (by kernel_rfl)
def bc (x0:U) (x1:Int):Option U:=(if ([]:List AA).length+x0.2.2.2.2.2.2.2.1.length<=68719476736 then (some (x0.1,x1,false,false,false,false,([]:List Int),(([]:List AA)++x0.2.2.2.2.2.2.2.1),0,0,0,0,(O,O,0),([]:List Int))) else none)
theorem rE:Rb bc Mq:=cT Mg rfl ⟨rfl,rfl⟩ (by kernel_rfl)
def oX (x0:U) (x1:AB) (x2:Int):Option (List AB):=(some ([(x2,x0.1,x1.2.1,x1.2.2.2.1,x1.2.2.2.2.1,([]:List AA))]:List AB))
theorem oY:Nm oX Em:=cT Kh rfl ⟨rfl,rfl⟩ (by kernel_rfl)
def bd:=cG PW (AE Cm) (AE Cm) kx
def be:=kE 0 [] [] 0 bd kx
def Zl:St->Option (RT (BS.outs Cm)):=lG PV [] [0,1,2,9,10,11] 0 (AE Cm) be
def D4 (x0:List Int) (x1 x2:Int) (x3:List Int) (x4 x5:Int):Option Bool:=Zl ⟨[(0,.lst (.int .i64) x0),(1,.int .i64 x1),(2,.int .i64 x2),(9,.lst (.int .i64) x3),(10,.int .i64 x4),(11,.int .i64 x5)],[]⟩
def Id (x0:List Int) (x1 x2:Int) (x3:List Int) (x4 x5:Int):Option Bool:=(if (decide (x5<x4))=true then (if 0<=x5 then (if x5<(x3.length:Int) then ((Ap (x3.getD x5.toNat 0) x1 x2).bind fun y1=>(if (!y1)=false then (if (decide (x5>0))=true then (if 0<=(i64.wrap (x5-1)) then (if (i64.wrap (x5-1))<(x0.length:Int) then (if (decide ((x3.getD x5.toNat 0)<=(x0.getD (i64.wrap (x5-1)).toNat 0)))=true then (some false) else (D4 x0 x1 x2 x3 x4 (i64.wrap (x5+1)))) else none) else none) else (D4 x0 x1 x2 x3 x4 (i64.wrap (x5+1)))) else (some false))) else none) else none) else (some true))
def Sq (x0:List Int) (x1 x2:Int):Option Bool:=(D4 x0 x1 x2 x0 (x0.length:Int) 0)
theorem OC:wg Id D4:=lS (by kernel_rfl)
theorem fm:Nm Sq Hv:=cT Cm rfl ⟨rfl,rfl⟩ (by kernel_rfl)
def mN:=cG T0 (AE EW) (AE EW) kx
def mO:=kE 0 [] [0] 0 mN kx
def jX:St->Option (RT (BS.outs EW)):=lG Tz [] [0,5,6,7] 0 (AE EW) mO
def Gl (x0 x1:List AA) (x2 x3:Int):Option Bool:=jX ⟨[(0,.lst AH x0),(5,.lst AH x1),(6,.int .i64 x2),(7,.int .i64 x3)],[]⟩
def NV (x0 x1:List AA) (x2 x3:Int):Option Bool:=(if (decide (x3<x2))=true then (if 0<=x3 then (if x3<(x1.length:Int) then ((RR ((x1.getD x3.toNat (O,O,0)).1)).bind fun y1=>(if (!y1)=true then (some false) else (if (decide (((((x1.getD x3.toNat (O,O,0)).2).1).size:Int)>20))=true then (some false) else ((Ap (((x1.getD x3.toNat (O,O,0)).2).2) 1 1000000000).bind fun y2=>(if (!y2)=true then (some false) else (if (decide (x3>0))=true then (if 0<=(i64.wrap (x3-1)) then (if (i64.wrap (x3-1))<(x0.length:Int) then (if ((Op.bytesLess ((x1.getD x3.toNat (O,O,0)).1).toList ((x0.getD (i64.wrap (x3-1)).toNat (O,O,0)).1).toList)||(((x1.getD x3.toNat (O,O,0)).1).toList==((x0.getD (i64.wrap (x3-1)).toNat (O,O,0)).1).toList))=true then (some false) else (Gl x0 x1 x2 (i64.wrap (x3+1)))) else none) else none) else (Gl x0 x1 x2 (i64.wrap (x3+1))))))))) else none) else none) else (some (decide ((x0.length:Int)<=12))))
def bf (x0:List AA):Option Bool:=(Gl x0 x0 (x0.length:Int) 0)
theorem U1:eP NV Gl:=lS (by kernel_rfl)
theorem rF:MO bf Fj:=cT EW rfl ⟨rfl,rfl⟩ (by kernel_rfl)
def Px (b0:U):Option (Bool×U):=(if (b0.2.2.2.2.2.2.2.2.2.1==0)=true then (if (b0.2.2.2.2.2.2.2.2.2.2.1==0)=true then (if (b0.2.2.2.2.2.2.2.2.2.2.2.1==0)=true then (if (false != Zv AH b0.2.2.2.2.2.2.2.2.2.2.2.2.1 (O,O,0))=true then (some (((b0.2.2.2.2.2.2.2.2.2.2.2.2.2.length:Int)==0),b0)) else (some (false,b0))) else (some (false,b0))) else (some (false,b0))) else ((Ap b0.2.2.2.2.2.2.2.2.2.1 1 2).bind fun y1=>(if y1=true then (if b0.2.2.2.2.2.1=true then ((Ap b0.2.2.2.2.2.2.2.2.2.2.1 0 1000).bind fun y2=>(if y2=true then ((Ap b0.2.2.2.2.2.2.2.2.2.2.2.1 1 900).bind fun y3=>(if y3=true then ((Hv b0.2.2.2.2.2.2.2.2.2.2.2.2.2 1 6).bind fun y4=>(some (y4,b0))) else (some (false,b0)))) else (some (false,b0)))) else (some (false,b0))) else (some (false,b0)))))
theorem bg:MO Px DS:=cT GW rfl ⟨rfl,rfl⟩ (by kernel_rfl)
def Hd:=kE 0 [] [] 1 (AE Aa) kx
def HS:St->Option (RT (BS.outs Aa)):=lG HI [(0,0)] [0,1,2,3,8,9] 1 (AE Aa) Hd
def He:=kB [(0,0)] [0,1,2,3,8,9] 1 HS
def CK:=kB [(0,0)] [0,1,2,3,8,9] 1 He
def Bk:=kE 1 [(0,0)] [0,1,2,3,8,9] 1 He Hd
def Py:=cG EB CK (AE Aa) Bk
def HT (x0 x1 x2:Int) (x3 x4:Bool) (x5 x6:Int) (x7:Bool) (x8:List Int):Option (List Int):=cG EB CK (AE Aa) Bk ⟨[(0,.row 0),(1,.int .i64 x0),(2,.int .i64 x1),(3,.int .i64 x2),(8,.bool x3),(9,.bool x4),(10,.int .i64 x5),(11,.int .i64 x6),(87,.bool x7)],[.mrow 3 (.int .i64) x8]⟩
def EG (x0 x1 x2:Int) (x3 x4:Bool) (x5 x6:Int) (x7:Bool) (x8:List Int):Option (List Int):=cG HE Py (AE Aa) Bk ⟨[(0,.row 0),(1,.int .i64 x0),(2,.int .i64 x1),(3,.int .i64 x2),(8,.bool x3),(9,.bool x4),(10,.int .i64 x5),(11,.int .i64 x6),(87,.bool x7)],[.mrow 3 (.int .i64) x8]⟩
def CE (x0 x1 x2:Int) (x3 x4:Bool) (x5 x6:Int) (x7:List Int):Option (List Int):=cG HF CK (AE Aa) Bk ⟨[(0,.row 0),(1,.int .i64 x0),(2,.int .i64 x1),(3,.int .i64 x2),(8,.bool x3),(9,.bool x4),(10,.int .i64 x5),(11,.int .i64 x6)],[.mrow 3 (.int .i64) x7]⟩
def EH (x0 x1 x2:Int) (x3 x4:Bool) (x5 x6 x7:Int) (x8:List Int):Option (List Int):=cG HG CK (AE Aa) Bk ⟨[(0,.row 0),(1,.int .i64 x0),(2,.int .i64 x1),(3,.int .i64 x2),(8,.bool x3),(9,.bool x4),(10,.int .i64 x5),(11,.int .i64 x6),(12,.int .i64 x7)],[.mrow 3 (.int .i64) x8]⟩
def EI (x0 x1 x2:Int) (x3 x4:Bool) (x5:Int) (x6:List Int):Option (List Int):=cG HH CK (AE Aa) Bk ⟨[(0,.row 0),(1,.int .i64 x0),(2,.int .i64 x1),(3,.int .i64 x2),(8,.bool x3),(9,.bool x4),(10,.int .i64 x5)],[.mrow 3 (.int .i64) x6]⟩
def CF (x0 x1 x2:Int) (x3 x4:Bool) (x5:List Int):Option (List Int):=HS ⟨[(0,.row 0),(1,.int .i64 x0),(2,.int .i64 x1),(3,.int .i64 x2),(8,.bool x3),(9,.bool x4)],[.mrow 3 (.int .i64) x5]⟩
def Oi (x0 x1 x2:Int) (x3 x4:Bool) (x5 x6:Int) (x7:Bool) (x8:List Int):Option (List Int):=((Pa x0 x1 x6 x8).bind fun y9=>(if 8=0 then none else (if (decide ((i64.wrap (y9.1-x0))<(i64.wrap (x1-y9.1))))=true then ((Cd x0 y9.1 x2 y9.2.2).bind fun y10=>(CF (i64.wrap (y9.1+1)) x1 x2 (decide ((i64.wrap (y9.1-x0))>=(i64.wrap (Int.tdiv x5 8)))) y9.2.1 y10)) else ((Cd (i64.wrap (y9.1+1)) x1 x2 y9.2.2).bind fun y11=>(CF x0 y9.1 x2 (decide ((i64.wrap (x1-y9.1))>=(i64.wrap (Int.tdiv x5 8)))) y9.2.1 y11)))))
def Oj (x0 x1 x2:Int) (x3 x4:Bool) (x5 x6:Int) (x7:Bool) (x8:List Int):Option (List Int):=(if x7=true then ((LA x0 x1 x6 x8).bind fun y8=>(CF y8.1 x1 x2 x3 x4 y8.2)) else (HT x0 x1 x2 x3 x4 x5 x6 x7 x8))
def Ok (x0 x1 x2:Int) (x3 x4:Bool) (x5 x6:Int) (x7:List Int):Option (List Int):=(if (decide (x0>0))=true then (if 0<=(i64.wrap (x0-1)) then (if (i64.wrap (x0-1))<(x7.length:Int) then (if 0<=x6 then (if x6<(x7.length:Int) then ((Mt (x7.getD ((i64.wrap (x0-1)).toNat) 0) (x7.getD x6.toNat 0)).bind fun y7=>(EG x0 x1 x2 x3 x4 x5 x6 (!y7) x7)) else none) else none) else none) else none) else (EG x0 x1 x2 x3 x4 x5 x6 false x7))
def Ol (x0 x1 x2:Int) (x3 x4:Bool) (x5 x6 x7:Int) (x8:List Int):Option (List Int):=(if x3=true then (if x4=true then (if (x7==1)=true then ((IT x0 x1 x8).bind fun y6=>(if y6.1=true then (some y6.2) else (CE x0 x1 x2 x3 x4 x5 x6 y6.2))) else (CE x0 x1 x2 x3 x4 x5 x6 x8)) else (CE x0 x1 x2 x3 x4 x5 x6 x8)) else (CE x0 x1 x2 x3 x4 x5 x6 x8))
def Om (x0 x1 x2:Int) (x3 x4:Bool) (x5:Int) (x6:List Int):Option (List Int):=((Nk x0 x1 x6).bind fun y4=>(if (y4.2.1==2)=true then ((Mv x0 x1 y4.2.2).bind fun y5=>(EH x0 x1 x2 x3 x4 x5 (i64.wrap ((i64.wrap (x1-1))-(i64.wrap (y4.1-x0)))) 1 y5)) else (EH x0 x1 x2 x3 x4 x5 y4.1 y4.2.1 y4.2.2)))
def HU (x0 x1 x2:Int) (x3 x4:Bool) (x5:List Int):Option (List Int):=(if (decide ((i64.wrap (x1-x0))<=12))=true then ((DX x0 x1 x5).bind fun y1=>(some y1)) else (if (x2==0)=true then ((QN x0 x1 x5).bind fun y2=>(some y2)) else (if (!x3)=true then ((Lx x0 x1 x5).bind fun y3=>(EI x0 x1 (i64.wrap (x2-1)) x3 x4 (i64.wrap (x1-x0)) y3)) else (EI x0 x1 x2 x3 x4 (i64.wrap (x1-x0)) x5))))
def I1 (x1 x2 x3:Int) (b0:List Int):Option (List Int):=(CF x1 x2 x3 true true b0)
theorem mP:Le9 Oi HT:=jS (by kernel_rfl)
theorem mQ:Le9 Oj EG:=jS (by kernel_rfl)
theorem mR:xY Ok CE:=jS (by kernel_rfl)
theorem mS:Le9 Ol EH:=jS (by kernel_rfl)
theorem mT:zu Om EI:=jS (by kernel_rfl)
theorem On:wg HU CF:=lS (by kernel_rfl)
theorem RW:eP I1 Cd:=cT Aa rfl ⟨rfl,rfl⟩ (by kernel_rfl)
def ZK (x0:Int):Option Int:=((Ms x0).bind fun y1=>(some y1))
theorem oZ:MO ZK QM:=cT Ki rfl ⟨rfl,rfl⟩ (by kernel_rfl)
def I2 (x0:List AA) (x1:AA) (x2:List AA):Option (List AA):=cG WT (AE EX) (AE EX) kx ⟨[(0,.lst AH x0),(5,.row 1)],[.var (AH.enc x1),.rows 45 AH x2]⟩
def I3 (x0:List AA) (x1:Int) (x2 x3:Bool) (x4:AA) (x5:List AA):Option (List AA):=cG WU (AE EX) (AE EX) kx ⟨[(0,.lst AH x0),(3,.ptr 0 0),(5,.row 1),(6,.int .i64 x1),(7,.bool x2),(32,.bool x3)],[.var (AH.enc x4),.rows 45 AH x5]⟩
def U2 (x0:List AA) (x1:AA) (x2:List AA):Option (List AA):=((Fj x2).bind fun y5=>(if (!y5)=true then ((Al x0).bind fun y6=>(some y6)) else (some x2)))
def U3 (x0:List AA) (x1:Int) (x2 x3:Bool) (x4:AA) (x5:List AA):Option (List AA):=(if x2=true then (if 0<=x1 then (if x1<(x5.length:Int) then (let z4:List AA:=x5.set x1.toNat x4; (I2 x0 x4 z4)) else none) else none) else ((DC x5 x1 ([x4]:List AA)).bind fun y7=>(I2 x0 x4 y7)))
def bh (x0:List AA) (x1:AA):Option (List AA):=((Al x0).bind fun y1=>((BZ x0 x1.1 ()).bind fun y2=>((Fj x0).bind fun y3=>(if (!y3)=true then (some y1) else (if y2.2=true then (if 0<=y2.1 then (if y2.1<(x0.length:Int) then (if (decide ((((x0.getD y2.1.toNat (O,O,0)).2).2)>=x1.2.2))=true then (some y1) else (I3 x0 y2.1 y2.2 (decide ((((x0.getD y2.1.toNat (O,O,0)).2).2)>=x1.2.2)) x1 y1)) else none) else none) else (I3 x0 y2.1 y2.2 false x1 y1))))))
theorem jY:Nm U2 I2:=jS (by kernel_rfl)
theorem jZ:wg U3 I3:=jS (by kernel_rfl)
theorem rG:Rb bh Mr:=cT EX rfl ⟨rfl,rfl⟩ (by kernel_rfl)
def bl:=cG aW (AE E_) (AE E_) kx
def rH:=kB [] [1] 1 bl
def rI:=kE 0 [] [1] 1 bl kx
def Kr (x0:Int) (x1:Bool) (x2:AB):Option Bool:=cG aV rH (AE E_) rI ⟨[(1,.ptr 0 0),(38,.int .i64 x0),(39,.bool x1)],[.var (AJ.enc x2)]⟩
def QX (x0:Bool) (x1:AB):Option Bool:=cG aX (AE E_) (AE E_) kx ⟨[(1,.ptr 0 0),(36,.bool x0)],[.var (AJ.enc x1)]⟩
def ZL (x0:Int) (x1:Bool) (x2:AB):Option Bool:=(if x1=true then (some true) else (if (x0==5)=true then (some ((x2.2.2.2.2.2.length:Int)==1)) else (some ((x2.2.2.2.2.2.length:Int)==0))))
def ZM (x0:Bool) (x1:AB):Option Bool:=(if (x1.1==2)=true then (Kr x1.1 (x1.1==2) x1) else (Kr x1.1 (x1.1==3) x1))
def ja (x0:AB):Option Bool:=((Ap x0.1 1 8).bind fun y1=>(if (!y1)=false then ((FV x0.2.1).bind fun y2=>(if (!y2)=false then ((FV x0.2.2.1).bind fun y3=>(if (!y3)=false then ((Ap x0.2.2.2.1 1 9).bind fun y4=>(if (!y4)=false then ((Ap x0.2.2.2.2.1 0 1000000000).bind fun y5=>(if (!y5)=false then ((Fj x0.2.2.2.2.2).bind fun y6=>(if (!y6)=true then (some false) else (QX (!y6) x0))) else (some false))) else (some false))) else (some false))) else (some false))) else (some false)))
theorem ob:Nm ZL Kr:=jS (by kernel_rfl)
theorem oc:Rb ZM QX:=jS (by kernel_rfl)
theorem ua:MO ja Xs:=cT E_ rfl ⟨rfl,rfl⟩ (by kernel_rfl)
def Pz:=cG Ns (AE CO) (AE CO) kx
def JO:=kB [] [] 2 Pz
def JP:=kE 0 [] [] 2 Pz kx
def D5 (x0:List (List Int)) (x1:Bool) (x2:U) (x3:AB):Option (List AB×List AK×U):=cG PY JO (AE CO) JP ⟨[(0,.ptr 0 0),(1,.lst (.slice (.int .i64)) x0),(5,.ptr 1 0),(37,.bool x1)],[.var (Y.enc x2),.var (AJ.enc x3)]⟩
def F3 (x0:Bool) (x1:U) (x2:AB):Option (List AB×List AK×U):=cG PZ JO (AE CO) JP ⟨[(0,.ptr 0 0),(5,.ptr 1 0),(75,.bool x0)],[.var (Y.enc x1),.var (AJ.enc x2)]⟩
def F4 (x0:Int) (x1:Bool) (x2:U) (x3:AB):Option (List AB×List AK×U):=cG Nr JO (AE CO) JP ⟨[(0,.ptr 0 0),(5,.ptr 1 0),(9,.int .i64 x0),(107,.bool x1)],[.var (Y.enc x2),.var (AJ.enc x3)]⟩
def OD (x0:List (List Int)) (x1:Bool) (x2:U) (x3:AB):Option (List AB×List AK×U):=(if x1=true then (if 0<=(i64.wrap (x2.2.1-1)) then (if (i64.wrap (x2.2.1-1))<(x0.length:Int) then ((Dk (x0.getD (i64.wrap (x2.2.1-1)).toNat ([]:List Int)) x3.2.2.2.2.2 x2).bind fun y2=>(some (y2.1,[],y2.2))) else none) else none) else (some ([],[],x2)))
def OE (x0:Bool) (x1:U) (x2:AB):Option (List AB×List AK×U):=(if x0=true then ((Mu x1.2.2.2.2.2.2.1 x2.2.1).bind fun y4=>(if x1.2.2.2.2.2.1=false then (if ((y4.length:Int)==0)=true then (some ([],[],(x1.1,x1.2.1,x1.2.2.1,x1.2.2.2.1,x1.2.2.2.2.1,x1.2.2.2.1,y4,x1.2.2.2.2.2.2.2))) else (some ([],[],(x1.1,x1.2.1,x1.2.2.1,x1.2.2.2.1,x1.2.2.2.2.1,false,y4,x1.2.2.2.2.2.2.2)))) else (some ([],[],(x1.1,x1.2.1,x1.2.2.1,x1.2.2.2.1,x1.2.2.2.2.1,true,y4,x1.2.2.2.2.2.2.2))))) else (some ([],[],x1)))
def OF (x0:Int) (x1:Bool) (x2:U) (x3:AB):Option (List AB×List AK×U):=(if x1=true then ((Jx x3 x2).bind fun y5=>(some (y5.1,[],y5.2))) else (if (x0==6)=true then ((GZ 1 x3 x2).bind fun y6=>(some ([],y6.1,y6.2))) else (if (x0==8)=true then ((GZ 2 x3 x2).bind fun y7=>(some ([],y7.1,y7.2))) else (some ([],[],x2)))))
def Sr (x1:List (List Int)) (x2:AB) (b0:U):Option (List AB×List AK×U):=(if (x2.1==1)=true then ((K_ x1 x2 b0).bind fun y1=>(some (y1.1,[],y1.2))) else (if (x2.1==2)=true then (if (x2.2.2.2.1==b0.2.1)=true then (if b0.2.2.2.2.1=true then (D5 x1 (!b0.2.2.2.1) b0 x2) else (D5 x1 false b0 x2)) else (D5 x1 false b0 x2)) else (if (x2.1==3)=true then (if 0<=(i64.wrap (x2.2.2.2.1-1)) then (if (i64.wrap (x2.2.2.2.1-1))<(x1.length:Int) then ((IS (x1.getD (i64.wrap (x2.2.2.2.1-1)).toNat ([]:List Int)) x2 b0).bind fun y3=>(some (y3.1,[],y3.2))) else none) else none) else (if (x2.1==4)=true then (if (x2.2.2.2.1==b0.2.1)=true then (F3 b0.2.2.2.2.1 b0 x2) else (F3 false b0 x2)) else (if (x2.1==5)=true then (F4 x2.1 (x2.1==5) b0 x2) else (F4 x2.1 (x2.1==7) b0 x2))))))
theorem Zm:eP OD D5:=jS (by kernel_rfl)
theorem Zn:Nm OE F3:=jS (by kernel_rfl)
theorem Zo:eP OF F4:=jS (by kernel_rfl)
theorem fo:Nm Sr K9:=cT CO rfl ⟨rfl,rfl⟩ (by kernel_rfl)
def od:=cG Yn (AE FQ) (AE FQ) kx
def oe:=kE 0 [] [] 0 od kx
def mU:St->Option (RT (BS.outs FQ)):=lG Ym [] [0,3] 0 (AE FQ) oe
def HV (x0:List Int) (x1:Int):Option Bool:=mU ⟨[(0,.lst (.int .i64) x0),(3,.int .i64 x1)],[]⟩
def Oo (x0:List Int) (x1:Int):Option Bool:=(if (decide (x1<(x0.length:Int)))=true then (if 0<=x1 then (if x1<(x0.length:Int) then ((AZ (x0.getD x1.toNat 0) 1 6).bind fun y1=>(if (!y1)=true then (some false) else (if (decide (x1>0))=true then (if 0<=(i64.wrap (x1-1)) then (if (i64.wrap (x1-1))<(x0.length:Int) then (if 0<=x1 then (if x1<(x0.length:Int) then (if (decide ((x0.getD (i64.wrap (x1-1)).toNat 0)>=(x0.getD x1.toNat 0)))=true then (some false) else (HV x0 (i64.wrap (x1+1)))) else none) else none) else none) else none) else (HV x0 (i64.wrap (x1+1)))))) else none) else none) else (some true))
def d5 (x0:List Int):Option Bool:=(HV x0 0)
theorem W6:Rb Oo HV:=lS (by kernel_rfl)
theorem sZ:MO d5 Db:=cT FQ rfl ⟨rfl,rfl⟩ (by kernel_rfl)
def mV:=cG T5 (AE EY) (AE EY) kx
def mW:=kE 0 [] [0] 0 mV kx
def jb:St->Option (RT (BS.outs EY)):=lG T4 [] [0,3] 0 (AE EY) mW
def Gm (x0:List AA) (x1:Int):Option Bool:=jb ⟨[(0,.lst AH x0),(3,.int .i64 x1)],[]⟩
def NW (x0:List AA) (x1:Int):Option Bool:=(if (decide (x1<(x0.length:Int)))=true then (if 0<=x1 then (if x1<(x0.length:Int) then ((AZ (((x0.getD x1.toNat (O,O,0)).1).size:Int) 1 12).bind fun y1=>(if (!y1)=true then (some false) else (if (decide (((((x0.getD x1.toNat (O,O,0)).2).1).size:Int)>20))=true then (some false) else ((AZ (((x0.getD x1.toNat (O,O,0)).2).2) 1 1000000000).bind fun y2=>(if (!y2)=true then (some false) else (if (decide (x1>0))=true then (if 0<=(i64.wrap (x1-1)) then (if (i64.wrap (x1-1))<(x0.length:Int) then (if (!(Op.bytesLess ((x0.getD (i64.wrap (x1-1)).toNat (O,O,0)).1).toList ((x0.getD x1.toNat (O,O,0)).1).toList))=true then (some false) else (Gm x0 (i64.wrap (x1+1)))) else none) else none) else (Gm x0 (i64.wrap (x1+1))))))))) else none) else none) else (some (decide ((x0.length:Int)<=12))))
def bm (x0:List AA):Option Bool:=(Gm x0 0)
theorem U4:Rb NW Gm:=lS (by kernel_rfl)
theorem rJ:MO bm Dl:=cT EY rfl ⟨rfl,rfl⟩ (by kernel_rfl)
def W7 (x0:tw):Option Bool:=(if (x0.1==0)=true then (if (x0.2.1==0)=true then (if (x0.2.2.1==0)=true then (if (false != Zv AH x0.2.2.2.1 (O,O,0))=true then (some ((x0.2.2.2.2.length:Int)==0)) else (some false)) else (some false)) else (some false)) else (some false))
theorem mX:MO W7 OW:=cT Je rfl ⟨rfl,rfl⟩ (by kernel_rfl)
def dS:=cG Qq (AE C4) (AE C4) kx
def dU:=kE 0 [(5,0)] [5] 1 dS kx
def bn:St->Option (RT (BS.outs C4)):=lG Qp [(5,0)] [0,1,5,6] 1 (AE C4) dU
def EZ (x0:List Int) (x1 x2:Int) (x3:List Int):Option (List Int):=bn ⟨[(0,.lst (.int .i64) x0),(1,.int .i64 x1),(5,.row 0),(6,.int .i64 x2)],[.rows 3 (.int .i64) x3]⟩
def JQ (x0:List Int) (x1 x2:Int) (x3:List Int):Option (List Int):=(if (decide (x2<(x0.length:Int)))=true then (if 0<=x2 then (if x2<(x0.length:Int) then (if ((x0.getD x2.toNat 0) != x1)=true then (if 0<=x2 then (if x2<(x0.length:Int) then (if x3.length+([(x0.getD x2.toNat 0)]:List Int).length<=68719476736 then (EZ x0 x1 (i64.wrap (x2+1)) (x3++([(x0.getD x2.toNat 0)]:List Int))) else none) else none) else none) else (EZ x0 x1 (i64.wrap (x2+1)) x3)) else none) else none) else (some x3))
def U5 (x0:List Int) (x1:Int):Option (List Int):=(EZ x0 x1 0 ([]:List Int))
theorem P0:eP JQ EZ:=lS (by kernel_rfl)
theorem jc:Rb U5 Ig:=cT C4 rfl ⟨rfl,rfl⟩ (by kernel_rfl)
def Gn (x0 x1:Int):Option Int:=cG Qr (AE C5) (AE C5) kx ⟨[(0,.int .u64 x0),(2,.int .i64 x1)],[]⟩
def JR (x0 x1:Int):Option Int:=cG Qs (AE C5) (AE C5) kx ⟨[(0,.int .u64 x0),(2,.int .i64 x1)],[]⟩
def JS (x0 x1:Int):Option Int:=(if (decide (x0>=256))=true then (if 8<0 then none else (if 0<=(IntKind.u8.wrap (Int.fdiv x0 (2^(min (8:Int).toNat (IntKind.bits .u64))))) then (if (IntKind.u8.wrap (Int.fdiv x0 (2^(min (8:Int).toNat (IntKind.bits .u64)))))<((⟨#[0,1,2,2,3,3,3,3,4,4,4,4,4,4,4,4,5,5,5,5,5,5,5,5,5,5,5,5,5,5,5,5,6,6,6,6,6,6,6,6,6,6,6,6,6,6,6,6,6,6,6,6,6,6,6,6,6,6,6,6,6,6,6,6,7,7,7,7,7,7,7,7,7,7,7,7,7,7,7,7,7,7,7,7,7,7,7,7,7,7,7,7,7,7,7,7,7,7,7,7,7,7,7,7,7,7,7,7,7,7,7,7,7,7,7,7,7,7,7,7,7,7,7,7,7,7,7,7,8,8,8,8,8,8,8,8,8,8,8,8,8,8,8,8,8,8,8,8,8,8,8,8,8,8,8,8,8,8,8,8,8,8,8,8,8,8,8,8,8,8,8,8,8,8,8,8,8,8,8,8,8,8,8,8,8,8,8,8,8,8,8,8,8,8,8,8,8,8,8,8,8,8,8,8,8,8,8,8,8,8,8,8,8,8,8,8,8,8,8,8,8,8,8,8,8,8,8,8,8,8,8,8,8,8,8,8,8,8,8,8,8,8,8,8,8,8,8,8,8,8,8,8,8,8,8,8]⟩:ByteArray).size:Int) then (some (i64.wrap ((i64.wrap (x1+8))+(i64.wrap (((⟨#[0,1,2,2,3,3,3,3,4,4,4,4,4,4,4,4,5,5,5,5,5,5,5,5,5,5,5,5,5,5,5,5,6,6,6,6,6,6,6,6,6,6,6,6,6,6,6,6,6,6,6,6,6,6,6,6,6,6,6,6,6,6,6,6,7,7,7,7,7,7,7,7,7,7,7,7,7,7,7,7,7,7,7,7,7,7,7,7,7,7,7,7,7,7,7,7,7,7,7,7,7,7,7,7,7,7,7,7,7,7,7,7,7,7,7,7,7,7,7,7,7,7,7,7,7,7,7,7,8,8,8,8,8,8,8,8,8,8,8,8,8,8,8,8,8,8,8,8,8,8,8,8,8,8,8,8,8,8,8,8,8,8,8,8,8,8,8,8,8,8,8,8,8,8,8,8,8,8,8,8,8,8,8,8,8,8,8,8,8,8,8,8,8,8,8,8,8,8,8,8,8,8,8,8,8,8,8,8,8,8,8,8,8,8,8,8,8,8,8,8,8,8,8,8,8,8,8,8,8,8,8,8,8,8,8,8,8,8,8,8,8,8,8,8,8,8,8,8,8,8,8,8,8,8,8,8]⟩:ByteArray).data.toList.getD (IntKind.u8.wrap (Int.fdiv x0 (2^(min (8:Int).toNat (IntKind.bits .u64))))).toNat 0).toNat:Int))))) else none) else none)) else (if 0<=(IntKind.u8.wrap x0) then (if (IntKind.u8.wrap x0)<((⟨#[0,1,2,2,3,3,3,3,4,4,4,4,4,4,4,4,5,5,5,5,5,5,5,5,5,5,5,5,5,5,5,5,6,6,6,6,6,6,6,6,6,6,6,6,6,6,6,6,6,6,6,6,6,6,6,6,6,6,6,6,6,6,6,6,7,7,7,7,7,7,7,7,7,7,7,7,7,7,7,7,7,7,7,7,7,7,7,7,7,7,7,7,7,7,7,7,7,7,7,7,7,7,7,7,7,7,7,7,7,7,7,7,7,7,7,7,7,7,7,7,7,7,7,7,7,7,7,7,8,8,8,8,8,8,8,8,8,8,8,8,8,8,8,8,8,8,8,8,8,8,8,8,8,8,8,8,8,8,8,8,8,8,8,8,8,8,8,8,8,8,8,8,8,8,8,8,8,8,8,8,8,8,8,8,8,8,8,8,8,8,8,8,8,8,8,8,8,8,8,8,8,8,8,8,8,8,8,8,8,8,8,8,8,8,8,8,8,8,8,8,8,8,8,8,8,8,8,8,8,8,8,8,8,8,8,8,8,8,8,8,8,8,8,8,8,8,8,8,8,8,8,8,8,8,8,8]⟩:ByteArray).size:Int) then (some (i64.wrap (x1+(i64.wrap (((⟨#[0,1,2,2,3,3,3,3,4,4,4,4,4,4,4,4,5,5,5,5,5,5,5,5,5,5,5,5,5,5,5,5,6,6,6,6,6,6,6,6,6,6,6,6,6,6,6,6,6,6,6,6,6,6,6,6,6,6,6,6,6,6,6,6,7,7,7,7,7,7,7,7,7,7,7,7,7,7,7,7,7,7,7,7,7,7,7,7,7,7,7,7,7,7,7,7,7,7,7,7,7,7,7,7,7,7,7,7,7,7,7,7,7,7,7,7,7,7,7,7,7,7,7,7,7,7,7,7,8,8,8,8,8,8,8,8,8,8,8,8,8,8,8,8,8,8,8,8,8,8,8,8,8,8,8,8,8,8,8,8,8,8,8,8,8,8,8,8,8,8,8,8,8,8,8,8,8,8,8,8,8,8,8,8,8,8,8,8,8,8,8,8,8,8,8,8,8,8,8,8,8,8,8,8,8,8,8,8,8,8,8,8,8,8,8,8,8,8,8,8,8,8,8,8,8,8,8,8,8,8,8,8,8,8,8,8,8,8,8,8,8,8,8,8,8,8,8,8,8,8,8,8,8,8,8,8]⟩:ByteArray).data.toList.getD (IntKind.u8.wrap x0).toNat 0).toNat:Int))))) else none) else none))
def P1 (x0 x1:Int):Option Int:=(if (decide (x0>=65536))=true then (if 16<0 then none else (Gn (Int.fdiv x0 (2^(min (16:Int).toNat (IntKind.bits .u64)))) (i64.wrap (x1+16)))) else (Gn x0 x1))
def U6 (x0:Int):Option Int:=(if (decide (x0>=4294967296))=true then (if 32<0 then none else (JR (Int.fdiv x0 (2^(min (32:Int).toNat (IntKind.bits .u64)))) 32)) else (JR x0 0))
theorem bo:Rb JS Gn:=jS (by kernel_rfl)
theorem bp:Rb P1 JR:=jS (by kernel_rfl)
theorem jd:MO U6 Ms:=cT C5 rfl ⟨rfl,rfl⟩ (by kernel_rfl)

def DD:=kE 0 [] [] 1 (AE AU) kx
def Ex:St->Option (RT (BS.outs AU)):=lG FU [(0,0)] [0,1,2,6] 1 (AE AU) DD
def KS:=kB [(0,0)] [0,1,2,6] 1 Ex
def FW:=cG FT KS (AE AU) DD
def KT:=kB [(0,0)] [0,1,2,6] 1 FW
def KU:=kE 1 [(0,0)] [0,1,2,6] 1 FW DD
def FX:=kE 2 [(0,0)] [0,1,2,6] 1 KT KU
def Ey:St->Option (RT (BS.outs AU)):=lG FS [(0,0)] [0,1,2,6,7] 1 (AE AU) FX
def KV:=kB [(0,0)] [0,1,2,6,7] 1 Ey
def Ez (x0 x1 x2 x3:Int) (x4:Bool) (x5:List Int):Option (List Int):=cG FR KV (AE AU) FX ⟨[(0,.row 0),(1,.int .i64 x0),(2,.int .i64 x1),(6,.int .i64 x2),(7,.int .i64 x3),(30,.bool x4)],[.mrow 3 (.int .i64) x5]⟩
def B9 (x0 x1 x2 x3:Int) (x4:List Int):Option (List Int):=Ey ⟨[(0,.row 0),(1,.int .i64 x0),(2,.int .i64 x1),(6,.int .i64 x2),(7,.int .i64 x3)],[.mrow 3 (.int .i64) x4]⟩
def BC (x0 x1 x2:Int) (x3:List Int):Option (List Int):=Ex ⟨[(0,.row 0),(1,.int .i64 x0),(2,.int .i64 x1),(6,.int .i64 x2)],[.mrow 3 (.int .i64) x3]⟩
def E0 (x0 x1 x2 x3:Int) (x4:Bool) (x5:List Int):Option (List Int):=(if 0<=(i64.wrap (x3-1)) then (if (i64.wrap (x3-1))<(x5.length:Int) then (if 0<=x3 then (if x3<(x5.length:Int) then (if 0<=x3 then (if x3<(x5.length:Int) then (let z2:List Int:=x5.set x3.toNat (x5.getD ((i64.wrap (x3-1)).toNat) 0); (if 0<=(i64.wrap (x3-1)) then (if (i64.wrap (x3-1))<(z2.length:Int) then (let z3:List Int:=z2.set ((i64.wrap (x3-1)).toNat) (x5.getD x3.toNat 0); (B9 x0 x1 x2 (i64.wrap (x3-1)) z3)) else none) else none)) else none) else none) else none) else none) else none) else none)
def C0 (x0 x1 x2 x3:Int) (x4:List Int):Option (List Int):=(if (decide (x3>x0))=true then (if 0<=x3 then (if x3<(x4.length:Int) then (if 0<=(i64.wrap (x3-1)) then (if (i64.wrap (x3-1))<(x4.length:Int) then ((Mt (x4.getD x3.toNat 0) (x4.getD ((i64.wrap (x3-1)).toNat) 0)).bind fun y1=>(if y1=true then (Ez x0 x1 x2 x3 y1 x4) else (BC x0 x1 (i64.wrap (x2+1)) x4))) else none) else none) else none) else none) else (BC x0 x1 (i64.wrap (x2+1)) x4))
def B_ (x0 x1 x2:Int) (x3:List Int):Option (List Int):=(if (decide (x2<x1))=true then (B9 x0 x1 x2 x2 x3) else (some x3))
def DY (x1 x2:Int) (b0:List Int):Option (List Int):=(BC x1 x2 (i64.wrap (x1+1)) b0)
theorem KC:wg E0 Ez:=jS (by kernel_rfl)
theorem E1:rq C0 B9:=lS (by kernel_rfl)
theorem C1:eP B_ BC:=lS (by kernel_rfl)
theorem GA:Nm DY DX:=cT AU rfl ⟨rfl,rfl⟩ (by kernel_rfl)
def br (x0 x1:Int):Option Bool:=((Kl x0).bind fun y1=>(if y1=true then ((Kl x1).bind fun y2=>(if (!y2)=false then (some (decide (x0<x1))) else (some true))) else (some (decide (x0<x1)))))
theorem rK:Rb br Mt:=cT Mh rfl ⟨rfl,rfl⟩ (by kernel_rfl)
def Ep:=cG BV (AE AL) (AE AL) kx
def Er:=kE 0 [] [0,1,2,8,9] 0 Ep kx
def Eb:St->Option (RT (BS.outs AL)):=lG CU [] [0,1,2,8,9,10] 0 (AE AL) Er
def CQ (x0:List AA) (x1:ByteArray) (x2 x3:Int):Option (Int×Bool):=cG BV (AE AL) (AE AL) kx ⟨[(0,.lst AH x0),(1,.str x1),(2,.fn 173 []),(8,.int .i64 x2),(9,.int .i64 x3)],[]⟩
def AP (x0:List AA) (x1:ByteArray) (x2 x3 x4:Int):Option (Int×Bool):=Eb ⟨[(0,.lst AH x0),(1,.str x1),(2,.fn 173 []),(8,.int .i64 x2),(9,.int .i64 x3),(10,.int .i64 x4)],[]⟩
def CR (x0:List AA) (x1:ByteArray) (x2 x3:Int):Option (Int×Bool):=(if (decide (x3<x2))=true then (if 0<=x3 then (if x3<(x0.length:Int) then ((Jj (x0.getD x3.toNat (O,O,0)) x1).bind fun y2=>(some (x3,(y2==0)))) else none) else none) else (some (x3,false)))
def BP (x0:List AA) (x1:ByteArray) (x2 x3 x4:Int):Option (Int×Bool):=(if (decide (x3<x4))=true then (if 1<0 then none else (if 0<=(i64.wrap (Int.fdiv (IntKind.u64.wrap (i64.wrap (x3+x4))) (2^(min (1:Int).toNat (IntKind.bits .u64))))) then (if (i64.wrap (Int.fdiv (IntKind.u64.wrap (i64.wrap (x3+x4))) (2^(min (1:Int).toNat (IntKind.bits .u64)))))<(x0.length:Int) then ((Jj (x0.getD (i64.wrap (Int.fdiv (IntKind.u64.wrap (i64.wrap (x3+x4))) (2^(min (1:Int).toNat (IntKind.bits .u64))))).toNat (O,O,0)) x1).bind fun y1=>(if (decide (y1<0))=true then (AP x0 x1 x2 (i64.wrap ((i64.wrap (Int.fdiv (IntKind.u64.wrap (i64.wrap (x3+x4))) (2^(min (1:Int).toNat (IntKind.bits .u64)))))+1)) x4) else (AP x0 x1 x2 x3 (i64.wrap (Int.fdiv (IntKind.u64.wrap (i64.wrap (x3+x4))) (2^(min (1:Int).toNat (IntKind.bits .u64)))))))) else none) else none)) else (CQ x0 x1 x2 x3))
def Ce (x0:List AA) (x1:ByteArray) (x2:Unit):Option (Int×Bool):=(AP x0 x1 (x0.length:Int) 0 (x0.length:Int))
theorem Ec:eP CR CQ:=jS (by kernel_rfl)
theorem CS:rq BP AP:=lS (by kernel_rfl)
theorem FF:Nm Ce BZ:=cT AL rfl ⟨rfl,rfl⟩ (by kernel_rfl)
def W8 (x0:AA) (x1:ByteArray):Option Int:=((Mw x0.1 x1).bind fun y1=>(some y1))
theorem mY:Rb W8 Jj:=cT Jf rfl ⟨rfl,rfl⟩ (by kernel_rfl)
def OG (x0:Bool) (x1:U) (x2:AB):Option (List AB×U):=cG Nu (AE EC) (AE EC) kx ⟨[(0,.ptr 0 0),(5,.ptr 1 0),(37,.bool x0)],[.var (Y.enc x1),.var (AJ.enc x2)]⟩
def OH (x0:Bool) (x1:U) (x2:AB):Option (List AB×U):=((GY (x1.1,x2.2.2.2.1,x1.2.2.1,false,x1.2.2.2.2)).bind fun y2=>((An ([x2.2.1]:List Int) (2,0,0,0,0,y2.2.2.2.2.2.2.2.1) y2).bind fun y3=>(some (y3.1,y3.2))))
def Ss (x1:List (List Int)) (x2:AB) (b0:U):Option (List AB×U):=(if (x2.2.2.2.1 != (i64.wrap (b0.2.1+1)))=true then (some ([],b0)) else (if (!b0.2.2.2.1)=true then (some ([],b0)) else (if 0<=(i64.wrap (b0.2.1-1)) then (if (i64.wrap (b0.2.1-1))<(x1.length:Int) then ((Cx (x1.getD (i64.wrap (b0.2.1-1)).toNat ([]:List Int)) b0.1).bind fun y1=>(if (!y1)=true then (some ([],b0)) else (OG (!y1) b0 x2))) else none) else none)))
theorem Zp:Nm OH OG:=jS (by kernel_rfl)
theorem fp:Nm Ss K_:=cT EC rfl ⟨rfl,rfl⟩ (by kernel_rfl)
def Lo:=cG Lj (AE Bj) (AE Bj) kx
def W9:=kB [] [0,5] 2 Lo
def W_:=kE 0 [] [0,5] 2 Lo kx
def DE (x0:Bool) (x1:U) (x2:AB):Option (List AB×U):=cG Li W9 (AE Bj) W_ ⟨[(0,.ptr 0 0),(5,.ptr 1 0),(24,.bool x0)],[.var (Y.enc x1),.var (AJ.enc x2)]⟩
def KW (x0:Bool) (x1:U) (x2:AB):Option (List AB×U):=cG Lk (AE Bj) (AE Bj) kx ⟨[(0,.ptr 0 0),(5,.ptr 1 0),(23,.bool x0)],[.var (Y.enc x1),.var (AJ.enc x2)]⟩
def KX (x0:Bool) (x1:U) (x2:AB):Option (List AB×U):=(if x0=true then ((Al x2.2.2.2.2.2).bind fun y2=>((GY (x1.1,x2.2.2.2.1,false,true,x1.2.2.2.2.1,x1.2.2.2.2.2.1,x1.2.2.2.2.2.2.1,y2,x1.2.2.2.2.2.2.2.2)).bind fun y3=>((An ([x2.2.1]:List Int) (4,0,0,0,0,([]:List AA)) y3).bind fun y4=>(some (y4.1,y4.2))))) else (if (!x1.2.2.2.1)=true then (some ([],x1)) else ((An ([x2.2.1]:List Int) (4,0,0,0,0,([]:List AA)) x1).bind fun y5=>(some (y5.1,y5.2)))))
def KY (x0:Bool) (x1:U) (x2:AB):Option (List AB×U):=(if (decide (x2.2.2.2.1>x1.2.1))=true then (DE true x1 x2) else (if (!x1.2.2.2.1)=true then (DE (!x1.2.2.1) x1 x2) else (DE false x1 x2)))
def OI (x1:List Int) (x2:AB) (b0:U):Option (List AB×U):=((Cx x1 b0.1).bind fun y1=>(if (!y1)=true then (some ([],b0)) else (if 0<=(0:Int) then (if 0<(x1.length:Int) then (if ((x1.getD (0:Int).toNat 0)==b0.1)=true then (some ([],b0)) else (KW ((x1.getD (0:Int).toNat 0)==b0.1) b0 x2)) else none) else none)))
theorem VY:Nm KX DE:=jS (by kernel_rfl)
theorem VZ:Nm KY KW:=jS (by kernel_rfl)
theorem Zq:Nm OI IS:=cT Bj rfl ⟨rfl,rfl⟩ (by kernel_rfl)
def bt (x0:List Int) (x1:Int):Option (List Int):=((Bs x0).bind fun y1=>((FD y1 x1).bind fun y2=>(some y2)))
theorem rL:Rb bt Mu:=cT Mi rfl ⟨rfl,rfl⟩ (by kernel_rfl)
def NX (x0:Bool) (x1:U) (x2:AB):Option (List AB×U):=cG Nv (AE Dq) (AE Dq) kx ⟨[(0,.ptr 0 0),(3,.ptr 1 0),(18,.bool x0)],[.var (Y.enc x1),.var (AJ.enc x2)]⟩
def NY (x0:Bool) (x1:U) (x2:AB):Option (List AB×U):=(if (x2.1==7)=true then ((An ([x2.2.1]:List Int) (8,0,0,0,x2.2.2.2.2.1,([]:List AA)) x1).bind fun y1=>(some (y1.1,y1.2))) else (if 0<=(0:Int) then (if 0<(x2.2.2.2.2.2.length:Int) then ((Mr x1.2.2.2.2.2.2.2.1 (x2.2.2.2.2.2.getD (0:Int).toNat (O,O,0))).bind fun y2=>((An ([x2.2.1]:List Int) (6,0,0,0,x2.2.2.2.2.1,([]:List AA)) (x1.1,x1.2.1,x1.2.2.1,x1.2.2.2.1,x1.2.2.2.2.1,x1.2.2.2.2.2.1,x1.2.2.2.2.2.2.1,y2,x1.2.2.2.2.2.2.2.2)).bind fun y3=>(some (y3.1,y3.2)))) else none) else none))
def RD (x1:AB) (b0:U):Option (List AB×U):=(if (x1.2.2.2.1 != b0.2.1)=true then (some ([],b0)) else (if (!b0.2.2.2.1)=true then (some ([],b0)) else (NX (!b0.2.2.2.1) b0 x1)))
theorem X0:Nm NY NX:=jS (by kernel_rfl)
theorem dV:Rb RD Jx:=cT Dq rfl ⟨rfl,rfl⟩ (by kernel_rfl)
def Lq (x0:Bool) (x1:U) (x2:AB):Option (List AK×U):=cG Ll (AE DR) (AE DR) kx ⟨[(0,.ptr 0 0),(5,.ptr 1 0),(32,.bool x0)],[.var (Y.enc x1),.var (AJ.enc x2)]⟩
def Lr (x0:Bool) (x1:U) (x2:AB):Option (List AK×U):=((Mu x1.2.2.2.2.2.2.2.2.2.2.2.2.2 x2.2.1).bind fun y1=>(if (decide ((y1.length:Int)>0))=true then (some ([],(x1.1,x1.2.1,x1.2.2.1,x1.2.2.2.1,x1.2.2.2.2.1,x1.2.2.2.2.2.1,x1.2.2.2.2.2.2.1,x1.2.2.2.2.2.2.2.1,x1.2.2.2.2.2.2.2.2.1,x1.2.2.2.2.2.2.2.2.2.1,x1.2.2.2.2.2.2.2.2.2.2.1,x1.2.2.2.2.2.2.2.2.2.2.2.1,x1.2.2.2.2.2.2.2.2.2.2.2.2.1,y1))) else ((Hu (x1.1,x1.2.1,x1.2.2.1,x1.2.2.2.1,x1.2.2.2.2.1,x1.2.2.2.2.2.1,x1.2.2.2.2.2.2.1,x1.2.2.2.2.2.2.2.1,x1.2.2.2.2.2.2.2.2.1,x1.2.2.2.2.2.2.2.2.2.1,x1.2.2.2.2.2.2.2.2.2.2.1,x1.2.2.2.2.2.2.2.2.2.2.2.1,x1.2.2.2.2.2.2.2.2.2.2.2.2.1,y1)).bind fun y2=>(some (y2.1,y2.2)))))
def P2 (x1:Int) (x2:AB) (b0:U):Option (List AK×U):=(if (x2.2.2.2.1 != b0.2.1)=true then (some ([],b0)) else (if (b0.2.2.2.2.2.2.2.2.2.1 != x1)=true then (some ([],b0)) else (if (b0.2.2.2.2.2.2.2.2.2.2.2.1 != x2.2.2.2.2.1)=true then (some ([],b0)) else (Lq (b0.2.2.2.2.2.2.2.2.2.2.2.1 != x2.2.2.2.2.1) b0 x2))))
theorem XA:Nm Lr Lq:=jS (by kernel_rfl)
theorem bw:Nm P2 GZ:=cT DR rfl ⟨rfl,rfl⟩ (by kernel_rfl)
def ZN (x0:Int):Option Bool:=(some (x0 != x0))
theorem og:MO ZN Kl:=cT Kj rfl ⟨rfl,rfl⟩ (by kernel_rfl)
end
end Go.Proofs.YtfcgblnlopemkaaGreatDoor.Core


namespace Go.Proofs.YtfcgblnlopemkaaGreatDoor.Core
open Go
theorem Ai {n:Int} (h:-9223372036854775808<=n/\n<=9223372036854775807):IntKind.i64.wrap n=n:=IntWalk.i64_in n h
theorem AQ {i:Nat} (h:i<9223372036854775807):IntKind.i64.wrap ((i:Int)+1)=((i+1:Nat):Int):=by
 rw [Ai (by omega)]
 omega
theorem KD {P:Nat->Prop} {n:Nat} (h0:P n) (h:∀ i,i<n->P (i+1)->P i):∀ i,i<=n->P i:=by
 intro i hi
 induction hk:n-i generalizing i with
 | zero =>
  have:i=n:=by omega
  subst this
  exact h0
 | succ k ih=>exact h i (by omega) (ih (i+1) (by omega) (by omega))
theorem AT {α:Type} {xs:List α} {i:Nat} {d:α} (h:i<xs.length):xs.getD i d=xs[i]:=by
 simp [List.getD,h]

theorem Bc (a b c:Int):AZ a b c=some (decide (b<=a)&&decide (a<=c)):=uS (by
 unfold iv
 by_cases h:b<=a<;>simp [h])
theorem BA (a b c:Int):Ap a b c=some (decide (b<=a)&&decide (a<=c)):=qq (by
 unfold bH
 by_cases h:b<=a<;>simp [h])

def Ch (x:List (ByteArray×ByteArray×Int)) (k:ByteArray):ByteArray×ByteArray×Int :=
 (x.find? fun a=>a.1.toList==k.toList).getD (O,O,0)
theorem Am {α:Type} {x:List α} {i:Nat} (h:i<x.length):x.drop i=x[i]::x.drop (i+1):=List.drop_eq_getElem_cons h
theorem XB (x k) (h:x.length<=maxLen):O3 x k=some (Ch x k):=sW (by
 have hm:x.length<=9223372036854775807:=h
 unfold dy
 exact KD (n:=x.length) (P:=fun i=>∀ z,Jm x k (i:Int) z=some (Ch (x.drop i) k)) (fun z=>Ws (by
  unfold Od
  rw [if_neg (by simp),List.drop_length]
  rfl)) (fun i hi ih z=>Ws (by
  unfold Od
  simp only [show ((i:Int)<(x.length:Int)) from by omega,decide_true,if_true,show (0:Int)<=(i:Int) from by omega,Ad,AT hi,AQ (show i<9223372036854775807 by omega)]
  rw [Am hi]
  by_cases hk:(x[i].1.toList==k.toList)=true
  ·rw [if_pos hk]
   unfold Ch
   rw [List.find?_cons,hk]
   rfl
  ·rw [if_neg hk,ih]
   unfold Ch
   rw [List.find?_cons,Bool.eq_false_iff.2 hk])) 0 (by omega) _)
theorem XC (x k) (h:x.length<=maxLen):O2 x k=some (Ch x k):=sV (by
 have hm:x.length<=9223372036854775807:=h
 unfold dx
 exact KD (n:=x.length) (P:=fun i=>∀ z,Jl k x (x.length:Int) (i:Int) z=some (Ch (x.drop i) k)) (fun z=>Wo (by
  unfold Oc
  rw [if_neg (by simp),List.drop_length]
  rfl)) (fun i hi ih z=>Wo (by
  unfold Oc
  simp only [show ((i:Int)<(x.length:Int)) from by omega,decide_true,if_true,show (0:Int)<=(i:Int) from by omega,Ad,AT hi,AQ (show i<9223372036854775807 by omega)]
  rw [Am hi]
  by_cases hk:(x[i].1.toList==k.toList)=true
  ·rw [if_pos hk]
   unfold Ch
   rw [List.find?_cons,hk]
   rfl
  ·rw [if_neg hk,ih]
   unfold Ch
   rw [List.find?_cons,Bool.eq_false_iff.2 hk])) 0 (by omega) _)

theorem QY k:RR k=some (decide (1<=(k.size:Int))&&decide ((k.size:Int)<=12)):=uU (by simp [jE,BA])
theorem HW n:FV n=some (decide (1<=n)&&decide (n<=6)):=sQ (by simp [du,BA])
def vn (v:ByteArray):Bool:=v.toList==(⟨#[]⟩:ByteArray).toList
theorem mZ (v:ByteArray):(v.toList==(⟨#[]⟩:ByteArray).toList)=vn v:=rfl
def d6 (op:Int) (k v:ByteArray):Bool :=
 (decide (op=1)||decide (op=2))&&(decide (1<=(k.size:Int))&&decide ((k.size:Int)<=12))&&decide ((v.size:Int)<=20)&&(decide (op=1)||vn v)
def Su (x:Int×Int×Int×Int×ByteArray×ByteArray):Bool :=
 decide (1<=x.1)&&decide (x.1<=6)&&(decide (1<=x.2.1)&&decide (x.2.1<=6))&&decide (0<=x.2.2.1) &&
  (if x.1=1 then d6 x.2.2.2.1 x.2.2.2.2.1 x.2.2.2.2.2 else decide (x.2.2.2.1=0)&&vn x.2.2.2.2.1&&vn x.2.2.2.2.2)
theorem oh a k v:Mo a 0 k v=some (d6 a k v):=iy (by
 have w:∀ b,Km a v b=some (decide (a=1)||vn v):=fun b=>Yv (by
  unfold QO
  rw [mZ]
  by_cases h:a=1<;>simp [h])
 unfold Xt d6
 have yl:decide ((v.size:Int)>20)=!decide ((v.size:Int)<=20):=by
  by_cases h:(v.size:Int)<=20<;>simp [h]
  omega
 simp only [yl,BA,QY,Z,w]
 by_cases h1:a=1
 ·by_cases h2:1<=(k.size:Int)<;>by_cases h3:(k.size:Int)<=12<;>by_cases h4:(v.size:Int)<=20<;>simp [h1,h2,h3,h4]
 ·by_cases h1b:a=2
  ·by_cases h2:1<=(k.size:Int)<;>by_cases h3:(k.size:Int)<=12<;>by_cases h4:(v.size:Int)<=20<;>simp [h1b,h2,h3,h4]
  ·have:¬ (1<=a/\a<=2):=by omega
   by_cases h5:1<=a
   ·have:¬ a<=2:=by omega
    simp [h1,h1b,this]
   ·simp [h1,h1b,h5])
theorem U7 x:Mn x=some (Su x):=qm (by
 have w:∀ b,NA b x=some (if x.1=1 then d6 x.2.2.2.1 x.2.2.2.2.1 x.2.2.2.2.2 else decide (x.2.2.2.1=0)&&vn x.2.2.2.2.1&&vn x.2.2.2.2.2):=fun b=>im (by
  unfold UY
  simp only [mZ]
  by_cases h:x.1=1
  ·simp [h,oh]
  ·by_cases h2:x.2.2.2.1=0<;>rcases Bool.eq_false_or_eq_true (vn x.2.2.2.2.1) with h3 | h3<;>simp [h,h2,h3])
 unfold bB Su
 simp only [BA,HW,Z,w]
 by_cases h1:1<=x.1<;>by_cases h2:x.1<=6<;>by_cases h3:1<=x.2.1<;>by_cases h4:x.2.1<=6<;>by_cases h5:0<=x.2.2.1<;>simp [h1,h2,h3,h4,h5]<;>omega)
theorem U8 x:Mm x=some (Su x):=ql (by
 have w:∀ b,M_ b x=some (if x.1=1 then d6 x.2.2.2.1 x.2.2.2.2.1 x.2.2.2.2.2 else decide (x.2.2.2.1=0)&&vn x.2.2.2.2.1&&vn x.2.2.2.2.2):=fun b=>ij (by
  unfold UX d6
  simp only [mZ]
  by_cases h:x.1=1
  ·simp only [Bc,Z]
   by_cases g1:x.2.2.2.1=1
   ·by_cases h2:1<=(x.2.2.2.2.1.size:Int)<;>by_cases h3:(x.2.2.2.2.1.size:Int)<=12<;>by_cases h4:(x.2.2.2.2.2.size:Int)<=20<;>simp [h,g1,h2,h3,h4]
   ·by_cases g2:x.2.2.2.1=2
    ·by_cases h2:1<=(x.2.2.2.2.1.size:Int)<;>by_cases h3:(x.2.2.2.2.1.size:Int)<=12<;>by_cases h4:(x.2.2.2.2.2.size:Int)<=20<;>simp [h,g2,h2,h3,h4]
    ·simp [h,g1,g2]
  ·by_cases h2:x.2.2.2.1=0<;>rcases Bool.eq_false_or_eq_true (vn x.2.2.2.2.1) with h3 | h3<;>simp [h,h2,h3])
 unfold bA Su
 simp only [Bc,Z,w]
 by_cases h1:1<=x.1<;>by_cases h2:x.1<=6<;>by_cases h3:1<=x.2.1<;>by_cases h4:x.2.1<=6<;>by_cases h5:0<=x.2.2.1<;>simp [h1,h2,h3,h4,h5]<;>omega)

def Kt (a:ByteArray×ByteArray×Int):Bool:=(decide (1<=(a.1.size:Int))&&decide ((a.1.size:Int)<=12))&&decide ((a.2.1.size:Int)<=20)&&(decide (1<=a.2.2)&&decide (a.2.2<=1000000000))
def CM (x:List (ByteArray×ByteArray×Int)) (i:Nat):Nat->Bool
 | 0=>decide ((x.length:Int)<=12)
 | k+1=>Kt (x.getD i (O,O,0))&&(decide (i=0)||Op.bytesLess (x.getD (i-1) (O,O,0)).1.toList (x.getD i (O,O,0)).1.toList)&&CM x (i+1) k
theorem yl (n:Int):decide (n>20)=!decide (n<=20):=by
 by_cases h:n<=20<;>simp [h]
 omega
theorem cY {i:Nat} (h:i<9223372036854775807) (h0:0<i):IntKind.i64.wrap ((i:Int)-1)=((i-1:Nat):Int):=by
 rw [Ai (by omega)]
 omega
theorem I4 (x) (h:x.length<=maxLen):Dl x=some (CM x 0 x.length):=rJ (by
 have hm:x.length<=9223372036854775807:=h
 unfold bm
 have:=KD (n:=x.length) (P:=fun i=>Gm x (i:Int)=some (CM x i (x.length-i))) (U4 (by
  unfold NW
  rw [if_neg (by simp),Nat.sub_self]
  rfl)) (fun i hi ih=>U4 (by
  unfold NW
  have e:x.length-i=(x.length-(i+1))+1:=by omega
  simp only [show ((i:Int)<(x.length:Int)) from by omega,decide_true,if_true,show (0:Int)<=(i:Int) from by omega,Ad,AQ (show i<9223372036854775807 by omega),ih,Bc,Z,yl]
  rw [e,CM,Kt]
  generalize (decide (1<=((x.getD i (O,O,0)).1.size:Int))&&decide (((x.getD i (O,O,0)).1.size:Int)<=12))=a
  generalize decide (((x.getD i (O,O,0)).2.1.size:Int)<=20)=b
  generalize (decide (1<=(x.getD i (O,O,0)).2.2)&&decide ((x.getD i (O,O,0)).2.2<=1000000000))=c
  cases a
  ·simp
  cases b
  ·simp
  cases c
  ·simp
  by_cases h0:0<i
  ·rw [cY (by omega) h0]
   simp only [Ad,show ((0:Int)<=((i-1:Nat):Int)) from by omega,show (((i-1:Nat):Int)<(x.length:Int)) from by omega,if_true]
   rcases Bool.eq_false_or_eq_true (Op.bytesLess (x.getD (i-1) (O,O,0)).1.toList (x.getD i (O,O,0)).1.toList) with hb | hb<;>simp only [hb]<;>simp [h0,show i≠0 by omega]
  ·have:i=0:=by omega
   subst this
   simp)) 0 (by omega)
 simpa using this)
theorem NZ (x) (h:x.length<=maxLen) (hl:∀ a b:List UInt8,(Op.bytesLess a b||a==b)=!Op.bytesLess b a):Fj x=some (CM x 0 x.length):=rF (by
 have hm:x.length<=9223372036854775807:=h
 unfold bf
 have:=KD (n:=x.length) (P:=fun i=>Gl x x (x.length:Int) (i:Int)=some (CM x i (x.length-i))) (U1 (by
  unfold NV
  rw [if_neg (by simp),Nat.sub_self]
  rfl)) (fun i hi ih=>U1 (by
  unfold NV
  have e:x.length-i=(x.length-(i+1))+1:=by omega
  simp only [show ((i:Int)<(x.length:Int)) from by omega,decide_true,if_true,show (0:Int)<=(i:Int) from by omega,Ad,AQ (show i<9223372036854775807 by omega),ih,BA,QY,Z,yl,hl]
  rw [e,CM,Kt]
  generalize (decide (1<=((x.getD i (O,O,0)).1.size:Int))&&decide (((x.getD i (O,O,0)).1.size:Int)<=12))=a
  generalize decide (((x.getD i (O,O,0)).2.1.size:Int)<=20)=b
  generalize (decide (1<=(x.getD i (O,O,0)).2.2)&&decide ((x.getD i (O,O,0)).2.2<=1000000000))=c
  cases a
  ·simp
  cases b
  ·simp
  cases c
  ·simp
  by_cases h0:0<i
  ·rw [cY (by omega) h0]
   simp only [Ad,show ((0:Int)<=((i-1:Nat):Int)) from by omega,show (((i-1:Nat):Int)<(x.length:Int)) from by omega,if_true]
   rcases Bool.eq_false_or_eq_true (Op.bytesLess (x.getD (i-1) (O,O,0)).1.toList (x.getD i (O,O,0)).1.toList) with hb | hb<;>simp only [hb]<;>simp [h0,show i≠0 by omega]
  ·have:i=0:=by omega
   subst this
   simp)) 0 (by omega)
 simpa using this)
theorem P3:∀ a b:List UInt8,(Op.bytesLess a b||a==b)=!Op.bytesLess b a
 | [],[]=>rfl
 | [],_::_=>rfl
 | _::_,[]=>rfl
 | a::l,b::m=>by
  have ih:=P3 l m
  simp only [Op.bytesLess]
  by_cases h1:a<b
  ·have h2:¬ b<a:=by exact UInt8.not_lt.2 (UInt8.le_of_lt h1)
   have h3:¬ b=a:=fun h=>by subst h; exact absurd h1 (UInt8.lt_irrefl _)
   simp [h1,h2,h3]
  ·by_cases h2:b<a
   ·have h3:¬ a=b:=fun h=>by subst h; exact absurd h2 (UInt8.lt_irrefl _)
    simp [h1,h2,h3]
   ·have h3:a=b:=UInt8.le_antisymm (UInt8.not_lt.1 h2) (UInt8.not_lt.1 h1)
    subst h3
    simpa [h1] using ih

abbrev AX:Type:=ByteArray×ByteArray×Int
abbrev rM:AX:=(O,O,(0:Int))
theorem cZ:∀ a:List UInt8,Op.bytesLess a a=false
 | []=>rfl
 | a::l=>by simp [Op.bytesLess,cZ l,UInt8.lt_irrefl]
theorem bz:∀ {a b c:List UInt8},Op.bytesLess a b=true->Op.bytesLess b c=true->Op.bytesLess a c=true
 | _,[],_,h,_=>by cases ‹List UInt8› <;> simp [Op.bytesLess] at h
 | _,_::_,[],_,h=>by simp [Op.bytesLess] at h
 | [],_::_,_::_,_,_=>rfl
 | a::x,b::y,c::z,h,g=>by
  simp only [Op.bytesLess,Dy,decide_eq_true_eq,AC,beq_iff_eq] at h g ⊢
  rcases h with h | ⟨rfl,h⟩
  ·rcases g with g | ⟨rfl,g⟩
   ·exact .inl (UInt8.lt_trans h g)
   ·exact .inl h
  ·rcases g with g | ⟨rfl,g⟩
   ·exact .inl g
   ·exact .inr ⟨rfl,bz h g⟩
theorem rN:∀ a b:List UInt8,decide (Lib.compareBytes a b<0)=Op.bytesLess a b/\(Lib.compareBytes a b==0)=(a==b)
 | [],[]=>⟨rfl,rfl⟩
 | [],_::_=>⟨rfl,rfl⟩
 | _::_,[]=>⟨rfl,rfl⟩
 | a::l,b::m=>by
  have ih:=rN l m
  simp only [Lib.compareBytes,Op.bytesLess]
  by_cases h1:a<b
  ·have h3:¬ a=b:=fun h=>by subst h; exact absurd h1 (UInt8.lt_irrefl _)
   simp [h1,h3]
  ·by_cases h2:b<a
   ·have h3:¬ a=b:=fun h=>by subst h; exact absurd h2 (UInt8.lt_irrefl _)
    simp [h1,h2,h3]
   ·have h3:a=b:=UInt8.le_antisymm (UInt8.not_lt.1 h2) (UInt8.not_lt.1 h1)
    subst h3
    simpa [h1] using ih
theorem RE (a:AX) (k:ByteArray):Jj a k=some (Lib.compareBytes a.1.toList k.toList):=mY (by
 unfold W8
 rw [iA,ByteArray.toList_eq,ByteArray.toList_eq]
 rfl)
def XD (x:List AX) (i:Nat) (k:ByteArray):Bool:=match x[i]? with
 | some b=>b.1.toList==k.toList
 | none=>false
def Vc (k:ByteArray) (b:AX):Bool:=Op.bytesLess b.1.toList k.toList
def Ku (x:List AX):Prop:=∀ a b (ha:a<x.length) (hb:b<x.length),a<b->Op.bytesLess x[a].1.toList x[b].1.toList=true
def nF (x:List AX) (k:ByteArray) (i j:Nat):Prop:=∀ a (ha:a<x.length),(a<i->Vc k x[a]=true)/\(j<=a->Vc k x[a]=false)
theorem ACi {i j:Nat} (h:i+j<=137438953472):IntKind.i64.wrap (Int.fdiv (IntKind.u64.wrap (IntKind.i64.wrap ((i:Int)+(j:Int)))) (2^(min (1:Int).toNat (IntKind.bits .u64))))=(((i+j) / 2:Nat):Int):=by
 have e1:IntKind.i64.wrap ((i:Int)+(j:Int))=((i+j:Nat):Int):=by rw [Ai (by omega)]; omega
 have e2:IntKind.u64.wrap ((i+j:Nat):Int)=((i+j:Nat):Int):=by
  simp only [IntKind.wrap,IntKind.bits,IntKind.signed]
  simp
  omega
 have e3:(2:Int)^(min (1:Int).toNat (IntKind.bits .u64))=2:=by decide
 rw [e1,e2,e3,Int.fdiv_eq_ediv_of_nonneg _ (by omega)]
 rw [Ai (by omega)]
 omega
theorem vo (x:List AX) (k:ByteArray) (hx:x.length<=68719476736):∀ (m i j:Nat),j-i<=m->i<=j->j<=x.length ->
  ∃ r:Nat,i<=r/\r<=j/\AP x k (x.length:Int) (i:Int) (j:Int)=some ((r:Int),XD x r k)/\(Ku x->nF x k i j->nF x k r r):=by
 intro m
 induction m with
 | zero =>
  intro i j hm hij hj
  have:i=j:=by omega
  subst this
  refine ⟨i,Nat.le_refl _,Nat.le_refl _,CS ?_,fun _ h=>h⟩
  unfold BP
  rw [if_neg (by simp)]
  refine Ec ?_
  unfold CR XD
  by_cases h:i<x.length
  ·simp only [show ((i:Int)<(x.length:Int)) from by omega,decide_true,if_true,show (0:Int)<=(i:Int) from by omega,Ad,AT h,RE,Z,(rN _ _).2,List.getElem?_eq_getElem h]
  ·rw [if_neg (by simp; omega),Dc (by omega)]
 | succ m ih =>
  intro i j hm hij hj
  by_cases hlt:i<j
  ·have hmid:i<=(i+j) / 2/\(i+j) / 2<j:=by omega
   generalize hh:(i+j) / 2=h at hmid
   have hb:h<x.length:=by omega
   have step:∀ r,(if Vc k x[h]=true then AP x k (x.length:Int) ((h+1:Nat):Int) (j:Int) else AP x k (x.length:Int) (i:Int) (h:Int))=some r->AP x k (x.length:Int) (i:Int) (j:Int)=some r:=fun r hr=>CS (by
    unfold BP
    simp only [show ((i:Int)<(j:Int)) from by omega,decide_true,if_true,ACi (show i+j<=137438953472 by omega),hh,show ¬ ((1:Int)<0) from by decide,if_false,show ((0:Int)<=(h:Int)) from by omega,show ((h:Int)<(x.length:Int)) from by omega,Ad,AT hb,RE,Z,(rN _ _).1,AQ (show h<9223372036854775807 by omega)]
    exact hr)
   cases hl:Vc k x[h] with
   | true =>
    obtain ⟨r,h1,h2,h3,h4⟩:=ih (h+1) j (by omega) (by omega) hj
    refine ⟨r,by omega,h2,step _ (by rw [hl]; exact h3),fun ho hc=>h4 ho fun a ha=>⟨fun hlt=>?_,(hc a ha).2⟩⟩
    by_cases e:a=h
    ·subst e; exact hl
    ·exact bz (ho a h ha hb (by omega)) hl
   | false =>
    obtain ⟨r,h1,h2,h3,h4⟩:=ih i h (by omega) hmid.1 (by omega)
    refine ⟨r,h1,by omega,step _ (by rw [hl]; exact h3),fun ho hc=>h4 ho fun a ha=>⟨(hc a ha).1,fun hle=>?_⟩⟩
    by_cases e:a=h
    ·subst e; exact hl
    ·cases q:Vc k x[a] with
     | false=>rfl
     | true =>
      have:=bz (ho h a hb ha (by omega)) q
      rw [show Op.bytesLess x[h].1.toList k.toList=false from hl] at this
      cases this
  ·have:i=j:=by omega
   subst this
   exact ih i i (by omega) (Nat.le_refl _) hj
theorem ym (x:List AX) (k:ByteArray) (hx:x.length<=68719476736):∃ r:Nat,r<=x.length/\BZ x k ()=some ((r:Int),XD x r k)/\(Ku x->nF x k r r):=by
 obtain ⟨r,_,h2,h3,h4⟩:=vo x k hx x.length 0 x.length (by omega) (by omega) (Nat.le_refl _)
 refine ⟨r,h2,FF (by unfold Ce; exact h3),fun ho=>h4 ho fun a ha=>⟨fun h=>by omega,fun h=>by omega⟩⟩
theorem b6 {x:List AX}:∀ (m i:Nat),CM x i m=true->∀ a,i<=a->a<i+m->a≠0->Op.bytesLess (x.getD (a-1) rM).1.toList (x.getD a rM).1.toList=true
 | 0,i,_,a,h1,h2,_=>by omega
 | m+1,i,h,a,h1,h2,h0=>by
  simp only [CM,AC,Dy,decide_eq_true_eq] at h
  obtain ⟨⟨_,h3⟩,h4⟩:=h
  by_cases e:a=i
  ·subst e
   exact h3.resolve_left h0
  ·exact b6 m (i+1) h4 a (by omega) (by omega) h0
theorem b7 {x:List AX} (h:CM x 0 x.length=true):Ku x:=by
 have st:=b6 _ _ h
 have:∀ d a (ha:a+d+1<x.length),Op.bytesLess (x.getD a rM).1.toList (x.getD (a+d+1) rM).1.toList=true:=by
  intro d
  induction d with
  | zero=>intro a ha; exact st (a+1) (by omega) (by omega) (by omega)
  | succ d ih =>
   intro a ha
   exact bz (ih a (by omega)) (st (a+(d+1)+1) (by omega) (by omega) (by omega))
 intro a b ha hb hab
 have:=this (b-a-1) a (by omega)
 rw [show a+(b-a-1)+1=b by omega,AT ha,AT hb] at this
 exact this
theorem vp {x:List AX} {k:ByteArray} {r:Nat} (hr:r<=x.length) (h:nF x k r r):x.take r=x.filter (Vc k)/\x.drop r=x.filter (fun b=>!Vc k b):=by
 have e1:(x.take r).filter (Vc k)=x.take r:=List.filter_eq_self.2 fun b hb=>by
  obtain ⟨a,ha,rfl⟩:=EK hb
  rw [List.length_take] at ha
  rw [List.getElem_take]
  exact (h a (by omega)).1 (by omega)
 have e2:(x.drop r).filter (Vc k)=[]:=List.filter_eq_nil_iff.2 fun b hb=>by
  obtain ⟨a,ha,rfl⟩:=EK hb
  rw [List.length_drop] at ha
  rw [List.getElem_drop]
  have:=(h (r+a) (by omega)).2 (by omega)
  simp [this]
 have e3:(x.take r).filter (fun b=>!Vc k b)=[]:=List.filter_eq_nil_iff.2 fun b hb=>by
  obtain ⟨a,ha,rfl⟩:=EK hb
  rw [List.length_take] at ha
  rw [List.getElem_take]
  have:=(h a (by omega)).1 (by omega)
  simp [this]
 have e4:(x.drop r).filter (fun b=>!Vc k b)=x.drop r:=List.filter_eq_self.2 fun b hb=>by
  obtain ⟨a,ha,rfl⟩:=EK hb
  rw [List.length_drop] at ha
  rw [List.getElem_drop]
  have:=(h (r+a) (by omega)).2 (by omega)
  simp [this]
 have f1:x.filter (Vc k)=(x.take r).filter (Vc k)++(x.drop r).filter (Vc k):=by rw [<- List.filter_append,List.take_append_drop]
 have f2:x.filter (fun b=>!Vc k b)=(x.take r).filter (fun b=>!Vc k b)++(x.drop r).filter (fun b=>!Vc k b):=by rw [<- List.filter_append,List.take_append_drop]
 rw [f1,f2,e1,e2,e3,e4]
 simp
theorem wu {x:List AX} {k:ByteArray} {r:Nat} (ho:Ku x) (h:nF x k r r) (j:Nat) (hj:j<x.length) (e:x[j].1.toList=k.toList):j=r:=by
 rcases Nat.lt_trichotomy j r with g | g | g
 ·have:=(h j hj).1 g
  simp only [Vc,e,cZ] at this
  cases this
 ·exact g
 ·have h1:=ho r j (by omega) hj g
  have h2:=(h r (by omega)).2 (Nat.le_refl _)
  rw [e] at h1
  rw [show Vc k x[r]=true from h1] at h2
  cases h2
def ZO (x:List AX) (a:AX):Bool:=x.any fun b=>(b.1.toList==a.1.toList)&&decide (b.2.2>=a.2.2)
def QZ (k:ByteArray) (b:AX):Bool:=!(Op.bytesLess b.1.toList k.toList||(b.1.toList==k.toList))
def S6 (x:List AX) (a:AX):List AX:=x.filter (Vc a.1)++[a]++x.filter (QZ a.1)
def BE (x:List AX):Bool:=CM x 0 x.length
def Do (x:List AX) (a:AX):List AX:=if ZO x a=true then x else if BE x=true then (if BE (S6 x a)=true then S6 x a else x) else x
theorem wy {x:List AX} {k:ByteArray} {r:Nat} (hr:r<=x.length) (h:nF x k r r):x.filter (QZ k)=(x.drop r).filter fun b=>!(b.1.toList==k.toList):=by
 rw [(vp hr h).2,List.filter_filter]
 congr 1
 funext b
 simp only [QZ,Vc,Bool.not_or]
 exact Bool.and_comm _ _
theorem Na (x:List AX) (a:AX) (hx:x.length<=34359738367):JF x a=some (Do x a):=rB (by
 have J4:∀ same out:List AX,out.length<=maxLen->NR x a same out=some (if BE x=true then (if BE out=true then out else same) else same):=fun same out ho=>jU (by
  unfold Ux BE
  rw [I4 x (by unfold maxLen; omega),I4 out ho]
  cases CM x 0 x.length<;>cases CM out 0 out.length<;>simp)
 have L3:∀ same out:List AX,out.length<=x.length+1->Ej x ((0:Nat):Int) a same out=some (if BE x=true then (if BE (out++(x.drop 0).filter (QZ a.1))=true then out++(x.drop 0).filter (QZ a.1) else same) else same):=by
  intro same out ho
  refine KD (n:=x.length) (P:=fun i=>∀ out:List AX,out.length<=x.length+1+i->Ej x (i:Int) a same out=some (if BE x=true then (if BE (out++(x.drop i).filter (QZ a.1))=true then out++(x.drop i).filter (QZ a.1) else same) else same)) (fun out ho=>Uz ?_) (fun i hi ih out ho=>Uz ?_) 0 (by omega) out ho
  ·unfold NT
   rw [if_neg (by simp),J4 same out (by unfold maxLen; omega)]
   simp
  ·unfold NT
   simp only [show ((i:Int)<(x.length:Int)) from by omega,decide_true,if_true,show (0:Int)<=(i:Int) from by omega,Ad,AT hi,AQ (show i<9223372036854775807 by omega)]
   rw [Am hi,List.filter_cons]
   change (if QZ a.1 x[i]=true then _ else _)=_
   by_cases hh:QZ a.1 x[i]=true
   ·rw [if_pos hh,if_pos (by simp; omega),ih _ (by simp; omega),if_pos hh,Be]
    rfl
   ·rw [if_neg hh,ih _ (by omega),if_neg hh]
 have J2:∀ same out:List AX,out.length<=x.length->NS x a same out=some (if BE x=true then (if BE (out++[a]++x.filter (QZ a.1))=true then out++[a]++x.filter (QZ a.1) else same) else same):=fun same out ho=>jV (by
  unfold Uy
  rw [if_pos (by simp; omega)]
  have:=L3 same (out++[a]) (by simp; omega)
  simpa using this)
 have L0:∀ same:List AX,Ek x ((0:Nat):Int) a same []=some (if ZO (x.drop 0) a=true then same else if BE x=true then (if BE (([]++(x.drop 0).filter (Vc a.1))++[a]++x.filter (QZ a.1))=true then ([]++(x.drop 0).filter (Vc a.1))++[a]++x.filter (QZ a.1) else same) else same):=by
  intro same
  refine KD (n:=x.length) (P:=fun i=>∀ out:List AX,out.length<=i->Ek x (i:Int) a same out=some (if ZO (x.drop i) a=true then same else if BE x=true then (if BE ((out++(x.drop i).filter (Vc a.1))++[a]++x.filter (QZ a.1))=true then (out++(x.drop i).filter (Vc a.1))++[a]++x.filter (QZ a.1) else same) else same)) (fun out ho=>U0 ?_) (fun i hi ih out ho=>U0 ?_) 0 (by omega) [] (by simp)
  ·unfold NU
   rw [if_neg (by simp),J2 same out ho]
   simp [ZO]
  ·unfold NU
   simp only [show ((i:Int)<(x.length:Int)) from by omega,decide_true,if_true,show (0:Int)<=(i:Int) from by omega,Ad,AT hi]
   have J1:∀ out:List AX,out.length<=i+1->I0 x (i:Int) a same out=some (if ZO (x.drop i) a=true then same else if BE x=true then (if BE ((out++(x.drop (i+1)).filter (Vc a.1))++[a]++x.filter (QZ a.1))=true then (out++(x.drop (i+1)).filter (Vc a.1))++[a]++x.filter (QZ a.1) else same) else same):=fun out ho=>jT (by
    unfold Uw
    simp only [show ((i:Int)<(x.length:Int)) from by omega,decide_true,if_true,show (0:Int)<=(i:Int) from by omega,Ad,AT hi,AQ (show i<9223372036854775807 by omega),ih out ho]
    rw [Am hi]
    rw [show ZO (x[i]::x.drop (i+1)) a=(((x[i].1.toList==a.1.toList)&&decide (x[i].2.2>=a.2.2))||ZO (x.drop (i+1)) a) from List.any_cons]
    generalize (x[i].1.toList==a.1.toList)=p
    generalize decide (x[i].2.2>=a.2.2)=q
    cases p<;>cases q<;>simp)
   rw [Am hi,List.filter_cons]
   change (if Vc a.1 x[i]=true then _ else _)=_
   rw [Am hi] at J1
   by_cases hh:Vc a.1 x[i]=true
   ·rw [if_pos hh,if_pos (by simp; omega),J1 _ (by simp; omega),if_pos hh]
    simp only [Be,List.cons_append,List.nil_append]
   ·rw [if_neg hh,J1 _ (by omega),if_neg hh]
 unfold bZ
 rw [if_pos (by simp; omega)]
 have:=L0 ([]++x)
 simpa [Do,S6] using this)
theorem AAM {x:List AX} {a:AX} {r:Nat} (hr:r<=x.length) (ho:Ku x) (h:nF x a.1 r r):ZO x a=(XD x r a.1&&decide ((x.getD r rM).2.2>=a.2.2)):=by
 unfold ZO XD
 by_cases hl:r<x.length
 ·rw [List.getElem?_eq_getElem hl,AT hl]
  rw [Bool.eq_iff_iff,List.any_eq_true]
  simp only [AC,beq_iff_eq,decide_eq_true_eq]
  refine ⟨fun ⟨b,hb,e,hv⟩=>?_,fun ⟨e,hv⟩=>⟨_,BW hl,e,hv⟩⟩
  obtain ⟨j,hj,rfl⟩:=EK hb
  have:=wu ho h j hj e
  subst this
  exact ⟨e,hv⟩
 ·rw [Dc (by omega),Bool.false_and,List.any_eq_false]
  intro b hb
  obtain ⟨j,hj,rfl⟩:=EK hb
  intro hc
  simp only [AC,beq_iff_eq] at hc
  have:=wu ho h j hj hc.1
  omega
theorem ABk {x:List AX} {a:AX} {r:Nat} (hr:r<=x.length) (ho:Ku x) (h:nF x a.1 r r):S6 x a=if XD x r a.1=true then x.set r a else x.take r++[a]++x.drop r:=by
 unfold S6
 rw [wy hr h,<- (vp hr h).1]
 have hk:∀ (j:Nat) (hj:j<x.length),j≠r->(x[j].1.toList==a.1.toList)=false:=fun j hj hne=>by
  cases q:(x[j].1.toList==a.1.toList) with
  | false=>rfl
  | true=>exact absurd (wu ho h j hj (by simpa using q)) hne
 have tail:(x.drop (r+1)).filter (fun b=>!(b.1.toList==a.1.toList))=x.drop (r+1):=List.filter_eq_self.2 fun b hb=>by
  obtain ⟨j,hj,rfl⟩:=EK hb
  rw [List.length_drop] at hj
  rw [List.getElem_drop,hk (r+1+j) (by omega) (by omega)]
  rfl
 by_cases hl:r<x.length
 ·rw [Am hl,List.filter_cons,tail]
  unfold XD
  rw [List.getElem?_eq_getElem hl]
  cases q:(x[r].1.toList==a.1.toList) with
  | true=>simp [q,List.set_eq_take_append_cons_drop,hl]
  | false=>simp [q]
 ·have:x.drop r=[]:=List.drop_eq_nil_of_le (by omega)
  rw [this]
  unfold XD
  rw [Dc (by omega)]
  simp
theorem U9 (x:List AX) (a:AX) (hx:x.length<=34359738367):Mr x a=some (Do x a):=rG (by
 obtain ⟨r,hr,hs,hc⟩:=ym x a.1 (by omega)
 have ok:∀ y:List AX,y.length<=68719476736->Fj y=some (BE y):=fun y hy=>NZ y (by unfold maxLen; omega) P3
 have J1:∀ y:List AX,y.length<=68719476736->I2 x a y=some (if BE y=true then y else x):=fun y hy=>jY (by
  unfold U2
  rw [ok y hy,BL (by omega)]
  cases BE y<;>simp)
 have hl:XD x r a.1=true->r<x.length:=fun h=>by
  by_cases hl:r<x.length
  ·exact hl
  ·unfold XD at h
   rw [Dc (by omega)] at h
   cases h
 have J0:∀ b,BE x=true->I3 x (r:Int) (XD x r a.1) b a x=some (if BE (S6 x a)=true then S6 x a else x):=fun b hok=>jZ (by
  unfold U3
  rw [ABk hr (b7 hok) (hc (b7 hok))]
  cases hh:XD x r a.1 with
  | true =>
   have:=hl hh
   simp only [if_true,show (0:Int)<=(r:Int) from by omega,show ((r:Int)<(x.length:Int)) from by omega,Ad]
   rw [J1 _ (by simp; omega)]
  | false =>
   rw [if_neg (by simp),KQ (by simp; omega) hr (by simp),Z,J1 _ (by simp; omega)]
   simp)
 unfold bh
 rw [BL (by omega),Z,hs,Z,ok x (by omega),Z]
 cases hok:BE x with
 | false=>simp [Do,hok]
 | true =>
  have hst:=AAM hr (b7 hok) (hc (b7 hok))
  have j0:=J0
  unfold Do
  rw [hst,hok]
  cases hh:XD x r a.1 with
  | false =>
   have:=J0 false hok
   rw [hh] at this
   simp [this]
  | true =>
   have hlr:=hl hh
   have:=J0 false hok
   rw [hh] at this
   simp only [if_true,show (0:Int)<=(r:Int) from by omega,show ((r:Int)<(x.length:Int)) from by omega,Ad,Bool.true_and]
   cases q:decide ((x.getD r rM).2.2>=a.2.2) with
   | true=>simp
   | false=>simp [this])



theorem Va {x:List AX}:∀ (m i:Nat),i+m=x.length->(CM x i m=true↔(∀ a (ha:a<x.length),i<=a->Kt x[a]=true/\(a≠0->Op.bytesLess (x.getD (a-1) rM).1.toList x[a].1.toList=true))/\x.length<=12)
 | 0,i,h=>by
  simp only [CM,decide_eq_true_eq]
  refine ⟨fun h2=>⟨fun a ha hi=>by omega,by omega⟩,fun h2=>by have:=h2.2; omega⟩
 | m+1,i,h=>by
  have hi:i<x.length:=by omega
  rw [CM,AC,AC,Va m (i+1) (by omega),AT hi]
  simp only [Dy,decide_eq_true_eq]
  constructor
  ·rintro ⟨⟨h1,h2⟩,h3,h4⟩
   refine ⟨fun a ha hia=>?_,h4⟩
   by_cases e:a=i
   ·subst e
    exact ⟨h1,fun h0=>h2.resolve_left h0⟩
   ·exact h3 a ha (by omega)
  ·rintro ⟨h3,h4⟩
   refine ⟨⟨(h3 i hi (Nat.le_refl _)).1,?_⟩,fun a ha hia=>h3 a ha (by omega),h4⟩
   by_cases e:i=0
   ·exact .inl e
   ·exact .inr ((h3 i hi (Nat.le_refl _)).2 e)
theorem Hf {x:List AX}:BE x=true↔(∀ b∈x,Kt b=true)/\Ku x/\x.length<=12:=by
 constructor
 ·intro h
  have h1:=(Va x.length 0 (by omega)).1 h
  refine ⟨fun b hb=>?_,b7 h,h1.2⟩
  obtain ⟨a,ha,rfl⟩:=EK hb
  exact (h1.1 a ha (Nat.zero_le _)).1
 ·rintro ⟨h1,h2,h3⟩
  refine (Va x.length 0 (by omega)).2 ⟨fun a ha _=>⟨h1 _ (BW ha),fun h0=>?_⟩,h3⟩
  rw [AT (show a-1<x.length by omega)]
  exact h2 (a-1) a (by omega) ha (by omega)
theorem tG {x:List AX}:Ku x↔x.Pairwise fun b c=>Op.bytesLess b.1.toList c.1.toList=true:=by
 rw [List.pairwise_iff_getElem]
 rfl
theorem rO {x:List AX} (a:AX) (h:Ku x):Ku (S6 x a):=by
 rw [tG] at h ⊢
 have lo:∀ b∈x.filter (Vc a.1),Op.bytesLess b.1.toList a.1.toList=true:=fun b hb=>(List.mem_filter.1 hb).2
 have hg:∀ b∈x.filter (QZ a.1),Op.bytesLess a.1.toList b.1.toList=true:=fun b hb=>by
  have:=(List.mem_filter.1 hb).2
  rw [QZ,P3] at this
  simpa using this
 unfold S6
 rw [List.pairwise_append,List.pairwise_append]
 refine ⟨⟨h.filter _,List.pairwise_singleton _ _,fun b hb c hc=>?_⟩,h.filter _,fun b hb c hc=>?_⟩
 ·rw [B5] at hc
  subst hc
  exact lo b hb
 ·rcases CZ.1 hb with hb | hb
  ·exact bz (lo b hb) (hg c hc)
  ·rw [B5] at hb
   subst hb
   exact hg c hc
theorem AAN (x:List AX) (a:AX):(S6 x a).length<=x.length+1:=by
 have h1:(x.filter (QZ a.1)).length<=(x.filter fun b=>!Vc a.1 b).length:=by
  rw [<- List.countP_eq_length_filter,<- List.countP_eq_length_filter]
  refine List.countP_mono_left fun b _ hb=>?_
  simp only [QZ,Vc,EL,Bool.or_eq_false_iff] at hb ⊢
  exact hb.1
 have h2:(x.filter (Vc a.1)).length+(x.filter fun b=>!Vc a.1 b).length=x.length:=by
  rw [<- List.countP_eq_length_filter,<- List.countP_eq_length_filter]
  have:=List.length_eq_countP_add_countP (Vc a.1) (l:=x)
  rw [this]
  congr 2
  funext b
  cases Vc a.1 b<;>rfl
 simp only [S6,List.length_append,List.length_cons,List.length_nil]
 omega
theorem AAO {x:List AX} {a:AX}:a∈S6 x a:=by simp [S6]
theorem vq {x:List AX} {a b:AX} (h:b∈S6 x a):b=a\/b∈x:=by
 simp only [S6,CZ,List.mem_filter,B5] at h
 rcases h with (h | h) | h
 ·exact .inr h.1
 ·exact .inl h
 ·exact .inr h.1
theorem ACj {x:List AX} {a b:AX} (h:b∈x) (hk:(b.1.toList==a.1.toList)=false):b∈S6 x a:=by
 simp only [S6,CZ,List.mem_filter,B5]
 cases q:Vc a.1 b with
 | true=>exact .inl (.inl ⟨h,rfl⟩)
 | false =>
  refine .inr ⟨h,?_⟩
  unfold QZ
  rw [show Op.bytesLess b.1.toList a.1.toList=false from q,hk]
  rfl
theorem rP {x:List AX} (ho:Ku x) {b:AX} (hb:b∈x):Ch x b.1=b:=by
 obtain ⟨j,hj,rfl⟩:=EK hb
 have:x.find? (fun a=>a.1.toList==x[j].1.toList)=some x[j]:=by
  rw [List.find?_eq_some_iff_getElem]
  refine ⟨by simp,j,hj,rfl,fun i hi=>?_⟩
  have:=ho i j (by omega) hj hi
  cases q:(x[i].1.toList==x[j].1.toList) with
  | false=>rfl
  | true =>
   rw [beq_iff_eq] at q
   rw [q,cZ] at this
   cases this
 unfold Ch
 rw [this]
 rfl
theorem ACu {x:List AX} (ho:Ku x) {a:AX} (h1:1<=a.2.2):(Ch x a.1).2.2>=a.2.2↔ZO x a=true:=by
 constructor
 ·intro h
  unfold Ch at h
  cases q:x.find? (fun b=>b.1.toList==a.1.toList) with
  | none=>rw [q] at h; simp at h; omega
  | some b =>
   rw [q] at h
   exact List.any_eq_true.2 ⟨b,List.mem_of_find?_eq_some q,by simpa [List.find?_some q] using h⟩
 ·intro h
  obtain ⟨b,hb,hc⟩:=List.any_eq_true.1 h
  simp only [AC,beq_iff_eq,decide_eq_true_eq] at hc
  have e:Ch x a.1=Ch x b.1:=by unfold Ch; rw [hc.1]
  rw [e,rP ho hb]
  exact hc.2
theorem vr (a:AX):Zv (.pair .str (.pair .str (.int .i64))) a a=true:=by simp [Zv]
theorem rQ {x:List AX} {a:AX} (h:BE x=true):BE (Do x a)=true:=by
 unfold Do
 rw [if_pos h]
 split
 ·exact h
 ·split
  ·assumption
  ·exact h
theorem vt (x:List AX) (a:AX):(Do x a).length<=x.length+1:=by
 have:=AAN x a
 unfold Do
 (repeat' split)<;>omega



theorem Es (x:List Int) (n:Int) (h:x.length<=maxLen):FC x n=some (x.contains n):=uT (by
 have hm:x.length<=9223372036854775807:=h
 unfold jD
 have:=KD (n:=x.length) (P:=fun i=>Kn x n (i:Int)=some ((x.drop i).contains n)) (Yy (by
  unfold QQ
  rw [if_neg (by simp),List.drop_length]
  rfl)) (fun i hi ih=>Yy (by
  unfold QQ
  simp only [show ((i:Int)<(x.length:Int)) from by omega,decide_true,if_true,show (0:Int)<=(i:Int) from by omega,Ad,AT hi,AQ (show i<9223372036854775807 by omega)]
  rw [Am hi,List.contains_cons,ih]
  by_cases e:x[i]=n
  ·subst e
   simp
  ·simp [e,Ne.symm e])) 0 (by omega)
 simpa using this)
theorem ACk (x:List Int) (i:Nat) (hi:i<x.length) (h:x.length<=maxLen):∃ r,Di x x[i]=some r/\((r=(i:Int))↔x[i]∉x.take i):=by
 have hm:x.length<=9223372036854775807:=h
 have key:=KD (n:=i) (P:=fun k=>∃ r,Cy x x[i] (x.length:Int) (k:Int)=some r/\(k:Int)<=r/\((r=(i:Int))↔∀ m (hm:m<i),k<=m->x[m]≠x[i])) ⟨i,CL (by
  unfold Bn
  simp only [show ((i:Int)<(x.length:Int)) from by omega,decide_true,if_true,show (0:Int)<=(i:Int) from by omega,Ad,AT hi]
  simp),by omega,⟨fun _ m hm hk=>by omega,fun _=>rfl⟩⟩ (fun k hk ⟨r,hr,hkr,hiff⟩=>by
  have hk2:k<x.length:=by omega
  by_cases e:x[i]=x[k]
  ·refine ⟨k,CL ?_,by omega,⟨fun he=>by omega,fun hall=>absurd e.symm (hall k hk (by omega))⟩⟩
   unfold Bn
   simp only [show ((k:Int)<(x.length:Int)) from by omega,decide_true,if_true,show (0:Int)<=(k:Int) from by omega,Ad,AT hk2]
   rw [if_pos (by simpa using e)]
  ·refine ⟨r,CL ?_,by omega,hiff.trans ⟨fun hall m hm hkm=>?_,fun hall m hm hkm=>hall m hm (by omega)⟩⟩
   ·unfold Bn
    simp only [show ((k:Int)<(x.length:Int)) from by omega,decide_true,if_true,show (0:Int)<=(k:Int) from by omega,Ad,AT hk2,AQ (show k<9223372036854775807 by omega)]
    rw [if_neg (by simpa using e)]
    exact hr
   ·rcases B6 k m with h1 | h1
    ·exact hall m hm h1
    ·have:m=k:=by omega
     subst this
     exact fun h=>e h.symm) 0 (by omega)
 obtain ⟨r,hr,_,hiff⟩:=key
 refine ⟨r,NM hr,hiff.trans ⟨fun hall hmem=>?_,fun hn m hm _ he=>hn ?_⟩⟩
 ·obtain ⟨m,hm,he⟩:=List.mem_take_iff_getElem.1 hmem
  exact hall m (by omega) (by omega) he
 ·exact List.mem_take_iff_getElem.2 ⟨m,by omega,he⟩
def IL (v:List Int) (i:Nat):Nat->Bool
 | 0=>true
 | k+1=>(decide (1<=v.getD i 0)&&decide (v.getD i 0<=6))&&!(v.take i).contains (v.getD i 0)&&IL v (i+1) k
def X1 (v:List Int):Bool:=(decide (1<=(v.length:Int))&&decide ((v.length:Int)<=4))&&IL v 0 v.length
def Bw (x:List (List Int)) (n:Nat):List (List Int)->Bool
 | []=>decide (1<=(n:Int))&&decide ((n:Int)<=9)
 | v::r=>X1 v&&Bw x n r
theorem je (v:List Int) (h:v.length<=maxLen):SB v=some (X1 v):=qo (by
 have hm:v.length<=9223372036854775807:=h
 unfold bF X1
 simp only [Bc,Z]
 have:=KD (n:=v.length) (P:=fun i=>It v (i:Int)=some (IL v i (v.length-i))) (Ua (by
  unfold ND
  rw [if_neg (by simp),Nat.sub_self]
  rfl)) (fun i hi ih=>Ua (by
  unfold ND
  have e:v.length-i=(v.length-(i+1))+1:=by omega
  rw [e,IL]
  simp only [show ((i:Int)<(v.length:Int)) from by omega,show ((i:Int)<=(v.length:Int)) from by omega,decide_true,if_true,show (0:Int)<=(i:Int) from by omega,Ad,Bc,Z,AQ (show i<9223372036854775807 by omega),ih,Int.toNat_zero,List.drop_zero,Int.le_refl,
   Es (v.take i) _ (by rw [List.length_take]; omega)]
  generalize (decide (1<=v.getD i 0)&&decide (v.getD i 0<=6))=a
  generalize (v.take i).contains (v.getD i 0)=b
  cases a<;>cases b<;>simp)) 0 (by omega)
 simp only [Int.ofNat_zero,Nat.sub_zero] at this
 generalize (decide (1<=(v.length:Int))&&decide ((v.length:Int)<=4))=a
 cases a
 ·simp
 ·simpa using this)
theorem U_ (x:List (List Int)) (h:x.length<=maxLen) (ho:∀ a∈x,a.length<=maxLen):DA x=some (Bw x x.length x):=qk (by
 have hm:x.length<=9223372036854775807:=h
 unfold a_
 exact KD (n:=x.length) (P:=fun i=>Is x (i:Int)=some (Bw x x.length (x.drop i))) (UV (by
  unfold M8
  rw [if_neg (by simp),List.drop_length,Bc]
  rfl)) (fun i hi ih=>UV (by
  unfold M8
  simp only [show ((i:Int)<(x.length:Int)) from by omega,decide_true,if_true,show (0:Int)<=(i:Int) from by omega,Ad,AT hi,je x[i] (ho _ (BW _)),Z,AQ (show i<9223372036854775807 by omega),ih]
  rw [Am hi,Bw]
  generalize X1 x[i]=a
  cases a<;>simp)) 0 (by omega))
theorem VD (x:List (List Int)) (h:x.length<=maxLen) (ho:∀ a∈x,a.length<=maxLen):DB x=some (Bw x x.length x):=qp (by
 have hm:x.length<=9223372036854775807:=h
 unfold bG
 exact KD (n:=x.length) (P:=fun i=>Iv x x (x.length:Int) (i:Int)=some (Bw x x.length (x.drop i))) (Ue (by
  unfold NG
  rw [if_neg (by simp),List.drop_length,BA]
  rfl)) (fun i hi ih=>Ue (by
  unfold NG
  simp only [show ((i:Int)<(x.length:Int)) from by omega,decide_true,if_true,show (0:Int)<=(i:Int) from by omega,Ad,AT hi]
  rw [Am hi,Bw]
  have hv:=ho x[i] (BW _)
  generalize x[i]=v at hv
  have hvm:v.length<=9223372036854775807:=hv
  have wj:NE x v x (x.length:Int) (i:Int)=some ((decide (1<=(v.length:Int))&&decide ((v.length:Int)<=4))&&Bw x x.length (x.drop (i+1))):=ix (by
   unfold Uc
   rw [BA,Z,AQ (show i<9223372036854775807 by omega),ih]
   generalize (decide (1<=(v.length:Int))&&decide ((v.length:Int)<=4))=a
   cases a<;>simp)
  have:=KD (n:=v.length) (P:=fun j=>Iu x v x (x.length:Int) (i:Int) v (v.length:Int) (j:Int)=some (IL v j (v.length-j)&&((decide (1<=(v.length:Int))&&decide ((v.length:Int)<=4))&&Bw x x.length (x.drop (i+1))))) (Ud (by
   unfold NF
   rw [if_neg (by simp),Nat.sub_self,wj]
   rfl)) (fun j hj ihj=>Ud (by
   unfold NF
   have e:v.length-j=(v.length-(j+1))+1:=by omega
   obtain ⟨r,hr,hiff⟩:=ACk v j hj hv
   rw [e,IL]
   simp only [show ((j:Int)<(v.length:Int)) from by omega,decide_true,if_true,show (0:Int)<=(j:Int) from by omega,Ad,HW,Z,AQ (show j<9223372036854775807 by omega),ihj,AT hj,hr]
   have hb:(r != (j:Int))=(v.take j).contains v[j]:=by
    by_cases e2:r=(j:Int)
    ·have:=hiff.1 e2
     simp [e2,this]
    ·have:v[j]∈v.take j:=Classical.byContradiction fun hn=>e2 (hiff.2 hn)
     simp [e2,this]
   rw [hb]
   generalize (decide (1<=v[j])&&decide (v[j]<=6))=a
   generalize (v.take j).contains v[j]=b
   cases a<;>cases b<;>simp)) 0 (by omega)
  simp only [Int.ofNat_zero,Nat.sub_zero] at this
  unfold X1
  refine Eq.trans this ?_
  congr 1
  generalize IL v 0 v.length=a
  generalize (decide (1<=(v.length:Int))&&decide ((v.length:Int)<=4))=b
  cases a<;>cases b<;>simp)) 0 (by omega))

abbrev xd:Type:=Int×Int×Int×(ByteArray×ByteArray×Int)×List Int
abbrev AD:Type:=Int×Int×Bool×Bool×Bool×Bool×List Int×List (ByteArray×ByteArray×Int)×Int×xd
def Fs (v:List Int) (i:Nat):Nat->Bool
 | 0=>true
 | k+1=>(decide (1<=v.getD i 0)&&decide (v.getD i 0<=6))&&(decide (i=0)||decide (v.getD (i-1) 0<v.getD i 0))&&Fs v (i+1) k
theorem XE (x:List Int) (h:x.length<=maxLen):Db x=some (Fs x 0 x.length):=sZ (by
 have hm:x.length<=9223372036854775807:=h
 unfold d5
 have:=KD (n:=x.length) (P:=fun i=>HV x (i:Int)=some (Fs x i (x.length-i))) (W6 (by
  unfold Oo
  rw [if_neg (by simp),Nat.sub_self]
  rfl)) (fun i hi ih=>W6 (by
  unfold Oo
  have e:x.length-i=(x.length-(i+1))+1:=by omega
  simp only [show ((i:Int)<(x.length:Int)) from by omega,decide_true,if_true,show (0:Int)<=(i:Int) from by omega,Ad,AQ (show i<9223372036854775807 by omega),ih,Bc,Z]
  rw [e,Fs]
  generalize (decide (1<=x.getD i 0)&&decide (x.getD i 0<=6))=a
  cases a
  ·simp
  by_cases h0:0<i
  ·rw [cY (by omega) h0]
   simp only [Ad,show ((0:Int)<=((i-1:Nat):Int)) from by omega,show (((i-1:Nat):Int)<(x.length:Int)) from by omega,if_true]
   rcases Int.lt_or_le (x.getD (i-1) 0) (x.getD i 0) with hb | hb
   ·have d1:decide (x.getD (i-1) 0>=x.getD i 0)=false:=decide_eq_false (by omega)
    have d2:decide (x.getD (i-1) 0<x.getD i 0)=true:=decide_eq_true hb
    simp only [d1,d2]
    simp [h0,show i≠0 by omega]
   ·have d1:decide (x.getD (i-1) 0>=x.getD i 0)=true:=decide_eq_true (by omega)
    have d2:decide (x.getD (i-1) 0<x.getD i 0)=false:=decide_eq_false (by omega)
    simp only [d1,d2]
    simp [h0,show i≠0 by omega]
  ·have:i=0:=by omega
   subst this
   simp)) 0 (by omega)
 simpa using this)
theorem OJ (x:List Int) (h:x.length<=maxLen):Hv x 1 6=some (Fs x 0 x.length):=fm (by
 have hm:x.length<=9223372036854775807:=h
 unfold Sq
 have:=KD (n:=x.length) (P:=fun i=>D4 x 1 6 x (x.length:Int) (i:Int)=some (Fs x i (x.length-i))) (OC (by
  unfold Id
  rw [if_neg (by simp),Nat.sub_self]
  rfl)) (fun i hi ih=>OC (by
  unfold Id
  have e:x.length-i=(x.length-(i+1))+1:=by omega
  simp only [show ((i:Int)<(x.length:Int)) from by omega,decide_true,if_true,show (0:Int)<=(i:Int) from by omega,Ad,AQ (show i<9223372036854775807 by omega),ih,BA,Z]
  rw [e,Fs]
  generalize (decide (1<=x.getD i 0)&&decide (x.getD i 0<=6))=a
  cases a
  ·simp
  by_cases h0:0<i
  ·rw [cY (by omega) h0]
   simp only [Ad,show ((0:Int)<=((i-1:Nat):Int)) from by omega,show (((i-1:Nat):Int)<(x.length:Int)) from by omega,if_true]
   rcases Int.lt_or_le (x.getD (i-1) 0) (x.getD i 0) with hb | hb
   ·have d1:decide (x.getD i 0<=x.getD (i-1) 0)=false:=decide_eq_false (by omega)
    have d2:decide (x.getD (i-1) 0<x.getD i 0)=true:=decide_eq_true hb
    simp only [d1,d2]
    simp [h0,show i≠0 by omega]
   ·have d1:decide (x.getD i 0<=x.getD (i-1) 0)=true:=decide_eq_true (by omega)
    have d2:decide (x.getD (i-1) 0<x.getD i 0)=false:=decide_eq_false (by omega)
    simp only [d1,d2]
    simp [h0,show i≠0 by omega]
  ·have:i=0:=by omega
   subst this
   simp)) 0 (by omega)
 simpa using this)
def KE (t:xd):Bool:=(t.1==0)&&(t.2.1==0)&&(t.2.2.1==0)&&Zv (.pair .str (.pair .str (.int .i64))) t.2.2.2.1 (O,O,(0:Int))&&((t.2.2.2.2.length:Int)==0)
def Ft (t:xd) (serves:Bool):Bool:=(t.1==1||t.1==2)&&serves&&(decide (0<=t.2.1)&&decide (t.2.1<=1000))&&(decide (1<=t.2.2.1)&&decide (t.2.2.1<=900))
def XF (x:AD):Bool :=
 (decide (1<=x.1)&&decide (x.1<=6))&&(decide (1<=x.2.1)&&decide (x.2.1<=9))&&(!x.2.2.2.2.2.1||(x.2.2.2.1&&x.2.2.2.2.1&&!decide ((x.2.2.2.2.2.2.1.length:Int)>0)))&&(!x.2.2.1||(!x.2.2.2.1&&!x.2.2.2.2.1)) &&
  Fs x.2.2.2.2.2.2.1 0 x.2.2.2.2.2.2.1.length&&Fs x.2.2.2.2.2.2.2.2.2.2.2.2.2 0 x.2.2.2.2.2.2.2.2.2.2.2.2.2.length&&CM x.2.2.2.2.2.2.2.1 0 x.2.2.2.2.2.2.2.1.length&&(decide (0<=x.2.2.2.2.2.2.2.2.1)&&decide (x.2.2.2.2.2.2.2.2.1<=900)) &&
  (KE x.2.2.2.2.2.2.2.2.2||Ft x.2.2.2.2.2.2.2.2.2 x.2.2.2.2.2.1)
theorem dW (t:xd):OW t=some (KE t):=mX (by
 unfold W7 KE
 generalize (t.1==0)=a
 generalize (t.2.1==0)=b
 generalize (t.2.2.1==0)=c
 generalize Zv (.pair .str (.pair .str (.int .i64))) t.2.2.2.1 (O,O,(0:Int))=d
 cases a<;>cases b<;>cases c<;>cases d<;>simp)
theorem fq (x:AD) (h1:x.2.2.2.2.2.2.1.length<=maxLen) (h2:x.2.2.2.2.2.2.2.1.length<=maxLen) (h3:x.2.2.2.2.2.2.2.2.2.2.2.2.2.length<=maxLen):GH x=some (XF x):=oQ (by
 have w0:∀ b,EF b x=some (KE x.2.2.2.2.2.2.2.2.2||Ft x.2.2.2.2.2.2.2.2.2 x.2.2.2.2.2.1):=fun b=>fi (by
  unfold Sp Ft
  simp only [Bc,dW,Z]
  generalize KE x.2.2.2.2.2.2.2.2.2=a
  generalize (x.2.2.2.2.2.2.2.2.2.1==1)=b
  generalize (x.2.2.2.2.2.2.2.2.2.1==2)=c
  generalize x.2.2.2.2.2.1=d
  generalize (decide (0<=x.2.2.2.2.2.2.2.2.2.2.1)&&decide (x.2.2.2.2.2.2.2.2.2.2.1<=1000))=e
  generalize (decide (1<=x.2.2.2.2.2.2.2.2.2.2.2.1)&&decide (x.2.2.2.2.2.2.2.2.2.2.2.1<=900))=f
  cases a<;>cases b<;>cases c<;>cases d<;>cases e<;>simp)
 unfold ZG XF
 simp only [Bc,XE _ h1,XE _ h3,I4 _ h2,Z,w0]
 generalize (decide (1<=x.1)&&decide (x.1<=6))=a
 generalize (decide (1<=x.2.1)&&decide (x.2.1<=9))=b
 generalize decide ((x.2.2.2.2.2.2.1.length:Int)>0)=c
 generalize Fs x.2.2.2.2.2.2.1 0 x.2.2.2.2.2.2.1.length=d
 generalize Fs x.2.2.2.2.2.2.2.2.2.2.2.2.2 0 x.2.2.2.2.2.2.2.2.2.2.2.2.2.length=e
 generalize CM x.2.2.2.2.2.2.2.1 0 x.2.2.2.2.2.2.2.1.length=f
 generalize (decide (0<=x.2.2.2.2.2.2.2.2.1)&&decide (x.2.2.2.2.2.2.2.2.1<=900))=g
 generalize (KE x.2.2.2.2.2.2.2.2.2||Ft x.2.2.2.2.2.2.2.2.2 x.2.2.2.2.2.1)=t
 generalize x.2.2.2.2.2.1=s
 generalize x.2.2.2.2.1=l
 generalize x.2.2.2.1=m
 generalize x.2.2.1=n
 cases a
 ·simp
 cases b
 ·simp
 cases d<;>cases e<;>cases f<;>cases g<;>cases s<;>cases n<;>cases m<;>cases l<;>cases c<;>simp)
theorem XG (x:AD) (h3:x.2.2.2.2.2.2.2.2.2.2.2.2.2.length<=maxLen):DS x=some (Fs x.2.2.2.2.2.2.2.2.2.2.2.2.2 0 x.2.2.2.2.2.2.2.2.2.2.2.2.2.length&&(KE x.2.2.2.2.2.2.2.2.2||Ft x.2.2.2.2.2.2.2.2.2 x.2.2.2.2.2.1),x):=bg (by
 unfold Px KE Ft
 simp only [BA,OJ _ h3,Z]
 by_cases hk:x.2.2.2.2.2.2.2.2.2.1=0
 ·rw [if_pos (by simp [hk])]
  have k1:(x.2.2.2.2.2.2.2.2.2.1==1)=false:=by simp [hk]
  have k2:(x.2.2.2.2.2.2.2.2.2.1==2)=false:=by simp [hk]
  have k0:(x.2.2.2.2.2.2.2.2.2.1==0)=true:=by simp [hk]
  rw [k1,k2,k0]
  have hl:((x.2.2.2.2.2.2.2.2.2.2.2.2.2.length:Int)==0)=true->Fs x.2.2.2.2.2.2.2.2.2.2.2.2.2 0 x.2.2.2.2.2.2.2.2.2.2.2.2.2.length=true:=by
   intro h
   have:x.2.2.2.2.2.2.2.2.2.2.2.2.2.length=0:=by simpa using h
   rw [this]
   rfl
  generalize ((x.2.2.2.2.2.2.2.2.2.2.2.2.2.length:Int)==0)=l at hl
  generalize Fs x.2.2.2.2.2.2.2.2.2.2.2.2.2 0 x.2.2.2.2.2.2.2.2.2.2.2.2.2.length=u at hl
  generalize (x.2.2.2.2.2.2.2.2.2.2.1==0)=b
  generalize (x.2.2.2.2.2.2.2.2.2.2.2.1==0)=c
  generalize Zv (.pair .str (.pair .str (.int .i64))) x.2.2.2.2.2.2.2.2.2.2.2.2.1 (O,O,(0:Int))=d
  cases b<;>cases c<;>cases d<;>cases l<;>cases u<;>simp at hl ⊢
 ·rw [if_neg (by simp [hk])]
  have k0:(x.2.2.2.2.2.2.2.2.2.1==0)=false:=by simp [hk]
  have k12:(decide (1<=x.2.2.2.2.2.2.2.2.2.1)&&decide (x.2.2.2.2.2.2.2.2.2.1<=2))=(x.2.2.2.2.2.2.2.2.2.1==1||x.2.2.2.2.2.2.2.2.2.1==2):=by
   rw [Bool.eq_iff_iff]
   simp
   omega
  rw [k12,k0]
  generalize (x.2.2.2.2.2.2.2.2.2.1==1||x.2.2.2.2.2.2.2.2.2.1==2)=k
  generalize Fs x.2.2.2.2.2.2.2.2.2.2.2.2.2 0 x.2.2.2.2.2.2.2.2.2.2.2.2.2.length=u
  generalize (decide (0<=x.2.2.2.2.2.2.2.2.2.2.1)&&decide (x.2.2.2.2.2.2.2.2.2.2.1<=1000))=e
  generalize (decide (1<=x.2.2.2.2.2.2.2.2.2.2.2.1)&&decide (x.2.2.2.2.2.2.2.2.2.2.2.1<=900))=f
  cases k<;>cases u<;>cases e<;>cases f<;>rcases Bool.eq_false_or_eq_true x.2.2.2.2.2.1 with hs | hs<;>simp [hs])
theorem fu (x:AD) (h1:x.2.2.2.2.2.2.1.length<=maxLen) (h2:x.2.2.2.2.2.2.2.1.length<=maxLen) (h3:x.2.2.2.2.2.2.2.2.2.2.2.2.2.length<=maxLen):GG x=some (XF x):=oN (by
 have w0:∀ b,LV b x=some ((!x.2.2.2.2.2.1||(x.2.2.2.1&&x.2.2.2.2.1&&!decide ((x.2.2.2.2.2.2.1.length:Int)>0)))&&(!x.2.2.1||(!x.2.2.2.1&&!x.2.2.2.2.1))&&(Fs x.2.2.2.2.2.2.2.2.2.2.2.2.2 0 x.2.2.2.2.2.2.2.2.2.2.2.2.2.length&&(KE x.2.2.2.2.2.2.2.2.2||Ft x.2.2.2.2.2.2.2.2.2 x.2.2.2.2.2.1))):=fun b=>fg (by
  unfold Sn
  simp only [XG x h3,Z]
  generalize (Fs x.2.2.2.2.2.2.2.2.2.2.2.2.2 0 x.2.2.2.2.2.2.2.2.2.2.2.2.2.length&&(KE x.2.2.2.2.2.2.2.2.2||Ft x.2.2.2.2.2.2.2.2.2 x.2.2.2.2.2.1))=t
  generalize decide ((x.2.2.2.2.2.2.1.length:Int)>0)=c
  generalize x.2.2.2.2.2.1=s
  generalize x.2.2.2.2.1=l
  generalize x.2.2.2.1=m
  generalize x.2.2.1=n
  cases s<;>cases n<;>cases m<;>cases l<;>cases c<;>simp)
 unfold ZF XF
 simp only [BA,HW,OJ _ h1,NZ _ h2 P3,Z,w0]
 generalize (decide (1<=x.1)&&decide (x.1<=6))=a
 generalize (decide (1<=x.2.1)&&decide (x.2.1<=9))=b
 generalize Fs x.2.2.2.2.2.2.1 0 x.2.2.2.2.2.2.1.length=d
 generalize Fs x.2.2.2.2.2.2.2.2.2.2.2.2.2 0 x.2.2.2.2.2.2.2.2.2.2.2.2.2.length=e
 generalize CM x.2.2.2.2.2.2.2.1 0 x.2.2.2.2.2.2.2.1.length=f
 generalize (decide (0<=x.2.2.2.2.2.2.2.2.1)&&decide (x.2.2.2.2.2.2.2.2.1<=900))=g
 generalize (KE x.2.2.2.2.2.2.2.2.2||Ft x.2.2.2.2.2.2.2.2.2 x.2.2.2.2.2.1)=t
 generalize (!x.2.2.2.2.2.1||(x.2.2.2.1&&x.2.2.2.2.1&&!decide ((x.2.2.2.2.2.2.1.length:Int)>0)))=p
 generalize (!x.2.2.1||(!x.2.2.2.1&&!x.2.2.2.2.1))=q
 cases a
 ·simp
 cases b
 ·simp
 cases d<;>cases e<;>cases f<;>cases g<;>cases p<;>cases q<;>simp)

abbrev Bl:Type:=Int×Int×Int×Int×Int×List (ByteArray×ByteArray×Int)
def XH (x:Bl):Bool :=
 (decide (1<=x.1)&&decide (x.1<=8))&&(decide (1<=x.2.1)&&decide (x.2.1<=6))&&(decide (1<=x.2.2.1)&&decide (x.2.2.1<=6))&&(decide (1<=x.2.2.2.1)&&decide (x.2.2.2.1<=9))&&(decide (0<=x.2.2.2.2.1)&&decide (x.2.2.2.2.1<=1000000000))&&CM x.2.2.2.2.2 0 x.2.2.2.2.2.length &&
  (if x.1=2\/x.1=3 then true else if x.1=5 then ((x.2.2.2.2.2.length:Int)==1) else ((x.2.2.2.2.2.length:Int)==0))
theorem ol (x:Bl) (h:x.2.2.2.2.2.length<=maxLen):Xr x=some (XH x):=uZ (by
 have w1:∀ a b,Kq a b x=some (if b=true then true else if a=5 then ((x.2.2.2.2.2.length:Int)==1) else ((x.2.2.2.2.2.length:Int)==0)):=fun a b=>oV (by
  unfold ZH
  by_cases h1:b=true<;>by_cases h2:a=5<;>simp [h1,h2])
 have w0:∀ b,QW b x=some (if x.1=2\/x.1=3 then true else if x.1=5 then ((x.2.2.2.2.2.length:Int)==1) else ((x.2.2.2.2.2.length:Int)==0)):=fun b=>oW (by
  unfold ZI
  by_cases h1:x.1=2<;>by_cases h2:x.1=3<;>simp [h1,h2,w1])
 unfold jW XH
 simp only [Bc,I4 _ h,Z,w0]
 generalize (decide (1<=x.1)&&decide (x.1<=8))=a
 generalize (decide (1<=x.2.1)&&decide (x.2.1<=6))=b
 generalize (decide (1<=x.2.2.1)&&decide (x.2.2.1<=6))=c
 generalize (decide (1<=x.2.2.2.1)&&decide (x.2.2.2.1<=9))=d
 generalize (decide (0<=x.2.2.2.2.1)&&decide (x.2.2.2.2.1<=1000000000))=e
 generalize CM x.2.2.2.2.2 0 x.2.2.2.2.2.length=f
 cases a<;>cases b<;>cases c<;>cases d<;>cases e<;>cases f<;>simp)
theorem om (x:Bl) (h:x.2.2.2.2.2.length<=maxLen):Xs x=some (XH x):=ua (by
 have w1:∀ a b,Kr a b x=some (if b=true then true else if a=5 then ((x.2.2.2.2.2.length:Int)==1) else ((x.2.2.2.2.2.length:Int)==0)):=fun a b=>ob (by
  unfold ZL
  by_cases h1:b=true<;>by_cases h2:a=5<;>simp [h1,h2])
 have w0:∀ b,QX b x=some (if x.1=2\/x.1=3 then true else if x.1=5 then ((x.2.2.2.2.2.length:Int)==1) else ((x.2.2.2.2.2.length:Int)==0)):=fun b=>oc (by
  unfold ZM
  by_cases h1:x.1=2<;>by_cases h2:x.1=3<;>simp [h1,h2,w1])
 unfold ja XH
 simp only [BA,HW,NZ _ h P3,Z,w0]
 generalize (decide (1<=x.1)&&decide (x.1<=8))=a
 generalize (decide (1<=x.2.1)&&decide (x.2.1<=6))=b
 generalize (decide (1<=x.2.2.1)&&decide (x.2.2.1<=6))=c
 generalize (decide (1<=x.2.2.2.1)&&decide (x.2.2.2.1<=9))=d
 generalize (decide (0<=x.2.2.2.2.1)&&decide (x.2.2.2.2.1<=1000000000))=e
 generalize CM x.2.2.2.2.2 0 x.2.2.2.2.2.length=f
 cases a<;>cases b<;>cases c<;>cases d<;>cases e<;>cases f<;>simp)

abbrev DJ:Type:=Int×Int×Int×AX
def asc (v:List Int):Prop:=(∀ a∈v,1<=a/\a<=6)/\v.Pairwise (· < ·)
theorem rR {v:List Int}:∀ (m i:Nat),i+m=v.length->(Fs v i m=true↔∀ a (ha:a<v.length),i<=a->(1<=v[a]/\v[a]<=6)/\(a≠0->v.getD (a-1) 0<v[a]))
 | 0,i,h=>by
  simp only [Fs,true_iff]
  intro a ha hi
  omega
 | m+1,i,h=>by
  have hi:i<v.length:=by omega
  rw [Fs,AC,AC,rR m (i+1) (by omega),AT hi]
  simp only [Dy,AC,decide_eq_true_eq]
  constructor
  ·rintro ⟨⟨h1,h2⟩,h3⟩ a ha hia
   by_cases e:a=i
   ·subst e
    exact ⟨h1,fun h0=>h2.resolve_left h0⟩
   ·exact h3 a ha (by omega)
  ·intro h3
   refine ⟨⟨(h3 i hi (Nat.le_refl _)).1,?_⟩,fun a ha hia=>h3 a ha (by omega)⟩
   by_cases e:i=0
   ·exact .inl e
   ·exact .inr ((h3 i hi (Nat.le_refl _)).2 e)
theorem ABl {v:List Int}:Fs v 0 v.length=true↔asc v:=by
 rw [rR _ _ (by omega)]
 constructor
 ·intro h
  refine ⟨fun a ha=>?_,?_⟩
  ·obtain ⟨i,hi,rfl⟩:=EK ha
   exact (h i hi (Nat.zero_le _)).1
  ·have st:∀ d a (ha:a+d+1<v.length),v.getD a 0<v.getD (a+d+1) 0:=by
    intro d
    induction d with
    | zero =>
     intro a ha
     have:=(h (a+1) (by omega) (Nat.zero_le _)).2 (by omega)
     rw [AT (show a+0+1<v.length from ha)]
     simpa using this
    | succ d ih =>
     intro a ha
     have h1:=ih a (by omega)
     have h2:=(h (a+(d+1)+1) ha (Nat.zero_le _)).2 (by omega)
     rw [AT ha]
     simp only [Nat.add_sub_cancel] at h2
     have h3:v.getD (a+d+1) 0<v[a+(d+1)+1]:=h2
     omega
   rw [List.pairwise_iff_getElem]
   intro i j hi hj hij
   have:=st (j-i-1) i (by omega)
   rw [show i+(j-i-1)+1=j by omega,AT hi,AT hj] at this
   exact this
 ·rintro ⟨h1,h2⟩ a ha _
  refine ⟨h1 _ (BW ha),fun h0=>?_⟩
  rw [AT (show a-1<v.length by omega)]
  exact (List.pairwise_iff_getElem.1 h2) (a-1) a (by omega) ha (by omega)
theorem xe {v:List Int} (h:asc v):v.length<=6:=by
 have hs:v.Sublist [1,2,3,4,5,6]:=by
  have key:∀ (l:List Int) (n:Nat),n<=6->(∀ a∈l,(6-n:Int)<a/\a<=6)->l.Pairwise (· < ·)->l.length<=n:=by
   intro l
   induction l with
   | nil=>intro n _ _ _; simp
   | cons a l ih =>
    intro n hn hb hp
    have ha:=hb a (by simp)
    have hp2:=List.pairwise_cons.1 hp
    have:=ih ((6-a).toNat) (by omega) (fun b hb'=>⟨by have:=hp2.1 b hb'; omega,(hb b (by simp [hb'])).2⟩) hp2.2
    simp only [List.length_cons]
    omega
  have hl:=key v 6 (by omega) (fun a ha=>by have:=h.1 a ha; omega) h.2
  exact List.Sublist.trans (List.Sublist.refl v) (by
   have:∀ (l:List Int) (s:List Int),s.Pairwise (· < ·)->l.Pairwise (· < ·)->(∀ a∈l,a∈s)->l.Sublist s:=by
    intro l s
    induction s generalizing l with
    | nil =>
     intro _ _ hm
     cases l with
     | nil=>exact List.Sublist.slnil
     | cons a l=>exact absurd (hm a (by simp)) (by simp)
    | cons b s ih =>
     intro hs hl hm
     cases l with
     | nil=>exact List.nil_sublist _
     | cons a l =>
      have hs2:=List.pairwise_cons.1 hs
      have hl2:=List.pairwise_cons.1 hl
      rcases BI.1 (hm a (by simp)) with e | e
      ·subst e
       refine (ih l hs2.2 hl2.2 fun c hc=>?_).cons_cons _
       rcases BI.1 (hm c (by simp [hc])) with e | e
       ·have:=hl2.1 c hc; omega
       ·exact e
      ·refine (ih (a::l) hs2.2 hl fun c hc=>?_).cons _
       rcases BI.1 (hm c hc) with e2 | e2
       ·have h1:=hs2.1 a e
        rcases BI.1 hc with e3 | e3
        ·omega
        ·have:=hl2.1 c e3; omega
       ·exact e2
   refine this v [1,2,3,4,5,6] (by decide) h.2 fun a ha=>?_
   have:=h.1 a ha
   have h5:a=1\/a=2\/a=3\/a=4\/a=5\/a=6:=by omega
   rcases h5 with h | h | h | h | h | h<;>simp [h])
 simpa using hs.length_le
structure KF (m:AD):Prop where
 id:1<=m.1/\m.1<=6
 ep:1<=m.2.1/\m.2.1<=9
 serves:m.2.2.2.2.2.1=true->m.2.2.2.1=true/\m.2.2.2.2.1=true/\m.2.2.2.2.2.2.1=[]
 fell:m.2.2.1=true->m.2.2.2.1=false/\m.2.2.2.2.1=false
 waits:asc m.2.2.2.2.2.2.1
 left:asc m.2.2.2.2.2.2.2.2.2.2.2.2.2
 items:BE m.2.2.2.2.2.2.2.1=true
 count:0<=m.2.2.2.2.2.2.2.2.1/\m.2.2.2.2.2.2.2.2.1<=900
 task:KE m.2.2.2.2.2.2.2.2.2=true\/Ft m.2.2.2.2.2.2.2.2.2 m.2.2.2.2.2.1=true
theorem xf {m:AD}:XF m=true↔KF m:=by
 unfold XF
 simp only [AC,Dy,EL,decide_eq_true_eq,ABl,decide_eq_false_iff_not]
 constructor
 ·rintro ⟨⟨⟨⟨⟨⟨⟨⟨h1,h2⟩,h3⟩,h4⟩,h5⟩,h6⟩,h7⟩,h8⟩,h9⟩
  refine ⟨h1,h2,fun h=>?_,fun h=>?_,h5,h6,h7,h8,h9⟩
  ·rcases h3 with h3 | ⟨⟨a,b⟩,c⟩
   ·rw [h] at h3; cases h3
   ·exact ⟨a,b,DV.1 (by omega)⟩
  ·rcases h4 with h4 | h4
   ·rw [h] at h4; cases h4
   ·exact h4
 ·rintro ⟨h1,h2,h3,h4,h5,h6,h7,h8,h9⟩
  refine ⟨⟨⟨⟨⟨⟨⟨⟨h1,h2⟩,?_⟩,?_⟩,h5⟩,h6⟩,h7⟩,h8⟩,h9⟩
  ·cases hs:m.2.2.2.2.2.1 with
   | false=>exact .inl rfl
   | true =>
    obtain ⟨a,b,c⟩:=h3 hs
    exact .inr ⟨⟨a,b⟩,by rw [c]; simp⟩
  ·cases hs:m.2.2.1 with
   | false=>exact .inl rfl
   | true=>exact .inr (h4 hs)
theorem Ls {x:List AX} (h:BE x=true):x.length<=12:=(Hf.1 h).2.2
theorem KF.lens {m:AD} (h:KF m):m.2.2.2.2.2.2.1.length<=6/\m.2.2.2.2.2.2.2.1.length<=12/\m.2.2.2.2.2.2.2.2.2.2.2.2.2.length<=6:=⟨xe h.waits,Ls h.items,xe h.left⟩
theorem jf (m:AD) (h1:m.2.2.2.2.2.2.1.length<=68719476736) (h2:m.2.2.2.2.2.2.2.1.length<=68719476736) (h3:m.2.2.2.2.2.2.2.2.2.2.2.2.2.length<=68719476736):Dh m=some m:=qt (by
 unfold bO
 rw [if_pos (by simpa using h1),if_pos (by simpa using h2),if_pos (by simpa using h3)]
 rfl)
theorem KF.copy {m:AD} (h:KF m):Dh m=some m:=by
 obtain ⟨h1,h2,h3⟩:=h.lens
 exact jf m (by omega) (by omega) (by omega)
def HX (view:List Int) (id:Int):List Int:=[1,2,3,4,5,6].filter fun v=>v != id&&view.contains v
theorem X2 (view:List Int) (id:Int):asc (HX view id):=by
 refine ⟨fun a ha=>?_,List.Pairwise.filter _ (by decide)⟩
 have:=(List.mem_filter.1 ha).1
 simp at this
 omega
theorem KG (view:List Int) (id:Int) (h:view.length<=maxLen):HL view id=some (HX view id):=mE (by
 unfold Wu
 have step:∀ (v:Nat) (acc r:List Int),v<=6->1<=v->acc.length<=6->CY view id ((v+1:Nat):Int) (if ((v:Int) != id&&view.contains (v:Int))=true then acc++[(v:Int)] else acc)=some r->CY view id (v:Int) acc=some r:=by
  intro v acc r hv hv1 ha hr
  refine RC ?_
  unfold KB
  rw [if_pos (by simp; omega),AQ (show v<9223372036854775807 by omega),Es view _ h]
  by_cases h1:((v:Int) != id)=true
  ·rw [if_pos h1,Z]
   by_cases h2:view.contains (v:Int)=true
   ·rw [if_pos h2,if_pos (by simp; omega)]
    rw [if_pos (by rw [h1,h2]; rfl)] at hr
    exact hr
   ·rw [if_neg h2]
    rw [if_neg (fun hc=>h2 (by simp only [AC] at hc; exact hc.2))] at hr
    exact hr
  ·rw [if_neg h1]
   rw [if_neg (fun hc=>h1 (by simp only [AC] at hc; exact hc.1))] at hr
   exact hr
 have fin:∀ acc,CY view id ((7:Nat):Int) acc=some acc:=fun acc=>RC (by
  unfold KB
  rw [if_neg (by decide)])
 have g:∀ (acc:List Int) (v:Int),(if (v != id&&view.contains v)=true then acc++[v] else acc).length<=acc.length+1:=by
  intro acc v; split<;>simp
 refine step 1 [] _ (by omega) (by omega) (by simp) ?_
 refine step 2 _ _ (by omega) (by omega) (by have:=g [] ((1:Nat):Int); simp only [List.length_nil] at this; omega) ?_
 have l2:=g [] ((1:Nat):Int)
 generalize e1:(if (((1:Nat):Int) != id&&view.contains ((1:Nat):Int))=true then ([]:List Int)++[((1:Nat):Int)] else [])=a1 at l2 ⊢
 have l3:=g a1 ((2:Nat):Int)
 generalize e2:(if (((2:Nat):Int) != id&&view.contains ((2:Nat):Int))=true then a1++[((2:Nat):Int)] else a1)=a2 at l3 ⊢
 have l4:=g a2 ((3:Nat):Int)
 simp only [List.length_nil] at l2
 refine step 3 _ _ (by omega) (by omega) (by omega) ?_
 generalize e3:(if (((3:Nat):Int) != id&&view.contains ((3:Nat):Int))=true then a2++[((3:Nat):Int)] else a2)=a3 at l4 ⊢
 have l5:=g a3 ((4:Nat):Int)
 refine step 4 _ _ (by omega) (by omega) (by omega) ?_
 generalize e4:(if (((4:Nat):Int) != id&&view.contains ((4:Nat):Int))=true then a3++[((4:Nat):Int)] else a3)=a4 at l5 ⊢
 have l6:=g a4 ((5:Nat):Int)
 refine step 5 _ _ (by omega) (by omega) (by omega) ?_
 generalize e5:(if (((5:Nat):Int) != id&&view.contains ((5:Nat):Int))=true then a4++[((5:Nat):Int)] else a4)=a5 at l6 ⊢
 refine step 6 _ _ (by omega) (by omega) (by omega) ?_
 rw [fin]
 congr 1
 unfold HX
 have fl:∀ (p:Int->Bool) (v:Int) (l:List Int),(v::l).filter p=(if p v=true then [v] else [])++l.filter p:=by
  intro p v l; rw [List.filter_cons]; split<;>simp
 have ap:∀ (c:Bool) (a:List Int) (v:Int),(if c=true then a++[v] else a)=a++(if c=true then [v] else []):=by
  intro c a v; split<;>simp
 rw [ap,<- e5,ap,<- e4,ap,<- e3,ap,<- e2,ap,<- e1,ap]
 simp only [fl,List.filter_nil,List.append_nil,List.nil_append,Be]
 rfl)
theorem rS {v:List Int} (h:asc v) (p:Int->Bool):asc (v.filter p):=⟨fun a ha=>h.1 a (List.mem_filter.1 ha).1,h.2.filter p⟩
theorem P4 (v:List Int) (x:Int) (h:v.length<=68719476736):Ig v x=some (v.filter (· != x)):=jc (by
 unfold U5
 have key:=KD (n:=v.length) (P:=fun i=>∀ acc:List Int,acc.length<=i->EZ v x (i:Int) acc=some (acc++(v.drop i).filter (· != x))) (fun acc ha=>P0 (by
  unfold JQ
  rw [if_neg (by simp)]
  simp)) (fun i hi ih acc ha=>P0 (by
  unfold JQ
  simp only [show ((i:Int)<(v.length:Int)) from by omega,decide_true,if_true,show (0:Int)<=(i:Int) from by omega,Ad,AT hi,AQ (show i<9223372036854775807 by omega)]
  rw [Am hi,List.filter_cons]
  by_cases hh:(v[i] != x)=true
  ·rw [if_pos hh,if_pos (by simp; omega),ih _ (by simp; omega),if_pos hh,Be]
   rfl
  ·rw [if_neg hh,ih _ (by omega),if_neg hh])) 0 (by omega) [] (by simp)
 simpa using key)

def Ca (view:List Int) (id:Int):List Int:=view.filter (· != id)
def XI (m:AD) (view:List Int) (its:List AX):AD :=
 (m.1,m.2.1,m.2.2.1,true,m.2.2.2.2.1,(((HX view m.1).length:Int)==0),HX view m.1,its,m.2.2.2.2.2.2.2.2)
def XJ (m:AD) (e:Int):AD :=
 (m.1,e,false,false,false,false,([]:List Int),m.2.2.2.2.2.2.2.1,(0:Int),(0:Int),(0:Int),(0:Int),(O,O,(0:Int)),([]:List Int))
def Et (m:AD) (x:Bl) (k:Int):List Bl:=[(k,m.1,x.2.1,x.2.2.2.1,x.2.2.2.2.1,([]:List AX))]
def XK (m:AD) (its:List AX):AD :=
 (m.1,m.2.1,m.2.2.1,m.2.2.2.1,m.2.2.2.2.1,m.2.2.2.2.2.1,m.2.2.2.2.2.2.1,its,m.2.2.2.2.2.2.2.2.1,(0:Int),(0:Int),(0:Int),(O,O,(0:Int)),([]:List Int))
def EP (m:AD):List DJ×AD :=
 if (m.2.2.2.2.2.2.2.2.2.1==1)=true then ([(m.2.2.2.2.2.2.2.2.2.2.1,m.2.1,m.2.2.2.2.2.2.2.2.2.2.2.1,m.2.2.2.2.2.2.2.2.2.2.2.2.1)],XK m (Do m.2.2.2.2.2.2.2.1 m.2.2.2.2.2.2.2.2.2.2.2.2.1))
 else ([(m.2.2.2.2.2.2.2.2.2.2.1,m.2.1,m.2.2.2.2.2.2.2.2.2.2.2.1,Ch m.2.2.2.2.2.2.2.1 m.2.2.2.2.2.2.2.2.2.2.2.2.1.1)],XK m m.2.2.2.2.2.2.2.1)
theorem XL (view:List Int) (its:List AX) (m:AD) (h:view.length<=68719476736) (hi:its.length<=68719476736) :
  O4 view its m=some ((Ca view m.1).map (fun v=>(3,m.1,v,m.2.1,0,its)),XI m view its):=sX (by
 unfold dz
 rw [if_pos (by simpa using hi),KG view _ (by unfold maxLen; omega),Z]
 have key:=KD (n:=view.length) (P:=fun i=>∀ acc:List Bl,acc.length<=i->HR view its (i:Int) (XI m view its) acc ([]++its)=some (acc++((view.drop i).filter (· != m.1)).map (fun v=>((3:Int),m.1,v,m.2.1,(0:Int),its)),XI m view its)) (fun acc ha=>Wx (by
  unfold Of
  rw [if_neg (by simp)]
  simp)) (fun i hi2 ih acc ha=>Wx (by
  unfold Of
  simp only [show ((i:Int)<(view.length:Int)) from by omega,decide_true,if_true,show (0:Int)<=(i:Int) from by omega,Ad,AT hi2,AQ (show i<9223372036854775807 by omega)]
  rw [show (XI m view its).1=m.1 from rfl,show (XI m view its).2.1=m.2.1 from rfl,Am hi2,List.filter_cons]
  by_cases hh:(view[i] != m.1)=true
  ·rw [if_pos hh,if_pos (by simpa using hi),if_pos (by simp; omega),ih _ (by simp; omega),if_pos hh,List.map_cons,Be]
   rfl
  ·rw [if_neg hh,ih _ (by omega),if_neg hh])) 0 (by omega) [] (by simp)
 exact key)
theorem VG (m:AD) (e:Int) (h:m.2.2.2.2.2.2.2.1.length<=68719476736):Mq m e=some (XJ m e):=rE (by
 unfold bc
 rw [if_pos (by simpa using h)]
 rfl)
theorem H9 (m:AD) (x:Bl) (k:Int):Em m x k=some (Et m x k):=oY rfl
theorem KH (m:AD) (h:m.2.2.2.2.2.2.2.1.length<=34359738367):HM m=some (EP m):=mF (by
 unfold Ww EP
 rw [Na _ _ h,XB _ _ (by unfold maxLen; omega)]
 split<;>rfl)
def tH (m:AD) (f:Int):AD :=
 (m.1,m.2.1,m.2.2.1,m.2.2.2.1,m.2.2.2.2.1,m.2.2.2.2.2.1,m.2.2.2.2.2.2.1,m.2.2.2.2.2.2.2.1,m.2.2.2.2.2.2.2.2.1,m.2.2.2.2.2.2.2.2.2.1,m.2.2.2.2.2.2.2.2.2.2.1,m.2.2.2.2.2.2.2.2.2.2.2.1,m.2.2.2.2.2.2.2.2.2.2.2.2.1,m.2.2.2.2.2.2.2.2.2.2.2.2.2.filter (· != f))
def El (m:AD) (f:Int):AD×List Bl×List DJ :=
 if (((m.2.2.2.2.2.2.2.2.2.2.2.2.2.filter (· != f)).length:Int)==0)=true then ((EP (tH m f)).2,[],(EP (tH m f)).1) else (tH m f,[],[])
def X3 (m:AD) (view:List Int) (x:Bl):AD×List Bl×List DJ :=
 if x.1=2 then (if (m.2.2.2.2.1&&!m.2.2.2.1)=true then (XI m view x.2.2.2.2.2,(Ca view m.1).map (fun v=>(3,m.1,v,m.2.1,0,x.2.2.2.2.2)),[]) else (m,[],[]))
 else if x.1=3 then (if (!view.contains m.1||(view.getD 0 0==m.1))=true then (m,[],[]) else if (!m.2.2.2.1&&m.2.2.1)=true then (m,[],[])
  else if m.2.2.2.1=true then (m,Et m x 4,[]) else
   ((m.1,m.2.1,false,true,false,false,([]:List Int),x.2.2.2.2.2,(0:Int),(0:Int),(0:Int),(0:Int),(O,O,(0:Int)),([]:List Int)),Et m x 4,[]))
 else if x.1=4 then (if m.2.2.2.2.1=true then
   ((m.1,m.2.1,m.2.2.1,m.2.2.2.1,m.2.2.2.2.1,m.2.2.2.1&&(((m.2.2.2.2.2.2.1.filter (· != x.2.1)).length:Int)==0),m.2.2.2.2.2.2.1.filter (· != x.2.1),m.2.2.2.2.2.2.2),[],[]) else (m,[],[]))
 else if x.1=5 then (if m.2.2.2.1=true then
   ((m.1,m.2.1,m.2.2.1,m.2.2.2.1,m.2.2.2.2.1,m.2.2.2.2.2.1,m.2.2.2.2.2.2.1,Do m.2.2.2.2.2.2.2.1 (x.2.2.2.2.2.getD 0 (O,O,(0:Int))),m.2.2.2.2.2.2.2.2),Et m x 6,[]) else (m,[],[]))
 else if x.1=7 then (if m.2.2.2.1=true then (m,Et m x 8,[]) else (m,[],[]))
 else if (x.1=6\/x.1=8)/\m.2.2.2.2.2.2.2.2.2.1=(if x.1=8 then 2 else 1)/\m.2.2.2.2.2.2.2.2.2.2.2.1=x.2.2.2.2.1 then
  (El m x.2.1)
 else (m,[],[])
theorem ma (m:AD) (view:List Int) (x:Bl) (hm:KF m) (hv:view.length<=68719476736) (hv0:0<view.length) (hx:x.2.2.2.2.2.length<=68719476736) (h5:x.1=5->0<x.2.2.2.2.2.length) :
  VS m view x=some (X3 m view x):=sY (by
 obtain ⟨l1,l2,l3⟩:=hm.lens
 unfold d4
 rw [hm.copy,Z]
 unfold X3
 by_cases k2:x.1=2
 ·rw [if_pos (by simpa using k2),if_pos k2]
  have J:∀ b y,Jn view [] [] b m x y m=some (if b=true then (XI m view x.2.2.2.2.2,(Ca view m.1).map (fun v=>(3,m.1,v,m.2.1,0,x.2.2.2.2.2)),[]) else (m,[],[])):=fun b y=>mH (by
   unfold Wy
   cases b
   ·rfl
   ·rw [if_pos rfl,XL view _ m hv hx]
    rfl)
  rw [J,J]
  cases m.2.2.2.2.1<;>cases m.2.2.2.1<;>rfl
 ·rw [if_neg (by simpa using k2),if_neg k2]
  by_cases k3:x.1=3
  ·rw [if_pos (by simpa using k3),if_pos k3,Es view _ (by unfold maxLen; omega),Z]
   have J2:∀ b y,Jo [] [] b m x y m=some (if m.2.2.2.1=true then (m,Et m x 4,[]) else
     ((m.1,m.2.1,false,true,false,false,([]:List Int),x.2.2.2.2.2,(0:Int),(0:Int),(0:Int),(0:Int),(O,O,(0:Int)),([]:List Int)),Et m x 4,[])):=fun b y=>mI (by
    unfold Wz
    rw [VG m _ (by omega),H9,Z,Z]
    have hx':([]:List AX).length+x.2.2.2.2.2.length<=68719476736:=by simpa using hx
    cases m.2.2.2.1
    ·rw [if_pos (show (!false)=true from rfl),if_pos hx']; rfl
    ·rfl)
   have J1:∀ b y,Og [] [] b m x y m=some (if (!m.2.2.2.1&&m.2.2.1)=true then (m,[],[]) else if m.2.2.2.1=true then (m,Et m x 4,[]) else
     ((m.1,m.2.1,false,true,false,false,([]:List Int),x.2.2.2.2.2,(0:Int),(0:Int),(0:Int),(0:Int),(O,O,(0:Int)),([]:List Int)),Et m x 4,[])):=fun b y=>mJ (by
    unfold W0
    rw [J2,J2]
    cases m.2.2.2.1<;>cases m.2.2.1<;>rfl)
   rw [show view.getD (0:Int).toNat 0=view.getD 0 0 from rfl]
   cases view.contains m.1
   ·rfl
   ·rw [if_neg (by simp),if_pos (by omega),if_pos (by omega),J1]
    cases (view.getD 0 0==m.1)<;>rfl
  ·rw [if_neg (by simpa using k3),if_neg k3]
   by_cases k4:x.1=4
   ·rw [if_pos (by simpa using k4),if_pos k4,P4 _ _ (by omega),Z]
    cases m.2.2.2.2.1<;>cases m.2.2.2.1<;>rfl
   ·rw [if_neg (by simpa using k4),if_neg k4]
    by_cases k5:x.1=5
    ·have:=h5 k5
     rw [if_pos (by simpa using k5),if_pos k5,Na _ _ (by omega),Z,H9,Z,show x.2.2.2.2.2.getD (0:Int).toNat (O,O,(0:Int))=x.2.2.2.2.2.getD 0 (O,O,(0:Int)) from rfl]
     cases m.2.2.2.1
     ·rfl
     ·rw [if_pos rfl,if_pos rfl,if_pos (by omega),if_pos (by omega)]
    ·rw [if_neg (by simpa using k5),if_neg k5]
     by_cases k7:x.1=7
     ·rw [if_pos (by simpa using k7),if_pos k7,H9,Z]
      cases m.2.2.2.1<;>rfl
     ·rw [if_neg (by simpa using k7),if_neg k7]
      have J5:∀ b y,Oh [] [] b m x y m=some (El m x.2.1):=fun b y=>mK (by
       unfold W3
       rw [P4 _ _ (by omega),Z,KH _ (by simp only; omega),Z]
       unfold El
       split<;>rfl)
      have J4:∀ op y,Jp [] [] op m x y m=some (if m.2.2.2.2.2.2.2.2.2.1=op/\m.2.2.2.2.2.2.2.2.2.2.2.1=x.2.2.2.2.1 then (El m x.2.1) else (m,[],[])):=fun op y=>mL (by
       unfold W4
       rw [J5]
       by_cases h1:m.2.2.2.2.2.2.2.2.2.1=op
       ·rw [if_pos (by simp [h1])]
        by_cases h2:m.2.2.2.2.2.2.2.2.2.2.2.1=x.2.2.2.2.1
        ·rw [if_neg (by simp [h2]),if_pos (show _/\_ from ⟨h1,h2⟩)]
        ·rw [if_pos (by simp [h2]),if_neg (show ¬(_/\_) from fun h=>h2 h.2)]
       ·rw [if_neg (by simp [h1]),if_neg (fun h=>h1 h.1)])
      have J3:∀ b y,Jq [] [] b m x y m=some (if b=true/\m.2.2.2.2.2.2.2.2.2.1=(if x.1=8 then 2 else 1)/\m.2.2.2.2.2.2.2.2.2.2.2.1=x.2.2.2.2.1 then (El m x.2.1) else (m,[],[])):=fun b y=>mM (by
       unfold W5
       rw [J4,J4]
       cases b
       ·rw [if_neg (by simp),if_neg (by simp)]
       ·rw [if_pos rfl]
        by_cases k8:x.1=8
        ·simp only [k8,beq_self_eq_true,if_true,true_and]
        ·rw [if_neg (by simpa using k8)]
         simp only [k8,if_false,true_and])
      rw [J3,J3]
      by_cases k6:x.1=6
      ·simp only [k6,beq_self_eq_true,if_true,true_and,true_or]
      ·rw [if_neg (by simpa using k6)]
       simp only [k6,false_or,beq_iff_eq])
structure XV (views:List (List Int)):Prop where
 ok:Bw views views.length views=true
theorem O5 {n:Nat}:∀ {l:List (List Int)} {x:List (List Int)},Bw x n l=true↔(∀ v∈l,X1 v=true)/\1<=n/\n<=9
 | [],x=>by simp [Bw]; omega
 | v::l,x=>by
  rw [Bw,AC,O5]
  simp [and_assoc]
theorem XV.len {views:List (List Int)} (h:XV views):1<=views.length/\views.length<=9:=(O5.1 h.ok).2
theorem XV.view {views:List (List Int)} (h:XV views) {v:List Int} (hv:v∈views):1<=v.length/\v.length<=4:=by
 have:=(O5.1 h.ok).1 v hv
 unfold X1 at this
 simp only [AC,decide_eq_true_eq] at this
 omega
theorem XV.get {views:List (List Int)} (h:XV views) {i:Nat} (hi:i<views.length):1<=(views.getD i []).length/\(views.getD i []).length<=4:=by
 rw [AT hi]
 exact h.view (BW hi)
theorem Gp {views:List (List Int)} (h:XV views):DA views=some true:=by
 rw [U_ views (by have:=h.len; unfold maxLen; omega) (fun a ha=>by have:=h.view ha; unfold maxLen; omega),h.ok]
theorem LW {m:AD} (h:KF m):GH m=some true:=by
 obtain ⟨h1,h2,h3⟩:=h.lens
 rw [fq m (by unfold maxLen; omega) (by unfold maxLen; omega) (by unfold maxLen; omega),xf.2 h]
def Dv (m:AD) (views:List (List Int)) (x:Bl):AD×List Bl×List DJ :=
 if (XH x&&(x.2.2.1==m.1)&&decide (m.2.1<=x.2.2.2.1)&&decide (x.2.2.2.1<=(views.length:Int)))=true then
  if x.2.2.2.1=m.2.1 then X3 m (views.getD (m.2.1-1).toNat []) x
  else if (x.1==1&&(x.2.2.2.1==m.2.1+1)&&m.2.2.2.1&&(views.getD (m.2.1-1).toNat []).contains m.1)=true then (XJ m x.2.2.2.1,[(2,m.1,x.2.1,x.2.2.2.1,0,m.2.2.2.2.2.2.2.1)],[])
  else if (x.1==3&&(views.getD (x.2.2.2.1-1).toNat []).contains m.1&&((views.getD (x.2.2.2.1-1).toNat []).getD 0 0 != m.1))=true then
   ((m.1,x.2.2.2.1,false,true,false,false,([]:List Int),x.2.2.2.2.2,(0:Int),(0:Int),(0:Int),(0:Int),(O,O,(0:Int)),([]:List Int)),Et m x 4,[])
  else (m,[],[])
 else (m,[],[])
theorem ABm {x:Bl} (h:XH x=true):x.2.2.2.2.2.length<=12/\(x.1=5->x.2.2.2.2.2.length=1):=by
 unfold XH at h
 simp only [AC] at h
 refine ⟨Ls (x:=x.2.2.2.2.2) h.1.2,fun h5=>?_⟩
 have:=h.2
 rw [if_neg (by omega),if_pos h5] at this
 simp only [beq_iff_eq] at this
 omega
theorem jg (m:AD) (views:List (List Int)) (x:Bl) (hm:KF m) (hv:XV views) (hx:x.2.2.2.2.2.length<=68719476736) :
  SE m views x=some (Dv m views x):=q_ (by
 have hvl:=hv.len
 have hep:=hm.ep
 unfold bU Dv
 rw [hm.copy,Z,LW hm,Z,if_pos (by rfl),Gp hv,Z,if_pos (by rfl),ol x (by unfold maxLen; omega),Z]
 cases hmo:XH x with
 | false=>rfl
 | true =>
  obtain ⟨xl,x5⟩:=ABm hmo
  rw [if_pos (by rfl)]
  by_cases h1:x.2.2.1=m.1
  ·rw [if_pos (by simp [h1])]
   by_cases h2:x.2.2.2.1<m.2.1
   ·rw [if_neg (by simpa using h2),if_neg (by simp; omega)]
   ·rw [if_pos (by simpa using h2)]
    by_cases h3:x.2.2.2.1>(views.length:Int)
    ·rw [if_neg (by simpa using h3),if_neg (by simp; omega)]
    ·rw [if_pos (by simpa using h3),if_neg (by simp; omega),if_pos (by simp [h1]; omega)]
     have wm:IntKind.i64.wrap (m.2.1-1)=m.2.1-1:=Ai (by omega)
     have wp:IntKind.i64.wrap (m.2.1+1)=m.2.1+1:=Ai (by omega)
     have wx:IntKind.i64.wrap (x.2.2.2.1-1)=x.2.2.2.1-1:=Ai (by omega)
     have g1:=hv.get (i:=(m.2.1-1).toNat) (by omega)
     have g2:=hv.get (i:=(x.2.2.2.1-1).toNat) (by omega)
     have J3:∀ b y,Gj [] [] b m x y m=some (if b=true then ((m.1,x.2.2.2.1,false,true,false,false,([]:List Int),x.2.2.2.2.2,(0:Int),(0:Int),(0:Int),(0:Int),(O,O,(0:Int)),([]:List Int)),Et m x 4,[]) else (m,[],[])):=fun b y=>jK (by
      unfold Up
      cases b
      ·rfl
      ·rw [if_pos rfl,if_pos (by simpa using hx),H9]
       rfl)
     have J2:∀ b y,NN views [] [] b m x y m=some (if (x.1==3&&(views.getD (x.2.2.2.1-1).toNat []).contains m.1&&((views.getD (x.2.2.2.1-1).toNat []).getD 0 0 != m.1))=true then
       ((m.1,x.2.2.2.1,false,true,false,false,([]:List Int),x.2.2.2.2.2,(0:Int),(0:Int),(0:Int),(0:Int),(O,O,(0:Int)),([]:List Int)),Et m x 4,[]) else (m,[],[])):=fun b y=>jL (by
      unfold Uq
      rw [wx,if_pos (by omega),if_pos (by omega),Es _ _ (by unfold maxLen; omega),Z,show (views.getD (x.2.2.2.1-1).toNat ([]:List Int)).getD (0:Int).toNat 0=(views.getD (x.2.2.2.1-1).toNat []).getD 0 0 from rfl]
      simp only [J3]
      rw [if_pos (show (0:Int)<=0 by omega),if_pos (show (0:Int)<((views.getD (x.2.2.2.1-1).toNat ([]:List Int)).length:Int) by omega)]
      cases (x.1==3)<;>cases (views.getD (x.2.2.2.1-1).toNat ([]:List Int)).contains m.1<;>rfl)
     have J1:∀ b y,Ei views [] [] b m x y m=some (if b=true then (XJ m x.2.2.2.1,[(2,m.1,x.2.1,x.2.2.2.1,0,m.2.2.2.2.2.2.2.1)],[]) else
       if (x.1==3&&(views.getD (x.2.2.2.1-1).toNat []).contains m.1&&((views.getD (x.2.2.2.1-1).toNat []).getD 0 0 != m.1))=true then
       ((m.1,x.2.2.2.1,false,true,false,false,([]:List Int),x.2.2.2.2.2,(0:Int),(0:Int),(0:Int),(0:Int),(O,O,(0:Int)),([]:List Int)),Et m x 4,[]) else (m,[],[])):=fun b y=>jM (by
      unfold Ur
      have hl:([]:List AX).length+m.2.2.2.2.2.2.2.1.length<=68719476736:=by have:=hm.lens; simp; omega
      rw [J2,VG m _ (by have:=hm.lens; omega),Z,if_pos hl]
      cases b<;>rfl)
     refine jN ?_
     unfold Us
     rw [wm,wp]
     by_cases h4:x.2.2.2.1=m.2.1
     ·rw [if_pos (by simpa using h4),if_pos (by omega),if_pos (by omega),if_pos h4,ma m _ x hm (by omega) (by omega) hx (fun h=>by have:=x5 h; omega)]
      rfl
     ·rw [if_neg (by simpa using h4),if_neg h4,Es _ _ (by unfold maxLen; omega),Z]
      simp only [J1]
      rw [if_pos (show (0:Int)<=m.2.1-1 by omega),if_pos (show m.2.1-1<(views.length:Int) by omega)]
      cases (x.1==1)<;>cases (x.2.2.2.1==m.2.1+1)<;>cases m.2.2.2.1<;>cases (views.getD (m.2.1-1).toNat ([]:List Int)).contains m.1<;>rfl
  ·rw [if_neg (by simp [h1]),if_neg (by simp [h1])])

theorem d7 {v:List Int}:∀ (m i:Nat),i+m=v.length->(IL v i m=true↔∀ a (ha:a<v.length),i<=a->(1<=v[a]/\v[a]<=6)/\v[a]∉v.take a)
 | 0,i,h=>by
  simp only [IL,true_iff]
  intro a ha hi
  omega
 | m+1,i,h=>by
  have hi:i<v.length:=by omega
  rw [IL,AC,AC,d7 m (i+1) (by omega),AT hi]
  simp only [AC,decide_eq_true_eq,EL,List.contains_eq_mem,decide_eq_false_iff_not]
  constructor
  ·rintro ⟨⟨h1,h2⟩,h3⟩ a ha hia
   by_cases e:a=i
   ·subst e
    exact ⟨h1,h2⟩
   ·exact h3 a ha (by omega)
  ·intro h3
   exact ⟨⟨(h3 i hi (Nat.le_refl _)).1,(h3 i hi (Nat.le_refl _)).2⟩,fun a ha hia=>h3 a ha (by omega)⟩
structure WOk (v:List Int):Prop where
 len:1<=v.length/\v.length<=4
 mem:∀ a∈v,1<=a/\a<=6
 nd:v.Nodup
theorem ABn {v:List Int}:X1 v=true↔WOk v:=by
 unfold X1
 simp only [AC,decide_eq_true_eq]
 rw [d7 _ _ (by omega)]
 constructor
 ·rintro ⟨h1,h2⟩
  refine ⟨by omega,fun a ha=>?_,?_⟩
  ·obtain ⟨i,hi,rfl⟩:=EK ha
   exact (h2 i hi (Nat.zero_le _)).1
  ·rw [List.nodup_iff_pairwise_ne,List.pairwise_iff_getElem]
   intro i j hi hj hij e
   have:=(h2 j hj (Nat.zero_le _)).2
   apply this
   rw [<- e]
   exact List.mem_iff_getElem.2 ⟨i,by rw [List.length_take]; omega,by rw [List.getElem_take]⟩
 ·rintro ⟨h1,h2,h3⟩
  refine ⟨by omega,fun a ha _=>⟨h2 _ (BW ha),fun hm=>?_⟩⟩
  obtain ⟨i,hi,e⟩:=EK hm
  rw [List.length_take] at hi
  rw [List.getElem_take] at e
  have:=(List.getElem_inj h3).1 e
  omega
theorem XV.wok {views:List (List Int)} (h:XV views) {i:Nat} (hi:i<views.length):WOk (views.getD i []):=by
 rw [AT hi]
 exact ABn.1 ((O5.1 h.ok).1 _ (BW hi))
structure XOk (x:Bl):Prop where
 kind:1<=x.1/\x.1<=8
 frm:1<=x.2.1/\x.2.1<=6
 to:1<=x.2.2.1/\x.2.2.1<=6
 ep:1<=x.2.2.2.1/\x.2.2.2.1<=9
 num:0<=x.2.2.2.2.1/\x.2.2.2.2.1<=1000000000
 items:BE x.2.2.2.2.2=true
 shape:if x.1=2\/x.1=3 then True else if x.1=5 then x.2.2.2.2.2.length=1 else x.2.2.2.2.2=[]
theorem ca {x:Bl}:XH x=true↔XOk x:=by
 unfold XH
 simp only [AC,decide_eq_true_eq]
 constructor
 ·rintro ⟨⟨⟨⟨⟨⟨h1,h2⟩,h3⟩,h4⟩,h5⟩,h6⟩,h7⟩
  refine ⟨h1,h2,h3,h4,h5,h6,?_⟩
  split at h7
  ·rename_i e; rw [if_pos e]; trivial
  ·rename_i e
   rw [if_neg e]
   split at h7
   ·rename_i e2; rw [if_pos e2]; simp only [beq_iff_eq] at h7; omega
   ·rename_i e2; rw [if_neg e2]; simp only [beq_iff_eq] at h7; exact DV.1 (by omega)
 ·rintro ⟨h1,h2,h3,h4,h5,h6,h7⟩
  refine ⟨⟨⟨⟨⟨⟨h1,h2⟩,h3⟩,h4⟩,h5⟩,h6⟩,?_⟩
  split
  ·rfl
  ·rename_i e
   rw [if_neg e] at h7
   split
   ·rename_i e2; rw [if_pos e2] at h7; simp; omega
   ·rename_i e2; rw [if_neg e2] at h7; simp [h7]
theorem XM:BE []=true:=rfl
def fw (m n:AD) (l:List Bl):Prop:=∀ y∈l,XOk y/\y.2.1=m.1/\y.2.2.2.1=n.2.1
theorem jh {m n:AD} {view:List Int} {k num:Int} {its:List AX} (hm:1<=m.1/\m.1<=6) (he:1<=n.2.1/\n.2.1<=9) (hv:∀ a∈view,1<=a/\a<=6) (hk:1<=k/\k<=8) (hn:0<=num/\num<=1000000000) (hi:BE its=true)
  (hs:if k=2\/k=3 then True else if k=5 then its.length=1 else its=[]):fw m n ((Ca view m.1).map fun v=>(k,m.1,v,n.2.1,num,its)):=by
 intro y hy
 obtain ⟨v,hv2,rfl⟩:=List.mem_map.1 hy
 exact ⟨⟨hk,hm,hv v (List.mem_filter.1 hv2).1,he,hn,hi,hs⟩,rfl,rfl⟩
theorem Sv {m n:AD} {x:Bl} {k:Int} (hm:1<=m.1/\m.1<=6) (hx:XOk x) (he:x.2.2.2.1=n.2.1) (hk:k=4\/k=6\/k=8):fw m n (Et m x k):=by
 intro y hy
 simp only [Et,B5] at hy
 subst hy
 refine ⟨⟨by show 1<=k/\k<=8; omega,hm,hx.frm,hx.ep,hx.num,XM,?_⟩,rfl,he⟩
 show if k=2\/k=3 then True else if k=5 then ([]:List AX).length=1 else ([]:List AX)=[]
 rw [if_neg (by omega),if_neg (by omega)]
theorem b8 {m n:AD}:fw m n []:=fun y hy=>by cases hy
theorem cd:KE ((0:Int),(0:Int),(0:Int),(O,O,(0:Int)),([]:List Int))=true:=by simp [KE,Zv]
theorem KF.has {m:AD} {view:List Int} {its:List AX} (h:KF m) (hl:m.2.2.2.2.1=true) (hb:m.2.2.2.1=false) (hi:BE its=true):KF (XI m view its):=by
 have hns:m.2.2.2.2.2.1=false:=by
  cases hs:m.2.2.2.2.2.1 with
  | false=>rfl
  | true=>have:=(h.serves hs).1; rw [hb] at this; cases this
 refine ⟨h.id,h.ep,fun hs=>⟨rfl,hl,?_⟩,fun hf=>?_,X2 _ _,h.left,hi,h.count,?_⟩
 ·simp only [XI,beq_iff_eq] at hs ⊢
  exact DV.1 (by omega)
 ·have:=(h.fell hf).2; rw [hl] at this; cases this
 ·rcases h.task with h1 | h1
  ·exact .inl h1
  ·unfold Ft at h1
   rw [hns] at h1
   simp at h1
theorem KF.bare {m:AD} (h:KF m) {e:Int} (he:1<=e/\e<=9):KF (XJ m e) :=
 ⟨h.id,he,fun hs=>(by cases hs),fun hf=>(by cases hf),⟨by simp [XJ],by simp [XJ]⟩,⟨by simp [XJ],by simp [XJ]⟩,h.items,⟨by simp [XJ],by simp [XJ]⟩,.inl cd⟩
theorem KF.install {m:AD} (h:KF m) {e:Int} {its:List AX} (he:1<=e/\e<=9) (hi:BE its=true) :
  KF (m.1,e,false,true,false,false,([]:List Int),its,(0:Int),(0:Int),(0:Int),(0:Int),(O,O,(0:Int)),([]:List Int)) :=
 ⟨h.id,he,fun hs=>(by cases hs),fun hf=>(by cases hf),⟨by simp,by simp⟩,⟨by simp,by simp⟩,hi,⟨by simp,by simp⟩,.inl cd⟩
theorem KF.clear {m:AD} (h:KF m) {its:List AX} (hi:BE its=true):KF (XK m its) :=
 ⟨h.id,h.ep,h.serves,h.fell,h.waits,⟨by simp [XK],by simp [XK]⟩,hi,h.count,.inl cd⟩
theorem KF.finish {m:AD} (h:KF m):KF (EP m).2:=by
 unfold EP
 split
 ·exact h.clear (rQ h.items)
 ·exact h.clear h.items
theorem ABo {m:AD} (h:KF m) (h0:m.2.2.2.2.2.2.2.2.2.1≠0):Ft m.2.2.2.2.2.2.2.2.2 m.2.2.2.2.2.1=true:=by
 rcases h.task with h1 | h1
 ·unfold KE at h1
  simp only [AC,beq_iff_eq] at h1
  exact absurd h1.1.1.1.1 h0
 ·exact h1
def mb (l:List DJ):Prop:=l.length<=1/\∀ s∈l,0<=s.1/\s.1<=1000
theorem Fu:mb []:=⟨by simp,fun s hs=>by cases hs⟩
theorem nG {m:AD} (h:KF m) (h0:m.2.2.2.2.2.2.2.2.2.1≠0):mb (EP m).1:=by
 have h1:=ABo h h0
 unfold Ft at h1
 simp only [AC,decide_eq_true_eq] at h1
 unfold EP
 split
 ·exact ⟨by simp,fun s hs=>by simp at hs; subst hs; exact h1.1.2⟩
 ·exact ⟨by simp,fun s hs=>by simp at hs; subst hs; exact h1.1.2⟩
structure ub (m:AD) (r:AD×List Bl×List DJ):Prop where
 mok:KF r.1
 id:r.1.1=m.1
 ep:m.2.1<=r.1.2.1
 told:fw m r.1 r.2.1
 tlen:r.2.1.length<=4
 said:mb r.2.2
theorem H_ {m:AD} (h:KF m):ub m (m,[],[]):=⟨h,rfl,Int.le_refl _,b8,by simp,Fu⟩
theorem IA (view:List Int) (id:Int):(Ca view id).length<=view.length:=List.length_filter_le _ _
theorem KF.left_filter {m:AD} (h:KF m) (f:Int):KF (tH m f):=by
 refine ⟨h.id,h.ep,h.serves,h.fell,h.waits,rS h.left _,h.items,h.count,?_⟩
 rcases h.task with h1 | h1
 ·left
  unfold KE at h1 ⊢
  simp only [AC,beq_iff_eq] at h1 ⊢
  refine ⟨h1.1,?_⟩
  have h2:=List.length_filter_le (· != f) m.2.2.2.2.2.2.2.2.2.2.2.2.2
  have h3:=h1.2
  show (((m.2.2.2.2.2.2.2.2.2.2.2.2.2.filter (· != f)).length:Nat):Int)=0
  omega
 ·exact .inr h1
theorem ABp {m:AD} {view:List Int} {x:Bl} (hm:KF m) (hv:WOk view) (hx:XOk x) (he:x.2.2.2.1=m.2.1):ub m (X3 m view x):=by
 unfold X3
 split
 ·split
  ·rename_i h1 h2
   simp only [AC,EL] at h2
   refine ⟨hm.has h2.1 h2.2 hx.items,rfl,Int.le_refl _,?_,by simp only [List.length_map]; have:=IA view m.1; have:=hv.len; omega,Fu⟩
   exact jh (n:=XI m view x.2.2.2.2.2) hm.id hm.ep hv.mem (by omega) (by omega) hx.items (by simp)
  ·exact H_ hm
 ·split
  ·split
   ·exact H_ hm
   ·split
    ·exact H_ hm
    ·split
     ·exact ⟨hm,rfl,Int.le_refl _,Sv hm.id hx he (by omega),by simp [Et],Fu⟩
     ·exact ⟨hm.install hm.ep hx.items,rfl,Int.le_refl _,Sv hm.id hx he (by omega),by simp [Et],Fu⟩
  ·split
   ·split
    ·rename_i hl
     refine ⟨⟨hm.id,hm.ep,fun hs=>?_,hm.fell,rS hm.waits _,hm.left,hm.items,hm.count,?_⟩,rfl,Int.le_refl _,b8,by simp,Fu⟩
     ·simp only [AC,beq_iff_eq] at hs
      exact ⟨hs.1,hl,DV.1 (show (List.filter (· != x.2.1) m.2.2.2.2.2.2.1).length=0 by have h:((List.filter (· != x.2.1) m.2.2.2.2.2.2.1).length:Int)=0:=hs.2; omega)⟩
     ·rcases hm.task with h1 | h1
      ·exact .inl h1
      ·right
       have hs:m.2.2.2.2.2.1=true:=by
        unfold Ft at h1
        simp only [AC] at h1
        exact h1.1.1.2
       obtain ⟨a,b,c⟩:=hm.serves hs
       rw [hs] at h1
       simp only [c,List.filter_nil,List.length_nil,a,Bool.true_and]
       exact h1
    ·exact H_ hm
   ·split
    ·split
     ·exact ⟨⟨hm.id,hm.ep,hm.serves,hm.fell,hm.waits,hm.left,rQ hm.items,hm.count,hm.task⟩,rfl,Int.le_refl _,Sv hm.id hx he (by omega),by simp [Et],Fu⟩
     ·exact H_ hm
    ·split
     ·split
      ·exact ⟨hm,rfl,Int.le_refl _,Sv hm.id hx he (by omega),by simp [Et],Fu⟩
      ·exact H_ hm
     ·by_cases hc:(x.1=6\/x.1=8)/\m.2.2.2.2.2.2.2.2.2.1=(if x.1=8 then 2 else 1)/\m.2.2.2.2.2.2.2.2.2.2.2.1=x.2.2.2.2.1
      ·rw [if_pos hc]
       have hn:=hm.left_filter x.2.1
       unfold El
       split
       ·refine ⟨hn.finish,?_,?_,b8,by simp,nG hn ?_⟩
        ·unfold EP; split<;>rfl
        ·unfold EP; split<;>exact Int.le_refl _
        ·have:=hc.2.1
         show m.2.2.2.2.2.2.2.2.2.1≠0
         rw [this]
         split<;>omega
       ·exact ⟨hn,rfl,Int.le_refl _,b8,by simp,Fu⟩
      ·rw [if_neg hc]
       exact H_ hm
theorem XN {m:AD} {views:List (List Int)} {x:Bl} (hm:KF m) (hv:XV views):ub m (Dv m views x):=by
 unfold Dv
 split
 ·rename_i hc
  simp only [AC,decide_eq_true_eq,beq_iff_eq] at hc
  obtain ⟨⟨⟨h1,h2⟩,h3⟩,h4⟩:=hc
  have hx:=ca.1 h1
  have hvl:=hv.len
  have he:=hm.ep
  split
  ·rename_i e
   exact ABp hm (hv.wok (by omega)) hx e
  ·split
   ·refine ⟨hm.bare hx.ep,rfl,h3,fun y hy=>?_,by simp,Fu⟩
    simp only [B5] at hy
    subst hy
    exact ⟨⟨by simp,hm.id,hx.frm,hx.ep,by simp,hm.items,by simp⟩,rfl,rfl⟩
   ·split
    ·exact ⟨hm.install hx.ep hx.items,rfl,h3,Sv hm.id hx rfl (by omega),by simp [Et],Fu⟩
    ·exact H_ hm
 ·exact H_ hm

def KZ:AD:=((0:Int),(0:Int),false,false,false,false,([]:List Int),([]:List AX),(0:Int),(0:Int),(0:Int),(0:Int),(O,O,(0:Int)),([]:List Int))
def X4 (m:AD) (views:List (List Int)) (op call:Int) (key val:ByteArray):Bool :=
 m.2.2.2.2.2.1&&(m.2.2.2.2.2.2.2.2.2.1==0)&&decide (m.2.2.2.2.2.2.2.2.1<900)&&(op==1||op==2)&&(decide (0<=call)&&decide (call<=1000))&&(decide (1<=(key.size:Int))&&decide ((key.size:Int)<=12))&&decide ((val.size:Int)<=20)&&(op==1||vn val)&&decide (m.2.1<=(views.length:Int))&&((views.getD (m.2.1-1).toNat []).getD 0 0==m.1)
def Ka (m:AD) (key val:ByteArray):AX:=(key,val,1000*m.2.1+(m.2.2.2.2.2.2.2.2.1+1))
def I5 (m:AD) (view:List Int) (op call:Int) (key val:ByteArray):AD :=
 (m.1,m.2.1,m.2.2.1,m.2.2.2.1,m.2.2.2.2.1,m.2.2.2.2.2.1,m.2.2.2.2.2.2.1,m.2.2.2.2.2.2.2.1,m.2.2.2.2.2.2.2.2.1+1,op,call,m.2.2.2.2.2.2.2.2.1+1,Ka m key val,HX view m.1)
def sa (m:AD) (view:List Int) (op:Int) (key val:ByteArray):List Bl :=
 (Ca view m.1).map fun v=>(if op=1 then 5 else 7,m.1,v,m.2.1,m.2.2.2.2.2.2.2.2.1+1,if op=1 then [Ka m key val] else [])
def Sw (m:AD) (view:List Int) (op call:Int) (key val:ByteArray):AD×List Bl×List DJ×Bool :=
 if HX view m.1=[] then ((EP (I5 m view op call key val)).2,[],(EP (I5 m view op call key val)).1,true) else (I5 m view op call key val,sa m view op key val,[],true)
def DM (m:AD) (views:List (List Int)) (op call:Int) (key val:ByteArray):AD×List Bl×List DJ×Bool :=
 if X4 m views op call key val=true then
  (if op=1/\Zv (.pair .str (.pair .str (.int .i64))) (Ch (Do m.2.2.2.2.2.2.2.1 (Ka m key val)) key) (Ka m key val)=false then (KZ,[],[],false) else Sw m (views.getD (m.2.1-1).toNat []) op call key val)
 else (KZ,[],[],false)
theorem oo (m:AD) (views:List (List Int)) (op call:Int) (key val:ByteArray) (hm:KF m) (hv:XV views):Xp m views op call key val=some (DM m views op call key val):=uX (by
 have hvl:=hv.len
 have hep:=hm.ep
 have hl:=hm.lens
 have hcnt:=hm.count
 have wm:IntKind.i64.wrap (m.2.1-1)=m.2.1-1:=Ai (by omega)
 have wc:IntKind.i64.wrap (m.2.2.2.2.2.2.2.2.1+1)=m.2.2.2.2.2.2.2.2.1+1:=Ai (by omega)
 have w1:IntKind.i64.wrap (1000*m.2.1)=1000*m.2.1:=Ai (by omega)
 have w2:IntKind.i64.wrap (1000*m.2.1+(m.2.2.2.2.2.2.2.2.1+1))=1000*m.2.1+(m.2.2.2.2.2.2.2.2.1+1):=Ai (by omega)
 unfold jI
 rw [LW hm,Z,if_neg (by simp),Gp hv,Z,if_neg (by simp)]
 have bad:X4 m views op call key val=false->DM m views op call key val=(KZ,[],[],false):=fun h=>by unfold DM; rw [h]; rfl
 by_cases c1:m.2.2.2.2.2.1=true
 case neg =>
  rw [if_pos (by simpa using c1),bad (by unfold X4; simp [c1])]
  rfl
 rw [if_neg (by simpa using c1)]
 by_cases c2:m.2.2.2.2.2.2.2.2.2.1=0
 case neg =>
  rw [if_pos (by simpa using c2),bad (by unfold X4; simp [c2])]
  rfl
 rw [if_neg (by simpa using c2)]
 by_cases c3:m.2.2.2.2.2.2.2.2.1<900
 case neg =>
  rw [if_pos (by simp; omega),bad (by unfold X4; simp [c3])]
  rfl
 rw [if_neg (by simp; omega)]
 have view:∀ (hep2:m.2.1<=(views.length:Int)),1<=(views.getD (m.2.1-1).toNat []).length/\(views.getD (m.2.1-1).toNat []).length<=4:=fun h=>hv.get (by omega)
 have L2:∀ (v:List Int) (hv:v.length<=4) (y:AD) (its:List AX),op=1->En op [] v 0 m y [] (I5 m v op call key val) (Ka m key val) its=some (I5 m v op call key val,sa m v op key val,[],true):=by
  intro v hv y its ho
  have key':=KD (n:=v.length) (P:=fun i=>∀ acc:List Bl,acc.length<=i->En op [] v (i:Int) m y acc (I5 m v op call key val) (Ka m key val) its=some (I5 m v op call key val,acc++((v.drop i).filter (· != m.1)).map (fun v=>((5:Int),m.1,v,m.2.1,m.2.2.2.2.2.2.2.2.1+1,[Ka m key val])),[],true)) (fun acc ha=>Y9 (by
   unfold QT
   rw [if_neg (by simp)]
   simp)) (fun i hi ih acc ha=>Y9 (by
   unfold QT
   simp only [show ((i:Int)<(v.length:Int)) from by omega,decide_true,if_true,show (0:Int)<=(i:Int) from by omega,Ad,AT hi,AQ (show i<9223372036854775807 by omega),ho,beq_self_eq_true]
   rw [ho] at ih
   rw [Am hi,List.filter_cons]
   by_cases hh:v[i]=m.1
   ·rw [if_pos (by simpa using hh),ih _ (by omega),if_neg (by simpa using hh)]
   ·rw [if_neg (by simpa using hh),if_pos (by simp; omega),ih _ (by simp; omega),if_pos (by simpa using hh),List.map_cons,Be]
    rfl)) 0 (by omega) [] (by simp)
  unfold sa
  rw [if_pos ho,if_pos ho]
  exact key'
 have L4:∀ (v:List Int) (hv:v.length<=4) (y:AD),op≠1->Eo op [] v 0 m y [] (I5 m v op call key val) (Ka m key val)=some (I5 m v op call key val,sa m v op key val,[],true):=by
  intro v hv y ho
  have key':=KD (n:=v.length) (P:=fun i=>∀ acc:List Bl,acc.length<=i->Eo op [] v (i:Int) m y acc (I5 m v op call key val) (Ka m key val)=some (I5 m v op call key val,acc++((v.drop i).filter (· != m.1)).map (fun v=>((7:Int),m.1,v,m.2.1,m.2.2.2.2.2.2.2.2.1+1,([]:List AX))),[],true)) (fun acc ha=>Y_ (by
   unfold QU
   rw [if_neg (by simp)]
   simp)) (fun i hi ih acc ha=>Y_ (by
   unfold QU
   have ho':¬ ((op==1)=true):=by simpa using ho
   simp only [show ((i:Int)<(v.length:Int)) from by omega,decide_true,if_true,show (0:Int)<=(i:Int) from by omega,Ad,AT hi,AQ (show i<9223372036854775807 by omega),if_neg ho']
   rw [Am hi,List.filter_cons]
   by_cases hh:v[i]=m.1
   ·rw [if_pos (by simpa using hh),ih _ (by omega),if_neg (by simpa using hh)]
   ·rw [if_neg (by simpa using hh),if_pos (by simp; omega),ih _ (by simp; omega),if_pos (by simpa using hh),List.map_cons,Be]
    rfl)) 0 (by omega) [] (by simp)
  unfold sa
  rw [if_neg ho,if_neg ho]
  exact key'
 have nil_iff:∀ l:List Int,((l.length:Int)==0)=true↔l=[]:=fun l=>by
  rw [beq_iff_eq]
  exact ⟨fun h=>DV.1 (by omega),fun h=>by rw [h]; rfl⟩
 have J1:∀ (b:Bool) (y:AD) (its:List AX),op=1->m.2.1<=(views.length:Int)->QR views op call [] b m y [] (m.1,m.2.1,m.2.2.1,m.2.2.2.1,m.2.2.2.2.1,m.2.2.2.2.2.1,m.2.2.2.2.2.2.1,m.2.2.2.2.2.2.2.1,m.2.2.2.2.2.2.2.2.1+1,m.2.2.2.2.2.2.2.2.2) (Ka m key val) its=some (Sw m (views.getD (m.2.1-1).toNat []) op call key val):=fun b y its ho he=>oF (by
  have:=view he
  unfold Y6 Sw
  rw [wm,if_pos (by omega),if_pos (by omega),KG _ _ (by unfold maxLen; omega),Z]
  by_cases hz:HX (views.getD (m.2.1-1).toNat []) m.1=[]
  ·rw [if_pos ((nil_iff _).2 hz),if_pos hz]
   have:=KH (I5 m (views.getD (m.2.1-1).toNat []) op call key val) (by show m.2.2.2.2.2.2.2.1.length<=_; omega)
   unfold I5 at this
   simp only
   rw [this]
   rfl
  ·rw [if_neg (fun h=>hz ((nil_iff _).1 h)),if_neg hz]
   exact L2 _ (by omega) y its ho)
 have J3:∀ (b:Bool) (y:AD),op≠1->m.2.1<=(views.length:Int)->QS views op call [] b m y [] (m.1,m.2.1,m.2.2.1,m.2.2.2.1,m.2.2.2.2.1,m.2.2.2.2.2.1,m.2.2.2.2.2.2.1,m.2.2.2.2.2.2.2.1,m.2.2.2.2.2.2.2.2.1+1,m.2.2.2.2.2.2.2.2.2) (Ka m key val)=some (Sw m (views.getD (m.2.1-1).toNat []) op call key val):=fun b y ho he=>oG (by
  have:=view he
  unfold Y7 Sw
  rw [wm,if_pos (by omega),if_pos (by omega),KG _ _ (by unfold maxLen; omega),Z]
  by_cases hz:HX (views.getD (m.2.1-1).toNat []) m.1=[]
  ·rw [if_pos ((nil_iff _).2 hz),if_pos hz]
   have:=KH (I5 m (views.getD (m.2.1-1).toNat []) op call key val) (by show m.2.2.2.2.2.2.2.1.length<=_; omega)
   unfold I5 at this
   simp only
   rw [this]
   rfl
  ·rw [if_neg (fun h=>hz ((nil_iff _).1 h)),if_neg hz]
   exact L4 _ (by omega) y ho)
 have J0:∀ (b:Bool) (y:AD),X4 m views op call key val=true->m.2.1<=(views.length:Int)->DH views op call key val [] b m y []=some (DM m views op call key val):=fun b y hmay he=>oH (by
  unfold Y8 DM
  rw [if_pos hmay,hm.copy,Z,wc,w1,w2]
  by_cases ho:op=1
  ·rw [if_pos (by simpa using ho),Na _ _ (by omega),Z,XB _ _ (by have:=vt m.2.2.2.2.2.2.2.1 (key,val,1000*m.2.1+(m.2.2.2.2.2.2.2.2.1+1)); unfold maxLen; omega),Z]
   cases hq:Zv (.pair .str (.pair .str (.int .i64))) (Ch (Do m.2.2.2.2.2.2.2.1 (Ka m key val)) key) (Ka m key val) with
   | false =>
    have hq':Zv AH (Ch (Do m.2.2.2.2.2.2.2.1 (key,val,1000*m.2.1+(m.2.2.2.2.2.2.2.2.1+1))) key) (key,val,1000*m.2.1+(m.2.2.2.2.2.2.2.2.1+1))=false:=hq
    rw [hq',if_pos (show (true != false)=true from rfl),if_pos (show op=1/\false=false from ⟨ho,rfl⟩)]
    rfl
   | true =>
    have hq':Zv AH (Ch (Do m.2.2.2.2.2.2.2.1 (key,val,1000*m.2.1+(m.2.2.2.2.2.2.2.2.1+1))) key) (key,val,1000*m.2.1+(m.2.2.2.2.2.2.2.2.1+1))=true:=hq
    rw [hq',if_neg (show ¬ (true != true)=true by simp),if_neg (show ¬ (op=1/\true=false) by rintro ⟨_,h⟩; cases h)]
    exact J1 _ y _ ho he
  ·rw [if_neg (by simpa using ho),if_neg (fun h=>ho h.1)]
   exact J3 _ y ho he)
 have tail:op=1\/op=2->((AZ call 0 1000).bind fun y3=>(if (!y3)=true then (some (KZ,([]:List Bl),([]:List DJ),false)) else ((AZ (key.size:Int) 1 12).bind fun y4=>(if (!y4)=true then (some (KZ,([]:List Bl),([]:List DJ),false)) else (if (decide ((val.size:Int)>20))=true then (some (KZ,([]:List Bl),([]:List DJ),false)) else (if (op==2)=true then (if (!(val.toList==(⟨#[]⟩:ByteArray).toList))=true then (some (KZ,([]:List Bl),([]:List DJ),false)) else (if (decide (m.2.1>(views.length:Int)))=true then (some (KZ,([]:List Bl),([]:List DJ),false)) else (if 0<=(IntKind.i64.wrap (m.2.1-1)) then (if (IntKind.i64.wrap (m.2.1-1))<(views.length:Int) then (if 0<=(0:Int) then (if (0:Int)<((views.getD (IntKind.i64.wrap (m.2.1-1)).toNat ([]:List Int)).length:Int) then (if (((views.getD (IntKind.i64.wrap (m.2.1-1)).toNat ([]:List Int)).getD (0:Int).toNat 0) != m.1)=true then (some (KZ,([]:List Bl),([]:List DJ),false)) else (DH views op call key val ([]:List DJ) (((views.getD (IntKind.i64.wrap (m.2.1-1)).toNat ([]:List Int)).getD (0:Int).toNat 0) != m.1) m KZ ([]:List Bl))) else none) else none) else none) else none))) else (if (decide (m.2.1>(views.length:Int)))=true then (some (KZ,([]:List Bl),([]:List DJ),false)) else (if 0<=(IntKind.i64.wrap (m.2.1-1)) then (if (IntKind.i64.wrap (m.2.1-1))<(views.length:Int) then (if 0<=(0:Int) then (if (0:Int)<((views.getD (IntKind.i64.wrap (m.2.1-1)).toNat ([]:List Int)).length:Int) then (if (((views.getD (IntKind.i64.wrap (m.2.1-1)).toNat ([]:List Int)).getD (0:Int).toNat 0) != m.1)=true then (some (KZ,([]:List Bl),([]:List DJ),false)) else (DH views op call key val ([]:List DJ) (((views.getD (IntKind.i64.wrap (m.2.1-1)).toNat ([]:List Int)).getD (0:Int).toNat 0) != m.1) m KZ ([]:List Bl))) else none) else none) else none) else none))))))))=some (DM m views op call key val):=by
  intro hop
  rw [Bc,Z,Bc,Z,wm]
  cases c5:(decide (0<=call)&&decide (call<=1000)) with
  | false=>rw [bad (by unfold X4; rw [c5]; simp)]; rfl
  | true =>
  rw [if_neg (by simp)]
  cases c6:(decide (1<=(key.size:Int))&&decide ((key.size:Int)<=12)) with
  | false=>rw [bad (by unfold X4; rw [c6]; simp)]; rfl
  | true =>
  rw [if_neg (by simp)]
  by_cases c7:(val.size:Int)<=20
  case neg=>rw [if_pos (by simp; omega),bad (by unfold X4; simp [c7])]
  rw [if_neg (by simp; omega)]
  have last:(op==1||vn val)=true->(if (decide (m.2.1>(views.length:Int)))=true then (some (KZ,([]:List Bl),([]:List DJ),false)) else (if 0<=m.2.1-1 then (if m.2.1-1<(views.length:Int) then (if 0<=(0:Int) then (if (0:Int)<((views.getD (m.2.1-1).toNat ([]:List Int)).length:Int) then (if (((views.getD (m.2.1-1).toNat ([]:List Int)).getD (0:Int).toNat 0) != m.1)=true then (some (KZ,([]:List Bl),([]:List DJ),false)) else (DH views op call key val ([]:List DJ) (((views.getD (m.2.1-1).toNat ([]:List Int)).getD (0:Int).toNat 0) != m.1) m KZ ([]:List Bl))) else none) else none) else none) else none))=some (DM m views op call key val):=by
   intro c8
   by_cases c9:m.2.1<=(views.length:Int)
   case neg=>rw [if_pos (by simp; omega),bad (by unfold X4; simp [c9])]
   have:=view c9
   rw [if_neg (by simp; omega),if_pos (by omega),if_pos (by omega),if_pos (by omega),if_pos (by omega),show (views.getD (m.2.1-1).toNat ([]:List Int)).getD (0:Int).toNat 0=(views.getD (m.2.1-1).toNat []).getD 0 0 from rfl]
   by_cases c10:(views.getD (m.2.1-1).toNat []).getD 0 0=m.1
   case neg=>rw [if_pos (by simpa using c10),bad (by unfold X4; rw [show ((views.getD (m.2.1-1).toNat []).getD 0 0==m.1)=false from by simpa using c10,Bool.and_false])]
   rw [if_neg (by simpa using c10)]
   refine J0 _ _ ?_ c9
   unfold X4
   rw [c1,c5,c6,c8]
   simp only [c2,beq_self_eq_true,c3,c7,c9,c10,decide_true,Bool.and_true,Bool.true_and]
   rcases hop with h | h<;>simp [h]
  by_cases c8:op=2
  ·rw [if_pos (by simpa using c8)]
   cases ce:vn val with
   | false =>
    rw [if_pos (by rw [mZ,ce]; rfl),bad (by unfold X4; rw [ce,show (op==1)=false from by simp [c8]]; simp)]
   | true =>
    rw [if_neg (by rw [mZ,ce]; simp)]
    exact last (by rw [ce,Bool.or_true])
  ·rw [if_neg (by simpa using c8)]
   exact last (by rw [show (op==1)=true from by simp; omega]; rfl)
 by_cases c4:op=1
 ·rw [if_neg (by simpa using c4)]
  exact tail (.inl c4)
 ·rw [if_pos (by simpa using c4)]
  by_cases c4':op=2
  ·rw [if_neg (by simpa using c4')]
   exact tail (.inr c4')
  ·rw [if_pos (by simpa using c4'),bad (by unfold X4; rw [show (op==1||op==2)=false from by simp [c4,c4']]; simp)]
   rfl)
structure xg (m:AD) (r:AD×List Bl×List DJ×Bool):Prop where
 mok:r.2.2.2=true->KF r.1
 id:r.2.2.2=true->r.1.1=m.1
 ep:r.2.2.2=true->r.1.2.1=m.2.1
 told:r.2.2.2=true->fw m r.1 r.2.1
 tlen:r.2.1.length<=4
 said:mb r.2.2.1
theorem tI {m:AD}:xg m (KZ,[],[],false):=⟨fun h=>(by cases h),fun h=>(by cases h),fun h=>(by cases h),fun h=>(by cases h),by simp,Fu⟩
theorem mc {m:AD} {views:List (List Int)} {op call:Int} {key val:ByteArray} (h:X4 m views op call key val=true) :
  m.2.2.2.2.2.1=true/\m.2.2.2.2.2.2.2.2.2.1=0/\m.2.2.2.2.2.2.2.2.1<900/\(op=1\/op=2)/\(0<=call/\call<=1000)/\(1<=(key.size:Int)/\(key.size:Int)<=12)/\(val.size:Int)<=20/\(op=1\/vn val=true)/\m.2.1<=(views.length:Int)/\(views.getD (m.2.1-1).toNat []).getD 0 0=m.1:=by
 unfold X4 at h
 simp only [AC,Dy,decide_eq_true_eq,beq_iff_eq] at h
 obtain ⟨⟨⟨⟨⟨⟨⟨⟨⟨h1,h2⟩,h3⟩,h4⟩,h5⟩,h6⟩,h7⟩,h8⟩,h9⟩,h10⟩:=h
 exact ⟨h1,h2,h3,h4,h5,h6,h7,h8,h9,h10⟩
theorem vu {m:AD} {key val:ByteArray} (h:KF m) (h3:m.2.2.2.2.2.2.2.2.1<900) (h6:1<=(key.size:Int)/\(key.size:Int)<=12) (h7:(val.size:Int)<=20):BE [Ka m key val]=true:=by
 refine Hf.2 ⟨fun b hb=>?_,?_,by simp⟩
 ·simp only [B5] at hb
  subst hb
  unfold Kt Ka
  have:=h.ep
  have:=h.count
  simp only [AC,decide_eq_true_eq]
  omega
 ·exact tG.2 (by simp)
theorem KF.task1 {m:AD} {view:List Int} {op call:Int} {key val:ByteArray} (h:KF m) (h1:m.2.2.2.2.2.1=true) (h3:m.2.2.2.2.2.2.2.2.1<900) (h4:op=1\/op=2) (h5:0<=call/\call<=1000):KF (I5 m view op call key val):=by
 have hc:=h.count
 refine ⟨h.id,h.ep,h.serves,h.fell,h.waits,X2 _ _,h.items,?_,.inr ?_⟩
 ·show 0<=m.2.2.2.2.2.2.2.2.1+1/\m.2.2.2.2.2.2.2.2.1+1<=900
  omega
 ·unfold Ft I5
  rw [h1]
  simp only [AC,Dy,decide_eq_true_eq,beq_iff_eq]
  exact ⟨⟨⟨h4,trivial⟩,h5⟩,by omega⟩
theorem XO {m:AD} {views:List (List Int)} {op call:Int} {key val:ByteArray} (hm:KF m) (hv:XV views):xg m (DM m views op call key val):=by
 unfold DM
 split
 ·rename_i hmay
  obtain ⟨h1,h2,h3,h4,h5,h6,h7,h8,h9,h10⟩:=mc hmay
  split
  ·exact tI
  ·unfold Sw
   have hep:=hm.ep
   have ht:=hm.task1 (view:=views.getD (m.2.1-1).toNat []) (key:=key) (val:=val) h1 h3 h4 h5
   have h0:(I5 m (views.getD (m.2.1-1).toNat []) op call key val).2.2.2.2.2.2.2.2.2.1≠0:=by show op≠0; omega
   have hw:=hv.wok (i:=(m.2.1-1).toNat) (by omega)
   split
   ·exact ⟨fun _=>ht.finish,fun _=>(by unfold EP; split<;>rfl),fun _=>(by unfold EP; split<;>rfl),fun _=>b8,by simp,nG ht h0⟩
   ·refine ⟨fun _=>ht,fun _=>rfl,fun _=>rfl,fun _=>?_,?_,Fu⟩
    ·unfold sa
     have hc:=hm.count
     have hi:=vu hm h3 h6 h7
     refine jh (n:=I5 m (views.getD (m.2.1-1).toNat []) op call key val) hm.id hm.ep hw.mem (by split<;>omega) (by omega) ?_ ?_
     ·split
      ·exact hi
      ·exact XM
     ·by_cases ho:op=1
      ·rw [if_pos ho,if_pos ho,if_neg (by omega),if_pos rfl]; rfl
      ·rw [if_neg ho,if_neg ho,if_neg (by omega),if_neg (by omega)]
    ·unfold sa
     simp only [List.length_map]
     have:=IA (views.getD (m.2.1-1).toNat []) m.1
     have:=hw.len
     omega
 ·exact tI
def Ly (m:AD) (e:Int):AD:=(m.1,e,false,false,true,false,([]:List Int),m.2.2.2.2.2.2.2.1,(0:Int),(0:Int),(0:Int),(0:Int),(O,O,(0:Int)),([]:List Int))
def FH (m:AD) (views:List (List Int)) (e:Int):AD×List Bl×Bool :=
 if 2<=e/\e<=(views.length:Int)/\m.2.1<e/\(views.getD (e-1).toNat []).getD 0 0=m.1 then
  if (m.2.2.2.1&&(m.2.1==e-1)&&(views.getD (e-2).toNat []).contains m.1)=true then
   (XI (Ly m e) (views.getD (e-1).toNat []) m.2.2.2.2.2.2.2.1,(Ca (views.getD (e-1).toNat []) m.1).map (fun v=>(3,m.1,v,e,0,m.2.2.2.2.2.2.2.1)),true)
  else (Ly m e,(Ca (views.getD (e-2).toNat []) m.1).map (fun v=>(1,m.1,v,e,0,[])),true)
 else (KZ,[],false)
theorem KF.new1 {m:AD} (h:KF m) {e:Int} (he:1<=e/\e<=9):KF (Ly m e) :=
 ⟨h.id,he,fun hs=>(by cases hs),fun hf=>(by cases hf),⟨by simp [Ly],by simp [Ly]⟩,⟨by simp [Ly],by simp [Ly]⟩,h.items,⟨by simp [Ly],by simp [Ly]⟩,.inl cd⟩
theorem oq (m:AD) (views:List (List Int)) (e:Int) (hm:KF m) (hv:XV views):Xq m views e=some (FH m views e):=uY (by
 have hvl:=hv.len
 have hep:=hm.ep
 have hl:=hm.lens
 unfold jJ FH
 rw [LW hm,Z,if_neg (by simp),Gp hv,Z,if_neg (by simp),Bc,Z]
 by_cases h1:2<=e/\e<=(views.length:Int)
 case neg =>
  rw [if_pos (by rw [<- Bool.decide_and,decide_eq_false h1]; rfl),if_neg (fun h=>h1 ⟨h.1,h.2.1⟩)]
  rfl
 have we:IntKind.i64.wrap (e-1)=e-1:=Ai (by omega)
 have we2:IntKind.i64.wrap (e-2)=e-2:=Ai (by omega)
 rw [if_neg (by rw [<- Bool.decide_and,decide_eq_true h1]; simp),we]
 by_cases h2:m.2.1<e
 case neg =>
  rw [if_pos (by simp; omega),if_neg (fun h=>h2 h.2.2.1)]
  rfl
 have g1:=hv.get (i:=(e-1).toNat) (by omega)
 have g2:=hv.get (i:=(e-2).toNat) (by omega)
 rw [if_neg (by simp; omega),if_pos (by omega),if_pos (by omega),if_pos (by omega),if_pos (by omega),show (views.getD (e-1).toNat ([]:List Int)).getD (0:Int).toNat 0=(views.getD (e-1).toNat []).getD 0 0 from rfl]
 by_cases h3:(views.getD (e-1).toNat []).getD 0 0=m.1
 case neg =>
  rw [if_pos (by simpa using h3),if_neg (fun h=>h3 h.2.2.2)]
  rfl
 rw [if_neg (by simpa using h3),if_pos ⟨h1.1,h1.2,h2,h3⟩]
 have L2:∀ y,GJ views e 0 m y [] ([]++m.2.2.2.2.2.2.2.1) (Ly m e)=some (Ly m e,(Ca (views.getD (e-2).toNat []) m.1).map (fun v=>(1,m.1,v,e,0,[])),true):=by
  intro y
  have hcopy:=(hm.new1 (e:=e) (by omega)).copy
  have key':=KD (n:=(views.getD (e-2).toNat []).length) (P:=fun i=>∀ acc:List Bl,acc.length<=i->GJ views e (i:Int) m y acc ([]++m.2.2.2.2.2.2.2.1) (Ly m e)=some (Ly m e,acc++(((views.getD (e-2).toNat []).drop i).filter (· != m.1)).map (fun v=>((1:Int),m.1,v,e,(0:Int),([]:List AX))),true)) (fun acc ha=>ZE (by
   unfold QV
   rw [we2,if_pos (by omega),if_pos (by omega),if_neg (by simp),hcopy]
   simp)) (fun i hi ih acc ha=>ZE (by
   unfold QV
   rw [we2,if_pos (by omega),if_pos (by omega)]
   simp only [show ((i:Int)<((views.getD (e-2).toNat ([]:List Int)).length:Int)) from by omega,decide_true,if_true,show (0:Int)<=(i:Int) from by omega,Ad,AQ (show i<9223372036854775807 by omega),show (0:Int)<=e-2 from by omega,show e-2<(views.length:Int) from by omega]
   rw [AT hi,Am hi,List.filter_cons]
   by_cases hh:((views.getD (e-2).toNat ([]:List Int))[i] != m.1)=true
   ·rw [if_pos hh,if_pos (by simp; omega),ih _ (by simp; omega),if_pos hh,List.map_cons,Be]
    rfl
   ·rw [if_neg hh,ih _ (by omega),if_neg hh])) 0 (by omega) [] (by simp)
  exact key'
 have J1:∀ (b:Bool) y,IE views e b m y []=some (if b=true then (XI (Ly m e) (views.getD (e-1).toNat []) m.2.2.2.2.2.2.2.1,(Ca (views.getD (e-1).toNat []) m.1).map (fun v=>(3,m.1,v,e,0,m.2.2.2.2.2.2.2.1)),true) else (Ly m e,(Ca (views.getD (e-2).toNat []) m.1).map (fun v=>(1,m.1,v,e,0,[])),true)):=fun b y=>oJ (by
  unfold ZB
  rw [we,if_pos (by simp; omega)]
  cases b
  ·rw [if_neg (by simp)]
   exact L2 y
  ·rw [if_pos rfl,if_pos (by omega),if_pos (by omega)]
   have hh:=XL (views.getD (e-1).toNat []) m.2.2.2.2.2.2.2.1 (Ly m e) (by omega) (by omega)
   have hc:=((hm.new1 (e:=e) (by omega)).has (view:=views.getD (e-1).toNat []) (its:=m.2.2.2.2.2.2.2.1) rfl rfl hm.items).copy
   unfold Ly at hh hc ⊢
   simp only [List.nil_append]
   rw [hh,Z,hc]
   rfl)
 refine oK ?_
 unfold ZD
 rw [we,we2,Es _ _ (by unfold maxLen; omega),Z]
 simp only [J1]
 rw [if_pos (show (0:Int)<=e-2 by omega),if_pos (show e-2<(views.length:Int) by omega)]
 cases m.2.2.2.1<;>cases (m.2.1==e-1)<;>cases (views.getD (e-2).toNat ([]:List Int)).contains m.1<;>rfl)
theorem XP {m:AD} {views:List (List Int)} {e:Int} (hm:KF m) (hv:XV views):(FH m views e).2.2=true->KF (FH m views e).1/\(FH m views e).1.1=m.1/\fw m (FH m views e).1 (FH m views e).2.1/\(FH m views e).2.1.length<=4:=by
 intro h
 have hvl:=hv.len
 have hep:=hm.ep
 unfold FH at h ⊢
 split
 ·rename_i hc
  have he:1<=e/\e<=9:=by omega
  split
  ·have hw:=hv.wok (i:=(e-1).toNat) (by omega)
   refine ⟨(hm.new1 he).has rfl rfl hm.items,rfl,jh (n:=XI (Ly m e) (views.getD (e-1).toNat []) m.2.2.2.2.2.2.2.1) hm.id he hw.mem (by omega) (by omega) hm.items (by simp),?_⟩
   simp only [List.length_map]
   have:=IA (views.getD (e-1).toNat []) m.1
   have:=hw.len
   omega
  ·have hw:=hv.wok (i:=(e-2).toNat) (by omega)
   refine ⟨hm.new1 he,rfl,jh (n:=Ly m e) hm.id he hw.mem (by omega) (by omega) XM (by simp),?_⟩
   simp only [List.length_map]
   have:=IA (views.getD (e-2).toNat []) m.1
   have:=hw.len
   omega
 ·rename_i hc
  rw [if_neg hc] at h
  cases h
def ZP (m:AD):AD:=(m.1,m.2.1,true,false,false,false,([]:List Int),([]:List AX),(0:Int),(0:Int),(0:Int),(0:Int),(O,O,(0:Int)),([]:List Int))
theorem sb (m:AD):ae m=some (ZP m):=vm rfl
theorem KF.fall1 {m:AD} (h:KF m):KF (ZP m) :=
 ⟨h.id,h.ep,fun hs=>(by cases hs),fun hf=>⟨rfl,rfl⟩,⟨by simp [ZP],by simp [ZP]⟩,⟨by simp [ZP],by simp [ZP]⟩,XM,⟨by simp [ZP],by simp [ZP]⟩,.inl cd⟩
def HY (id:Int) (views:List (List Int)):AD :=
 (id,(1:Int),false,(views.getD 0 []).contains id,((views.getD 0 []).getD 0 0==id),((views.getD 0 []).getD 0 0==id),([]:List Int),([]:List AX),(0:Int),(0:Int),(0:Int),(0:Int),(O,O,(0:Int)),([]:List Int))
theorem dX (id:Int) (views:List (List Int)) (hi:1<=id/\id<=6) (hv:XV views):OV id views=some (HY id views,true):=ld (by
 have hvl:=hv.len
 have g:=hv.get (i:=0) (by omega)
 unfold Wk
 rw [Gp hv,Z,if_pos (by rfl),Bc,Z,if_neg (by rw [<- Bool.decide_and,decide_eq_true hi]; simp)]
 refine dL ?_
 unfold Q6
 rw [show views.getD (0:Int).toNat ([]:List Int)=views.getD 0 [] from rfl,Es _ _ (by unfold maxLen; omega),Z]
 repeat rw [if_pos (by omega)]
 rfl)
theorem KF.first1 {id:Int} {views:List (List Int)} (hi:1<=id/\id<=6) (hv:XV views):KF (HY id views):=by
 have hvl:=hv.len
 have g:=hv.get (i:=0) (by omega)
 refine ⟨hi,by simp [HY],fun hs=>⟨?_,hs,rfl⟩,fun hf=>(by cases hf),⟨by simp [HY],by simp [HY]⟩,⟨by simp [HY],by simp [HY]⟩,XM,⟨by simp [HY],by simp [HY]⟩,.inl cd⟩
 simp only [HY,beq_iff_eq] at hs ⊢
 rw [<- hs,List.contains_iff_mem,AT (show 0<(views.getD 0 []).length by omega)]
 exact BW _

abbrev Nb:Type:=Int×ByteArray×ByteArray×Int×Int×Int×Int×Int×ByteArray
abbrev Ag:Type:=List (List Int)×List AD×List Bl×List Nb
abbrev BN:Type:=Int×Int×Int×Int×ByteArray×ByteArray
def FI:Nb:=((0:Int),O,O,(0:Int),(0:Int),(0:Int),(0:Int),(0:Int),O)
def Dp:Bl:=((0:Int),(0:Int),(0:Int),(0:Int),(0:Int),([]:List AX))
def Co (g:Ag) (i:Nat):AD:=g.2.1.getD i KZ
theorem ABq (g:Ag) (i:Nat):g.2.1.getD i ((0:Int),(0:Int),false,false,false,false,([]:List Int),([]:List AX),(0:Int),(0:Int),(0:Int),(0:Int),(O,O,(0:Int)),([]:List Int))=Co g i:=rfl
structure Qa (g:Ag) (n:Nat):Prop where
 views:XV g.1
 six:g.2.1.length=6
 mem:∀ i,i<6->KF (Co g i)/\(Co g i).1=(i:Int)+1
 fly:∀ x∈g.2.2.1,XOk x
 flen:g.2.2.1.length<=8*n
 clen:g.2.2.2.length<=n
def XQ (at_:Int) (s:DJ) (c:Nb):Nb :=
 (c.1,c.2.1,c.2.2.1,c.2.2.2.1,at_,s.2.2.2.2.2,s.2.1,s.2.2.1,if (c.1==2)=true then s.2.2.2.2.1 else c.2.2.2.2.2.2.2.2)
def IF (at_:Int) (cs:List Nb) (s:DJ):List Nb :=
 if (decide (s.1>=(cs.length:Int))||decide ((cs.getD s.1.toNat FI).2.2.2.2.1>=0))=true then cs else cs.set s.1.toNat (XQ at_ s (cs.getD s.1.toNat FI))
def FJ (g:Ag) (n:AD) (told:List Bl) (said:List DJ) (at_:Int):Ag :=
 (g.1,g.2.1.set (n.1-1).toNat n,g.2.2.1++told,said.foldl (IF at_) g.2.2.2)
theorem yn (at_:Int) (cs:List Nb) (s:DJ):(IF at_ cs s).length=cs.length:=by unfold IF; split<;>simp
theorem f7 (at_:Int):∀ (said:List DJ) (cs:List Nb),(said.foldl (IF at_) cs).length=cs.length
 | [],cs=>rfl
 | s::l,cs=>by rw [List.foldl_cons,f7 at_ l,yn]
theorem uc {α:Type} {l:List α} {i:Nat} {a d:α} (h:i<l.length):(l.set i a).getD i d=a:=by simp [List.getD,h]
theorem G6 (n:AD) (told:List Bl) (said:List DJ) (at_:Int) (g:Ag) (hn:1<=n.1/\n.1<=6) (h6:g.2.1.length=6) (hf:g.2.2.1.length+told.length<=68719476736) (hc:g.2.2.2.length<=68719476736) (hs:mb said) :
  Fc n told said at_ g=some (FJ g n told said at_):=lf (by
 have hsl:=hs.1
 unfold Wl
 rw [Ai (show -9223372036854775808<=n.1-1/\n.1-1<=9223372036854775807 by omega)]
 simp only [List.nil_append,List.length_nil,Nat.zero_add]
 rw [if_pos (by omega),if_pos (by omega),if_pos (by omega),if_pos (by omega),if_pos (by omega)]
 have key:=KD (n:=said.length) (P:=fun i=>∀ (cs:List Nb),cs.length<=68719476736->Cz said at_ (i:Int) (g.1,g.2.1.set (n.1-1).toNat n,g.2.2.1++told,cs) n (g.2.1.set (n.1-1).toNat n) (g.2.2.1++told)=some (g.1,g.2.1.set (n.1-1).toNat n,g.2.2.1++told,(said.drop i).foldl (IF at_) cs)) (fun cs hcs=>Q_ (by
  unfold J_
  rw [if_neg (by simp)]
  simp)) (fun i hi ih cs hcs=>Q_ (by
  unfold J_
  have hz:said.getD i ((0:Int),(0:Int),(0:Int),O,O,(0:Int))=said[i]:=AT hi
  have h0:=(hs.2 said[i] (BW hi)).1
  simp only [show ((i:Int)<(said.length:Int)) from by omega,decide_true,if_true,show (0:Int)<=(i:Int) from by omega,Ad,hz,AQ (show i<9223372036854775807 by omega)]
  have hz3:cs.getD said[i].1.toNat ((0:Int),O,O,(0:Int),(0:Int),(0:Int),(0:Int),(0:Int),O)=cs.getD said[i].1.toNat FI:=rfl
  rw [Am hi,List.foldl_cons,hz3]
  by_cases c1:said[i].1>=(cs.length:Int)
  ·rw [if_pos (by simpa using c1),ih cs hcs]
   have:IF at_ cs said[i]=cs:=by unfold IF; rw [if_pos (by simp [c1])]
   rw [this]
  ·rw [if_neg (by simpa using c1),if_pos (by omega),if_pos (by omega)]
   by_cases c2:(cs.getD said[i].1.toNat FI).2.2.2.2.1>=0
   ·rw [if_pos (show decide ((cs.getD said[i].1.toNat FI).2.2.2.2.1>=0)=true from decide_eq_true c2),ih cs hcs]
    have:IF at_ cs said[i]=cs:=by unfold IF; rw [if_pos (by rw [decide_eq_true c2,Bool.or_true])]
    rw [this]
   ·rw [if_neg (show ¬ decide ((cs.getD said[i].1.toNat FI).2.2.2.2.1>=0)=true from fun h=>c2 (of_decide_eq_true h))]
    have hcl:said[i].1.toNat<cs.length:=by omega
    have e:IF at_ cs said[i]=cs.set said[i].1.toNat (XQ at_ said[i] (cs.getD said[i].1.toNat FI)):=by unfold IF; rw [if_neg (by rw [decide_eq_false c1,decide_eq_false c2]; simp)]
    rw [e]
    refine dM ?_
    unfold Q9
    have hz2:∀ (l:List Nb),l.getD said[i].1.toNat ((0:Int),O,O,(0:Int),(0:Int),(0:Int),(0:Int),(0:Int),O)=l.getD said[i].1.toNat FI:=fun l=>rfl
    simp only [List.nil_append,List.length_nil,Nat.zero_add,hz2,uc hcl,List.set_set,List.length_set]
    have hk:∀ r,(if cs.length<=68719476736 then r else (none:Option Ag))=r:=fun r=>if_pos hcs
    rw [if_pos (show cs.length<=68719476736 from hcs),if_pos (show (0:Int)<=said[i].1 from h0),if_pos (show said[i].1<(cs.length:Int) by omega),AQ (show i<9223372036854775807 by omega)]
    unfold XQ
    by_cases c3:(cs.getD said[i].1.toNat FI).1=2
    ·rw [if_pos (show ((cs.getD said[i].1.toNat FI).1==2)=true by simpa using c3),if_pos (show ((cs.getD said[i].1.toNat FI).1==2)=true by simpa using c3)]
     exact ih _ (by simpa using hcs)
    ·rw [if_neg (show ¬ ((cs.getD said[i].1.toNat FI).1==2)=true by simpa using c3),if_neg (show ¬ ((cs.getD said[i].1.toNat FI).1==2)=true by simpa using c3)]
     exact ih _ (by simpa using hcs))) 0 (by omega) g.2.2.2 hc
 exact key)
theorem rT {g:Ag} {n:AD} {told:List Bl} {said:List DJ} {at_:Int} {i j:Nat} (h6:g.2.1.length=6) (hj:j<6) (hn:n.1=(i:Int)+1) (hi:i<6):Co (FJ g n told said at_) j=if j=i then n else Co g j:=by
 unfold Co FJ
 simp only [hn,show ((i:Int)+1-1).toNat=i from by omega]
 by_cases e:j=i
 ·subst e
  rw [if_pos rfl]
  exact uc (by omega)
 ·rw [if_neg e]
  simp [List.getD,BD,Ne.symm e]
theorem Qa.member {g:Ag} {k:Nat} (h:Qa g k) {n:AD} {told:List Bl} {said:List DJ} {at_:Int} {i:Nat} (hi:i<6) (hn:KF n) (hid:n.1=(i:Int)+1) (ht:∀ y∈told,XOk y) (hl:told.length<=4):Qa (FJ g n told said at_) (k+1):=by
 refine ⟨h.views,by simp [FJ,h.six],fun j hj=>?_,fun x hx=>?_,?_,?_⟩
 ·rw [rT h.six hj hid hi]
  split
  ·rename_i e
   subst e
   exact ⟨hn,hid⟩
  ·exact h.mem j hj
 ·rcases CZ.1 hx with h1 | h1
  ·exact h.fly x h1
  ·exact ht x h1
 ·have:=h.flen
  simp only [FJ,List.length_append]
  omega
 ·have:=h.clen
  simp only [FJ,f7]
  omega
def Nc (g:Ag) (at_:Int) (e:BN):Ag:=(g.1,g.2.1,g.2.2.1,g.2.2.2++[(e.2.2.2.1,e.2.2.2.2.1,e.2.2.2.2.2,at_,-1,0,0,0,O)])
def KI (g:Ag) (at_:Int) (e:BN):Int×Ag :=
 if (DM (Co g (e.2.1-1).toNat) g.1 e.2.2.2.1 (g.2.2.2.length:Int) e.2.2.2.2.1 e.2.2.2.2.2).2.2.2=true then
  (0,FJ (Nc g at_ e) (DM (Co g (e.2.1-1).toNat) g.1 e.2.2.2.1 (g.2.2.2.length:Int) e.2.2.2.2.1 e.2.2.2.2.2).1 (DM (Co g (e.2.1-1).toNat) g.1 e.2.2.2.1 (g.2.2.2.length:Int) e.2.2.2.2.1 e.2.2.2.2.2).2.1 (DM (Co g (e.2.1-1).toNat) g.1 e.2.2.2.1 (g.2.2.2.length:Int) e.2.2.2.2.1 e.2.2.2.2.2).2.2.1 at_)
 else (1,Nc g at_ e)
theorem ji {e:BN} (h:Su e=true):1<=e.1/\e.1<=6/\1<=e.2.1/\e.2.1<=6/\0<=e.2.2.1:=by
 unfold Su at h
 simp only [AC,decide_eq_true_eq] at h
 omega
theorem AAP {m n:AD} {l:List Bl} (h:fw m n l):∀ y∈l,XOk y:=fun y hy=>(h y hy).1
theorem Qa.began {at_:Int} {e:BN} {g:Ag} {k:Nat} (hg:Qa g k) (hn:1<=e.2.1/\e.2.1<=6):Qa (KI g at_ e).2 (k+1)/\(KI g at_ e).2.1=g.1:=by
 have hc:=hg.clen
 obtain ⟨m1,m2⟩:=hg.mem (e.2.1-1).toNat (by omega)
 have hb:=XO (op:=e.2.2.2.1) (call:=(g.2.2.2.length:Int)) (key:=e.2.2.2.2.1) (val:=e.2.2.2.2.2) m1 hg.views
 refine ⟨?_,?_⟩
 ·unfold KI
  split
  ·rename_i hq
   have hid:=hb.id hq
   have hm:=hg.member (said:=(DM (Co g (e.2.1-1).toNat) g.1 e.2.2.2.1 (g.2.2.2.length:Int) e.2.2.2.2.1 e.2.2.2.2.2).2.2.1) (at_:=at_) (i:=(e.2.1-1).toNat) (by omega) (hb.mok hq) (by rw [hid,m2]) (AAP (hb.told hq)) hb.tlen
   exact ⟨hm.views,hm.six,hm.mem,hm.fly,hm.flen,by simp only [FJ,f7,Nc,List.length_append,List.length_cons,List.length_nil]; omega⟩
  ·exact ⟨hg.views,hg.six,hg.mem,hg.fly,by have:=hg.flen; show g.2.2.1.length<=_; omega,by simp only [Nc,List.length_append,List.length_cons,List.length_nil]; omega⟩
 ·unfold KI; split<;>rfl
theorem f8 (at_:Int) (e:BN) (g:Ag) (k:Nat) (hg:Qa g k) (hk:k<=1000) (hn:1<=e.2.1/\e.2.1<=6):QK at_ e g=some (KI g at_ e)/\Qa (KI g at_ e).2 (k+1)/\(KI g at_ e).2.1=g.1:=by
 have hc:=hg.clen
 have hf:=hg.flen
 have h6:=hg.six
 have wn:IntKind.i64.wrap (e.2.1-1)=e.2.1-1:=Ai (by omega)
 have wl:IntKind.i64.wrap (((g.2.2.2.length+1:Nat):Int)-1)=(g.2.2.2.length:Int):=by rw [Ai (by omega)]; omega
 obtain ⟨m1,m2⟩:=hg.mem (e.2.1-1).toNat (by omega)
 have hb:=XO (op:=e.2.2.2.1) (call:=(g.2.2.2.length:Int)) (key:=e.2.2.2.2.1) (val:=e.2.2.2.2.2) m1 hg.views
 refine ⟨n7 ?_,hg.began hn⟩
 ·unfold Yw KI
  simp only [List.nil_append,List.length_nil,Nat.zero_add,List.length_append,List.length_cons]
  rw [if_pos (by omega),if_pos (by omega),wn,if_pos (by omega),if_pos (by omega),wl,
   ABq g (e.2.1-1).toNat,
   oo _ _ _ _ _ _ m1 hg.views,Z]
  cases hq:(DM (Co g (e.2.1-1).toNat) g.1 e.2.2.2.1 (g.2.2.2.length:Int) e.2.2.2.2.1 e.2.2.2.2.2).2.2.2 with
  | false=>rfl
  | true =>
   have hid:=hb.id hq
   have hmo:=hb.mok hq
   have htl:=hb.tlen
   rw [if_neg (by simp),if_pos rfl]
   have:=G6 (DM (Co g (e.2.1-1).toNat) g.1 e.2.2.2.1 (g.2.2.2.length:Int) e.2.2.2.2.1 e.2.2.2.2.2).1 (DM (Co g (e.2.1-1).toNat) g.1 e.2.2.2.1 (g.2.2.2.length:Int) e.2.2.2.2.1 e.2.2.2.2.2).2.1 (DM (Co g (e.2.1-1).toNat) g.1 e.2.2.2.1 (g.2.2.2.length:Int) e.2.2.2.2.1 e.2.2.2.2.2).2.2.1 at_ (Nc g at_ e) hmo.id h6 (by show g.2.2.1.length+_<=_; omega) (by simp only [Nc,List.length_append,List.length_cons,List.length_nil]; omega) hb.said
   unfold Nc at this ⊢
   rw [this]
   rfl

def HZ (g:Ag) (at_:Int) (m:AD) (node:Int):Nat->Int->Int×Ag
 | 0,_=>(1,g)
 | k+1,e=>if ((g.1.getD (e-1).toNat []).getD 0 0 != node)=true then HZ g at_ m node k (e+1)
  else if (FH m g.1 e).2.2=true then (0,FJ g (FH m g.1 e).1 (FH m g.1 e).2.1 [] at_) else (1,g)
def b9 (g:Ag) (at_ node:Int):Int×Ag:=HZ g at_ (Co g (node-1).toNat) node ((g.1.length:Int)-(Co g (node-1).toNat).2.1).toNat ((Co g (node-1).toNat).2.1+1)
theorem Qa.up {g:Ag} {k:Nat} (h:Qa g k):Qa g (k+1):=⟨h.views,h.six,h.mem,h.fly,by have:=h.flen; omega,by have:=h.clen; omega⟩
theorem Qa.adopted {at_ node:Int} {g:Ag} {k:Nat} (hg:Qa g k) (hn:1<=node/\node<=6):∀ (j:Nat) (e:Int),Qa (HZ g at_ (Co g (node-1).toNat) node j e).2 (k+1)/\(HZ g at_ (Co g (node-1).toNat) node j e).2.1=g.1
 | 0,_=>⟨hg.up,rfl⟩
 | j+1,e=>by
  obtain ⟨m1,m2⟩:=hg.mem (node-1).toNat (by omega)
  unfold HZ
  split
  ·exact Qa.adopted hg hn j (e+1)
  ·split
   ·rename_i hq
    obtain ⟨a1,a2,a3,a4⟩:=XP (e:=e) m1 hg.views hq
    exact ⟨hg.member (i:=(node-1).toNat) (by omega) a1 (by rw [a2,m2]) (AAP a3) a4,rfl⟩
   ·exact ⟨hg.up,rfl⟩
theorem f9 (at_ node:Int) (g:Ag) (k:Nat) (hg:Qa g k) (hk:k<=1000) (hn:1<=node/\node<=6):QL at_ node g=some (b9 g at_ node)/\Qa (b9 g at_ node).2 (k+1)/\(b9 g at_ node).2.1=g.1:=by
 have hc:=hg.clen
 have hf:=hg.flen
 have h6:=hg.six
 have hvl:=hg.views.len
 have wn:IntKind.i64.wrap (node-1)=node-1:=Ai (by omega)
 obtain ⟨m1,m2⟩:=hg.mem (node-1).toNat (by omega)
 have hep:=m1.ep
 have wm:IntKind.i64.wrap ((Co g (node-1).toNat).2.1+1)=(Co g (node-1).toNat).2.1+1:=Ai (by omega)
 have key:∀ (j:Nat) (e:Int),e=(g.1.length:Int)+1-(j:Int)->2<=e->H6 at_ node e g (Co g (node-1).toNat)=some (HZ g at_ (Co g (node-1).toNat) node j e):=by
  intro j
  induction j with
  | zero =>
   intro e he h2
   refine LR ?_
   unfold H7
   rw [if_neg (by simp; omega)]
   rfl
  | succ j ih =>
   intro e he h2
   have we:IntKind.i64.wrap (e-1)=e-1:=Ai (by omega)
   have we2:IntKind.i64.wrap (e+1)=e+1:=Ai (by omega)
   have gv:=hg.views.get (i:=(e-1).toNat) (by omega)
   have ha:=XP (e:=e) m1 hg.views
   have i1:=ih (e+1) (by omega) (by omega)
   unfold HZ
   refine LR ?_
   ·unfold H7
    rw [if_pos (by simp; omega),we,we2,if_pos (by omega),if_pos (by omega),if_pos (by omega),if_pos (by omega),show (g.1.getD (e-1).toNat ([]:List Int)).getD (0:Int).toNat 0=(g.1.getD (e-1).toNat []).getD 0 0 from rfl]
    by_cases h3:((g.1.getD (e-1).toNat []).getD 0 0 != node)=true
    ·rw [if_pos h3,if_pos h3,i1]
    ·rw [if_neg h3,if_neg h3,oq _ _ _ m1 hg.views,Z]
     cases hq:(FH (Co g (node-1).toNat) g.1 e).2.2 with
     | false=>rfl
     | true =>
      obtain ⟨a1,a2,a3,a4⟩:=ha hq
      rw [if_neg (by simp),if_pos rfl,G6 _ _ _ _ _ a1.id h6 (by omega) (by omega) Fu]
      rfl
 have hmain:=key ((g.1.length:Int)-(Co g (node-1).toNat).2.1).toNat ((Co g (node-1).toNat).2.1+1)
 by_cases hle:(Co g (node-1).toNat).2.1<=(g.1.length:Int)
 ·have k1:=hmain (by omega) (by omega)
  refine ⟨Yx ?_,hg.adopted hn _ _⟩
  unfold QP
  rw [wn,if_pos (by omega),if_pos (by omega),ABq g (node-1).toNat,wm]
  exact k1
 ·have e0:((g.1.length:Int)-(Co g (node-1).toNat).2.1).toNat=0:=by omega
  unfold b9
  rw [e0]
  refine ⟨Yx ?_,hg.up,rfl⟩
  unfold QP
  rw [wn,if_pos (by omega),if_pos (by omega),ABq g (node-1).toNat,wm]
  refine LR ?_
  unfold H7
  rw [if_neg (fun h=>hle (by have:=of_decide_eq_true h; omega))]
  rfl
def Nd (g:Ag) (i:Nat):Ag:=(g.1,g.2.1,g.2.2.1.take i++g.2.2.1.drop (i+1),g.2.2.2)
def dY (g:Ag) (at_:Int) (e:BN):Int×Ag :=
 if g.2.2.1=[] then (1,g)
 else if e.1=4 then (0,(g.1,g.2.1,g.2.2.1++[g.2.2.1.getD (e.2.2.1 % (g.2.2.1.length:Int)).toNat Dp],g.2.2.2))
 else if e.1=3 then (0,Nd g (e.2.2.1 % (g.2.2.1.length:Int)).toNat)
 else (0,FJ (Nd g (e.2.2.1 % (g.2.2.1.length:Int)).toNat)
  (Dv (Co g ((g.2.2.1.getD (e.2.2.1 % (g.2.2.1.length:Int)).toNat Dp).2.2.1-1).toNat) g.1 (g.2.2.1.getD (e.2.2.1 % (g.2.2.1.length:Int)).toNat Dp)).1
  (Dv (Co g ((g.2.2.1.getD (e.2.2.1 % (g.2.2.1.length:Int)).toNat Dp).2.2.1-1).toNat) g.1 (g.2.2.1.getD (e.2.2.1 % (g.2.2.1.length:Int)).toNat Dp)).2.1
  (Dv (Co g ((g.2.2.1.getD (e.2.2.1 % (g.2.2.1.length:Int)).toNat Dp).2.2.1-1).toNat) g.1 (g.2.2.1.getD (e.2.2.1 % (g.2.2.1.length:Int)).toNat Dp)).2.2 at_)
theorem Qa.less {g:Ag} {k:Nat} (h:Qa g k) (i:Nat):Qa (Nd g i) k:=by
 refine ⟨h.views,h.six,h.mem,fun x hx=>?_,?_,h.clen⟩
 ·rcases CZ.1 hx with h1 | h1
  ·exact h.fly x (List.mem_of_mem_take h1)
  ·exact h.fly x (List.mem_of_mem_drop h1)
 ·have:=h.flen
  simp only [Nd,List.length_append,List.length_take,List.length_drop]
  omega
theorem Qa.flew {at_:Int} {e:BN} {g:Ag} {k:Nat} (hg:Qa g k):Qa (dY g at_ e).2 (k+1)/\(dY g at_ e).2.1=g.1:=by
 have hc:=hg.clen
 have hf:=hg.flen
 unfold dY
 split
 ·exact ⟨hg.up,rfl⟩
 ·rename_i h0
  have hl:0<g.2.2.1.length:=List.length_pos_iff.2 h0
  have hr0:=Int.emod_nonneg e.2.2.1 (show (g.2.2.1.length:Int)≠0 by omega)
  have hr1:=Int.emod_lt_of_pos e.2.2.1 (show 0<(g.2.2.1.length:Int) by omega)
  generalize hq:e.2.2.1 % (g.2.2.1.length:Int)=q at hr0 hr1
  have hx:=hg.fly (g.2.2.1.getD q.toNat Dp) (by rw [AT (show q.toNat<g.2.2.1.length by omega)]; exact BW _)
  have hto:=hx.to
  obtain ⟨m1,m2⟩:=hg.mem ((g.2.2.1.getD q.toNat Dp).2.2.1-1).toNat (by omega)
  have hh:=XN (x:=g.2.2.1.getD q.toNat Dp) m1 hg.views
  have hless:=hg.less q.toNat
  split
  ·refine ⟨⟨hg.views,hg.six,hg.mem,fun x hx'=>?_,by simp only [List.length_append,List.length_cons,List.length_nil]; omega,by show g.2.2.2.length<=_; omega⟩,rfl⟩
   rcases CZ.1 hx' with h1 | h1
   ·exact hg.fly x h1
   ·simp only [B5] at h1; subst h1; exact hx
  ·split
   ·exact ⟨hless.up,rfl⟩
   ·exact ⟨hless.member (i:=((g.2.2.1.getD q.toNat Dp).2.2.1-1).toNat) (by omega) hh.mok (by rw [hh.id,m2]) (AAP hh.told) hh.tlen,rfl⟩
theorem md (at_:Int) (e:BN) (g:Ag) (k:Nat) (hg:Qa g k) (hk:k<=1000) (hn:0<=e.2.2.1):VP at_ e g=some (dY g at_ e)/\Qa (dY g at_ e).2 (k+1)/\(dY g at_ e).2.1=g.1:=by
 have hc:=hg.clen
 have hf:=hg.flen
 have h6:=hg.six
 have hvl:=hg.views.len
 refine ⟨sR ?_,hg.flew⟩
 by_cases h0:g.2.2.1=[]
 ·unfold dY
  rw [if_pos h0]
  unfold VT
  rw [h0,if_pos (by rfl)]
 ·have hl:0<g.2.2.1.length:=List.length_pos_iff.2 h0
  have hm:Int.tmod e.2.2.1 (g.2.2.1.length:Int)=e.2.2.1 % (g.2.2.1.length:Int):=Int.tmod_eq_emod_of_nonneg hn
  have hr0:=Int.emod_nonneg e.2.2.1 (show (g.2.2.1.length:Int)≠0 by omega)
  have hr1:=Int.emod_lt_of_pos e.2.2.1 (show 0<(g.2.2.1.length:Int) by omega)
  generalize hq:e.2.2.1 % (g.2.2.1.length:Int)=q at hm hr0 hr1
  have hx:=hg.fly (g.2.2.1.getD q.toNat Dp) (by rw [AT (show q.toNat<g.2.2.1.length by omega)]; exact BW _)
  have wq:IntKind.i64.wrap (q+1)=q+1:=Ai (by omega)
  have hto:=hx.to
  have wt:IntKind.i64.wrap ((g.2.2.1.getD q.toNat Dp).2.2.1-1)=(g.2.2.1.getD q.toNat Dp).2.2.1-1:=Ai (by omega)
  obtain ⟨m1,m2⟩:=hg.mem ((g.2.2.1.getD q.toNat Dp).2.2.1-1).toNat (by omega)
  have hh:=XN (x:=g.2.2.1.getD q.toNat Dp) m1 hg.views
  have hless:=hg.less q.toNat
  have hxl:=Ls hx.items
  have hz:g.2.2.1.getD q.toNat ((0:Int),(0:Int),(0:Int),(0:Int),(0:Int),([]:List AX))=g.2.2.1.getD q.toNat Dp:=rfl
  have hz2:∀ i,g.2.1.getD i ((0:Int),(0:Int),false,false,false,false,([]:List Int),([]:List AX),(0:Int),(0:Int),(0:Int),(0:Int),(O,O,(0:Int)),([]:List Int))=Co g i:=fun i=>rfl
  have e1:(g.2.2.1.take q.toNat).drop (0:Int).toNat=g.2.2.1.take q.toNat:=rfl
  have e2:(g.2.2.1.take (g.2.2.1.length:Int).toNat).drop (q+1).toNat=g.2.2.1.drop (q.toNat+1):=by
   rw [show (g.2.2.1.length:Int).toNat=g.2.2.1.length from by omega,List.take_length,show (q+1).toNat=q.toNat+1 from by omega]
  unfold dY
  rw [if_neg h0,hq]
  ·unfold VT
   rw [if_neg (by simp; exact h0),if_neg (by omega),hm,hz,wq,wt,hz2,e1,e2,if_pos hr0,if_pos hr1]
   simp only [List.nil_append,List.length_nil,Nat.zero_add]
   by_cases h4:e.1=4
   ·rw [if_pos (by simpa using h4),if_pos h4,if_pos (by omega),if_pos (by simp; omega)]
   ·rw [if_neg (by simpa using h4),if_neg h4,if_pos (by omega),if_pos hr0,if_pos (by omega),if_pos (by omega),if_pos (by omega),if_pos (by omega),if_pos (by simp; omega),if_pos (by simp; omega)]
    by_cases h3:e.1=3
    ·rw [if_pos (by simpa using h3),if_pos h3]
     rfl
    ·rw [if_neg (by simpa using h3),if_neg h3,if_pos (by omega),if_pos (by omega),jg _ _ _ m1 hg.views (by omega),Z]
     have htl:=hh.tlen
     have:=G6 (Dv (Co g ((g.2.2.1.getD q.toNat Dp).2.2.1-1).toNat) g.1 (g.2.2.1.getD q.toNat Dp)).1 (Dv (Co g ((g.2.2.1.getD q.toNat Dp).2.2.1-1).toNat) g.1 (g.2.2.1.getD q.toNat Dp)).2.1 (Dv (Co g ((g.2.2.1.getD q.toNat Dp).2.2.1-1).toNat) g.1 (g.2.2.1.getD q.toNat Dp)).2.2 at_ (Nd g q.toNat) hh.mok.id h6 (by have:=hless.flen; omega) (by have:=hless.clen; omega) hh.said
     unfold Nd at this ⊢
     rw [this]
     rfl
def ot (g:Ag) (at_:Int) (e:BN):Int×Ag :=
 if e.1=1 then KI g at_ e else if e.1=5 then b9 g at_ e.2.1
 else if e.1=6 then (0,FJ g (ZP (Co g (e.2.1-1).toNat)) [] [] at_) else dY g at_ e
theorem Qa.event {at_:Int} {e:BN} {g:Ag} {k:Nat} (hg:Qa g k) (he:Su e=true):Qa (ot g at_ e).2 (k+1)/\(ot g at_ e).2.1=g.1:=by
 have hn:=ji he
 unfold ot
 split
 ·exact hg.began (by omega)
 ·split
  ·exact hg.adopted (by omega) _ _
  ·split
   ·obtain ⟨m1,m2⟩:=hg.mem (e.2.1-1).toNat (by omega)
    exact ⟨hg.member (i:=(e.2.1-1).toNat) (by omega) m1.fall1 m2 (fun y hy=>by cases hy) (by simp),rfl⟩
   ·exact hg.flew
theorem ou (at_:Int) (e:BN) (g:Ag) (k:Nat) (hg:Qa g k) (hk:k<=1000) (he:Su e=true):Xo at_ e g=some (ot g at_ e)/\Qa (ot g at_ e).2 (k+1)/\(ot g at_ e).2.1=g.1:=by
 have hn:=ji he
 have h6:=hg.six
 have hc:=hg.clen
 have hf:=hg.flen
 refine ⟨uR ?_,hg.event he⟩
 unfold ot
 by_cases h1:e.1=1
 ·have a:=(f8 at_ e g k hg hk (by omega)).1
  rw [if_pos h1]
  unfold NB
  rw [if_pos (by simpa using h1),a]
  rfl
 ·rw [if_neg h1]
  by_cases h5:e.1=5
  ·have a:=(f9 at_ e.2.1 g k hg hk (by omega)).1
   rw [if_pos h5]
   unfold NB
   rw [if_neg (by simpa using h1),if_pos (by simpa using h5),a]
   rfl
  ·rw [if_neg h5]
   by_cases h7:e.1=6
   ·obtain ⟨m1,m2⟩:=hg.mem (e.2.1-1).toNat (by omega)
    rw [if_pos h7]
    have wn:IntKind.i64.wrap (e.2.1-1)=e.2.1-1:=Ai (by omega)
    unfold NB
    rw [if_neg (by simpa using h1),if_neg (by simpa using h5),if_pos (by simpa using h7),wn,if_pos (by omega),if_pos (by omega),
     ABq g (e.2.1-1).toNat,
     sb,Z,G6 _ _ _ _ _ m1.fall1.id h6 (by simp; omega) (by omega) Fu]
    rfl
   ·have a:=(md at_ e g k hg hk (by omega)).1
    rw [if_neg h7]
    unfold NB
    rw [if_neg (by simpa using h1),if_neg (by simpa using h5),if_neg (by simpa using h7),a]
    rfl

theorem Nf (x:List (List Int)) (h:x.length<=1000) (ho:∀ a∈x,a.length<=1000):G1 x=some x:=dJ (by
 unfold Q4
 have key:=KD (n:=x.length) (P:=fun i=>FE x (i:Int) (x.take i)=some x) (NH (by
  unfold H5
  rw [if_neg (by simp),List.take_length])) (fun i hi ih=>NH (by
  unfold H5
  have:=ho x[i] (BW hi)
  simp only [show ((i:Int)<(x.length:Int)) from by omega,decide_true,if_true,show (0:Int)<=(i:Int) from by omega,Ad,AT hi,AQ (show i<9223372036854775807 by omega),List.nil_append,List.length_nil,Nat.zero_add,List.length_cons,List.length_take]
  rw [if_pos (by omega),if_pos (by omega),List.take_append_getElem]
  exact ih)) 0 (by omega)
 exact key)
theorem Zr (x:List Bl) (h:x.length<=100000) (ho:∀ a∈x,a.2.2.2.2.2.length<=1000):K7 x=some x:=fb (by
 unfold Sl
 have key:=KD (n:=x.length) (P:=fun i=>D3 x (i:Int) (x.take i)=some x) (N1 (by
  unfold IY
  rw [if_neg (by simp),List.take_length])) (fun i hi ih=>N1 (by
  unfold IY
  have:=ho x[i] (BW hi)
  simp only [show ((i:Int)<(x.length:Int)) from by omega,decide_true,if_true,show (0:Int)<=(i:Int) from by omega,Ad,AT hi,AQ (show i<9223372036854775807 by omega),List.nil_append,List.length_nil,Nat.zero_add,List.length_cons,List.length_take]
  rw [if_pos (by omega),if_pos (by omega)]
  change D3 x _ (x.take i++[x[i]])=_
  rw [List.take_append_getElem]
  exact ih)) 0 (by omega)
 exact key)
theorem jj (g:Ag) (k:Nat) (hg:Qa g k) (hk:k<=1000):SA g=some g:=qn (by
 have hvl:=hg.views.len
 have hc:=hg.clen
 have hf:=hg.flen
 have h6:=hg.six
 unfold bC
 rw [Nf g.1 (by omega) (fun a ha=>by have:=hg.views.view ha; omega),Z,Zr g.2.2.1 (by omega) (fun a ha=>by have:=Ls (hg.fly a ha).items; omega),Z,if_pos (by simp; omega)]
 have key:∀ (a b c d e:_),Gh ((0:Nat):Int) g.1 g.2.1 g.2.2.1 g.2.2.2 a b c d e [] g.1 g.2.2.1 ([]++g.2.2.2)=some g:=by
  intro a b c d e
  have key':=KD (n:=g.2.1.length) (P:=fun i=>Gh (i:Int) g.1 g.2.1 g.2.2.1 g.2.2.2 a b c d e (g.2.1.take i) g.1 g.2.2.1 ([]++g.2.2.2)=some g) (UZ (by
   unfold NC
   rw [if_neg (by simp),List.take_length]
   rfl)) (fun i hi ih=>UZ (by
   unfold NC
   have hm:=(hg.mem i (by omega)).1
   unfold Co at hm
   rw [AT hi] at hm
   simp only [show ((i:Int)<(g.2.1.length:Int)) from by omega,decide_true,if_true,show (0:Int)<=(i:Int) from by omega,Ad,AT hi,hm.copy,Z,AQ (show i<9223372036854775807 by omega),List.length_take,List.length_cons,List.length_nil]
   rw [if_pos (by omega),List.take_append_getElem]
   exact ih)) 0 (by omega)
  exact key'
 exact key _ _ _ _ _)
def Au (views:List (List Int)):Ag:=(views,[HY 1 views,HY 2 views,HY 3 views,HY 4 views,HY 5 views,HY 6 views],[],[])
theorem cf {views:List (List Int)} (hv:XV views):Qa (Au views) 0:=by
 refine ⟨hv,rfl,fun i hi=>?_,fun x hx=>(by cases hx),(by simp [Au]),(by simp [Au])⟩
 have h5:i=0\/i=1\/i=2\/i=3\/i=4\/i=5:=by omega
 rcases h5 with rfl | rfl | rfl | rfl | rfl | rfl<;>exact ⟨KF.first1 (by omega) hv,rfl⟩
theorem jk {views:List (List Int)} (hv:XV views):QJ views=some (Au views,true):=n6 (by
 have hvl:=hv.len
 unfold Yu
 rw [Gp hv,Z,if_neg (by simp),Nf views (by omega) (fun a ha=>by have:=hv.view ha; omega),Z]
 have step:∀ (i:Nat) (a:_) (b:_) (c:_) (d:_) (l:List AD) r,1<=i->i<=6->l.length<=6->Fq views ((i+1:Nat):Int) a b c d (l++[HY (i:Int) views]) views=some r->Fq views (i:Int) a b c d l views=some r:=by
  intro i a b c d l r h1 h6 hl hr
  refine Sg ?_
  unfold LP
  rw [if_pos (by simp; omega),dX _ _ (by omega) hv,Z,if_pos (by simp; omega),AQ (show i<9223372036854775807 by omega)]
  exact hr
 refine step 1 _ _ _ _ _ _ (by omega) (by omega) (by simp) ?_
 refine step 2 _ _ _ _ _ _ (by omega) (by omega) (by simp) ?_
 refine step 3 _ _ _ _ _ _ (by omega) (by omega) (by simp) ?_
 refine step 4 _ _ _ _ _ _ (by omega) (by omega) (by simp) ?_
 refine step 5 _ _ _ _ _ _ (by omega) (by omega) (by simp) ?_
 refine step 6 _ _ _ _ _ _ (by omega) (by omega) (by simp) ?_
 refine Sg ?_
 unfold LP
 rw [if_neg (by decide)]
 rfl)
def Gv:Nat->List BN->Ag->List Int->Ag×List Int
 | _,[],g,cs=>(g,cs)
 | n,e::es,g,cs=>Gv (n+1) es (ot g (n:Int) e).2 (cs++[(ot g (n:Int) e).1])
theorem pC:∀ (es:List BN) (n:Nat) (g:Ag) (cs:List Int),Qa g n->n+es.length<=70->(∀ e∈es,Su e=true)->Qa (Gv n es g cs).1 (n+es.length)/\(Gv n es g cs).1.1=g.1/\(Gv n es g cs).2.length=cs.length+es.length
 | [],n,g,cs,hg,_,_=>⟨hg,rfl,rfl⟩
 | e::es,n,g,cs,hg,hn,he=>by
  simp only [List.length_cons] at hn
  obtain ⟨h2,h3⟩:=hg.event (at_:=(n:Int)) (he e (by simp))
  obtain ⟨h4,h5,h6⟩:=pC es (n+1) _ (cs++[(ot g (n:Int) e).1]) h2 (by omega) (fun x hx=>he x (by simp [hx]))
  refine ⟨?_,h5.trans h3,?_⟩
  ·have:n+(e::es).length=n+1+es.length:=by simp only [List.length_cons]; omega
   rw [this]
   exact h4
  ·simp only [Gv,h6,List.length_append,List.length_cons,List.length_nil]
   omega
theorem jl {views:List (List Int)} {events:List BN} (hv:XV views) (hl:events.length<=70) (he:∀ e∈events,Su e=true) :
  QF views events=some ((Gv 0 events (Au views) []).1,(Gv 0 events (Au views) []).2,true):=nx (by
 have hg:=cf hv
 obtain ⟨r1,r2,r3⟩:=pC events 0 (Au views) [] hg (by omega) he
 unfold Yp
 rw [jk hv,Z]
 have L3:∀ y,Fm events ((0:Nat):Int) y (Au views) []=some ((Gv 0 events (Au views) []).1,(Gv 0 events (Au views) []).2,true):=by
  intro y
  have key:=KD (n:=events.length) (P:=fun i=>∀ (g:Ag) (cs:List Int),Qa g i->cs.length=i->Gv i (events.drop i) g cs=Gv 0 events (Au views) []->Fm events (i:Int) y g cs=some ((Gv 0 events (Au views) []).1,(Gv 0 events (Au views) []).2,true)) (fun g cs hgi hcs hr=>ST (by
   unfold LE
   rw [if_neg (by simp),jj g events.length hgi (by omega),Z]
   rw [List.drop_eq_nil_of_le (Nat.le_refl _)] at hr
   rw [<- hr]
   rfl)) (fun i hi ih g cs hgi hcs hr=>ST (by
   unfold LE
   obtain ⟨d1,d2,_⟩:=ou (i:Int) events[i] g i hgi (by omega) (he _ (BW hi))
   simp only [show ((i:Int)<(events.length:Int)) from by omega,decide_true,if_true,show (0:Int)<=(i:Int) from by omega,Ad,AT hi,d1,Z,AQ (show i<9223372036854775807 by omega)]
   rw [if_pos (by simp; omega)]
   refine ih _ _ d2 (by simp; omega) ?_
   rw [Am hi] at hr
   exact hr)) 0 (by omega) (Au views) [] hg rfl rfl
  exact key
 have L0:∀ y,EE events true ((0:Nat):Int) y (Au views)=some ((Gv 0 events (Au views) []).1,(Gv 0 events (Au views) []).2,true):=by
  intro y
  have J2:Hw events true y (Au views)=some ((Gv 0 events (Au views) []).1,(Gv 0 events (Au views) []).2,true):=fC (by
   unfold SS
   rw [if_neg (by simp)]
   exact L3 y)
  refine KD (n:=events.length) (P:=fun i=>EE events true (i:Int) y (Au views)=some ((Gv 0 events (Au views) []).1,(Gv 0 events (Au views) []).2,true)) (SU (by
   unfold LF
   rw [if_neg (by simp)]
   exact J2)) (fun i hi ih=>SU (by
   unfold LF
   rw [if_pos (by simpa using hi),if_pos rfl]
   refine fB ?_
   unfold SQ
   have hz:events.getD i ((0:Int),(0:Int),(0:Int),(0:Int),O,O)=events[i]:=AT hi
   rw [if_pos (by simp; omega),if_pos (by omega),if_pos (by omega),Ad,hz,U8,he _ (BW hi),Z,AQ (show i<9223372036854775807 by omega)]
   exact ih)) 0 (by omega)
 exact L0 _)





def pD (views:List (List Int)) (e:Int):Int:=(views.getD (e-1).toNat []).getD 0 0
def P5 (l:List AX) (b:Int):Prop:=∀ y∈l,y.2.2<=b
theorem P5.mono {l:List AX} {a b:Int} (h:P5 l a) (hab:a<=b):P5 l b:=fun y hy=>Int.le_trans (h y hy) hab
theorem me {b:Int}:P5 [] b:=fun y hy=>by cases hy
theorem vv {x:List AX} {a b:AX} (h:b∈Do x a):b=a\/b∈x:=by
 unfold Do at h
 split at h
 ·exact .inr h
 ·split at h
  ·split at h
   ·exact vq h
   ·exact .inr h
  ·exact .inr h
theorem P5.put {l:List AX} {a:AX} {b:Int} (h:P5 l b) (ha:a.2.2<=b):P5 (Do l a) b:=fun y hy=>by
 rcases vv hy with e | e
 ·rw [e]; exact ha
 ·exact h y e
structure V1 (views:List (List Int)) (m:AD):Prop where
 lead:m.2.2.2.2.1=true->m.2.1<=(views.length:Int)/\pD views m.2.1=m.1
 ver:P5 m.2.2.2.2.2.2.2.1 (1000*m.2.1+900)
 own:m.2.2.2.2.1=true->m.2.2.2.1=true->P5 m.2.2.2.2.2.2.2.1 (1000*m.2.1+m.2.2.2.2.2.2.2.2.1)
 task:m.2.2.2.2.2.2.2.2.2.1≠0->m.2.2.2.2.2.2.2.2.2.2.2.2.1.2.2<=1000*m.2.1+m.2.2.2.2.2.2.2.2.1
 view:m.2.2.2.1=true->m.2.1<=(views.length:Int)/\(views.getD (m.2.1-1).toNat []).contains m.1=true
structure V2 (views:List (List Int)) (x:Bl):Prop where
 inst:x.1=3->x.2.2.2.2.1=0
 old:x.1=2\/x.1=3->P5 x.2.2.2.2.2 (1000*x.2.2.2.1)
 store:x.1=5->x.2.2.1≠pD views x.2.2.2.1/\P5 x.2.2.2.2.2 (1000*x.2.2.2.1+900)
theorem V2.plain {views:List (List Int)} {x:Bl} (h2:x.1≠2) (h3:x.1≠3) (h5:x.1≠5):V2 views x:=⟨fun h=>absurd h h3,fun h=>by omega,fun h=>absurd h h5⟩
theorem V1.finish {views:List (List Int)} {m:AD} (h:V1 views m) (hc:m.2.2.2.2.2.2.2.2.1<=900) (h0:m.2.2.2.2.2.2.2.2.2.1≠0):V1 views (EP m).2:=by
 have ht:=h.task h0
 unfold EP
 split
 ·exact ⟨h.lead,h.ver.put (by omega),fun h1 h2=>(h.own h1 h2).put ht,fun h0=>absurd rfl h0,h.view⟩
 ·exact ⟨h.lead,h.ver,h.own,fun h0=>absurd rfl h0,h.view⟩
theorem V1.bare {views:List (List Int)} {m:AD} (h:V1 views m) {e:Int} (he:m.2.1<=e):V1 views (XJ m e) :=
 ⟨fun h=>(by cases h),h.ver.mono (by show _<=1000*e+900; omega),fun h=>(by cases h),fun h=>absurd rfl h,fun h=>(by cases h)⟩
theorem V1.inst {views:List (List Int)} {i e:Int} {its:List AX} (h:P5 its (1000*e)) (hv:e<=(views.length:Int)/\(views.getD (e-1).toNat []).contains i=true):V1 views (i,e,false,true,false,false,([]:List Int),its,(0:Int),(0:Int),(0:Int),(0:Int),(O,O,(0:Int)),([]:List Int)) :=
 ⟨fun h=>(by cases h),h.mono (by show _<=1000*e+900; omega),fun h=>(by cases h),fun h=>absurd rfl h,fun _=>hv⟩
theorem AAQ {views:List (List Int)} {i e:Int} (hv:XV views) (h1:1<=e) (he:e<=(views.length:Int)) (hf:pD views e=i):(views.getD (e-1).toNat []).contains i=true:=by
 have g:=hv.get (i:=(e-1).toNat) (by omega)
 rw [<- hf,List.contains_iff_mem,pD,AT (show 0<(views.getD (e-1).toNat []).length by omega)]
 exact BW _
theorem V1.has {views:List (List Int)} {m:AD} {view:List Int} {its:List AX} (hv:XV views) (h1:1<=m.2.1) (hl:m.2.2.2.2.1=true) (h:V1 views m) (hc:0<=m.2.2.2.2.2.2.2.2.1) (hi:P5 its (1000*m.2.1)):V1 views (XI m view its) :=
 ⟨h.lead,hi.mono (by show _<=1000*m.2.1+900; omega),fun _ _=>hi.mono (by show _<=1000*m.2.1+m.2.2.2.2.2.2.2.2.1; omega),h.task,fun _=>⟨(h.lead hl).1,AAQ hv h1 (h.lead hl).1 (h.lead hl).2⟩⟩
theorem V2.insts {views:List (List Int)} {i e:Int} {l:List Int} {its:List AX} (h:P5 its (1000*e)):∀ y∈l.map (fun v=>((3:Int),i,v,e,(0:Int),its)),V2 views y:=by
 intro y hy
 obtain ⟨v,_,rfl⟩:=List.mem_map.1 hy
 exact ⟨fun _=>rfl,fun _=>h,fun h5=>absurd h5 (by decide:(3:Int)≠5)⟩
theorem V2.reply {views:List (List Int)} {m:AD} {x:Bl} {k:Int} (hk:k=4\/k=6\/k=8):∀ y∈Et m x k,V2 views y:=by
 intro y hy
 simp only [Et,B5] at hy
 subst hy
 exact V2.plain (by show k≠2; omega) (by show k≠3; omega) (by show k≠5; omega)
theorem xh {views:List (List Int)}:∀ y∈([]:List Bl),V2 views y:=fun y hy=>by cases hy
def V4 (views:List (List Int)) (n:AD) (told:List Bl):Prop:=V1 views n/\∀ y∈told,V2 views y
theorem V4.same {views:List (List Int)} {m:AD} (h:V1 views m):V4 views m []:=⟨h,xh⟩
theorem AAR {views:List (List Int)} {m:AD} (h:V1 views m) (hc:m.2.2.2.2.2.2.2.2.1<=900) (h0:m.2.2.2.2.2.2.2.2.2.1≠0) (f:Int):V4 views (El m f).1 (El m f).2.1:=by
 have hl:V1 views (tH m f):=⟨h.lead,h.ver,h.own,h.task,h.view⟩
 unfold El
 split
 ·exact ⟨hl.finish hc h0,xh⟩
 ·exact .same hl
theorem ADG {views:List (List Int)} {m:AD} {x:Bl} (hv:XV views) (hlen:m.2.1<=(views.length:Int)) (hm:KF m) (h:V1 views m) (hx:V2 views x) (hxo:XOk x) (ht:x.2.2.1=m.1) (he:x.2.2.2.1=m.2.1):V4 views (X3 m (views.getD (m.2.1-1).toNat []) x).1 (X3 m (views.getD (m.2.1-1).toNat []) x).2.1:=by
 have hcnt:=hm.count
 unfold X3
 by_cases k2:x.1=2
 ·rw [if_pos k2]
  split
  ·rename_i hc
   simp only [AC] at hc
   have:=hx.old (.inl k2)
   rw [he] at this
   exact ⟨V1.has hv hm.ep.1 hc.1 h hcnt.1 this,V2.insts this⟩
  ·exact .same h
 rw [if_neg k2]
 by_cases k3:x.1=3
 ·rw [if_pos k3]
  split
  ·exact .same h
  ·rename_i hc
   split
   ·exact .same h
   ·split
    ·exact ⟨h,V2.reply (.inl rfl)⟩
    ·have:=hx.old (.inr k3)
     rw [he] at this
     refine ⟨V1.inst this ⟨hlen,?_⟩,V2.reply (.inl rfl)⟩
     cases q:(views.getD (m.2.1-1).toNat []).contains m.1 with
     | true=>rfl
     | false=>rw [q] at hc; exact absurd rfl hc
 rw [if_neg k3]
 by_cases k4:x.1=4
 ·rw [if_pos k4]
  split
  ·exact .same ⟨h.lead,h.ver,h.own,h.task,h.view⟩
  ·exact .same h
 rw [if_neg k4]
 by_cases k5:x.1=5
 ·rw [if_pos k5]
  split
  ·obtain ⟨s1,s2⟩:=hx.store k5
   have hlen:x.2.2.2.2.2.length=1:=by
    have:=hxo.shape
    rw [if_neg (by omega),if_pos k5] at this
    exact this
   have hit:(x.2.2.2.2.2.getD 0 (O,O,(0:Int))).2.2<=1000*m.2.1+900:=by
    rw [AT (show 0<x.2.2.2.2.2.length by omega),<- he]
    exact s2 _ (BW _)
   refine ⟨⟨h.lead,h.ver.put hit,fun h1 h2=>?_,h.task,h.view⟩,V2.reply (.inr (.inl rfl))⟩
   exact absurd (h.lead h1).2 (by rw [<- he,<- ht]; exact Ne.symm s1)
  ·exact .same h
 rw [if_neg k5]
 by_cases k7:x.1=7
 ·rw [if_pos k7]
  split
  ·exact ⟨h,V2.reply (.inr (.inr rfl))⟩
  ·exact .same h
 rw [if_neg k7]
 by_cases hc:(x.1=6\/x.1=8)/\m.2.2.2.2.2.2.2.2.2.1=(if x.1=8 then 2 else 1)/\m.2.2.2.2.2.2.2.2.2.2.2.1=x.2.2.2.2.1
 ·rw [if_pos hc]
  exact AAR h hcnt.2 (by have:=hc.2.1; split at this<;>omega) _
 ·rw [if_neg hc]
  exact .same h
theorem ACl {views:List (List Int)} {m:AD} {x:Bl} (hv:XV views) (hm:KF m) (h:V1 views m) (hx:V2 views x):V4 views (Dv m views x).1 (Dv m views x).2.1:=by
 unfold Dv
 split
 ·rename_i hc
  simp only [AC,decide_eq_true_eq,beq_iff_eq] at hc
  obtain ⟨⟨⟨hmo,h1⟩,h2⟩,h3⟩:=hc
  split
  ·rename_i he
   exact ADG hv (by omega) hm h hx (ca.1 hmo) h1 he
  ·split
   ·rename_i hs
    simp only [AC,beq_iff_eq] at hs
    refine ⟨h.bare h2,fun y hy=>?_⟩
    simp only [B5] at hy
    subst hy
    refine ⟨fun h3=>absurd h3 (by decide:(2:Int)≠3),fun _=>h.ver.mono ?_,fun h5=>absurd h5 (by decide:(2:Int)≠5)⟩
    show _<=1000*x.2.2.2.1
    omega
   ·split
    ·rename_i hs
     simp only [AC,beq_iff_eq] at hs
     exact ⟨V1.inst (hx.old (.inr hs.1.1)) ⟨h3,hs.1.2⟩,V2.reply (.inl rfl)⟩
    ·exact .same h
 ·exact .same h
theorem ABr {view:List Int} {i v:Int} (h:v∈Ca view i):v≠i:=by
 have:=(List.mem_filter.1 h).2
 simpa using this
theorem ABs {views:List (List Int)} {m:AD} {op call:Int} {key val:ByteArray} (hm:KF m) (h:V1 views m) (hb:(DM m views op call key val).2.2.2=true) :
  V4 views (DM m views op call key val).1 (DM m views op call key val).2.1:=by
 have hcnt:=hm.count
 unfold DM at hb ⊢
 split at hb
 ·rename_i hmay
  rw [if_pos hmay]
  obtain ⟨h1,h2,h3,h4,h5,h6,h7,h8,h9,h10⟩:=mc hmay
  split at hb
  ·cases hb
  ·rename_i hn
   rw [if_neg hn]
   have ht:V1 views (I5 m (views.getD (m.2.1-1).toNat []) op call key val):=by
    refine ⟨h.lead,h.ver,fun a b=>(h.own a b).mono ?_,fun _=>?_,h.view⟩
    ·show _<=1000*m.2.1+(m.2.2.2.2.2.2.2.2.1+1); omega
    ·show 1000*m.2.1+(m.2.2.2.2.2.2.2.2.1+1)<=1000*m.2.1+(m.2.2.2.2.2.2.2.2.1+1); omega
   unfold Sw
   split
   ·exact ⟨ht.finish (by show m.2.2.2.2.2.2.2.2.1+1<=900; omega) (by show op≠0; omega),xh⟩
   ·refine ⟨ht,fun y hy=>?_⟩
    obtain ⟨v,hv,rfl⟩:=List.mem_map.1 hy
    have hne:=ABr hv
    by_cases ho:op=1
    ·rw [if_pos ho,if_pos ho]
     refine ⟨fun h3=>absurd h3 (by decide:(5:Int)≠3),fun h=>absurd h (by decide:¬ ((5:Int)=2\/(5:Int)=3)),fun _=>⟨fun e=>hne (e.trans ?_),fun z hz=>?_⟩⟩
     ·exact h10
     ·simp only [B5] at hz
      subst hz
      show 1000*m.2.1+(m.2.2.2.2.2.2.2.2.1+1)<=1000*m.2.1+900
      omega
    ·rw [if_neg ho,if_neg ho]
     exact V2.plain (by decide:(7:Int)≠2) (by decide:(7:Int)≠3) (by decide:(7:Int)≠5)
 ·cases hb
theorem ABt {views:List (List Int)} {m:AD} {e:Int} (hvo:XV views) (h:V1 views m) (hb:(FH m views e).2.2=true):V4 views (FH m views e).1 (FH m views e).2.1:=by
 unfold FH at hb ⊢
 split at hb
 ·rename_i hc
  rw [if_pos hc]
  have hv:P5 m.2.2.2.2.2.2.2.1 (1000*e):=h.ver.mono (by omega)
  have hn:V1 views (Ly m e):=⟨fun _=>⟨hc.2.1,hc.2.2.2⟩,hv.mono (by show _<=1000*e+900; omega),fun _ h=>(by cases h),fun h=>absurd rfl h,fun h=>(by cases h)⟩
  split
  ·exact ⟨V1.has hvo (by show 1<=e; omega) rfl hn (by show (0:Int)<=0; omega) hv,V2.insts hv⟩
  ·refine ⟨hn,fun y hy=>?_⟩
   obtain ⟨v,hv,rfl⟩:=List.mem_map.1 hy
   exact V2.plain (by decide:(1:Int)≠2) (by decide:(1:Int)≠3) (by decide:(1:Int)≠5)
 ·cases hb
theorem V1.fall {views:List (List Int)} {m:AD}:V1 views (ZP m):=⟨fun h=>(by cases h),me,fun h=>(by cases h),fun h=>absurd rfl h,fun h=>(by cases h)⟩
theorem V1.first {views:List (List Int)} {i:Int} (hv:XV views):V1 views (HY i views):=by
 have:=hv.len
 refine ⟨fun h=>⟨by show (1:Int)<=_; omega,?_⟩,me,fun _ _=>me,fun h=>absurd rfl h,fun h=>⟨by show (1:Int)<=_; omega,h⟩⟩
 exact beq_iff_eq.1 h
structure V3 (g:Ag):Prop where
 mem:∀ i,i<6->V1 g.1 (Co g i)
 fly:∀ x∈g.2.2.1,V2 g.1 x
 calls:∀ c∈g.2.2.2,c.2.2.2.2.1=-1\/0<=c.2.2.2.2.1
theorem wz {at_:Int} (ha:0<=at_) (s:DJ) {cs:List Nb} (h:∀ c∈cs,c.2.2.2.2.1=-1\/0<=c.2.2.2.2.1):∀ c∈IF at_ cs s,c.2.2.2.2.1=-1\/0<=c.2.2.2.2.1:=by
 unfold IF
 split
 ·exact h
 ·intro c hc
  rcases List.mem_or_eq_of_mem_set hc with e | e
  ·exact h c e
  ·rw [e]; exact .inr ha
theorem nH {at_:Int} (ha:0<=at_):∀ (said:List DJ) {cs:List Nb},(∀ c∈cs,c.2.2.2.2.1=-1\/0<=c.2.2.2.2.1)->∀ c∈said.foldl (IF at_) cs,c.2.2.2.2.1=-1\/0<=c.2.2.2.2.1
 | [],_,h=>h
 | s::l,_,h=>nH ha l (wz ha s h)
theorem V3.member {g:Ag} (h:V3 g) (h6:g.2.1.length=6) {n:AD} {told:List Bl} {said:List DJ} {at_:Int} {i:Nat} (ha:0<=at_) (hi:i<6) (hid:n.1=(i:Int)+1) (hn:V4 g.1 n told):V3 (FJ g n told said at_):=by
 refine ⟨fun j hj=>?_,fun x hx=>?_,nH ha said h.calls⟩
 ·rw [rT h6 hj hid hi]
  split
  ·exact hn.1
  ·exact h.mem j hj
 ·rcases CZ.1 hx with h1 | h1
  ·exact h.fly x h1
  ·exact hn.2 x h1
theorem V3.less {g:Ag} (h:V3 g) (i:Nat):V3 (Nd g i):=⟨h.mem,fun x hx=>by
 rcases CZ.1 hx with h1 | h1
 ·exact h.fly x (List.mem_of_mem_take h1)
 ·exact h.fly x (List.mem_of_mem_drop h1),h.calls⟩
theorem V3.call {g:Ag} (h:V3 g) (at_:Int) (e:BN):V3 (Nc g at_ e):=⟨h.mem,h.fly,fun c hc=>by
 rcases CZ.1 hc with h1 | h1
 ·exact h.calls c h1
 ·simp only [B5] at h1
  rw [h1]; exact .inl rfl⟩
theorem V3.adopt {g:Ag} {k:Nat} (h:V3 g) (hg:Qa g k) {at_ node:Int} (ha:0<=at_) (hn:1<=node/\node<=6):∀ (n:Nat) (e:Int),V3 (HZ g at_ (Co g (node-1).toNat) node n e).2
 | 0,_=>h
 | n+1,e=>by
  unfold HZ
  split
  ·exact V3.adopt h hg ha hn n (e+1)
  ·split
   ·rename_i hb
    obtain ⟨m1,m2⟩:=hg.mem (node-1).toNat (by omega)
    have hao:=XP (e:=e) m1 hg.views hb
    exact h.member hg.six (i:=(node-1).toNat) ha (by omega) (by rw [hao.2.1,m2]) (ABt hg.views (h.mem _ (by omega)) hb)
   ·exact h
theorem V3.event {g:Ag} {k:Nat} (h:V3 g) (hg:Qa g k) {at_:Int} (ha:0<=at_) {e:BN} (he:Su e=true):V3 (ot g at_ e).2:=by
 have hn:=ji he
 unfold ot
 split
 ·unfold KI
  split
  ·rename_i hb
   obtain ⟨m1,m2⟩:=hg.mem (e.2.1-1).toNat (by omega)
   have hbo:=XO (op:=e.2.2.2.1) (call:=(g.2.2.2.length:Int)) (key:=e.2.2.2.2.1) (val:=e.2.2.2.2.2) m1 hg.views
   exact (h.call at_ e).member (g:=Nc g at_ e) hg.six (i:=(e.2.1-1).toNat) ha (by omega) (by rw [hbo.id hb,m2]) (ABs m1 (h.mem _ (by omega)) hb)
  ·exact h.call at_ e
 ·split
  ·exact h.adopt hg ha (by omega) _ _
  ·split
   ·obtain ⟨m1,m2⟩:=hg.mem (e.2.1-1).toNat (by omega)
    exact h.member hg.six (i:=(e.2.1-1).toNat) ha (by omega) m2 ⟨V1.fall,xh⟩
   ·unfold dY
    split
    ·exact h
    ·rename_i hne
     have hl:0<g.2.2.1.length:=by
      cases hq:g.2.2.1 with
      | nil=>exact absurd hq hne
      | cons a l=>simp
     have hlt:(e.2.2.1 % (g.2.2.1.length:Int)).toNat<g.2.2.1.length:=by
      have h1:=Int.emod_lt_of_pos e.2.2.1 (show (0:Int)<(g.2.2.1.length:Int) by omega)
      have h2:=Int.emod_nonneg e.2.2.1 (show (g.2.2.1.length:Int)≠0 by omega)
      omega
     have hmem:g.2.2.1.getD (e.2.2.1 % (g.2.2.1.length:Int)).toNat Dp∈g.2.2.1:=by
      rw [AT hlt]
      exact BW _
     split
     ·refine ⟨h.mem,fun x hx=>?_,h.calls⟩
      rcases CZ.1 hx with h1 | h1
      ·exact h.fly x h1
      ·simp only [B5] at h1
       rw [h1]
       exact h.fly _ hmem
     ·split
      ·exact h.less _
      ·have hto:=(hg.fly _ hmem).to
       generalize hx:g.2.2.1.getD (e.2.2.1 % (g.2.2.1.length:Int)).toNat Dp=x at *
       obtain ⟨m1,m2⟩:=hg.mem (x.2.2.1-1).toNat (by omega)
       exact (h.less _).member (g:=Nd g (e.2.2.1 % (g.2.2.1.length:Int)).toNat) hg.six (i:=(x.2.2.1-1).toNat) ha (by omega) (by rw [(XN (x:=x) m1 hg.views).id,m2]) (ACl hg.views m1 (h.mem _ (by omega)) (h.fly _ hmem))
theorem V3.new {views:List (List Int)} (hv:XV views):V3 (Au views):=by
 refine ⟨fun i hi=>?_,(fun x hx=>by cases hx),fun x hx=>by cases hx⟩
 have h5:i=0\/i=1\/i=2\/i=3\/i=4\/i=5:=by omega
 rcases h5 with rfl | rfl | rfl | rfl | rfl | rfl<;>exact V1.first hv
theorem V3.run:∀ (es:List BN) (n:Nat) (g:Ag) (cs:List Int),Qa g n->V3 g->n+es.length<=70->(∀ e∈es,Su e=true)->V3 (Gv n es g cs).1
 | [],n,g,cs,_,h,_,_=>h
 | e::es,n,g,cs,hg,h,hn,he=>by
  simp only [List.length_cons] at hn
  obtain ⟨h2,_⟩:=hg.event (at_:=(n:Int)) (he e (by simp))
  exact V3.run es (n+1) _ _ h2 (h.event hg (by omega) (he e (by simp))) (by omega) (fun x hx=>he x (by simp [hx]))

theorem jm (a b:Int):Mt a b=some (decide (a<b)):=rK (by
 have h:∀ a,Kl a=some false:=fun a=>og (by unfold ZN; simp)
 unfold br
 rw [h,Z,if_neg (by simp)])
def ud (l:List Int) (j:Nat):List Int:=(l.set (j+1) (l.getD j 0)).set j (l.getD (j+1) 0)
def bub:Nat->List Int->List Int
 | 0,l=>l
 | j+1,l=>if l.getD (j+1) 0<l.getD j 0 then bub j (ud l j) else l
def srt:Nat->Nat->List Int->List Int
 | 0,_,l=>l
 | k+1,i,l=>srt k (i+1) (bub i l)
theorem jn (l:List Int) (j:Nat):(ud l j).length=l.length:=by simp [ud]
theorem pE:∀ (j:Nat) (l:List Int),(bub j l).length=l.length
 | 0,l=>rfl
 | j+1,l=>by
  unfold bub
  split
  ·rw [pE j,jn]
  ·rfl
theorem yo {l:List Int} {j:Nat} (h:j+1<l.length):(ud l j).Perm l:=by
 obtain ⟨p,a,b,q,rfl,rfl⟩:∃ p a b q,l=p++a::b::q/\p.length=j :=
  ⟨l.take j,l[j],l[j+1],l.drop (j+2),by rw [<- List.drop_eq_getElem_cons h,<- List.drop_eq_getElem_cons (show j<l.length by omega),List.take_append_drop],by rw [List.length_take]; omega⟩
 have e:ud (p++a::b::q) p.length=p++b::a::q:=by
  unfold ud
  have e1:(p++a::b::q).getD p.length 0=a:=by simp [List.getD]
  have e2:(p++a::b::q).getD (p.length+1) 0=b:=by simp [List.getD]
  rw [e1,e2,List.set_append_right _ _ (by omega),List.set_append_right _ _ (by omega)]
  simp
 rw [e]
 exact List.Perm.append_left p (List.Perm.swap a b q)
theorem vw:∀ (j:Nat) (l:List Int),j<l.length->(bub j l).Perm l
 | 0,l,_=>List.Perm.refl l
 | j+1,l,h=>by
  unfold bub
  split
  ·exact (vw j _ (by rw [jn]; omega)).trans (yo h)
  ·exact List.Perm.refl l
theorem rU:∀ (k i:Nat) (l:List Int),i+k=l.length->(srt k i l).Perm l
 | 0,_,l,_=>List.Perm.refl l
 | k+1,i,l,h=>(rU k (i+1) _ (by rw [pE]; omega)).trans (vw i l (by omega))
theorem xi {l:List Int} {j:Nat} (h:j+1<l.length) (a:Nat):(ud l j).getD a 0=if a=j then l.getD (j+1) 0 else if a=j+1 then l.getD j 0 else l.getD a 0:=by
 unfold ud
 simp only [List.getD_eq_getElem?_getD,BD,List.length_set]
 by_cases h1:a=j
 ·subst h1
  rw [if_pos rfl,if_pos (by omega),if_pos rfl]
  simp
 ·rw [if_neg (fun e=>h1 e.symm),if_neg h1]
  by_cases h2:a=j+1
  ·subst h2
   rw [if_pos rfl,if_pos (by omega),if_pos rfl]
   simp
  ·rw [if_neg (fun e=>h2 e.symm),if_neg h2]
def ACm (i:Nat) (l:List Int):Prop:=∀ a b,a<b->b<=i->l.getD a 0<=l.getD b 0
theorem AAS (i:Nat):∀ (j:Nat) (l:List Int),j<=i->i<l.length->(∀ a b,a<b->b<=i->b≠j->l.getD a 0<=l.getD b 0)->ACm i (bub j l)
 | 0,l,_,_,h=>fun a b h1 h2=>h a b h1 h2 (by omega)
 | j+1,l,hj,hi,h=>by
  unfold bub
  split
  ·rename_i hlt
   refine AAS i j _ (by omega) (by rw [jn]; exact hi) fun a b h1 h2 h3=>?_
   rw [xi (by omega),xi (by omega)]
   rw [if_neg h3]
   by_cases hb:b=j+1
   ·subst hb
    rw [if_pos rfl]
    by_cases ha:a=j
    ·rw [if_pos ha]; omega
    ·rw [if_neg ha,if_neg (by omega)]
     exact h a j (by omega) (by omega) (by omega)
   ·rw [if_neg hb]
    by_cases ha:a=j
    ·rw [if_pos ha]; exact h (j+1) b (by omega) h2 hb
    ·rw [if_neg ha]
     by_cases ha2:a=j+1
     ·rw [if_pos ha2]; exact h j b (by omega) h2 hb
     ·rw [if_neg ha2]; exact h a b h1 h2 hb
  ·rename_i hlt
   intro a b h1 h2
   by_cases hb:b=j+1
   ·subst hb
    by_cases ha:a=j
    ·subst ha; omega
    ·have:=h a j (by omega) (by omega) (by omega)
     omega
   ·exact h a b h1 h2 hb
theorem AAT:∀ (k i:Nat) (l:List Int),i+k=l.length->1<=i->ACm (i-1) l->ACm (l.length-1) (srt k i l)
 | 0,i,l,h,hi,hu=>by
  have:i-1=l.length-1:=by omega
  rw [<- this]; exact hu
 | k+1,i,l,h,hi,hu=>by
  have:=AAT k (i+1) (bub i l) (by rw [pE]; omega) (by omega) (by
   rw [Nat.add_sub_cancel]
   exact AAS i i l (Nat.le_refl _) (by omega) fun a b h1 h2 h3=>hu a b h1 (by omega))
  rw [pE] at this
  exact this
theorem xj (n i:Nat) (hn:n<=12) (g:List Int->List Int) (K:∀ l:List Int,l.length=n->BC 0 (n:Int) ((i:Int)+1) l=some (g l)) (hi:i<n) :
  ∀ (j:Nat) (l:List Int),j<n->l.length=n->B9 0 (n:Int) (i:Int) (j:Int) l=some (g (bub j l))
 | 0,l,hj,hl=>E1 (by
  unfold C0
  rw [if_neg (by simp),Ai (by omega)]
  exact K l hl)
 | j+1,l,hj,hl=>E1 (by
  unfold C0
  have e1:IntKind.i64.wrap (((j+1:Nat):Int)-1)=(j:Int):=by rw [Ai (by omega)]; omega
  have e2:((j+1:Nat):Int).toNat=j+1:=by omega
  have e3:((j:Nat):Int).toNat=j:=by omega
  rw [if_pos (by simp<;>omega),if_pos (by omega),if_pos (by omega),e1,if_pos (by omega),if_pos (by omega),jm,Z,e2,e3]
  unfold bub
  by_cases h:l.getD (j+1) 0<l.getD j 0
  ·rw [if_pos (by simpa using h),if_pos h]
   refine KC ?_
   unfold E0
   simp only [e1,e2,e3]
   rw [if_pos (by omega),if_pos (by omega),if_pos (by omega),if_pos (by omega),if_pos (by omega),if_pos (by omega),if_pos (by omega),if_pos (by rw [List.length_set]; omega)]
   exact xj n i hn g K hi j (ud l j) (by omega) (by rw [jn]; exact hl)
  ·rw [if_neg (by simpa using h),if_neg h,Ai (by omega)]
   exact K l hl)
theorem xk (n:Nat) (hn:n<=12):∀ (k i:Nat) (l:List Int),i+k=n->l.length=n->BC 0 (n:Int) (i:Int) l=some (srt k i l)
 | 0,i,l,h,hl=>C1 (by
  unfold B_
  rw [if_neg (by simp; omega)]
  rfl)
 | k+1,i,l,h,hl=>C1 (by
  unfold B_
  rw [if_pos (by simp; omega)]
  exact xj n i hn (srt k (i+1)) (fun l hl=>by have:=xk n hn k (i+1) l (by omega) hl; rw [<- this]; congr 1) (by omega) i l (by omega) hl)
set_option maxRecDepth 100000 in
theorem ACn (n:Nat) (h:n<=12):∃ r,QM (IntKind.u64.wrap (n:Int))=some r:=by
 have h1:∃ r,Gn (n:Int) 0=some r:=by
  have hs:IntKind.u8.wrap (n:Int)=(n:Int):=by
   have:n=0\/n=1\/n=2\/n=3\/n=4\/n=5\/n=6\/n=7\/n=8\/n=9\/n=10\/n=11\/n=12:=by omega
   rcases this with h | h | h | h | h | h | h | h | h | h | h | h | h<;>subst h<;>rfl
  have ht:∃ r,JS (n:Int) 0=some r:=by
   unfold JS
   rw [if_neg (by simp; omega),if_pos (by rw [hs]; omega),if_pos (by
    rw [hs]
    exact Int.lt_of_lt_of_le (show (n:Int)<13 by omega) (by decide))]
   exact ⟨_,rfl⟩
  obtain ⟨r,hr⟩:=ht
  exact ⟨r,bo hr⟩
 obtain ⟨r,hr⟩:=h1
 have h2:Ms (n:Int)=some r:=jd (by
  unfold U6
  rw [if_neg (by simp; omega)]
  exact bp (by
   unfold P1
   rw [if_neg (by simp; omega)]
   exact hr))
 have hu:IntKind.u64.wrap (n:Int)=(n:Int):=by
  have:n=0\/n=1\/n=2\/n=3\/n=4\/n=5\/n=6\/n=7\/n=8\/n=9\/n=10\/n=11\/n=12:=by omega
  rcases this with h | h | h | h | h | h | h | h | h | h | h | h | h<;>subst h<;>rfl
 exact ⟨r,oZ (by unfold ZK; rw [hu,h2]; rfl)⟩
theorem xm (l:List Int) (h:l.length<=12):∃ r,C8 l=some r/\r.Perm l/\r.Pairwise (· <= ·):=by
 obtain ⟨b,hb⟩:=ACn l.length h
 have hins:∃ r,DX 0 (l.length:Int) l=some r/\r.Perm l/\r.Pairwise (· <= ·):=by
  by_cases h0:l.length=0
  ·have:l=[]:=DV.1 h0
   subst this
   refine ⟨[],GA ?_,List.Perm.refl _,List.Pairwise.nil⟩
   unfold DY
   refine C1 ?_
   unfold B_
   rw [if_neg (by rw [Ai (by omega)]; simp)]
  ·refine ⟨srt (l.length-1) 1 l,GA ?_,rU _ _ _ (by omega),?_⟩
   ·unfold DY
    rw [Ai (by omega)]
    exact xk l.length h (l.length-1) 1 l (by omega) rfl
   ·have hu:=AAT (l.length-1) 1 l (by omega) (Nat.le_refl _) (fun a b h1 h2=>by omega)
    have hp:=(rU (l.length-1) 1 l (by omega)).length_eq
    rw [List.pairwise_iff_getElem]
    intro i j hi hj hij
    have:=hu i j hij (by omega)
    rwa [AT hi,AT hj] at this
 obtain ⟨r,h1,h2,h3⟩:=hins
 refine ⟨r,Zj ?_,h2,h3⟩
 unfold N_
 have hq:Cd 0 (l.length:Int) b l=some r:=RW (by
  unfold I1
  refine On ?_
  unfold HU
  rw [if_pos (by rw [Ai (by omega)]; simp; omega),h1]
  rfl)
 rw [hb,Z,hq]
 rfl
theorem xn:∀ {a b:List Int},a.Pairwise (· < ·)->b.Pairwise (· < ·)->(∀ x,x∈a↔x∈b)->a=b
 | [],[],_,_,_=>rfl
 | [],y::b,_,_,h=>absurd ((h y).2 (by simp)) (by simp)
 | x::a,[],_,_,h=>absurd ((h x).1 (by simp)) (by simp)
 | x::a,y::b,ha,hb,h=>by
  rw [List.pairwise_cons] at ha hb
  have hxy:x=y:=by
   have h1:=(h x).1 (by simp)
   have h2:=(h y).2 (by simp)
   rcases BI.1 h1 with e | h1
   ·exact e
   ·rcases BI.1 h2 with e | h2
    ·exact e.symm
    ·have:=ha.1 y h2
     have:=hb.1 x h1
     omega
  subst hxy
  rw [xn ha.2 hb.2 fun z=>?_]
  constructor
  ·intro hz
   rcases BI.1 ((h z).1 (by simp [hz])) with e | h
   ·subst e; have:=ha.1 z hz; omega
   ·exact h
  ·intro hz
   rcases BI.1 ((h z).2 (by simp [hz])) with e | h
   ·subst e; have:=hb.1 z hz; omega
   ·exact h
theorem w9 {view:List Int} {id x:Int} (hv:WOk view):x∈HX view id↔x∈Ca view id:=by
 unfold HX Ca
 simp only [List.mem_filter,AC,List.contains_eq_mem,decide_eq_true_eq]
 constructor
 ·rintro ⟨_,h1,h2⟩; exact ⟨h2,h1⟩
 ·rintro ⟨h1,h2⟩
  have:=hv.mem x h1
  refine ⟨?_,h2,h1⟩
  have h5:x=1\/x=2\/x=3\/x=4\/x=5\/x=6:=by omega
  rcases h5 with h | h | h | h | h | h<;>simp [h]
theorem mf {view:List Int} (hv:WOk view) (id:Int):C8 (Ca view id)=some (HX view id):=by
 have hl:=IA view id
 have:=hv.len
 obtain ⟨r,h1,h2,h3⟩:=xm (Ca view id) (by omega)
 rw [h1]
 congr 1
 have hnd:r.Nodup:=h2.nodup_iff.2 (hv.nd.filter _)
 refine xn ?_ (X2 view id).2 fun x=>(h2.mem_iff).trans (w9 hv).symm
 have:=h3.and (List.nodup_iff_pairwise_ne.1 hnd)
 exact this.imp fun {a b} h=>by have:=h.1; have:=h.2; omega
theorem nI {view:List Int} (hv:WOk view) (id:Int):(HX view id).length=(Ca view id).length:=by
 obtain ⟨r,h1,h2,_⟩:=xm (Ca view id) (by have:=IA view id; have:=hv.len; omega)
 rw [mf hv] at h1
 cases h1
 exact h2.length_eq

theorem b_ (x:List Int) (n:Int) (h:x.length<=maxLen):Cx x n=some (x.contains n):=S4 (by
 have hm:x.length<=9223372036854775807:=h
 have key:=KD (n:=x.length) (P:=fun i=>∃ r,Cy x n (x.length:Int) (i:Int)=some r/\(decide (r>=0)=(x.drop i).contains n)) ⟨-1,CL (by
  unfold Bn
  rw [if_neg (by simp)]),by simp⟩ (fun i hi ⟨r,hr,hc⟩=>by
  by_cases e:n=x[i]
  ·refine ⟨(i:Int),CL ?_,?_⟩
   ·unfold Bn
    simp only [show ((i:Int)<(x.length:Int)) from by omega,decide_true,if_true,show (0:Int)<=(i:Int) from by omega,Ad,AT hi]
    rw [if_pos (by simpa using e)]
   ·rw [Am hi,List.contains_cons,e]
    simp only [beq_self_eq_true,Bool.true_or]
    exact decide_eq_true (by omega)
  ·refine ⟨r,CL ?_,?_⟩
   ·unfold Bn
    simp only [show ((i:Int)<(x.length:Int)) from by omega,decide_true,if_true,show (0:Int)<=(i:Int) from by omega,Ad,AT hi,AQ (show i<9223372036854775807 by omega)]
    rw [if_neg (by simpa using e)]
    exact hr
   ·rw [Am hi,hc,List.contains_cons]
    simp [e]) 0 (by omega)
 obtain ⟨r,hr,hc⟩:=key
 unfold Jr
 have:Di x n=some r:=NM hr
 rw [this,Z,hc,List.drop_zero])
theorem cA (m:AD) (h1:m.2.2.2.2.2.2.1.length<=68719476736) (h2:m.2.2.2.2.2.2.2.1.length<=68719476736) (h3:m.2.2.2.2.2.2.2.2.2.2.2.2.2.length<=68719476736):C6 m=some m:=iz (by
 unfold Uf
 rw [Cu h1,Z,BL h2,Z,Cu h3,Z])
theorem KF.icopy {m:AD} (h:KF m):C6 m=some m:=by
 obtain ⟨h1,h2,h3⟩:=h.lens
 exact cA m (by omega) (by omega) (by omega)
theorem Ng (x:Bl) (h:x.2.2.2.2.2.length<=68719476736):HK x=some x:=qr (by
 unfold bL
 rw [BL h,Z])
theorem Oq (view:List Int) (m:AD) (h:view.length<=68719476736):CJ view m=some (Ca view m.1,m):=bX (by
 unfold Pw
 have key:=KD (n:=view.length) (P:=fun i=>∀ acc:List Int,acc.length<=i->DU view (view.length:Int) (i:Int) m acc=some (acc++(view.drop i).filter (· != m.1),m)) (fun acc ha=>Ln (by
  unfold HQ
  rw [if_neg (by simp)]
  simp)) (fun i hi ih acc ha=>Ln (by
  unfold HQ
  simp only [show ((i:Int)<(view.length:Int)) from by omega,decide_true,if_true,show (0:Int)<=(i:Int) from by omega,Ad,AT hi,AQ (show i<9223372036854775807 by omega)]
  rw [Am hi,List.filter_cons]
  by_cases hh:(view[i] != m.1)=true
  ·rw [if_pos hh,if_pos (by simp; omega),ih _ (by simp; omega),if_pos hh,Be]
   rfl
  ·rw [if_neg hh,ih _ (by omega),if_neg hh])) 0 (by omega) [] (by simp)
 exact key)
def xo (m:AD) (ids:List Int) (x:Bl):List Bl:=ids.map fun v=>(x.1,m.1,v,m.2.1,x.2.2.2.2)
theorem Cf (ids:List Int) (x:Bl) (m:AD) (h:ids.length<=68719476736) (hx:x.2.2.2.2.2.length<=68719476736):An ids x m=some (xo m ids x,m):=Zk (by
 unfold OB
 have key:=KD (n:=ids.length) (P:=fun i=>∀ acc:List Bl,acc.length<=i->EO ids (ids.length:Int) (i:Int) m x acc=some (acc++(ids.drop i).map (fun v=>(x.1,m.1,v,m.2.1,x.2.2.2.2)),m)) (fun acc ha=>KR (by
  unfold Gu
  rw [if_neg (by simp)]
  simp)) (fun i hi ih acc ha=>KR (by
  unfold Gu
  simp only [show ((i:Int)<(ids.length:Int)) from by omega,decide_true,if_true,show (0:Int)<=(i:Int) from by omega,Ad,AT hi,AQ (show i<9223372036854775807 by omega)]
  rw [Ng x hx,Z,if_pos (by simp; omega),ih _ (by simp; omega),Am hi,List.map_cons,Be]
  rfl)) 0 (by omega) [] (by simp)
 exact key)
def ADV (m:AD):AD:=(m.1,m.2.1,m.2.2.1,m.2.2.2.1,false,false,([]:List Int),m.2.2.2.2.2.2.2.1,(0:Int),(0:Int),(0:Int),(0:Int),(O,O,(0:Int)),([]:List Int))
theorem Vb (m:AD):GY m=some (ADV m):=jP rfl
theorem Sx (view:List Int) (its:List AX) (m:AD) (hv:WOk view) (hi:its.length<=68719476736) (hs:m.2.2.2.2.2.1=false) :
  Dk view its m=some ((Ca view m.1).map (fun v=>(3,m.1,v,m.2.1,0,its)),XI m view its):=Xz (by
 have hvl:=hv.len
 have hrl:=IA view m.1
 unfold NQ
 rw [Oq view m (by omega),Z,BL hi,Z,Cu (by show (Ca view m.1).length<=_; omega),Z,mf hv,Z]
 have ho:=nI hv m.1
 unfold XI
 rw [ho]
 by_cases h0:(Ca view m.1).length=0
 ·rw [if_pos (by simpa using h0),Cf _ _ _ (by show (Ca view m.1).length<=_; omega) hi,Z,h0]
  rfl
 ·rw [if_neg (by simpa using h0),Cf _ _ _ (by show (Ca view m.1).length<=_; omega) hi,Z]
  have:(((Ca view m.1).length:Int)==0)=false:=by simpa using h0
  rw [this]
  show some (_,(m.1,m.2.1,m.2.2.1,true,m.2.2.2.2.1,m.2.2.2.2.2.1,_))=_
  rw [hs]
  rfl)
theorem VH (v:List Int) (x:Int) (h:v.length<=68719476736):Mu v x=some (v.filter (· != x)):=rL (by
 unfold bt
 rw [Cu h,Z,RV,Z]
 rfl)
theorem cB (m:AD) (h:m.2.2.2.2.2.2.2.1.length<=34359738367):Hu m=some (EP m):=fh (by
 unfold So EP
 rw [U9 _ _ h,XC _ _ (by unfold maxLen; omega)]
 split
 ·rw [Z]
  refine OA ?_
  unfold Ic
  rfl
 ·rw [Z]
  refine OA ?_
  unfold Ic
  rfl)
def AAU (m:AD) (views:List (List Int)) (x:Bl):List Bl×AD :=
 if (x.2.2.2.1==m.2.1+1&&m.2.2.2.1&&(views.getD (m.2.1-1).toNat []).contains m.1)=true then ([(2,m.1,x.2.1,x.2.2.2.1,0,m.2.2.2.2.2.2.2.1)],XJ m x.2.2.2.1) else ([],m)
theorem rV (m:AD) (views:List (List Int)) (x:Bl) (hm:KF m) (hv:XV views) (he:m.2.1<=views.length) :
  K_ views x m=some (AAU m views x):=fp (by
 have hvl:=hv.len
 have hep:=hm.ep
 obtain ⟨l1,l2,l3⟩:=hm.lens
 have hf:m.2.2.2.1=true->m.2.2.1=false:=fun h=>by
  cases hh:m.2.2.1 with
  | false=>rfl
  | true=>rw [(hm.fell hh).1] at h; cases h
 unfold Ss AAU
 rw [Ai (n:=m.2.1+1) (by omega),Ai (n:=m.2.1-1) (by omega)]
 by_cases c1:x.2.2.2.1=m.2.1+1
 case neg=>rw [if_pos (by simpa using c1),if_neg (by simp [c1])]
 rw [if_neg (by simpa using c1)]
 by_cases c2:m.2.2.2.1=true
 case neg=>rw [if_pos (by simpa using c2),if_neg (by simp [c2])]
 rw [if_neg (by simpa using c2),if_pos (by omega),if_pos (by omega),b_ _ _ (by have:=(hv.get (i:=(m.2.1-1).toNat) (by omega)).2; unfold maxLen; omega),Z]
 cases c3:(views.getD (m.2.1-1).toNat []).contains m.1 with
 | false=>rw [if_pos (by rfl),if_neg (by simp)]
 | true =>
  rw [if_neg (by simp),if_pos (by simp [c1,c2])]
  exact Zp (by
   unfold OH
   rw [Vb,Z,Cf _ _ _ (by simp) (by show m.2.2.2.2.2.2.2.1.length<=_; omega),Z]
   show some (_,(m.1,x.2.2.2.1,m.2.2.1,_))=_
   rw [hf c2]
   rfl))
def AAV (m:AD) (e:Int) (its:List AX):AD:=(m.1,e,false,true,false,false,([]:List Int),its,(0:Int),(0:Int),(0:Int),(0:Int),(O,O,(0:Int)),([]:List Int))
def AAW (m:AD) (view:List Int) (x:Bl):List Bl×AD :=
 if (!view.contains m.1||(view.getD 0 0==m.1))=true then ([],m)
 else if x.2.2.2.1>m.2.1\/(m.2.2.2.1=false/\m.2.2.1=false) then ([(4,m.1,x.2.1,x.2.2.2.1,0,([]:List AX))],AAV m x.2.2.2.1 x.2.2.2.2.2)
 else if m.2.2.2.1=false then ([],m) else ([(4,m.1,x.2.1,m.2.1,0,([]:List AX))],m)
theorem jo (m:AD) (view:List Int) (x:Bl) (hv:WOk view) (hx:x.2.2.2.2.2.length<=68719476736) :
  IS view x m=some (AAW m view x):=Zq (by
 have hvl:=hv.len
 unfold OI AAW
 rw [b_ _ _ (by unfold maxLen; omega),Z]
 cases c3:view.contains m.1 with
 | false=>rw [if_pos (by rfl),if_pos (by rfl)]
 | true =>
  rw [if_neg (by simp),if_pos (by omega),if_pos (by omega)]
  by_cases c4:view.getD 0 0=m.1
  ·rw [if_pos (by simpa using c4),if_pos (by rw [c4]; simp)]
  ·rw [if_neg (by simpa using c4),if_neg (by have:(view.getD 0 0==m.1)=false:=(by simpa using c4); rw [this]; simp)]
   have J1:∀ b:Bool,DE b m x=some (if b=true then ([(4,m.1,x.2.1,x.2.2.2.1,0,([]:List AX))],AAV m x.2.2.2.1 x.2.2.2.2.2) else if m.2.2.2.1=false then ([],m) else ([(4,m.1,x.2.1,m.2.1,0,([]:List AX))],m)):=fun b=>VY (by
    unfold KX
    cases b with
    | true =>
     rw [if_pos rfl,if_pos rfl,BL hx,Z,Vb,Z,Cf _ _ _ (by simp) (by simp),Z]
     rfl
    | false =>
     simp only [Bool.false_eq_true,if_false]
     cases hb:m.2.2.2.1 with
     | false=>simp
     | true =>
      simp only [Bool.not_true,Bool.false_eq_true,if_false,Bool.true_eq_false]
      rw [Cf _ _ _ (by simp) (by simp),Z]
      rfl)
   refine VZ ?_
   unfold KY
   rw [J1,J1,J1]
   by_cases c5:x.2.2.2.1>m.2.1
   ·rw [if_pos (by simpa using c5)]
    simp [c5]
   ·rw [if_neg (by simpa using c5)]
    cases hb:m.2.2.2.1<;>cases hf:m.2.2.1<;>simp [c5])
def ue (m:AD) (x:Bl):List Bl×AD :=
 if (x.2.2.2.1==m.2.1&&m.2.2.2.1)=true then
  (if x.1=7 then ([(8,m.1,x.2.1,m.2.1,x.2.2.2.2.1,([]:List AX))],m)
  else ([(6,m.1,x.2.1,m.2.1,x.2.2.2.2.1,([]:List AX))],(m.1,m.2.1,m.2.2.1,m.2.2.2.1,m.2.2.2.2.1,m.2.2.2.2.2.1,m.2.2.2.2.2.2.1,Do m.2.2.2.2.2.2.2.1 (x.2.2.2.2.2.getD 0 (O,O,(0:Int))),m.2.2.2.2.2.2.2.2)))
 else ([],m)
theorem ow (m:AD) (x:Bl) (hm:m.2.2.2.2.2.2.2.1.length<=12) (h5:x.1≠7->0<x.2.2.2.2.2.length) :
  Jx x m=some (ue m x):=dV (by
 unfold RD ue
 by_cases c1:x.2.2.2.1=m.2.1
 case neg=>rw [if_pos (by simpa using c1),if_neg (by simp [c1])]
 rw [if_neg (by simpa using c1)]
 by_cases c2:m.2.2.2.1=true
 case neg=>rw [if_pos (by simpa using c2),if_neg (by simp [c2])]
 rw [if_neg (by simpa using c2),if_pos (by simp [c1,c2])]
 refine X0 ?_
 unfold NY
 by_cases c7:x.1=7
 ·rw [if_pos (by simpa using c7),if_pos c7,Cf _ _ _ (by simp) (by simp),Z]
  rfl
 ·have:=h5 c7
  rw [if_neg (by simpa using c7),if_neg c7,if_pos (by omega),if_pos (by omega),U9 _ _ (by omega),Z,Cf _ _ _ (by simp) (by simp),Z]
  rfl)
theorem XR (m:AD) (op:Int) (x:Bl) (hm:KF m) :
  GZ op x m=some (if (x.2.2.2.1==m.2.1&&m.2.2.2.2.2.2.2.2.2.1==op&&m.2.2.2.2.2.2.2.2.2.2.2.1==x.2.2.2.2.1)=true then ((El m x.2.1).2.2,(El m x.2.1).1) else ([],m)):=bw (by
 obtain ⟨l1,l2,l3⟩:=hm.lens
 unfold P2
 by_cases c1:x.2.2.2.1=m.2.1
 case neg=>rw [if_pos (by simpa using c1),if_neg (by simp [c1])]
 rw [if_neg (by simpa using c1)]
 by_cases c2:m.2.2.2.2.2.2.2.2.2.1=op
 case neg=>rw [if_pos (by simpa using c2),if_neg (by simp [c2])]
 rw [if_neg (by simpa using c2)]
 by_cases c3:m.2.2.2.2.2.2.2.2.2.2.2.1=x.2.2.2.2.1
 case neg=>rw [if_pos (by simpa using c3),if_neg (by simp [c3])]
 rw [if_neg (by simpa using c3),if_pos (by simp [c1,c2,c3])]
 refine XA ?_
 unfold Lr El
 rw [VH _ _ (by omega),Z]
 by_cases c4:(m.2.2.2.2.2.2.2.2.2.2.2.2.2.filter (· != x.2.1)).length=0
 ·rw [if_neg (by rw [c4]; decide),if_pos (by rw [c4]; decide),cB _ (by show m.2.2.2.2.2.2.2.1.length<=_; omega)]
  rfl
 ·rw [if_pos (decide_eq_true (by omega)),if_neg (by rw [beq_iff_eq]; omega)]
  rfl)

def se (x:Bl):Bl:=if x.1=3 then (x.1,x.2.1,x.2.2.1,x.2.2.2.1,0,x.2.2.2.2.2) else x
def cC (m:AD) (views:List (List Int)) (x:Bl):AD×List Bl×List DJ:=if XH x=true then Dv m views (se x) else (m,[],[])
theorem AAX (x:Bl):(se x).2.2.1=x.2.2.1/\(se x).2.2.2.1=x.2.2.2.1:=by unfold se; split<;>exact ⟨rfl,rfl⟩
theorem cg {m:AD} {views:List (List Int)} {x:Bl} (h:¬ (x.2.2.1=m.1/\m.2.1<=x.2.2.2.1/\x.2.2.2.1<=(views.length:Int)/\XH x=true)):cC m views x=(m,[],[]):=by
 unfold cC
 split
 ·rename_i hx
  unfold Dv
  rw [if_neg (by
   rw [(AAX x).1,(AAX x).2]
   simp only [AC,beq_iff_eq,decide_eq_true_eq]
   exact fun g=>h ⟨g.1.1.2,g.1.2,g.2,hx⟩)]
 ·rfl
theorem uf {x:Bl} (h:x.1≠3):se x=x:=if_neg h
theorem AAY {x:Bl} (h:x.1=3->x.2.2.2.2.1=0):se x=x:=by
 unfold se
 split
 ·rename_i e
  obtain ⟨a,b,c,d,e,f⟩:=x
  have:=h ‹_›
  dsimp only at this
  rw [this]
 ·rfl
theorem vz {m:AD} {views:List (List Int)} {x:Bl} (hx:XOk x) (h1:x.2.2.1=m.1) (h2:m.2.1<=x.2.2.2.1) (h3:x.2.2.2.1<=(views.length:Int)):Dv m views x =
  (if x.2.2.2.1=m.2.1 then X3 m (views.getD (m.2.1-1).toNat []) x
  else if (x.1==1&&(x.2.2.2.1==m.2.1+1)&&m.2.2.2.1&&(views.getD (m.2.1-1).toNat []).contains m.1)=true then (XJ m x.2.2.2.1,[(2,m.1,x.2.1,x.2.2.2.1,0,m.2.2.2.2.2.2.2.1)],[])
  else if (x.1==3&&(views.getD (x.2.2.2.1-1).toNat []).contains m.1&&((views.getD (x.2.2.2.1-1).toNat []).getD 0 0 != m.1))=true then
   ((m.1,x.2.2.2.1,false,true,false,false,([]:List Int),x.2.2.2.2.2,(0:Int),(0:Int),(0:Int),(0:Int),(O,O,(0:Int)),([]:List Int)),Et m x 4,[])
  else (m,[],[])):=by
 unfold Dv
 rw [if_pos (by rw [ca.2 hx]; simp [h1,h2,h3])]
theorem jp {a:AD} {b:List Bl} {c:List DJ} {r:AD×List Bl×List DJ} (h:r=(a,b,c)):(b,c,a)=(r.2.1,r.2.2,r.1):=by rw [h]
theorem rW (m:AD) (views:List (List Int)) (x:Bl) (hm:KF m) (hv:XV views) (hx:XOk x) (h1:x.2.2.1=m.1) (h2:m.2.1<=x.2.2.2.1) (h3:x.2.2.2.1<=(views.length:Int)) :
  K9 views x m=some ((cC m views x).2.1,(cC m views x).2.2,(cC m views x).1):=fo (by
 have hvl:=hv.len
 have hep:=hm.ep
 have hxe:=hx.ep
 have hxi:=Ls hx.items
 obtain ⟨l1,l2,l3⟩:=hm.lens
 have hin:=vz hx h1 h2 h3
 unfold Sr cC
 rw [if_pos (ca.2 hx)]
 have hV:=hv.wok (i:=(m.2.1-1).toNat) (by omega)
 generalize hVe:views.getD (m.2.1-1).toNat []=V at hV hin
 have hk:=hx.kind
 by_cases k1:x.1=1
 ·rw [if_pos (by simpa using k1),rV m views x hm hv (by omega),Z,uf (by omega)]
  congr 1
  apply jp
  rw [hin]
  unfold AAU
  rw [hVe]
  by_cases e:x.2.2.2.1=m.2.1
  ·rw [if_pos e,if_neg (by rw [e]; simp; omega)]
   unfold X3
   simp [k1]
  ·rw [if_neg e]
   cases hc:(x.2.2.2.1==m.2.1+1&&m.2.2.2.1&&V.contains m.1) with
   | true =>
    rw [if_pos (by rw [k1]; simpa using hc),if_pos rfl]
   | false =>
    rw [if_neg (by rw [k1]; simpa using hc),if_neg (by simp [k1]),if_neg (by simp)]
 rw [if_neg (by simpa using k1)]
 by_cases k2:x.1=2
 ·have J:∀ b:Bool,(b=true->m.2.2.2.1=false)->D5 views b m x=some (if b=true then ((Ca V m.1).map (fun v=>(3,m.1,v,m.2.1,0,x.2.2.2.2.2)),[],XI m V x.2.2.2.2.2) else ([],[],m)):=fun b hb=>Zm (by
   unfold OD
   cases b with
   | false=>rw [if_neg (by simp),if_neg (by simp)]
   | true =>
    have hs:m.2.2.2.2.2.1=false:=by
     cases hh:m.2.2.2.2.2.1 with
     | false=>rfl
     | true=>have:=(hm.serves hh).1; rw [hb rfl] at this; cases this
    rw [if_pos rfl,if_pos rfl,Ai (by omega),if_pos (by omega),if_pos (by omega),hVe,Sx V _ m hV (by omega) hs,Z])
  rw [if_pos (by simpa using k2),uf (by omega)]
  by_cases e:x.2.2.2.1=m.2.1
  ·rw [if_pos (by simpa using e)]
   have ho:Dv m views x=(if (m.2.2.2.2.1&&!m.2.2.2.1)=true then (XI m V x.2.2.2.2.2,(Ca V m.1).map (fun v=>(3,m.1,v,m.2.1,0,x.2.2.2.2.2)),[]) else (m,[],[])):=by
    rw [hin,if_pos e]; unfold X3; rw [if_pos k2]
   rw [ho]
   cases hl:m.2.2.2.2.1 with
   | false=>rw [if_neg (by simp),J false (by simp),if_neg (by simp),if_neg (by simp)]
   | true =>
    rw [if_pos (by rfl),J _ (by simp)]
    cases hb:m.2.2.2.1 with
    | true=>rw [if_neg (by simp),if_neg (by simp)]
    | false=>rw [if_pos (by rfl),if_pos (by rfl)]
  ·rw [if_neg (by simpa using e),J false (by simp),if_neg (by simp)]
   congr 1
   apply jp
   rw [hin,if_neg e,if_neg (by simp [k2]),if_neg (by simp [k2])]
 rw [if_neg (by simpa using k2)]
 by_cases k3:x.1=3
 ·have hW:=hv.wok (i:=(x.2.2.2.1-1).toNat) (by omega)
  rw [if_pos (by simpa using k3),Ai (by omega),if_pos (by omega),if_pos (by omega)]
  have hx':XOk (se x):=by
   unfold se
   rw [if_pos k3]
   exact ⟨hx.kind,hx.frm,hx.to,hx.ep,(show (0:Int)<=0/\(0:Int)<=1000000000 from by decide),hx.items,hx.shape⟩
  have hf:se x=(x.1,x.2.1,x.2.2.1,x.2.2.2.1,0,x.2.2.2.2.2):=if_pos k3
  have hin2:=vz (m:=m) (views:=views) hx' (by rw [hf]; exact h1) (by rw [hf]; exact h2) (by rw [hf]; exact h3)
  rw [hVe] at hin2
  generalize hWe:views.getD (x.2.2.2.1-1).toNat []=Wv at hW
  rw [jo m Wv x hW (by omega),Z]
  congr 1
  apply jp
  rw [hin2,hf]
  dsimp only
  rw [hWe]
  unfold AAW
  by_cases e:x.2.2.2.1=m.2.1
  ·have hVW:Wv=V:=by rw [<- hWe,<- hVe,e]
   rw [if_pos e]
   unfold X3
   rw [if_neg (by rw [k3]; decide),if_pos k3,hVW]
   dsimp only
   cases hc:(!V.contains m.1||(V.getD 0 0==m.1)) with
   | true=>simp only [if_true]
   | false =>
    simp only [Bool.false_eq_true,if_false]
    cases hb:m.2.2.2.1<;>cases hf2:m.2.2.1<;>simp [e,Et,AAV]
  ·rw [if_neg e,if_neg (by rw [k3]; simp)]
   cases hc:(!Wv.contains m.1||(Wv.getD 0 0==m.1)) with
   | true =>
    rw [if_neg (by
     intro h
     simp only [AC,bne_iff_ne,Dy,EL,beq_iff_eq] at h hc
     rcases hc with hc | hc
     ·rw [hc] at h; exact absurd h.1.2 (by simp)
     ·exact h.2 hc),if_pos rfl]
   | false =>
    rw [if_pos (by
     simp only [Bool.or_eq_false_iff,Bool.not_eq_false'] at hc
     rw [k3,hc.1]
     simpa using hc.2),if_neg (by simp),if_pos (Or.inl (by omega))]
    rfl
 rw [if_neg (by simpa using k3),uf k3]
 by_cases k4:x.1=4
 ·rw [if_pos (by simpa using k4)]
  have J:∀ b:Bool,F3 b m x=some (if b=true then ([],[],(m.1,m.2.1,m.2.2.1,m.2.2.2.1,m.2.2.2.2.1,m.2.2.2.1&&(((m.2.2.2.2.2.2.1.filter (· != x.2.1)).length:Int)==0),m.2.2.2.2.2.2.1.filter (· != x.2.1),m.2.2.2.2.2.2.2)) else ([],[],m)):=fun b=>Zn (by
   unfold OE
   cases b with
   | false=>rw [if_neg (by simp),if_neg (by simp)]
   | true =>
    rw [if_pos rfl,if_pos rfl,VH _ _ (by omega),Z]
    cases hs:m.2.2.2.2.2.1 with
    | true =>
     obtain ⟨q1,q2,q3⟩:=hm.serves hs
     rw [if_neg (by simp),q3,q1]
     rfl
    | false =>
     rw [if_pos rfl]
     cases hq:(((m.2.2.2.2.2.2.1.filter (· != x.2.1)).length:Int)==0) with
     | true=>rw [if_pos rfl,Bool.and_true]
     | false=>rw [if_neg (by simp),Bool.and_false])
  by_cases e:x.2.2.2.1=m.2.1
  ·rw [if_pos (by simpa using e),J]
   have ho:Dv m views x=(if m.2.2.2.2.1=true then
     ((m.1,m.2.1,m.2.2.1,m.2.2.2.1,m.2.2.2.2.1,m.2.2.2.1&&(((m.2.2.2.2.2.2.1.filter (· != x.2.1)).length:Int)==0),m.2.2.2.2.2.2.1.filter (· != x.2.1),m.2.2.2.2.2.2.2),[],[]) else (m,[],[])):=by
    rw [hin,if_pos e]; unfold X3; rw [if_neg k2,if_neg k3,if_pos k4]
   rw [ho]
   cases hl:m.2.2.2.2.1 with
   | false=>rw [if_neg (by simp),if_neg (by simp)]
   | true=>rw [if_pos rfl,if_pos rfl]
  ·rw [if_neg (by simpa using e),J,if_neg (by simp)]
   congr 1
   apply jp
   rw [hin,if_neg e,if_neg (by simp [k4]),if_neg (by simp [k4])]
 rw [if_neg (by simpa using k4)]
 have st:x.1=5\/x.1=7->ue m x=((Dv m views x).2.1,(Dv m views x).1)/\(Dv m views x).2.2=[]:=fun hk=>by
  rw [hin]
  unfold ue
  by_cases e:x.2.2.2.1=m.2.1
  ·rw [if_pos e]
   unfold X3 Et
   rw [if_neg k2,if_neg k3,if_neg k4,e]
   cases hb:m.2.2.2.1 with
   | true =>
    rcases hk with hk | hk
    ·rw [if_pos (by simp),if_neg (by omega),if_pos hk,if_pos rfl]
     exact ⟨rfl,rfl⟩
    ·rw [if_pos (by simp),if_pos hk,if_neg (by omega),if_pos hk,if_pos rfl]
     exact ⟨rfl,rfl⟩
   | false =>
    rcases hk with hk | hk
    ·rw [if_neg (by simp),if_pos hk,if_neg (by simp)]
     exact ⟨rfl,rfl⟩
    ·rw [if_neg (by simp),if_neg (by omega),if_pos hk,if_neg (by simp)]
     exact ⟨rfl,rfl⟩
  ·simp [e,k1,k3]
 have sd:∀ op,x.1=6/\op=1\/x.1=8/\op=2->(if (x.2.2.2.1==m.2.1&&m.2.2.2.2.2.2.2.2.2.1==op&&m.2.2.2.2.2.2.2.2.2.2.2.1==x.2.2.2.2.1)=true then ((El m x.2.1).2.2,(El m x.2.1).1) else ([],m))=((Dv m views x).2.2,(Dv m views x).1)/\(Dv m views x).2.1=[]:=fun op hk=>by
  have ht:(El m x.2.1).2.1=[]:=by unfold El; split<;>rfl
  rw [hin]
  by_cases e:x.2.2.2.1=m.2.1
  ·rw [if_pos e]
   unfold X3
   rw [if_neg k2,if_neg k3,if_neg k4,if_neg (show ¬ x.1=5 by omega),if_neg (show ¬ x.1=7 by omega),e]
   have hop:(if x.1=8 then (2:Int) else 1)=op:=by
    rcases hk with ⟨h,h'⟩ | ⟨h,h'⟩
    ·rw [if_neg (by omega),h']
    ·rw [if_pos h,h']
   rw [hop]
   by_cases c1:m.2.2.2.2.2.2.2.2.2.1=op
   ·by_cases c2:m.2.2.2.2.2.2.2.2.2.2.2.1=x.2.2.2.2.1
    ·rw [if_pos (by simp [c1,c2]),if_pos ⟨by omega,c1,c2⟩]
     exact ⟨rfl,ht⟩
    ·simp [c2]
   ·simp [c1]
  ·simp [e,k1,k3]
 have h7:x.1≠7->x.1=5->0<x.2.2.2.2.2.length:=fun _ h5=>by
  have:=hx.shape
  rw [if_neg (by omega),if_pos h5] at this
  omega
 have J2:∀ b:Bool,(b=true↔x.1=5\/x.1=7)->F4 x.1 b m x=some ((Dv m views x).2.1,(Dv m views x).2.2,(Dv m views x).1):=fun b hb=>Zo (by
  unfold OF
  cases b with
  | true =>
   have hk5:=hb.1 rfl
   obtain ⟨q1,q2⟩:=st hk5
   rw [if_pos rfl,ow m x l2 (fun h=>h7 h (by omega)),Z,q1,q2]
  | false =>
   have hn:¬ (x.1=5\/x.1=7):=fun h=>by have:=hb.2 h; cases this
   rw [if_neg (by simp)]
   by_cases k6:x.1=6
   ·obtain ⟨q1,q2⟩:=sd 1 (.inl ⟨k6,rfl⟩)
    rw [if_pos (by simpa using k6),XR m 1 x hm,Z,q1,q2]
   ·obtain ⟨q1,q2⟩:=sd 2 (.inr ⟨by omega,rfl⟩)
    rw [if_neg (by simpa using k6),if_pos (by rw [beq_iff_eq]; omega),XR m 2 x hm,Z,q1,q2])
 by_cases k5:x.1=5
 ·rw [if_pos (by simpa using k5),J2 _ (by simp [k5])]
 ·rw [if_neg (by simpa using k5),J2 _ (by simp [k5])])
theorem LX {m:AD} (h:KF m):GG m=some true:=by
 obtain ⟨h1,h2,h3⟩:=h.lens
 rw [fu m (by unfold maxLen; omega) (by unfold maxLen; omega) (by unfold maxLen; omega),xf.2 h]
theorem Gq {views:List (List Int)} (h:XV views):DB views=some true:=by
 have:=h.len
 rw [VD views (by unfold maxLen; omega) (fun a ha=>by have:=(h.view ha).2; unfold maxLen; omega),h.ok]
theorem jq (m:AD) (views:List (List Int)) (x:Bl) (hm:KF m) (hv:XV views) (hx:x.2.2.2.2.2.length<=68719476736) :
  Mp m views x=some (cC m views x):=rA (by
 have hxm:x.2.2.2.2.2.length<=maxLen:=by unfold maxLen; omega
 unfold bY
 rw [hm.icopy,Z]
 by_cases c1:x.2.2.1=m.1
 case neg=>rw [if_neg (by simpa using c1),cg (fun h=>c1 h.1)]
 rw [if_pos (by simpa using c1)]
 by_cases c2:x.2.2.2.1<m.2.1
 ·rw [if_neg (by simpa using c2),cg (fun h=>by omega)]
 rw [if_pos (by simpa using c2)]
 by_cases c3:x.2.2.2.1>(views.length:Int)
 ·rw [if_neg (by simpa using c3),cg (fun h=>by omega)]
 rw [if_pos (by simpa using c3),LX hm,Z,if_pos (by rfl),Gq hv,Z,if_pos (by rfl),om x hxm,Z]
 cases hmo:XH x with
 | false=>rw [if_pos (by rfl),cg (fun h=>by rw [hmo] at h; cases h.2.2.2)]
 | true =>
  rw [if_neg (by simp)]
  have hx':=ca.1 hmo
  refine jQ ?_
  unfold Uu
  have hok:KF (cC m views x).1:=by
   unfold cC
   rw [if_pos hmo]
   exact (XN hm hv).mok
  rw [rW m views x hm hv hx' c1 (by omega) (by omega),Z,hok.icopy,Z])

theorem sf (m:AD):T8 m=some (ZP m):=vj rfl



def d8 (k:ByteArray) (b:AX):Bool:=b.1.toList==k.toList
theorem v6 (k:ByteArray):∀ x:List AX,(x.filter (Vc k)).length+(x.filter (QZ k)).length+(x.filter (d8 k)).length=x.length
 | []=>rfl
 | b::x=>by
  have ih:=v6 k x
  have hi:QZ k b=!(Vc k b||d8 k b):=rfl
  cases hl:Vc k b with
  | true =>
   have hs:d8 k b=false:=by
    cases q:d8 k b with
    | false=>rfl
    | true =>
     have e:b.1.toList=k.toList:=by simpa [d8] using q
     unfold Vc at hl
     rw [e,cZ] at hl
     cases hl
   simp only [List.filter_cons,hi,hl,hs,Bool.true_or,Bool.not_true,if_true,Bool.false_eq_true,if_false,List.length_cons]
   omega
  | false =>
   cases hs:d8 k b with
   | true =>
    simp only [List.filter_cons,hi,hl,hs,Bool.false_or,Bool.not_true,if_true,Bool.false_eq_true,if_false,List.length_cons]
    omega
   | false =>
    simp only [List.filter_cons,hi,hl,hs,Bool.or_false,Bool.not_false,if_true,Bool.false_eq_true,if_false,List.length_cons]
    omega
def LY (x:List AX) (k:ByteArray):Bool:=x.any (d8 k)
theorem rX {x:List AX} {k:ByteArray}:LY x k=true↔1<=(x.filter (d8 k)).length:=by
 unfold LY
 rw [List.any_eq_true]
 constructor
 ·rintro ⟨b,hb,hs⟩
  exact List.length_pos_of_mem (List.mem_filter.2 ⟨hb,hs⟩)
 ·intro h
  obtain ⟨b,hb⟩:=List.exists_mem_of_length_pos h
  exact ⟨b,(List.mem_filter.1 hb).1,(List.mem_filter.1 hb).2⟩
theorem nJ {x:List AX} {k:ByteArray} (h:LY x k=false):Ch x k=(O,O,0):=by
 unfold Ch
 have:x.find? (fun a=>a.1.toList==k.toList)=none:=by
  rw [List.find?_eq_none]
  intro b hb hs
  have:LY x k=true:=List.any_eq_true.2 ⟨b,hb,hs⟩
  rw [h] at this
  cases this
 rw [this]
 rfl
theorem w_ {x:List AX} {k:ByteArray} (h:LY x k=true):Ch x k∈x/\(Ch x k).1.toList=k.toList:=by
 obtain ⟨b,hb,hs⟩:=List.any_eq_true.1 h
 unfold Ch
 cases q:x.find? (fun a=>a.1.toList==k.toList) with
 | none =>
  rw [List.find?_eq_none] at q
  exact absurd hs (q b hb)
 | some c=>exact ⟨List.mem_of_find?_eq_some q,by simpa using List.find?_some q⟩
theorem AAZ {x:List AX} {k:ByteArray} (hx:BE x=true):Zv (.pair .str (.pair .str (.int .i64))) (Ch x k) (O,O,(0:Int))=!LY x k:=by
 cases h:LY x k with
 | false=>rw [nJ h]; exact vr _
 | true =>
  obtain ⟨h1,h2⟩:=w_ h
  have h3:=(Hf.1 hx).1 _ h1
  unfold Kt at h3
  simp only [AC,decide_eq_true_eq] at h3
  have h4:((Ch x k).2.2==(0:Int))=false:=by
   rw [beq_eq_false_iff_ne]
   omega
  show ((Ch x k).1.toList==_&&((Ch x k).2.1.toList==_&&((Ch x k).2.2==(0:Int))))=false
  rw [h4,Bool.and_false,Bool.and_false]
theorem ABu {x:List AX} {a:AX} (hx:BE x=true) (ha:Kt a=true) (hv:P5 x (a.2.2-1)) :
  Do x a=if x.length=12/\LY x a.1=false then x else S6 x a:=by
 obtain ⟨h1,h2,h3⟩:=Hf.1 hx
 have hs:ZO x a=false:=by
  cases q:ZO x a with
  | false=>rfl
  | true =>
   obtain ⟨b,hb,hc⟩:=List.any_eq_true.1 q
   simp only [AC,decide_eq_true_eq] at hc
   have:=hv b hb
   omega
 have hl:=v6 a.1 x
 have hlen:(S6 x a).length=(x.filter (Vc a.1)).length+1+(x.filter (QZ a.1)).length:=by simp [S6]; omega
 unfold Do
 rw [hs,if_neg (by simp),if_pos hx]
 have hk:BE (S6 x a)=true↔(S6 x a).length<=12:=by
  rw [Hf]
  refine ⟨fun h=>h.2.2,fun h=>⟨fun b hb=>?_,rO a h2,h⟩⟩
  rcases vq hb with e | e
  ·rw [e]; exact ha
  ·exact h1 b e
 cases hh:LY x a.1 with
 | true =>
  have:=rX.1 hh
  rw [if_pos (hk.2 (by omega)),if_neg (by simp)]
 | false =>
  have h0:(x.filter (d8 a.1)).length=0:=by
   rcases Nat.eq_zero_or_pos (x.filter (d8 a.1)).length with e | e
   ·exact e
   ·have:=rX.2 e
    rw [hh] at this
    cases this
  by_cases h12:x.length=12
  ·rw [if_neg (fun h=>by have:=hk.1 h; omega),if_pos ⟨h12,rfl⟩]
  ·rw [if_pos (hk.2 (by omega)),if_neg (fun h=>h12 h.1)]
theorem xA {x:List AX} {a:AX} (hx:BE x=true) (ha:Kt a=true) (hv:P5 x (a.2.2-1)) :
  Zv (.pair .str (.pair .str (.int .i64))) (Ch (Do x a) a.1) a=!(decide (x.length=12)&&!LY x a.1):=by
 obtain ⟨h1,h2,h3⟩:=Hf.1 hx
 have ha2:=ha
 unfold Kt at ha2
 simp only [AC,decide_eq_true_eq] at ha2
 rw [ABu hx ha hv]
 by_cases h:x.length=12/\LY x a.1=false
 ·rw [if_pos h,nJ h.2,h.2,decide_eq_true h.1]
  have h4:((0:Int)==a.2.2)=false:=by
   rw [beq_eq_false_iff_ne]
   omega
  show (_&&(_&&((0:Int)==a.2.2)))=false
  rw [h4,Bool.and_false,Bool.and_false]
 ·rw [if_neg h,rP (rO a h2) AAO,vr]
  by_cases h12:x.length=12
  ·cases hh:LY x a.1 with
   | true=>simp
   | false=>exact absurd ⟨h12,hh⟩ h
  ·simp [h12]
def mbS (m:AD) (views:List (List Int)):Bool:=m.2.2.2.2.2.1&&(m.2.2.2.2.2.2.2.2.2.1==0)&&decide (m.2.2.2.2.2.2.2.2.1<900)&&decide (m.2.1<=(views.length:Int))&&((views.getD (m.2.1-1).toNat []).getD 0 0==m.1)
def akS (op call:Int) (key val:ByteArray):Bool:=(op==1||op==2)&&(decide (0<=call)&&decide (call<=1000))&&(decide (1<=(key.size:Int))&&decide ((key.size:Int)<=12))&&decide ((val.size:Int)<=20)&&(op==1||vn val)
theorem rY (m:AD) (views:List (List Int)) (op call:Int) (key val:ByteArray):X4 m views op call key val=(mbS m views&&akS op call key val):=by
 unfold X4 mbS akS
 ac_rfl
theorem f_ (m:AD) (views:List (List Int)) (hm:KF m) (hv:XV views):Ht views m=some (mbS m views,m):=Xw (by
 have hvl:=hv.len
 have hep:=hm.ep
 have hcnt:=hm.count
 have wm:IntKind.i64.wrap (m.2.1-1)=m.2.1-1:=Ai (by omega)
 unfold NP mbS
 cases h1:m.2.2.2.2.2.1 with
 | false=>rfl
 | true =>
  rw [if_pos (by rfl)]
  by_cases h2:m.2.2.2.2.2.2.2.2.2.1=0
  ·rw [if_pos (by rw [h2]; rfl),h2]
   by_cases h3:m.2.2.2.2.2.2.2.2.1=900
   ·rw [if_neg (by rw [h3]; simp),h3]
    rfl
   ·rw [if_pos (by simpa using h3),decide_eq_true (show m.2.2.2.2.2.2.2.2.1<900 by omega)]
    by_cases h4:m.2.1>(views.length:Int)
    ·rw [if_pos (by simpa using h4),decide_eq_false (show ¬ m.2.1<=(views.length:Int) by omega)]
     rfl
    ·rw [if_neg (by simpa using h4),decide_eq_true (show m.2.1<=(views.length:Int) by omega)]
     refine S5 ?_
     have g1:=hv.get (i:=(m.2.1-1).toNat) (by omega)
     unfold Jt
     rw [Gq hv,Z,if_pos (by rfl),wm,if_pos (by omega),if_pos (by omega),if_pos (by omega),if_pos (by omega)]
     rfl
  ·rw [if_neg (by simpa using h2),show (m.2.2.2.2.2.2.2.2.2.1==(0:Int))=false by simpa using h2]
   rfl)
theorem rZ (op call:Int) (key val:ByteArray):Mo op call key val=some (akS op call key val):=iy (by
 have w:∀ b,Km op val b=some (op==1||vn val):=fun b=>Yv (by
  unfold QO
  rw [mZ]
  by_cases h:op=1
  ·rw [if_neg (by simp [h]),h]; rfl
  ·rw [if_pos (by simpa using h),show (op==1)=false by simpa using h]; rfl)
 unfold Xt akS
 have yl:decide ((val.size:Int)>20)=!decide ((val.size:Int)<=20):=by
  by_cases h:(val.size:Int)<=20
  ·rw [decide_eq_true h,decide_eq_false (by omega)]; rfl
  ·rw [decide_eq_false h,decide_eq_true (by omega)]; rfl
 have h12:(op==1||op==2)=(decide (1<=op)&&decide (op<=2)):=by
  by_cases a:op=1
  ·subst a; rfl
  ·by_cases b:op=2
   ·subst b; rfl
   ·rw [show (op==1)=false by simpa using a,show (op==2)=false by simpa using b,<- Bool.decide_and,decide_eq_false (by omega)]; rfl
 rw [BA,Z,BA,QY,h12]
 cases (decide (1<=op)&&decide (op<=2)) with
 | false=>rfl
 | true =>
  rw [if_pos (by rfl),Z]
  cases (decide (0<=call)&&decide (call<=1000)) with
  | false=>rfl
  | true =>
   rw [if_pos (by rfl),Z]
   cases (decide (1<=(key.size:Int))&&decide ((key.size:Int)<=12)) with
   | false=>rfl
   | true =>
    rw [if_pos (by rfl),yl,w]
    cases decide ((val.size:Int)<=20)<;>rfl)
theorem oz (m:AD) (views:List (List Int)) (op call:Int) (key val:ByteArray) (hm:KF m) (hv:XV views) (h1:V1 views m):RS m views op call key val=some (DM m views op call key val):=uV (by
 have hvl:=hv.len
 have hep:=hm.ep
 have hcnt:=hm.count
 have hl:=hm.lens
 have wm:IntKind.i64.wrap (m.2.1-1)=m.2.1-1:=Ai (by omega)
 have wc:IntKind.i64.wrap (m.2.2.2.2.2.2.2.2.1+1)=m.2.2.2.2.2.2.2.2.1+1:=Ai (by omega)
 have wk:IntKind.i64.wrap (1000*m.2.1)=1000*m.2.1:=Ai (by omega)
 have wv:IntKind.i64.wrap (1000*m.2.1+(m.2.2.2.2.2.2.2.2.1+1))=1000*m.2.1+(m.2.2.2.2.2.2.2.2.1+1):=Ai (by omega)
 unfold jF DM
 rw [LX hm,Z,if_pos (by rfl),f_ m views hm hv,Z,rZ,rY]
 cases hb:mbS m views with
 | false=>rfl
 | true =>
  dsimp only
  rw [if_pos (by rfl),Z]
  cases ha:akS op call key val with
  | false=>rfl
  | true =>
   rw [if_neg (by simp),if_pos (by rfl)]
   have hmay:X4 m views op call key val=true:=by rw [rY,hb,ha]; rfl
   obtain ⟨s1,s2,s3,s4,s5,s6,s7,s8,s9,s10⟩:=mc hmay
   obtain ⟨b1,b2,_⟩:=hm.serves s1
   have hw:=hv.wok (i:=(m.2.1-1).toNat) (by omega)
   have hwl:=hw.len
   have hrl:=IA (views.getD (m.2.1-1).toNat []) m.1
   have ho:=nI hw m.1
   have hone:Kt (Ka m key val)=true:=(Hf.1 (vu hm s3 s6 s7)).1 _ (by simp)
   have href:=xA (a:=Ka m key val) hm.items hone ((h1.own b2 b1).mono (by show _<=1000*m.2.1+(m.2.2.2.2.2.2.2.2.1+1)-1; omega))
   have hz:=AAZ (k:=key) hm.items
   have J1:∀ b z,ID views op call b m z (m.1,m.2.1,m.2.2.1,m.2.2.2.1,m.2.2.2.2.1,m.2.2.2.2.2.1,m.2.2.2.2.2.2.1,m.2.2.2.2.2.2.2.1,m.2.2.2.2.2.2.2.2.1+1,m.2.2.2.2.2.2.2.2.2) (key,val,1000*m.2.1+(m.2.2.2.2.2.2.2.2.1+1))=some (Sw m (views.getD (m.2.1-1).toNat []) op call key val):=fun b z=>n_ (by
    unfold Y1
    rw [wm,if_pos (by omega),if_pos (by omega),Oq _ _ (by omega),Z,Cu (by show (Ca (views.getD (m.2.1-1).toNat []) m.1).length<=_; omega),Z]
    have hsort:=mf hw m.1
    change ((C8 (Ca (views.getD (m.2.1-1).toNat []) m.1)).bind _)=_
    rw [hsort,Z]
    have J2:∀ a c d e x,(∀ q:Bl,q=x->q.2.2.2.2.2.length<=12)->(xo (I5 m (views.getD (m.2.1-1).toNat []) op call key val) (Ca (views.getD (m.2.1-1).toNat []) m.1) x=sa m (views.getD (m.2.1-1).toNat []) op key val) ->
      Ko (Ca (views.getD (m.2.1-1).toNat []) m.1) a c (I5 m (views.getD (m.2.1-1).toNat []) op call key val) d e x=some (Sw m (views.getD (m.2.1-1).toNat []) op call key val):=fun a c d e x hx12 htell=>n9 (by
     have hx:=hx12 x rfl
     unfold Y0 Sw
     by_cases h0:(Ca (views.getD (m.2.1-1).toNat []) m.1).length=0
     ·rw [if_pos (by simpa using h0),if_pos (DV.1 (by rw [ho,h0])),cB _ (by show m.2.2.2.2.2.2.2.1.length<=_; omega),Z]
     ·rw [if_neg (by simpa using h0),if_neg (fun e=>h0 (by rw [<- ho,e]; rfl)),Cf _ _ _ (by omega) (by omega),Z,htell]
      exact j9)
    by_cases hop:op=1
    ·rw [if_pos (by simpa using hop)]
     refine J2 _ _ _ _ _ (fun q e=>by subst e; simp) ?_
     unfold xo sa
     simp only [hop,if_true]
     rfl
    ·rw [if_neg (by simpa using hop)]
     refine J2 _ _ _ _ _ (fun q e=>by subst e; simp) ?_
     unfold xo sa
     simp only [hop,if_false]
     rfl)
   refine oA ?_
   unfold Y2
   rw [hm.icopy,Z,wc,wk,wv]
   by_cases hop:op=1
   ·rw [if_pos (by simpa using hop)]
    by_cases h12:m.2.2.2.2.2.2.2.1.length=12
    ·rw [if_pos (by simp only [beq_iff_eq]; omega),XC _ _ (by unfold maxLen; omega),Z]
     change (if (false != Zv (.pair .str (.pair .str (.int .i64))) (Ch m.2.2.2.2.2.2.2.1 key) (O,O,(0:Int)))=true then _ else _)=_
     rw [hz]
     rw [h12] at href
     cases hh:LY m.2.2.2.2.2.2.2.1 key with
     | false =>
      have hh2:LY m.2.2.2.2.2.2.2.1 (Ka m key val).1=false:=hh
      rw [hh2] at href
      rw [if_pos (by rfl),if_pos ⟨hop,href⟩]
      rfl
     | true =>
      have hh2:LY m.2.2.2.2.2.2.2.1 (Ka m key val).1=true:=hh
      rw [hh2] at href
      rw [if_neg (by simp),if_neg (fun h=>by have:=h.2; change Zv (.pair .str (.pair .str (.int .i64))) (Ch _ (Ka m key val).1) _=false at this; rw [href] at this; cases this)]
      exact J1 _ _
    ·rw [if_neg (by simp; omega),if_neg (fun h=>by
      have:=h.2
      change Zv (.pair .str (.pair .str (.int .i64))) (Ch _ (Ka m key val).1) _=false at this
      rw [href,decide_eq_false h12] at this
      cases this)]
     exact J1 _ _
   ·rw [if_neg (by simpa using hop),if_neg (fun h=>hop h.1)]
    exact J1 _ _)

def ug (m:AD) (views:List (List Int)) (e:Int):AD×List Bl×Bool :=
 if 2<=e/\e<=(views.length:Int)/\m.2.1<e/\(views.getD (e-1).toNat []).getD 0 0=m.1 then
  if (m.2.2.2.1&&(m.2.1==e-1))=true then
   (XI (Ly m e) (views.getD (e-1).toNat []) m.2.2.2.2.2.2.2.1,(Ca (views.getD (e-1).toNat []) m.1).map (fun v=>(3,m.1,v,e,0,m.2.2.2.2.2.2.2.1)),true)
  else (Ly m e,(Ca (views.getD (e-2).toNat []) m.1).map (fun v=>(1,m.1,v,e,0,[])),true)
 else (KZ,[],false)
theorem o4 (m:AD) (views:List (List Int)) (e:Int) (hm:KF m) (hv:XV views):RU m views e=some (ug m views e):=uW (by
 have hvl:=hv.len
 have hep:=hm.ep
 have hl:=hm.lens
 unfold jH ug
 rw [LX hm,Z,if_neg (by simp),Gq hv,Z,if_neg (by simp),BA,Z]
 by_cases h1:2<=e/\e<=(views.length:Int)
 case neg =>
  rw [if_pos (by rw [<- Bool.decide_and,decide_eq_false h1]; rfl),if_neg (fun h=>h1 ⟨h.1,h.2.1⟩)]
  rfl
 have we:IntKind.i64.wrap (e-1)=e-1:=Ai (by omega)
 have we2:IntKind.i64.wrap (e-2)=e-2:=Ai (by omega)
 rw [if_neg (by rw [<- Bool.decide_and,decide_eq_true h1]; simp),we]
 by_cases h2:m.2.1<e
 case neg =>
  rw [if_pos (by simp; omega),if_neg (fun h=>h2 h.2.2.1)]
  rfl
 have g1:=hv.get (i:=(e-1).toNat) (by omega)
 have hw:=hv.wok (i:=(e-1).toNat) (by omega)
 have hw2:=hv.wok (i:=(e-2).toNat) (by omega)
 have hwl:=hw2.len
 rw [if_neg (by simp; omega),if_pos (by omega),if_pos (by omega),if_pos (by omega),if_pos (by omega)]
 by_cases h3:(views.getD (e-1).toNat []).getD 0 0=m.1
 case neg =>
  rw [if_pos (by simpa using h3),if_neg (fun h=>h3 h.2.2.2)]
  rfl
 rw [if_neg (by simpa using h3),if_pos ⟨h1.1,h1.2,h2,h3⟩]
 refine oC ?_
 unfold Y5
 rw [hm.icopy,Z,we]
 have J1:∀ b z,Kp views e b m z m=some (if b=true then (XI (Ly m e) (views.getD (e-1).toNat []) m.2.2.2.2.2.2.2.1,(Ca (views.getD (e-1).toNat []) m.1).map (fun v=>(3,m.1,v,e,0,m.2.2.2.2.2.2.2.1)),true)
   else (Ly m e,(Ca (views.getD (e-2).toNat []) m.1).map (fun v=>(1,m.1,v,e,0,[])),true)):=fun b z=>oB (by
  unfold Y4
  rw [Vb,Z,we,we2]
  cases b with
  | true =>
   rw [if_pos rfl,if_pos (by omega),if_pos (by omega)]
   change ((Dk (views.getD (e-1).toNat []) m.2.2.2.2.2.2.2.1 (Ly m e)).bind _)=_
   rw [Sx _ _ (Ly m e) hw (by omega) rfl,Z]
   rfl
  | false =>
   rw [if_neg (by simp),if_pos (by omega),if_pos (by omega)]
   change uw ((CJ (views.getD (e-2).toNat []) (Ly m e)).bind _) ((CJ (views.getD (e-2).toNat []) (Ly m e)).bind _)=_
   have hrl:=IA (views.getD (e-2).toNat []) m.1
   rw [Oq _ (Ly m e) (by omega),Z,Z,Cf _ _ (Ly m e) (by show (Ca (views.getD (e-2).toNat []) m.1).length<=_; omega) (by simp),Z,Z,Z,j9]
   exact j9)
 cases hb:m.2.2.2.1 with
 | true=>rw [if_pos rfl,J1,Bool.true_and]
 | false=>rw [if_neg (by simp),J1,Bool.false_and])
theorem dZ (id:Int) (views:List (List Int)) (hi:1<=id/\id<=6) (hv:XV views):OU id views=some (HY id views,true):=lc (by
 have hvl:=hv.len
 have g:=hv.get (i:=0) (by omega)
 unfold Wj
 rw [HW,Z,if_pos (by rw [<- Bool.decide_and,decide_eq_true hi]; rfl),Gq hv,Z,if_neg (by simp)]
 refine dH ?_
 unfold Q2
 rw [show views.getD (0:Int).toNat ([]:List Int)=views.getD 0 [] from rfl,b_ _ _ (by unfold maxLen; omega),Z]
 repeat rw [if_pos (by omega)]
 rfl)

theorem RF (x:List (List Int)) (h:x.length<=1000) (ho:∀ a∈x,a.length<=1000):Ji x=some x:=la (by
 have key:=KD (n:=x.length) (P:=fun i=>G5 x (x.length:Int) (i:Int) (x.take i)=some x) (Q0 (by
  unfold J9
  rw [if_neg (by simp),List.take_length])) (fun i hi ih=>Q0 (by
  unfold J9
  have hb:=ho x[i] (BW hi)
  simp only [show ((i:Int)<(x.length:Int)) from by omega,decide_true,if_true,show (0:Int)<=(i:Int) from by omega,Ad,AT hi,AQ (show i<9223372036854775807 by omega)]
  rw [Cu (by omega),Z,if_pos (by simp; omega),List.take_append_getElem]
  exact ih)) 0 (by omega)
 unfold Wi
 exact key)
theorem dd (g:Ag) (k:Nat) (hg:Qa g k) (hk:k<=10000):Jh g=some g:=lQ (by
 have hvl:=hg.views.len
 have hc:=hg.clen
 have hf:=hg.flen
 have h6:=hg.six
 unfold Wf
 rw [RF g.1 (by omega) (fun a ha=>by have:=hg.views.view ha; omega),Z,LB (by omega),Z]
 have key2:∀ a b c d e f h k,Eu g.2.2.1 (g.2.2.1.length:Int) ((0:Nat):Int) a b c d e f h k g.2.1 [] g.2.2.2 g.1=some g:=by
  intro a b c d e f h k
  have key':=KD (n:=g.2.2.1.length) (P:=fun i=>Eu g.2.2.1 (g.2.2.1.length:Int) (i:Int) a b c d e f h k g.2.1 (g.2.2.1.take i) g.2.2.2 g.1=some g) (Qy (by
   unfold J7
   rw [if_neg (by simp),List.take_length])) (fun i hi ih=>Qy (by
   unfold J7
   have hm:=Ls (hg.fly _ (BW hi)).items
   have hz:g.2.2.1.getD i ((0:Int),(0:Int),(0:Int),(0:Int),(0:Int),([]:List AX))=g.2.2.1[i]:=AT hi
   simp only [show ((i:Int)<(g.2.2.1.length:Int)) from by omega,decide_true,if_true,show (0:Int)<=(i:Int) from by omega,Ad,hz,AQ (show i<9223372036854775807 by omega)]
   rw [Ng _ (by omega),Z,if_pos (by simp; omega),List.take_append_getElem]
   exact ih)) 0 (by omega)
  exact key'
 have key0:∀ a b c d e f h,Ew g.2.1 (g.2.1.length:Int) ((0:Nat):Int) a b g.2.2.1 c d e f h [] [] g.2.2.2 g.1=some g:=by
  intro a b c d e f h
  have key':=KD (n:=g.2.1.length) (P:=fun i=>Ew g.2.1 (g.2.1.length:Int) (i:Int) a b g.2.2.1 c d e f h (g.2.1.take i) [] g.2.2.2 g.1=some g) (Qz (by
   unfold J8
   rw [if_neg (by simp),List.take_length]
   refine dF ?_
   unfold Qx
   exact key2 _ _ _ _ _ _ _ _)) (fun i hi ih=>Qz (by
   unfold J8
   have hm:=(hg.mem i (by omega)).1
   unfold Co at hm
   rw [AT hi] at hm
   have hz:g.2.1.getD i ((0:Int),(0:Int),false,false,false,false,([]:List Int),([]:List AX),(0:Int),(0:Int),(0:Int),(0:Int),(O,O,(0:Int)),([]:List Int))=g.2.1[i]:=AT hi
   simp only [show ((i:Int)<(g.2.1.length:Int)) from by omega,decide_true,if_true,show (0:Int)<=(i:Int) from by omega,Ad,hz,hm.icopy,Z,AQ (show i<9223372036854775807 by omega)]
   rw [if_pos (by simp; omega),List.take_append_getElem]
   exact ih)) 0 (by omega)
  exact key'
 exact key0 _ _ _ _ _ _ _)
theorem jr {views:List (List Int)} (hv:XV views):QI views=some (Au views,true):=n5 (by
 have hvl:=hv.len
 unfold Yt
 rw [Gq hv,Z,if_neg (by simp),RF views (by omega) (fun a ha=>by have:=hv.view ha; omega),Z]
 have step:∀ (i:Nat) (a:_) (b:_) (c:_) (d:_) (l:List AD) r,1<=i->i<=6->l.length<=6->Fp views ((i+1:Nat):Int) a b c d (l++[HY (i:Int) views]) [] [] views=some r->Fp views (i:Int) a b c d l [] [] views=some r:=by
  intro i a b c d l r h1 h6 hl hr
  refine Se ?_
  unfold LO
  rw [if_pos (by simp; omega),dZ _ _ (by omega) hv,Z,if_pos (by simp; omega),AQ (show i<9223372036854775807 by omega)]
  exact hr
 refine step 1 _ _ _ _ _ _ (by omega) (by omega) (by simp) ?_
 refine step 2 _ _ _ _ _ _ (by omega) (by omega) (by simp) ?_
 refine step 3 _ _ _ _ _ _ (by omega) (by omega) (by simp) ?_
 refine step 4 _ _ _ _ _ _ (by omega) (by omega) (by simp) ?_
 refine step 5 _ _ _ _ _ _ (by omega) (by omega) (by simp) ?_
 refine step 6 _ _ _ _ _ _ (by omega) (by omega) (by simp) ?_
 refine Se ?_
 unfold LO
 rw [if_neg (by decide)]
 rfl)
theorem FK {k:Nat} (id:Int) (g:Ag) (ms:Qa g k) (hi:1<=id/\id<=6):B8 id g=some (id-1,g):=dI (by
 have h6:=ms.six
 have step:∀ j (hj:j<6),IR (g.2.1.getD j ((0:Int),(0:Int),false,false,false,false,([]:List Int),([]:List AX),(0:Int),(0:Int),(0:Int),(0:Int),(O,O,(0:Int)),([]:List Int))) id=some ((j:Int)+1==id):=fun j hj=>Zf (by
  unfold N4
  have:=(ms.mem j hj).2
  unfold Co at this
  change some ((g.2.1.getD j KZ).1==id)=_
  rw [this])
 have key:∀ (d j:Nat),j+d=5->(j:Int)+1<=id->BO g.2.1 id (g.2.1.length:Int) (j:Int)=some (id-1):=by
  intro d
  induction d with
  | zero =>
   intro j hj hle
   refine DI ?_
   unfold B3
   rw [if_pos (by simp; omega),if_pos (by omega),if_pos (by omega),Ad,step j (by omega),Z,if_pos (by simp; omega)]
   congr 1; omega
  | succ d ih =>
   intro j hj hle
   refine DI ?_
   unfold B3
   rw [if_pos (by simp; omega),if_pos (by omega),if_pos (by omega),Ad,step j (by omega),Z]
   by_cases e:(j:Int)+1=id
   ·rw [if_pos (by simpa using e)]
    congr 1; omega
   ·rw [if_neg (by simpa using e),AQ (by omega)]
    exact ih (j+1) (by omega) (by omega)
 unfold Q3
 rw [show CP g.2.1 id=some (id-1) from H8 (by
  unfold Dn
  exact key 5 0 rfl (by omega)),Z])
theorem JT (told:List Bl) (said:List DJ) (at_:Int) (g:Ag) (hf:g.2.2.1.length+told.length<=68719476736) (hc:g.2.2.2.length<=68719476736) (hs:mb said) (hd:∀ c∈g.2.2.2,c.2.2.2.2.1=-1\/0<=c.2.2.2.2.1) :
  GX told said at_ g=some (g.1,g.2.1,g.2.2.1++told,said.foldl (IF at_) g.2.2.2):=jG (by
 have hsl:=hs.1
 unfold Un
 rw [if_pos hf]
 have fin:∀ (n:Nat) (cs:List Nb),n=said.length->Cn at_ said (said.length:Int) (n:Int) g.1 g.2.1 (g.2.2.1++told) cs=some (g.1,g.2.1,g.2.2.1++told,cs):=fun n cs hn=>Pu (by
  unfold JN
  rw [if_neg (by simp; omega)])
 match said,hs,hsl,fin with
 | [],_,_,fin=>exact fin 0 _ rfl
 | [s],hs,_,fin =>
  have h0:=(hs.2 s (by simp)).1
  refine Pu ?_
  unfold JN
  have wl:IntKind.i64.wrap ((g.2.2.2.length:Int)-1)=(g.2.2.2.length:Int)-1:=Ai (by omega)
  rw [if_pos (by simp),if_pos (by omega),if_pos (by simp)]
  change ((Ap s.1 0 (IntKind.i64.wrap ((g.2.2.2.length:Int)-1))).bind _)=_
  rw [BA,Z,wl,Ai (show -9223372036854775808<=(0:Int)+1/\(0:Int)+1<=9223372036854775807 by omega)]
  show _=some (g.1,g.2.1,g.2.2.1++told,IF at_ g.2.2.2 s)
  have f1:=fun cs=>fin 1 cs rfl
  by_cases c1:s.1>=(g.2.2.2.length:Int)
  ·rw [if_pos (by rw [<- Bool.decide_and,decide_eq_false (by omega)]; rfl)]
   have:IF at_ g.2.2.2 s=g.2.2.2:=by unfold IF; rw [if_pos (by simp [c1])]
   rw [this]
   exact f1 _
  ·rw [if_neg (by rw [<- Bool.decide_and,decide_eq_true (by omega)]; simp)]
   change (if 0<=s.1 then (if s.1<(g.2.2.2.length:Int) then (if ((g.2.2.2.getD s.1.toNat FI).2.2.2.2.1 != -1)=true then _ else _) else _) else _)=_
   rw [if_pos h0,if_pos (by omega)]
   have hcl:s.1.toNat<g.2.2.2.length:=by omega
   have hdd:=hd (g.2.2.2.getD s.1.toNat FI) (by rw [AT hcl]; exact BW _)
   by_cases c2:(g.2.2.2.getD s.1.toNat FI).2.2.2.2.1>=0
   ·rw [if_pos (by simp only [bne_iff_ne,ne_eq]; omega)]
    have:IF at_ g.2.2.2 s=g.2.2.2:=by unfold IF; rw [if_pos (by rw [decide_eq_true c2,Bool.or_true])]
    rw [this]
    exact f1 _
   ·rw [if_neg (by simp only [bne_iff_ne,ne_eq]; omega)]
    have e:IF at_ g.2.2.2 s=g.2.2.2.set s.1.toNat (XQ at_ s (g.2.2.2.getD s.1.toNat FI)):=by unfold IF; rw [if_neg (by rw [decide_eq_false c1,decide_eq_false c2]; simp)]
    rw [e]
    refine bR ?_
    unfold Pt
    have hz2:∀ (l:List Nb),l.getD s.1.toNat ((0:Int),O,O,(0:Int),(0:Int),(0:Int),(0:Int),(0:Int),O)=l.getD s.1.toNat FI:=fun l=>rfl
    have hz3:([s]:List DJ).getD (0:Int).toNat ((0:Int),(0:Int),(0:Int),O,O,(0:Int))=s:=rfl
    simp only [hz3,hz2,uc hcl,List.set_set,List.length_set]
    rw [if_pos h0,if_pos (by omega),Ai (show -9223372036854775808<=(0:Int)+1/\(0:Int)+1<=9223372036854775807 by omega)]
    unfold XQ
    by_cases c3:(g.2.2.2.getD s.1.toNat FI).1=2
    ·rw [if_pos (show ((g.2.2.2.getD s.1.toNat FI).1==2)=true by simpa using c3),if_pos (show ((g.2.2.2.getD s.1.toNat FI).1==2)=true by simpa using c3)]
     exact f1 _
    ·rw [if_neg (show ¬ ((g.2.2.2.getD s.1.toNat FI).1==2)=true by simpa using c3),if_neg (show ¬ ((g.2.2.2.getD s.1.toNat FI).1==2)=true by simpa using c3)]
     exact f1 _
 | _::_::_,_,hsl,_=>simp at hsl)

theorem Qa.call {g:Ag} {k:Nat} (h:Qa g k) (at_:Int) (e:BN):Qa (Nc g at_ e) (k+1) :=
 ⟨h.views,h.six,h.mem,h.fly,by have:=h.flen; show g.2.2.1.length<=_; omega,by have:=h.clen; simp only [Nc,List.length_append,List.length_cons,List.length_nil]; omega⟩
theorem Zs (at_:Int) (e:BN) (g:Ag) (k:Nat) (hg:Qa g k) (hk:k<=1000) (h3:V3 g) (hn:1<=e.2.1/\e.2.1<=6):K5 e at_ g=some ((KI g at_ e).1==0,(KI g at_ e).2):=fV (by
 have hc:=hg.clen
 have hf:=hg.flen
 have h6:=hg.six
 have hgc:=hg.call at_ e
 have h3c:=h3.call at_ e
 obtain ⟨m1,m2⟩:=hg.mem (e.2.1-1).toNat (by omega)
 have hb:=XO (op:=e.2.2.2.1) (call:=(g.2.2.2.length:Int)) (key:=e.2.2.2.2.1) (val:=e.2.2.2.2.2) m1 hg.views
 unfold Si KI
 rw [if_pos (by simp; omega)]
 change ((B8 e.2.1 (Nc g at_ e)).bind _)=_
 rw [FK e.2.1 _ hgc hn,Z]
 change (if 0<=e.2.1-1 then (if e.2.1-1<(g.2.1.length:Int) then ((RS (Co g (e.2.1-1).toNat) g.1 e.2.2.2.1 (g.2.2.2.length:Int) e.2.2.2.2.1 e.2.2.2.2.2).bind _) else none) else none)=_
 rw [if_pos (by omega),if_pos (by omega),oz _ _ _ _ _ _ m1 hg.views (h3.mem _ (by omega)),Z]
 cases hq:(DM (Co g (e.2.1-1).toNat) g.1 e.2.2.2.1 (g.2.2.2.length:Int) e.2.2.2.2.1 e.2.2.2.2.2).2.2.2 with
 | false=>rfl
 | true =>
  have hid:=hb.id hq
  have htl:=hb.tlen
  rw [if_neg (by simp),if_pos rfl]
  change (if 0<=e.2.1-1 then (if e.2.1-1<(g.2.1.length:Int) then _ else none) else none)=_
  rw [if_pos (by omega),if_pos (by omega)]
  dsimp only
  have:=JT (DM (Co g (e.2.1-1).toNat) g.1 e.2.2.2.1 (g.2.2.2.length:Int) e.2.2.2.2.1 e.2.2.2.2.2).2.1 (DM (Co g (e.2.1-1).toNat) g.1 e.2.2.2.1 (g.2.2.2.length:Int) e.2.2.2.2.1 e.2.2.2.2.2).2.2.1 at_
   ((Nc g at_ e).1,(Nc g at_ e).2.1.set (e.2.1-1).toNat (DM (Co g (e.2.1-1).toNat) g.1 e.2.2.2.1 (g.2.2.2.length:Int) e.2.2.2.2.1 e.2.2.2.2.2).1,(Nc g at_ e).2.2.1,(Nc g at_ e).2.2.2) (by show g.2.2.1.length+_<=_; omega) (by simp only [Nc,List.length_append,List.length_cons,List.length_nil]; omega) hb.said h3c.calls
  rw [this,Z]
  unfold FJ
  rw [hid,m2,show (((e.2.1-1).toNat:Int)+1-1).toNat=(e.2.1-1).toNat by omega]
  rfl)
theorem yp {m:AD} {views:List (List Int)} {e:Int} (h:V1 views m):ug m views e=FH m views e:=by
 unfold ug FH
 split
 ·cases hb:m.2.2.2.1 with
  | false=>rfl
  | true =>
   have hv:=(h.view hb).2
   by_cases he:m.2.1=e-1
   ·rw [show (e-2).toNat=(m.2.1-1).toNat by omega,hv,show (m.2.1==e-1)=true by simpa using he]
    rfl
   ·rw [show (m.2.1==e-1)=false by simpa using he]
    rfl
 ·rfl
theorem Zt (at_:Int) (e:BN) (g:Ag) (k:Nat) (hg:Qa g k) (hk:k<=1000) (h3:V3 g) (hn:1<=e.2.1/\e.2.1<=6):K6 e at_ g=some ((b9 g at_ e.2.1).1==0,(b9 g at_ e.2.1).2):=fW (by
 have hc:=hg.clen
 have hf:=hg.flen
 have h6:=hg.six
 have hvl:=hg.views.len
 obtain ⟨m1,m2⟩:=hg.mem (e.2.1-1).toNat (by omega)
 have hep:=m1.ep
 have h1:=h3.mem (e.2.1-1).toNat (by omega)
 unfold Sj b9
 rw [FK e.2.1 g hg hn,Z]
 change (if 0<=e.2.1-1 then (if e.2.1-1<(g.2.1.length:Int) then D2 at_ (e.2.1-1) (IntKind.i64.wrap ((Co g (e.2.1-1).toNat).2.1+1)) g.1 g.2.1 g.2.2.1 g.2.2.2 e else none) else none)=_
 rw [if_pos (by omega),if_pos (by omega),Ai (by omega)]
 have key:∀ (n:Nat) (ep:Int),1<=ep->ep+(n:Int)=(g.1.length:Int)+1->D2 at_ (e.2.1-1) ep g.1 g.2.1 g.2.2.1 g.2.2.2 e=some ((HZ g at_ (Co g (e.2.1-1).toNat) e.2.1 n ep).1==0,(HZ g at_ (Co g (e.2.1-1).toNat) e.2.1 n ep).2):=by
  intro n
  induction n with
  | zero =>
   intro ep h1 h2
   refine IX ?_
   unfold Fz
   rw [if_neg (by simp; omega)]
   rfl
  | succ n ih =>
   intro ep hp1 hp2
   refine IX ?_
   unfold Fz HZ
   have we:IntKind.i64.wrap (ep-1)=ep-1:=Ai (by omega)
   have g1:=hg.views.get (i:=(ep-1).toNat) (by omega)
   rw [if_pos (by simp; omega),we,if_pos (by omega),if_pos (by omega),if_pos (by omega),if_pos (by omega)]
   change (if ((g.1.getD (ep-1).toNat []).getD 0 0 != e.2.1)=true then _ else _)=_
   by_cases hq:((g.1.getD (ep-1).toNat []).getD 0 0 != e.2.1)=true
   ·rw [if_pos hq,if_pos hq,Ai (by omega)]
    exact ih (ep+1) (by omega) (by omega)
   ·rw [if_neg hq,if_neg hq,if_pos (by omega),if_pos (by omega)]
    change ((RU (Co g (e.2.1-1).toNat) g.1 ep).bind _)=_
    rw [o4 _ _ _ m1 hg.views,Z,yp h1]
    cases hb:(FH (Co g (e.2.1-1).toNat) g.1 ep).2.2 with
    | false=>rfl
    | true =>
     have ha:=XP (e:=ep) m1 hg.views hb
     have hal:=ha.2.2.2
     rw [if_pos rfl,if_pos rfl,if_pos (by omega),if_pos (by omega)]
     dsimp only
     have:=JT (FH (Co g (e.2.1-1).toNat) g.1 ep).2.1 [] at_ (g.1,g.2.1.set (e.2.1-1).toNat (FH (Co g (e.2.1-1).toNat) g.1 ep).1,g.2.2.1,g.2.2.2) (by show g.2.2.1.length+_<=_; omega) (by show g.2.2.2.length<=_; omega) Fu h3.calls
     rw [this,Z]
     unfold FJ
     rw [ha.2.1,m2,show (((e.2.1-1).toNat:Int)+1-1).toNat=(e.2.1-1).toNat by omega]
     rfl
 by_cases hle:(Co g (e.2.1-1).toNat).2.1<=(g.1.length:Int)
 ·exact key _ _ (by omega) (by omega)
 ·have e0:((g.1.length:Int)-(Co g (e.2.1-1).toNat).2.1).toNat=0:=by omega
  rw [e0]
  refine IX ?_
  unfold Fz
  rw [if_neg (fun h=>hle (by have:=of_decide_eq_true h; omega))]
  rfl)
def v7 (g:Ag) (i:Nat) (at_:Int):Ag:=FJ (Nd g i)
 (Dv (Co g ((g.2.2.1.getD i Dp).2.2.1-1).toNat) g.1 (g.2.2.1.getD i Dp)).1 (Dv (Co g ((g.2.2.1.getD i Dp).2.2.1-1).toNat) g.1 (g.2.2.1.getD i Dp)).2.1 (Dv (Co g ((g.2.2.1.getD i Dp).2.2.1-1).toNat) g.1 (g.2.2.1.getD i Dp)).2.2 at_
theorem XS (at_:Int) (i:Nat) (g:Ag) (k:Nat) (hg:Qa g k) (hk:k<=10000) (h3:V3 g) (hi:i<g.2.2.1.length):JE (i:Int) at_ g=some (v7 g i at_):=bS (by
 have hc:=hg.clen
 have hf:=hg.flen
 have h6:=hg.six
 have hmem:g.2.2.1.getD i Dp∈g.2.2.1:=by rw [AT hi]; exact BW _
 have hx:=hg.fly _ hmem
 have hv2:=h3.fly _ hmem
 unfold Pv v7
 rw [if_pos (by omega),if_pos (by omega),AQ (by omega)]
 change ((Bm g.2.2.1 (i:Int) ((i+1:Nat):Int)).bind fun y1=>((B8 (g.2.2.1.getD i Dp).2.2.1 (g.1,g.2.1,y1,g.2.2.2)).bind _))=_
 rw [F_ (by omega) (by omega),Z]
 have hto:=hx.to
 generalize hxx:g.2.2.1.getD i Dp=x at *
 obtain ⟨m1,m2⟩:=hg.mem (x.2.2.1-1).toNat (by omega)
 have hho:=XN (x:=x) m1 hg.views
 have hil:=Ls hx.items
 change ((B8 x.2.2.1 (Nd g i)).bind _)=_
 rw [FK x.2.2.1 (Nd g i) (hg.less i) hto,Z]
 change (if decide (x.2.2.1-1>=0)=true then (if 0<=x.2.2.1-1 then (if x.2.2.1-1<(g.2.1.length:Int) then ((Mp (Co g (x.2.2.1-1).toNat) g.1 (g.2.2.1.getD (i:Int).toNat Dp)).bind _) else none) else none) else _)=_
 rw [Ad,hxx,if_pos (by simp; omega),if_pos (by omega),if_pos (by omega),jq _ _ _ m1 hg.views (by omega),Z]
 have hhi:cC (Co g (x.2.2.1-1).toNat) g.1 x=Dv (Co g (x.2.2.1-1).toNat) g.1 x:=by
  unfold cC
  rw [if_pos (ca.2 hx),AAY hv2.inst]
 rw [hhi]
 change (if 0<=x.2.2.1-1 then (if x.2.2.1-1<(g.2.1.length:Int) then _ else none) else none)=_
 rw [if_pos (by omega),if_pos (by omega)]
 dsimp only
 have htl:=hho.tlen
 have:=JT (Dv (Co g (x.2.2.1-1).toNat) g.1 x).2.1 (Dv (Co g (x.2.2.1-1).toNat) g.1 x).2.2 at_
  ((Nd g i).1,(Nd g i).2.1.set (x.2.2.1-1).toNat (Dv (Co g (x.2.2.1-1).toNat) g.1 x).1,(Nd g i).2.2.1,(Nd g i).2.2.2) (by
   have:(Nd g i).2.2.1.length<=g.2.2.1.length:=by simp only [Nd,List.length_append,List.length_take,List.length_drop]; omega
   show (Nd g i).2.2.1.length+_<=_; omega) (by show g.2.2.2.length<=_; omega) hho.said h3.calls
 rw [this,Z]
 unfold FJ
 rw [hho.id,m2,show (((x.2.2.1-1).toNat:Int)+1-1).toNat=(x.2.2.1-1).toNat by omega])
theorem Zu (at_:Int) (e:BN) (g:Ag) (k:Nat) (hg:Qa g k) (hk:k<=1000) (h3:V3 g) (he:Su e=true):Hr e at_ g=some ((ot g at_ e).1==0,(ot g at_ e).2):=fL (by
 have hn:=ji he
 have h6:=hg.six
 have hf:=hg.flen
 unfold Sf ot
 by_cases h1:e.1=1
 ·rw [if_pos (by simpa using h1),if_pos h1,Zs at_ e g k hg hk h3 (by omega)]; rfl
 rw [if_neg (by simpa using h1),if_neg h1]
 by_cases h5:e.1=5
 ·rw [if_pos (by simpa using h5),if_pos h5,Zt at_ e g k hg hk h3 (by omega)]; rfl
 rw [if_neg (by simpa using h5),if_neg h5]
 by_cases h7:e.1=6
 ·obtain ⟨m1,m2⟩:=hg.mem (e.2.1-1).toNat (by omega)
  rw [if_pos (by simpa using h7),if_pos h7,FK e.2.1 g hg (by omega),Z]
  change (if 0<=e.2.1-1 then (if e.2.1-1<(g.2.1.length:Int) then ((T8 (Co g (e.2.1-1).toNat)).bind _) else none) else none)=_
  rw [if_pos (by omega),if_pos (by omega),sf,Z]
  change (if 0<=e.2.1-1 then (if e.2.1-1<(g.2.1.length:Int) then _ else none) else none)=_
  rw [if_pos (by omega),if_pos (by omega)]
  unfold FJ
  have:((ZP (Co g (e.2.1-1).toNat)).1-1).toNat=(e.2.1-1).toNat:=by
   show ((Co g (e.2.1-1).toNat).1-1).toNat=_
   rw [m2]; omega
  rw [this,List.append_nil]
  rfl
 rw [if_neg (by simpa using h7),if_neg h7]
 have hm:JD e at_ g=some ((dY g at_ e).1==0,(dY g at_ e).2):=bK (by
  unfold Pq dY
  by_cases h0:g.2.2.1=[]
  ·rw [if_pos (by rw [h0]; rfl),if_pos h0]; rfl
  have hl:0<g.2.2.1.length:=by
   cases hq:g.2.2.1 with
   | nil=>exact absurd hq h0
   | cons a l=>simp
  have hem:Int.tmod e.2.2.1 (g.2.2.1.length:Int)=e.2.2.1 % (g.2.2.1.length:Int):=Int.tmod_eq_emod_of_nonneg (by omega)
  have hlt:(e.2.2.1 % (g.2.2.1.length:Int)).toNat<g.2.2.1.length:=by
   have h1:=Int.emod_lt_of_pos e.2.2.1 (show (0:Int)<(g.2.2.1.length:Int) by omega)
   have h2:=Int.emod_nonneg e.2.2.1 (show (g.2.2.1.length:Int)≠0 by omega)
   omega
  obtain ⟨i,hi⟩:∃ i:Nat,e.2.2.1 % (g.2.2.1.length:Int)=(i:Int):=⟨(e.2.2.1 % (g.2.2.1.length:Int)).toNat,by
   have h2:=Int.emod_nonneg e.2.2.1 (show (g.2.2.1.length:Int)≠0 by omega)
   omega⟩
  rw [if_neg (by simp only [beq_iff_eq]; omega),if_neg (by omega),if_neg h0,hem,hi]
  rw [hi,Ad] at hlt
  simp only [Ad]
  by_cases k2:e.1=2
  ·rw [if_pos (by simpa using k2),if_neg (by omega),if_neg (by omega),XS at_ i g k hg (by omega) h3 hlt]
   rfl
  rw [if_neg (by simpa using k2)]
  by_cases k3:e.1=3
  ·rw [if_pos (by simpa using k3),if_neg (by omega),if_pos k3,AQ (by omega),F_ (by omega) (by omega)]
   rfl
  have k4:e.1=4:=by omega
  have hmem:g.2.2.1.getD i Dp∈g.2.2.1:=by rw [AT hlt]; exact BW _
  have hil:=Ls (hg.fly _ hmem).items
  rw [if_neg (by simpa using k3),if_pos (by simpa using k4),if_pos k4,if_pos (by omega),if_pos (by omega)]
  change ((HK (g.2.2.1.getD i Dp)).bind _)=_
  rw [Ng _ (by omega),Z,if_pos (by simp; omega)]
  rfl)
 rw [hm]
 rfl)
theorem jt {views:List (List Int)} {events:List BN} (hv:XV views) (hl:events.length<=70) (he:∀ e∈events,Su e=true) :
  QE views events=some ((Gv 0 events (Au views) []).1,(Gv 0 events (Au views) []).2,true):=nw (by
 have hg:=cf hv
 obtain ⟨r1,r2,r3⟩:=pC events 0 (Au views) [] hg (by omega) he
 unfold Yo
 rw [jr hv,Z,if_pos (by rfl),if_neg (by simp; omega)]
 refine e_ ?_
 unfold SL
 have codes:∀ (g:Ag) (a:Int) (e:BN),Su e=true->(ot g a e).1=0\/(ot g a e).1=1:=by
  intro g a e he
  have hfa:∀ (m:AD) (nd:Int) (n:Nat) (ep:Int),(HZ g a m nd n ep).1=0\/(HZ g a m nd n ep).1=1:=by
   intro m nd n
   induction n with
   | zero=>intro ep; exact .inr rfl
   | succ n ih =>
    intro ep
    unfold HZ
    split
    ·exact ih _
    ·split
     ·exact .inl rfl
     ·exact .inr rfl
  unfold ot
  split
  ·unfold KI; split
   ·exact .inl rfl
   ·exact .inr rfl
  ·split
   ·exact hfa _ _ _ _
   ·split
    ·exact .inl rfl
    ·unfold dY
     split
     ·exact .inr rfl
     ·split
      ·exact .inl rfl
      ·split
       ·exact .inl rfl
       ·exact .inl rfl
 have L3:∀ a b c d,Fk events (events.length:Int) ((0:Nat):Int) a b c d (Au views).2.1 (Au views).2.2.1 (Au views).2.2.2 (Au views).1 []=some ((Gv 0 events (Au views) []).1,(Gv 0 events (Au views) []).2,true):=by
  intro a b c d
  have key:=KD (n:=events.length) (P:=fun i=>∀ (g:Ag) (cs:List Int),Qa g i->V3 g->cs.length=i->Gv i (events.drop i) g cs=Gv 0 events (Au views) []->Fk events (events.length:Int) (i:Int) a b c d g.2.1 g.2.2.1 g.2.2.2 g.1 cs=some ((Gv 0 events (Au views) []).1,(Gv 0 events (Au views) []).2,true)) (fun g cs hgi h3 hcs hr=>SM (by
   unfold LC
   rw [if_neg (by simp)]
   change ((Jh g).bind _)=_
   rw [dd g events.length hgi (by omega),Z]
   rw [List.drop_eq_nil_of_le (Nat.le_refl _)] at hr
   rw [<- hr]
   rfl)) (fun i hi ih g cs hgi h3 hcs hr=>SM (by
   unfold LC
   obtain ⟨d2,_⟩:=hgi.event (at_:=(i:Int)) (he _ (BW hi))
   have hz:events.getD i ((0:Int),(0:Int),(0:Int),(0:Int),O,O)=events[i]:=AT hi
   simp only [show ((i:Int)<(events.length:Int)) from by omega,decide_true,if_true,show (0:Int)<=(i:Int) from by omega,Ad,hz,AQ (show i<9223372036854775807 by omega)]
   change ((Hr events[i] (i:Int) g).bind _)=_
   rw [Zu (i:Int) events[i] g i hgi (by omega) h3 (he _ (BW hi)),Z]
   have hcode:VO ((ot g (i:Int) events[i]).1==0)=some (ot g (i:Int) events[i]).1:=sP (by
    unfold dt
    rcases codes g (i:Int) events[i] (he _ (BW hi)) with q | q<;>rw [q]<;>rfl)
   dsimp only
   rw [hcode,Z,if_pos (by simp; omega)]
   refine ih _ _ d2 (h3.event hgi (by omega) (he _ (BW hi))) (by simp; omega) ?_
   rw [Am hi] at hr
   exact hr)) 0 (by omega) (Au views) [] hg (V3.new hv) rfl rfl
  exact key
 have L1:∀ a b c d,Fl events events (events.length:Int) ((0:Nat):Int) a b c d (Au views).2.1 (Au views).2.2.1 (Au views).2.2.2 (Au views).1=some ((Gv 0 events (Au views) []).1,(Gv 0 events (Au views) []).2,true):=by
  intro a b c d
  refine KD (n:=events.length) (P:=fun i=>Fl events events (events.length:Int) (i:Int) a b c d (Au views).2.1 (Au views).2.2.1 (Au views).2.2.2 (Au views).1=some ((Gv 0 events (Au views) []).1,(Gv 0 events (Au views) []).2,true)) (SN (by
   unfold LD
   rw [if_neg (by simp)]
   refine ew ?_
   unfold SK
   exact L3 _ _ _ _)) (fun i hi ih=>SN (by
   unfold LD
   have hz:events.getD i ((0:Int),(0:Int),(0:Int),(0:Int),O,O)=events[i]:=AT hi
   simp only [show ((i:Int)<(events.length:Int)) from by omega,decide_true,if_true,show (0:Int)<=(i:Int) from by omega,Ad,hz,AQ (show i<9223372036854775807 by omega)]
   rw [U7,he _ (BW hi),Z,if_neg (by simp)]
   exact ih)) 0 (by omega)
 exact L1 _ _ _ _)

def yq (m:AD):Prop:=m.2.2.2.2.2.2.2.2.2.2.2.2.1.2.1.size<=20
def SmS (l:List DJ):Prop:=∀ s∈l,s.2.2.2.2.1.size<=20
theorem O6:SmS []:=fun s hs=>by cases hs
theorem Ea:ByteArray.empty.size<=20:=by decide
theorem uh {x:List AX} (h:BE x=true) (k:ByteArray):(Ch x k).2.1.size<=20:=by
 unfold Ch
 cases hf:x.find? fun a=>a.1.toList==k.toList with
 | none=>exact Ea
 | some a =>
  have h1:=(Hf.1 h).1 a (List.mem_of_find?_eq_some hf)
  simp only [Kt,AC,decide_eq_true_eq] at h1
  show a.2.1.size<=20
  omega
theorem ju {m:AD} (hi:BE m.2.2.2.2.2.2.2.1=true) (h:yq m):yq (EP m).2/\SmS (EP m).1:=by
 unfold EP
 split
 ·refine ⟨Ea,fun s hs=>?_⟩
  simp only [B5] at hs
  rw [hs]
  exact h
 ·refine ⟨Ea,fun s hs=>?_⟩
  simp only [B5] at hs
  rw [hs]
  exact uh hi _
theorem ui {m:AD} (hi:BE m.2.2.2.2.2.2.2.1=true) (h:yq m) (f:Int):yq (El m f).1/\SmS (El m f).2.2:=by
 unfold El
 split
 ·exact ju (m:=tH m f) hi h
 ·exact ⟨h,O6⟩
theorem yu {m:AD} (hi:BE m.2.2.2.2.2.2.2.1=true) (h:yq m) (view:List Int) (x:Bl):yq (X3 m view x).1/\SmS (X3 m view x).2.2:=by
 have hr:=ui hi h x.2.1
 unfold X3
 generalize El m x.2.1=r at hr ⊢
 generalize Do m.2.2.2.2.2.2.2.1 (x.2.2.2.2.2.getD 0 (O,O,(0:Int)))=q
 (repeat' split)<;>first | exact hr | exact ⟨h,O6⟩ | exact ⟨Ea,O6⟩
theorem xB {m:AD} (hi:BE m.2.2.2.2.2.2.2.1=true) (h:yq m) (views:List (List Int)) (x:Bl):yq (Dv m views x).1/\SmS (Dv m views x).2.2:=by
 have hr:=yu hi h (views.getD (m.2.1-1).toNat []) x
 unfold Dv
 generalize X3 m (views.getD (m.2.1-1).toNat []) x=r at hr ⊢
 (repeat' split)<;>first | exact hr | exact ⟨h,O6⟩ | exact ⟨Ea,O6⟩
theorem v8 {m:AD} (hi:BE m.2.2.2.2.2.2.2.1=true) (views:List (List Int)) (op call:Int) (key val:ByteArray) (hv:val.size<=20):yq (DM m views op call key val).1/\SmS (DM m views op call key val).2.2.1:=by
 have ht:yq (I5 m (views.getD (m.2.1-1).toNat []) op call key val):=hv
 unfold DM
 split
 ·split
  ·exact ⟨Ea,O6⟩
  ·unfold Sw
   split
   ·exact ju (m:=I5 m (views.getD (m.2.1-1).toNat []) op call key val) hi ht
   ·exact ⟨ht,O6⟩
 ·exact ⟨Ea,O6⟩
theorem v_ {m:AD} (views:List (List Int)) (e:Int):yq (FH m views e).1:=by
 unfold FH
 (repeat' split)<;>exact Ea
def SmC (c:Nb):Prop:=(c.1=1\/c.1=2)/\c.2.1.size<=12/\c.2.2.2.2.2.2.2.2.size<=20
structure ru (g:Ag):Prop where
 mem:∀ i,i<6->yq (Co g i)
 calls:∀ c∈g.2.2.2,SmC c
theorem wA {at_:Int} {s:DJ} (hs:s.2.2.2.2.1.size<=20) {cs:List Nb} (h:∀ c∈cs,SmC c):∀ c∈IF at_ cs s,SmC c:=by
 unfold IF
 split
 ·exact h
 ·intro c hc
  rcases List.mem_or_eq_of_mem_set hc with e | e
  ·exact h c e
  ·by_cases hl:s.1.toNat<cs.length
   ·have h0:=h (cs.getD s.1.toNat FI) (by rw [AT hl]; exact BW _)
    rw [e]
    refine ⟨h0.1,h0.2.1,?_⟩
    unfold XQ
    show (if _ then _ else _:ByteArray).size<=20
    split
    ·exact hs
    ·exact h0.2.2
   ·rw [List.set_eq_of_length_le (by omega)] at hc
    exact h c hc
theorem jv {at_:Int}:∀ (said:List DJ) {cs:List Nb},SmS said->(∀ c∈cs,SmC c)->∀ c∈said.foldl (IF at_) cs,SmC c
 | [],_,_,h=>h
 | s::l,_,hs,h=>jv l (fun t ht=>hs t (List.mem_cons_of_mem _ ht)) (wA (hs s (List.mem_cons_self ..)) h)
theorem ru.member {g:Ag} (h:ru g) (h6:g.2.1.length=6) {n:AD} {told:List Bl} {said:List DJ} {at_:Int} {i:Nat} (hi:i<6) (hid:n.1=(i:Int)+1) (hn:yq n/\SmS said):ru (FJ g n told said at_):=by
 refine ⟨fun j hj=>?_,jv said hn.2 h.calls⟩
 rw [rT h6 hj hid hi]
 split
 ·exact hn.1
 ·exact h.mem j hj
theorem ru.call {g:Ag} (h:ru g) (at_:Int) {e:BN} (he:d6 e.2.2.2.1 e.2.2.2.2.1 e.2.2.2.2.2=true):ru (Nc g at_ e):=⟨h.mem,fun c hc=>by
 rcases CZ.1 hc with h1 | h1
 ·exact h.calls c h1
 ·simp only [B5] at h1
  simp only [d6,AC,Dy,decide_eq_true_eq] at he
  rw [h1]
  exact ⟨he.1.1.1,by show e.2.2.2.2.1.size<=12; omega,Ea⟩⟩
theorem ru.adopt {g:Ag} {k:Nat} (h:ru g) (hg:Qa g k) {at_ node:Int} (hn:1<=node/\node<=6):∀ (n:Nat) (e:Int),ru (HZ g at_ (Co g (node-1).toNat) node n e).2
 | 0,_=>h
 | n+1,e=>by
  unfold HZ
  split
  ·exact ru.adopt h hg hn n (e+1)
  ·split
   ·rename_i hb
    obtain ⟨m1,m2⟩:=hg.mem (node-1).toNat (by omega)
    have hao:=XP (e:=e) m1 hg.views hb
    exact h.member hg.six (i:=(node-1).toNat) (by omega) (by rw [hao.2.1,m2]) ⟨v_ _ _,O6⟩
   ·exact h
theorem ru.event {g:Ag} {k:Nat} (h:ru g) (hg:Qa g k) {at_:Int} {e:BN} (he:Su e=true):ru (ot g at_ e).2:=by
 have hn:=ji he
 unfold ot
 split
 ·rename_i h1
  have hask:d6 e.2.2.2.1 e.2.2.2.2.1 e.2.2.2.2.2=true:=by
   simp only [Su,AC] at he
   have:=he.2
   rwa [if_pos h1] at this
  have hval:e.2.2.2.2.2.size<=20:=by
   simp only [d6,AC,Dy,decide_eq_true_eq] at hask
   omega
  unfold KI
  split
  ·rename_i hb
   obtain ⟨m1,m2⟩:=hg.mem (e.2.1-1).toNat (by omega)
   have hbo:=XO (op:=e.2.2.2.1) (call:=(g.2.2.2.length:Int)) (key:=e.2.2.2.2.1) (val:=e.2.2.2.2.2) m1 hg.views
   exact (h.call at_ hask).member (g:=Nc g at_ e) hg.six (i:=(e.2.1-1).toNat) (by omega) (by rw [hbo.id hb,m2]) (v8 m1.items _ _ _ _ _ hval)
  ·exact h.call at_ hask
 ·split
  ·exact h.adopt hg (by omega) _ _
  ·split
   ·obtain ⟨m1,m2⟩:=hg.mem (e.2.1-1).toNat (by omega)
    exact h.member hg.six (i:=(e.2.1-1).toNat) (by omega) m2 ⟨Ea,O6⟩
   ·unfold dY
    split
    ·exact h
    ·rename_i hne
     have hl:0<g.2.2.1.length:=by
      cases hq:g.2.2.1 with
      | nil=>exact absurd hq hne
      | cons a l=>simp
     have hlt:(e.2.2.1 % (g.2.2.1.length:Int)).toNat<g.2.2.1.length:=by
      have h1:=Int.emod_lt_of_pos e.2.2.1 (show (0:Int)<(g.2.2.1.length:Int) by omega)
      have h2:=Int.emod_nonneg e.2.2.1 (show (g.2.2.1.length:Int)≠0 by omega)
      omega
     have hmem:g.2.2.1.getD (e.2.2.1 % (g.2.2.1.length:Int)).toNat Dp∈g.2.2.1:=by
      rw [AT hlt]
      exact BW _
     split
     ·exact ⟨h.mem,h.calls⟩
     ·split
      ·exact ⟨h.mem,h.calls⟩
      ·have hto:=(hg.fly _ hmem).to
       generalize hx:g.2.2.1.getD (e.2.2.1 % (g.2.2.1.length:Int)).toNat Dp=x at *
       obtain ⟨m1,m2⟩:=hg.mem (x.2.2.1-1).toNat (by omega)
       exact ru.member (g:=Nd g (e.2.2.1 % (g.2.2.1.length:Int)).toNat) ⟨h.mem,h.calls⟩ hg.six (i:=(x.2.2.1-1).toNat) (by omega) (by rw [(XN (x:=x) m1 hg.views).id,m2]) (xB m1.items (h.mem _ (by omega)) _ _)
theorem ru.new (views:List (List Int)):ru (Au views):=by
 refine ⟨fun i hi=>?_,fun x hx=>by cases hx⟩
 have h5:i=0\/i=1\/i=2\/i=3\/i=4\/i=5:=by omega
 rcases h5 with rfl | rfl | rfl | rfl | rfl | rfl<;>exact Ea
theorem ru.run:∀ (es:List BN) (n:Nat) (g:Ag) (cs:List Int),Qa g n->ru g->n+es.length<=70->(∀ e∈es,Su e=true)->ru (Gv n es g cs).1
 | [],n,g,cs,_,h,_,_=>h
 | e::es,n,g,cs,hg,h,hn,he=>by
  simp only [List.length_cons] at hn
  obtain ⟨h2,_⟩:=hg.event (at_:=(n:Int)) (he e (by simp))
  exact ru.run es (n+1) _ _ h2 (h.event hg (he e (by simp))) (by omega) (fun x hx=>he x (by simp [hx]))

def E3 (l:List UInt8):ByteArray:=⟨l.toArray⟩
theorem cD (x:ByteArray):E3 x.data.toList=x:=by cases x; rfl
theorem E2 (l:List UInt8):(E3 l).data.toList=l:=rfl
theorem Ac (l:List UInt8):(E3 l).size=l.length:=by simp [E3,ByteArray.size]
theorem D6 (x:ByteArray):x.size=x.data.toList.length:=by simp
theorem C2 (a b:List UInt8):E3 (a++b)=E3 a++E3 b:=by
 apply ByteArray.ext
 simp [E3,ByteArray.data_append]
theorem xp {a b:List UInt8} (h:E3 a=E3 b):a=b:=by
 have:=congrArg (fun x:ByteArray=>x.data.toList) h
 exact this
theorem Sy (a b:ByteArray):(a.toList==b.toList)=decide (a=b):=by
 rw [Bool.eq_iff_iff,beq_iff_eq,decide_eq_true_eq]
 refine ⟨fun h=>?_,fun h=>by rw [h]⟩
 rw [ByteArray.toList_eq,ByteArray.toList_eq] at h
 cases a with
 | mk da =>
  cases b with
  | mk db=>exact congrArg ByteArray.mk (Array.toList_inj.1 h)
def P6 (p:List UInt8):List (List UInt8)->List (List UInt8)
 | []=>[p]
 | h::t=>(p++h)::t
def cut (c:UInt8):List UInt8->List (List UInt8)
 | []=>[[]]
 | b::l=>if b=c then []::cut c l else P6 [b] (cut c l)
theorem xq (p:List UInt8) (x:List (List UInt8)):P6 p x≠[]:=by cases x<;>simp [P6]
theorem mg (c:UInt8) (l:List UInt8):cut c l≠[]:=by
 cases l with
 | nil=>simp [cut]
 | cons b l =>
  unfold cut
  split
  ·simp
  ·exact xq _ _
theorem jw {x:List (List UInt8)} (h:x≠[]):P6 [] x=x:=by
 cases x with
 | nil=>exact absurd rfl h
 | cons a t=>rfl
theorem yv (p q:List UInt8) (x:List (List UInt8)):P6 p (P6 q x)=P6 (p++q) x:=by cases x<;>simp [P6]
theorem uj {c b:UInt8} (l p:List UInt8) (h:b≠c):P6 p (cut c (b::l))=P6 (p++[b]) (cut c l):=by
 rw [cut,if_neg h,yv]
theorem rc {c b:UInt8} (l p:List UInt8) (h:b=c):P6 p (cut c (b::l))=p::P6 [] (cut c l):=by
 rw [cut,if_pos h,jw (mg c l)]
 simp [P6]
theorem yw {b c:UInt8} (l:List UInt8) (h:b≠c):∀ n,Go.Lib.splitK [c] 0 n (b::l)=P6 [b] (Go.Lib.splitK [c] 0 n l)
 | 0=>rfl
 | n+1=>by
  have hp:([c]:List UInt8).isPrefixOf (b::l)=false:=by simp [List.isPrefixOf,Ne.symm h]
  have hix:Go.Lib.index (b::l) [c]=if Go.Lib.index l [c]==-1 then -1 else Go.Lib.index l [c]+1:=by rw [Go.Lib.index,hp]; simp
  unfold Go.Lib.splitK
  by_cases hm:Go.Lib.index l [c]=-1
  ·rw [hm,if_pos (by decide)] at hix
   rw [hix,hm,if_pos (by decide),if_pos (by decide)]
   rfl
  ·have hge:=Go.Lib.index_ge l [c]
   obtain ⟨j,hj⟩:∃ j:Nat,Go.Lib.index l [c]=j:=⟨(Go.Lib.index l [c]).toNat,by omega⟩
   have n1:¬ ((j:Int)==-1)=true:=fun e=>by have:=beq_iff_eq.1 e; omega
   have n2:¬ ((j:Int)+1==-1)=true:=fun e=>by have:=beq_iff_eq.1 e; omega
   rw [hj,if_neg n1] at hix
   rw [hix,hj,if_neg n1,if_neg n2,show ((j:Int)+1).toNat=j+1 by omega,Ad]
   simp [P6,Nat.add_assoc,Nat.add_comm 1,List.take_succ_cons]
theorem mh (c:UInt8):∀ l,Go.Lib.splitK [c] 0 (Go.Lib.count l [c]) l=cut c l
 | []=>by
  rw [Go.Lib.count_miss (by simp [Go.Lib.index])]
  rfl
 | b::l=>by
  by_cases h:b=c
  ·subst h
   have hix:Go.Lib.index (b::l) [b]=0:=by rw [Go.Lib.index]; simp [List.isPrefixOf]
   rw [Go.Lib.count_cons_eq,Nat.add_comm,Go.Lib.splitK,hix,if_neg (by decide),cut,if_pos rfl]
   simpa using mh b l
  ·rw [Go.Lib.count_cons_ne b c l h,yw l h,mh c l,cut,if_neg h]
def cE (c:UInt8) (x:ByteArray):List ByteArray:=(cut c x.data.toList).map E3
theorem KJ (x:ByteArray) (c:UInt8) (h:x.size<4294967281):GI x ⟨#[c]⟩=some (cE c x):=by
 rw [nu h rfl]
 have e:(Go.Lib.splitB ⟨#[c]⟩ 0 (Go.Lib.countB x ⟨#[c]⟩) x).map (·.data.toList)=cut c x.data.toList:=by
  rw [Go.Lib.splitB_data]
  exact mh c _
 unfold cE
 rw [<- e,List.map_map,show (E3 ∘ fun y:ByteArray=>y.data.toList)=id by funext y; exact cD y,List.map_id]
def ur (l:List UInt8) (a i:Nat):List UInt8:=(l.take i).drop a
theorem XT (l:List UInt8) (a:Nat):ur l a a=[]:=by simp [ur]
theorem rd {l:List UInt8} {a i:Nat} (ha:a<=i) (hi:i<l.length):ur l a (i+1)=ur l a i++[l[i]]:=by
 unfold ur
 rw [List.take_succ_eq_append_getElem hi,List.drop_append_of_le_length (by simp; omega)]
theorem P7 (x:ByteArray) (a b:Nat):x.extract a b=E3 (ur x.data.toList a b):=by
 apply ByteArray.ext
 apply Array.ext'
 rw [Go.Lib.extract_data]
 simp [E3,ur,List.drop_take]
theorem ci {l:List UInt8} {a i:Nat} (ha:a<=i) (hi:i<=l.length):(ur l a i=[])↔a=i:=by
 unfold ur
 rw [List.drop_eq_nil_iff,List.length_take]
 omega
theorem X5 {x:ByteArray} {i:Nat} (h:i<x.data.toList.length):x.data.toList.getD i 0=x.data.toList[i]:=AT h
theorem AAa {u:UInt8} {n:Nat} (hn:n<256):((u.toNat:Int)=(n:Int))↔u=UInt8.ofNat n:=by
 rw [<- UInt8.toNat_inj,UInt8.toNat_ofNat',Nat.mod_eq_of_lt hn]
 omega
theorem nK {n:Nat} (h:n<256):Ed [((n:Nat):Int)]=E3 [UInt8.ofNat n]:=by
 simp [Ed,E3]
theorem I6 {n:Int} (h:-9223372036854775808<=n) (h1:n<=9223372036854775807):HJ n=some (E3 (Go.Lib.itoa n)):=qi (by
 unfold ay
 rw [qf h h1]
 rfl)
theorem tJ {r:Nat} (h:r<10):OT (r:Int)=some ((48+r:Nat):Int):=lP (by
 unfold We
 rw [if_pos (by simp; omega),Ai (by omega)]
 have e:IntKind.u8.wrap (48+(r:Int))=(48+(r:Int)) % 256:=rfl
 rw [e]
 congr 1
 omega)
theorem wB:∀ (k n:Nat) (acc:ByteArray),n<10^k->n<4611686018427387904->acc.size+k<=100->Io (n:Int) false acc=some (if n=0 then acc else E3 (Go.Lib.decDigits n)++acc):=by
 intro k
 induction k with
 | zero =>
  intro n acc hn hb ha
  have:n=0:=by simpa using hn
  subst this
  refine Ge ?_
  unfold Ef
  rw [if_neg (by simp),if_neg (by simp)]
  rfl
 | succ k ih =>
  intro n acc hn hb ha
  by_cases h0:n=0
  ·subst h0
   refine Ge ?_
   unfold Ef
   rw [if_neg (by simp),if_neg (by simp)]
   rfl
  ·have hq:n / 10<10^k:=by rw [Nat.pow_succ] at hn; omega
   have hs:(E3 [UInt8.ofNat (48+n % 10)]++acc).size=1+acc.size:=by rw [ByteArray.size_append,Ac]; rfl
   have:=ih (n / 10) (E3 [UInt8.ofNat (48+n % 10)]++acc) hq (by omega) (by rw [hs]; omega)
   have et:Int.tmod (n:Int) 10=((n % 10:Nat):Int):=by rw [Int.tmod_eq_emod_of_nonneg (by omega)]; omega
   refine Ge ?_
   unfold Ef
   rw [if_pos (by simpa using h0),if_neg (by omega),et,if_neg (by rw [decide_eq_false (by omega)]; simp)]
   refine UN ?_
   unfold M5
   rw [tJ (by omega),Z,nK (by omega),if_pos (by rw [Ac]; simp; omega),if_neg (by omega),Int.tdiv_eq_ediv_of_nonneg (by omega),Ai (by omega),show (n:Int) / 10=((n / 10:Nat):Int) by omega,this,if_neg h0]
   congr 1
   by_cases h1:n / 10=0
   ·rw [if_pos h1,Go.Lib.decDigits_one (by omega),Nat.mod_eq_of_lt (by omega)]
   ·rw [if_neg h1,Go.Lib.decDigits.eq_def n,dif_neg (by omega),C2,ByteArray.append_assoc]
theorem Nh {n:Nat} (h:n<10000000000000):C_ (n:Int)=some (E3 (Go.Lib.itoa (n:Int))):=an (by
 unfold SH
 have ei:Go.Lib.itoa (n:Int)=Go.Lib.decDigits n:=by unfold Go.Lib.itoa; rw [if_neg (by omega)]; simp
 by_cases h0:n=0
 ·subst h0
  rw [if_pos (by simp),ei,Go.Lib.decDigits_one (by omega)]
  rfl
 ·rw [if_neg (by simpa using h0),show decide ((n:Int)<0)=false from decide_eq_false (by omega),wB 13 n _ (by omega) (by omega) (by decide),if_neg h0,ei]
  congr 1
  apply ByteArray.ext
  simp [ByteArray.data_append,E3])
theorem gA:C_ (-1)=some (E3 (Go.Lib.itoa (-1))):=an (by
 have ei:Go.Lib.itoa (-1)=[45,49]:=by
  unfold Go.Lib.itoa
  rw [if_pos (by decide)]
  show (45:UInt8)::Go.Lib.decDigits 1=_
  rw [Go.Lib.decDigits_one (by omega)]
  rfl
 unfold SH
 rw [if_neg (by decide),ei]
 refine Ge ?_
 unfold Ef
 rw [if_pos (by decide),if_neg (by decide),if_pos (by decide)]
 refine UN ?_
 unfold M5
 rw [show IntKind.i64.wrap (0-Int.tmod (-1) 10)=((1:Nat):Int) by decide,tJ (by omega),Z,nK (by omega),if_pos (by decide),if_neg (by decide),show IntKind.i64.wrap (Int.tdiv (-1) 10)=0 by decide]
 refine Ge ?_
 unfold Ef
 rw [if_neg (by decide),if_pos (by decide),if_pos (by decide)]
 rfl)
def ABv (x:ByteArray) (n:Int):Int×Bool:=if n>1000000000 then (0,false) else if E3 (Go.Lib.itoa n)=x then (n,true) else (0,false)
def X6 (x:ByteArray):List UInt8->Int->Int×Bool
 | [],n=>ABv x n
 | b::r,n=>if b.toNat<48\/57<b.toNat then (0,false) else X6 x r (n*10+((b.toNat:Int)-48))
def de (x:ByteArray):Int×Bool:=if x.size=0\/10<x.size then (0,false) else X6 x x.data.toList 0
theorem xr {x:ByteArray} (hx:x.data.toList.length<=10):∀ (k i:Nat) (n:Int),i+k=x.data.toList.length->0<=n/\n<10^i->F0 x n (i:Int)=some (X6 x (x.data.toList.drop i) n)
 | 0,i,n,hk,hn=>by
  have hp:(10:Int)^i<=10000000000:=by
   have:(10:Nat)^i<=10^10:=Nat.pow_le_pow_right (by omega) (by omega)
   have e:((10^i:Nat):Int)=(10:Int)^i:=by simp
   omega
  refine N9 ?_
  unfold Ia
  rw [if_neg (by rw [decide_eq_false (by rw [D6]; omega)]; simp),List.drop_eq_nil_of_le (by omega)]
  refine Zh ?_
  unfold N7 X6 ABv
  by_cases h1:n>1000000000
  ·rw [if_neg (by simpa using h1),if_pos h1]
  ·rw [if_pos (by simpa using h1),if_neg h1,I6 (by omega) (by omega),Z,Sy]
   by_cases h2:E3 (Go.Lib.itoa n)=x
   ·rw [if_neg (by simp [h2]),if_pos h2]
   ·rw [if_pos (by simp [h2]),if_neg h2]
 | k+1,i,n,hk,hn=>by
  have hp:(10:Int)^i<=10000000000:=by
   have:(10:Nat)^i<=10^10:=Nat.pow_le_pow_right (by omega) (by omega)
   have e:((10^i:Nat):Int)=(10:Int)^i:=by simp
   omega
  have hi:i<x.data.toList.length:=by omega
  refine N9 ?_
  unfold Ia
  rw [Am hi]
  have hu:=(x.data.toList[i]).toNat_lt
  rw [if_pos (decide_eq_true (by rw [D6]; omega)),Ad,X5 hi]
  repeat rw [if_pos (show (0:Int)<=(i:Int) by omega)]
  repeat rw [if_pos (show (i:Int)<(x.size:Int) by rw [D6]; omega)]
  unfold X6
  by_cases h1:(x.data.toList[i]).toNat<48
  ·rw [if_neg (by rw [decide_eq_true (by omega)]; simp),if_pos (.inl h1)]
  ·rw [if_pos (decide_eq_false (by omega))]
   by_cases h2:57<(x.data.toList[i]).toNat
   ·rw [if_pos (decide_eq_true (by omega)),if_pos (.inr h2)]
   ·have w8:IntKind.u8.wrap (((x.data.toList[i]).toNat:Int)-48)=((x.data.toList[i]).toNat:Int)-48:=by
     have e:IntKind.u8.wrap (((x.data.toList[i]).toNat:Int)-48)=(((x.data.toList[i]).toNat:Int)-48) % 256:=rfl
     rw [e]; omega
    have hpow:(10:Int)^(i+1)=10^i*10:=Int.pow_succ ..
    rw [if_neg (by rw [decide_eq_false (by omega)]; simp),if_neg (by omega),w8,Ai (n:=n*10) (by omega),Ai (n:=((x.data.toList[i]).toNat:Int)-48) (by omega),Ai (n:=n*10+_) (by omega),AQ (by omega)]
    exact xr hx k (i+1) _ (by omega) (by rw [hpow]; omega)
theorem xt {x:ByteArray} (hx:x.data.toList.length<=10):∀ (k i:Nat) (n:Int),i+k=x.data.toList.length->0<=n/\n<10^i->Fy x n (i:Int)=some (X6 x (x.data.toList.drop i) n)
 | 0,i,n,hk,hn=>by
  have hp:(10:Int)^i<=10000000000:=by
   have:(10:Nat)^i<=10^10:=Nat.pow_le_pow_right (by omega) (by omega)
   have e:((10^i:Nat):Int)=(10:Int)^i:=by simp
   omega
  refine N0 ?_
  unfold IW
  rw [if_neg (by rw [decide_eq_false (by rw [D6]; omega)]; simp),List.drop_eq_nil_of_le (by omega)]
  refine Za ?_
  unfold Nz X6 ABv
  by_cases h1:n>1000000000
  ·rw [if_neg (by simpa using h1),if_pos h1]
  ·obtain ⟨q,rfl⟩:∃ q:Nat,n=(q:Int):=⟨n.toNat,by omega⟩
   rw [if_pos (by simpa using h1),if_neg h1,Nh (by omega),Z,Sy]
   by_cases h2:E3 (Go.Lib.itoa q)=x
   ·rw [if_neg (by simp [h2]),if_pos h2]
   ·rw [if_pos (by simp [h2]),if_neg h2]
 | k+1,i,n,hk,hn=>by
  have hp:(10:Int)^i<=10000000000:=by
   have:(10:Nat)^i<=10^10:=Nat.pow_le_pow_right (by omega) (by omega)
   have e:((10^i:Nat):Int)=(10:Int)^i:=by simp
   omega
  have hi:i<x.data.toList.length:=by omega
  refine N0 ?_
  unfold IW
  rw [Am hi]
  have hu:=(x.data.toList[i]).toNat_lt
  rw [if_pos (decide_eq_true (by rw [D6]; omega)),Ad,X5 hi]
  repeat rw [if_pos (show (0:Int)<=(i:Int) by omega)]
  repeat rw [if_pos (show (i:Int)<(x.size:Int) by rw [D6]; omega)]
  unfold X6
  by_cases h1:(x.data.toList[i]).toNat<48
  ·rw [if_neg (by rw [decide_eq_true (by omega)]; simp),if_pos (.inl h1)]
  ·rw [if_pos (decide_eq_false (by omega))]
   by_cases h2:57<(x.data.toList[i]).toNat
   ·rw [if_pos (decide_eq_true (by omega)),if_pos (.inr h2)]
   ·have hpow:(10:Int)^(i+1)=10^i*10:=Int.pow_succ ..
    rw [if_neg (by rw [decide_eq_false (by omega)]; simp),if_neg (by omega),Ai (n:=10*n) (by omega),Ai (n:=((x.data.toList[i]).toNat:Int)) (by omega),Ai (n:=10*n+_) (by omega),Ai (n:=10*n+_-48) (by omega),AQ (by omega),show 10*n+((x.data.toList[i]).toNat:Int)-48=n*10+(((x.data.toList[i]).toNat:Int)-48) by omega]
    exact xt hx k (i+1) _ (by omega) (by rw [hpow]; omega)
theorem F5 (x:ByteArray):Hs x=some (de x):=ff (by
 unfold Sm de
 by_cases h0:x.size=0
 ·rw [if_neg (by simp [h0]),if_pos (.inl h0)]
 ·rw [if_pos (by simpa using h0)]
  by_cases h1:10<x.size
  ·rw [if_pos (by simp; omega),if_pos (.inr h1)]
  ·rw [if_neg (by simp; omega),if_neg (by omega)]
   refine Zi ?_
   unfold N8
   exact xr (by rw [<- D6]; omega) x.data.toList.length 0 0 (by omega) (by simp))
theorem F6 (x:ByteArray):ED x=some (de x):=fS (by
 unfold Sh de
 by_cases h1:10<x.size
 ·rw [if_pos (by simp; omega),if_pos (.inr h1)]
 ·rw [if_neg (by simp; omega)]
  have:=xt (x:=x) (by rw [<- D6]; omega) x.data.toList.length 0 0 (by omega) (by simp)
  refine Eq.trans this ?_
  rw [List.drop_zero]
  by_cases h0:x.size=0
  ·have e:x.data.toList=[]:=DV.1 (by rw [<- D6]; exact h0)
   have e2:x=E3 []:=by rw [<- cD x,e]
   rw [if_pos (.inl h0),e]
   unfold X6 ABv
   rw [if_neg (by omega),if_neg (by
    rw [e2]
    intro h
    have h:=xp h
    have e0:Go.Lib.itoa 0=[48]:=by
     unfold Go.Lib.itoa
     rw [if_neg (by omega)]
     show Go.Lib.decDigits 0=_
     rw [Go.Lib.decDigits_one (by omega)]
     rfl
    rw [e0] at h
    cases h)]
  ·rw [if_neg (by omega)])
end Go.Proofs.YtfcgblnlopemkaaGreatDoor.Core
