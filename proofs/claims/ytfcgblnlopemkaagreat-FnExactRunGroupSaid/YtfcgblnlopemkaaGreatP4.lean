/- Texts of the proof, packed: part 5. -/
import Derived.Test.YtfcgblnlopemkaaGreatP3
import Derived.IntWalk
set_option linter.unusedVariables false
set_option linter.unusedSimpArgs false
namespace Go.Proofs.YtfcgblnlopemkaaGreat.Core
open Go IntKind
set_option maxRecDepth 100000
noncomputable section
def eQ:=cG Rf (AK DF) (AK DF) kx
def eR:=kE 0 [(3,0)] [3] 1 eQ kx
def bf:St->Option (RT (BI.outs DF)):=lG Re [(3,0)] [3,6,7,8] 1 (AK DF) eR
def Gz (x0:List (List Int)) (x1 x2:Int) (x3:List (List Int)):Option (List (List Int)):=bf ⟨[(3,.row 0),(6,.lst .S x0),(7,.int .i64 x1),(8,.int .i64 x2)],[.rows 31 .S x3]⟩
def KM (x0:List (List Int)) (x1 x2:Int) (x3:List (List Int)):Option (List (List Int)):=(if (decide (x2<x1))=true then (if 0<=x2 then (if x2<(x0.length:Int) then ((BG (x0.getD x2.toNat ([]:List Int))).bind fun y1=>(if x3.length+([y1]:List (List Int)).length<=68719476736 then (Gz x0 x1 (i64.wrap (x2+1)) (x3++([y1]:List (List Int)))) else none)) else none) else none) else (some x3))
def Vi (x0:List (List Int)):Option (List (List Int)):=(Gz x0 (x0.length:Int) 0 ([]:List (List Int)))
theorem QZ:so KM Gz:=lS (by kernel_rfl)
theorem lW:SU Vi OB:=cT DF rfl ⟨rfl,rfl⟩ (by kernel_rfl)
def Qa (x0:Int) (x1:List (List Int)) (x2:Bool) (x3:Z):Option (Z×Bool):=cG Rg (AK FX) (AK FX) kx ⟨[(0,.int .i64 x0),(1,.lst .S x1),(4,.ptr 0 0),(14,.bool x2)],[.var (AB.enc x3)]⟩
def Qb (x0:Int) (x1:List (List Int)) (x2:Bool) (x3:Z):Option (Z×Bool):=(if 0<=(0:Int) then (if 0<(x1.length:Int) then (if 0<=(0:Int) then (if 0<((x1.getD (0:Int).toNat ([]:List Int)).length:Int) then (if 0<=(0:Int) then (if 0<(x1.length:Int) then ((Co (x1.getD (0:Int).toNat ([]:List Int)) x0).bind fun y3=>(some ((x0,1,false,y3,(((x1.getD (0:Int).toNat ([]:List Int)).getD (0:Int).toNat 0)==x0),(((x1.getD (0:Int).toNat ([]:List Int)).getD (0:Int).toNat 0)==x0),([]:List Int),([]:List AA),0,0,0,0,(U,U,0),([]:List Int)),true))) else none) else none) else none) else none) else none) else none)
def Vj (x0:Int) (x1:List (List Int)):Option (Z×Bool):=((FR x0).bind fun y1=>(if (!y1)=false then ((EW x1).bind fun y2=>(if (!y2)=true then (some ((0,0,false,false,false,false,([]:List Int),([]:List AA),0,0,0,0,(U,U,0),([]:List Int)),false)) else (Qa x0 x1 (!y2) (0,0,false,false,false,false,([]:List Int),([]:List AA),0,0,0,0,(U,U,0),([]:List Int))))) else (some ((0,0,false,false,false,false,([]:List Int),([]:List AA),0,0,0,0,(U,U,0),([]:List Int)),false))))
theorem bg:so Qb Qa:=jS (by kernel_rfl)
theorem lX:JF Vj OC:=cT FX rfl ⟨rfl,rfl⟩ (by kernel_rfl)
def Zr (x0 x1 x2:Int):Option Bool:=(if (decide (x0>=x1))=true then (some (decide (x0<=x2))) else (some false))
theorem rW:Jl Zr Av:=cT MT rfl ⟨rfl,rfl⟩ (by kernel_rfl)
def cW (x0:Int):Option Bool:=((Av x0 1 6).bind fun y1=>(some y1))
theorem tQ:SU cW FR:=cT OY rfl ⟨rfl,rfl⟩ (by kernel_rfl)
def K3 (x0:Int) (x1:ByteArray) (x2:Bool):Option Bool:=cG ZH (AK JR) (AK JR) kx ⟨[(0,.int .i64 x0),(3,.str x1),(26,.bool x2)],[]⟩
def Pp (x0:Int) (x1:ByteArray) (x2:Bool):Option Bool:=(if (x0==1)=false then (some (x1.toList==(⟨#[]⟩:ByteArray).toList)) else (some true))
def Wq (x0 x1:Int) (x2 x3:ByteArray):Option Bool:=((Av x0 1 2).bind fun y1=>(if (!y1)=false then ((Av x1 0 1000).bind fun y2=>(if (!y2)=false then ((Qw x2).bind fun y3=>(if (!y3)=false then (if (decide ((x3.size:Int)>20))=true then (some false) else (K3 x0 x3 (decide ((x3.size:Int)>20)))) else (some false))) else (some false))) else (some false)))
theorem Xy:Jl Pp K3:=jS (by kernel_rfl)
theorem iL:so Wq Mj:=cT JR rfl ⟨rfl,rfl⟩ (by kernel_rfl)
def SF (x1:AQ) (x2:Int) (b0:AL):Option (Bool×AL):=(if b0.2.2.2.length+([(x1.2.2.2.1,x1.2.2.2.2.1,x1.2.2.2.2.2,x2,(-1:Int),0,0,0,U)]:List AP).length<=68719476736 then ((B8 x1.2.1 (b0.1,b0.2.1,b0.2.2.1,(b0.2.2.2++([(x1.2.2.2.1,x1.2.2.2.2.1,x1.2.2.2.2.2,x2,(-1:Int),0,0,0,U)]:List AP)))).bind fun y1=>(if 0<=y1.1 then (if y1.1<(y1.2.2.1.length:Int) then ((Qx (y1.2.2.1.getD y1.1.toNat (0,0,false,false,false,false,([]:List Int),([]:List AA),0,0,0,0,(U,U,0),([]:List Int))) y1.2.1 x1.2.2.2.1 (b0.2.2.2.length:Int) x1.2.2.2.2.1 x1.2.2.2.2.2).bind fun y2=>(if (!y2.2.2.2)=true then (some (false,y1.2)) else (if 0<=y1.1 then (if y1.1<(y1.2.2.1.length:Int) then (let z3:List Z:=y1.2.2.1.set y1.1.toNat y2.1; ((GU y2.2.1 y2.2.2.1 x2 (y1.2.1,z3,y1.2.2.2)).bind fun y4=>(some (true,y4)))) else none) else none))) else none) else none)) else none)
theorem eS:Jl SF LG:=cT Hg rfl ⟨rfl,rfl⟩ (by kernel_rfl)
def Zs:=cG NU (AK Ce) (AK Ce) kx
def Zt:=kE 0 [] [] 5 Zs kx
def Yd:St->Option (RT (BI.outs Ce)):=lG O2 [] [0,2,4,7,8] 5 (AK Ce) Zt
def D1 (x0 x1 x2:Int) (x3:List (List Int)) (x4:List Z) (x5:List AD) (x6:List AP) (x7:AQ):Option (Bool×AL):=Yd ⟨[(0,.ptr 0 0),(2,.int .i64 x0),(4,.ptr 4 0),(7,.int .i64 x1),(8,.int .i64 x2)],[.var [.lst .S x3,.row 1,.row 2,.row 3],.rows 74 AB x4,.rows 90 AI x5,.rows 88 Ag x6,.var (AO.enc x7)]⟩
def F0 (x0 x1 x2:Int) (x3:List (List Int)) (x4:List Z) (x5:List AD) (x6:List AP) (x7:AQ):Option (Bool×AL):=(if (decide (x2<=(x3.length:Int)))=true then (if 0<=(i64.wrap (x2-1)) then (if (i64.wrap (x2-1))<(x3.length:Int) then (if 0<=(0:Int) then (if 0<((x3.getD (i64.wrap (x2-1)).toNat ([]:List Int)).length:Int) then (if (((x3.getD (i64.wrap (x2-1)).toNat ([]:List Int)).getD (0:Int).toNat 0) != x7.2.1)=true then (D1 x0 x1 (i64.wrap (x2+1)) x3 x4 x5 x6 x7) else (if 0<=x1 then (if x1<(x4.length:Int) then ((Qy (x4.getD x1.toNat (0,0,false,false,false,false,([]:List Int),([]:List AA),0,0,0,0,(U,U,0),([]:List Int))) x3 x2).bind fun y2=>(if y2.2.2=true then (if 0<=x1 then (if x1<(x4.length:Int) then (let z3:List Z:=x4.set x1.toNat y2.1; ((GU y2.2.1 ([]) x0 (x3,z3,x5,x6)).bind fun y4=>(some (y2.2.2,y4)))) else none) else none) else (some (y2.2.2,(x3,x4,x5,x6))))) else none) else none)) else none) else none) else none) else none) else (some (false,(x3,x4,x5,x6))))
def SG (x1:AQ) (x2:Int) (b0:AL):Option (Bool×AL):=((B8 x1.2.1 b0).bind fun y1=>(if 0<=y1.1 then (if y1.1<(y1.2.2.1.length:Int) then (D1 x2 y1.1 (i64.wrap ((((y1.2.2.1.getD y1.1.toNat (0,0,false,false,false,false,([]:List Int),([]:List AA),0,0,0,0,(U,U,0),([]:List Int))).2).1)+1)) y1.2.1 y1.2.2.1 y1.2.2.2.1 y1.2.2.2.2 x1) else none) else none))
theorem IV:Le8 F0 D1:=lS (by kernel_rfl)
theorem eT:Jl SG LI:=cT Ce rfl ⟨rfl,rfl⟩ (by kernel_rfl)
def Qc (x1:Int) (b0:AL):Option (Int×AL):=((CM b0.2.1 x1).bind fun y1=>(some (y1,b0)))
theorem bh:JF Qc B8:=cT Gr rfl ⟨rfl,rfl⟩ (by kernel_rfl)
def wu (x0:Z):Option Z:=(some (x0.1,x0.2.1,true,false,false,false,([]:List Int),([]:List AA),0,0,0,0,(U,U,0),([]:List Int)))
theorem wy:SU wu Ta:=cT TE rfl ⟨rfl,rfl⟩ (by kernel_rfl)
def PB (x1:AQ) (x2:Int) (b0:AL):Option (Bool×AL):=(if ((b0.2.2.1.length:Int)==0)=true then (some (false,b0)) else (if (b0.2.2.1.length:Int)=0 then none else (if (x1.1==2)=true then ((I5 (Int.tmod x1.2.2.1 (b0.2.2.1.length:Int)) x2 b0).bind fun y1=>(some (true,y1))) else (if (x1.1==3)=true then ((Bq b0.2.2.1 (Int.tmod x1.2.2.1 (b0.2.2.1.length:Int)) (i64.wrap ((Int.tmod x1.2.2.1 (b0.2.2.1.length:Int))+1))).bind fun y2=>(some (true,(b0.1,b0.2.1,y2,b0.2.2.2)))) else (if (x1.1==4)=true then (if 0<=(Int.tmod x1.2.2.1 (b0.2.2.1.length:Int)) then (if (Int.tmod x1.2.2.1 (b0.2.2.1.length:Int))<(b0.2.2.1.length:Int) then ((I4 (b0.2.2.1.getD ((Int.tmod x1.2.2.1 (b0.2.2.1.length:Int)).toNat) (0,0,0,0,0,([]:List AA)))).bind fun y3=>(if b0.2.2.1.length+([y3]:List AD).length<=68719476736 then (some (true,(b0.1,b0.2.1,(b0.2.2.1++([y3]:List AD)),b0.2.2.2))) else none)) else none) else none) else (some (true,b0)))))))
theorem Zu:Jl PB I3:=cT GP rfl ⟨rfl,rfl⟩ (by kernel_rfl)
def Tl (x0:Z):Option Z:=((BG x0.2.2.2.2.2.2.1).bind fun y1=>((Ae x0.2.2.2.2.2.2.2.1).bind fun y2=>((BG x0.2.2.2.2.2.2.2.2.2.2.2.2.2).bind fun y3=>(some (x0.1,x0.2.1,x0.2.2.1,x0.2.2.2.1,x0.2.2.2.2.1,x0.2.2.2.2.2.1,y1,y2,x0.2.2.2.2.2.2.2.2.1,x0.2.2.2.2.2.2.2.2.2.1,x0.2.2.2.2.2.2.2.2.2.2.1,x0.2.2.2.2.2.2.2.2.2.2.2.1,x0.2.2.2.2.2.2.2.2.2.2.2.2.1,y3)))))
theorem iM:SU Tl Da:=cT Ic rfl ⟨rfl,rfl⟩ (by kernel_rfl)
def Zv (x0:AD):Option AD:=((Ae x0.2.2.2.2.2).bind fun y1=>(some (x0.1,x0.2.1,x0.2.2.1,x0.2.2.2.1,x0.2.2.2.2.1,y1)))
theorem rX:SU Zv I4:=cT MU rfl ⟨rfl,rfl⟩ (by kernel_rfl)
def Xz (x0 x1:Z):Option Bool:=(if (x0.1 != x1.1)=true then (some false) else (if (x0.2.1 != x1.2.1)=true then (some false) else (if (true != MA .bool x0.2.2.1 x1.2.2.1)=true then (some false) else (if (true != MA .bool x0.2.2.2.1 x1.2.2.2.1)=true then (some false) else (if (true != MA .bool x0.2.2.2.2.1 x1.2.2.2.2.1)=true then (some false) else (if (true != MA .bool x0.2.2.2.2.2.1 x1.2.2.2.2.2.1)=true then (some false) else ((FQ x0.2.2.2.2.2.2.1 x1.2.2.2.2.2.2.1).bind fun y1=>(if (!y1)=true then (some false) else ((Mk x0.2.2.2.2.2.2.2.1 x1.2.2.2.2.2.2.2.1).bind fun y2=>(if (!y2)=true then (some false) else (if (x0.2.2.2.2.2.2.2.2.1 != x1.2.2.2.2.2.2.2.2.1)=true then (some false) else ((UQ x0.2.2.2.2.2.2.2.2.2 x1.2.2.2.2.2.2.2.2.2).bind fun y3=>(if (!y3)=true then (some false) else (some true))))))))))))))
theorem oK:JF Xz Ph:=cT Kq rfl ⟨rfl,rfl⟩ (by kernel_rfl)
def iN (x0 x1:AD):Option Bool:=(if (x0.1 != x1.1)=true then (some false) else (if (x0.2.1 != x1.2.1)=true then (some false) else (if (x0.2.2.1 != x1.2.2.1)=true then (some false) else (if (x0.2.2.2.1 != x1.2.2.2.1)=true then (some false) else (if (x0.2.2.2.2.1 != x1.2.2.2.2.1)=true then (some false) else ((Mk x0.2.2.2.2.2 x1.2.2.2.2.2).bind fun y1=>(if (!y1)=true then (some false) else (some true))))))))
theorem vG:JF iN Wj:=cT Qs rfl ⟨rfl,rfl⟩ (by kernel_rfl)
def cX (x0 x1:AP):Option Bool:=(if (x0.1 != x1.1)=true then (some false) else (if (!(x0.2.1.toList==x1.2.1.toList))=true then (some false) else (if (!(x0.2.2.1.toList==x1.2.2.1.toList))=true then (some false) else (if (x0.2.2.2.1 != x1.2.2.2.1)=true then (some false) else (if (x0.2.2.2.2.1 != x1.2.2.2.2.1)=true then (some false) else (if (x0.2.2.2.2.2.1 != x1.2.2.2.2.2.1)=true then (some false) else (if (x0.2.2.2.2.2.2.1 != x1.2.2.2.2.2.2.1)=true then (some false) else (if (x0.2.2.2.2.2.2.2.1 != x1.2.2.2.2.2.2.2.1)=true then (some false) else (if (!(x0.2.2.2.2.2.2.2.2.toList==x1.2.2.2.2.2.2.2.2.toList))=true then (some false) else (some true))))))))))
theorem tR:JF cX UP:=cT OZ rfl ⟨rfl,rfl⟩ (by kernel_rfl)
def eU:=cG P9 (AK DG) (AK DG) kx
def eV:=kE 0 [] [1] 1 eU kx
def bl:St->Option (RT (BI.outs DG)):=lG Rh [(0,0)] [0,1,5] 1 (AK DG) eV
def G0 (x0 x1:Int) (x2:List AA):Option (Int×List AA):=bl ⟨[(0,.row 0),(1,.int .i64 x0),(5,.int .i64 x1)],[.mrow 70 AG x2]⟩
def KN (x0 x1:Int) (x2:List AA):Option (Int×List AA):=(if (decide (x1<(x2.length:Int)))=true then ((Aw x0).bind fun y1=>(if 0<=x1 then (if x1<(x2.length:Int) then (let z2:List AA:=x2.set x1.toNat (y1,(x2.getD x1.toNat (U,U,0)).2); ((Aw (i64.wrap (x0+1))).bind fun y3=>(if 0<=x1 then (if x1<(z2.length:Int) then (let z4:List AA:=z2.set x1.toNat ((z2.getD x1.toNat (U,U,0)).1,y3,((z2.getD x1.toNat (U,U,0)).2).2); (if 0<=x1 then (if x1<(z4.length:Int) then (let z5:List AA:=z4.set x1.toNat ((z4.getD x1.toNat (U,U,0)).1,((z4.getD x1.toNat (U,U,0)).2).1,(i64.wrap ((i64.wrap (x0+1))+1))); (G0 (i64.wrap ((i64.wrap ((i64.wrap (x0+1))+1))+1)) (i64.wrap (x1+1)) z5)) else none) else none)) else none) else none))) else none) else none)) else (some (x0,x2)))
def lY (x1:Int) (b0:List AA):Option (Int×List AA):=(G0 x1 0 b0)
theorem Qd:Jl KN G0:=lS (by kernel_rfl)
theorem lZ:JF lY FZ:=cT DG rfl ⟨rfl,rfl⟩ (by kernel_rfl)
def eW:=cG QA (AK DH) (AK DH) kx
def eX:=kE 0 [] [1] 0 eW kx
def bm:St->Option (RT (BI.outs DH)):=lG P_ [] [0,1,5] 0 (AK DH) eX
def G1 (x0:List AA) (x1 x2:Int):Option Int:=bm ⟨[(0,.lst AG x0),(1,.int .i64 x1),(5,.int .i64 x2)],[]⟩
def KO (x0:List AA) (x1 x2:Int):Option Int:=(if (decide (x2<(x0.length:Int)))=true then (if 0<=x2 then (if x2<(x0.length:Int) then ((Aw x1).bind fun y1=>(if (!(((x0.getD x2.toNat (U,U,0)).1).toList==y1.toList))=true then (some (-1:Int)) else (if 0<=x2 then (if x2<(x0.length:Int) then ((Aw (i64.wrap (x1+1))).bind fun y2=>(if (!((((x0.getD x2.toNat (U,U,0)).2).1).toList==y2.toList))=true then (some (-1:Int)) else (if 0<=x2 then (if x2<(x0.length:Int) then (if ((((x0.getD x2.toNat (U,U,0)).2).2) != (i64.wrap ((i64.wrap (x1+1))+1)))=true then (some (-1:Int)) else (G1 x0 (i64.wrap ((i64.wrap ((i64.wrap (x1+1))+1))+1)) (i64.wrap (x2+1)))) else none) else none))) else none) else none))) else none) else none) else (some x1))
def la (x0:List AA) (x1:Int):Option Int:=(G1 x0 x1 0)
theorem Qe:Jl KO G1:=lS (by kernel_rfl)
theorem lc:JF la Fa:=cT DH rfl ⟨rfl,rfl⟩ (by kernel_rfl)
def ld:=cG VI (AK EQ) (AK EQ) kx
def lf:=kE 0 [] [] 0 ld kx
def iO:St->Option (RT (BI.outs EQ)):=lG VH [] [0,3] 0 (AK EQ) lf
def Io (x0:List Int) (x1:Int):Option Bool:=iO ⟨[(0,.lst .W x0),(3,.int .i64 x1)],[]⟩
def M2 (x0:List Int) (x1:Int):Option Bool:=(if (decide (x1<(x0.length:Int)))=true then (if 0<=x1 then (if x1<(x0.length:Int) then ((Ab (x0.getD x1.toNat 0) 1 6).bind fun y2=>(if (!y2)=true then (some false) else (if 0<=(0:Int) then (if 0<=x1 then (if x1<=(x0.length:Int) then (if 0<=x1 then (if x1<(x0.length:Int) then ((E5 ((x0.take x1.toNat).drop (0:Int).toNat) (x0.getD x1.toNat 0)).bind fun y3=>(if y3=true then (some false) else (Io x0 (i64.wrap (x1+1))))) else none) else none) else none) else none) else none))) else none) else none) else (some true))
def Zw (x0:List Int):Option Bool:=((Ab (x0.length:Int) 1 4).bind fun y1=>(if (!y1)=true then (some false) else (Io x0 0)))
theorem Tm:JF M2 Io:=lS (by kernel_rfl)
theorem rY:SU Zw Rs:=cT EQ rfl ⟨rfl,rfl⟩ (by kernel_rfl)
def rZ:=cG ZK (AK GQ) (AK GQ) kx
def rc:=kE 0 [] [] 0 rZ kx
def oL:St->Option (RT (BI.outs GQ)):=lG ZJ [] [0,1,5] 0 (AK GQ) rc
def K4 (x0:List Int) (x1 x2:Int):Option Bool:=oL ⟨[(0,.lst .W x0),(1,.int .i64 x1),(5,.int .i64 x2)],[]⟩
def Pq (x0:List Int) (x1 x2:Int):Option Bool:=(if (decide (x2<(x0.length:Int)))=true then (if 0<=x2 then (if x2<(x0.length:Int) then (if ((x0.getD x2.toNat 0)==x1)=true then (some true) else (K4 x0 x1 (i64.wrap (x2+1)))) else none) else none) else (some false))
def iP (x0:List Int) (x1:Int):Option Bool:=(K4 x0 x1 0)
theorem X0:Jl Pq K4:=lS (by kernel_rfl)
theorem vH:JF iP E5:=cT GQ rfl ⟨rfl,rfl⟩ (by kernel_rfl)
def Zx:=cG VK (AK B7) (AK B7) kx
def rf:=kE 0 [(16,2)] [12,16,17,18] 6 Zx kx
def oM:St->Option (RT (BI.outs B7)):=lG N0 [(16,2)] [2,6,12,16,17,18,19,20,21] 6 (AK B7) rf
def rg:=kE 0 [(16,2)] [12,16,17,18] 5 Zx kx
def oN:St->Option (RT (BI.outs B7)):=lG N0 [(16,2)] [2,6,12,16,17,18,19,20,21] 5 (AK B7) rg
def Ei (x0:Int) (x1:List AM) (x2:List Int) (x3:Int) (x4 x5:Z) (x6:List AD) (x7:Z) (x8:AA) (x9:List AA):Option (Z×List AD×List AM×Bool):=oM ⟨[(2,.int .i64 x0),(6,.ptr 0 0),(12,.ptr 1 0),(16,.row 2),(17,.lst BD x1),(18,.ptr 3 0),(19,.ptr 4 0),(20,.lst .W x2),(21,.int .i64 x3)],[.var (AB.enc x4),.var (AB.enc x5),.rows 90 AI x6,.var (AB.enc x7),.var (AG.enc x8),.rows 70 AG x9]⟩
def Pr (x0:List (List Int)) (x1 x2:Int) (x3:List AM) (x4:Bool) (x5 x6:Z) (x7:List AD) (x8:Z) (x9:AA) (x10:List AA):Option (Z×List AD×List AM×Bool):=cG N1 (AK B7) (AK B7) kx ⟨[(1,.lst .S x0),(2,.int .i64 x1),(3,.int .i64 x2),(6,.ptr 0 0),(12,.ptr 1 0),(16,.row 2),(17,.lst BD x3),(18,.ptr 3 0),(19,.ptr 4 0),(130,.bool x4)],[.var (AB.enc x5),.var (AB.enc x6),.rows 90 AI x7,.var (AB.enc x8),.var (AG.enc x9),.rows 70 AG x10]⟩
def Ej (x0:Int) (x1:List AM) (x2:List Int) (x3:Int) (x4 x5:Z) (x6:List AD) (x7:Z) (x8:AA):Option (Z×List AD×List AM×Bool):=oN ⟨[(2,.int .i64 x0),(6,.ptr 0 0),(12,.ptr 1 0),(16,.row 2),(17,.lst BD x1),(18,.ptr 3 0),(19,.ptr 4 0),(20,.lst .W x2),(21,.int .i64 x3)],[.var (AB.enc x4),.var (AB.enc x5),.rows 90 AI x6,.var (AB.enc x7),.var (AG.enc x8)]⟩
def Ps (x0:List (List Int)) (x1 x2:Int) (x3:List AM) (x4:Bool) (x5 x6:Z) (x7:List AD) (x8:Z) (x9:AA):Option (Z×List AD×List AM×Bool):=cG N1 (AK B7) (AK B7) kx ⟨[(1,.lst .S x0),(2,.int .i64 x1),(3,.int .i64 x2),(6,.ptr 0 0),(12,.ptr 1 0),(16,.row 2),(17,.lst BD x3),(18,.ptr 3 0),(19,.ptr 4 0),(130,.bool x4)],[.var (AB.enc x5),.var (AB.enc x6),.rows 90 AI x7,.var (AB.enc x8),.var (AG.enc x9)]⟩
def C5 (x0:List (List Int)) (x1 x2:Int) (x3 x4:ByteArray) (x5:List AM) (x6:Bool) (x7 x8:Z) (x9:List AD):Option (Z×List AD×List AM×Bool):=cG VL (AK B7) (AK B7) kx ⟨[(1,.lst .S x0),(2,.int .i64 x1),(3,.int .i64 x2),(4,.str x3),(5,.str x4),(6,.ptr 0 0),(12,.ptr 1 0),(16,.row 2),(17,.lst BD x5),(100,.bool x6)],[.var (AB.enc x7),.var (AB.enc x8),.rows 90 AI x9]⟩
def Pt (x0:Int) (x1:List AM) (x2:List Int) (x3:Int) (x4 x5:Z) (x6:List AD) (x7:Z) (x8:AA) (x9:List AA):Option (Z×List AD×List AM×Bool):=(if (decide (x3<(x2.length:Int)))=true then (if 0<=x3 then (if x3<(x2.length:Int) then (if ((x2.getD x3.toNat 0)==x4.1)=true then (Ei x0 x1 x2 (i64.wrap (x3+1)) x4 x5 x6 x7 x8 x9) else (if 0<=x3 then (if x3<(x2.length:Int) then (if (x0==1)=true then (if x6.length+([(5,x4.1,(x2.getD x3.toNat 0),x4.2.1,x7.2.2.2.2.2.2.2.2.1,([x8]:List AA))]:List AD).length<=68719476736 then (Ei x0 x1 x2 (i64.wrap (x3+1)) x4 x5 (x6++([(5,x4.1,(x2.getD x3.toNat 0),x4.2.1,x7.2.2.2.2.2.2.2.2.1,([x8]:List AA))]:List AD)) x7 x8 x9) else none) else (if x6.length+([(7,x4.1,(x2.getD x3.toNat 0),x4.2.1,x7.2.2.2.2.2.2.2.2.1,([]:List AA))]:List AD).length<=68719476736 then (Ei x0 x1 x2 (i64.wrap (x3+1)) x4 x5 (x6++([(7,x4.1,(x2.getD x3.toNat 0),x4.2.1,x7.2.2.2.2.2.2.2.2.1,([]:List AA))]:List AD)) x7 x8 x9) else none)) else none) else none)) else none) else none) else (some (x7,x6,x1,true)))
def X1 (x0:List (List Int)) (x1 x2:Int) (x3:List AM) (x4:Bool) (x5 x6:Z) (x7:List AD) (x8:Z) (x9:AA) (x10:List AA):Option (Z×List AD×List AM×Bool):=(if 0<=(i64.wrap (x5.2.1-1)) then (if (i64.wrap (x5.2.1-1))<(x0.length:Int) then ((HC (x0.getD (i64.wrap (x5.2.1-1)).toNat ([]:List Int)) x5.1).bind fun y8=>(if ((y8.length:Int)==0)=true then ((HD (x8.1,x8.2.1,x8.2.2.1,x8.2.2.2.1,x8.2.2.2.2.1,x8.2.2.2.2.2.1,x8.2.2.2.2.2.2.1,x8.2.2.2.2.2.2.2.1,x8.2.2.2.2.2.2.2.2.1,x1,x2,x8.2.2.2.2.2.2.2.2.1,x9,y8)).bind fun y9=>(some (y9.2,x7,y9.1,true))) else (Ei x1 x3 (x0.getD (i64.wrap (x5.2.1-1)).toNat ([]:List Int)) 0 x5 x6 x7 (x8.1,x8.2.1,x8.2.2.1,x8.2.2.2.1,x8.2.2.2.2.1,x8.2.2.2.2.2.1,x8.2.2.2.2.2.2.1,x8.2.2.2.2.2.2.2.1,x8.2.2.2.2.2.2.2.2.1,x1,x2,x8.2.2.2.2.2.2.2.2.1,x9,y8) x9 x10))) else none) else none)
def Pu (x0:Int) (x1:List AM) (x2:List Int) (x3:Int) (x4 x5:Z) (x6:List AD) (x7:Z) (x8:AA):Option (Z×List AD×List AM×Bool):=(if (decide (x3<(x2.length:Int)))=true then (if 0<=x3 then (if x3<(x2.length:Int) then (if ((x2.getD x3.toNat 0)==x4.1)=true then (Ej x0 x1 x2 (i64.wrap (x3+1)) x4 x5 x6 x7 x8) else (if 0<=x3 then (if x3<(x2.length:Int) then (if (x0==1)=true then (if x6.length+([(5,x4.1,(x2.getD x3.toNat 0),x4.2.1,x7.2.2.2.2.2.2.2.2.1,([x8]:List AA))]:List AD).length<=68719476736 then (Ej x0 x1 x2 (i64.wrap (x3+1)) x4 x5 (x6++([(5,x4.1,(x2.getD x3.toNat 0),x4.2.1,x7.2.2.2.2.2.2.2.2.1,([x8]:List AA))]:List AD)) x7 x8) else none) else (if x6.length+([(7,x4.1,(x2.getD x3.toNat 0),x4.2.1,x7.2.2.2.2.2.2.2.2.1,([]:List AA))]:List AD).length<=68719476736 then (Ej x0 x1 x2 (i64.wrap (x3+1)) x4 x5 (x6++([(7,x4.1,(x2.getD x3.toNat 0),x4.2.1,x7.2.2.2.2.2.2.2.2.1,([]:List AA))]:List AD)) x7 x8) else none)) else none) else none)) else none) else none) else (some (x7,x6,x1,true)))
def X2 (x0:List (List Int)) (x1 x2:Int) (x3:List AM) (x4:Bool) (x5 x6:Z) (x7:List AD) (x8:Z) (x9:AA):Option (Z×List AD×List AM×Bool):=(if 0<=(i64.wrap (x5.2.1-1)) then (if (i64.wrap (x5.2.1-1))<(x0.length:Int) then ((HC (x0.getD (i64.wrap (x5.2.1-1)).toNat ([]:List Int)) x5.1).bind fun y10=>(if ((y10.length:Int)==0)=true then ((HD (x8.1,x8.2.1,x8.2.2.1,x8.2.2.2.1,x8.2.2.2.2.1,x8.2.2.2.2.2.1,x8.2.2.2.2.2.2.1,x8.2.2.2.2.2.2.2.1,x8.2.2.2.2.2.2.2.2.1,x1,x2,x8.2.2.2.2.2.2.2.2.1,x9,y10)).bind fun y11=>(some (y11.2,x7,y11.1,true))) else (Ej x1 x3 (x0.getD (i64.wrap (x5.2.1-1)).toNat ([]:List Int)) 0 x5 x6 x7 (x8.1,x8.2.1,x8.2.2.1,x8.2.2.2.1,x8.2.2.2.2.1,x8.2.2.2.2.2.1,x8.2.2.2.2.2.2.1,x8.2.2.2.2.2.2.2.1,x8.2.2.2.2.2.2.2.2.1,x1,x2,x8.2.2.2.2.2.2.2.2.1,x9,y10) x9))) else none) else none)
def X3 (x0:List (List Int)) (x1 x2:Int) (x3 x4:ByteArray) (x5:List AM) (x6:Bool) (x7 x8:Z) (x9:List AD):Option (Z×List AD×List AM×Bool):=((DZ x7).bind fun y5=>(if (x1==1)=true then ((I6 x7.2.2.2.2.2.2.2.1 (x3,x4,(i64.wrap ((i64.wrap (1000*x7.2.1))+(i64.wrap (x7.2.2.2.2.2.2.2.2.1+1)))))).bind fun y6=>((Oe y6 x3).bind fun y7=>(if (true != MA AG y7 (x3,x4,(i64.wrap ((i64.wrap (1000*x7.2.1))+(i64.wrap (x7.2.2.2.2.2.2.2.2.1+1))))))=true then (some ((0,0,false,false,false,false,([]:List Int),([]:List AA),0,0,0,0,(U,U,0),([]:List Int)),x9,x5,false)) else (Pr x0 x1 x2 x5 (true != MA AG y7 (x3,x4,(i64.wrap ((i64.wrap (1000*x7.2.1))+(i64.wrap (x7.2.2.2.2.2.2.2.2.1+1)))))) x7 x8 x9 (y5.1,y5.2.1,y5.2.2.1,y5.2.2.2.1,y5.2.2.2.2.1,y5.2.2.2.2.2.1,y5.2.2.2.2.2.2.1,y5.2.2.2.2.2.2.2.1,(i64.wrap (x7.2.2.2.2.2.2.2.2.1+1)),y5.2.2.2.2.2.2.2.2.2) (x3,x4,(i64.wrap ((i64.wrap (1000*x7.2.1))+(i64.wrap (x7.2.2.2.2.2.2.2.2.1+1))))) y6)))) else (Ps x0 x1 x2 x5 false x7 x8 x9 (y5.1,y5.2.1,y5.2.2.1,y5.2.2.2.1,y5.2.2.2.2.1,y5.2.2.2.2.2.1,y5.2.2.2.2.2.2.1,y5.2.2.2.2.2.2.2.1,(i64.wrap (x7.2.2.2.2.2.2.2.2.1+1)),y5.2.2.2.2.2.2.2.2.2) (x3,x4,(i64.wrap ((i64.wrap (1000*x7.2.1))+(i64.wrap (x7.2.2.2.2.2.2.2.2.1+1))))))))
def iQ (x0:Z) (x1:List (List Int)) (x2 x3:Int) (x4 x5:ByteArray):Option (Z×List AD×List AM×Bool):=((GI x0).bind fun y1=>(if (!y1)=true then (some ((0,0,false,false,false,false,([]:List Int),([]:List AA),0,0,0,0,(U,U,0),([]:List Int)),([]:List AD),([]:List AM),false)) else ((EV x1).bind fun y2=>(if (!y2)=true then (some ((0,0,false,false,false,false,([]:List Int),([]:List AA),0,0,0,0,(U,U,0),([]:List Int)),([]:List AD),([]:List AM),false)) else (if (!x0.2.2.2.2.2.1)=true then (some ((0,0,false,false,false,false,([]:List Int),([]:List AA),0,0,0,0,(U,U,0),([]:List Int)),([]:List AD),([]:List AM),false)) else (if (x0.2.2.2.2.2.2.2.2.2.1 != 0)=true then (some ((0,0,false,false,false,false,([]:List Int),([]:List AA),0,0,0,0,(U,U,0),([]:List Int)),([]:List AD),([]:List AM),false)) else (if (decide (x0.2.2.2.2.2.2.2.2.1>=900))=true then (some ((0,0,false,false,false,false,([]:List Int),([]:List AA),0,0,0,0,(U,U,0),([]:List Int)),([]:List AD),([]:List AM),false)) else (if (x2 != 1)=true then (if (x2 != 2)=true then (some ((0,0,false,false,false,false,([]:List Int),([]:List AA),0,0,0,0,(U,U,0),([]:List Int)),([]:List AD),([]:List AM),false)) else ((Ab x3 0 1000).bind fun y3=>(if (!y3)=true then (some ((0,0,false,false,false,false,([]:List Int),([]:List AA),0,0,0,0,(U,U,0),([]:List Int)),([]:List AD),([]:List AM),false)) else ((Ab (x4.size:Int) 1 12).bind fun y4=>(if (!y4)=true then (some ((0,0,false,false,false,false,([]:List Int),([]:List AA),0,0,0,0,(U,U,0),([]:List Int)),([]:List AD),([]:List AM),false)) else (if (decide ((x5.size:Int)>20))=true then (some ((0,0,false,false,false,false,([]:List Int),([]:List AA),0,0,0,0,(U,U,0),([]:List Int)),([]:List AD),([]:List AM),false)) else (if (x2==2)=true then (if (!(x5.toList==(⟨#[]⟩:ByteArray).toList))=true then (some ((0,0,false,false,false,false,([]:List Int),([]:List AA),0,0,0,0,(U,U,0),([]:List Int)),([]:List AD),([]:List AM),false)) else (if (decide (x0.2.1>(x1.length:Int)))=true then (some ((0,0,false,false,false,false,([]:List Int),([]:List AA),0,0,0,0,(U,U,0),([]:List Int)),([]:List AD),([]:List AM),false)) else (if 0<=(i64.wrap (x0.2.1-1)) then (if (i64.wrap (x0.2.1-1))<(x1.length:Int) then (if 0<=(0:Int) then (if 0<((x1.getD (i64.wrap (x0.2.1-1)).toNat ([]:List Int)).length:Int) then (if (((x1.getD (i64.wrap (x0.2.1-1)).toNat ([]:List Int)).getD (0:Int).toNat 0) != x0.1)=true then (some ((0,0,false,false,false,false,([]:List Int),([]:List AA),0,0,0,0,(U,U,0),([]:List Int)),([]:List AD),([]:List AM),false)) else (C5 x1 x2 x3 x4 x5 ([]:List AM) (((x1.getD (i64.wrap (x0.2.1-1)).toNat ([]:List Int)).getD (0:Int).toNat 0) != x0.1) x0 (0,0,false,false,false,false,([]:List Int),([]:List AA),0,0,0,0,(U,U,0),([]:List Int)) ([]:List AD))) else none) else none) else none) else none))) else (if (decide (x0.2.1>(x1.length:Int)))=true then (some ((0,0,false,false,false,false,([]:List Int),([]:List AA),0,0,0,0,(U,U,0),([]:List Int)),([]:List AD),([]:List AM),false)) else (if 0<=(i64.wrap (x0.2.1-1)) then (if (i64.wrap (x0.2.1-1))<(x1.length:Int) then (if 0<=(0:Int) then (if 0<((x1.getD (i64.wrap (x0.2.1-1)).toNat ([]:List Int)).length:Int) then (if (((x1.getD (i64.wrap (x0.2.1-1)).toNat ([]:List Int)).getD (0:Int).toNat 0) != x0.1)=true then (some ((0,0,false,false,false,false,([]:List Int),([]:List AA),0,0,0,0,(U,U,0),([]:List Int)),([]:List AD),([]:List AM),false)) else (C5 x1 x2 x3 x4 x5 ([]:List AM) (((x1.getD (i64.wrap (x0.2.1-1)).toNat ([]:List Int)).getD (0:Int).toNat 0) != x0.1) x0 (0,0,false,false,false,false,([]:List Int),([]:List AA),0,0,0,0,(U,U,0),([]:List Int)) ([]:List AD))) else none) else none) else none) else none))))))))) else ((Ab x3 0 1000).bind fun y12=>(if (!y12)=true then (some ((0,0,false,false,false,false,([]:List Int),([]:List AA),0,0,0,0,(U,U,0),([]:List Int)),([]:List AD),([]:List AM),false)) else ((Ab (x4.size:Int) 1 12).bind fun y13=>(if (!y13)=true then (some ((0,0,false,false,false,false,([]:List Int),([]:List AA),0,0,0,0,(U,U,0),([]:List Int)),([]:List AD),([]:List AM),false)) else (if (decide ((x5.size:Int)>20))=true then (some ((0,0,false,false,false,false,([]:List Int),([]:List AA),0,0,0,0,(U,U,0),([]:List Int)),([]:List AD),([]:List AM),false)) else (if (x2==2)=true then (if (!(x5.toList==(⟨#[]⟩:ByteArray).toList))=true then (some ((0,0,false,false,false,false,([]:List Int),([]:List AA),0,0,0,0,(U,U,0),([]:List Int)),([]:List AD),([]:List AM),false)) else (if (decide (x0.2.1>(x1.length:Int)))=true then (some ((0,0,false,false,false,false,([]:List Int),([]:List AA),0,0,0,0,(U,U,0),([]:List Int)),([]:List AD),([]:List AM),false)) else (if 0<=(i64.wrap (x0.2.1-1)) then (if (i64.wrap (x0.2.1-1))<(x1.length:Int) then (if 0<=(0:Int) then (if 0<((x1.getD (i64.wrap (x0.2.1-1)).toNat ([]:List Int)).length:Int) then (if (((x1.getD (i64.wrap (x0.2.1-1)).toNat ([]:List Int)).getD (0:Int).toNat 0) != x0.1)=true then (some ((0,0,false,false,false,false,([]:List Int),([]:List AA),0,0,0,0,(U,U,0),([]:List Int)),([]:List AD),([]:List AM),false)) else (C5 x1 x2 x3 x4 x5 ([]:List AM) (((x1.getD (i64.wrap (x0.2.1-1)).toNat ([]:List Int)).getD (0:Int).toNat 0) != x0.1) x0 (0,0,false,false,false,false,([]:List Int),([]:List AA),0,0,0,0,(U,U,0),([]:List Int)) ([]:List AD))) else none) else none) else none) else none))) else (if (decide (x0.2.1>(x1.length:Int)))=true then (some ((0,0,false,false,false,false,([]:List Int),([]:List AA),0,0,0,0,(U,U,0),([]:List Int)),([]:List AD),([]:List AM),false)) else (if 0<=(i64.wrap (x0.2.1-1)) then (if (i64.wrap (x0.2.1-1))<(x1.length:Int) then (if 0<=(0:Int) then (if 0<((x1.getD (i64.wrap (x0.2.1-1)).toNat ([]:List Int)).length:Int) then (if (((x1.getD (i64.wrap (x0.2.1-1)).toNat ([]:List Int)).getD (0:Int).toNat 0) != x0.1)=true then (some ((0,0,false,false,false,false,([]:List Int),([]:List AA),0,0,0,0,(U,U,0),([]:List Int)),([]:List AD),([]:List AM),false)) else (C5 x1 x2 x3 x4 x5 ([]:List AM) (((x1.getD (i64.wrap (x0.2.1-1)).toNat ([]:List Int)).getD (0:Int).toNat 0) != x0.1) x0 (0,0,false,false,false,false,([]:List Int),([]:List AA),0,0,0,0,(U,U,0),([]:List Int)) ([]:List AD))) else none) else none) else none) else none))))))))))))))))
theorem X4:zt Pt Ei:=lS (by kernel_rfl)
theorem oO:ADZ X1 Pr:=jS (by kernel_rfl)
theorem X5:Le9 Pu Ej:=lS (by kernel_rfl)
theorem oP:zt X2 Ps:=jS (by kernel_rfl)
theorem oQ:zt X3 C5:=jS (by kernel_rfl)
theorem vI:zr iQ Wk:=cT B7 rfl ⟨rfl,rfl⟩ (by kernel_rfl)
def rh:=cG XS (AK C3) (AK C3) kx
def rk:=kE 0 [(9,2)] [6,9,11] 5 rh kx
def oR:St->Option (RT (BI.outs C3)):=lG XR [(9,2)] [1,2,3,6,9,11,13] 5 (AK C3) rk
def GK (x0:List (List Int)) (x1 x2:Int) (x3 x4:Z) (x5:List AD) (x6:List AA) (x7:Z):Option (Z×List AD×Bool):=oR ⟨[(1,.lst .S x0),(2,.int .i64 x1),(3,.ptr 0 0),(6,.ptr 1 0),(9,.row 2),(11,.ptr 4 0),(13,.int .i64 x2)],[.var (AB.enc x3),.var (AB.enc x4),.rows 90 AI x5,.frz AG x6,.var (AB.enc x7)]⟩
def IC (x0:List (List Int)) (x1:Int) (x2:Bool) (x3 x4:Z) (x5:List AD):Option (Z×List AD×Bool):=cG XT (AK C3) (AK C3) kx ⟨[(1,.lst .S x0),(2,.int .i64 x1),(3,.ptr 0 0),(6,.ptr 1 0),(9,.row 2),(10,.bool x2)],[.var (AB.enc x3),.var (AB.enc x4),.rows 90 AI x5]⟩
def X6 (x0:List (List Int)) (x1:Int) (x2:Bool) (x3 x4:Z) (x5:List AD):Option (Z×List AD×Bool):=cG XU (AK C3) (AK C3) kx ⟨[(1,.lst .S x0),(2,.int .i64 x1),(3,.ptr 0 0),(6,.ptr 1 0),(9,.row 2),(48,.bool x2)],[.var (AB.enc x3),.var (AB.enc x4),.rows 90 AI x5]⟩
def Pv (x0:List (List Int)) (x1 x2:Int) (x3 x4:Z) (x5:List AD) (x6:List AA) (x7:Z):Option (Z×List AD×Bool):=(if 0<=(i64.wrap (x1-2)) then (if (i64.wrap (x1-2))<(x0.length:Int) then (if (decide (x2<((x0.getD (i64.wrap (x1-2)).toNat ([]:List Int)).length:Int)))=true then (if 0<=(i64.wrap (x1-2)) then (if (i64.wrap (x1-2))<(x0.length:Int) then (if 0<=x2 then (if x2<((x0.getD (i64.wrap (x1-2)).toNat ([]:List Int)).length:Int) then (if (((x0.getD (i64.wrap (x1-2)).toNat ([]:List Int)).getD x2.toNat 0) != x3.1)=true then (if x5.length+([(1,x3.1,((x0.getD (i64.wrap (x1-2)).toNat ([]:List Int)).getD x2.toNat 0),x1,0,([]:List AA))]:List AD).length<=68719476736 then (GK x0 x1 (i64.wrap (x2+1)) x3 x4 (x5++([(1,x3.1,((x0.getD (i64.wrap (x1-2)).toNat ([]:List Int)).getD x2.toNat 0),x1,0,([]:List AA))]:List AD)) x6 x7) else none) else (GK x0 x1 (i64.wrap (x2+1)) x3 x4 x5 x6 x7)) else none) else none) else none) else none) else ((DZ x7).bind fun y7=>(some (y7,x5,true)))) else none) else none)
def X7 (x0:List (List Int)) (x1:Int) (x2:Bool) (x3 x4:Z) (x5:List AD):Option (Z×List AD×Bool):=(if ([]:List AA).length+x3.2.2.2.2.2.2.2.1.length<=68719476736 then (if x2=true then (if 0<=(i64.wrap (x1-1)) then (if (i64.wrap (x1-1))<(x0.length:Int) then ((Of (x0.getD (i64.wrap (x1-1)).toNat ([]:List Int)) x3.2.2.2.2.2.2.2.1 (x3.1,x1,false,false,true,false,([]:List Int),(([]:List AA)++x3.2.2.2.2.2.2.2.1),0,0,0,0,(U,U,0),([]:List Int))).bind fun y5=>((DZ y5.2).bind fun y6=>(some (y6,y5.1,true)))) else none) else none) else (GK x0 x1 0 x3 x4 x5 (([]:List AA)++x3.2.2.2.2.2.2.2.1) (x3.1,x1,false,false,true,false,([]:List Int),(([]:List AA)++x3.2.2.2.2.2.2.2.1),0,0,0,0,(U,U,0),([]:List Int)))) else none)
def X8 (x0:List (List Int)) (x1:Int) (x2:Bool) (x3 x4:Z) (x5:List AD):Option (Z×List AD×Bool):=(if x3.2.2.2.1=true then (if (x3.2.1==(i64.wrap (x1-1)))=true then (if 0<=(i64.wrap (x1-2)) then (if (i64.wrap (x1-2))<(x0.length:Int) then ((E5 (x0.getD (i64.wrap (x1-2)).toNat ([]:List Int)) x3.1).bind fun y4=>(IC x0 x1 y4 x3 x4 x5)) else none) else none) else (IC x0 x1 false x3 x4 x5)) else (IC x0 x1 false x3 x4 x5))
def iR (x0:Z) (x1:List (List Int)) (x2:Int):Option (Z×List AD×Bool):=((GI x0).bind fun y1=>(if (!y1)=true then (some ((0,0,false,false,false,false,([]:List Int),([]:List AA),0,0,0,0,(U,U,0),([]:List Int)),([]:List AD),false)) else ((EV x1).bind fun y2=>(if (!y2)=true then (some ((0,0,false,false,false,false,([]:List Int),([]:List AA),0,0,0,0,(U,U,0),([]:List Int)),([]:List AD),false)) else ((Ab x2 2 (x1.length:Int)).bind fun y3=>(if (!y3)=true then (some ((0,0,false,false,false,false,([]:List Int),([]:List AA),0,0,0,0,(U,U,0),([]:List Int)),([]:List AD),false)) else (if (decide (x2<=x0.2.1))=true then (some ((0,0,false,false,false,false,([]:List Int),([]:List AA),0,0,0,0,(U,U,0),([]:List Int)),([]:List AD),false)) else (if 0<=(i64.wrap (x2-1)) then (if (i64.wrap (x2-1))<(x1.length:Int) then (if 0<=(0:Int) then (if 0<((x1.getD (i64.wrap (x2-1)).toNat ([]:List Int)).length:Int) then (if (((x1.getD (i64.wrap (x2-1)).toNat ([]:List Int)).getD (0:Int).toNat 0) != x0.1)=true then (some ((0,0,false,false,false,false,([]:List Int),([]:List AA),0,0,0,0,(U,U,0),([]:List Int)),([]:List AD),false)) else (X6 x1 x2 (((x1.getD (i64.wrap (x2-1)).toNat ([]:List Int)).getD (0:Int).toNat 0) != x0.1) x0 (0,0,false,false,false,false,([]:List Int),([]:List AA),0,0,0,0,(U,U,0),([]:List Int)) ([]:List AD))) else none) else none) else none) else none))))))))
theorem X9:Le8 Pv GK:=lS (by kernel_rfl)
theorem oS:zr X7 IC:=jS (by kernel_rfl)
theorem oT:zr X8 X6:=jS (by kernel_rfl)
theorem vJ:Jl iR Wl:=cT C3 rfl ⟨rfl,rfl⟩ (by kernel_rfl)
def lg:=cG TJ (AK Bx) (AK Bx) kx
def lh:=cG MV (AK Bx) (AK Bx) kx
def GZ (x0:List AD) (x1:List AM) (x2:Bool) (x3:Z) (x4:AD) (x5 x6:Z):Option (Z×List AD×List AM):=cG TI lg (AK Bx) kx ⟨[(3,.ptr 0 0),(5,.ptr 1 0),(6,.ptr 2 0),(9,.ptr 3 0),(10,.lst AI x0),(11,.lst BD x1),(146,.bool x2)],[.var (AB.enc x3),.var (AI.enc x4),.var (AB.enc x5),.var (AB.enc x6)]⟩
def M3 (x0:List (List Int)) (x1:List AD) (x2:List AM) (x3:Bool) (x4:Z) (x5:AD) (x6 x7:Z):Option (Z×List AD×List AM):=cG MV (AK Bx) (AK Bx) kx ⟨[(1,.lst .S x0),(3,.ptr 0 0),(5,.ptr 1 0),(6,.ptr 2 0),(9,.ptr 3 0),(10,.lst AI x1),(11,.lst BD x2),(105,.bool x3)],[.var (AB.enc x4),.var (AI.enc x5),.var (AB.enc x6),.var (AB.enc x7)]⟩
def Ed (x0:List (List Int)) (x1:List AD) (x2:List AM) (x3:Bool) (x4:Z) (x5:AD) (x6 x7:Z):Option (Z×List AD×List AM):=cG TG lh (AK Bx) kx ⟨[(1,.lst .S x0),(3,.ptr 0 0),(5,.ptr 1 0),(6,.ptr 2 0),(9,.ptr 3 0),(10,.lst AI x1),(11,.lst BD x2),(105,.bool x3)],[.var (AB.enc x4),.var (AI.enc x5),.var (AB.enc x6),.var (AB.enc x7)]⟩
def Tn (x0:List (List Int)) (x1:List AD) (x2:List AM) (x3:Bool) (x4:Z) (x5:AD) (x6 x7:Z):Option (Z×List AD×List AM):=cG TK (AK Bx) (AK Bx) kx ⟨[(1,.lst .S x0),(3,.ptr 0 0),(5,.ptr 1 0),(6,.ptr 2 0),(9,.ptr 3 0),(10,.lst AI x1),(11,.lst BD x2),(59,.bool x3)],[.var (AB.enc x4),.var (AI.enc x5),.var (AB.enc x6),.var (AB.enc x7)]⟩
def To (x0:List AD) (x1:List AM) (x2:Bool) (x3:Z) (x4:AD) (x5 x6:Z):Option (Z×List AD×List AM):=(if x2=true then (if ([]:List AA).length+x4.2.2.2.2.2.length<=68719476736 then ((Eh x3 x4 4).bind fun y9=>(some ((x3.1,x4.2.2.2.1,false,true,false,false,([]:List Int),(([]:List AA)++x4.2.2.2.2.2),0,0,0,0,(U,U,0),([]:List Int)),y9,x1))) else none) else (some (x6,x0,x1)))
def Tp (x0:List (List Int)) (x1:List AD) (x2:List AM) (x3:Bool) (x4:Z) (x5:AD) (x6 x7:Z):Option (Z×List AD×List AM):=(if 0<=(i64.wrap (x5.2.2.2.1-1)) then (if (i64.wrap (x5.2.2.2.1-1))<(x0.length:Int) then (if (x5.1==3)=true then ((E5 (x0.getD (i64.wrap (x5.2.2.2.1-1)).toNat ([]:List Int)) x4.1).bind fun y8=>(if y8=true then (if 0<=(0:Int) then (if 0<((x0.getD (i64.wrap (x5.2.2.2.1-1)).toNat ([]:List Int)).length:Int) then (GZ x1 x2 (((x0.getD (i64.wrap (x5.2.2.2.1-1)).toNat ([]:List Int)).getD (0:Int).toNat 0) != x4.1) x4 x5 x6 x7) else none) else none) else (GZ x1 x2 false x4 x5 x6 x7))) else (GZ x1 x2 false x4 x5 x6 x7)) else none) else none)
def Tq (x0:List (List Int)) (x1:List AD) (x2:List AM) (x3:Bool) (x4:Z) (x5:AD) (x6 x7:Z):Option (Z×List AD×List AM):=(if x3=true then ((Ml x4 x5.2.2.2.1).bind fun y7=>(if ([]:List AA).length+x4.2.2.2.2.2.2.2.1.length<=68719476736 then (some (y7,([(2,x4.1,x5.2.1,x5.2.2.2.1,0,(([]:List AA)++x4.2.2.2.2.2.2.2.1))]:List AD),x2)) else none)) else (M3 x0 x1 x2 x3 x4 x5 x6 x7))
def Tr (x0:List (List Int)) (x1:List AD) (x2:List AM) (x3:Bool) (x4:Z) (x5:AD) (x6 x7:Z):Option (Z×List AD×List AM):=(if (x5.2.2.2.1==x4.2.1)=true then (if 0<=(i64.wrap (x4.2.1-1)) then (if (i64.wrap (x4.2.1-1))<(x0.length:Int) then ((UR x4 (x0.getD (i64.wrap (x4.2.1-1)).toNat ([]:List Int)) x5).bind fun y5=>(some (y5.1,y5.2.1,y5.2.2))) else none) else none) else (if (x5.1==1)=true then (if (x5.2.2.2.1==(i64.wrap (x4.2.1+1)))=true then (if x4.2.2.2.1=true then (if 0<=(i64.wrap (x4.2.1-1)) then (if (i64.wrap (x4.2.1-1))<(x0.length:Int) then ((E5 (x0.getD (i64.wrap (x4.2.1-1)).toNat ([]:List Int)) x4.1).bind fun y6=>(Ed x0 x1 x2 y6 x4 x5 x6 x7)) else none) else none) else (Ed x0 x1 x2 false x4 x5 x6 x7)) else (Ed x0 x1 x2 false x4 x5 x6 x7)) else (Ed x0 x1 x2 false x4 x5 x6 x7)))
def Zy (x0:Z) (x1:List (List Int)) (x2:AD):Option (Z×List AD×List AM):=((DZ x0).bind fun y1=>((GI x0).bind fun y2=>(if (!y2)=false then ((EV x1).bind fun y3=>(if (!y3)=false then ((Wm x2).bind fun y4=>(if (!y4)=false then (if (x2.2.2.1 != x0.1)=false then (if (decide (x2.2.2.2.1<x0.2.1))=false then (if (decide (x2.2.2.2.1>(x1.length:Int)))=false then (if (decide (x0.2.1>(x1.length:Int)))=true then (some (y1,([]:List AD),([]:List AM))) else (Tn x1 ([]:List AD) ([]:List AM) (decide (x0.2.1>(x1.length:Int))) x0 x2 (0,0,false,false,false,false,([]:List Int),([]:List AA),0,0,0,0,(U,U,0),([]:List Int)) y1)) else (some (y1,([]:List AD),([]:List AM)))) else (some (y1,([]:List AD),([]:List AM)))) else (some (y1,([]:List AD),([]:List AM)))) else (some (y1,([]:List AD),([]:List AM))))) else (some (y1,([]:List AD),([]:List AM))))) else (some (y1,([]:List AD),([]:List AM))))))
theorem iS:Le7 To GZ:=jS (by kernel_rfl)
theorem iT:Le8 Tp M3:=jS (by kernel_rfl)
theorem iU:Le8 Tq Ed:=jS (by kernel_rfl)
theorem iV:Le8 Tr Tn:=jS (by kernel_rfl)
theorem rl:Jl Zy Rt:=cT Bx rfl ⟨rfl,rfl⟩ (by kernel_rfl)
def UV:=cG KY (AK By) (AK By) kx
def UW:=kE 0 [] [] 0 UV kx
def Sd:St->Option (RT (BI.outs By)):=lG KX [] [0,1,7,8] 0 (AK By) UW
def Cp (x0:List Int) (x1 x2 x3:Int):Option Int:=Sd ⟨[(0,.lst .W x0),(1,.int .i64 x1),(7,.int .i64 x2),(8,.int .i64 x3)],[]⟩
def Bt (x0:List Int) (x1 x2 x3:Int):Option Int:=(if (decide (x3<x2))=true then (if 0<=x3 then (if x3<(x0.length:Int) then (if (x1==(x0.getD x3.toNat 0))=true then (some x3) else (Cp x0 x1 x2 (i64.wrap (x3+1)))) else none) else none) else (some (-1:Int)))
def Wr (x0:List Int) (x1:Int):Option Int:=(Cp x0 x1 (x0.length:Int) 0)
theorem CI:so Bt Cp:=lS (by kernel_rfl)
theorem M4:JF Wr Db:=cT By rfl ⟨rfl,rfl⟩ (by kernel_rfl)
def J7 (x0:List Int) (x1:Int):Option Bool:=((Db x0 x1).bind fun y1=>(some (decide (y1>=0))))
theorem Se:JF J7 Co:=cT Dy rfl ⟨rfl,rfl⟩ (by kernel_rfl)
def iW (x0:ByteArray):Option Bool:=((Av (x0.size:Int) 1 12).bind fun y1=>(some y1))
theorem vK:SU iW Qw:=cT Qt rfl ⟨rfl,rfl⟩ (by kernel_rfl)

def K5 (x0:List Int) (x1 x2 x3:Z) (x4:AA) (x5:List Int) (x6:AD):Option (Z×List AD×List AM×Bool):=cG ZO (AK EF) (AK EF) kx ⟨[(12,.ptr 1 0),(16,.ptr 2 0),(18,.lst .W x0),(20,.ptr 5 0)],[.var (AB.enc x1),.var (AB.enc x2),.var (AB.enc x3),.var (AG.enc x4),.frz .W x5,.var (AI.enc x6)]⟩
def ID (x0:List (List Int)) (x1 x2:Int) (x3:Bool) (x4 x5 x6:Z) (x7:AA):Option (Z×List AD×List AM×Bool):=cG XV (AK EF) (AK EF) kx ⟨[(1,.lst .S x0),(2,.int .i64 x1),(3,.int .i64 x2),(6,.ptr 0 0),(12,.ptr 1 0),(16,.ptr 2 0),(17,.ptr 3 0),(69,.bool x3)],[.var (AB.enc x4),.var (AB.enc x5),.var (AB.enc x6),.var (AG.enc x7)]⟩
def X_ (x0:List (List Int)) (x1 x2:Int) (x3 x4:ByteArray) (x5:Bool) (x6 x7:Z):Option (Z×List AD×List AM×Bool):=cG XW (AK EF) (AK EF) kx ⟨[(1,.lst .S x0),(2,.int .i64 x1),(3,.int .i64 x2),(4,.str x3),(5,.str x4),(6,.ptr 0 0),(12,.ptr 1 0),(37,.bool x5)],[.var (AB.enc x6),.var (AB.enc x7)]⟩
def YA (x0:List Int) (x1 x2 x3:Z) (x4:AA) (x5:List Int) (x6:AD):Option (Z×List AD×List AM×Bool):=(if ((x0.length:Int)==0)=true then ((Hk x3).bind fun y9=>(some (y9.2,[],y9.1,true))) else (vf ((Ar x0 x6 x3).bind fun y10=>(some (x3,y10.1,[],true))) ((Ar x0 x6 x3).bind fun y11=>(some (y11.2,y11.1,[],true)))))
def YB (x0:List (List Int)) (x1 x2:Int) (x3:Bool) (x4 x5 x6:Z) (x7:AA):Option (Z×List AD×List AM×Bool):=(if 0<=(i64.wrap (x4.2.1-1)) then (if (i64.wrap (x4.2.1-1))<(x0.length:Int) then ((CH (x0.getD (i64.wrap (x4.2.1-1)).toNat ([]:List Int)) x6).bind fun y6=>((BG y6.1).bind fun y7=>((Cx y7).bind fun y8=>(if (x1==1)=true then (K5 y6.1 x4 x5 (y6.2.1,y6.2.2.1,y6.2.2.2.1,y6.2.2.2.2.1,y6.2.2.2.2.2.1,y6.2.2.2.2.2.2.1,y6.2.2.2.2.2.2.2.1,y6.2.2.2.2.2.2.2.2.1,y6.2.2.2.2.2.2.2.2.2.1,x1,x2,y6.2.2.2.2.2.2.2.2.2.1,x7,y8) x7 y8 (5,0,0,0,y6.2.2.2.2.2.2.2.2.2.1,([x7]:List AA))) else (K5 y6.1 x4 x5 (y6.2.1,y6.2.2.1,y6.2.2.2.1,y6.2.2.2.2.1,y6.2.2.2.2.2.1,y6.2.2.2.2.2.2.1,y6.2.2.2.2.2.2.2.1,y6.2.2.2.2.2.2.2.2.1,y6.2.2.2.2.2.2.2.2.2.1,x1,x2,y6.2.2.2.2.2.2.2.2.2.1,x7,y8) x7 y8 (7,0,0,0,y6.2.2.2.2.2.2.2.2.2.1,([]:List AA))))))) else none) else none)
def YC (x0:List (List Int)) (x1 x2:Int) (x3 x4:ByteArray) (x5:Bool) (x6 x7:Z):Option (Z×List AD×List AM×Bool):=((Da x6).bind fun y4=>(if (x1==1)=true then (if ((x6.2.2.2.2.2.2.2.1.length:Int)==12)=true then ((Og x6.2.2.2.2.2.2.2.1 x3).bind fun y5=>(if (false != MA AG y5 (U,U,0))=true then (some ((0,0,false,false,false,false,([]:List Int),([]:List AA),0,0,0,0,(U,U,0),([]:List Int)),[],[],false)) else (ID x0 x1 x2 (false != MA AG y5 (U,U,0)) x6 x7 (y4.1,y4.2.1,y4.2.2.1,y4.2.2.2.1,y4.2.2.2.2.1,y4.2.2.2.2.2.1,y4.2.2.2.2.2.2.1,y4.2.2.2.2.2.2.2.1,(i64.wrap (y4.2.2.2.2.2.2.2.2.1+1)),y4.2.2.2.2.2.2.2.2.2) (x3,x4,(i64.wrap ((i64.wrap (1000*x6.2.1))+(i64.wrap (y4.2.2.2.2.2.2.2.2.1+1)))))))) else (ID x0 x1 x2 false x6 x7 (y4.1,y4.2.1,y4.2.2.1,y4.2.2.2.1,y4.2.2.2.2.1,y4.2.2.2.2.2.1,y4.2.2.2.2.2.2.1,y4.2.2.2.2.2.2.2.1,(i64.wrap (y4.2.2.2.2.2.2.2.2.1+1)),y4.2.2.2.2.2.2.2.2.2) (x3,x4,(i64.wrap ((i64.wrap (1000*x6.2.1))+(i64.wrap (y4.2.2.2.2.2.2.2.2.1+1))))))) else (ID x0 x1 x2 false x6 x7 (y4.1,y4.2.1,y4.2.2.1,y4.2.2.2.1,y4.2.2.2.2.1,y4.2.2.2.2.2.1,y4.2.2.2.2.2.2.1,y4.2.2.2.2.2.2.2.1,(i64.wrap (y4.2.2.2.2.2.2.2.2.1+1)),y4.2.2.2.2.2.2.2.2.2) (x3,x4,(i64.wrap ((i64.wrap (1000*x6.2.1))+(i64.wrap (y4.2.2.2.2.2.2.2.2.1+1))))))))
def iX (x0:Z) (x1:List (List Int)) (x2 x3:Int) (x4 x5:ByteArray):Option (Z×List AD×List AM×Bool):=((GJ x0).bind fun y1=>(if (!y1)=false then ((Hj x1 x0).bind fun y2=>(if (!y2.1)=false then ((Mj x2 x3 x4 x5).bind fun y3=>(if (!y3)=true then (some ((0,0,false,false,false,false,([]:List Int),([]:List AA),0,0,0,0,(U,U,0),([]:List Int)),[],[],false)) else (X_ x1 x2 x3 x4 x5 (!y3) y2.2 (0,0,false,false,false,false,([]:List Int),([]:List AA),0,0,0,0,(U,U,0),([]:List Int))))) else (some ((0,0,false,false,false,false,([]:List Int),([]:List AA),0,0,0,0,(U,U,0),([]:List Int)),[],[],false)))) else (some ((0,0,false,false,false,false,([]:List Int),([]:List AA),0,0,0,0,(U,U,0),([]:List Int)),[],[],false))))
theorem oU:Le7 YA K5:=jS (by kernel_rfl)
theorem oV:Le8 YB ID:=jS (by kernel_rfl)
theorem oW:Le8 YC X_:=jS (by kernel_rfl)
theorem vL:zr iX Qx:=cT EF rfl ⟨rfl,rfl⟩ (by kernel_rfl)
def KP:=kE 0 [] [] 4 (AK CW) kx
def PC:St->Option (RT (BI.outs CW)):=lG QD [] [0,3,20,21,22] 4 (AK CW) KP
def bn:=kB [] [0,3,20,21,22] 4 PC
def Qf:=cG QC bn (AK CW) KP
def bo:=kB [] [0,3,20,21,22] 4 Qf
def bp:=kE 1 [] [0,3,20,21,22] 4 Qf KP
def PD (x0:Int) (x1:List AM) (x2 x3:Int) (x4:Bool) (x5:List (List Int)) (x6:List Z) (x7:List AD) (x8:List AP) (x9:AM):Option AL:=cG QB bo (AK CW) bp ⟨[(0,.ptr 0 0),(3,.int .i64 x0),(9,.ptr 4 0),(20,.lst BD x1),(21,.int .i64 x2),(22,.int .i64 x3),(47,.bool x4)],[.var [.lst .S x5,.row 1,.row 2,.row 3],.rows 74 AB x6,.rows 90 AI x7,.rows 88 Ag x8,.var (BD.enc x9)]⟩
def Ci (x0:Int) (x1:List AM) (x2 x3:Int) (x4:List (List Int)) (x5:List Z) (x6:List AD) (x7:List AP):Option AL:=PC ⟨[(0,.ptr 0 0),(3,.int .i64 x0),(20,.lst BD x1),(21,.int .i64 x2),(22,.int .i64 x3)],[.var [.lst .S x4,.row 1,.row 2,.row 3],.rows 74 AB x5,.rows 90 AI x6,.rows 88 Ag x7]⟩
def PE (x0:Int) (x1:List AM) (x2 x3:Int) (x4:Bool) (x5:List (List Int)) (x6:List Z) (x7:List AD) (x8:List AP) (x9:AM):Option AL:=(if 0<=x9.1 then (if x9.1<(x8.length:Int) then (let z2:List AP:=x8.set x9.1.toNat ((x8.getD x9.1.toNat (0,U,U,0,0,0,0,0,U)).1,((x8.getD x9.1.toNat (0,U,U,0,0,0,0,0,U)).2).1,(((x8.getD x9.1.toNat (0,U,U,0,0,0,0,0,U)).2).2).1,((((x8.getD x9.1.toNat (0,U,U,0,0,0,0,0,U)).2).2).2).1,x0,(((((x8.getD x9.1.toNat (0,U,U,0,0,0,0,0,U)).2).2).2).2).2); (let z3:List AP:=z2.set x9.1.toNat ((z2.getD x9.1.toNat (0,U,U,0,0,0,0,0,U)).1,((z2.getD x9.1.toNat (0,U,U,0,0,0,0,0,U)).2).1,(((z2.getD x9.1.toNat (0,U,U,0,0,0,0,0,U)).2).2).1,((((z2.getD x9.1.toNat (0,U,U,0,0,0,0,0,U)).2).2).2).1,(((((z2.getD x9.1.toNat (0,U,U,0,0,0,0,0,U)).2).2).2).2).1,x9.2.2.2.2.2,((((((z2.getD x9.1.toNat (0,U,U,0,0,0,0,0,U)).2).2).2).2).2).2); (let z4:List AP:=z3.set x9.1.toNat ((z3.getD x9.1.toNat (0,U,U,0,0,0,0,0,U)).1,((z3.getD x9.1.toNat (0,U,U,0,0,0,0,0,U)).2).1,(((z3.getD x9.1.toNat (0,U,U,0,0,0,0,0,U)).2).2).1,((((z3.getD x9.1.toNat (0,U,U,0,0,0,0,0,U)).2).2).2).1,(((((z3.getD x9.1.toNat (0,U,U,0,0,0,0,0,U)).2).2).2).2).1,((((((z3.getD x9.1.toNat (0,U,U,0,0,0,0,0,U)).2).2).2).2).2).1,x9.2.1,(((((((z3.getD x9.1.toNat (0,U,U,0,0,0,0,0,U)).2).2).2).2).2).2).2); (let z5:List AP:=z4.set x9.1.toNat ((z4.getD x9.1.toNat (0,U,U,0,0,0,0,0,U)).1,((z4.getD x9.1.toNat (0,U,U,0,0,0,0,0,U)).2).1,(((z4.getD x9.1.toNat (0,U,U,0,0,0,0,0,U)).2).2).1,((((z4.getD x9.1.toNat (0,U,U,0,0,0,0,0,U)).2).2).2).1,(((((z4.getD x9.1.toNat (0,U,U,0,0,0,0,0,U)).2).2).2).2).1,((((((z4.getD x9.1.toNat (0,U,U,0,0,0,0,0,U)).2).2).2).2).2).1,(((((((z4.getD x9.1.toNat (0,U,U,0,0,0,0,0,U)).2).2).2).2).2).2).1,x9.2.2.1,((((((((z4.getD x9.1.toNat (0,U,U,0,0,0,0,0,U)).2).2).2).2).2).2).2).2); (if (((z5.getD x9.1.toNat (0,U,U,0,0,0,0,0,U)).1)==2)=true then (let z6:List AP:=z5.set x9.1.toNat ((z5.getD x9.1.toNat (0,U,U,0,0,0,0,0,U)).1,((z5.getD x9.1.toNat (0,U,U,0,0,0,0,0,U)).2).1,(((z5.getD x9.1.toNat (0,U,U,0,0,0,0,0,U)).2).2).1,((((z5.getD x9.1.toNat (0,U,U,0,0,0,0,0,U)).2).2).2).1,(((((z5.getD x9.1.toNat (0,U,U,0,0,0,0,0,U)).2).2).2).2).1,((((((z5.getD x9.1.toNat (0,U,U,0,0,0,0,0,U)).2).2).2).2).2).1,(((((((z5.getD x9.1.toNat (0,U,U,0,0,0,0,0,U)).2).2).2).2).2).2).1,((((((((z5.getD x9.1.toNat (0,U,U,0,0,0,0,0,U)).2).2).2).2).2).2).2).1,x9.2.2.2.2.1); (Ci x0 x1 x2 (i64.wrap (x3+1)) x5 x6 x7 z6)) else (Ci x0 x1 x2 (i64.wrap (x3+1)) x5 x6 x7 z5)))))) else none) else none)
def I8 (x0:Int) (x1:List AM) (x2 x3:Int) (x4:List (List Int)) (x5:List Z) (x6:List AD) (x7:List AP):Option AL:=(if (decide (x3<x2))=true then (if 0<=x3 then (if x3<(x1.length:Int) then ((Av ((x1.getD x3.toNat (0,0,0,U,U,0)).1) 0 (i64.wrap ((x7.length:Int)-1))).bind fun y1=>(if (!y1)=true then (Ci x0 x1 x2 (i64.wrap (x3+1)) x4 x5 x6 x7) else (if 0<=((x1.getD x3.toNat (0,0,0,U,U,0)).1) then (if ((x1.getD x3.toNat (0,0,0,U,U,0)).1)<(x7.length:Int) then (if (((((((x7.getD (((x1.getD x3.toNat (0,0,0,U,U,0)).1).toNat) (0,U,U,0,0,0,0,0,U)).2).2).2).2).1) != (-1:Int))=true then (Ci x0 x1 x2 (i64.wrap (x3+1)) x4 x5 x6 x7) else (PD x0 x1 x2 x3 (((((((x7.getD (((x1.getD x3.toNat (0,0,0,U,U,0)).1).toNat) (0,U,U,0,0,0,0,0,U)).2).2).2).2).1) != (-1:Int)) x4 x5 x6 x7 (x1.getD x3.toNat (0,0,0,U,U,0)))) else none) else none))) else none) else none) else (some (x4,x5,x6,x7)))
def Ts (x1:List AD) (x2:List AM) (x3:Int) (b0:AL):Option AL:=(if b0.2.2.1.length+x1.length<=68719476736 then (Ci x3 x2 (x2.length:Int) 0 b0.1 b0.2.1 (b0.2.2.1++x1) b0.2.2.2) else none)
theorem Zz:zt PE PD:=jS (by kernel_rfl)
theorem PF:Le8 I8 Ci:=lS (by kernel_rfl)
theorem iY:so Ts GU:=cT CW rfl ⟨rfl,rfl⟩ (by kernel_rfl)
def K6 (x0:List (List Int)) (x1:Int) (x2:Bool) (x3 x4 x5:Z):Option (Z×List AD×Bool):=cG Xb (AK GR) (AK GR) kx ⟨[(1,.lst .S x0),(2,.int .i64 x1),(6,.ptr 1 0),(9,.ptr 2 0),(10,.bool x2)],[.var (AB.enc x3),.var (AB.enc x4),.var (AB.enc x5)]⟩
def YD (x0:List (List Int)) (x1:Int) (x2:Bool) (x3 x4:Z):Option (Z×List AD×Bool):=cG Xc (AK GR) (AK GR) kx ⟨[(1,.lst .S x0),(2,.int .i64 x1),(3,.ptr 0 0),(6,.ptr 1 0),(44,.bool x2)],[.var (AB.enc x3),.var (AB.enc x4)]⟩
def YE (x0:List (List Int)) (x1:Int) (x2:Bool) (x3 x4 x5:Z):Option (Z×List AD×Bool):=((GV x5).bind fun y5=>(if x2=true then (if 0<=(i64.wrap (x1-1)) then (if (i64.wrap (x1-1))<(x0.length:Int) then ((Dc (x0.getD (i64.wrap (x1-1)).toNat ([]:List Int)) y5.2.2.2.2.2.2.2.1 (y5.1,x1,false,false,true,y5.2.2.2.2.2)).bind fun y6=>(some (y6.2,y6.1,true))) else none) else none) else (if 0<=(i64.wrap (x1-2)) then (if (i64.wrap (x1-2))<(x0.length:Int) then (vf ((CH (x0.getD (i64.wrap (x1-2)).toNat ([]:List Int)) (y5.1,x1,false,false,true,y5.2.2.2.2.2)).bind fun y7=>((Ar y7.1 (1,0,0,0,0,([]:List AA)) y7.2).bind fun y8=>(some ((y5.1,x1,false,false,true,y5.2.2.2.2.2),y8.1,true)))) ((CH (x0.getD (i64.wrap (x1-2)).toNat ([]:List Int)) (y5.1,x1,false,false,true,y5.2.2.2.2.2)).bind fun y9=>(vf ((Ar y9.1 (1,0,0,0,0,([]:List AA)) y9.2).bind fun y10=>(some (y9.2,y10.1,true))) ((Ar y9.1 (1,0,0,0,0,([]:List AA)) y9.2).bind fun y11=>(some (y11.2,y11.1,true)))))) else none) else none)))
def YF (x0:List (List Int)) (x1:Int) (x2:Bool) (x3 x4:Z):Option (Z×List AD×Bool):=((Da x3).bind fun y4=>(if x3.2.2.2.1=true then (K6 x0 x1 (x3.2.1==(i64.wrap (x1-1))) x3 x4 y4) else (K6 x0 x1 false x3 x4 y4)))
def iZ (x0:Z) (x1:List (List Int)) (x2:Int):Option (Z×List AD×Bool):=((GJ x0).bind fun y1=>(if (!y1)=true then (some ((0,0,false,false,false,false,([]:List Int),([]:List AA),0,0,0,0,(U,U,0),([]:List Int)),[],false)) else ((EW x1).bind fun y2=>(if (!y2)=true then (some ((0,0,false,false,false,false,([]:List Int),([]:List AA),0,0,0,0,(U,U,0),([]:List Int)),[],false)) else ((Av x2 2 (x1.length:Int)).bind fun y3=>(if (!y3)=true then (some ((0,0,false,false,false,false,([]:List Int),([]:List AA),0,0,0,0,(U,U,0),([]:List Int)),[],false)) else (if (decide (x2<=x0.2.1))=true then (some ((0,0,false,false,false,false,([]:List Int),([]:List AA),0,0,0,0,(U,U,0),([]:List Int)),[],false)) else (if 0<=(i64.wrap (x2-1)) then (if (i64.wrap (x2-1))<(x1.length:Int) then (if 0<=(0:Int) then (if 0<((x1.getD (i64.wrap (x2-1)).toNat ([]:List Int)).length:Int) then (if (((x1.getD (i64.wrap (x2-1)).toNat ([]:List Int)).getD (0:Int).toNat 0) != x0.1)=true then (some ((0,0,false,false,false,false,([]:List Int),([]:List AA),0,0,0,0,(U,U,0),([]:List Int)),[],false)) else (YD x1 x2 (((x1.getD (i64.wrap (x2-1)).toNat ([]:List Int)).getD (0:Int).toNat 0) != x0.1) x0 (0,0,false,false,false,false,([]:List Int),([]:List AA),0,0,0,0,(U,U,0),([]:List Int)))) else none) else none) else none) else none))))))))
theorem oX:zr YE K6:=jS (by kernel_rfl)
theorem oY:xw YF YD:=jS (by kernel_rfl)
theorem vM:Jl iZ Qy:=cT GR rfl ⟨rfl,rfl⟩ (by kernel_rfl)
def HE:=cG DJ (AK Aa) (AK Aa) kx
def HF:=kE 0 [] [] 0 HE kx
def Gn:St->Option (RT (BI.outs Aa)):=lG DI [] [0,1,7,8] 0 (AK Aa) HF
def BP (x0:List Z) (x1 x2 x3:Int):Option Int:=Gn ⟨[(0,.lst AB x0),(1,.clo 88 .W x1),(7,.int .i64 x2),(8,.int .i64 x3)],[]⟩
def B5 (x0:List Z) (x1 x2 x3:Int):Option Int:=(if (decide (x3<x2))=true then (if 0<=x3 then (if x3<(x0.length:Int) then ((IQ (x0.getD x3.toNat (0,0,false,false,false,false,([]:List Int),([]:List AA),0,0,0,0,(U,U,0),([]:List Int))) x1).bind fun y1=>(if y1=true then (some x3) else (BP x0 x1 x2 (i64.wrap (x3+1))))) else none) else none) else (some (-1:Int)))
def De (x0:List Z) (x1:Int):Option Int:=(BP x0 x1 (x0.length:Int) 0)
theorem C6:so B5 BP:=lS (by kernel_rfl)
theorem H5:JF De CM:=cT Aa rfl ⟨rfl,rfl⟩ (by kernel_rfl)
def Nd (x0:Z) (x1:Int):Option Bool:=(some (x0.1==x1))
theorem Ye:JF Nd IQ:=cT Fw rfl ⟨rfl,rfl⟩ (by kernel_rfl)
def PG (x1 x2:Int) (b0:AL):Option AL:=(if 0<=x1 then (if x1<(b0.2.2.1.length:Int) then ((Bq b0.2.2.1 x1 (i64.wrap (x1+1))).bind fun y1=>((B8 ((((b0.2.2.1.getD x1.toNat (0,0,0,0,0,([]:List AA))).2).2).1) (b0.1,b0.2.1,y1,b0.2.2.2)).bind fun y2=>(if (decide (y2.1>=0))=true then (if 0<=y2.1 then (if y2.1<(y2.2.2.1.length:Int) then ((Mm (y2.2.2.1.getD y2.1.toNat (0,0,false,false,false,false,([]:List Int),([]:List AA),0,0,0,0,(U,U,0),([]:List Int))) y2.2.1 (b0.2.2.1.getD x1.toNat (0,0,0,0,0,([]:List AA)))).bind fun y3=>(if 0<=y2.1 then (if y2.1<(y2.2.2.1.length:Int) then (let z4:List Z:=y2.2.2.1.set y2.1.toNat y3.1; ((GU y3.2.1 y3.2.2 x2 (y2.2.1,z4,y2.2.2.2)).bind fun y5=>(some y5))) else none) else none)) else none) else none) else (some y2.2)))) else none) else none)
theorem Z0:Jl PG I5:=cT GS rfl ⟨rfl,rfl⟩ (by kernel_rfl)
def ln:=cG VO (AK ER) (AK ER) kx
def lq:=kE 0 [] [] 0 ln kx
def ia:St->Option (RT (BI.outs ER)):=lG VN [] [0,1,5] 0 (AK ER) lq
def Ip (x0 x1:List AA) (x2:Int):Option Bool:=ia ⟨[(0,.lst AG x0),(1,.lst AG x1),(5,.int .i64 x2)],[]⟩
def ib (x0 x1:List AA) (x2:Int):Option Bool:=(if (decide (x2<(x0.length:Int)))=true then (if 0<=x2 then (if x2<(x0.length:Int) then (if 0<=x2 then (if x2<(x1.length:Int) then ((Oh (x0.getD x2.toNat (U,U,0)) (x1.getD x2.toNat (U,U,0))).bind fun y1=>(if (!y1)=true then (some false) else (Ip x0 x1 (i64.wrap (x2+1))))) else none) else none) else none) else none) else (some true))
def rm (x0 x1:List AA):Option Bool:=(if ((x0.length:Int) != (x1.length:Int))=true then (some false) else (Ip x0 x1 0))
theorem ic:Jl ib Ip:=lS (by kernel_rfl)
theorem rn:JF rm Mk:=cT ER rfl ⟨rfl,rfl⟩ (by kernel_rfl)
def cY (x0 x1:jq):Option Bool:=(if (x0.1 != x1.1)=true then (some false) else (if (x0.2.1 != x1.2.1)=true then (some false) else (if (x0.2.2.1 != x1.2.2.1)=true then (some false) else ((Oh x0.2.2.2.1 x1.2.2.2.1).bind fun y1=>(if (!y1)=true then (some false) else ((FQ x0.2.2.2.2 x1.2.2.2.2).bind fun y2=>(if (!y2)=true then (some false) else (some true))))))))
theorem tS:JF cY UQ:=cT Oa rfl ⟨rfl,rfl⟩ (by kernel_rfl)
def D_ (x0:Bool) (x1:Z):Option Bool:=cG TL (AK GG) (AK GG) kx ⟨[(1,.ptr 0 0),(70,.bool x0)],[.var (AB.enc x1)]⟩
def SH (x0:Bool) (x1:Z):Option Bool:=((OD x1.2.2.2.2.2.2.2.2.2).bind fun y7=>(if y7=false then (if (x1.2.2.2.2.2.2.2.2.2.1==1)=false then (if (x1.2.2.2.2.2.2.2.2.2.1==2)=true then (if x1.2.2.2.2.2.1=true then ((Ab x1.2.2.2.2.2.2.2.2.2.2.1 0 1000).bind fun y8=>(if y8=true then ((Ab x1.2.2.2.2.2.2.2.2.2.2.2.1 1 900).bind fun y9=>(some y9)) else (some false))) else (some false)) else (some false)) else (if x1.2.2.2.2.2.1=true then ((Ab x1.2.2.2.2.2.2.2.2.2.2.1 0 1000).bind fun y10=>(if y10=true then ((Ab x1.2.2.2.2.2.2.2.2.2.2.2.1 1 900).bind fun y11=>(some y11)) else (some false))) else (some false))) else (some true)))
def YG (x0:Z):Option Bool:=((Ab x0.1 1 6).bind fun y1=>(if (!y1)=false then ((Ab x0.2.1 1 9).bind fun y2=>(if (!y2)=false then (if x0.2.2.2.2.2.1=true then (if (!x0.2.2.2.1)=false then (if (!x0.2.2.2.2.1)=false then (if (decide ((x0.2.2.2.2.2.2.1.length:Int)>0))=false then (if x0.2.2.1=true then (if x0.2.2.2.1=false then (if x0.2.2.2.2.1=false then ((DX x0.2.2.2.2.2.2.1).bind fun y3=>(if (!y3)=false then ((DX x0.2.2.2.2.2.2.2.2.2.2.2.2.2).bind fun y4=>(if (!y4)=false then ((Dd x0.2.2.2.2.2.2.2.1).bind fun y5=>(if (!y5)=false then ((Ab x0.2.2.2.2.2.2.2.2.1 0 900).bind fun y6=>(if (!y6)=true then (some false) else (D_ (!y6) x0))) else (some false))) else (some false))) else (some false))) else (some false)) else (some false)) else ((DX x0.2.2.2.2.2.2.1).bind fun y12=>(if (!y12)=false then ((DX x0.2.2.2.2.2.2.2.2.2.2.2.2.2).bind fun y13=>(if (!y13)=false then ((Dd x0.2.2.2.2.2.2.2.1).bind fun y14=>(if (!y14)=false then ((Ab x0.2.2.2.2.2.2.2.2.1 0 900).bind fun y15=>(if (!y15)=true then (some false) else (D_ (!y15) x0))) else (some false))) else (some false))) else (some false)))) else (some false)) else (some false)) else (some false)) else (if x0.2.2.1=true then (if x0.2.2.2.1=false then (if x0.2.2.2.2.1=false then ((DX x0.2.2.2.2.2.2.1).bind fun y16=>(if (!y16)=false then ((DX x0.2.2.2.2.2.2.2.2.2.2.2.2.2).bind fun y17=>(if (!y17)=false then ((Dd x0.2.2.2.2.2.2.2.1).bind fun y18=>(if (!y18)=false then ((Ab x0.2.2.2.2.2.2.2.2.1 0 900).bind fun y19=>(if (!y19)=true then (some false) else (D_ (!y19) x0))) else (some false))) else (some false))) else (some false))) else (some false)) else (some false)) else ((DX x0.2.2.2.2.2.2.1).bind fun y20=>(if (!y20)=false then ((DX x0.2.2.2.2.2.2.2.2.2.2.2.2.2).bind fun y21=>(if (!y21)=false then ((Dd x0.2.2.2.2.2.2.2.1).bind fun y22=>(if (!y22)=false then ((Ab x0.2.2.2.2.2.2.2.2.1 0 900).bind fun y23=>(if (!y23)=true then (some false) else (D_ (!y23) x0))) else (some false))) else (some false))) else (some false))))) else (some false))) else (some false)))
theorem eY:JF SH D_:=jS (by kernel_rfl)
theorem oZ:SU YG GI:=cT GG rfl ⟨rfl,rfl⟩ (by kernel_rfl)
def ob:=cG Xe (AK FE) (AK FE) kx
def oc:=kE 0 [] [4] 1 ob kx
def lr:St->Option (RT (BI.outs FE)):=lG Xd [] [0,1,4,5] 1 (AK FE) oc
def Je (x0:List AA) (x1:ByteArray) (x2:Int) (x3:AA):Option AA:=lr ⟨[(0,.lst AG x0),(1,.str x1),(4,.ptr 0 0),(5,.int .i64 x2)],[.var (AG.enc x3)]⟩
def OI (x0:List AA) (x1:ByteArray) (x2:Int) (x3:AA):Option AA:=(if (decide (x2<(x0.length:Int)))=true then (if 0<=x2 then (if x2<(x0.length:Int) then (if (((x0.getD x2.toNat (U,U,0)).1).toList==x1.toList)=true then (if 0<=x2 then (if x2<(x0.length:Int) then (some (x0.getD x2.toNat (U,U,0))) else none) else none) else (Je x0 x1 (i64.wrap (x2+1)) x3)) else none) else none) else (some (U,U,0)))
def cZ (x0:List AA) (x1:ByteArray):Option AA:=(Je x0 x1 0 (U,U,0))
theorem Vk:so OI Je:=lS (by kernel_rfl)
theorem tT:JF cZ Oe:=cT FE rfl ⟨rfl,rfl⟩ (by kernel_rfl)
def lu:=cG MW (AK BL) (AK BL) kx
def lw:=kE 2 [(5,1),(6,2)] [0,5,6] 3 lu kx
def ig:St->Option (RT (BI.outs BL)):=lG TM [(5,1),(6,2)] [0,3,5,6,8] 3 (AK BL) lw
def lx:=cG MX (AK BL) (AK BL) kx
def OJ:=kE 0 [(5,1),(6,2)] [0,3,5,6] 3 lx kx
def Tt:St->Option (RT (BI.outs BL)):=lG VR [(5,1),(6,2)] [0,3,5,6,7] 3 (AK BL) OJ
def ly:=kB [(5,1),(6,2)] [0,3,5,6,7] 3 Tt
def Vl:=cG VQ ly (AK BL) OJ
def l7:=kB [(5,1),(6,2)] [0,3,5,6,7] 3 Vl
def l8:=kE 1 [(5,1),(6,2)] [0,3,5,6,7] 3 Vl OJ
def Iq (x0:List AA) (x1:Int) (x2:AA) (x3 x4:List AA):Option (List AA):=cG VP l7 (AK BL) l8 ⟨[(0,.lst AG x0),(3,.ptr 0 0),(5,.row 1),(6,.row 2),(7,.int .i64 x1)],[.var (AG.enc x2),.rows 70 AG x3,.rows 70 AG x4]⟩
def M5 (x0:List AA) (x1:AA) (x2 x3:List AA):Option (List AA):=cG MW (AK BL) (AK BL) kx ⟨[(0,.lst AG x0),(5,.row 1),(6,.row 2)],[.var (AG.enc x1),.rows 70 AG x2,.rows 70 AG x3]⟩
def Ee (x0:List AA) (x1:Int) (x2:AA) (x3 x4:List AA):Option (List AA):=ig ⟨[(0,.lst AG x0),(3,.ptr 0 0),(5,.row 1),(6,.row 2),(8,.int .i64 x1)],[.var (AG.enc x2),.rows 70 AG x3,.rows 70 AG x4]⟩
def M6 (x0:List AA) (x1:AA) (x2 x3:List AA):Option (List AA):=cG MX (AK BL) (AK BL) kx ⟨[(0,.lst AG x0),(3,.ptr 0 0),(5,.row 1),(6,.row 2)],[.var (AG.enc x1),.rows 70 AG x2,.rows 70 AG x3]⟩
def Ef (x0:List AA) (x1:Int) (x2:AA) (x3 x4:List AA):Option (List AA):=Tt ⟨[(0,.lst AG x0),(3,.ptr 0 0),(5,.row 1),(6,.row 2),(7,.int .i64 x1)],[.var (AG.enc x2),.rows 70 AG x3,.rows 70 AG x4]⟩
def Tu (x0:List AA) (x1:Int) (x2:AA) (x3 x4:List AA):Option (List AA):=(if 0<=x1 then (if x1<(x0.length:Int) then (if (((x0.getD x1.toNat (U,U,0)).1).toList==x2.1.toList)=true then (if 0<=x1 then (if x1<(x0.length:Int) then (if (decide ((((x0.getD x1.toNat (U,U,0)).2).2)>=x2.2.2))=true then (some x3) else (Ef x0 (i64.wrap (x1+1)) x2 x3 x4)) else none) else none) else (Ef x0 (i64.wrap (x1+1)) x2 x3 x4)) else none) else none)
def Tv (x0:List AA) (x1:AA) (x2 x3:List AA):Option (List AA):=((Dd x0).bind fun y1=>(if (!y1)=false then ((Dd x3).bind fun y2=>(if (!y2)=true then (some x2) else (some x3))) else (some x2)))
def M7 (x0:List AA) (x1:Int) (x2:AA) (x3 x4:List AA):Option (List AA):=(if (decide (x1<(x0.length:Int)))=true then (if 0<=x1 then (if x1<(x0.length:Int) then (if (!((Op.bytesLess ((x0.getD x1.toNat (U,U,0)).1).toList x2.1.toList)||(((x0.getD x1.toNat (U,U,0)).1).toList==x2.1.toList)))=true then (if 0<=x1 then (if x1<(x0.length:Int) then (if x4.length+([x0.getD x1.toNat (U,U,0)]:List AA).length<=68719476736 then (Ee x0 (i64.wrap (x1+1)) x2 x3 (x4++([x0.getD x1.toNat (U,U,0)]:List AA))) else none) else none) else none) else (Ee x0 (i64.wrap (x1+1)) x2 x3 x4)) else none) else none) else (M5 x0 x2 x3 x4))
def Tw (x0:List AA) (x1:AA) (x2 x3:List AA):Option (List AA):=(if x3.length+([x1]:List AA).length<=68719476736 then (Ee x0 0 x1 x2 (x3++([x1]:List AA))) else none)
def M8 (x0:List AA) (x1:Int) (x2:AA) (x3 x4:List AA):Option (List AA):=(if (decide (x1<(x0.length:Int)))=true then (if 0<=x1 then (if x1<(x0.length:Int) then (if (Op.bytesLess ((x0.getD x1.toNat (U,U,0)).1).toList x2.1.toList)=true then (if 0<=x1 then (if x1<(x0.length:Int) then (if x4.length+([x0.getD x1.toNat (U,U,0)]:List AA).length<=68719476736 then (Iq x0 x1 x2 x3 (x4++([x0.getD x1.toNat (U,U,0)]:List AA))) else none) else none) else none) else (Iq x0 x1 x2 x3 x4)) else none) else none) else (M6 x0 x2 x3 x4))
def Z1 (x0:List AA) (x1:AA):Option (List AA):=(if ([]:List AA).length+x0.length<=68719476736 then (Ef x0 0 x1 (([]:List AA)++x0) ([]:List AA)) else none)
theorem ii:xw Tu Iq:=jS (by kernel_rfl)
theorem ij:so Tv M5:=jS (by kernel_rfl)
theorem Tx:xw M7 Ee:=lS (by kernel_rfl)
theorem ik:so Tw M6:=jS (by kernel_rfl)
theorem Ty:xw M8 Ef:=lS (by kernel_rfl)
theorem ro:JF Z1 I6:=cT BL rfl ⟨rfl,rfl⟩ (by kernel_rfl)
def eZ:=cG Rj (AK DK) (AK DK) kx
def ed:=kE 0 [(5,0)] [5] 1 eZ kx
def br:St->Option (RT (BI.outs DK)):=lG Ri [(5,0)] [0,1,5,6] 1 (AK DK) ed
def CU (x0:List Int) (x1 x2:Int) (x3:List Int):Option (List Int):=br ⟨[(0,.lst .W x0),(1,.int .i64 x1),(5,.row 0),(6,.int .i64 x2)],[.rows 3 .W x3]⟩
def KQ (x0:List Int) (x1 x2:Int) (x3:List Int):Option (List Int):=(if (decide (x2<=6))=true then (if (x2 != x1)=true then ((E5 x0 x2).bind fun y1=>(if y1=true then (if x3.length+([x2]:List Int).length<=68719476736 then (CU x0 x1 (i64.wrap (x2+1)) (x3++([x2]:List Int))) else none) else (CU x0 x1 (i64.wrap (x2+1)) x3))) else (CU x0 x1 (i64.wrap (x2+1)) x3)) else (some x3))
def Vm (x0:List Int) (x1:Int):Option (List Int):=(CU x0 x1 1 ([]:List Int))
theorem Qg:so KQ CU:=lS (by kernel_rfl)
theorem l9:JF Vm HC:=cT DK rfl ⟨rfl,rfl⟩ (by kernel_rfl)
def Vn (b0:Z):Option (List AM×Z):=(if (b0.2.2.2.2.2.2.2.2.2.1==1)=true then ((I6 b0.2.2.2.2.2.2.2.1 b0.2.2.2.2.2.2.2.2.2.2.2.2.1).bind fun y1=>(some (([(b0.2.2.2.2.2.2.2.2.2.2.1,b0.2.1,b0.2.2.2.2.2.2.2.2.2.2.2.1,b0.2.2.2.2.2.2.2.2.2.2.2.2.1)]:List AM),(b0.1,b0.2.1,b0.2.2.1,b0.2.2.2.1,b0.2.2.2.2.1,b0.2.2.2.2.2.1,b0.2.2.2.2.2.2.1,y1,b0.2.2.2.2.2.2.2.2.1,0,0,0,(U,U,0),([]:List Int))))) else ((Oe b0.2.2.2.2.2.2.2.1 b0.2.2.2.2.2.2.2.2.2.2.2.2.1.1).bind fun y2=>(some (([(b0.2.2.2.2.2.2.2.2.2.2.1,b0.2.1,b0.2.2.2.2.2.2.2.2.2.2.2.1,y2)]:List AM),(b0.1,b0.2.1,b0.2.2.1,b0.2.2.2.1,b0.2.2.2.2.1,b0.2.2.2.2.2.1,b0.2.2.2.2.2.2.1,b0.2.2.2.2.2.2.2.1,b0.2.2.2.2.2.2.2.2.1,0,0,0,(U,U,0),([]:List Int))))))
theorem l_:SU Vn HD:=cT JS rfl ⟨rfl,rfl⟩ (by kernel_rfl)
def od:=cG Xg (AK FF) (AK FF) kx
def oe:=kE 0 [(7,1)] [7] 3 od kx
def mA:St->Option (RT (BI.outs FF)):=lG Xf [(7,1)] [0,1,2,7,8] 3 (AK FF) oe
def HG (x0:List Int) (x1:List AA) (x2:Int) (x3:Z) (x4:List AD) (x5:List AA):Option (List AD×Z):=mA ⟨[(0,.ptr 0 0),(1,.lst .W x0),(2,.lst AG x1),(7,.row 1),(8,.int .i64 x2)],[.var (AB.enc x3),.rows 90 AI x4,.frz AG x5]⟩
def OK (x0:List Int) (x1:List AA) (x2:Int) (x3:Z) (x4:List AD) (x5:List AA):Option (List AD×Z):=(if (decide (x2<(x0.length:Int)))=true then (if 0<=x2 then (if x2<(x0.length:Int) then (if ((x0.getD x2.toNat 0) != x3.1)=true then (if 0<=x2 then (if x2<(x0.length:Int) then (if ([]:List AA).length+x1.length<=68719476736 then (if x4.length+([(3,x3.1,(x0.getD x2.toNat 0),x3.2.1,0,(([]:List AA)++x1))]:List AD).length<=68719476736 then (HG x0 x1 (i64.wrap (x2+1)) x3 (x4++([(3,x3.1,(x0.getD x2.toNat 0),x3.2.1,0,(([]:List AA)++x1))]:List AD)) x5) else none) else none) else none) else none) else (HG x0 x1 (i64.wrap (x2+1)) x3 x4 x5)) else none) else none) else (some (x4,x3)))
def ca (x1:List Int) (x2:List AA) (b0:Z):Option (List AD×Z):=(if ([]:List AA).length+x2.length<=68719476736 then ((HC x1 b0.1).bind fun y1=>(HG x1 x2 0 (b0.1,b0.2.1,b0.2.2.1,true,b0.2.2.2.2.1,((y1.length:Int)==0),y1,(([]:List AA)++x2),b0.2.2.2.2.2.2.2.2) ([]:List AD) (([]:List AA)++x2))) else none)
theorem Vo:zr OK HG:=lS (by kernel_rfl)
theorem tU:Jl ca Of:=cT FF rfl ⟨rfl,rfl⟩ (by kernel_rfl)
def Z2:=cG ZS (AK E1) (AK E1) kx
def rp:=kB [] [1] 1 Z2
def rq:=kE 0 [] [1] 1 Z2 kx
def K7 (x0:Int) (x1:Bool) (x2:AD):Option Bool:=cG ZR rp (AK E1) rq ⟨[(1,.ptr 0 0),(38,.int .i64 x0),(39,.bool x1)],[.var (AI.enc x2)]⟩
def Pw (x0:Bool) (x1:AD):Option Bool:=cG ZT (AK E1) (AK E1) kx ⟨[(1,.ptr 0 0),(36,.bool x0)],[.var (AI.enc x1)]⟩
def YH (x0:Int) (x1:Bool) (x2:AD):Option Bool:=(if x1=true then (some true) else (if (x0==5)=true then (some ((x2.2.2.2.2.2.length:Int)==1)) else (some ((x2.2.2.2.2.2.length:Int)==0))))
def YI (x0:Bool) (x1:AD):Option Bool:=(if (x1.1==2)=true then (K7 x1.1 (x1.1==2) x1) else (K7 x1.1 (x1.1==3) x1))
def il (x0:AD):Option Bool:=((Ab x0.1 1 8).bind fun y1=>(if (!y1)=false then ((Ab x0.2.1 1 6).bind fun y2=>(if (!y2)=false then ((Ab x0.2.2.1 1 6).bind fun y3=>(if (!y3)=false then ((Ab x0.2.2.2.1 1 9).bind fun y4=>(if (!y4)=false then ((Ab x0.2.2.2.2.1 0 1000000000).bind fun y5=>(if (!y5)=false then ((Dd x0.2.2.2.2.2).bind fun y6=>(if (!y6)=true then (some false) else (Pw (!y6) x0))) else (some false))) else (some false))) else (some false))) else (some false))) else (some false)))
theorem og:Jl YH K7:=jS (by kernel_rfl)
theorem oh:JF YI Pw:=jS (by kernel_rfl)
theorem vN:SU il Wm:=cT E1 rfl ⟨rfl,rfl⟩ (by kernel_rfl)
def YJ:=cG VV (AK Cj) (AK Cj) kx
def GL:=kB [] [6,9,10,11] 4 YJ
def GM:=kE 0 [] [6,9,10,11] 4 YJ kx
def Jf (x0:List Int) (x1:List AD) (x2:List AM) (x3:Bool) (x4:Z) (x5:AD) (x6 x7:Z):Option (Z×List AD×List AM):=cG Xh GL (AK Cj) GM ⟨[(1,.lst .W x0),(5,.ptr 1 0),(6,.ptr 2 0),(9,.ptr 3 0),(10,.lst AI x1),(11,.lst BD x2),(28,.bool x3)],[.var (AB.enc x4),.var (AI.enc x5),.var (AB.enc x6),.var (AB.enc x7)]⟩
def Jg (x0:List AD) (x1:List AM) (x2:Bool) (x3:Z) (x4:AD) (x5 x6:Z):Option (Z×List AD×List AM):=cG Xi GL (AK Cj) GM ⟨[(3,.ptr 0 0),(5,.ptr 1 0),(6,.ptr 2 0),(9,.ptr 3 0),(10,.lst AI x0),(11,.lst BD x1),(60,.bool x2)],[.var (AB.enc x3),.var (AI.enc x4),.var (AB.enc x5),.var (AB.enc x6)]⟩
def OL (x0:List AD) (x1:List AM) (x2:Bool) (x3:Z) (x4:AD) (x5 x6:Z):Option (Z×List AD×List AM):=cG Xj GL (AK Cj) GM ⟨[(3,.ptr 0 0),(5,.ptr 1 0),(6,.ptr 2 0),(9,.ptr 3 0),(10,.lst AI x0),(11,.lst BD x1),(50,.bool x2)],[.var (AB.enc x3),.var (AI.enc x4),.var (AB.enc x5),.var (AB.enc x6)]⟩
def OM (x0:List AD) (x1:List AM) (x2:Bool) (x3:Z) (x4:AD) (x5 x6:Z):Option (Z×List AD×List AM):=cG VS GL (AK Cj) GM ⟨[(5,.ptr 1 0),(6,.ptr 2 0),(9,.ptr 3 0),(10,.lst AI x0),(11,.lst BD x1),(145,.bool x2)],[.var (AB.enc x3),.var (AI.enc x4),.var (AB.enc x5),.var (AB.enc x6)]⟩
def Jh (x0:List AD) (x1:List AM) (x2:Int) (x3:Z) (x4:AD) (x5 x6:Z):Option (Z×List AD×List AM):=cG VT GL (AK Cj) GM ⟨[(5,.ptr 1 0),(6,.ptr 2 0),(9,.ptr 3 0),(10,.lst AI x0),(11,.lst BD x1),(13,.int .i64 x2)],[.var (AB.enc x3),.var (AI.enc x4),.var (AB.enc x5),.var (AB.enc x6)]⟩
def Ji (x0:List AD) (x1:List AM) (x2:Bool) (x3:Z) (x4:AD) (x5 x6:Z):Option (Z×List AD×List AM):=cG VU GL (AK Cj) GM ⟨[(5,.ptr 1 0),(6,.ptr 2 0),(9,.ptr 3 0),(10,.lst AI x0),(11,.lst BD x1),(127,.bool x2)],[.var (AB.enc x3),.var (AI.enc x4),.var (AB.enc x5),.var (AB.enc x6)]⟩
def Vp (x0:List Int) (x1:List AD) (x2:List AM) (x3:Bool) (x4:Z) (x5:AD) (x6 x7:Z):Option (Z×List AD×List AM):=(if x3=true then ((Of x0 x5.2.2.2.2.2 x7).bind fun y2=>(some (y2.2,y2.1,x2))) else (some (x7,x1,x2)))
def Vq (x0:List AD) (x1:List AM) (x2:Bool) (x3:Z) (x4:AD) (x5 x6:Z):Option (Z×List AD×List AM):=(if (!x6.2.2.2.1)=true then ((Ml x3 x3.2.1).bind fun y4=>(if ([]:List AA).length+x4.2.2.2.2.2.length<=68719476736 then ((Eh x3 x4 4).bind fun y5=>(some ((y4.1,y4.2.1,y4.2.2.1,true,y4.2.2.2.2.1,y4.2.2.2.2.2.1,y4.2.2.2.2.2.2.1,(([]:List AA)++x4.2.2.2.2.2),y4.2.2.2.2.2.2.2.2),y5,x1))) else none)) else ((Eh x3 x4 4).bind fun y6=>(some (x6,y6,x1))))
def Vr (x0:List AD) (x1:List AM) (x2:Bool) (x3:Z) (x4:AD) (x5 x6:Z):Option (Z×List AD×List AM):=(if (!x6.2.2.2.1)=true then (if x6.2.2.1=true then (some (x6,x0,x1)) else (Jg x0 x1 x6.2.2.1 x3 x4 x5 x6)) else (Jg x0 x1 false x3 x4 x5 x6))
def Vs (x0:List AD) (x1:List AM) (x2:Bool) (x3:Z) (x4:AD) (x5 x6:Z):Option (Z×List AD×List AM):=((If x6.2.2.2.2.2.2.2.2.2.2.2.2.2 x4.2.1).bind fun y11=>(if ((y11.length:Int)==0)=true then ((HD (x6.1,x6.2.1,x6.2.2.1,x6.2.2.2.1,x6.2.2.2.2.1,x6.2.2.2.2.2.1,x6.2.2.2.2.2.2.1,x6.2.2.2.2.2.2.2.1,x6.2.2.2.2.2.2.2.2.1,x6.2.2.2.2.2.2.2.2.2.1,x6.2.2.2.2.2.2.2.2.2.2.1,x6.2.2.2.2.2.2.2.2.2.2.2.1,x6.2.2.2.2.2.2.2.2.2.2.2.2.1,y11)).bind fun y12=>(some (y12.2,x0,y12.1))) else (some ((x6.1,x6.2.1,x6.2.2.1,x6.2.2.2.1,x6.2.2.2.2.1,x6.2.2.2.2.2.1,x6.2.2.2.2.2.2.1,x6.2.2.2.2.2.2.2.1,x6.2.2.2.2.2.2.2.2.1,x6.2.2.2.2.2.2.2.2.2.1,x6.2.2.2.2.2.2.2.2.2.2.1,x6.2.2.2.2.2.2.2.2.2.2.2.1,x6.2.2.2.2.2.2.2.2.2.2.2.2.1,y11),x0,x1))))
def Vt (x0:List AD) (x1:List AM) (x2:Int) (x3:Z) (x4:AD) (x5 x6:Z):Option (Z×List AD×List AM):=(if (x6.2.2.2.2.2.2.2.2.2.1 != x2)=false then (if (x6.2.2.2.2.2.2.2.2.2.2.2.1 != x4.2.2.2.2.1)=true then (some (x6,x0,x1)) else (OM x0 x1 (x6.2.2.2.2.2.2.2.2.2.2.2.1 != x4.2.2.2.2.1) x3 x4 x5 x6)) else (some (x6,x0,x1)))
def Vu (x0:List AD) (x1:List AM) (x2:Bool) (x3:Z) (x4:AD) (x5 x6:Z):Option (Z×List AD×List AM):=(if x2=true then (if (x4.1==8)=true then (Jh x0 x1 2 x3 x4 x5 x6) else (Jh x0 x1 1 x3 x4 x5 x6)) else (some (x6,x0,x1)))
def cc (x0:Z) (x1:List Int) (x2:AD):Option (Z×List AD×List AM):=((DZ x0).bind fun y1=>(if (x2.1==2)=true then (if y1.2.2.2.2.1=true then (Jf x1 ([]:List AD) ([]:List AM) (!y1.2.2.2.1) x0 x2 (0,0,false,false,false,false,([]:List Int),([]:List AA),0,0,0,0,(U,U,0),([]:List Int)) y1) else (Jf x1 ([]:List AD) ([]:List AM) false x0 x2 (0,0,false,false,false,false,([]:List Int),([]:List AA),0,0,0,0,(U,U,0),([]:List Int)) y1)) else (if (x2.1==3)=true then ((E5 x1 x0.1).bind fun y3=>(if (!y3)=true then (some (y1,([]:List AD),([]:List AM))) else (if 0<=(0:Int) then (if 0<(x1.length:Int) then (if ((x1.getD (0:Int).toNat 0)==x0.1)=true then (some (y1,([]:List AD),([]:List AM))) else (OL ([]:List AD) ([]:List AM) ((x1.getD (0:Int).toNat 0)==x0.1) x0 x2 (0,0,false,false,false,false,([]:List Int),([]:List AA),0,0,0,0,(U,U,0),([]:List Int)) y1)) else none) else none))) else (if (x2.1==4)=true then (if y1.2.2.2.2.1=true then ((If y1.2.2.2.2.2.2.1 x2.2.1).bind fun y7=>(if y1.2.2.2.1=true then (some ((y1.1,y1.2.1,y1.2.2.1,y1.2.2.2.1,y1.2.2.2.2.1,((y7.length:Int)==0),y7,y1.2.2.2.2.2.2.2),([]:List AD),([]:List AM))) else (some ((y1.1,y1.2.1,y1.2.2.1,y1.2.2.2.1,y1.2.2.2.2.1,false,y7,y1.2.2.2.2.2.2.2),([]:List AD),([]:List AM))))) else (some (y1,([]:List AD),([]:List AM)))) else (if (x2.1==5)=true then (if y1.2.2.2.1=true then (if 0<=(0:Int) then (if 0<(x2.2.2.2.2.2.length:Int) then ((I6 y1.2.2.2.2.2.2.2.1 (x2.2.2.2.2.2.getD (0:Int).toNat (U,U,0))).bind fun y8=>((Eh x0 x2 6).bind fun y9=>(some ((y1.1,y1.2.1,y1.2.2.1,y1.2.2.2.1,y1.2.2.2.2.1,y1.2.2.2.2.2.1,y1.2.2.2.2.2.2.1,y8,y1.2.2.2.2.2.2.2.2),y9,([]:List AM))))) else none) else none) else (some (y1,([]:List AD),([]:List AM)))) else (if (x2.1==7)=true then (if y1.2.2.2.1=true then ((Eh x0 x2 8).bind fun y10=>(some (y1,y10,([]:List AM)))) else (some (y1,([]:List AD),([]:List AM)))) else (if (x2.1==6)=true then (Ji ([]:List AD) ([]:List AM) (x2.1==6) x0 x2 (0,0,false,false,false,false,([]:List Int),([]:List AA),0,0,0,0,(U,U,0),([]:List Int)) y1) else (Ji ([]:List AD) ([]:List AM) (x2.1==8) x0 x2 (0,0,false,false,false,false,([]:List Int),([]:List AA),0,0,0,0,(U,U,0),([]:List Int)) y1))))))))
theorem mB:Le8 Vp Jf:=jS (by kernel_rfl)
theorem mC:Le7 Vq Jg:=jS (by kernel_rfl)
theorem mD:Le7 Vr OL:=jS (by kernel_rfl)
theorem mE:Le7 Vs OM:=jS (by kernel_rfl)
theorem mF:Le7 Vt Jh:=jS (by kernel_rfl)
theorem mG:Le7 Vu Ji:=jS (by kernel_rfl)
theorem tV:Jl cc UR:=cT Cj rfl ⟨rfl,rfl⟩ (by kernel_rfl)
def Z3 (x0:Z) (x1:Int):Option Z:=(if ([]:List AA).length+x0.2.2.2.2.2.2.2.1.length<=68719476736 then (some (x0.1,x1,false,false,false,false,([]:List Int),(([]:List AA)++x0.2.2.2.2.2.2.2.1),0,0,0,0,(U,U,0),([]:List Int))) else none)
theorem ru:JF Z3 Ml:=cT MY rfl ⟨rfl,rfl⟩ (by kernel_rfl)
def ol (x0:Z) (x1:AD) (x2:Int):Option (List AD):=(some ([(x2,x0.1,x1.2.1,x1.2.2.2.1,x1.2.2.2.2.1,([]:List AA))]:List AD))
theorem om:Jl ol Eh:=cT Kr rfl ⟨rfl,rfl⟩ (by kernel_rfl)
def Ld (x0:Bool) (x1:Z):Option Bool:=cG TN (AK GH) (AK GH) kx ⟨[(1,.ptr 0 0),(30,.bool x0)],[.var (AB.enc x1)]⟩
def SI (x0:Bool) (x1:Z):Option Bool:=(if x1.2.2.2.2.2.1=true then (if (!x1.2.2.2.1)=false then (if (!x1.2.2.2.2.1)=false then (if (decide ((x1.2.2.2.2.2.2.1.length:Int)>0))=false then (if x1.2.2.1=true then (if x1.2.2.2.1=false then (if x1.2.2.2.2.1=true then (some false) else ((DN x1).bind fun y6=>(some y6.1))) else (some false)) else ((DN x1).bind fun y7=>(some y7.1))) else (some false)) else (some false)) else (some false)) else (if x1.2.2.1=true then (if x1.2.2.2.1=false then (if x1.2.2.2.2.1=true then (some false) else ((DN x1).bind fun y8=>(some y8.1))) else (some false)) else ((DN x1).bind fun y9=>(some y9.1))))
def YK (x0:Z):Option Bool:=((FR x0.1).bind fun y1=>(if (!y1)=false then ((Av x0.2.1 1 9).bind fun y2=>(if (!y2)=false then ((Hl x0.2.2.2.2.2.2.1 1 6).bind fun y3=>(if (!y3)=false then ((Fj x0.2.2.2.2.2.2.2.1).bind fun y4=>(if (!y4)=false then ((Av x0.2.2.2.2.2.2.2.2.1 0 900).bind fun y5=>(if (!y5)=true then (some false) else (Ld (!y5) x0))) else (some false))) else (some false))) else (some false))) else (some false)))
theorem eo:JF SI Ld:=jS (by kernel_rfl)
theorem oq:SU YK GJ:=cT GH rfl ⟨rfl,rfl⟩ (by kernel_rfl)
def J8 (x0:List (List Int)) (x1:Bool) (x2:Z):Option (Bool×Z):=cG KZ (AK Cm) (AK Cm) kx ⟨[(0,.ptr 0 0),(1,.lst .S x0),(33,.bool x1)],[.var (AB.enc x2)]⟩
def J9 (x0:List (List Int)) (x1:Bool) (x2:Z):Option (Bool×Z):=((EW x0).bind fun y1=>(if y1=true then (if 0<=(i64.wrap (x2.2.1-1)) then (if (i64.wrap (x2.2.1-1))<(x0.length:Int) then (if 0<=(0:Int) then (if 0<((x0.getD (i64.wrap (x2.2.1-1)).toNat ([]:List Int)).length:Int) then (some ((((x0.getD (i64.wrap (x2.2.1-1)).toNat ([]:List Int)).getD (0:Int).toNat 0)==x2.1),x2)) else none) else none) else none) else none) else (some (false,x2))))
def M9 (x1:List (List Int)) (b0:Z):Option (Bool×Z):=(if (!b0.2.2.2.2.2.1)=false then (if (b0.2.2.2.2.2.2.2.2.2.1 != 0)=false then (if (b0.2.2.2.2.2.2.2.2.1==900)=false then (if (decide (b0.2.1>(x1.length:Int)))=true then (some (false,b0)) else (J8 x1 (decide (b0.2.1>(x1.length:Int))) b0)) else (some (false,b0))) else (some (false,b0))) else (some (false,b0)))
theorem Sf:Jl J9 J8:=jS (by kernel_rfl)
theorem Ws:JF M9 Hj:=cT Cm rfl ⟨rfl,rfl⟩ (by kernel_rfl)

def ot:=cG Xl (AK FI) (AK FI) kx
def ou:=kE 0 [] [4] 1 ot kx
def mH:St->Option (RT (BI.outs FI)):=lG Xk [] [1,4,7,8,9] 1 (AK FI) ou
def Jj (x0:ByteArray) (x1:List AA) (x2 x3:Int) (x4:AA):Option AA:=mH ⟨[(1,.str x0),(4,.ptr 0 0),(7,.lst AG x1),(8,.int .i64 x2),(9,.int .i64 x3)],[.var (AG.enc x4)]⟩
def ON (x0:ByteArray) (x1:List AA) (x2 x3:Int) (x4:AA):Option AA:=(if (decide (x3<x2))=true then (if 0<=x3 then (if x3<(x1.length:Int) then (if (((x1.getD x3.toNat (U,U,0)).1).toList==x0.toList)=true then (some (x1.getD x3.toNat (U,U,0))) else (Jj x0 x1 x2 (i64.wrap (x3+1)) x4)) else none) else none) else (some (U,U,0)))
def cd (x0:List AA) (x1:ByteArray):Option AA:=(Jj x1 x0 (x0.length:Int) 0 (U,U,0))
theorem Vv:xw ON Jj:=lS (by kernel_rfl)
theorem tW:JF cd Og:=cT FI rfl ⟨rfl,rfl⟩ (by kernel_rfl)
def Wt:=cG Ma (AK CG) (AK CG) kx
def Wu:=kE 0 [(5,1)] [5] 2 Wt kx
def Vw:St->Option (RT (BI.outs CG)):=lG MZ [(5,1)] [0,5,8,9,10] 2 (AK CG) Wu
def DP (x0:List Int) (x1 x2:Int) (x3:Z) (x4:List Int):Option (List Int×Z):=Vw ⟨[(0,.ptr 0 0),(5,.row 1),(8,.lst .W x0),(9,.int .i64 x1),(10,.int .i64 x2)],[.var (AB.enc x3),.rows 3 .W x4]⟩
def HH (x0:List Int) (x1 x2:Int) (x3:Z) (x4:List Int):Option (List Int×Z):=(if (decide (x2<x1))=true then (if 0<=x2 then (if x2<(x0.length:Int) then (if ((x0.getD x2.toNat 0) != x3.1)=true then (if x4.length+([(x0.getD x2.toNat 0)]:List Int).length<=68719476736 then (DP x0 x1 (i64.wrap (x2+1)) x3 (x4++([(x0.getD x2.toNat 0)]:List Int))) else none) else (DP x0 x1 (i64.wrap (x2+1)) x3 x4)) else none) else none) else (some (x4,x3)))
def PH (x1:List Int) (b0:Z):Option (List Int×Z):=(DP x1 (x1.length:Int) 0 b0 ([]:List Int))
theorem Lx:xw HH DP:=lS (by kernel_rfl)
theorem Z4:JF PH CH:=cT CG rfl ⟨rfl,rfl⟩ (by kernel_rfl)
def Nf (b0:List Int):Option (List Int):=((Pi (IntKind.u64.wrap (b0.length:Int))).bind fun y1=>((E6 0 (b0.length:Int) y1 b0).bind fun y2=>(some y2)))
theorem Yf:SU Nf Cx:=cT Fx rfl ⟨rfl,rfl⟩ (by kernel_rfl)
def IW (x0:Z) (x1:jq):Option (List AM×Z):=cG O3 (AK D6) (AK D6) kx ⟨[(0,.ptr 0 0),(3,.ptr 1 0)],[.var (AB.enc x0),.var (Gk.enc x1)]⟩
def IX (x0:Z) (x1:jq):Option (List AM×Z):=(some (([(x1.2.1,x0.2.1,x1.2.2.1,x1.2.2.2.1)]:List AM),(x0.1,x0.2.1,x0.2.2.1,x0.2.2.2.1,x0.2.2.2.2.1,x0.2.2.2.2.2.1,x0.2.2.2.2.2.2.1,x0.2.2.2.2.2.2.2.1,x0.2.2.2.2.2.2.2.2.1,0,0,0,(U,U,0),([]:List Int))))
def SJ (b0:Z):Option (List AM×Z):=(if (b0.2.2.2.2.2.2.2.2.2.1==1)=true then ((Mn b0.2.2.2.2.2.2.2.1 b0.2.2.2.2.2.2.2.2.2.2.2.2.1).bind fun y1=>(IW (b0.1,b0.2.1,b0.2.2.1,b0.2.2.2.1,b0.2.2.2.2.1,b0.2.2.2.2.2.1,b0.2.2.2.2.2.2.1,y1,b0.2.2.2.2.2.2.2.2) b0.2.2.2.2.2.2.2.2.2)) else ((Og b0.2.2.2.2.2.2.2.1 b0.2.2.2.2.2.2.2.2.2.2.2.2.1.1).bind fun y2=>(IW b0 (b0.2.2.2.2.2.2.2.2.2.1,b0.2.2.2.2.2.2.2.2.2.2.1,b0.2.2.2.2.2.2.2.2.2.2.2.1,y2,b0.2.2.2.2.2.2.2.2.2.2.2.2.2))))
theorem Ng:JF IX IW:=jS (by kernel_rfl)
theorem ew:SU SJ Hk:=cT D6 rfl ⟨rfl,rfl⟩ (by kernel_rfl)
def Vx:=cG Lr (AK B6) (AK B6) kx
def Vy:=kE 0 [(7,2)] [7] 3 Vx kx
def UX:St->Option (RT (BI.outs B6)):=lG Lq [(7,2)] [0,5,7,11,12,13] 3 (AK B6) Vy
def EG (x0:List Int) (x1 x2:Int) (x3:Z) (x4:AD) (x5:List AD):Option (List AD×Z):=UX ⟨[(0,.ptr 0 0),(5,.ptr 1 0),(7,.row 2),(11,.lst .W x0),(12,.int .i64 x1),(13,.int .i64 x2)],[.var (AB.enc x3),.var (AI.enc x4),.rows 90 AI x5]⟩
def Gl (x0:List Int) (x1 x2:Int) (x3:Z) (x4:AD) (x5:List AD):Option (List AD×Z):=(if (decide (x2<x1))=true then (if 0<=x2 then (if x2<(x0.length:Int) then ((I4 x4).bind fun y1=>(if x5.length+([(y1.1,x3.1,(x0.getD x2.toNat 0),x3.2.1,y1.2.2.2.2)]:List AD).length<=68719476736 then (EG x0 x1 (i64.wrap (x2+1)) x3 x4 (x5++([(y1.1,x3.1,(x0.getD x2.toNat 0),x3.2.1,y1.2.2.2.2)]:List AD))) else none)) else none) else none) else (some (x5,x3)))
def Nh (x1:List Int) (x2:AD) (b0:Z):Option (List AD×Z):=(EG x1 (x1.length:Int) 0 b0 x2 ([]:List AD))
theorem Kb:zr Gl EG:=lS (by kernel_rfl)
theorem Yg:Jl Nh Ar:=cT B6 rfl ⟨rfl,rfl⟩ (by kernel_rfl)
def im (b0:Z):Option Z:=(some (b0.1,b0.2.1,b0.2.2.1,b0.2.2.2.1,false,false,[],b0.2.2.2.2.2.2.2.1,0,0,0,0,(U,U,0),([]:List Int)))
theorem ip:SU im GV:=cT Id rfl ⟨rfl,rfl⟩ (by kernel_rfl)
def M_ (x1:List Int) (x2:List AA) (b0:Z):Option (List AD×Z):=((CH x1 b0).bind fun y1=>((Ae x2).bind fun y2=>((BG y1.1).bind fun y3=>((Cx y3).bind fun y4=>(if ((y1.1.length:Int)==0)=true then ((Ar y1.1 (3,0,0,0,0,x2) (y1.2.1,y1.2.2.1,y1.2.2.2.1,true,y1.2.2.2.2.2.1,true,y4,y2,y1.2.2.2.2.2.2.2.2.2)).bind fun y5=>(some (y5.1,y5.2))) else ((Ar y1.1 (3,0,0,0,0,x2) (y1.2.1,y1.2.2.1,y1.2.2.2.1,true,y1.2.2.2.2.2.1,y1.2.2.2.2.2.2.1,y4,y2,y1.2.2.2.2.2.2.2.2.2)).bind fun y6=>(some (y6.1,y6.2))))))))
theorem Ww:Jl M_ Dc:=cT E2 rfl ⟨rfl,rfl⟩ (by kernel_rfl)
def Tz (x0:List (List Int)) (x1:Bool) (x2:Z) (x3:AD) (x4 x5:Z):Option (Z×List AD×List AM):=cG VX (AK G_) (AK G_) kx ⟨[(1,.lst .S x0),(5,.ptr 1 0),(6,.ptr 2 0),(9,.ptr 3 0),(47,.bool x1)],[.var (AB.enc x2),.var (AI.enc x3),.var (AB.enc x4),.var (AB.enc x5)]⟩
def T0 (x0:List (List Int)) (x1:Bool) (x2:Z) (x3:AD) (x4 x5:Z):Option (Z×List AD×List AM):=((LJ x0 x3 x5).bind fun y5=>((Da y5.2.2).bind fun y6=>(some (y6,y5.1,y5.2.1))))
def Z5 (x0:Z) (x1:List (List Int)) (x2:AD):Option (Z×List AD×List AM):=((Da x0).bind fun y1=>(if (x2.2.2.1 != x0.1)=false then (if (decide (x2.2.2.2.1<x0.2.1))=false then (if (decide (x2.2.2.2.1>(x1.length:Int)))=false then ((GJ x0).bind fun y2=>(if (!y2)=false then ((EW x1).bind fun y3=>(if (!y3)=false then ((Wn x2).bind fun y4=>(if (!y4)=true then (some (y1,[],[])) else (Tz x1 (!y4) x0 x2 (0,0,false,false,false,false,([]:List Int),([]:List AA),0,0,0,0,(U,U,0),([]:List Int)) y1))) else (some (y1,[],[])))) else (some (y1,[],[])))) else (some (y1,[],[]))) else (some (y1,[],[]))) else (some (y1,[],[]))))
theorem iq:zr T0 Tz:=jS (by kernel_rfl)
theorem rz:Jl Z5 Mm:=cT G_ rfl ⟨rfl,rfl⟩ (by kernel_rfl)
def cf (x0 x1:AA):Option Bool:=(if (!(x0.1.toList==x1.1.toList))=true then (some false) else (if (!(x0.2.1.toList==x1.2.1.toList))=true then (some false) else (if (x0.2.2 != x1.2.2)=true then (some false) else (some true))))
theorem tX:JF cf Oh:=cT Ob rfl ⟨rfl,rfl⟩ (by kernel_rfl)
def ow:=cG Xo (AK FJ) (AK FJ) kx
def oz:=kE 0 [] [] 0 ow kx
def mI:St->Option (RT (BI.outs FJ)):=lG Xn [] [0,3] 0 (AK FJ) oz
def HI (x0:List Int) (x1:Int):Option Bool:=mI ⟨[(0,.lst .W x0),(3,.int .i64 x1)],[]⟩
def OO (x0:List Int) (x1:Int):Option Bool:=(if (decide (x1<(x0.length:Int)))=true then (if 0<=x1 then (if x1<(x0.length:Int) then ((Ab (x0.getD x1.toNat 0) 1 6).bind fun y1=>(if (!y1)=true then (some false) else (if (decide (x1>0))=true then (if 0<=(i64.wrap (x1-1)) then (if (i64.wrap (x1-1))<(x0.length:Int) then (if 0<=x1 then (if x1<(x0.length:Int) then (if (decide ((x0.getD (i64.wrap (x1-1)).toNat 0)>=(x0.getD x1.toNat 0)))=true then (some false) else (HI x0 (i64.wrap (x1+1)))) else none) else none) else none) else none) else (HI x0 (i64.wrap (x1+1)))))) else none) else none) else (some true))
def cg (x0:List Int):Option Bool:=(HI x0 0)
theorem Vz:JF OO HI:=lS (by kernel_rfl)
theorem tY:SU cg DX:=cT FJ rfl ⟨rfl,rfl⟩ (by kernel_rfl)
def mJ:=cG TS (AK ES) (AK ES) kx
def mK:=kE 0 [] [0] 0 mJ kx
def ir:St->Option (RT (BI.outs ES)):=lG TR [] [0,3] 0 (AK ES) mK
def Ga (x0:List AA) (x1:Int):Option Bool:=ir ⟨[(0,.lst AG x0),(3,.int .i64 x1)],[]⟩
def NA (x0:List AA) (x1:Int):Option Bool:=(if (decide (x1<(x0.length:Int)))=true then (if 0<=x1 then (if x1<(x0.length:Int) then ((Ab (((x0.getD x1.toNat (U,U,0)).1).size:Int) 1 12).bind fun y1=>(if (!y1)=true then (some false) else (if (decide (((((x0.getD x1.toNat (U,U,0)).2).1).size:Int)>20))=true then (some false) else ((Ab (((x0.getD x1.toNat (U,U,0)).2).2) 1 1000000000).bind fun y2=>(if (!y2)=true then (some false) else (if (decide (x1>0))=true then (if 0<=(i64.wrap (x1-1)) then (if (i64.wrap (x1-1))<(x0.length:Int) then (if (!(Op.bytesLess ((x0.getD (i64.wrap (x1-1)).toNat (U,U,0)).1).toList ((x0.getD x1.toNat (U,U,0)).1).toList))=true then (some false) else (Ga x0 (i64.wrap (x1+1)))) else none) else none) else (Ga x0 (i64.wrap (x1+1))))))))) else none) else none) else (some (decide ((x0.length:Int)<=12))))
def Z6 (x0:List AA):Option Bool:=(Ga x0 0)
theorem T1:JF NA Ga:=lS (by kernel_rfl)
theorem r5:SU Z6 Dd:=cT ES rfl ⟨rfl,rfl⟩ (by kernel_rfl)
def V0 (x0:jq):Option Bool:=(if (x0.1==0)=true then (if (x0.2.1==0)=true then (if (x0.2.2.1==0)=true then (if (false != MA AG x0.2.2.2.1 (U,U,0))=true then (some ((x0.2.2.2.2.length:Int)==0)) else (some false)) else (some false)) else (some false)) else (some false))
theorem mL:SU V0 OD:=cT JT rfl ⟨rfl,rfl⟩ (by kernel_rfl)
def bt:=cG QF (AK Cu) (AK Cu) kx
def bw:=kE 0 [(5,0)] [5] 1 bt kx
def Z7:St->Option (RT (BI.outs Cu)):=lG QE [(5,0)] [0,1,5,6] 1 (AK Cu) bw
def EX (x0:List Int) (x1 x2:Int) (x3:List Int):Option (List Int):=Z7 ⟨[(0,.lst .W x0),(1,.int .i64 x1),(5,.row 0),(6,.int .i64 x2)],[.rows 3 .W x3]⟩
def I9 (x0:List Int) (x1 x2:Int) (x3:List Int):Option (List Int):=(if (decide (x2<(x0.length:Int)))=true then (if 0<=x2 then (if x2<(x0.length:Int) then (if ((x0.getD x2.toNat 0) != x1)=true then (if 0<=x2 then (if x2<(x0.length:Int) then (if x3.length+([(x0.getD x2.toNat 0)]:List Int).length<=68719476736 then (EX x0 x1 (i64.wrap (x2+1)) (x3++([(x0.getD x2.toNat 0)]:List Int))) else none) else none) else none) else (EX x0 x1 (i64.wrap (x2+1)) x3)) else none) else none) else (some x3))
def T2 (x0:List Int) (x1:Int):Option (List Int):=(EX x0 x1 0 ([]:List Int))
theorem PI:so I9 EX:=lS (by kernel_rfl)
theorem iu:JF T2 If:=cT Cu rfl ⟨rfl,rfl⟩ (by kernel_rfl)
def Z8:=cG O5 (AK Cf) (AK Cf) kx
def Z9:=kE 0 [] [] 0 Z8 kx
def Yh:St->Option (RT (BI.outs Cf)):=lG O4 [] [0,1,2,9,10,11] 0 (AK Cf) Z9
def D2 (x0:List Int) (x1 x2:Int) (x3:List Int) (x4 x5:Int):Option Bool:=Yh ⟨[(0,.lst .W x0),(1,.int .i64 x1),(2,.int .i64 x2),(9,.lst .W x3),(10,.int .i64 x4),(11,.int .i64 x5)],[]⟩
def IY (x0:List Int) (x1 x2:Int) (x3:List Int) (x4 x5:Int):Option Bool:=(if (decide (x5<x4))=true then (if 0<=x5 then (if x5<(x3.length:Int) then ((Av (x3.getD x5.toNat 0) x1 x2).bind fun y1=>(if (!y1)=false then (if (decide (x5>0))=true then (if 0<=(i64.wrap (x5-1)) then (if (i64.wrap (x5-1))<(x0.length:Int) then (if (decide ((x3.getD x5.toNat 0)<=(x0.getD (i64.wrap (x5-1)).toNat 0)))=true then (some false) else (D2 x0 x1 x2 x3 x4 (i64.wrap (x5+1)))) else none) else none) else (D2 x0 x1 x2 x3 x4 (i64.wrap (x5+1)))) else (some false))) else none) else none) else (some true))
def SK (x0:List Int) (x1 x2:Int):Option Bool:=(D2 x0 x1 x2 x0 (x0.length:Int) 0)
theorem Ni:zr IY D2:=lS (by kernel_rfl)
theorem e_:Jl SK Hl:=cT Cf rfl ⟨rfl,rfl⟩ (by kernel_rfl)
def mM:=cG TY (AK ET) (AK ET) kx
def mN:=kE 0 [] [0] 0 mM kx
def iv:St->Option (RT (BI.outs ET)):=lG TX [] [0,5,6,7] 0 (AK ET) mN
def Gb (x0 x1:List AA) (x2 x3:Int):Option Bool:=iv ⟨[(0,.lst AG x0),(5,.lst AG x1),(6,.int .i64 x2),(7,.int .i64 x3)],[]⟩
def NB (x0 x1:List AA) (x2 x3:Int):Option Bool:=(if (decide (x3<x2))=true then (if 0<=x3 then (if x3<(x1.length:Int) then ((Qw ((x1.getD x3.toNat (U,U,0)).1)).bind fun y1=>(if (!y1)=true then (some false) else (if (decide (((((x1.getD x3.toNat (U,U,0)).2).1).size:Int)>20))=true then (some false) else ((Av (((x1.getD x3.toNat (U,U,0)).2).2) 1 1000000000).bind fun y2=>(if (!y2)=true then (some false) else (if (decide (x3>0))=true then (if 0<=(i64.wrap (x3-1)) then (if (i64.wrap (x3-1))<(x0.length:Int) then (if ((Op.bytesLess ((x1.getD x3.toNat (U,U,0)).1).toList ((x0.getD (i64.wrap (x3-1)).toNat (U,U,0)).1).toList)||(((x1.getD x3.toNat (U,U,0)).1).toList==((x0.getD (i64.wrap (x3-1)).toNat (U,U,0)).1).toList))=true then (some false) else (Gb x0 x1 x2 (i64.wrap (x3+1)))) else none) else none) else (Gb x0 x1 x2 (i64.wrap (x3+1))))))))) else none) else none) else (some (decide ((x0.length:Int)<=12))))
def Z_ (x0:List AA):Option Bool:=(Gb x0 x0 (x0.length:Int) 0)
theorem T3:so NB Gb:=lS (by kernel_rfl)
theorem r6:SU Z_ Fj:=cT ET rfl ⟨rfl,rfl⟩ (by kernel_rfl)
def PJ (b0:Z):Option (Bool×Z):=(if (b0.2.2.2.2.2.2.2.2.2.1==0)=true then (if (b0.2.2.2.2.2.2.2.2.2.2.1==0)=true then (if (b0.2.2.2.2.2.2.2.2.2.2.2.1==0)=true then (if (false != MA AG b0.2.2.2.2.2.2.2.2.2.2.2.2.1 (U,U,0))=true then (some (((b0.2.2.2.2.2.2.2.2.2.2.2.2.2.length:Int)==0),b0)) else (some (false,b0))) else (some (false,b0))) else (some (false,b0))) else ((Av b0.2.2.2.2.2.2.2.2.2.1 1 2).bind fun y1=>(if y1=true then (if b0.2.2.2.2.2.1=true then ((Av b0.2.2.2.2.2.2.2.2.2.2.1 0 1000).bind fun y2=>(if y2=true then ((Av b0.2.2.2.2.2.2.2.2.2.2.2.1 1 900).bind fun y3=>(if y3=true then ((Hl b0.2.2.2.2.2.2.2.2.2.2.2.2.2 1 6).bind fun y4=>(some (y4,b0))) else (some (false,b0)))) else (some (false,b0)))) else (some (false,b0))) else (some (false,b0)))))
theorem aA:SU PJ DN:=cT GT rfl ⟨rfl,rfl⟩ (by kernel_rfl)
def HU:=kE 0 [] [] 1 (AK BM) kx
def HJ:St->Option (RT (BI.outs BM)):=lG HB [(0,0)] [0,1,2,3,8,9] 1 (AK BM) HU
def HV:=kB [(0,0)] [0,1,2,3,8,9] 1 HJ
def PL:=kB [(0,0)] [0,1,2,3,8,9] 1 HV
def PM:=kE 1 [(0,0)] [0,1,2,3,8,9] 1 HV HU
def HK (x0 x1 x2:Int) (x3 x4:Bool) (x5:Int) (x6:List Int):Option (List Int):=cG HA PL (AK BM) PM ⟨[(0,.row 0),(1,.int .i64 x0),(2,.int .i64 x1),(3,.int .i64 x2),(8,.bool x3),(9,.bool x4),(10,.int .i64 x5)],[.mrow 3 .W x6]⟩
def HL (x0 x1 x2:Int) (x3 x4:Bool) (x5:List Int):Option (List Int):=HJ ⟨[(0,.row 0),(1,.int .i64 x0),(2,.int .i64 x1),(3,.int .i64 x2),(8,.bool x3),(9,.bool x4)],[.mrow 3 .W x5]⟩
def HM (x0 x1 x2:Int) (x3 x4:Bool) (x5:List Int):Option (List Int):=(if (decide ((i64.wrap (x1-x0))<=12))=true then ((DU x0 x1 x5).bind fun y1=>(some y1)) else (if (x2==0)=true then ((Pj x0 x1 x5).bind fun y2=>(some y2)) else (if (!x3)=true then ((L9 x0 x1 x5).bind fun y3=>(HK x0 x1 (i64.wrap (x2-1)) x3 x4 (i64.wrap (x1-x0)) y3)) else (HK x0 x1 x2 x3 x4 (i64.wrap (x1-x0)) x5))))
def Ir (x1 x2 x3:Int) (b0:List Int):Option (List Int):=(HL x1 x2 x3 true true b0)
theorem OP:zr HM HL:=lS (by kernel_rfl)
theorem Q0:so Ir E6:=cT BM rfl ⟨rfl,rfl⟩ (by kernel_rfl)
def YL (x0:Int):Option Int:=((Mo x0).bind fun y1=>(some y1))
theorem o7:SU YL Pi:=cT Kt rfl ⟨rfl,rfl⟩ (by kernel_rfl)
def Is (x0:List AA) (x1:AA) (x2:List AA):Option (List AA):=cG VZ (AK EU) (AK EU) kx ⟨[(0,.lst AG x0),(5,.row 1)],[.var (AG.enc x1),.rows 70 AG x2]⟩
def It (x0:List AA) (x1:Int) (x2 x3:Bool) (x4:AA) (x5:List AA):Option (List AA):=cG Va (AK EU) (AK EU) kx ⟨[(0,.lst AG x0),(3,.ptr 0 0),(5,.row 1),(6,.int .i64 x1),(7,.bool x2),(32,.bool x3)],[.var (AG.enc x4),.rows 70 AG x5]⟩
def T4 (x0:List AA) (x1:AA) (x2:List AA):Option (List AA):=((Fj x2).bind fun y5=>(if (!y5)=true then ((Ae x0).bind fun y6=>(some y6)) else (some x2)))
def T5 (x0:List AA) (x1:Int) (x2 x3:Bool) (x4:AA) (x5:List AA):Option (List AA):=(if x2=true then (if 0<=x1 then (if x1<(x5.length:Int) then (let z4:List AA:=x5.set x1.toNat x4; (Is x0 x4 z4)) else none) else none) else ((Cy x5 x1 ([x4]:List AA)).bind fun y7=>(Is x0 x4 y7)))
def aB (x0:List AA) (x1:AA):Option (List AA):=((Ae x0).bind fun y1=>((BY x0 x1.1 ()).bind fun y2=>((Fj x0).bind fun y3=>(if (!y3)=true then (some y1) else (if y2.2=true then (if 0<=y2.1 then (if y2.1<(x0.length:Int) then (if (decide ((((x0.getD y2.1.toNat (U,U,0)).2).2)>=x1.2.2))=true then (some y1) else (It x0 y2.1 y2.2 (decide ((((x0.getD y2.1.toNat (U,U,0)).2).2)>=x1.2.2)) x1 y1)) else none) else none) else (It x0 y2.1 y2.2 false x1 y1))))))
theorem iw:Jl T4 Is:=jS (by kernel_rfl)
theorem ix:zr T5 It:=jS (by kernel_rfl)
theorem r7:JF aB Mn:=cT EU rfl ⟨rfl,rfl⟩ (by kernel_rfl)
def aC:=cG ZX (AK E3) (AK E3) kx
def r8:=kB [] [1] 1 aC
def r9:=kE 0 [] [1] 1 aC kx
def K8 (x0:Int) (x1:Bool) (x2:AD):Option Bool:=cG ZW r8 (AK E3) r9 ⟨[(1,.ptr 0 0),(38,.int .i64 x0),(39,.bool x1)],[.var (AI.enc x2)]⟩
def Px (x0:Bool) (x1:AD):Option Bool:=cG ZY (AK E3) (AK E3) kx ⟨[(1,.ptr 0 0),(36,.bool x0)],[.var (AI.enc x1)]⟩
def YM (x0:Int) (x1:Bool) (x2:AD):Option Bool:=(if x1=true then (some true) else (if (x0==5)=true then (some ((x2.2.2.2.2.2.length:Int)==1)) else (some ((x2.2.2.2.2.2.length:Int)==0))))
def YN (x0:Bool) (x1:AD):Option Bool:=(if (x1.1==2)=true then (K8 x1.1 (x1.1==2) x1) else (K8 x1.1 (x1.1==3) x1))
def iy (x0:AD):Option Bool:=((Av x0.1 1 8).bind fun y1=>(if (!y1)=false then ((FR x0.2.1).bind fun y2=>(if (!y2)=false then ((FR x0.2.2.1).bind fun y3=>(if (!y3)=false then ((Av x0.2.2.2.1 1 9).bind fun y4=>(if (!y4)=false then ((Av x0.2.2.2.2.1 0 1000000000).bind fun y5=>(if (!y5)=false then ((Fj x0.2.2.2.2.2).bind fun y6=>(if (!y6)=true then (some false) else (Px (!y6) x0))) else (some false))) else (some false))) else (some false))) else (some false))) else (some false)))
theorem o8:Jl YM K8:=jS (by kernel_rfl)
theorem o9:JF YN Px:=jS (by kernel_rfl)
theorem vO:SU iy Wn:=cT E3 rfl ⟨rfl,rfl⟩ (by kernel_rfl)
def PN:=cG NW (AK CL) (AK CL) kx
def I_:=kB [] [] 2 PN
def JA:=kE 0 [] [] 2 PN kx
def D3 (x0:List (List Int)) (x1:Bool) (x2:Z) (x3:AD):Option (List AD×List AM×Z):=cG O7 I_ (AK CL) JA ⟨[(0,.ptr 0 0),(1,.lst .S x0),(5,.ptr 1 0),(37,.bool x1)],[.var (AB.enc x2),.var (AI.enc x3)]⟩
def F3 (x0:Bool) (x1:Z) (x2:AD):Option (List AD×List AM×Z):=cG O8 I_ (AK CL) JA ⟨[(0,.ptr 0 0),(5,.ptr 1 0),(75,.bool x0)],[.var (AB.enc x1),.var (AI.enc x2)]⟩
def F4 (x0:Int) (x1:Bool) (x2:Z) (x3:AD):Option (List AD×List AM×Z):=cG NV I_ (AK CL) JA ⟨[(0,.ptr 0 0),(5,.ptr 1 0),(9,.int .i64 x0),(107,.bool x1)],[.var (AB.enc x2),.var (AI.enc x3)]⟩
def Nj (x0:List (List Int)) (x1:Bool) (x2:Z) (x3:AD):Option (List AD×List AM×Z):=(if x1=true then (if 0<=(i64.wrap (x2.2.1-1)) then (if (i64.wrap (x2.2.1-1))<(x0.length:Int) then ((Dc (x0.getD (i64.wrap (x2.2.1-1)).toNat ([]:List Int)) x3.2.2.2.2.2 x2).bind fun y2=>(some (y2.1,[],y2.2))) else none) else none) else (some ([],[],x2)))
def Nk (x0:Bool) (x1:Z) (x2:AD):Option (List AD×List AM×Z):=(if x0=true then ((Mp x1.2.2.2.2.2.2.1 x2.2.1).bind fun y4=>(if x1.2.2.2.2.2.1=false then (if ((y4.length:Int)==0)=true then (some ([],[],(x1.1,x1.2.1,x1.2.2.1,x1.2.2.2.1,x1.2.2.2.2.1,x1.2.2.2.1,y4,x1.2.2.2.2.2.2.2))) else (some ([],[],(x1.1,x1.2.1,x1.2.2.1,x1.2.2.2.1,x1.2.2.2.2.1,false,y4,x1.2.2.2.2.2.2.2)))) else (some ([],[],(x1.1,x1.2.1,x1.2.2.1,x1.2.2.2.1,x1.2.2.2.2.1,true,y4,x1.2.2.2.2.2.2.2))))) else (some ([],[],x1)))
def Nl (x0:Int) (x1:Bool) (x2:Z) (x3:AD):Option (List AD×List AM×Z):=(if x1=true then ((KD x3 x2).bind fun y5=>(some (y5.1,[],y5.2))) else (if (x0==6)=true then ((GW 1 x3 x2).bind fun y6=>(some ([],y6.1,y6.2))) else (if (x0==8)=true then ((GW 2 x3 x2).bind fun y7=>(some ([],y7.1,y7.2))) else (some ([],[],x2)))))
def SL (x1:List (List Int)) (x2:AD) (b0:Z):Option (List AD×List AM×Z):=(if (x2.1==1)=true then ((LK x1 x2 b0).bind fun y1=>(some (y1.1,[],y1.2))) else (if (x2.1==2)=true then (if (x2.2.2.2.1==b0.2.1)=true then (if b0.2.2.2.2.1=true then (D3 x1 (!b0.2.2.2.1) b0 x2) else (D3 x1 false b0 x2)) else (D3 x1 false b0 x2)) else (if (x2.1==3)=true then (if 0<=(i64.wrap (x2.2.2.2.1-1)) then (if (i64.wrap (x2.2.2.2.1-1))<(x1.length:Int) then ((IR (x1.getD (i64.wrap (x2.2.2.2.1-1)).toNat ([]:List Int)) x2 b0).bind fun y3=>(some (y3.1,[],y3.2))) else none) else none) else (if (x2.1==4)=true then (if (x2.2.2.2.1==b0.2.1)=true then (F3 b0.2.2.2.2.1 b0 x2) else (F3 false b0 x2)) else (if (x2.1==5)=true then (F4 x2.1 (x2.1==5) b0 x2) else (F4 x2.1 (x2.1==7) b0 x2))))))
theorem Yi:so Nj D3:=jS (by kernel_rfl)
theorem Yj:Jl Nk F3:=jS (by kernel_rfl)
theorem Yk:so Nl F4:=jS (by kernel_rfl)
theorem fA:Jl SL LJ:=cT CL rfl ⟨rfl,rfl⟩ (by kernel_rfl)
def Cz:=kE 0 [] [] 1 (AK AZ) kx
def Es:St->Option (RT (BI.outs AZ)):=lG FP [(0,0)] [0,1,2,6] 1 (AK AZ) Cz
def Kc:=kB [(0,0)] [0,1,2,6] 1 Es
def FS:=cG FO Kc (AK AZ) Cz
def Ke:=kB [(0,0)] [0,1,2,6] 1 FS
def Kf:=kE 1 [(0,0)] [0,1,2,6] 1 FS Cz
def FT:=kE 2 [(0,0)] [0,1,2,6] 1 Ke Kf
def Et:St->Option (RT (BI.outs AZ)):=lG FN [(0,0)] [0,1,2,6,7] 1 (AK AZ) FT
def Kg:=kB [(0,0)] [0,1,2,6,7] 1 Et
def Eu (x0 x1 x2 x3:Int) (x4:Bool) (x5:List Int):Option (List Int):=cG FK Kg (AK AZ) FT ⟨[(0,.row 0),(1,.int .i64 x0),(2,.int .i64 x1),(6,.int .i64 x2),(7,.int .i64 x3),(30,.bool x4)],[.mrow 3 .W x5]⟩
def B9 (x0 x1 x2 x3:Int) (x4:List Int):Option (List Int):=Et ⟨[(0,.row 0),(1,.int .i64 x0),(2,.int .i64 x1),(6,.int .i64 x2),(7,.int .i64 x3)],[.mrow 3 .W x4]⟩
def BJ (x0 x1 x2:Int) (x3:List Int):Option (List Int):=Es ⟨[(0,.row 0),(1,.int .i64 x0),(2,.int .i64 x1),(6,.int .i64 x2)],[.mrow 3 .W x3]⟩
def Ew (x0 x1 x2 x3:Int) (x4:Bool) (x5:List Int):Option (List Int):=(if 0<=(i64.wrap (x3-1)) then (if (i64.wrap (x3-1))<(x5.length:Int) then (if 0<=x3 then (if x3<(x5.length:Int) then (if 0<=x3 then (if x3<(x5.length:Int) then (let z2:List Int:=x5.set x3.toNat (x5.getD ((i64.wrap (x3-1)).toNat) 0); (if 0<=(i64.wrap (x3-1)) then (if (i64.wrap (x3-1))<(z2.length:Int) then (let z3:List Int:=z2.set ((i64.wrap (x3-1)).toNat) (x5.getD x3.toNat 0); (B9 x0 x1 x2 (i64.wrap (x3-1)) z3)) else none) else none)) else none) else none) else none) else none) else none) else none)
def Cr (x0 x1 x2 x3:Int) (x4:List Int):Option (List Int):=(if (decide (x3>x0))=true then (if 0<=x3 then (if x3<(x4.length:Int) then (if 0<=(i64.wrap (x3-1)) then (if (i64.wrap (x3-1))<(x4.length:Int) then ((Ru (x4.getD x3.toNat 0) (x4.getD ((i64.wrap (x3-1)).toNat) 0)).bind fun y1=>(if y1=true then (Eu x0 x1 x2 x3 y1 x4) else (BJ x0 x1 (i64.wrap (x2+1)) x4))) else none) else none) else none) else none) else (BJ x0 x1 (i64.wrap (x2+1)) x4))
def B_ (x0 x1 x2:Int) (x3:List Int):Option (List Int):=(if (decide (x2<x1))=true then (B9 x0 x1 x2 x2 x3) else (some x3))
def DV (x1 x2:Int) (b0:List Int):Option (List Int):=(BJ x1 x2 (i64.wrap (x1+1)) b0)
theorem KR:zr Ew Eu:=jS (by kernel_rfl)
theorem Ex:xw Cr B9:=lS (by kernel_rfl)
theorem Cs:so B_ BJ:=lS (by kernel_rfl)
theorem GA:Jl DV DU:=cT AZ rfl ⟨rfl,rfl⟩ (by kernel_rfl)
def aD (x0 x1:Int):Option Bool:=((Kz x0).bind fun y1=>(if y1=true then ((Kz x1).bind fun y2=>(if (!y2)=false then (some (decide (x0<x1))) else (some true))) else (some (decide (x0<x1)))))
theorem r_:JF aD Ru:=cT Mb rfl ⟨rfl,rfl⟩ (by kernel_rfl)
def Gc (x0 x1:Int):Option Int:=cG QG (AK Cv) (AK Cv) kx ⟨[(0,.int .u64 x0),(2,.int .i64 x1)],[]⟩
def JB (x0 x1:Int):Option Int:=cG QH (AK Cv) (AK Cv) kx ⟨[(0,.int .u64 x0),(2,.int .i64 x1)],[]⟩
def JC (x0 x1:Int):Option Int:=(if (decide (x0>=256))=true then (if 8<0 then none else (if 0<=(IntKind.u8.wrap (Int.fdiv x0 (2^(min (8:Int).toNat (IntKind.bits .u64))))) then (if (IntKind.u8.wrap (Int.fdiv x0 (2^(min (8:Int).toNat (IntKind.bits .u64)))))<((⟨qT⟩:ByteArray).size:Int) then (some (i64.wrap ((i64.wrap (x1+8))+(i64.wrap (((⟨qT⟩:ByteArray).data.toList.getD (IntKind.u8.wrap (Int.fdiv x0 (2^(min (8:Int).toNat (IntKind.bits .u64))))).toNat 0).toNat:Int))))) else none) else none)) else (if 0<=(IntKind.u8.wrap x0) then (if (IntKind.u8.wrap x0)<((⟨qT⟩:ByteArray).size:Int) then (some (i64.wrap (x1+(i64.wrap (((⟨qT⟩:ByteArray).data.toList.getD (IntKind.u8.wrap x0).toNat 0).toNat:Int))))) else none) else none))
def PO (x0 x1:Int):Option Int:=(if (decide (x0>=65536))=true then (if 16<0 then none else (Gc (Int.fdiv x0 (2^(min (16:Int).toNat (IntKind.bits .u64)))) (i64.wrap (x1+16)))) else (Gc x0 x1))
def T6 (x0:Int):Option Int:=(if (decide (x0>=4294967296))=true then (if 32<0 then none else (JB (Int.fdiv x0 (2^(min (32:Int).toNat (IntKind.bits .u64)))) 32)) else (JB x0 0))
theorem aE:JF JC Gc:=jS (by kernel_rfl)
theorem aF:JF PO JB:=jS (by kernel_rfl)
theorem iz:SU T6 Mo:=cT Cv rfl ⟨rfl,rfl⟩ (by kernel_rfl)
def Ek:=cG BV (AK AR) (AK AR) kx
def El:=kE 0 [] [0,1,2,8,9] 0 Ek kx
def Ea:St->Option (RT (BI.outs AR)):=lG CS [] [0,1,2,8,9,10] 0 (AK AR) El
def CN (x0:List AA) (x1:ByteArray) (x2 x3:Int):Option (Int×Bool):=cG BV (AK AR) (AK AR) kx ⟨[(0,.lst AG x0),(1,.str x1),(2,.fn 139 []),(8,.int .i64 x2),(9,.int .i64 x3)],[]⟩
def AU (x0:List AA) (x1:ByteArray) (x2 x3 x4:Int):Option (Int×Bool):=Ea ⟨[(0,.lst AG x0),(1,.str x1),(2,.fn 139 []),(8,.int .i64 x2),(9,.int .i64 x3),(10,.int .i64 x4)],[]⟩
def CO (x0:List AA) (x1:ByteArray) (x2 x3:Int):Option (Int×Bool):=(if (decide (x3<x2))=true then (if 0<=x3 then (if x3<(x0.length:Int) then ((Ja (x0.getD x3.toNat (U,U,0)) x1).bind fun y2=>(some (x3,(y2==0)))) else none) else none) else (some (x3,false)))
def BS (x0:List AA) (x1:ByteArray) (x2 x3 x4:Int):Option (Int×Bool):=(if (decide (x3<x4))=true then (if 1<0 then none else (if 0<=(i64.wrap (Int.fdiv (IntKind.u64.wrap (i64.wrap (x3+x4))) (2^(min (1:Int).toNat (IntKind.bits .u64))))) then (if (i64.wrap (Int.fdiv (IntKind.u64.wrap (i64.wrap (x3+x4))) (2^(min (1:Int).toNat (IntKind.bits .u64)))))<(x0.length:Int) then ((Ja (x0.getD (i64.wrap (Int.fdiv (IntKind.u64.wrap (i64.wrap (x3+x4))) (2^(min (1:Int).toNat (IntKind.bits .u64))))).toNat (U,U,0)) x1).bind fun y1=>(if (decide (y1<0))=true then (AU x0 x1 x2 (i64.wrap ((i64.wrap (Int.fdiv (IntKind.u64.wrap (i64.wrap (x3+x4))) (2^(min (1:Int).toNat (IntKind.bits .u64)))))+1)) x4) else (AU x0 x1 x2 x3 (i64.wrap (Int.fdiv (IntKind.u64.wrap (i64.wrap (x3+x4))) (2^(min (1:Int).toNat (IntKind.bits .u64)))))))) else none) else none)) else (CN x0 x1 x2 x3))
def CX (x0:List AA) (x1:ByteArray) (x2:Unit):Option (Int×Bool):=(AU x0 x1 (x0.length:Int) 0 (x0.length:Int))
theorem Eb:so CO CN:=jS (by kernel_rfl)
theorem CP:xw BS AU:=lS (by kernel_rfl)
theorem E9:Jl CX BY:=cT AR rfl ⟨rfl,rfl⟩ (by kernel_rfl)
def V5 (x0:AA) (x1:ByteArray):Option Int:=((Mr x0.1 x1).bind fun y1=>(some y1))
theorem mO:JF V5 Ja:=cT JU rfl ⟨rfl,rfl⟩ (by kernel_rfl)
def Nm (x0:Bool) (x1:Z) (x2:AD):Option (List AD×Z):=cG NY (AK D7) (AK D7) kx ⟨[(0,.ptr 0 0),(5,.ptr 1 0),(37,.bool x0)],[.var (AB.enc x1),.var (AI.enc x2)]⟩
def Nn (x0:Bool) (x1:Z) (x2:AD):Option (List AD×Z):=((GV (x1.1,x2.2.2.2.1,x1.2.2.1,false,x1.2.2.2.2)).bind fun y2=>((Ar ([x2.2.1]:List Int) (2,0,0,0,0,y2.2.2.2.2.2.2.2.1) y2).bind fun y3=>(some (y3.1,y3.2))))
def SM (x1:List (List Int)) (x2:AD) (b0:Z):Option (List AD×Z):=(if (x2.2.2.2.1 != (i64.wrap (b0.2.1+1)))=true then (some ([],b0)) else (if (!b0.2.2.2.1)=true then (some ([],b0)) else (if 0<=(i64.wrap (b0.2.1-1)) then (if (i64.wrap (b0.2.1-1))<(x1.length:Int) then ((Co (x1.getD (i64.wrap (b0.2.1-1)).toNat ([]:List Int)) b0.1).bind fun y1=>(if (!y1)=true then (some ([],b0)) else (Nm (!y1) b0 x2))) else none) else none)))
theorem Yl:Jl Nn Nm:=jS (by kernel_rfl)
theorem fB:Jl SM LK:=cT D7 rfl ⟨rfl,rfl⟩ (by kernel_rfl)
def Ly:=cG Lu (AK Bn) (AK Bn) kx
def V6:=kB [] [0,5] 2 Ly
def V7:=kE 0 [] [0,5] 2 Ly kx
def C0 (x0:Bool) (x1:Z) (x2:AD):Option (List AD×Z):=cG Lt V6 (AK Bn) V7 ⟨[(0,.ptr 0 0),(5,.ptr 1 0),(24,.bool x0)],[.var (AB.enc x1),.var (AI.enc x2)]⟩
def Kh (x0:Bool) (x1:Z) (x2:AD):Option (List AD×Z):=cG Lv (AK Bn) (AK Bn) kx ⟨[(0,.ptr 0 0),(5,.ptr 1 0),(23,.bool x0)],[.var (AB.enc x1),.var (AI.enc x2)]⟩
def Ki (x0:Bool) (x1:Z) (x2:AD):Option (List AD×Z):=(if x0=true then ((Ae x2.2.2.2.2.2).bind fun y2=>((GV (x1.1,x2.2.2.2.1,false,true,x1.2.2.2.2.1,x1.2.2.2.2.2.1,x1.2.2.2.2.2.2.1,y2,x1.2.2.2.2.2.2.2.2)).bind fun y3=>((Ar ([x2.2.1]:List Int) (4,0,0,0,0,([]:List AA)) y3).bind fun y4=>(some (y4.1,y4.2))))) else (if (!x1.2.2.2.1)=true then (some ([],x1)) else ((Ar ([x2.2.1]:List Int) (4,0,0,0,0,([]:List AA)) x1).bind fun y5=>(some (y5.1,y5.2)))))
def Kj (x0:Bool) (x1:Z) (x2:AD):Option (List AD×Z):=(if (decide (x2.2.2.2.1>x1.2.1))=true then (C0 true x1 x2) else (if (!x1.2.2.2.1)=true then (C0 (!x1.2.2.1) x1 x2) else (C0 false x1 x2)))
def No (x1:List Int) (x2:AD) (b0:Z):Option (List AD×Z):=((Co x1 b0.1).bind fun y1=>(if (!y1)=true then (some ([],b0)) else (if 0<=(0:Int) then (if 0<(x1.length:Int) then (if ((x1.getD (0:Int).toNat 0)==b0.1)=true then (some ([],b0)) else (Kh ((x1.getD (0:Int).toNat 0)==b0.1) b0 x2)) else none) else none)))
theorem UY:Jl Ki C0:=jS (by kernel_rfl)
theorem UZ:Jl Kj Kh:=jS (by kernel_rfl)
theorem Ym:Jl No IR:=cT Bn rfl ⟨rfl,rfl⟩ (by kernel_rfl)
def aG (x0:List Int) (x1:Int):Option (List Int):=((BG x0).bind fun y1=>((E7 y1 x1).bind fun y2=>(some y2)))
theorem sA:JF aG Mp:=cT Mc rfl ⟨rfl,rfl⟩ (by kernel_rfl)
def NC (x0:Bool) (x1:Z) (x2:AD):Option (List AD×Z):=cG NZ (AK Dh) (AK Dh) kx ⟨[(0,.ptr 0 0),(3,.ptr 1 0),(18,.bool x0)],[.var (AB.enc x1),.var (AI.enc x2)]⟩
def ND (x0:Bool) (x1:Z) (x2:AD):Option (List AD×Z):=(if (x2.1==7)=true then ((Ar ([x2.2.1]:List Int) (8,0,0,0,x2.2.2.2.2.1,([]:List AA)) x1).bind fun y1=>(some (y1.1,y1.2))) else (if 0<=(0:Int) then (if 0<(x2.2.2.2.2.2.length:Int) then ((Mn x1.2.2.2.2.2.2.2.1 (x2.2.2.2.2.2.getD (0:Int).toNat (U,U,0))).bind fun y2=>((Ar ([x2.2.1]:List Int) (6,0,0,0,x2.2.2.2.2.1,([]:List AA)) (x1.1,x1.2.1,x1.2.2.1,x1.2.2.2.1,x1.2.2.2.2.1,x1.2.2.2.2.2.1,x1.2.2.2.2.2.2.1,y2,x1.2.2.2.2.2.2.2.2)).bind fun y3=>(some (y3.1,y3.2)))) else none) else none))
def Qh (x1:AD) (b0:Z):Option (List AD×Z):=(if (x1.2.2.2.1 != b0.2.1)=true then (some ([],b0)) else (if (!b0.2.2.2.1)=true then (some ([],b0)) else (NC (!b0.2.2.2.1) b0 x1)))
theorem Wx:Jl ND NC:=jS (by kernel_rfl)
theorem bz:JF Qh KD:=cT Dh rfl ⟨rfl,rfl⟩ (by kernel_rfl)
def Lz (x0:Bool) (x1:Z) (x2:AD):Option (List AM×Z):=cG Lw (AK DL) (AK DL) kx ⟨[(0,.ptr 0 0),(5,.ptr 1 0),(32,.bool x0)],[.var (AB.enc x1),.var (AI.enc x2)]⟩
def L1 (x0:Bool) (x1:Z) (x2:AD):Option (List AM×Z):=((Mp x1.2.2.2.2.2.2.2.2.2.2.2.2.2 x2.2.1).bind fun y1=>(if (decide ((y1.length:Int)>0))=true then (some ([],(x1.1,x1.2.1,x1.2.2.1,x1.2.2.2.1,x1.2.2.2.2.1,x1.2.2.2.2.2.1,x1.2.2.2.2.2.2.1,x1.2.2.2.2.2.2.2.1,x1.2.2.2.2.2.2.2.2.1,x1.2.2.2.2.2.2.2.2.2.1,x1.2.2.2.2.2.2.2.2.2.2.1,x1.2.2.2.2.2.2.2.2.2.2.2.1,x1.2.2.2.2.2.2.2.2.2.2.2.2.1,y1))) else ((Hk (x1.1,x1.2.1,x1.2.2.1,x1.2.2.2.1,x1.2.2.2.2.1,x1.2.2.2.2.2.1,x1.2.2.2.2.2.2.1,x1.2.2.2.2.2.2.2.1,x1.2.2.2.2.2.2.2.2.1,x1.2.2.2.2.2.2.2.2.2.1,x1.2.2.2.2.2.2.2.2.2.2.1,x1.2.2.2.2.2.2.2.2.2.2.2.1,x1.2.2.2.2.2.2.2.2.2.2.2.2.1,y1)).bind fun y2=>(some (y2.1,y2.2)))))
def PP (x1:Int) (x2:AD) (b0:Z):Option (List AM×Z):=(if (x2.2.2.2.1 != b0.2.1)=true then (some ([],b0)) else (if (b0.2.2.2.2.2.2.2.2.2.1 != x1)=true then (some ([],b0)) else (if (b0.2.2.2.2.2.2.2.2.2.2.2.1 != x2.2.2.2.2.1)=true then (some ([],b0)) else (Lz (b0.2.2.2.2.2.2.2.2.2.2.2.1 != x2.2.2.2.2.1) b0 x2))))
theorem V8:Jl L1 Lz:=jS (by kernel_rfl)
theorem aH:Jl PP GW:=cT DL rfl ⟨rfl,rfl⟩ (by kernel_rfl)

def YO (x0:Int):Option Bool:=(some (x0 != x0))
theorem o_:SU YO Kz:=cT Ku rfl ⟨rfl,rfl⟩ (by kernel_rfl)
def fC:=cG Rl (AK DM) (AK DM) kx
def fD:=kE 0 [(3,0)] [3] 1 fC kx
def b6:St->Option (RT (BI.outs DM)):=lG Rk [(3,0)] [0,3,4] 1 (AK DM) fD
def G2 (x0:List (List Int)) (x1:Int) (x2:List (List Int)):Option (List (List Int)):=b6 ⟨[(0,.lst .S x0),(3,.row 0),(4,.int .i64 x1)],[.rows 31 (.own 3 .W) x2]⟩
def b7 (x0:List (List Int)) (x1:Int) (x2:List (List Int)):Option (List (List Int)):=(if (decide (x1<(x0.length:Int)))=true then (if 0<=x1 then (if x1<(x0.length:Int) then ((Od (x0.getD x1.toNat ([]:List Int))).bind fun y1=>(if 0<=x1 then (if x1<(x2.length:Int) then (let z2:List (List Int):=x2.set x1.toNat y1; (G2 x0 (i64.wrap (x1+1)) z2)) else none) else none)) else none) else none) else (some x2))
def mP (x0:List (List Int)):Option (List (List Int)):=(if 0<=(x0.length:Int) then (if (x0.length:Int)<=68719476736 then (G2 x0 0 (List.replicate (x0.length:Int).toNat ([]:List Int))) else none) else none)
theorem b8:Jl b7 G2:=lS (by kernel_rfl)
theorem mQ:SU mP OE:=cT DM rfl ⟨rfl,rfl⟩ (by kernel_rfl)
def b9:=cG QJ (AK Cw) (AK Cw) kx
def b_:=kE 0 [(3,0)] [3] 1 b9 kx
def aI:St->Option (RT (BI.outs Cw)):=lG QI [(3,0)] [0,3,4] 1 (AK Cw) b_
def Gd (x0:List AQ) (x1:Int) (x2:List AQ):Option (List AQ):=aI ⟨[(0,.lst AO x0),(3,.row 0),(4,.int .i64 x1)],[.rows 51 AO x2]⟩
def aJ (x0:List AQ) (x1:Int) (x2:List AQ):Option (List AQ):=(if (decide (x1<(x0.length:Int)))=true then (if 0<=x1 then (if x1<(x0.length:Int) then ((Mi (x0.getD x1.toNat (0,0,0,0,U,U))).bind fun y1=>(if 0<=x1 then (if x1<(x2.length:Int) then (let z2:List AQ:=x2.set x1.toNat y1; (Gd x0 (i64.wrap (x1+1)) z2)) else none) else none)) else none) else none) else (some x2))
def i4 (x0:List AQ):Option (List AQ):=(if 0<=(x0.length:Int) then (if (x0.length:Int)<=68719476736 then (Gd x0 0 (List.replicate (x0.length:Int).toNat (0,0,0,0,U,U))) else none) else none)
theorem aK:Jl aJ Gd:=lS (by kernel_rfl)
theorem i5:SU i4 Mq:=cT Cw rfl ⟨rfl,rfl⟩ (by kernel_rfl)
def aL:=cG O_ (AK Cg) (AK Cg) kx
def aM:=kE 0 [(3,0)] [3] 1 aL kx
def Yn:St->Option (RT (BI.outs Cg)):=lG O9 [(3,0)] [3,6,7,8] 1 (AK Cg) aM
def F5 (x0:List (List Int)) (x1 x2:Int) (x3:List (List Int)):Option (List (List Int)):=Yn ⟨[(3,.row 0),(6,.lst .S x0),(7,.int .i64 x1),(8,.int .i64 x2)],[.rows 31 (.own 3 .W) x3]⟩
def IZ (x0:List (List Int)) (x1 x2:Int) (x3:List (List Int)):Option (List (List Int)):=(if (decide (x2<x1))=true then (if 0<=x2 then (if x2<(x0.length:Int) then ((BG (x0.getD x2.toNat ([]:List Int))).bind fun y1=>(if x3.length+([y1]:List (List Int)).length<=68719476736 then (F5 x0 x1 (i64.wrap (x2+1)) (x3++([y1]:List (List Int)))) else none)) else none) else none) else (some x3))
def SN (x0:List (List Int)):Option (List (List Int)):=(F5 x0 (x0.length:Int) 0 ([]:List (List Int)))
theorem Np:so IZ F5:=lS (by kernel_rfl)
theorem fE:SU SN LL:=cT Cg rfl ⟨rfl,rfl⟩ (by kernel_rfl)
def Qi (x0:Z):Option Z:=((BG x0.2.2.2.2.2.2.1).bind fun y1=>((Ae x0.2.2.2.2.2.2.2.1).bind fun y2=>((BG x0.2.2.2.2.2.2.2.2.2.2.2.2.2).bind fun y3=>(some (x0.1,x0.2.1,x0.2.2.1,x0.2.2.2.1,x0.2.2.2.2.1,x0.2.2.2.2.2.1,y1,y2,x0.2.2.2.2.2.2.2.2.1,x0.2.2.2.2.2.2.2.2.2.1,x0.2.2.2.2.2.2.2.2.2.2.1,x0.2.2.2.2.2.2.2.2.2.2.2.1,x0.2.2.2.2.2.2.2.2.2.2.2.2.1,y3)))))
theorem cA:SU Qi KE:=cT Gs rfl ⟨rfl,rfl⟩ (by kernel_rfl)
def V9 (x0:AD):Option AD:=((Ae x0.2.2.2.2.2).bind fun y1=>(some (x0.1,x0.2.1,x0.2.2.1,x0.2.2.2.1,x0.2.2.2.2.1,y1)))
theorem mR:SU V9 OF:=cT JV rfl ⟨rfl,rfl⟩ (by kernel_rfl)
end
end Go.Proofs.YtfcgblnlopemkaaGreat.Core


namespace Go.Proofs.YtfcgblnlopemkaaGreat.Core
open Go
theorem AN {n:Int} (h:-9223372036854775808<=n/\n<=9223372036854775807):IntKind.i64.wrap n=n:=IntWalk.i64_in n h
theorem AW {i:Nat} (h:i<9223372036854775807):IntKind.i64.wrap ((i:Int)+1)=((i+1:Nat):Int):=by
 rw [AN (by omega)]
 omega
theorem HR {P:Nat->Prop} {n:Nat} (h0:P n) (h:∀ i,i<n->P (i+1)->P i):∀ i,i<=n->P i:=by
 intro i hi
 induction hk:n-i generalizing i with
 | zero =>
  have:i=n:=by omega
  subst this
  exact h0
 | succ k ih=>exact h i (by omega) (ih (i+1) (by omega) (by omega))
theorem Ac {α:Type} {xs:List α} {i:Nat} {d:α} (h:i<xs.length):xs.getD i d=xs[i]:=by
 simp [List.getD,h]
theorem ABD {α:Type} {x:List α} {d:α} {i:Nat} (h:i<x.length) :
  (x.take i++List.replicate (x.length-i) d).set i x[i]=x.take (i+1)++List.replicate (x.length-(i+1)) d:=by
 have e:x.length-i=(x.length-(i+1))+1:=by omega
 have l:(x.take i).length=i:=by rw [List.length_take]; omega
 rw [List.set_append_right _ _ (by omega),l,e,List.replicate_succ,Nat.sub_self,List.set_cons_zero]
 have:=List.take_append_getElem (l:=x) (i:=i) h
 rw [<- this,BW]
 rfl
theorem wz {n:Int} {m:Nat} (hm:m<=maxLen) (hn:0<=n/\n<=4611686018427387904) (h:¬ IntKind.i64.wrap (n-(m:Int))<0):(m:Int)<=n:=by
 have:m<=9223372036854775807:=hm
 rw [AN (by omega)] at h
 omega

def Kd.small:(K:Kd)->K.T->Prop
 | .slice e,xs=>xs.length<=68719476736/\∀ x∈xs,Kd.small e x
 | .pair a b,x=>a.small x.1/\b.small x.2
 | .int _,_=>True
 | .bool,_=>True
 | .str,_=>True
 | .own _ _,_=>True
 | .ref _,_=>True
 | .fun _,_=>True
 | .clo _ _,_=>True
def ABE (K:Kd) (f:K.T->Int->Option Int):Prop:=∀ x n,K.ok x->0<=n/\n<=68719476736->∃ r,f x n=some r/\(r<0\/(K.small x/\0<=r/\r<=n))
def xz (K:Kd) (f:K.T->Option K.T):Prop:=∀ x,K.small x->f x=some x
def fF (K:Kd) (f:K.T->K.T->Option Bool):Prop:=∀ x,K.small x->f x x=some true
theorem pY {k:Nat} (hk:k<=maxLen) {n:Int} (hn:0<=n/\n<=68719476736):∃ m,IntKind.i64.wrap (n-(k:Int))=m/\(m<0\/((k:Int)<=n/\0<=m/\m<=n)):=by
 have:k<=9223372036854775807:=hk
 exact ⟨n-k,AN (by omega),by omega⟩
theorem yv {e:Kd} {f:e.T->Int->Option Int} (hf:ABE e f) {d:e.T} {x:List e.T} (hx:(Kd.slice e).ok x) {L:Int->Int->Option Int}
  (h:∀ n i r,(if decide (i<(x.length:Int))=true then (if 0<=i then (if i<(x.length:Int) then ((f (x.getD i.toNat d) n).bind fun y=>(if decide (y<(0:Int))=true then some (-1:Int) else L y (IntKind.i64.wrap (i+(1:Int))))) else none) else none) else some n)=some r->L n i=some r)
  (n:Int) (hn:0<=n/\n<=68719476736) :
  ∃ r,(if decide (IntKind.i64.wrap (n-(x.length:Int))<(0:Int))=true then some (-1:Int) else L (IntKind.i64.wrap (n-(x.length:Int))) (0:Int))=some r/\(r<0\/((Kd.slice e).small x/\0<=r/\r<=n)):=by
 have hm:x.length<=9223372036854775807:=hx.1
 obtain ⟨m,em,hmo⟩:=pY hx.1 hn
 rw [em]
 by_cases g:m<0
 ·exact ⟨-1,by rw [if_pos (by simpa using g)],.inl (by omega)⟩
 rw [if_neg (by simpa using g)]
 have key:=HR (n:=x.length) (P:=fun i=>∀ m:Int,0<=m->m<=n->∃ r,L m (i:Int)=some r/\(r<0\/((∀ a∈x.drop i,e.small a)/\0<=r/\r<=n))) (fun m _ _=>⟨m,h _ _ _ (by
  rw [if_neg (by simp)]),.inr ⟨by simp,by omega⟩⟩) (fun i hi ih m hm0 hmn=>by
  obtain ⟨s,hs,hso⟩:=hf x[i] m (hx.2 _ (Bk _)) (by omega)
  by_cases h3:s<0
  ·refine ⟨-1,h _ _ _ ?_,.inl (by omega)⟩
   simp only [show ((i:Int)<(x.length:Int)) from by omega,decide_true,if_true,show (0:Int)<=(i:Int) from by omega,Al,Ac hi,hs,AC]
   rw [if_pos (by simpa using h3)]
  ·rcases hso with hso | ⟨hsm,hs0,hsn⟩
   ·omega
   obtain ⟨r,hr,ho⟩:=ih s (by omega) (by omega)
   refine ⟨r,h _ _ _ ?_,ho.imp id fun ho=>⟨fun a ha=>?_,ho.2⟩⟩
   ·simp only [show ((i:Int)<(x.length:Int)) from by omega,decide_true,if_true,show (0:Int)<=(i:Int) from by omega,Al,Ac hi,hs,AC,AW (show i<9223372036854775807 by omega)]
    rw [if_neg (by simpa using h3)]
    exact hr
   ·rw [List.drop_eq_getElem_cons hi] at ha
    rcases Ah.1 ha with rfl | ha
    ·exact hsm
    ·exact ho.1 a ha) 0 (by omega)
 rcases hmo with hmo | hmo
 ·omega
 obtain ⟨r,hr,ho⟩:=key m (by omega) (by omega)
 exact ⟨r,hr,ho.imp id fun ho=>⟨⟨by omega,by simpa using ho.1⟩,ho.2⟩⟩
theorem ACR {e:Kd} {x:List e.T} (hx:x.length<=maxLen) (he:∀ a:e.T,e.small a) (n:Int) (hn:0<=n/\n<=68719476736) :
  ∃ r,(if decide (IntKind.i64.wrap (n-(x.length:Int))<(0:Int))=true then some (-1:Int) else some (IntKind.i64.wrap (n-(x.length:Int))))=some r/\(r<0\/((Kd.slice e).small x/\0<=r/\r<=n)):=by
 obtain ⟨m,em,hmo⟩:=pY hx hn
 rw [em]
 by_cases g:m<0
 ·exact ⟨-1,by rw [if_pos (by simpa using g)],.inl (by omega)⟩
 ·rw [if_neg (by simpa using g)]
  exact ⟨m,rfl,.inr ⟨⟨by omega,fun a _=>he a⟩,by omega⟩⟩
theorem sB {α:Type} {x:List α} {d:α} {L:Int->List α->Option (List α)} {f:α->Option α} (hf:∀ a∈x,f a=some a) (hn:x.length<=68719476736)
  (h:∀ i z r,(if decide (i<(x.length:Int))=true then (if 0<=i then (if i<(x.length:Int) then ((f (x.getD i.toNat d)).bind fun y=>(if 0<=i then (if i<(z.length:Int) then (let z2:=z.set i.toNat y; L (IntKind.i64.wrap (i+(1:Int))) z2) else none) else none)) else none) else none) else some z)=some r->L i z=some r) :
  L 0 (List.replicate x.length d)=some x:=by
 have:=HR (n:=x.length) (P:=fun i=>L (i:Int) (x.take i++List.replicate (x.length-i) d)=some x) (by
  refine h _ _ _ ?_
  simp) (fun i hi ih=>by
  refine h _ _ _ ?_
  simp only [show ((i:Int)<(x.length:Int)) from by omega,decide_true,if_true,show (0:Int)<=(i:Int) from by omega,Al,Ac hi,hf _ (Bk _),AC,AW (show i<9223372036854775807 by omega)]
  rw [if_pos (by simp; omega),ABD hi]
  exact ih) 0 (by omega)
 simpa using this
theorem sC {α:Type} {x:List α} {d:α} {L:Int->Option Bool} {f:α->α->Option Bool} (hf:∀ a∈x,f a a=some true) (hn:x.length<=68719476736)
  (h:∀ i r,(if decide (i<(x.length:Int))=true then (if 0<=i then (if i<(x.length:Int) then (if 0<=i then (if i<(x.length:Int) then ((f (x.getD i.toNat d) (x.getD i.toNat d)).bind fun y=>(if (!y)=true then some false else L (IntKind.i64.wrap (i+(1:Int))))) else none) else none) else none) else none) else some true)=some r->L i=some r) :
  L 0=some true :=
 HR (n:=x.length) (P:=fun i=>L (i:Int)=some true) (by
  refine h _ _ ?_
  simp) (fun i hi ih=>by
  refine h _ _ ?_
  simp only [show ((i:Int)<(x.length:Int)) from by omega,decide_true,if_true,show (0:Int)<=(i:Int) from by omega,Al,hf _ (Ac hi▸Bk _),AC,AW (show i<9223372036854775807 by omega)]
  simpa using ih) 0 (by omega)
theorem pZ {e:Kd} {f:e.T->Option e.T} (hf:xz e f) {d:e.T} {x:List e.T} (hx:(Kd.slice e).small x) {L:Int->List e.T->Option (List e.T)}
  (h:∀ i z r,(if decide (i<(x.length:Int))=true then (if 0<=i then (if i<(x.length:Int) then ((f (x.getD i.toNat d)).bind fun y=>(if 0<=i then (if i<(z.length:Int) then (let z2:=z.set i.toNat y; L (IntKind.i64.wrap (i+(1:Int))) z2) else none) else none)) else none) else none) else some z)=some r->L i z=some r) :
  (if 0<=(x.length:Int) then (if (x.length:Int)<=68719476736 then L 0 (List.replicate (x.length:Int).toNat d) else none) else none)=some x:=by
 have:=hx.1
 rw [if_pos (by omega),if_pos (by omega)]
 exact sB (fun a ha=>hf a (hx.2 a ha)) hx.1 h
theorem ACS {α:Type} {d:α} {x:List α} (hx:x.length<=68719476736) {L:Int->List α->Option (List α)}
  (h:∀ i z r,(if decide (i<(x.length:Int))=true then (if 0<=i then (if i<(x.length:Int) then (if 0<=i then (if i<(z.length:Int) then (let z2:=z.set i.toNat (x.getD i.toNat d); L (IntKind.i64.wrap (i+(1:Int))) z2) else none) else none) else none) else none) else some z)=some r->L i z=some r) :
  (if 0<=(x.length:Int) then (if (x.length:Int)<=68719476736 then L 0 (List.replicate (x.length:Int).toNat d) else none) else none)=some x:=by
 rw [if_pos (by omega),if_pos (by omega)]
 refine sB (f:=fun a=>some a) (fun _ _=>rfl) hx (fun i z r hr=>h i z r ?_)
 simpa only [AC] using hr
theorem a_ {e:Kd} {f:e.T->e.T->Option Bool} (hf:fF e f) {d:e.T} {x:List e.T} (hx:(Kd.slice e).small x) {L:Int->Option Bool}
  (h:∀ i r,(if decide (i<(x.length:Int))=true then (if 0<=i then (if i<(x.length:Int) then (if 0<=i then (if i<(x.length:Int) then ((f (x.getD i.toNat d) (x.getD i.toNat d)).bind fun y=>(if (!y)=true then some false else L (IntKind.i64.wrap (i+(1:Int))))) else none) else none) else none) else none) else some true)=some r->L i=some r) :
  (if ((x.length:Int) != (x.length:Int))=true then some false else L 0)=some true:=by
 rw [if_neg (by simp)]
 exact sC (fun a ha=>hf a (hx.2 a ha)) hx.1 h
theorem ACT {α:Type} {c:α->α->Bool} (hc:∀ a,c a a=false) {d:α} {x:List α} (hx:x.length<=68719476736) {L:Int->Option Bool}
  (h:∀ i r,(if decide (i<(x.length:Int))=true then (if 0<=i then (if i<(x.length:Int) then (if 0<=i then (if i<(x.length:Int) then (if c (x.getD i.toNat d) (x.getD i.toNat d)=true then some false else L (IntKind.i64.wrap (i+(1:Int)))) else none) else none) else none) else none) else some true)=some r->L i=some r) :
  (if ((x.length:Int) != (x.length:Int))=true then some false else L 0)=some true:=by
 rw [if_neg (by simp)]
 refine sC (d:=d) (f:=fun a b=>some (!c a b)) (fun a _=>by rw [hc]; rfl) hx (fun i r hr=>h i r ?_)
 simpa only [AC,Bool.not_not] using hr

theorem sD:ABE (.slice (.int .i64)) Oc:=fun x n hx hn=>by
 obtain ⟨r,hr,ho⟩:=ACR (e:=(.int .i64)) hx.1 (fun _=>trivial) n hn
 exact ⟨r,UT hr,ho⟩
theorem pA:ABE (.slice (.slice (.int .i64))) Mf:=fun x n hx hn=>by
 obtain ⟨r,hr,ho⟩:=yv sD hx (L:=fun n i=>GX x n i) (fun n i r h=>Ih h) n hn
 exact ⟨r,Rw hr,ho⟩
theorem pB:ABE AO Rm:=fun x n hx hn=>by
 suffices h:∃ r,R8 x n=some r/\(r<0\/(Kd.small AO x/\0<=r/\r<=n)) from h.imp fun r h=>⟨rL h.1,h.2⟩
 unfold R8
 obtain ⟨m1,e1,o1⟩:=pY (show x.2.2.2.2.1.size<=maxLen from hx.2.2.2.2.1) hn
 rw [e1]
 by_cases g1:m1<0
 ·exact ⟨-1,by rw [if_pos (by simpa using g1)],.inl (by omega)⟩
 rw [if_neg (by simpa using g1)]
 replace o1:=o1.resolve_left g1
 obtain ⟨m2,e2,o2⟩:=pY (show x.2.2.2.2.2.size<=maxLen from hx.2.2.2.2.2) (show (0:Int)<=m1/\m1<=68719476736 by omega)
 rw [e2]
 by_cases g2:m2<0
 ·exact ⟨-1,by rw [if_pos (by simpa using g2)],.inl (by omega)⟩
 rw [if_neg (by simpa using g2)]
 replace o2:=o2.resolve_left g2
 exact ⟨m2,rfl,.inr ⟨⟨trivial,⟨trivial,⟨trivial,⟨trivial,⟨trivial,trivial⟩⟩⟩⟩⟩,by omega⟩⟩
theorem mS:ABE (.slice AO) IA:=fun x n hx hn=>by
 obtain ⟨r,hr,ho⟩:=yv pB hx (L:=fun n i=>Hm x n i) (fun n i r h=>dZ h) n hn
 exact ⟨r,Xq hr,ho⟩
theorem aN:xz (.slice (.int .i64)) Od:=fun x hx=>tL (ACS hx.1 (L:=fun i z=>Jc x i z) (fun i z r h=>ky h))
theorem pC:xz (.slice (.slice (.int .i64))) I1:=fun x hx=>rH (pZ aN hx (L:=fun i z=>Ii x i z) (fun i z r h=>ga h))
theorem YP:xz AO Mi:=fun x hx=>rO (by
 unfold Zf
 simp [MA])
theorem mT:xz (.slice AO) IB:=fun x hx=>nx (pZ YP hx (L:=fun i z=>Ho x i z) (fun i z r h=>de h))
theorem NE:fF (.slice (.int .i64)) FQ:=fun x hx=>tJ (ACT (c:=fun a b:Int=>a != b) (fun a=>by simp [MA]) hx.1 (L:=fun i=>Jb x x i) (fun i r h=>kf h))
theorem YQ:fF (.slice (.slice (.int .i64))) Mg:=fun x hx=>rK (a_ NE hx (L:=fun i=>Ij x x i) (fun i r h=>gq h))
theorem aO:fF AG Oh:=fun x hx=>tX (by
 unfold cf
 simp [MA])
theorem YR:fF (.slice AG) Mk:=fun x hx=>rn (a_ aO hx (L:=fun i=>Ip x x i) (fun i r h=>ic h))
theorem sE:fF Gk UQ:=fun x hx=>tS (by
 unfold cY
 simp [aO x.2.2.2.1 hx.2.2.2.1,NE x.2.2.2.2 hx.2.2.2.2,MA])
theorem mU:fF AB Ph:=fun x hx=>oK (by
 unfold Xz
 simp [NE x.2.2.2.2.2.2.1 hx.2.2.2.2.2.2.1,YR x.2.2.2.2.2.2.2.1 hx.2.2.2.2.2.2.2.1,sE x.2.2.2.2.2.2.2.2.2 hx.2.2.2.2.2.2.2.2.2,MA])
theorem i6:fF (.slice AB) N7:=fun x hx=>lA (a_ mU hx (L:=fun i=>Gv x x i) (fun i r h=>bX h))
theorem tZ:fF AI Wj:=fun x hx=>vG (by
 unfold iN
 simp [YR x.2.2.2.2.2 hx.2.2.2.2.2,MA])
theorem sF:fF (.slice AI) UN:=fun x hx=>tO (a_ tZ hx (L:=fun i=>Jd x x i) (fun i r h=>lD h))
theorem sG:fF Ag UP:=fun x hx=>tR (by
 unfold cX
 simp [MA])
theorem pD:fF (.slice Ag) Rq:=fun x hx=>rR (a_ sG hx (L:=fun i=>Ik x x i) (fun i r h=>hZ h))
theorem pE:fF Ao I2:=fun x hx=>rI (by
 unfold Zb
 simp [YQ x.1 hx.1,i6 x.2.1 hx.2.1,sF x.2.2.1 hx.2.2.1,pD x.2.2.2 hx.2.2.2,MA])
theorem pF:fF AO Rr:=fun x hx=>rS (by
 unfold Zh
 simp [MA])
theorem mV:fF (.slice AO) Pc:=fun x hx=>n7 (a_ pF hx (L:=fun i=>Hq x x i) (fun i r h=>dn h))
theorem i7:xz (.slice (.slice (.int .i64))) OE:=fun x hx=>mQ (pZ aN hx (L:=fun i z=>G2 x i z) (fun i z r h=>b8 h))
theorem fG:xz (.slice AO) Mq:=fun x hx=>i5 (pZ YP hx (L:=fun i z=>Gd x i z) (fun i z r h=>aK h))

theorem Bh (a b c:Int):Ab a b c=some (decide (b<=a)&&decide (a<=c)):=vF (by
 unfold iG
 by_cases h:b<=a<;>simp [h])
theorem BH (a b c:Int):Av a b c=some (decide (b<=a)&&decide (a<=c)):=rW (by
 unfold Zr
 by_cases h:b<=a<;>simp [h])

def Df (x:List (ByteArray×ByteArray×Int)) (k:ByteArray):ByteArray×ByteArray×Int :=
 (x.find? fun a=>a.1.toList==k.toList).getD (U,U,0)
theorem Bu {α:Type} {x:List α} {i:Nat} (h:i<x.length):x.drop i=x[i]::x.drop (i+1):=List.drop_eq_getElem_cons h
theorem V_ (x k) (h:x.length<=maxLen):Oe x k=some (Df x k):=tT (by
 have hm:x.length<=9223372036854775807:=h
 unfold cZ
 exact HR (n:=x.length) (P:=fun i=>∀ z,Je x k (i:Int) z=some (Df (x.drop i) k)) (fun z=>Vk (by
  unfold OI
  rw [if_neg (by simp),List.drop_length]
  rfl)) (fun i hi ih z=>Vk (by
  unfold OI
  simp only [show ((i:Int)<(x.length:Int)) from by omega,decide_true,if_true,show (0:Int)<=(i:Int) from by omega,Al,Ac hi,AW (show i<9223372036854775807 by omega)]
  rw [Bu hi]
  by_cases hk:(x[i].1.toList==k.toList)=true
  ·rw [if_pos hk]
   unfold Df
   rw [List.find?_cons,hk]
   rfl
  ·rw [if_neg hk,ih]
   unfold Df
   rw [List.find?_cons,Bool.eq_false_iff.2 hk])) 0 (by omega) _)
theorem WA (x k) (h:x.length<=maxLen):Og x k=some (Df x k):=tW (by
 have hm:x.length<=9223372036854775807:=h
 unfold cd
 exact HR (n:=x.length) (P:=fun i=>∀ z,Jj k x (x.length:Int) (i:Int) z=some (Df (x.drop i) k)) (fun z=>Vv (by
  unfold ON
  rw [if_neg (by simp),List.drop_length]
  rfl)) (fun i hi ih z=>Vv (by
  unfold ON
  simp only [show ((i:Int)<(x.length:Int)) from by omega,decide_true,if_true,show (0:Int)<=(i:Int) from by omega,Al,Ac hi,AW (show i<9223372036854775807 by omega)]
  rw [Bu hi]
  by_cases hk:(x[i].1.toList==k.toList)=true
  ·rw [if_pos hk]
   unfold Df
   rw [List.find?_cons,hk]
   rfl
  ·rw [if_neg hk,ih]
   unfold Df
   rw [List.find?_cons,Bool.eq_false_iff.2 hk])) 0 (by omega) _)

theorem Py k:Qw k=some (decide (1<=(k.size:Int))&&decide ((k.size:Int)<=12)):=vK (by simp [iW,BH])
theorem HN n:FR n=some (decide (1<=n)&&decide (n<=6)):=tQ (by simp [cW,BH])
def w_ (v:ByteArray):Bool:=v.toList==(⟨#[]⟩:ByteArray).toList
theorem mW (v:ByteArray):(v.toList==(⟨#[]⟩:ByteArray).toList)=w_ v:=rfl
def uG (op:Int) (k v:ByteArray):Bool :=
 (decide (op=1)||decide (op=2))&&(decide (1<=(k.size:Int))&&decide ((k.size:Int)<=12))&&decide ((v.size:Int)<=20)&&(decide (op=1)||w_ v)
def PQ (x:Int×Int×Int×Int×ByteArray×ByteArray):Bool :=
 decide (1<=x.1)&&decide (x.1<=6)&&(decide (1<=x.2.1)&&decide (x.2.1<=6))&&decide (0<=x.2.2.1) &&
  (if x.1=1 then uG x.2.2.2.1 x.2.2.2.2.1 x.2.2.2.2.2 else decide (x.2.2.2.1=0)&&w_ x.2.2.2.2.1&&w_ x.2.2.2.2.2)
theorem pG a k v:Mj a 0 k v=some (uG a k v):=iL (by
 have w:∀ b,K3 a v b=some (decide (a=1)||w_ v):=fun b=>Xy (by
  unfold Pp
  rw [mW]
  by_cases h:a=1<;>simp [h])
 unfold Wq uG
 have zy:decide ((v.size:Int)>20)=!decide ((v.size:Int)<=20):=by
  by_cases h:(v.size:Int)<=20<;>simp [h]
  omega
 simp only [zy,BH,Py,AC,w]
 by_cases h1:a=1
 ·by_cases h2:1<=(k.size:Int)<;>by_cases h3:(k.size:Int)<=12<;>by_cases h4:(v.size:Int)<=20<;>simp [h1,h2,h3,h4]
 ·by_cases h1b:a=2
  ·by_cases h2:1<=(k.size:Int)<;>by_cases h3:(k.size:Int)<=12<;>by_cases h4:(v.size:Int)<=20<;>simp [h1b,h2,h3,h4]
  ·have:¬ (1<=a/\a<=2):=by omega
   by_cases h5:1<=a
   ·have:¬ a<=2:=by omega
    simp [h1,h1b,this]
   ·simp [h1,h1b,h5])
theorem T7 x:Rp x=some (PQ x):=rP (by
 have w:∀ b,Mw b x=some (if x.1=1 then uG x.2.2.2.1 x.2.2.2.2.1 x.2.2.2.2.2 else decide (x.2.2.2.1=0)&&w_ x.2.2.2.2.1&&w_ x.2.2.2.2.2):=fun b=>hU (by
  unfold Tf
  simp only [mW]
  by_cases h:x.1=1
  ·simp [h,pG]
  ·by_cases h2:x.2.2.2.1=0<;>rcases Bool.eq_false_or_eq_true (w_ x.2.2.2.2.1) with h3 | h3<;>simp [h,h2,h3])
 unfold Zg PQ
 simp only [BH,HN,AC,w]
 by_cases h1:1<=x.1<;>by_cases h2:x.1<=6<;>by_cases h3:1<=x.2.1<;>by_cases h4:x.2.1<=6<;>by_cases h5:0<=x.2.2.1<;>simp [h1,h2,h3,h4,h5]<;>omega)
theorem T8 x:Rn x=some (PQ x):=rM (by
 have w:∀ b,Mt b x=some (if x.1=1 then uG x.2.2.2.1 x.2.2.2.2.1 x.2.2.2.2.2 else decide (x.2.2.2.1=0)&&w_ x.2.2.2.2.1&&w_ x.2.2.2.2.2):=fun b=>g_ (by
  unfold Td uG
  simp only [mW]
  by_cases h:x.1=1
  ·simp only [Bh,AC]
   by_cases g1:x.2.2.2.1=1
   ·by_cases h2:1<=(x.2.2.2.2.1.size:Int)<;>by_cases h3:(x.2.2.2.2.1.size:Int)<=12<;>by_cases h4:(x.2.2.2.2.2.size:Int)<=20<;>simp [h,g1,h2,h3,h4]
   ·by_cases g2:x.2.2.2.1=2
    ·by_cases h2:1<=(x.2.2.2.2.1.size:Int)<;>by_cases h3:(x.2.2.2.2.1.size:Int)<=12<;>by_cases h4:(x.2.2.2.2.2.size:Int)<=20<;>simp [h,g2,h2,h3,h4]
    ·simp [h,g1,g2]
  ·by_cases h2:x.2.2.2.1=0<;>rcases Bool.eq_false_or_eq_true (w_ x.2.2.2.2.1) with h3 | h3<;>simp [h,h2,h3])
 unfold Zd PQ
 simp only [Bh,AC,w]
 by_cases h1:1<=x.1<;>by_cases h2:x.1<=6<;>by_cases h3:1<=x.2.1<;>by_cases h4:x.2.1<=6<;>by_cases h5:0<=x.2.2.1<;>simp [h1,h2,h3,h4,h5]<;>omega)

def NF (a:ByteArray×ByteArray×Int):Bool:=(decide (1<=(a.1.size:Int))&&decide ((a.1.size:Int)<=12))&&decide ((a.2.1.size:Int)<=20)&&(decide (1<=a.2.2)&&decide (a.2.2<=1000000000))
def CJ (x:List (ByteArray×ByteArray×Int)) (i:Nat):Nat->Bool
 | 0=>decide ((x.length:Int)<=12)
 | k+1=>NF (x.getD i (U,U,0))&&(decide (i=0)||Op.bytesLess (x.getD (i-1) (U,U,0)).1.toList (x.getD i (U,U,0)).1.toList)&&CJ x (i+1) k
theorem zy (n:Int):decide (n>20)=!decide (n<=20):=by
 by_cases h:n<=20<;>simp [h]
 omega
theorem bA {i:Nat} (h:i<9223372036854775807) (h0:0<i):IntKind.i64.wrap ((i:Int)-1)=((i-1:Nat):Int):=by
 rw [AN (by omega)]
 omega
theorem Iu (x) (h:x.length<=maxLen):Dd x=some (CJ x 0 x.length):=r5 (by
 have hm:x.length<=9223372036854775807:=h
 unfold Z6
 have:=HR (n:=x.length) (P:=fun i=>Ga x (i:Int)=some (CJ x i (x.length-i))) (T1 (by
  unfold NA
  rw [if_neg (by simp),Nat.sub_self]
  rfl)) (fun i hi ih=>T1 (by
  unfold NA
  have e:x.length-i=(x.length-(i+1))+1:=by omega
  simp only [show ((i:Int)<(x.length:Int)) from by omega,decide_true,if_true,show (0:Int)<=(i:Int) from by omega,Al,AW (show i<9223372036854775807 by omega),ih,Bh,AC,zy]
  rw [e,CJ,NF]
  generalize (decide (1<=((x.getD i (U,U,0)).1.size:Int))&&decide (((x.getD i (U,U,0)).1.size:Int)<=12))=a
  generalize decide (((x.getD i (U,U,0)).2.1.size:Int)<=20)=b
  generalize (decide (1<=(x.getD i (U,U,0)).2.2)&&decide ((x.getD i (U,U,0)).2.2<=1000000000))=c
  cases a
  ·simp
  cases b
  ·simp
  cases c
  ·simp
  by_cases h0:0<i
  ·rw [bA (by omega) h0]
   simp only [Al,show ((0:Int)<=((i-1:Nat):Int)) from by omega,show (((i-1:Nat):Int)<(x.length:Int)) from by omega,if_true]
   rcases Bool.eq_false_or_eq_true (Op.bytesLess (x.getD (i-1) (U,U,0)).1.toList (x.getD i (U,U,0)).1.toList) with hb | hb<;>simp only [hb]<;>simp [h0,show i≠0 by omega]
  ·have:i=0:=by omega
   subst this
   simp)) 0 (by omega)
 simpa using this)
theorem NG (x) (h:x.length<=maxLen) (hl:∀ a b:List UInt8,(Op.bytesLess a b||a==b)=!Op.bytesLess b a):Fj x=some (CJ x 0 x.length):=r6 (by
 have hm:x.length<=9223372036854775807:=h
 unfold Z_
 have:=HR (n:=x.length) (P:=fun i=>Gb x x (x.length:Int) (i:Int)=some (CJ x i (x.length-i))) (T3 (by
  unfold NB
  rw [if_neg (by simp),Nat.sub_self]
  rfl)) (fun i hi ih=>T3 (by
  unfold NB
  have e:x.length-i=(x.length-(i+1))+1:=by omega
  simp only [show ((i:Int)<(x.length:Int)) from by omega,decide_true,if_true,show (0:Int)<=(i:Int) from by omega,Al,AW (show i<9223372036854775807 by omega),ih,BH,Py,AC,zy,hl]
  rw [e,CJ,NF]
  generalize (decide (1<=((x.getD i (U,U,0)).1.size:Int))&&decide (((x.getD i (U,U,0)).1.size:Int)<=12))=a
  generalize decide (((x.getD i (U,U,0)).2.1.size:Int)<=20)=b
  generalize (decide (1<=(x.getD i (U,U,0)).2.2)&&decide ((x.getD i (U,U,0)).2.2<=1000000000))=c
  cases a
  ·simp
  cases b
  ·simp
  cases c
  ·simp
  by_cases h0:0<i
  ·rw [bA (by omega) h0]
   simp only [Al,show ((0:Int)<=((i-1:Nat):Int)) from by omega,show (((i-1:Nat):Int)<(x.length:Int)) from by omega,if_true]
   rcases Bool.eq_false_or_eq_true (Op.bytesLess (x.getD (i-1) (U,U,0)).1.toList (x.getD i (U,U,0)).1.toList) with hb | hb<;>simp only [hb]<;>simp [h0,show i≠0 by omega]
  ·have:i=0:=by omega
   subst this
   simp)) 0 (by omega)
 simpa using this)
theorem PR:∀ a b:List UInt8,(Op.bytesLess a b||a==b)=!Op.bytesLess b a
 | [],[]=>rfl
 | [],_::_=>rfl
 | _::_,[]=>rfl
 | a::l,b::m=>by
  have ih:=PR l m
  simp only [Op.bytesLess]
  by_cases h1:a<b
  ·have h2:¬ b<a:=by exact UInt8.not_lt.2 (UInt8.le_of_lt h1)
   have h3:¬ b=a:=fun h=>by subst h; exact absurd h1 (UInt8.lt_irrefl _)
   simp [h1,h2,h3]
  ·by_cases h2:b<a
   ·have h3:¬ a=b:=fun h=>by subst h; exact absurd h2 (UInt8.lt_irrefl _)
    simp [h1,h2,h3]
   ·have h3:a=b:=UInt8.le_antisymm (UInt8.not_lt.1 h2) (UInt8.not_lt.1 h1)
    subst h3
    simpa [h1] using ih

abbrev Ad:Type:=ByteArray×ByteArray×Int
abbrev sH:Ad:=(U,U,(0:Int))
theorem bB:∀ a:List UInt8,Op.bytesLess a a=false
 | []=>rfl
 | a::l=>by simp [Op.bytesLess,bB l,UInt8.lt_irrefl]
theorem aP:∀ {a b c:List UInt8},Op.bytesLess a b=true->Op.bytesLess b c=true->Op.bytesLess a c=true
 | _,[],_,h,_=>by cases ‹List UInt8› <;> simp [Op.bytesLess] at h
 | _,_::_,[],_,h=>by simp [Op.bytesLess] at h
 | [],_::_,_::_,_,_=>rfl
 | a::x,b::y,c::z,h,g=>by
  simp only [Op.bytesLess,Ec,decide_eq_true_eq,AE,beq_iff_eq] at h g ⊢
  rcases h with h | ⟨rfl,h⟩
  ·rcases g with g | ⟨rfl,g⟩
   ·exact .inl (UInt8.lt_trans h g)
   ·exact .inl h
  ·rcases g with g | ⟨rfl,g⟩
   ·exact .inl g
   ·exact .inr ⟨rfl,aP h g⟩
theorem sI:∀ a b:List UInt8,decide (Lib.compareBytes a b<0)=Op.bytesLess a b/\(Lib.compareBytes a b==0)=(a==b)
 | [],[]=>⟨rfl,rfl⟩
 | [],_::_=>⟨rfl,rfl⟩
 | _::_,[]=>⟨rfl,rfl⟩
 | a::l,b::m=>by
  have ih:=sI l m
  simp only [Lib.compareBytes,Op.bytesLess]
  by_cases h1:a<b
  ·have h3:¬ a=b:=fun h=>by subst h; exact absurd h1 (UInt8.lt_irrefl _)
   simp [h1,h3]
  ·by_cases h2:b<a
   ·have h3:¬ a=b:=fun h=>by subst h; exact absurd h2 (UInt8.lt_irrefl _)
    simp [h1,h2,h3]
   ·have h3:a=b:=UInt8.le_antisymm (UInt8.not_lt.1 h2) (UInt8.not_lt.1 h1)
    subst h3
    simpa [h1] using ih
theorem Qj (a:Ad) (k:ByteArray):Ja a k=some (Lib.compareBytes a.1.toList k.toList):=mO (by
 unfold V5
 rw [gQ,ByteArray.toList_eq,ByteArray.toList_eq]
 rfl)
def WB (x:List Ad) (i:Nat) (k:ByteArray):Bool:=match x[i]? with
 | some b=>b.1.toList==k.toList
 | none=>false
def WC (k:ByteArray) (b:Ad):Bool:=Op.bytesLess b.1.toList k.toList
def NH (x:List Ad):Prop:=∀ a b (ha:a<x.length) (hb:b<x.length),a<b->Op.bytesLess x[a].1.toList x[b].1.toList=true
def m_ (x:List Ad) (k:ByteArray) (i j:Nat):Prop:=∀ a (ha:a<x.length),(a<i->WC k x[a]=true)/\(j<=a->WC k x[a]=false)
theorem ADI {i j:Nat} (h:i+j<=137438953472):IntKind.i64.wrap (Int.fdiv (IntKind.u64.wrap (IntKind.i64.wrap ((i:Int)+(j:Int)))) (2^(min (1:Int).toNat (IntKind.bits .u64))))=(((i+j) / 2:Nat):Int):=by
 have e1:IntKind.i64.wrap ((i:Int)+(j:Int))=((i+j:Nat):Int):=by rw [AN (by omega)]; omega
 have e2:IntKind.u64.wrap ((i+j:Nat):Int)=((i+j:Nat):Int):=by
  simp only [IntKind.wrap,IntKind.bits,IntKind.signed]
  simp
  omega
 have e3:(2:Int)^(min (1:Int).toNat (IntKind.bits .u64))=2:=by decide
 rw [e1,e2,e3,Int.fdiv_eq_ediv_of_nonneg _ (by omega)]
 rw [AN (by omega)]
 omega
theorem xA (x:List Ad) (k:ByteArray) (hx:x.length<=68719476736):∀ (m i j:Nat),j-i<=m->i<=j->j<=x.length ->
  ∃ r:Nat,i<=r/\r<=j/\AU x k (x.length:Int) (i:Int) (j:Int)=some ((r:Int),WB x r k)/\(NH x->m_ x k i j->m_ x k r r):=by
 intro m
 induction m with
 | zero =>
  intro i j hm hij hj
  have:i=j:=by omega
  subst this
  refine ⟨i,Nat.le_refl _,Nat.le_refl _,CP ?_,fun _ h=>h⟩
  unfold BS
  rw [if_neg (by simp)]
  refine Eb ?_
  unfold CO WB
  by_cases h:i<x.length
  ·simp only [show ((i:Int)<(x.length:Int)) from by omega,decide_true,if_true,show (0:Int)<=(i:Int) from by omega,Al,Ac h,Qj,AC,(sI _ _).2,List.getElem?_eq_getElem h]
  ·rw [if_neg (by simp; omega),DR (by omega)]
 | succ m ih =>
  intro i j hm hij hj
  by_cases hlt:i<j
  ·have hmid:i<=(i+j) / 2/\(i+j) / 2<j:=by omega
   generalize hh:(i+j) / 2=h at hmid
   have hb:h<x.length:=by omega
   have step:∀ r,(if WC k x[h]=true then AU x k (x.length:Int) ((h+1:Nat):Int) (j:Int) else AU x k (x.length:Int) (i:Int) (h:Int))=some r->AU x k (x.length:Int) (i:Int) (j:Int)=some r:=fun r hr=>CP (by
    unfold BS
    simp only [show ((i:Int)<(j:Int)) from by omega,decide_true,if_true,ADI (show i+j<=137438953472 by omega),hh,show ¬ ((1:Int)<0) from by decide,if_false,show ((0:Int)<=(h:Int)) from by omega,show ((h:Int)<(x.length:Int)) from by omega,Al,Ac hb,Qj,AC,(sI _ _).1,AW (show h<9223372036854775807 by omega)]
    exact hr)
   cases hl:WC k x[h] with
   | true =>
    obtain ⟨r,h1,h2,h3,h4⟩:=ih (h+1) j (by omega) (by omega) hj
    refine ⟨r,by omega,h2,step _ (by rw [hl]; exact h3),fun ho hc=>h4 ho fun a ha=>⟨fun hlt=>?_,(hc a ha).2⟩⟩
    by_cases e:a=h
    ·subst e; exact hl
    ·exact aP (ho a h ha hb (by omega)) hl
   | false =>
    obtain ⟨r,h1,h2,h3,h4⟩:=ih i h (by omega) hmid.1 (by omega)
    refine ⟨r,h1,by omega,step _ (by rw [hl]; exact h3),fun ho hc=>h4 ho fun a ha=>⟨(hc a ha).1,fun hle=>?_⟩⟩
    by_cases e:a=h
    ·subst e; exact hl
    ·cases q:WC k x[a] with
     | false=>rfl
     | true =>
      have:=aP (ho h a hb ha (by omega)) q
      rw [show Op.bytesLess x[h].1.toList k.toList=false from hl] at this
      cases this
  ·have:i=j:=by omega
   subst this
   exact ih i i (by omega) (Nat.le_refl _) hj
theorem zz (x:List Ad) (k:ByteArray) (hx:x.length<=68719476736):∃ r:Nat,r<=x.length/\BY x k ()=some ((r:Int),WB x r k)/\(NH x->m_ x k r r):=by
 obtain ⟨r,_,h2,h3,h4⟩:=xA x k hx x.length 0 x.length (by omega) (by omega) (Nat.le_refl _)
 refine ⟨r,h2,E9 (by unfold CX; exact h3),fun ho=>h4 ho fun a ha=>⟨fun h=>by omega,fun h=>by omega⟩⟩
theorem aQ {x:List Ad}:∀ (m i:Nat),CJ x i m=true->∀ a,i<=a->a<i+m->a≠0->Op.bytesLess (x.getD (a-1) sH).1.toList (x.getD a sH).1.toList=true
 | 0,i,_,a,h1,h2,_=>by omega
 | m+1,i,h,a,h1,h2,h0=>by
  simp only [CJ,AE,Ec,decide_eq_true_eq] at h
  obtain ⟨⟨_,h3⟩,h4⟩:=h
  by_cases e:a=i
  ·subst e
   exact h3.resolve_left h0
  ·exact aQ m (i+1) h4 a (by omega) (by omega) h0
theorem aR {x:List Ad} (h:CJ x 0 x.length=true):NH x:=by
 have st:=aQ _ _ h
 have:∀ d a (ha:a+d+1<x.length),Op.bytesLess (x.getD a sH).1.toList (x.getD (a+d+1) sH).1.toList=true:=by
  intro d
  induction d with
  | zero=>intro a ha; exact st (a+1) (by omega) (by omega) (by omega)
  | succ d ih =>
   intro a ha
   exact aP (ih a (by omega)) (st (a+(d+1)+1) (by omega) (by omega) (by omega))
 intro a b ha hb hab
 have:=this (b-a-1) a (by omega)
 rw [show a+(b-a-1)+1=b by omega,Ac ha,Ac hb] at this
 exact this
theorem xB {x:List Ad} {k:ByteArray} {r:Nat} (hr:r<=x.length) (h:m_ x k r r):x.take r=x.filter (WC k)/\x.drop r=x.filter (fun b=>!WC k b):=by
 have e1:(x.take r).filter (WC k)=x.take r:=List.filter_eq_self.2 fun b hb=>by
  obtain ⟨a,ha,rfl⟩:=DY hb
  rw [List.length_take] at ha
  rw [List.getElem_take]
  exact (h a (by omega)).1 (by omega)
 have e2:(x.drop r).filter (WC k)=[]:=List.filter_eq_nil_iff.2 fun b hb=>by
  obtain ⟨a,ha,rfl⟩:=DY hb
  rw [List.length_drop] at ha
  rw [List.getElem_drop]
  have:=(h (r+a) (by omega)).2 (by omega)
  simp [this]
 have e3:(x.take r).filter (fun b=>!WC k b)=[]:=List.filter_eq_nil_iff.2 fun b hb=>by
  obtain ⟨a,ha,rfl⟩:=DY hb
  rw [List.length_take] at ha
  rw [List.getElem_take]
  have:=(h a (by omega)).1 (by omega)
  simp [this]
 have e4:(x.drop r).filter (fun b=>!WC k b)=x.drop r:=List.filter_eq_self.2 fun b hb=>by
  obtain ⟨a,ha,rfl⟩:=DY hb
  rw [List.length_drop] at ha
  rw [List.getElem_drop]
  have:=(h (r+a) (by omega)).2 (by omega)
  simp [this]
 have f1:x.filter (WC k)=(x.take r).filter (WC k)++(x.drop r).filter (WC k):=by rw [<- List.filter_append,List.take_append_drop]
 have f2:x.filter (fun b=>!WC k b)=(x.take r).filter (fun b=>!WC k b)++(x.drop r).filter (fun b=>!WC k b):=by rw [<- List.filter_append,List.take_append_drop]
 rw [f1,f2,e1,e2,e3,e4]
 simp
theorem x_ {x:List Ad} {k:ByteArray} {r:Nat} (ho:NH x) (h:m_ x k r r) (j:Nat) (hj:j<x.length) (e:x[j].1.toList=k.toList):j=r:=by
 rcases Nat.lt_trichotomy j r with g | g | g
 ·have:=(h j hj).1 g
  simp only [WC,e,bB] at this
  cases this
 ·exact g
 ·have h1:=ho r j (by omega) hj g
  have h2:=(h r (by omega)).2 (Nat.le_refl _)
  rw [e] at h1
  rw [show WC k x[r]=true from h1] at h2
  cases h2
def aS (x:List Ad) (a:Ad):Bool:=x.any fun b=>(b.1.toList==a.1.toList)&&decide (b.2.2>=a.2.2)
def Q1 (k:ByteArray) (b:Ad):Bool:=!(Op.bytesLess b.1.toList k.toList||(b.1.toList==k.toList))
def WD (x:List Ad) (a:Ad):List Ad:=x.filter (WC a.1)++[a]++x.filter (Q1 a.1)
def Ba (x:List Ad):Bool:=CJ x 0 x.length
def Dz (x:List Ad) (a:Ad):List Ad:=if aS x a=true then x else if Ba x=true then (if Ba (WD x a)=true then WD x a else x) else x
theorem yA {x:List Ad} {k:ByteArray} {r:Nat} (hr:r<=x.length) (h:m_ x k r r):x.filter (Q1 k)=(x.drop r).filter fun b=>!(b.1.toList==k.toList):=by
 rw [(xB hr h).2,List.filter_filter]
 congr 1
 funext b
 simp only [Q1,WC,Bool.not_or]
 exact Bool.and_comm _ _
theorem NI (x:List Ad) (a:Ad) (hx:x.length<=34359738367):I6 x a=some (Dz x a):=ro (by
 have J4:∀ same out:List Ad,out.length<=maxLen->M5 x a same out=some (if Ba x=true then (if Ba out=true then out else same) else same):=fun same out ho=>ij (by
  unfold Tv Ba
  rw [Iu x (by unfold maxLen; omega),Iu out ho]
  cases CJ x 0 x.length<;>cases CJ out 0 out.length<;>simp)
 have L3:∀ same out:List Ad,out.length<=x.length+1->Ee x ((0:Nat):Int) a same out=some (if Ba x=true then (if Ba (out++(x.drop 0).filter (Q1 a.1))=true then out++(x.drop 0).filter (Q1 a.1) else same) else same):=by
  intro same out ho
  refine HR (n:=x.length) (P:=fun i=>∀ out:List Ad,out.length<=x.length+1+i->Ee x (i:Int) a same out=some (if Ba x=true then (if Ba (out++(x.drop i).filter (Q1 a.1))=true then out++(x.drop i).filter (Q1 a.1) else same) else same)) (fun out ho=>Tx ?_) (fun i hi ih out ho=>Tx ?_) 0 (by omega) out ho
  ·unfold M7
   rw [if_neg (by simp),J4 same out (by unfold maxLen; omega)]
   simp
  ·unfold M7
   simp only [show ((i:Int)<(x.length:Int)) from by omega,decide_true,if_true,show (0:Int)<=(i:Int) from by omega,Al,Ac hi,AW (show i<9223372036854775807 by omega)]
   rw [Bu hi,List.filter_cons]
   change (if Q1 a.1 x[i]=true then _ else _)=_
   by_cases hh:Q1 a.1 x[i]=true
   ·rw [if_pos hh,if_pos (by simp; omega),ih _ (by simp; omega),if_pos hh,BW]
    rfl
   ·rw [if_neg hh,ih _ (by omega),if_neg hh]
 have J2:∀ same out:List Ad,out.length<=x.length->M6 x a same out=some (if Ba x=true then (if Ba (out++[a]++x.filter (Q1 a.1))=true then out++[a]++x.filter (Q1 a.1) else same) else same):=fun same out ho=>ik (by
  unfold Tw
  rw [if_pos (by simp; omega)]
  have:=L3 same (out++[a]) (by simp; omega)
  simpa using this)
 have L0:∀ same:List Ad,Ef x ((0:Nat):Int) a same []=some (if aS (x.drop 0) a=true then same else if Ba x=true then (if Ba (([]++(x.drop 0).filter (WC a.1))++[a]++x.filter (Q1 a.1))=true then ([]++(x.drop 0).filter (WC a.1))++[a]++x.filter (Q1 a.1) else same) else same):=by
  intro same
  refine HR (n:=x.length) (P:=fun i=>∀ out:List Ad,out.length<=i->Ef x (i:Int) a same out=some (if aS (x.drop i) a=true then same else if Ba x=true then (if Ba ((out++(x.drop i).filter (WC a.1))++[a]++x.filter (Q1 a.1))=true then (out++(x.drop i).filter (WC a.1))++[a]++x.filter (Q1 a.1) else same) else same)) (fun out ho=>Ty ?_) (fun i hi ih out ho=>Ty ?_) 0 (by omega) [] (by simp)
  ·unfold M8
   rw [if_neg (by simp),J2 same out ho]
   simp [aS]
  ·unfold M8
   simp only [show ((i:Int)<(x.length:Int)) from by omega,decide_true,if_true,show (0:Int)<=(i:Int) from by omega,Al,Ac hi]
   have J1:∀ out:List Ad,out.length<=i+1->Iq x (i:Int) a same out=some (if aS (x.drop i) a=true then same else if Ba x=true then (if Ba ((out++(x.drop (i+1)).filter (WC a.1))++[a]++x.filter (Q1 a.1))=true then (out++(x.drop (i+1)).filter (WC a.1))++[a]++x.filter (Q1 a.1) else same) else same):=fun out ho=>ii (by
    unfold Tu
    simp only [show ((i:Int)<(x.length:Int)) from by omega,decide_true,if_true,show (0:Int)<=(i:Int) from by omega,Al,Ac hi,AW (show i<9223372036854775807 by omega),ih out ho]
    rw [Bu hi]
    rw [show aS (x[i]::x.drop (i+1)) a=(((x[i].1.toList==a.1.toList)&&decide (x[i].2.2>=a.2.2))||aS (x.drop (i+1)) a) from List.any_cons]
    generalize (x[i].1.toList==a.1.toList)=p
    generalize decide (x[i].2.2>=a.2.2)=q
    cases p<;>cases q<;>simp)
   rw [Bu hi,List.filter_cons]
   change (if WC a.1 x[i]=true then _ else _)=_
   rw [Bu hi] at J1
   by_cases hh:WC a.1 x[i]=true
   ·rw [if_pos hh,if_pos (by simp; omega),J1 _ (by simp; omega),if_pos hh]
    simp only [BW,List.cons_append,List.nil_append]
   ·rw [if_neg hh,J1 _ (by omega),if_neg hh]
 unfold Z1
 rw [if_pos (by simp; omega)]
 have:=L0 ([]++x)
 simpa [Dz,WD] using this)
theorem ABF {x:List Ad} {a:Ad} {r:Nat} (hr:r<=x.length) (ho:NH x) (h:m_ x a.1 r r):aS x a=(WB x r a.1&&decide ((x.getD r sH).2.2>=a.2.2)):=by
 unfold aS WB
 by_cases hl:r<x.length
 ·rw [List.getElem?_eq_getElem hl,Ac hl]
  rw [Bool.eq_iff_iff,List.any_eq_true]
  simp only [AE,beq_iff_eq,decide_eq_true_eq]
  refine ⟨fun ⟨b,hb,e,hv⟩=>?_,fun ⟨e,hv⟩=>⟨_,Bk hl,e,hv⟩⟩
  obtain ⟨j,hj,rfl⟩:=DY hb
  have:=x_ ho h j hj e
  subst this
  exact ⟨e,hv⟩
 ·rw [DR (by omega),Bool.false_and,List.any_eq_false]
  intro b hb
  obtain ⟨j,hj,rfl⟩:=DY hb
  intro hc
  simp only [AE,beq_iff_eq] at hc
  have:=x_ ho h j hj hc.1
  omega
theorem ACU {x:List Ad} {a:Ad} {r:Nat} (hr:r<=x.length) (ho:NH x) (h:m_ x a.1 r r):WD x a=if WB x r a.1=true then x.set r a else x.take r++[a]++x.drop r:=by
 unfold WD
 rw [yA hr h,<- (xB hr h).1]
 have hk:∀ (j:Nat) (hj:j<x.length),j≠r->(x[j].1.toList==a.1.toList)=false:=fun j hj hne=>by
  cases q:(x[j].1.toList==a.1.toList) with
  | false=>rfl
  | true=>exact absurd (x_ ho h j hj (by simpa using q)) hne
 have tail:(x.drop (r+1)).filter (fun b=>!(b.1.toList==a.1.toList))=x.drop (r+1):=List.filter_eq_self.2 fun b hb=>by
  obtain ⟨j,hj,rfl⟩:=DY hb
  rw [List.length_drop] at hj
  rw [List.getElem_drop,hk (r+1+j) (by omega) (by omega)]
  rfl
 by_cases hl:r<x.length
 ·rw [Bu hl,List.filter_cons,tail]
  unfold WB
  rw [List.getElem?_eq_getElem hl]
  cases q:(x[r].1.toList==a.1.toList) with
  | true=>simp [q,List.set_eq_take_append_cons_drop,hl]
  | false=>simp [q]
 ·have:x.drop r=[]:=List.drop_eq_nil_of_le (by omega)
  rw [this]
  unfold WB
  rw [DR (by omega)]
  simp
theorem T9 (x:List Ad) (a:Ad) (hx:x.length<=34359738367):Mn x a=some (Dz x a):=r7 (by
 obtain ⟨r,hr,hs,hc⟩:=zz x a.1 (by omega)
 have ok:∀ y:List Ad,y.length<=68719476736->Fj y=some (Ba y):=fun y hy=>NG y (by unfold maxLen; omega) PR
 have J1:∀ y:List Ad,y.length<=68719476736->Is x a y=some (if Ba y=true then y else x):=fun y hy=>iw (by
  unfold T4
  rw [ok y hy,Aq (by omega)]
  cases Ba y<;>simp)
 have hl:WB x r a.1=true->r<x.length:=fun h=>by
  by_cases hl:r<x.length
  ·exact hl
  ·unfold WB at h
   rw [DR (by omega)] at h
   cases h
 have J0:∀ b,Ba x=true->It x (r:Int) (WB x r a.1) b a x=some (if Ba (WD x a)=true then WD x a else x):=fun b hok=>ix (by
  unfold T5
  rw [ACU hr (aR hok) (hc (aR hok))]
  cases hh:WB x r a.1 with
  | true =>
   have:=hl hh
   simp only [if_true,show (0:Int)<=(r:Int) from by omega,show ((r:Int)<(x.length:Int)) from by omega,Al]
   rw [J1 _ (by simp; omega)]
  | false =>
   rw [if_neg (by simp),Ka (by simp; omega) hr (by simp),AC,J1 _ (by simp; omega)]
   simp)
 unfold aB
 rw [Aq (by omega),AC,hs,AC,ok x (by omega),AC]
 cases hok:Ba x with
 | false=>simp [Dz,hok]
 | true =>
  have hst:=ABF hr (aR hok) (hc (aR hok))
  have j0:=J0
  unfold Dz
  rw [hst,hok]
  cases hh:WB x r a.1 with
  | false =>
   have:=J0 false hok
   rw [hh] at this
   simp [this]
  | true =>
   have hlr:=hl hh
   have:=J0 false hok
   rw [hh] at this
   simp only [if_true,show (0:Int)<=(r:Int) from by omega,show ((r:Int)<(x.length:Int)) from by omega,Al,Bool.true_and]
   cases q:decide ((x.getD r sH).2.2>=a.2.2) with
   | true=>simp
   | false=>simp [this])



theorem Ua {x:List Ad}:∀ (m i:Nat),i+m=x.length->(CJ x i m=true↔(∀ a (ha:a<x.length),i<=a->NF x[a]=true/\(a≠0->Op.bytesLess (x.getD (a-1) sH).1.toList x[a].1.toList=true))/\x.length<=12)
 | 0,i,h=>by
  simp only [CJ,decide_eq_true_eq]
  refine ⟨fun h2=>⟨fun a ha hi=>by omega,by omega⟩,fun h2=>by have:=h2.2; omega⟩
 | m+1,i,h=>by
  have hi:i<x.length:=by omega
  rw [CJ,AE,AE,Ua m (i+1) (by omega),Ac hi]
  simp only [Ec,decide_eq_true_eq]
  constructor
  ·rintro ⟨⟨h1,h2⟩,h3,h4⟩
   refine ⟨fun a ha hia=>?_,h4⟩
   by_cases e:a=i
   ·subst e
    exact ⟨h1,fun h0=>h2.resolve_left h0⟩
   ·exact h3 a ha (by omega)
  ·rintro ⟨h3,h4⟩
   refine ⟨⟨(h3 i hi (Nat.le_refl _)).1,?_⟩,fun a ha hia=>h3 a ha (by omega),h4⟩
   by_cases e:i=0
   ·exact .inl e
   ·exact .inr ((h3 i hi (Nat.le_refl _)).2 e)
theorem JD {x:List Ad}:Ba x=true↔(∀ b∈x,NF b=true)/\NH x/\x.length<=12:=by
 constructor
 ·intro h
  have h1:=(Ua x.length 0 (by omega)).1 h
  refine ⟨fun b hb=>?_,aR h,h1.2⟩
  obtain ⟨a,ha,rfl⟩:=DY hb
  exact (h1.1 a ha (Nat.zero_le _)).1
 ·rintro ⟨h1,h2,h3⟩
  refine (Ua x.length 0 (by omega)).2 ⟨fun a ha _=>⟨h1 _ (Bk ha),fun h0=>?_⟩,h3⟩
  rw [Ac (show a-1<x.length by omega)]
  exact h2 (a-1) a (by omega) ha (by omega)
theorem uH {x:List Ad}:NH x↔x.Pairwise fun b c=>Op.bytesLess b.1.toList c.1.toList=true:=by
 rw [List.pairwise_iff_getElem]
 rfl
theorem sJ {x:List Ad} (a:Ad) (h:NH x):NH (WD x a):=by
 rw [uH] at h ⊢
 have lo:∀ b∈x.filter (WC a.1),Op.bytesLess b.1.toList a.1.toList=true:=fun b hb=>(List.mem_filter.1 hb).2
 have hg:∀ b∈x.filter (Q1 a.1),Op.bytesLess a.1.toList b.1.toList=true:=fun b hb=>by
  have:=(List.mem_filter.1 hb).2
  rw [Q1,PR] at this
  simpa using this
 unfold WD
 rw [List.pairwise_append,List.pairwise_append]
 refine ⟨⟨h.filter _,List.pairwise_singleton _ _,fun b hb c hc=>?_⟩,h.filter _,fun b hb c hc=>?_⟩
 ·rw [C1] at hc
  subst hc
  exact lo b hb
 ·rcases CD.1 hb with hb | hb
  ·exact aP (lo b hb) (hg c hc)
  ·rw [C1] at hb
   subst hb
   exact hg c hc
theorem ABG (x:List Ad) (a:Ad):(WD x a).length<=x.length+1:=by
 have h1:(x.filter (Q1 a.1)).length<=(x.filter fun b=>!WC a.1 b).length:=by
  rw [<- List.countP_eq_length_filter,<- List.countP_eq_length_filter]
  refine List.countP_mono_left fun b _ hb=>?_
  simp only [Q1,WC,Dw,Bool.or_eq_false_iff] at hb ⊢
  exact hb.1
 have h2:(x.filter (WC a.1)).length+(x.filter fun b=>!WC a.1 b).length=x.length:=by
  rw [<- List.countP_eq_length_filter,<- List.countP_eq_length_filter]
  have:=List.length_eq_countP_add_countP (WC a.1) (l:=x)
  rw [this]
  congr 2
  funext b
  cases WC a.1 b<;>rfl
 simp only [WD,List.length_append,List.length_cons,List.length_nil]
 omega
theorem ABH {x:List Ad} {a:Ad}:a∈WD x a:=by simp [WD]
theorem xC {x:List Ad} {a b:Ad} (h:b∈WD x a):b=a\/b∈x:=by
 simp only [WD,CD,List.mem_filter,C1] at h
 rcases h with (h | h) | h
 ·exact .inr h.1
 ·exact .inl h
 ·exact .inr h.1
theorem yB {x:List Ad} (ho:NH x) {b:Ad} (hb:b∈x):Df x b.1=b:=by
 obtain ⟨j,hj,rfl⟩:=DY hb
 have:x.find? (fun a=>a.1.toList==x[j].1.toList)=some x[j]:=by
  rw [List.find?_eq_some_iff_getElem]
  refine ⟨by simp,j,hj,rfl,fun i hi=>?_⟩
  have:=ho i j (by omega) hj hi
  cases q:(x[i].1.toList==x[j].1.toList) with
  | false=>rfl
  | true =>
   rw [beq_iff_eq] at q
   rw [q,bB] at this
   cases this
 unfold Df
 rw [this]
 rfl
theorem xD (a:Ad):MA (.pair .str (.pair .str (.int .i64))) a a=true:=by simp [MA]
theorem sK {x:List Ad} {a:Ad} (h:Ba x=true):Ba (Dz x a)=true:=by
 unfold Dz
 rw [if_pos h]
 split
 ·exact h
 ·split
  ·assumption
  ·exact h
theorem xE (x:List Ad) (a:Ad):(Dz x a).length<=x.length+1:=by
 have:=ABG x a
 unfold Dz
 (repeat' split)<;>omega

theorem mX (x:List Int) (hx:x.length<=maxLen) (n:Int) (hn:0<=n/\n<=68719476736):∃ r,Oc x n=some r/\(r<0\/((x.length:Int)<=n/\0<=r/\r<=n)):=by
 have hm:x.length<=9223372036854775807:=hx
 by_cases h:IntKind.i64.wrap (n-(x.length:Int))<0
 ·exact ⟨-1,UT (by unfold US; rw [if_pos (by simpa using h)]),.inl (by omega)⟩
 ·have e:IntKind.i64.wrap (n-(x.length:Int))=n-x.length:=AN (by omega)
  exact ⟨_,UT (by unfold US; rw [if_neg (by simpa using h)]),.inr (by omega)⟩
theorem i8 (x:List (List Int)) (hx:x.length<=maxLen) (hok:∀ a∈x,a.length<=maxLen) (n:Int) (hn:0<=n/\n<=68719476736):∃ r,Mf x n=some r/\(r<0\/((x.length:Int)<=n/\∀ a∈x,(a.length:Int)<=n)):=by
 have hm:x.length<=9223372036854775807:=hx
 by_cases h:IntKind.i64.wrap (n-(x.length:Int))<0
 ·exact ⟨-1,Rw (by unfold Rv; rw [if_pos (by simpa using h)]),.inl (by omega)⟩
 ·have hl:=wz hx (by omega) h
  have key:=HR (n:=x.length) (P:=fun i=>∀ m:Int,0<=m->m<=n->∃ r,GX x m (i:Int)=some r/\(r<0\/∀ a∈x.drop i,(a.length:Int)<=n)) (fun m _ _=>⟨m,Ih (by
   unfold Ig
   rw [if_neg (by simp)]),.inr (by simp)⟩) (fun i hi ih m hm0 hmn=>by
   obtain ⟨s,hs,hso⟩:=mX x[i] (hok _ (Bk _)) m (by omega)
   by_cases h3:s<0
   ·refine ⟨-1,Ih ?_,.inl (by omega)⟩
    unfold Ig
    simp only [show ((i:Int)<(x.length:Int)) from by omega,decide_true,if_true,show (0:Int)<=(i:Int) from by omega,Al,Ac hi,hs,AC]
    rw [if_pos (by simpa using h3)]
   ·rcases hso with hso | ⟨hsl,hs0,hsm⟩
    ·omega
    obtain ⟨r,hr,ho⟩:=ih s (by omega) (by omega)
    refine ⟨r,Ih ?_,ho.imp id fun ho a ha=>?_⟩
    ·unfold Ig
     simp only [show ((i:Int)<(x.length:Int)) from by omega,decide_true,if_true,show (0:Int)<=(i:Int) from by omega,Al,Ac hi,hs,AC,AW (show i<9223372036854775807 by omega)]
     rw [if_neg (by simpa using h3)]
     exact hr
    ·rw [Bu hi] at ha
     rcases Ah.1 ha with rfl | ha
     ·omega
     ·exact ho a ha) 0 (by omega)
  have e:IntKind.i64.wrap (n-(x.length:Int))=n-x.length:=AN (by omega)
  obtain ⟨r,hr,ho⟩:=key (n-x.length) (by omega) (by omega)
  exact ⟨r,Rw (by unfold Rv; rw [if_neg (by simpa using h),e]; exact hr),ho.imp id fun ho=>⟨hl,by simpa using ho⟩⟩
theorem Em (x:List Int) (n:Int) (h:x.length<=maxLen):E5 x n=some (x.contains n):=vH (by
 have hm:x.length<=9223372036854775807:=h
 unfold iP
 have:=HR (n:=x.length) (P:=fun i=>K4 x n (i:Int)=some ((x.drop i).contains n)) (X0 (by
  unfold Pq
  rw [if_neg (by simp),List.drop_length]
  rfl)) (fun i hi ih=>X0 (by
  unfold Pq
  simp only [show ((i:Int)<(x.length:Int)) from by omega,decide_true,if_true,show (0:Int)<=(i:Int) from by omega,Al,Ac hi,AW (show i<9223372036854775807 by omega)]
  rw [Bu hi,List.contains_cons,ih]
  by_cases e:x[i]=n
  ·subst e
   simp
  ·simp [e,Ne.symm e])) 0 (by omega)
 simpa using this)
theorem ADJ (x:List Int) (i:Nat) (hi:i<x.length) (h:x.length<=maxLen):∃ r,Db x x[i]=some r/\((r=(i:Int))↔x[i]∉x.take i):=by
 have hm:x.length<=9223372036854775807:=h
 have key:=HR (n:=i) (P:=fun k=>∃ r,Cp x x[i] (x.length:Int) (k:Int)=some r/\(k:Int)<=r/\((r=(i:Int))↔∀ m (hm:m<i),k<=m->x[m]≠x[i])) ⟨i,CI (by
  unfold Bt
  simp only [show ((i:Int)<(x.length:Int)) from by omega,decide_true,if_true,show (0:Int)<=(i:Int) from by omega,Al,Ac hi]
  simp),by omega,⟨fun _ m hm hk=>by omega,fun _=>rfl⟩⟩ (fun k hk ⟨r,hr,hkr,hiff⟩=>by
  have hk2:k<x.length:=by omega
  by_cases e:x[i]=x[k]
  ·refine ⟨k,CI ?_,by omega,⟨fun he=>by omega,fun hall=>absurd e.symm (hall k hk (by omega))⟩⟩
   unfold Bt
   simp only [show ((k:Int)<(x.length:Int)) from by omega,decide_true,if_true,show (0:Int)<=(k:Int) from by omega,Al,Ac hk2]
   rw [if_pos (by simpa using e)]
  ·refine ⟨r,CI ?_,by omega,hiff.trans ⟨fun hall m hm hkm=>?_,fun hall m hm hkm=>hall m hm (by omega)⟩⟩
   ·unfold Bt
    simp only [show ((k:Int)<(x.length:Int)) from by omega,decide_true,if_true,show (0:Int)<=(k:Int) from by omega,Al,Ac hk2,AW (show k<9223372036854775807 by omega)]
    rw [if_neg (by simpa using e)]
    exact hr
   ·rcases B3 k m with h1 | h1
    ·exact hall m hm h1
    ·have:m=k:=by omega
     subst this
     exact fun h=>e h.symm) 0 (by omega)
 obtain ⟨r,hr,_,hiff⟩:=key
 refine ⟨r,M4 hr,hiff.trans ⟨fun hall hmem=>?_,fun hn m hm _ he=>hn ?_⟩⟩
 ·obtain ⟨m,hm,he⟩:=List.mem_take_iff_getElem.1 hmem
  exact hall m (by omega) (by omega) he
 ·exact List.mem_take_iff_getElem.2 ⟨m,by omega,he⟩
def IL (v:List Int) (i:Nat):Nat->Bool
 | 0=>true
 | k+1=>(decide (1<=v.getD i 0)&&decide (v.getD i 0<=6))&&!(v.take i).contains (v.getD i 0)&&IL v (i+1) k
def Wy (v:List Int):Bool:=(decide (1<=(v.length:Int))&&decide ((v.length:Int)<=4))&&IL v 0 v.length
def DQ (x:List (List Int)) (n:Nat):List (List Int)->Bool
 | []=>decide (1<=(n:Int))&&decide ((n:Int)<=9)
 | v::r=>Wy v&&DQ x n r
theorem i9 (v:List Int) (h:v.length<=maxLen):Rs v=some (Wy v):=rY (by
 have hm:v.length<=9223372036854775807:=h
 unfold Zw Wy
 simp only [Bh,AC]
 have:=HR (n:=v.length) (P:=fun i=>Io v (i:Int)=some (IL v i (v.length-i))) (Tm (by
  unfold M2
  rw [if_neg (by simp),Nat.sub_self]
  rfl)) (fun i hi ih=>Tm (by
  unfold M2
  have e:v.length-i=(v.length-(i+1))+1:=by omega
  rw [e,IL]
  simp only [show ((i:Int)<(v.length:Int)) from by omega,show ((i:Int)<=(v.length:Int)) from by omega,decide_true,if_true,show (0:Int)<=(i:Int) from by omega,Al,Bh,AC,AW (show i<9223372036854775807 by omega),ih,Int.toNat_zero,List.drop_zero,Int.le_refl,
   Em (v.take i) _ (by rw [List.length_take]; omega)]
  generalize (decide (1<=v.getD i 0)&&decide (v.getD i 0<=6))=a
  generalize (v.take i).contains (v.getD i 0)=b
  cases a<;>cases b<;>simp)) 0 (by omega)
 simp only [Int.ofNat_zero,Nat.sub_zero] at this
 generalize (decide (1<=(v.length:Int))&&decide ((v.length:Int)<=4))=a
 cases a
 ·simp
 ·simpa using this)
theorem T_ (x:List (List Int)) (h:x.length<=maxLen) (ho:∀ a∈x,a.length<=maxLen):EV x=some (DQ x x.length x):=rT (by
 have hm:x.length<=9223372036854775807:=h
 unfold Zm
 exact HR (n:=x.length) (P:=fun i=>Il x (i:Int)=some (DQ x x.length (x.drop i))) (Tg (by
  unfold Mx
  rw [if_neg (by simp),List.drop_length,Bh]
  rfl)) (fun i hi ih=>Tg (by
  unfold Mx
  simp only [show ((i:Int)<(x.length:Int)) from by omega,decide_true,if_true,show (0:Int)<=(i:Int) from by omega,Al,Ac hi,i9 x[i] (ho _ (Bk _)),AC,AW (show i<9223372036854775807 by omega),ih]
  rw [Bu hi,DQ]
  generalize Wy x[i]=a
  cases a<;>simp)) 0 (by omega))
theorem UA (x:List (List Int)) (h:x.length<=maxLen) (ho:∀ a∈x,a.length<=maxLen):EW x=some (DQ x x.length x):=rV (by
 have hm:x.length<=9223372036854775807:=h
 unfold Zq
 exact HR (n:=x.length) (P:=fun i=>In x x (x.length:Int) (i:Int)=some (DQ x x.length (x.drop i))) (Tk (by
  unfold M1
  rw [if_neg (by simp),List.drop_length,BH]
  rfl)) (fun i hi ih=>Tk (by
  unfold M1
  simp only [show ((i:Int)<(x.length:Int)) from by omega,decide_true,if_true,show (0:Int)<=(i:Int) from by omega,Al,Ac hi]
  rw [Bu hi,DQ]
  have hv:=ho x[i] (Bk _)
  generalize x[i]=v at hv
  have hvm:v.length<=9223372036854775807:=hv
  have wj:Mz x v x (x.length:Int) (i:Int)=some ((decide (1<=(v.length:Int))&&decide ((v.length:Int)<=4))&&DQ x x.length (x.drop (i+1))):=iK (by
   unfold Ti
   rw [BH,AC,AW (show i<9223372036854775807 by omega),ih]
   generalize (decide (1<=(v.length:Int))&&decide ((v.length:Int)<=4))=a
   cases a<;>simp)
  have:=HR (n:=v.length) (P:=fun j=>Im x v x (x.length:Int) (i:Int) v (v.length:Int) (j:Int)=some (IL v j (v.length-j)&&((decide (1<=(v.length:Int))&&decide ((v.length:Int)<=4))&&DQ x x.length (x.drop (i+1))))) (Tj (by
   unfold M0
   rw [if_neg (by simp),Nat.sub_self,wj]
   rfl)) (fun j hj ihj=>Tj (by
   unfold M0
   have e:v.length-j=(v.length-(j+1))+1:=by omega
   obtain ⟨r,hr,hiff⟩:=ADJ v j hj hv
   rw [e,IL]
   simp only [show ((j:Int)<(v.length:Int)) from by omega,decide_true,if_true,show (0:Int)<=(j:Int) from by omega,Al,HN,AC,AW (show j<9223372036854775807 by omega),ihj,Ac hj,hr]
   have hb:(r != (j:Int))=(v.take j).contains v[j]:=by
    by_cases e2:r=(j:Int)
    ·have:=hiff.1 e2
     simp [e2,this]
    ·have:v[j]∈v.take j:=Classical.byContradiction fun hn=>e2 (hiff.2 hn)
     simp [e2,this]
   rw [hb]
   generalize (decide (1<=v[j])&&decide (v[j]<=6))=a
   generalize (v.take j).contains v[j]=b
   cases a<;>cases b<;>simp)) 0 (by omega)
  simp only [Int.ofNat_zero,Nat.sub_zero] at this
  unfold Wy
  refine Eq.trans this ?_
  congr 1
  generalize IL v 0 v.length=a
  generalize (decide (1<=(v.length:Int))&&decide ((v.length:Int)<=4))=b
  cases a<;>cases b<;>simp)) 0 (by omega))

abbrev yw:Type:=Int×Int×Int×(ByteArray×ByteArray×Int)×List Int
abbrev AF:Type:=Int×Int×Bool×Bool×Bool×Bool×List Int×List (ByteArray×ByteArray×Int)×Int×yw
def Fq (v:List Int) (i:Nat):Nat->Bool
 | 0=>true
 | k+1=>(decide (1<=v.getD i 0)&&decide (v.getD i 0<=6))&&(decide (i=0)||decide (v.getD (i-1) 0<v.getD i 0))&&Fq v (i+1) k
theorem WE (x:List Int) (h:x.length<=maxLen):DX x=some (Fq x 0 x.length):=tY (by
 have hm:x.length<=9223372036854775807:=h
 unfold cg
 have:=HR (n:=x.length) (P:=fun i=>HI x (i:Int)=some (Fq x i (x.length-i))) (Vz (by
  unfold OO
  rw [if_neg (by simp),Nat.sub_self]
  rfl)) (fun i hi ih=>Vz (by
  unfold OO
  have e:x.length-i=(x.length-(i+1))+1:=by omega
  simp only [show ((i:Int)<(x.length:Int)) from by omega,decide_true,if_true,show (0:Int)<=(i:Int) from by omega,Al,AW (show i<9223372036854775807 by omega),ih,Bh,AC]
  rw [e,Fq]
  generalize (decide (1<=x.getD i 0)&&decide (x.getD i 0<=6))=a
  cases a
  ·simp
  by_cases h0:0<i
  ·rw [bA (by omega) h0]
   simp only [Al,show ((0:Int)<=((i-1:Nat):Int)) from by omega,show (((i-1:Nat):Int)<(x.length:Int)) from by omega,if_true]
   rcases Int.lt_or_le (x.getD (i-1) 0) (x.getD i 0) with hb | hb
   ·have d1:decide (x.getD (i-1) 0>=x.getD i 0)=false:=decide_eq_false (by omega)
    have d2:decide (x.getD (i-1) 0<x.getD i 0)=true:=decide_eq_true hb
    simp only [d1,d2]
    simp [h0,show i≠0 by omega]
   ·have d1:decide (x.getD (i-1) 0>=x.getD i 0)=true:=decide_eq_true (by omega)
    have d2:decide (x.getD (i-1) 0<x.getD i 0)=false:=decide_eq_false (by omega)
    simp only [d1,d2]
    simp [h0,show i≠0 by omega]
  ·have:i=0:=by omega
   subst this
   simp)) 0 (by omega)
 simpa using this)
theorem Nq (x:List Int) (h:x.length<=maxLen):Hl x 1 6=some (Fq x 0 x.length):=e_ (by
 have hm:x.length<=9223372036854775807:=h
 unfold SK
 have:=HR (n:=x.length) (P:=fun i=>D2 x 1 6 x (x.length:Int) (i:Int)=some (Fq x i (x.length-i))) (Ni (by
  unfold IY
  rw [if_neg (by simp),Nat.sub_self]
  rfl)) (fun i hi ih=>Ni (by
  unfold IY
  have e:x.length-i=(x.length-(i+1))+1:=by omega
  simp only [show ((i:Int)<(x.length:Int)) from by omega,decide_true,if_true,show (0:Int)<=(i:Int) from by omega,Al,AW (show i<9223372036854775807 by omega),ih,BH,AC]
  rw [e,Fq]
  generalize (decide (1<=x.getD i 0)&&decide (x.getD i 0<=6))=a
  cases a
  ·simp
  by_cases h0:0<i
  ·rw [bA (by omega) h0]
   simp only [Al,show ((0:Int)<=((i-1:Nat):Int)) from by omega,show (((i-1:Nat):Int)<(x.length:Int)) from by omega,if_true]
   rcases Int.lt_or_le (x.getD (i-1) 0) (x.getD i 0) with hb | hb
   ·have d1:decide (x.getD i 0<=x.getD (i-1) 0)=false:=decide_eq_false (by omega)
    have d2:decide (x.getD (i-1) 0<x.getD i 0)=true:=decide_eq_true hb
    simp only [d1,d2]
    simp [h0,show i≠0 by omega]
   ·have d1:decide (x.getD i 0<=x.getD (i-1) 0)=true:=decide_eq_true (by omega)
    have d2:decide (x.getD (i-1) 0<x.getD i 0)=false:=decide_eq_false (by omega)
    simp only [d1,d2]
    simp [h0,show i≠0 by omega]
  ·have:i=0:=by omega
   subst this
   simp)) 0 (by omega)
 simpa using this)
def KS (t:yw):Bool:=(t.1==0)&&(t.2.1==0)&&(t.2.2.1==0)&&MA (.pair .str (.pair .str (.int .i64))) t.2.2.2.1 (U,U,(0:Int))&&((t.2.2.2.2.length:Int)==0)
def Fs (t:yw) (serves:Bool):Bool:=(t.1==1||t.1==2)&&serves&&(decide (0<=t.2.1)&&decide (t.2.1<=1000))&&(decide (1<=t.2.2.1)&&decide (t.2.2.1<=900))
def WF (x:AF):Bool :=
 (decide (1<=x.1)&&decide (x.1<=6))&&(decide (1<=x.2.1)&&decide (x.2.1<=9))&&(!x.2.2.2.2.2.1||(x.2.2.2.1&&x.2.2.2.2.1&&!decide ((x.2.2.2.2.2.2.1.length:Int)>0)))&&(!x.2.2.1||(!x.2.2.2.1&&!x.2.2.2.2.1)) &&
  Fq x.2.2.2.2.2.2.1 0 x.2.2.2.2.2.2.1.length&&Fq x.2.2.2.2.2.2.2.2.2.2.2.2.2 0 x.2.2.2.2.2.2.2.2.2.2.2.2.2.length&&CJ x.2.2.2.2.2.2.2.1 0 x.2.2.2.2.2.2.2.1.length&&(decide (0<=x.2.2.2.2.2.2.2.2.1)&&decide (x.2.2.2.2.2.2.2.2.1<=900)) &&
  (KS x.2.2.2.2.2.2.2.2.2||Fs x.2.2.2.2.2.2.2.2.2 x.2.2.2.2.2.1)
theorem cB (t:yw):OD t=some (KS t):=mL (by
 unfold V0 KS
 generalize (t.1==0)=a
 generalize (t.2.1==0)=b
 generalize (t.2.2.1==0)=c
 generalize MA (.pair .str (.pair .str (.int .i64))) t.2.2.2.1 (U,U,(0:Int))=d
 cases a<;>cases b<;>cases c<;>cases d<;>simp)
theorem fH (x:AF) (h1:x.2.2.2.2.2.2.1.length<=maxLen) (h2:x.2.2.2.2.2.2.2.1.length<=maxLen) (h3:x.2.2.2.2.2.2.2.2.2.2.2.2.2.length<=maxLen):GI x=some (WF x):=oZ (by
 have w0:∀ b,D_ b x=some (KS x.2.2.2.2.2.2.2.2.2||Fs x.2.2.2.2.2.2.2.2.2 x.2.2.2.2.2.1):=fun b=>eY (by
  unfold SH Fs
  simp only [Bh,cB,AC]
  generalize KS x.2.2.2.2.2.2.2.2.2=a
  generalize (x.2.2.2.2.2.2.2.2.2.1==1)=b
  generalize (x.2.2.2.2.2.2.2.2.2.1==2)=c
  generalize x.2.2.2.2.2.1=d
  generalize (decide (0<=x.2.2.2.2.2.2.2.2.2.2.1)&&decide (x.2.2.2.2.2.2.2.2.2.2.1<=1000))=e
  generalize (decide (1<=x.2.2.2.2.2.2.2.2.2.2.2.1)&&decide (x.2.2.2.2.2.2.2.2.2.2.2.1<=900))=f
  cases a<;>cases b<;>cases c<;>cases d<;>cases e<;>simp)
 unfold YG WF
 simp only [Bh,WE _ h1,WE _ h3,Iu _ h2,AC,w0]
 generalize (decide (1<=x.1)&&decide (x.1<=6))=a
 generalize (decide (1<=x.2.1)&&decide (x.2.1<=9))=b
 generalize decide ((x.2.2.2.2.2.2.1.length:Int)>0)=c
 generalize Fq x.2.2.2.2.2.2.1 0 x.2.2.2.2.2.2.1.length=d
 generalize Fq x.2.2.2.2.2.2.2.2.2.2.2.2.2 0 x.2.2.2.2.2.2.2.2.2.2.2.2.2.length=e
 generalize CJ x.2.2.2.2.2.2.2.1 0 x.2.2.2.2.2.2.2.1.length=f
 generalize (decide (0<=x.2.2.2.2.2.2.2.2.1)&&decide (x.2.2.2.2.2.2.2.2.1<=900))=g
 generalize (KS x.2.2.2.2.2.2.2.2.2||Fs x.2.2.2.2.2.2.2.2.2 x.2.2.2.2.2.1)=t
 generalize x.2.2.2.2.2.1=s
 generalize x.2.2.2.2.1=l
 generalize x.2.2.2.1=m
 generalize x.2.2.1=n
 cases a
 ·simp
 cases b
 ·simp
 cases d<;>cases e<;>cases f<;>cases g<;>cases s<;>cases n<;>cases m<;>cases l<;>cases c<;>simp)
theorem WG (x:AF) (h3:x.2.2.2.2.2.2.2.2.2.2.2.2.2.length<=maxLen):DN x=some (Fq x.2.2.2.2.2.2.2.2.2.2.2.2.2 0 x.2.2.2.2.2.2.2.2.2.2.2.2.2.length&&(KS x.2.2.2.2.2.2.2.2.2||Fs x.2.2.2.2.2.2.2.2.2 x.2.2.2.2.2.1),x):=aA (by
 unfold PJ KS Fs
 simp only [BH,Nq _ h3,AC]
 by_cases hk:x.2.2.2.2.2.2.2.2.2.1=0
 ·rw [if_pos (by simp [hk])]
  have k1:(x.2.2.2.2.2.2.2.2.2.1==1)=false:=by simp [hk]
  have k2:(x.2.2.2.2.2.2.2.2.2.1==2)=false:=by simp [hk]
  have k0:(x.2.2.2.2.2.2.2.2.2.1==0)=true:=by simp [hk]
  rw [k1,k2,k0]
  have hl:((x.2.2.2.2.2.2.2.2.2.2.2.2.2.length:Int)==0)=true->Fq x.2.2.2.2.2.2.2.2.2.2.2.2.2 0 x.2.2.2.2.2.2.2.2.2.2.2.2.2.length=true:=by
   intro h
   have:x.2.2.2.2.2.2.2.2.2.2.2.2.2.length=0:=by simpa using h
   rw [this]
   rfl
  generalize ((x.2.2.2.2.2.2.2.2.2.2.2.2.2.length:Int)==0)=l at hl
  generalize Fq x.2.2.2.2.2.2.2.2.2.2.2.2.2 0 x.2.2.2.2.2.2.2.2.2.2.2.2.2.length=u at hl
  generalize (x.2.2.2.2.2.2.2.2.2.2.1==0)=b
  generalize (x.2.2.2.2.2.2.2.2.2.2.2.1==0)=c
  generalize MA (.pair .str (.pair .str (.int .i64))) x.2.2.2.2.2.2.2.2.2.2.2.2.1 (U,U,(0:Int))=d
  cases b<;>cases c<;>cases d<;>cases l<;>cases u<;>simp at hl ⊢
 ·rw [if_neg (by simp [hk])]
  have k0:(x.2.2.2.2.2.2.2.2.2.1==0)=false:=by simp [hk]
  have k12:(decide (1<=x.2.2.2.2.2.2.2.2.2.1)&&decide (x.2.2.2.2.2.2.2.2.2.1<=2))=(x.2.2.2.2.2.2.2.2.2.1==1||x.2.2.2.2.2.2.2.2.2.1==2):=by
   rw [Bool.eq_iff_iff]
   simp
   omega
  rw [k12,k0]
  generalize (x.2.2.2.2.2.2.2.2.2.1==1||x.2.2.2.2.2.2.2.2.2.1==2)=k
  generalize Fq x.2.2.2.2.2.2.2.2.2.2.2.2.2 0 x.2.2.2.2.2.2.2.2.2.2.2.2.2.length=u
  generalize (decide (0<=x.2.2.2.2.2.2.2.2.2.2.1)&&decide (x.2.2.2.2.2.2.2.2.2.2.1<=1000))=e
  generalize (decide (1<=x.2.2.2.2.2.2.2.2.2.2.2.1)&&decide (x.2.2.2.2.2.2.2.2.2.2.2.1<=900))=f
  cases k<;>cases u<;>cases e<;>cases f<;>rcases Bool.eq_false_or_eq_true x.2.2.2.2.2.1 with hs | hs<;>simp [hs])
theorem fI (x:AF) (h1:x.2.2.2.2.2.2.1.length<=maxLen) (h2:x.2.2.2.2.2.2.2.1.length<=maxLen) (h3:x.2.2.2.2.2.2.2.2.2.2.2.2.2.length<=maxLen):GJ x=some (WF x):=oq (by
 have w0:∀ b,Ld b x=some ((!x.2.2.2.2.2.1||(x.2.2.2.1&&x.2.2.2.2.1&&!decide ((x.2.2.2.2.2.2.1.length:Int)>0)))&&(!x.2.2.1||(!x.2.2.2.1&&!x.2.2.2.2.1))&&(Fq x.2.2.2.2.2.2.2.2.2.2.2.2.2 0 x.2.2.2.2.2.2.2.2.2.2.2.2.2.length&&(KS x.2.2.2.2.2.2.2.2.2||Fs x.2.2.2.2.2.2.2.2.2 x.2.2.2.2.2.1))):=fun b=>eo (by
  unfold SI
  simp only [WG x h3,AC]
  generalize (Fq x.2.2.2.2.2.2.2.2.2.2.2.2.2 0 x.2.2.2.2.2.2.2.2.2.2.2.2.2.length&&(KS x.2.2.2.2.2.2.2.2.2||Fs x.2.2.2.2.2.2.2.2.2 x.2.2.2.2.2.1))=t
  generalize decide ((x.2.2.2.2.2.2.1.length:Int)>0)=c
  generalize x.2.2.2.2.2.1=s
  generalize x.2.2.2.2.1=l
  generalize x.2.2.2.1=m
  generalize x.2.2.1=n
  cases s<;>cases n<;>cases m<;>cases l<;>cases c<;>simp)
 unfold YK WF
 simp only [BH,HN,Nq _ h1,NG _ h2 PR,AC,w0]
 generalize (decide (1<=x.1)&&decide (x.1<=6))=a
 generalize (decide (1<=x.2.1)&&decide (x.2.1<=9))=b
 generalize Fq x.2.2.2.2.2.2.1 0 x.2.2.2.2.2.2.1.length=d
 generalize Fq x.2.2.2.2.2.2.2.2.2.2.2.2.2 0 x.2.2.2.2.2.2.2.2.2.2.2.2.2.length=e
 generalize CJ x.2.2.2.2.2.2.2.1 0 x.2.2.2.2.2.2.2.1.length=f
 generalize (decide (0<=x.2.2.2.2.2.2.2.2.1)&&decide (x.2.2.2.2.2.2.2.2.1<=900))=g
 generalize (KS x.2.2.2.2.2.2.2.2.2||Fs x.2.2.2.2.2.2.2.2.2 x.2.2.2.2.2.1)=t
 generalize (!x.2.2.2.2.2.1||(x.2.2.2.1&&x.2.2.2.2.1&&!decide ((x.2.2.2.2.2.2.1.length:Int)>0)))=p
 generalize (!x.2.2.1||(!x.2.2.2.1&&!x.2.2.2.2.1))=q
 cases a
 ·simp
 cases b
 ·simp
 cases d<;>cases e<;>cases f<;>cases g<;>cases p<;>cases q<;>simp)

abbrev Bc:Type:=Int×Int×Int×Int×Int×List (ByteArray×ByteArray×Int)
def WH (x:Bc):Bool :=
 (decide (1<=x.1)&&decide (x.1<=8))&&(decide (1<=x.2.1)&&decide (x.2.1<=6))&&(decide (1<=x.2.2.1)&&decide (x.2.2.1<=6))&&(decide (1<=x.2.2.2.1)&&decide (x.2.2.2.1<=9))&&(decide (0<=x.2.2.2.2.1)&&decide (x.2.2.2.2.1<=1000000000))&&CJ x.2.2.2.2.2 0 x.2.2.2.2.2.length &&
  (if x.1=2\/x.1=3 then true else if x.1=5 then ((x.2.2.2.2.2.length:Int)==1) else ((x.2.2.2.2.2.length:Int)==0))
theorem pH (x:Bc) (h:x.2.2.2.2.2.length<=maxLen):Wm x=some (WH x):=vN (by
 have w1:∀ a b,K7 a b x=some (if b=true then true else if a=5 then ((x.2.2.2.2.2.length:Int)==1) else ((x.2.2.2.2.2.length:Int)==0)):=fun a b=>og (by
  unfold YH
  by_cases h1:b=true<;>by_cases h2:a=5<;>simp [h1,h2])
 have w0:∀ b,Pw b x=some (if x.1=2\/x.1=3 then true else if x.1=5 then ((x.2.2.2.2.2.length:Int)==1) else ((x.2.2.2.2.2.length:Int)==0)):=fun b=>oh (by
  unfold YI
  by_cases h1:x.1=2<;>by_cases h2:x.1=3<;>simp [h1,h2,w1])
 unfold il WH
 simp only [Bh,Iu _ h,AC,w0]
 generalize (decide (1<=x.1)&&decide (x.1<=8))=a
 generalize (decide (1<=x.2.1)&&decide (x.2.1<=6))=b
 generalize (decide (1<=x.2.2.1)&&decide (x.2.2.1<=6))=c
 generalize (decide (1<=x.2.2.2.1)&&decide (x.2.2.2.1<=9))=d
 generalize (decide (0<=x.2.2.2.2.1)&&decide (x.2.2.2.2.1<=1000000000))=e
 generalize CJ x.2.2.2.2.2 0 x.2.2.2.2.2.length=f
 cases a<;>cases b<;>cases c<;>cases d<;>cases e<;>cases f<;>simp)
theorem pI (x:Bc) (h:x.2.2.2.2.2.length<=maxLen):Wn x=some (WH x):=vO (by
 have w1:∀ a b,K8 a b x=some (if b=true then true else if a=5 then ((x.2.2.2.2.2.length:Int)==1) else ((x.2.2.2.2.2.length:Int)==0)):=fun a b=>o8 (by
  unfold YM
  by_cases h1:b=true<;>by_cases h2:a=5<;>simp [h1,h2])
 have w0:∀ b,Px b x=some (if x.1=2\/x.1=3 then true else if x.1=5 then ((x.2.2.2.2.2.length:Int)==1) else ((x.2.2.2.2.2.length:Int)==0)):=fun b=>o9 (by
  unfold YN
  by_cases h1:x.1=2<;>by_cases h2:x.1=3<;>simp [h1,h2,w1])
 unfold iy WH
 simp only [BH,HN,NG _ h PR,AC,w0]
 generalize (decide (1<=x.1)&&decide (x.1<=8))=a
 generalize (decide (1<=x.2.1)&&decide (x.2.1<=6))=b
 generalize (decide (1<=x.2.2.1)&&decide (x.2.2.1<=6))=c
 generalize (decide (1<=x.2.2.2.1)&&decide (x.2.2.2.1<=9))=d
 generalize (decide (0<=x.2.2.2.2.1)&&decide (x.2.2.2.2.1<=1000000000))=e
 generalize CJ x.2.2.2.2.2 0 x.2.2.2.2.2.length=f
 cases a<;>cases b<;>cases c<;>cases d<;>cases e<;>cases f<;>simp)

abbrev Dt:Type:=Int×Int×Int×Ad
def asc (v:List Int):Prop:=(∀ a∈v,1<=a/\a<=6)/\v.Pairwise (· < ·)
theorem sL {v:List Int}:∀ (m i:Nat),i+m=v.length->(Fq v i m=true↔∀ a (ha:a<v.length),i<=a->(1<=v[a]/\v[a]<=6)/\(a≠0->v.getD (a-1) 0<v[a]))
 | 0,i,h=>by
  simp only [Fq,true_iff]
  intro a ha hi
  omega
 | m+1,i,h=>by
  have hi:i<v.length:=by omega
  rw [Fq,AE,AE,sL m (i+1) (by omega),Ac hi]
  simp only [Ec,AE,decide_eq_true_eq]
  constructor
  ·rintro ⟨⟨h1,h2⟩,h3⟩ a ha hia
   by_cases e:a=i
   ·subst e
    exact ⟨h1,fun h0=>h2.resolve_left h0⟩
   ·exact h3 a ha (by omega)
  ·intro h3
   refine ⟨⟨(h3 i hi (Nat.le_refl _)).1,?_⟩,fun a ha hia=>h3 a ha (by omega)⟩
   by_cases e:i=0
   ·exact .inl e
   ·exact .inr ((h3 i hi (Nat.le_refl _)).2 e)
theorem ACV {v:List Int}:Fq v 0 v.length=true↔asc v:=by
 rw [sL _ _ (by omega)]
 constructor
 ·intro h
  refine ⟨fun a ha=>?_,?_⟩
  ·obtain ⟨i,hi,rfl⟩:=DY ha
   exact (h i hi (Nat.zero_le _)).1
  ·have st:∀ d a (ha:a+d+1<v.length),v.getD a 0<v.getD (a+d+1) 0:=by
    intro d
    induction d with
    | zero =>
     intro a ha
     have:=(h (a+1) (by omega) (Nat.zero_le _)).2 (by omega)
     rw [Ac (show a+0+1<v.length from ha)]
     simpa using this
    | succ d ih =>
     intro a ha
     have h1:=ih a (by omega)
     have h2:=(h (a+(d+1)+1) ha (Nat.zero_le _)).2 (by omega)
     rw [Ac ha]
     simp only [Nat.add_sub_cancel] at h2
     have h3:v.getD (a+d+1) 0<v[a+(d+1)+1]:=h2
     omega
   rw [List.pairwise_iff_getElem]
   intro i j hi hj hij
   have:=st (j-i-1) i (by omega)
   rw [show i+(j-i-1)+1=j by omega,Ac hi,Ac hj] at this
   exact this
 ·rintro ⟨h1,h2⟩ a ha _
  refine ⟨h1 _ (Bk ha),fun h0=>?_⟩
  rw [Ac (show a-1<v.length by omega)]
  exact (List.pairwise_iff_getElem.1 h2) (a-1) a (by omega) ha (by omega)
theorem yx {v:List Int} (h:asc v):v.length<=6:=by
 have hs:v.Sublist [1,2,3,4,5,6]:=by
  have key:∀ (l:List Int) (n:Nat),n<=6->(∀ a∈l,(6-n:Int)<a/\a<=6)->l.Pairwise (· < ·)->l.length<=n:=by
   intro l
   induction l with
   | nil=>intro n _ _ _; simp
   | cons a l ih =>
    intro n hn hb hp
    have ha:=hb a (by simp)
    have hp2:=List.pairwise_cons.1 hp
    have:=ih ((6-a).toNat) (by omega) (fun b hb'=>⟨by have:=hp2.1 b hb'; omega,(hb b (by simp [hb'])).2⟩) hp2.2
    simp only [List.length_cons]
    omega
  have hl:=key v 6 (by omega) (fun a ha=>by have:=h.1 a ha; omega) h.2
  exact List.Sublist.trans (List.Sublist.refl v) (by
   have:∀ (l:List Int) (s:List Int),s.Pairwise (· < ·)->l.Pairwise (· < ·)->(∀ a∈l,a∈s)->l.Sublist s:=by
    intro l s
    induction s generalizing l with
    | nil =>
     intro _ _ hm
     cases l with
     | nil=>exact List.Sublist.slnil
     | cons a l=>exact absurd (hm a (by simp)) (by simp)
    | cons b s ih =>
     intro hs hl hm
     cases l with
     | nil=>exact List.nil_sublist _
     | cons a l =>
      have hs2:=List.pairwise_cons.1 hs
      have hl2:=List.pairwise_cons.1 hl
      rcases Ah.1 (hm a (by simp)) with e | e
      ·subst e
       refine (ih l hs2.2 hl2.2 fun c hc=>?_).cons_cons _
       rcases Ah.1 (hm c (by simp [hc])) with e | e
       ·have:=hl2.1 c hc; omega
       ·exact e
      ·refine (ih (a::l) hs2.2 hl fun c hc=>?_).cons _
       rcases Ah.1 (hm c hc) with e2 | e2
       ·have h1:=hs2.1 a e
        rcases Ah.1 hc with e3 | e3
        ·omega
        ·have:=hl2.1 c e3; omega
       ·exact e2
   refine this v [1,2,3,4,5,6] (by decide) h.2 fun a ha=>?_
   have:=h.1 a ha
   have h5:a=1\/a=2\/a=3\/a=4\/a=5\/a=6:=by omega
   rcases h5 with h | h | h | h | h | h<;>simp [h])
 simpa using hs.length_le
structure J_ (m:AF):Prop where
 id:1<=m.1/\m.1<=6
 ep:1<=m.2.1/\m.2.1<=9
 serves:m.2.2.2.2.2.1=true->m.2.2.2.1=true/\m.2.2.2.2.1=true/\m.2.2.2.2.2.2.1=[]
 fell:m.2.2.1=true->m.2.2.2.1=false/\m.2.2.2.2.1=false
 waits:asc m.2.2.2.2.2.2.1
 left:asc m.2.2.2.2.2.2.2.2.2.2.2.2.2
 items:Ba m.2.2.2.2.2.2.2.1=true
 count:0<=m.2.2.2.2.2.2.2.2.1/\m.2.2.2.2.2.2.2.2.1<=900
 task:KS m.2.2.2.2.2.2.2.2.2=true\/Fs m.2.2.2.2.2.2.2.2.2 m.2.2.2.2.2.1=true
theorem yy {m:AF}:WF m=true↔J_ m:=by
 unfold WF
 simp only [AE,Ec,Dw,decide_eq_true_eq,ACV,decide_eq_false_iff_not]
 constructor
 ·rintro ⟨⟨⟨⟨⟨⟨⟨⟨h1,h2⟩,h3⟩,h4⟩,h5⟩,h6⟩,h7⟩,h8⟩,h9⟩
  refine ⟨h1,h2,fun h=>?_,fun h=>?_,h5,h6,h7,h8,h9⟩
  ·rcases h3 with h3 | ⟨⟨a,b⟩,c⟩
   ·rw [h] at h3; cases h3
   ·exact ⟨a,b,C2.1 (by omega)⟩
  ·rcases h4 with h4 | h4
   ·rw [h] at h4; cases h4
   ·exact h4
 ·rintro ⟨h1,h2,h3,h4,h5,h6,h7,h8,h9⟩
  refine ⟨⟨⟨⟨⟨⟨⟨⟨h1,h2⟩,?_⟩,?_⟩,h5⟩,h6⟩,h7⟩,h8⟩,h9⟩
  ·cases hs:m.2.2.2.2.2.1 with
   | false=>exact .inl rfl
   | true =>
    obtain ⟨a,b,c⟩:=h3 hs
    exact .inr ⟨⟨a,b⟩,by rw [c]; simp⟩
  ·cases hs:m.2.2.1 with
   | false=>exact .inl rfl
   | true=>exact .inr (h4 hs)
theorem Jk {x:List Ad} (h:Ba x=true):x.length<=12:=(JD.1 h).2.2
theorem J_.lens {m:AF} (h:J_ m):m.2.2.2.2.2.2.1.length<=6/\m.2.2.2.2.2.2.2.1.length<=12/\m.2.2.2.2.2.2.2.2.2.2.2.2.2.length<=6:=⟨yx h.waits,Jk h.items,yx h.left⟩
theorem i_ (m:AF) (h1:m.2.2.2.2.2.2.1.length<=68719476736) (h2:m.2.2.2.2.2.2.2.1.length<=68719476736) (h3:m.2.2.2.2.2.2.2.2.2.2.2.2.2.length<=68719476736):DZ m=some m:=rU (by
 unfold Zp
 rw [if_pos (by simpa using h1),if_pos (by simpa using h2),if_pos (by simpa using h3)]
 rfl)
theorem J_.copy {m:AF} (h:J_ m):DZ m=some m:=by
 obtain ⟨h1,h2,h3⟩:=h.lens
 exact i_ m (by omega) (by omega) (by omega)
def HO (view:List Int) (id:Int):List Int:=[1,2,3,4,5,6].filter fun v=>v != id&&view.contains v
theorem Wz (view:List Int) (id:Int):asc (HO view id):=by
 refine ⟨fun a ha=>?_,List.Pairwise.filter _ (by decide)⟩
 have:=(List.mem_filter.1 ha).1
 simp at this
 omega
theorem KT (view:List Int) (id:Int) (h:view.length<=maxLen):HC view id=some (HO view id):=l9 (by
 unfold Vm
 have step:∀ (v:Nat) (acc r:List Int),v<=6->1<=v->acc.length<=6->CU view id ((v+1:Nat):Int) (if ((v:Int) != id&&view.contains (v:Int))=true then acc++[(v:Int)] else acc)=some r->CU view id (v:Int) acc=some r:=by
  intro v acc r hv hv1 ha hr
  refine Qg ?_
  unfold KQ
  rw [if_pos (by simp; omega),AW (show v<9223372036854775807 by omega),Em view _ h]
  by_cases h1:((v:Int) != id)=true
  ·rw [if_pos h1,AC]
   by_cases h2:view.contains (v:Int)=true
   ·rw [if_pos h2,if_pos (by simp; omega)]
    rw [if_pos (by rw [h1,h2]; rfl)] at hr
    exact hr
   ·rw [if_neg h2]
    rw [if_neg (fun hc=>h2 (by simp only [AE] at hc; exact hc.2))] at hr
    exact hr
  ·rw [if_neg h1]
   rw [if_neg (fun hc=>h1 (by simp only [AE] at hc; exact hc.1))] at hr
   exact hr
 have fin:∀ acc,CU view id ((7:Nat):Int) acc=some acc:=fun acc=>Qg (by
  unfold KQ
  rw [if_neg (by decide)])
 have g:∀ (acc:List Int) (v:Int),(if (v != id&&view.contains v)=true then acc++[v] else acc).length<=acc.length+1:=by
  intro acc v; split<;>simp
 refine step 1 [] _ (by omega) (by omega) (by simp) ?_
 refine step 2 _ _ (by omega) (by omega) (by have:=g [] ((1:Nat):Int); simp only [List.length_nil] at this; omega) ?_
 have l2:=g [] ((1:Nat):Int)
 generalize e1:(if (((1:Nat):Int) != id&&view.contains ((1:Nat):Int))=true then ([]:List Int)++[((1:Nat):Int)] else [])=a1 at l2 ⊢
 have l3:=g a1 ((2:Nat):Int)
 generalize e2:(if (((2:Nat):Int) != id&&view.contains ((2:Nat):Int))=true then a1++[((2:Nat):Int)] else a1)=a2 at l3 ⊢
 have l4:=g a2 ((3:Nat):Int)
 simp only [List.length_nil] at l2
 refine step 3 _ _ (by omega) (by omega) (by omega) ?_
 generalize e3:(if (((3:Nat):Int) != id&&view.contains ((3:Nat):Int))=true then a2++[((3:Nat):Int)] else a2)=a3 at l4 ⊢
 have l5:=g a3 ((4:Nat):Int)
 refine step 4 _ _ (by omega) (by omega) (by omega) ?_
 generalize e4:(if (((4:Nat):Int) != id&&view.contains ((4:Nat):Int))=true then a3++[((4:Nat):Int)] else a3)=a4 at l5 ⊢
 have l6:=g a4 ((5:Nat):Int)
 refine step 5 _ _ (by omega) (by omega) (by omega) ?_
 generalize e5:(if (((5:Nat):Int) != id&&view.contains ((5:Nat):Int))=true then a4++[((5:Nat):Int)] else a4)=a5 at l6 ⊢
 refine step 6 _ _ (by omega) (by omega) (by omega) ?_
 rw [fin]
 congr 1
 unfold HO
 have fl:∀ (p:Int->Bool) (v:Int) (l:List Int),(v::l).filter p=(if p v=true then [v] else [])++l.filter p:=by
  intro p v l; rw [List.filter_cons]; split<;>simp
 have ap:∀ (c:Bool) (a:List Int) (v:Int),(if c=true then a++[v] else a)=a++(if c=true then [v] else []):=by
  intro c a v; split<;>simp
 rw [ap,<- e5,ap,<- e4,ap,<- e3,ap,<- e2,ap,<- e1,ap]
 simp only [fl,List.filter_nil,List.append_nil,List.nil_append,BW]
 rfl)
theorem sM {v:List Int} (h:asc v) (p:Int->Bool):asc (v.filter p):=⟨fun a ha=>h.1 a (List.mem_filter.1 ha).1,h.2.filter p⟩
theorem PS (v:List Int) (x:Int) (h:v.length<=68719476736):If v x=some (v.filter (· != x)):=iu (by
 unfold T2
 have key:=HR (n:=v.length) (P:=fun i=>∀ acc:List Int,acc.length<=i->EX v x (i:Int) acc=some (acc++(v.drop i).filter (· != x))) (fun acc ha=>PI (by
  unfold I9
  rw [if_neg (by simp)]
  simp)) (fun i hi ih acc ha=>PI (by
  unfold I9
  simp only [show ((i:Int)<(v.length:Int)) from by omega,decide_true,if_true,show (0:Int)<=(i:Int) from by omega,Al,Ac hi,AW (show i<9223372036854775807 by omega)]
  rw [Bu hi,List.filter_cons]
  by_cases hh:(v[i] != x)=true
  ·rw [if_pos hh,if_pos (by simp; omega),ih _ (by simp; omega),if_pos hh,BW]
   rfl
  ·rw [if_neg hh,ih _ (by omega),if_neg hh])) 0 (by omega) [] (by simp)
 simpa using key)

def CV (view:List Int) (id:Int):List Int:=view.filter (· != id)
def WI (m:AF) (view:List Int) (its:List Ad):AF :=
 (m.1,m.2.1,m.2.2.1,true,m.2.2.2.2.1,(((HO view m.1).length:Int)==0),HO view m.1,its,m.2.2.2.2.2.2.2.2)
def WJ (m:AF) (e:Int):AF :=
 (m.1,e,false,false,false,false,([]:List Int),m.2.2.2.2.2.2.2.1,(0:Int),(0:Int),(0:Int),(0:Int),(U,U,(0:Int)),([]:List Int))
def En (m:AF) (x:Bc) (k:Int):List Bc:=[(k,m.1,x.2.1,x.2.2.2.1,x.2.2.2.2.1,([]:List Ad))]
def WK (m:AF) (its:List Ad):AF :=
 (m.1,m.2.1,m.2.2.1,m.2.2.2.1,m.2.2.2.2.1,m.2.2.2.2.2.1,m.2.2.2.2.2.2.1,its,m.2.2.2.2.2.2.2.2.1,(0:Int),(0:Int),(0:Int),(U,U,(0:Int)),([]:List Int))
def F6 (m:AF):List Dt×AF :=
 if (m.2.2.2.2.2.2.2.2.2.1==1)=true then ([(m.2.2.2.2.2.2.2.2.2.2.1,m.2.1,m.2.2.2.2.2.2.2.2.2.2.2.1,m.2.2.2.2.2.2.2.2.2.2.2.2.1)],WK m (Dz m.2.2.2.2.2.2.2.1 m.2.2.2.2.2.2.2.2.2.2.2.2.1))
 else ([(m.2.2.2.2.2.2.2.2.2.2.1,m.2.1,m.2.2.2.2.2.2.2.2.2.2.2.1,Df m.2.2.2.2.2.2.2.1 m.2.2.2.2.2.2.2.2.2.2.2.2.1.1)],WK m m.2.2.2.2.2.2.2.1)
theorem WL (view:List Int) (its:List Ad) (m:AF) (h:view.length<=68719476736) (hi:its.length<=68719476736) :
  Of view its m=some ((CV view m.1).map (fun v=>(3,m.1,v,m.2.1,0,its)),WI m view its):=tU (by
 unfold ca
 rw [if_pos (by simpa using hi),KT view _ (by unfold maxLen; omega),AC]
 have key:=HR (n:=view.length) (P:=fun i=>∀ acc:List Bc,acc.length<=i->HG view its (i:Int) (WI m view its) acc ([]++its)=some (acc++((view.drop i).filter (· != m.1)).map (fun v=>((3:Int),m.1,v,m.2.1,(0:Int),its)),WI m view its)) (fun acc ha=>Vo (by
  unfold OK
  rw [if_neg (by simp)]
  simp)) (fun i hi2 ih acc ha=>Vo (by
  unfold OK
  simp only [show ((i:Int)<(view.length:Int)) from by omega,decide_true,if_true,show (0:Int)<=(i:Int) from by omega,Al,Ac hi2,AW (show i<9223372036854775807 by omega)]
  rw [show (WI m view its).1=m.1 from rfl,show (WI m view its).2.1=m.2.1 from rfl,Bu hi2,List.filter_cons]
  by_cases hh:(view[i] != m.1)=true
  ·rw [if_pos hh,if_pos (by simpa using hi),if_pos (by simp; omega),ih _ (by simp; omega),if_pos hh,List.map_cons,BW]
   rfl
  ·rw [if_neg hh,ih _ (by omega),if_neg hh])) 0 (by omega) [] (by simp)
 exact key)
theorem UB (m:AF) (e:Int) (h:m.2.2.2.2.2.2.2.1.length<=68719476736):Ml m e=some (WJ m e):=ru (by
 unfold Z3
 rw [if_pos (by simpa using h)]
 rfl)
theorem H6 (m:AF) (x:Bc) (k:Int):Eh m x k=some (En m x k):=om rfl
theorem KU (m:AF) (h:m.2.2.2.2.2.2.2.1.length<=34359738367):HD m=some (F6 m):=l_ (by
 unfold Vn F6
 rw [NI _ _ h,V_ _ _ (by unfold maxLen; omega)]
 split<;>rfl)
def xF (m:AF) (f:Int):AF :=
 (m.1,m.2.1,m.2.2.1,m.2.2.2.1,m.2.2.2.2.1,m.2.2.2.2.2.1,m.2.2.2.2.2.2.1,m.2.2.2.2.2.2.2.1,m.2.2.2.2.2.2.2.2.1,m.2.2.2.2.2.2.2.2.2.1,m.2.2.2.2.2.2.2.2.2.2.1,m.2.2.2.2.2.2.2.2.2.2.2.1,m.2.2.2.2.2.2.2.2.2.2.2.2.1,m.2.2.2.2.2.2.2.2.2.2.2.2.2.filter (· != f))
def G3 (m:AF) (f:Int):AF×List Bc×List Dt :=
 if (((m.2.2.2.2.2.2.2.2.2.2.2.2.2.filter (· != f)).length:Int)==0)=true then ((F6 (xF m f)).2,[],(F6 (xF m f)).1) else (xF m f,[],[])
def fJ (m:AF) (view:List Int) (x:Bc):AF×List Bc×List Dt :=
 if x.1=2 then (if (m.2.2.2.2.1&&!m.2.2.2.1)=true then (WI m view x.2.2.2.2.2,(CV view m.1).map (fun v=>(3,m.1,v,m.2.1,0,x.2.2.2.2.2)),[]) else (m,[],[]))
 else if x.1=3 then (if (!view.contains m.1||(view.getD 0 0==m.1))=true then (m,[],[]) else if (!m.2.2.2.1&&m.2.2.1)=true then (m,[],[])
  else if m.2.2.2.1=true then (m,En m x 4,[]) else
   ((m.1,m.2.1,false,true,false,false,([]:List Int),x.2.2.2.2.2,(0:Int),(0:Int),(0:Int),(0:Int),(U,U,(0:Int)),([]:List Int)),En m x 4,[]))
 else if x.1=4 then (if m.2.2.2.2.1=true then
   ((m.1,m.2.1,m.2.2.1,m.2.2.2.1,m.2.2.2.2.1,m.2.2.2.1&&(((m.2.2.2.2.2.2.1.filter (· != x.2.1)).length:Int)==0),m.2.2.2.2.2.2.1.filter (· != x.2.1),m.2.2.2.2.2.2.2),[],[]) else (m,[],[]))
 else if x.1=5 then (if m.2.2.2.1=true then
   ((m.1,m.2.1,m.2.2.1,m.2.2.2.1,m.2.2.2.2.1,m.2.2.2.2.2.1,m.2.2.2.2.2.2.1,Dz m.2.2.2.2.2.2.2.1 (x.2.2.2.2.2.getD 0 (U,U,(0:Int))),m.2.2.2.2.2.2.2.2),En m x 6,[]) else (m,[],[]))
 else if x.1=7 then (if m.2.2.2.1=true then (m,En m x 8,[]) else (m,[],[]))
 else if (x.1=6\/x.1=8)/\m.2.2.2.2.2.2.2.2.2.1=(if x.1=8 then 2 else 1)/\m.2.2.2.2.2.2.2.2.2.2.2.1=x.2.2.2.2.1 then
  (G3 m x.2.1)
 else (m,[],[])
theorem mY (m:AF) (view:List Int) (x:Bc) (hm:J_ m) (hv:view.length<=68719476736) (hv0:0<view.length) (hx:x.2.2.2.2.2.length<=68719476736) (h5:x.1=5->0<x.2.2.2.2.2.length) :
  UR m view x=some (fJ m view x):=tV (by
 obtain ⟨l1,l2,l3⟩:=hm.lens
 unfold cc
 rw [hm.copy,AC]
 unfold fJ
 by_cases k2:x.1=2
 ·rw [if_pos (by simpa using k2),if_pos k2]
  have J:∀ b y,Jf view [] [] b m x y m=some (if b=true then (WI m view x.2.2.2.2.2,(CV view m.1).map (fun v=>(3,m.1,v,m.2.1,0,x.2.2.2.2.2)),[]) else (m,[],[])):=fun b y=>mB (by
   unfold Vp
   cases b
   ·rfl
   ·rw [if_pos rfl,WL view _ m hv hx]
    rfl)
  rw [J,J]
  cases m.2.2.2.2.1<;>cases m.2.2.2.1<;>rfl
 ·rw [if_neg (by simpa using k2),if_neg k2]
  by_cases k3:x.1=3
  ·rw [if_pos (by simpa using k3),if_pos k3,Em view _ (by unfold maxLen; omega),AC]
   have J2:∀ b y,Jg [] [] b m x y m=some (if m.2.2.2.1=true then (m,En m x 4,[]) else
     ((m.1,m.2.1,false,true,false,false,([]:List Int),x.2.2.2.2.2,(0:Int),(0:Int),(0:Int),(0:Int),(U,U,(0:Int)),([]:List Int)),En m x 4,[])):=fun b y=>mC (by
    unfold Vq
    rw [UB m _ (by omega),H6,AC,AC]
    have hx':([]:List Ad).length+x.2.2.2.2.2.length<=68719476736:=by simpa using hx
    cases m.2.2.2.1
    ·rw [if_pos (show (!false)=true from rfl),if_pos hx']; rfl
    ·rfl)
   have J1:∀ b y,OL [] [] b m x y m=some (if (!m.2.2.2.1&&m.2.2.1)=true then (m,[],[]) else if m.2.2.2.1=true then (m,En m x 4,[]) else
     ((m.1,m.2.1,false,true,false,false,([]:List Int),x.2.2.2.2.2,(0:Int),(0:Int),(0:Int),(0:Int),(U,U,(0:Int)),([]:List Int)),En m x 4,[])):=fun b y=>mD (by
    unfold Vr
    rw [J2,J2]
    cases m.2.2.2.1<;>cases m.2.2.1<;>rfl)
   rw [show view.getD (0:Int).toNat 0=view.getD 0 0 from rfl]
   cases view.contains m.1
   ·rfl
   ·rw [if_neg (by simp),if_pos (by omega),if_pos (by omega),J1]
    cases (view.getD 0 0==m.1)<;>rfl
  ·rw [if_neg (by simpa using k3),if_neg k3]
   by_cases k4:x.1=4
   ·rw [if_pos (by simpa using k4),if_pos k4,PS _ _ (by omega),AC]
    cases m.2.2.2.2.1<;>cases m.2.2.2.1<;>rfl
   ·rw [if_neg (by simpa using k4),if_neg k4]
    by_cases k5:x.1=5
    ·have:=h5 k5
     rw [if_pos (by simpa using k5),if_pos k5,NI _ _ (by omega),AC,H6,AC,show x.2.2.2.2.2.getD (0:Int).toNat (U,U,(0:Int))=x.2.2.2.2.2.getD 0 (U,U,(0:Int)) from rfl]
     cases m.2.2.2.1
     ·rfl
     ·rw [if_pos rfl,if_pos rfl,if_pos (by omega),if_pos (by omega)]
    ·rw [if_neg (by simpa using k5),if_neg k5]
     by_cases k7:x.1=7
     ·rw [if_pos (by simpa using k7),if_pos k7,H6,AC]
      cases m.2.2.2.1<;>rfl
     ·rw [if_neg (by simpa using k7),if_neg k7]
      have J5:∀ b y,OM [] [] b m x y m=some (G3 m x.2.1):=fun b y=>mE (by
       unfold Vs
       rw [PS _ _ (by omega),AC,KU _ (by simp only; omega),AC]
       unfold G3
       split<;>rfl)
      have J4:∀ op y,Jh [] [] op m x y m=some (if m.2.2.2.2.2.2.2.2.2.1=op/\m.2.2.2.2.2.2.2.2.2.2.2.1=x.2.2.2.2.1 then (G3 m x.2.1) else (m,[],[])):=fun op y=>mF (by
       unfold Vt
       rw [J5]
       by_cases h1:m.2.2.2.2.2.2.2.2.2.1=op
       ·rw [if_pos (by simp [h1])]
        by_cases h2:m.2.2.2.2.2.2.2.2.2.2.2.1=x.2.2.2.2.1
        ·rw [if_neg (by simp [h2]),if_pos (show _/\_ from ⟨h1,h2⟩)]
        ·rw [if_pos (by simp [h2]),if_neg (show ¬(_/\_) from fun h=>h2 h.2)]
       ·rw [if_neg (by simp [h1]),if_neg (fun h=>h1 h.1)])
      have J3:∀ b y,Ji [] [] b m x y m=some (if b=true/\m.2.2.2.2.2.2.2.2.2.1=(if x.1=8 then 2 else 1)/\m.2.2.2.2.2.2.2.2.2.2.2.1=x.2.2.2.2.1 then (G3 m x.2.1) else (m,[],[])):=fun b y=>mG (by
       unfold Vu
       rw [J4,J4]
       cases b
       ·rw [if_neg (by simp),if_neg (by simp)]
       ·rw [if_pos rfl]
        by_cases k8:x.1=8
        ·simp only [k8,beq_self_eq_true,if_true,true_and]
        ·rw [if_neg (by simpa using k8)]
         simp only [k8,if_false,true_and])
      rw [J3,J3]
      by_cases k6:x.1=6
      ·simp only [k6,beq_self_eq_true,if_true,true_and,true_or]
      ·rw [if_neg (by simpa using k6)]
       simp only [k6,false_or,beq_iff_eq])
structure WP (views:List (List Int)):Prop where
 ok:DQ views views.length views=true
theorem Oi {n:Nat}:∀ {l:List (List Int)} {x:List (List Int)},DQ x n l=true↔(∀ v∈l,Wy v=true)/\1<=n/\n<=9
 | [],x=>by simp [DQ]; omega
 | v::l,x=>by
  rw [DQ,AE,Oi]
  simp [and_assoc]
theorem WP.len {views:List (List Int)} (h:WP views):1<=views.length/\views.length<=9:=(Oi.1 h.ok).2
theorem WP.view {views:List (List Int)} (h:WP views) {v:List Int} (hv:v∈views):1<=v.length/\v.length<=4:=by
 have:=(Oi.1 h.ok).1 v hv
 unfold Wy at this
 simp only [AE,decide_eq_true_eq] at this
 omega
theorem WP.get {views:List (List Int)} (h:WP views) {i:Nat} (hi:i<views.length):1<=(views.getD i []).length/\(views.getD i []).length<=4:=by
 rw [Ac hi]
 exact h.view (Bk hi)
theorem Ge {views:List (List Int)} (h:WP views):EV views=some true:=by
 rw [T_ views (by have:=h.len; unfold maxLen; omega) (fun a ha=>by have:=h.view ha; unfold maxLen; omega),h.ok]
theorem Le {m:AF} (h:J_ m):GI m=some true:=by
 obtain ⟨h1,h2,h3⟩:=h.lens
 rw [fH m (by unfold maxLen; omega) (by unfold maxLen; omega) (by unfold maxLen; omega),yy.2 h]
def EY (m:AF) (views:List (List Int)) (x:Bc):AF×List Bc×List Dt :=
 if (WH x&&(x.2.2.1==m.1)&&decide (m.2.1<=x.2.2.2.1)&&decide (x.2.2.2.1<=(views.length:Int)))=true then
  if x.2.2.2.1=m.2.1 then fJ m (views.getD (m.2.1-1).toNat []) x
  else if (x.1==1&&(x.2.2.2.1==m.2.1+1)&&m.2.2.2.1&&(views.getD (m.2.1-1).toNat []).contains m.1)=true then (WJ m x.2.2.2.1,[(2,m.1,x.2.1,x.2.2.2.1,0,m.2.2.2.2.2.2.2.1)],[])
  else if (x.1==3&&(views.getD (x.2.2.2.1-1).toNat []).contains m.1&&((views.getD (x.2.2.2.1-1).toNat []).getD 0 0 != m.1))=true then
   ((m.1,x.2.2.2.1,false,true,false,false,([]:List Int),x.2.2.2.2.2,(0:Int),(0:Int),(0:Int),(0:Int),(U,U,(0:Int)),([]:List Int)),En m x 4,[])
  else (m,[],[])
 else (m,[],[])
theorem ACW {x:Bc} (h:WH x=true):x.2.2.2.2.2.length<=12/\(x.1=5->x.2.2.2.2.2.length=1):=by
 unfold WH at h
 simp only [AE] at h
 refine ⟨Jk (x:=x.2.2.2.2.2) h.1.2,fun h5=>?_⟩
 have:=h.2
 rw [if_neg (by omega),if_pos h5] at this
 simp only [beq_iff_eq] at this
 omega
theorem jA (m:AF) (views:List (List Int)) (x:Bc) (hm:J_ m) (hv:WP views) (hx:x.2.2.2.2.2.length<=68719476736) :
  Rt m views x=some (EY m views x):=rl (by
 have hvl:=hv.len
 have hep:=hm.ep
 unfold Zy EY
 rw [hm.copy,AC,Le hm,AC,if_pos (by rfl),Ge hv,AC,if_pos (by rfl),pH x (by unfold maxLen; omega),AC]
 cases hmo:WH x with
 | false=>rfl
 | true =>
  obtain ⟨xl,x5⟩:=ACW hmo
  rw [if_pos (by rfl)]
  by_cases h1:x.2.2.1=m.1
  ·rw [if_pos (by simp [h1])]
   by_cases h2:x.2.2.2.1<m.2.1
   ·rw [if_neg (by simpa using h2),if_neg (by simp; omega)]
   ·rw [if_pos (by simpa using h2)]
    by_cases h3:x.2.2.2.1>(views.length:Int)
    ·rw [if_neg (by simpa using h3),if_neg (by simp; omega)]
    ·rw [if_pos (by simpa using h3),if_neg (by simp; omega),if_pos (by simp [h1]; omega)]
     have wm:IntKind.i64.wrap (m.2.1-1)=m.2.1-1:=AN (by omega)
     have wp:IntKind.i64.wrap (m.2.1+1)=m.2.1+1:=AN (by omega)
     have wx:IntKind.i64.wrap (x.2.2.2.1-1)=x.2.2.2.1-1:=AN (by omega)
     have g1:=hv.get (i:=(m.2.1-1).toNat) (by omega)
     have g2:=hv.get (i:=(x.2.2.2.1-1).toNat) (by omega)
     have J3:∀ b y,GZ [] [] b m x y m=some (if b=true then ((m.1,x.2.2.2.1,false,true,false,false,([]:List Int),x.2.2.2.2.2,(0:Int),(0:Int),(0:Int),(0:Int),(U,U,(0:Int)),([]:List Int)),En m x 4,[]) else (m,[],[])):=fun b y=>iS (by
      unfold To
      cases b
      ·rfl
      ·rw [if_pos rfl,if_pos (by simpa using hx),H6]
       rfl)
     have J2:∀ b y,M3 views [] [] b m x y m=some (if (x.1==3&&(views.getD (x.2.2.2.1-1).toNat []).contains m.1&&((views.getD (x.2.2.2.1-1).toNat []).getD 0 0 != m.1))=true then
       ((m.1,x.2.2.2.1,false,true,false,false,([]:List Int),x.2.2.2.2.2,(0:Int),(0:Int),(0:Int),(0:Int),(U,U,(0:Int)),([]:List Int)),En m x 4,[]) else (m,[],[])):=fun b y=>iT (by
      unfold Tp
      rw [wx,if_pos (by omega),if_pos (by omega),Em _ _ (by unfold maxLen; omega),AC,show (views.getD (x.2.2.2.1-1).toNat ([]:List Int)).getD (0:Int).toNat 0=(views.getD (x.2.2.2.1-1).toNat []).getD 0 0 from rfl]
      simp only [J3]
      rw [if_pos (show (0:Int)<=0 by omega),if_pos (show (0:Int)<((views.getD (x.2.2.2.1-1).toNat ([]:List Int)).length:Int) by omega)]
      cases (x.1==3)<;>cases (views.getD (x.2.2.2.1-1).toNat ([]:List Int)).contains m.1<;>rfl)
     have J1:∀ b y,Ed views [] [] b m x y m=some (if b=true then (WJ m x.2.2.2.1,[(2,m.1,x.2.1,x.2.2.2.1,0,m.2.2.2.2.2.2.2.1)],[]) else
       if (x.1==3&&(views.getD (x.2.2.2.1-1).toNat []).contains m.1&&((views.getD (x.2.2.2.1-1).toNat []).getD 0 0 != m.1))=true then
       ((m.1,x.2.2.2.1,false,true,false,false,([]:List Int),x.2.2.2.2.2,(0:Int),(0:Int),(0:Int),(0:Int),(U,U,(0:Int)),([]:List Int)),En m x 4,[]) else (m,[],[])):=fun b y=>iU (by
      unfold Tq
      have hl:([]:List Ad).length+m.2.2.2.2.2.2.2.1.length<=68719476736:=by have:=hm.lens; simp; omega
      rw [J2,UB m _ (by have:=hm.lens; omega),AC,if_pos hl]
      cases b<;>rfl)
     refine iV ?_
     unfold Tr
     rw [wm,wp]
     by_cases h4:x.2.2.2.1=m.2.1
     ·rw [if_pos (by simpa using h4),if_pos (by omega),if_pos (by omega),if_pos h4,mY m _ x hm (by omega) (by omega) hx (fun h=>by have:=x5 h; omega)]
      rfl
     ·rw [if_neg (by simpa using h4),if_neg h4,Em _ _ (by unfold maxLen; omega),AC]
      simp only [J1]
      rw [if_pos (show (0:Int)<=m.2.1-1 by omega),if_pos (show m.2.1-1<(views.length:Int) by omega)]
      cases (x.1==1)<;>cases (x.2.2.2.1==m.2.1+1)<;>cases m.2.2.2.1<;>cases (views.getD (m.2.1-1).toNat ([]:List Int)).contains m.1<;>rfl
  ·rw [if_neg (by simp [h1]),if_neg (by simp [h1])])

theorem ci {v:List Int}:∀ (m i:Nat),i+m=v.length->(IL v i m=true↔∀ a (ha:a<v.length),i<=a->(1<=v[a]/\v[a]<=6)/\v[a]∉v.take a)
 | 0,i,h=>by
  simp only [IL,true_iff]
  intro a ha hi
  omega
 | m+1,i,h=>by
  have hi:i<v.length:=by omega
  rw [IL,AE,AE,ci m (i+1) (by omega),Ac hi]
  simp only [AE,decide_eq_true_eq,Dw,List.contains_eq_mem,decide_eq_false_iff_not]
  constructor
  ·rintro ⟨⟨h1,h2⟩,h3⟩ a ha hia
   by_cases e:a=i
   ·subst e
    exact ⟨h1,h2⟩
   ·exact h3 a ha (by omega)
  ·intro h3
   exact ⟨⟨(h3 i hi (Nat.le_refl _)).1,(h3 i hi (Nat.le_refl _)).2⟩,fun a ha hia=>h3 a ha (by omega)⟩
structure WOk (v:List Int):Prop where
 len:1<=v.length/\v.length<=4
 mem:∀ a∈v,1<=a/\a<=6
 nd:v.Nodup
theorem ACX {v:List Int}:Wy v=true↔WOk v:=by
 unfold Wy
 simp only [AE,decide_eq_true_eq]
 rw [ci _ _ (by omega)]
 constructor
 ·rintro ⟨h1,h2⟩
  refine ⟨by omega,fun a ha=>?_,?_⟩
  ·obtain ⟨i,hi,rfl⟩:=DY ha
   exact (h2 i hi (Nat.zero_le _)).1
  ·rw [List.nodup_iff_pairwise_ne,List.pairwise_iff_getElem]
   intro i j hi hj hij e
   have:=(h2 j hj (Nat.zero_le _)).2
   apply this
   rw [<- e]
   exact List.mem_iff_getElem.2 ⟨i,by rw [List.length_take]; omega,by rw [List.getElem_take]⟩
 ·rintro ⟨h1,h2,h3⟩
  refine ⟨by omega,fun a ha _=>⟨h2 _ (Bk ha),fun hm=>?_⟩⟩
  obtain ⟨i,hi,e⟩:=DY hm
  rw [List.length_take] at hi
  rw [List.getElem_take] at e
  have:=(List.getElem_inj h3).1 e
  omega
theorem WP.wok {views:List (List Int)} (h:WP views) {i:Nat} (hi:i<views.length):WOk (views.getD i []):=by
 rw [Ac hi]
 exact ACX.1 ((Oi.1 h.ok).1 _ (Bk hi))
structure XOk (x:Bc):Prop where
 kind:1<=x.1/\x.1<=8
 frm:1<=x.2.1/\x.2.1<=6
 to:1<=x.2.2.1/\x.2.2.1<=6
 ep:1<=x.2.2.2.1/\x.2.2.2.1<=9
 num:0<=x.2.2.2.2.1/\x.2.2.2.2.1<=1000000000
 items:Ba x.2.2.2.2.2=true
 shape:if x.1=2\/x.1=3 then True else if x.1=5 then x.2.2.2.2.2.length=1 else x.2.2.2.2.2=[]
theorem bC {x:Bc}:WH x=true↔XOk x:=by
 unfold WH
 simp only [AE,decide_eq_true_eq]
 constructor
 ·rintro ⟨⟨⟨⟨⟨⟨h1,h2⟩,h3⟩,h4⟩,h5⟩,h6⟩,h7⟩
  refine ⟨h1,h2,h3,h4,h5,h6,?_⟩
  split at h7
  ·rename_i e; rw [if_pos e]; trivial
  ·rename_i e
   rw [if_neg e]
   split at h7
   ·rename_i e2; rw [if_pos e2]; simp only [beq_iff_eq] at h7; omega
   ·rename_i e2; rw [if_neg e2]; simp only [beq_iff_eq] at h7; exact C2.1 (by omega)
 ·rintro ⟨h1,h2,h3,h4,h5,h6,h7⟩
  refine ⟨⟨⟨⟨⟨⟨h1,h2⟩,h3⟩,h4⟩,h5⟩,h6⟩,?_⟩
  split
  ·rfl
  ·rename_i e
   rw [if_neg e] at h7
   split
   ·rename_i e2; rw [if_pos e2] at h7; simp; omega
   ·rename_i e2; rw [if_neg e2] at h7; simp [h7]
theorem WM:Ba []=true:=rfl
def fK (m n:AF) (l:List Bc):Prop:=∀ y∈l,XOk y/\y.2.1=m.1/\y.2.2.2.1=n.2.1
theorem jB {m n:AF} {view:List Int} {k num:Int} {its:List Ad} (hm:1<=m.1/\m.1<=6) (he:1<=n.2.1/\n.2.1<=9) (hv:∀ a∈view,1<=a/\a<=6) (hk:1<=k/\k<=8) (hn:0<=num/\num<=1000000000) (hi:Ba its=true)
  (hs:if k=2\/k=3 then True else if k=5 then its.length=1 else its=[]):fK m n ((CV view m.1).map fun v=>(k,m.1,v,n.2.1,num,its)):=by
 intro y hy
 obtain ⟨v,hv2,rfl⟩:=List.mem_map.1 hy
 exact ⟨⟨hk,hm,hv v (List.mem_filter.1 hv2).1,he,hn,hi,hs⟩,rfl,rfl⟩
theorem SO {m n:AF} {x:Bc} {k:Int} (hm:1<=m.1/\m.1<=6) (hx:XOk x) (he:x.2.2.2.1=n.2.1) (hk:k=4\/k=6\/k=8):fK m n (En m x k):=by
 intro y hy
 simp only [En,C1] at hy
 subst hy
 refine ⟨⟨by show 1<=k/\k<=8; omega,hm,hx.frm,hx.ep,hx.num,WM,?_⟩,rfl,he⟩
 show if k=2\/k=3 then True else if k=5 then ([]:List Ad).length=1 else ([]:List Ad)=[]
 rw [if_neg (by omega),if_neg (by omega)]
theorem aT {m n:AF}:fK m n []:=fun y hy=>by cases hy
theorem bD:KS ((0:Int),(0:Int),(0:Int),(U,U,(0:Int)),([]:List Int))=true:=by simp [KS,MA]
theorem J_.has {m:AF} {view:List Int} {its:List Ad} (h:J_ m) (hl:m.2.2.2.2.1=true) (hb:m.2.2.2.1=false) (hi:Ba its=true):J_ (WI m view its):=by
 have hns:m.2.2.2.2.2.1=false:=by
  cases hs:m.2.2.2.2.2.1 with
  | false=>rfl
  | true=>have:=(h.serves hs).1; rw [hb] at this; cases this
 refine ⟨h.id,h.ep,fun hs=>⟨rfl,hl,?_⟩,fun hf=>?_,Wz _ _,h.left,hi,h.count,?_⟩
 ·simp only [WI,beq_iff_eq] at hs ⊢
  exact C2.1 (by omega)
 ·have:=(h.fell hf).2; rw [hl] at this; cases this
 ·rcases h.task with h1 | h1
  ·exact .inl h1
  ·unfold Fs at h1
   rw [hns] at h1
   simp at h1
theorem J_.bare {m:AF} (h:J_ m) {e:Int} (he:1<=e/\e<=9):J_ (WJ m e) :=
 ⟨h.id,he,fun hs=>(by cases hs),fun hf=>(by cases hf),⟨by simp [WJ],by simp [WJ]⟩,⟨by simp [WJ],by simp [WJ]⟩,h.items,⟨by simp [WJ],by simp [WJ]⟩,.inl bD⟩
theorem J_.install {m:AF} (h:J_ m) {e:Int} {its:List Ad} (he:1<=e/\e<=9) (hi:Ba its=true) :
  J_ (m.1,e,false,true,false,false,([]:List Int),its,(0:Int),(0:Int),(0:Int),(0:Int),(U,U,(0:Int)),([]:List Int)) :=
 ⟨h.id,he,fun hs=>(by cases hs),fun hf=>(by cases hf),⟨by simp,by simp⟩,⟨by simp,by simp⟩,hi,⟨by simp,by simp⟩,.inl bD⟩
theorem J_.clear {m:AF} (h:J_ m) {its:List Ad} (hi:Ba its=true):J_ (WK m its) :=
 ⟨h.id,h.ep,h.serves,h.fell,h.waits,⟨by simp [WK],by simp [WK]⟩,hi,h.count,.inl bD⟩
theorem J_.finish {m:AF} (h:J_ m):J_ (F6 m).2:=by
 unfold F6
 split
 ·exact h.clear (sK h.items)
 ·exact h.clear h.items
theorem ACY {m:AF} (h:J_ m) (h0:m.2.2.2.2.2.2.2.2.2.1≠0):Fs m.2.2.2.2.2.2.2.2.2 m.2.2.2.2.2.1=true:=by
 rcases h.task with h1 | h1
 ·unfold KS at h1
  simp only [AE,beq_iff_eq] at h1
  exact absurd h1.1.1.1.1 h0
 ·exact h1
def mZ (l:List Dt):Prop:=l.length<=1/\∀ s∈l,0<=s.1/\s.1<=1000
theorem Ft:mZ []:=⟨by simp,fun s hs=>by cases hs⟩
theorem nA {m:AF} (h:J_ m) (h0:m.2.2.2.2.2.2.2.2.2.1≠0):mZ (F6 m).1:=by
 have h1:=ACY h h0
 unfold Fs at h1
 simp only [AE,decide_eq_true_eq] at h1
 unfold F6
 split
 ·exact ⟨by simp,fun s hs=>by simp at hs; subst hs; exact h1.1.2⟩
 ·exact ⟨by simp,fun s hs=>by simp at hs; subst hs; exact h1.1.2⟩
structure vP (m:AF) (r:AF×List Bc×List Dt):Prop where
 mok:J_ r.1
 id:r.1.1=m.1
 ep:m.2.1<=r.1.2.1
 told:fK m r.1 r.2.1
 tlen:r.2.1.length<=4
 said:mZ r.2.2
theorem H7 {m:AF} (h:J_ m):vP m (m,[],[]):=⟨h,rfl,Int.le_refl _,aT,by simp,Ft⟩
theorem H8 (view:List Int) (id:Int):(CV view id).length<=view.length:=List.length_filter_le _ _
theorem J_.left_filter {m:AF} (h:J_ m) (f:Int):J_ (xF m f):=by
 refine ⟨h.id,h.ep,h.serves,h.fell,h.waits,sM h.left _,h.items,h.count,?_⟩
 rcases h.task with h1 | h1
 ·left
  unfold KS at h1 ⊢
  simp only [AE,beq_iff_eq] at h1 ⊢
  refine ⟨h1.1,?_⟩
  have h2:=List.length_filter_le (· != f) m.2.2.2.2.2.2.2.2.2.2.2.2.2
  have h3:=h1.2
  show (((m.2.2.2.2.2.2.2.2.2.2.2.2.2.filter (· != f)).length:Nat):Int)=0
  omega
 ·exact .inr h1
theorem ACZ {m:AF} {view:List Int} {x:Bc} (hm:J_ m) (hv:WOk view) (hx:XOk x) (he:x.2.2.2.1=m.2.1):vP m (fJ m view x):=by
 unfold fJ
 split
 ·split
  ·rename_i h1 h2
   simp only [AE,Dw] at h2
   refine ⟨hm.has h2.1 h2.2 hx.items,rfl,Int.le_refl _,?_,by simp only [List.length_map]; have:=H8 view m.1; have:=hv.len; omega,Ft⟩
   exact jB (n:=WI m view x.2.2.2.2.2) hm.id hm.ep hv.mem (by omega) (by omega) hx.items (by simp)
  ·exact H7 hm
 ·split
  ·split
   ·exact H7 hm
   ·split
    ·exact H7 hm
    ·split
     ·exact ⟨hm,rfl,Int.le_refl _,SO hm.id hx he (by omega),by simp [En],Ft⟩
     ·exact ⟨hm.install hm.ep hx.items,rfl,Int.le_refl _,SO hm.id hx he (by omega),by simp [En],Ft⟩
  ·split
   ·split
    ·rename_i hl
     refine ⟨⟨hm.id,hm.ep,fun hs=>?_,hm.fell,sM hm.waits _,hm.left,hm.items,hm.count,?_⟩,rfl,Int.le_refl _,aT,by simp,Ft⟩
     ·simp only [AE,beq_iff_eq] at hs
      exact ⟨hs.1,hl,C2.1 (show (List.filter (· != x.2.1) m.2.2.2.2.2.2.1).length=0 by have h:((List.filter (· != x.2.1) m.2.2.2.2.2.2.1).length:Int)=0:=hs.2; omega)⟩
     ·rcases hm.task with h1 | h1
      ·exact .inl h1
      ·right
       have hs:m.2.2.2.2.2.1=true:=by
        unfold Fs at h1
        simp only [AE] at h1
        exact h1.1.1.2
       obtain ⟨a,b,c⟩:=hm.serves hs
       rw [hs] at h1
       simp only [c,List.filter_nil,List.length_nil,a,Bool.true_and]
       exact h1
    ·exact H7 hm
   ·split
    ·split
     ·exact ⟨⟨hm.id,hm.ep,hm.serves,hm.fell,hm.waits,hm.left,sK hm.items,hm.count,hm.task⟩,rfl,Int.le_refl _,SO hm.id hx he (by omega),by simp [En],Ft⟩
     ·exact H7 hm
    ·split
     ·split
      ·exact ⟨hm,rfl,Int.le_refl _,SO hm.id hx he (by omega),by simp [En],Ft⟩
      ·exact H7 hm
     ·by_cases hc:(x.1=6\/x.1=8)/\m.2.2.2.2.2.2.2.2.2.1=(if x.1=8 then 2 else 1)/\m.2.2.2.2.2.2.2.2.2.2.2.1=x.2.2.2.2.1
      ·rw [if_pos hc]
       have hn:=hm.left_filter x.2.1
       unfold G3
       split
       ·refine ⟨hn.finish,?_,?_,aT,by simp,nA hn ?_⟩
        ·unfold F6; split<;>rfl
        ·unfold F6; split<;>exact Int.le_refl _
        ·have:=hc.2.1
         show m.2.2.2.2.2.2.2.2.2.1≠0
         rw [this]
         split<;>omega
       ·exact ⟨hn,rfl,Int.le_refl _,aT,by simp,Ft⟩
      ·rw [if_neg hc]
       exact H7 hm
theorem aU {m:AF} {views:List (List Int)} {x:Bc} (hm:J_ m) (hv:WP views):vP m (EY m views x):=by
 unfold EY
 split
 ·rename_i hc
  simp only [AE,decide_eq_true_eq,beq_iff_eq] at hc
  obtain ⟨⟨⟨h1,h2⟩,h3⟩,h4⟩:=hc
  have hx:=bC.1 h1
  have hvl:=hv.len
  have he:=hm.ep
  split
  ·rename_i e
   exact ACZ hm (hv.wok (by omega)) hx e
  ·split
   ·refine ⟨hm.bare hx.ep,rfl,h3,fun y hy=>?_,by simp,Ft⟩
    simp only [C1] at hy
    subst hy
    exact ⟨⟨by simp,hm.id,hx.frm,hx.ep,by simp,hm.items,by simp⟩,rfl,rfl⟩
   ·split
    ·exact ⟨hm.install hx.ep hx.items,rfl,h3,SO hm.id hx rfl (by omega),by simp [En],Ft⟩
    ·exact H7 hm
 ·exact H7 hm

def Kk:AF:=((0:Int),(0:Int),false,false,false,false,([]:List Int),([]:List Ad),(0:Int),(0:Int),(0:Int),(0:Int),(U,U,(0:Int)),([]:List Int))
def W0 (m:AF) (views:List (List Int)) (op call:Int) (key val:ByteArray):Bool :=
 m.2.2.2.2.2.1&&(m.2.2.2.2.2.2.2.2.2.1==0)&&decide (m.2.2.2.2.2.2.2.2.1<900)&&(op==1||op==2)&&(decide (0<=call)&&decide (call<=1000))&&(decide (1<=(key.size:Int))&&decide ((key.size:Int)<=12))&&decide ((val.size:Int)<=20)&&(op==1||w_ val)&&decide (m.2.1<=(views.length:Int))&&((views.getD (m.2.1-1).toNat []).getD 0 0==m.1)
def Kl (m:AF) (key val:ByteArray):Ad:=(key,val,1000*m.2.1+(m.2.2.2.2.2.2.2.2.1+1))
def KA (m:AF) (view:List Int) (op call:Int) (key val:ByteArray):AF :=
 (m.1,m.2.1,m.2.2.1,m.2.2.2.1,m.2.2.2.2.1,m.2.2.2.2.2.1,m.2.2.2.2.2.2.1,m.2.2.2.2.2.2.2.1,m.2.2.2.2.2.2.2.2.1+1,op,call,m.2.2.2.2.2.2.2.2.1+1,Kl m key val,HO view m.1)
def ta (m:AF) (view:List Int) (op:Int) (key val:ByteArray):List Bc :=
 (CV view m.1).map fun v=>(if op=1 then 5 else 7,m.1,v,m.2.1,m.2.2.2.2.2.2.2.2.1+1,if op=1 then [Kl m key val] else [])
def Ub (m:AF) (view:List Int) (op call:Int) (key val:ByteArray):AF×List Bc×List Dt×Bool :=
 if HO view m.1=[] then ((F6 (KA m view op call key val)).2,[],(F6 (KA m view op call key val)).1,true) else (KA m view op call key val,ta m view op key val,[],true)
def Dv (m:AF) (views:List (List Int)) (op call:Int) (key val:ByteArray):AF×List Bc×List Dt×Bool :=
 if W0 m views op call key val=true then
  (if op=1/\MA (.pair .str (.pair .str (.int .i64))) (Df (Dz m.2.2.2.2.2.2.2.1 (Kl m key val)) key) (Kl m key val)=false then (Kk,[],[],false) else Ub m (views.getD (m.2.1-1).toNat []) op call key val)
 else (Kk,[],[],false)
theorem pJ (m:AF) (views:List (List Int)) (op call:Int) (key val:ByteArray) (hm:J_ m) (hv:WP views):Wk m views op call key val=some (Dv m views op call key val):=vI (by
 have hvl:=hv.len
 have hep:=hm.ep
 have hl:=hm.lens
 have hcnt:=hm.count
 have wm:IntKind.i64.wrap (m.2.1-1)=m.2.1-1:=AN (by omega)
 have wc:IntKind.i64.wrap (m.2.2.2.2.2.2.2.2.1+1)=m.2.2.2.2.2.2.2.2.1+1:=AN (by omega)
 have w1:IntKind.i64.wrap (1000*m.2.1)=1000*m.2.1:=AN (by omega)
 have w2:IntKind.i64.wrap (1000*m.2.1+(m.2.2.2.2.2.2.2.2.1+1))=1000*m.2.1+(m.2.2.2.2.2.2.2.2.1+1):=AN (by omega)
 unfold iQ
 rw [Le hm,AC,if_neg (by simp),Ge hv,AC,if_neg (by simp)]
 have bad:W0 m views op call key val=false->Dv m views op call key val=(Kk,[],[],false):=fun h=>by unfold Dv; rw [h]; rfl
 by_cases c1:m.2.2.2.2.2.1=true
 case neg =>
  rw [if_pos (by simpa using c1),bad (by unfold W0; simp [c1])]
  rfl
 rw [if_neg (by simpa using c1)]
 by_cases c2:m.2.2.2.2.2.2.2.2.2.1=0
 case neg =>
  rw [if_pos (by simpa using c2),bad (by unfold W0; simp [c2])]
  rfl
 rw [if_neg (by simpa using c2)]
 by_cases c3:m.2.2.2.2.2.2.2.2.1<900
 case neg =>
  rw [if_pos (by simp; omega),bad (by unfold W0; simp [c3])]
  rfl
 rw [if_neg (by simp; omega)]
 have view:∀ (hep2:m.2.1<=(views.length:Int)),1<=(views.getD (m.2.1-1).toNat []).length/\(views.getD (m.2.1-1).toNat []).length<=4:=fun h=>hv.get (by omega)
 have L2:∀ (v:List Int) (hv:v.length<=4) (y:AF) (its:List Ad),op=1->Ei op [] v 0 m y [] (KA m v op call key val) (Kl m key val) its=some (KA m v op call key val,ta m v op key val,[],true):=by
  intro v hv y its ho
  have key':=HR (n:=v.length) (P:=fun i=>∀ acc:List Bc,acc.length<=i->Ei op [] v (i:Int) m y acc (KA m v op call key val) (Kl m key val) its=some (KA m v op call key val,acc++((v.drop i).filter (· != m.1)).map (fun v=>((5:Int),m.1,v,m.2.1,m.2.2.2.2.2.2.2.2.1+1,[Kl m key val])),[],true)) (fun acc ha=>X4 (by
   unfold Pt
   rw [if_neg (by simp)]
   simp)) (fun i hi ih acc ha=>X4 (by
   unfold Pt
   simp only [show ((i:Int)<(v.length:Int)) from by omega,decide_true,if_true,show (0:Int)<=(i:Int) from by omega,Al,Ac hi,AW (show i<9223372036854775807 by omega),ho,beq_self_eq_true]
   rw [ho] at ih
   rw [Bu hi,List.filter_cons]
   by_cases hh:v[i]=m.1
   ·rw [if_pos (by simpa using hh),ih _ (by omega),if_neg (by simpa using hh)]
   ·rw [if_neg (by simpa using hh),if_pos (by simp; omega),ih _ (by simp; omega),if_pos (by simpa using hh),List.map_cons,BW]
    rfl)) 0 (by omega) [] (by simp)
  unfold ta
  rw [if_pos ho,if_pos ho]
  exact key'
 have L4:∀ (v:List Int) (hv:v.length<=4) (y:AF),op≠1->Ej op [] v 0 m y [] (KA m v op call key val) (Kl m key val)=some (KA m v op call key val,ta m v op key val,[],true):=by
  intro v hv y ho
  have key':=HR (n:=v.length) (P:=fun i=>∀ acc:List Bc,acc.length<=i->Ej op [] v (i:Int) m y acc (KA m v op call key val) (Kl m key val)=some (KA m v op call key val,acc++((v.drop i).filter (· != m.1)).map (fun v=>((7:Int),m.1,v,m.2.1,m.2.2.2.2.2.2.2.2.1+1,([]:List Ad))),[],true)) (fun acc ha=>X5 (by
   unfold Pu
   rw [if_neg (by simp)]
   simp)) (fun i hi ih acc ha=>X5 (by
   unfold Pu
   have ho':¬ ((op==1)=true):=by simpa using ho
   simp only [show ((i:Int)<(v.length:Int)) from by omega,decide_true,if_true,show (0:Int)<=(i:Int) from by omega,Al,Ac hi,AW (show i<9223372036854775807 by omega),if_neg ho']
   rw [Bu hi,List.filter_cons]
   by_cases hh:v[i]=m.1
   ·rw [if_pos (by simpa using hh),ih _ (by omega),if_neg (by simpa using hh)]
   ·rw [if_neg (by simpa using hh),if_pos (by simp; omega),ih _ (by simp; omega),if_pos (by simpa using hh),List.map_cons,BW]
    rfl)) 0 (by omega) [] (by simp)
  unfold ta
  rw [if_neg ho,if_neg ho]
  exact key'
 have nil_iff:∀ l:List Int,((l.length:Int)==0)=true↔l=[]:=fun l=>by
  rw [beq_iff_eq]
  exact ⟨fun h=>C2.1 (by omega),fun h=>by rw [h]; rfl⟩
 have J1:∀ (b:Bool) (y:AF) (its:List Ad),op=1->m.2.1<=(views.length:Int)->Pr views op call [] b m y [] (m.1,m.2.1,m.2.2.1,m.2.2.2.1,m.2.2.2.2.1,m.2.2.2.2.2.1,m.2.2.2.2.2.2.1,m.2.2.2.2.2.2.2.1,m.2.2.2.2.2.2.2.2.1+1,m.2.2.2.2.2.2.2.2.2) (Kl m key val) its=some (Ub m (views.getD (m.2.1-1).toNat []) op call key val):=fun b y its ho he=>oO (by
  have:=view he
  unfold X1 Ub
  rw [wm,if_pos (by omega),if_pos (by omega),KT _ _ (by unfold maxLen; omega),AC]
  by_cases hz:HO (views.getD (m.2.1-1).toNat []) m.1=[]
  ·rw [if_pos ((nil_iff _).2 hz),if_pos hz]
   have:=KU (KA m (views.getD (m.2.1-1).toNat []) op call key val) (by show m.2.2.2.2.2.2.2.1.length<=_; omega)
   unfold KA at this
   simp only
   rw [this]
   rfl
  ·rw [if_neg (fun h=>hz ((nil_iff _).1 h)),if_neg hz]
   exact L2 _ (by omega) y its ho)
 have J3:∀ (b:Bool) (y:AF),op≠1->m.2.1<=(views.length:Int)->Ps views op call [] b m y [] (m.1,m.2.1,m.2.2.1,m.2.2.2.1,m.2.2.2.2.1,m.2.2.2.2.2.1,m.2.2.2.2.2.2.1,m.2.2.2.2.2.2.2.1,m.2.2.2.2.2.2.2.2.1+1,m.2.2.2.2.2.2.2.2.2) (Kl m key val)=some (Ub m (views.getD (m.2.1-1).toNat []) op call key val):=fun b y ho he=>oP (by
  have:=view he
  unfold X2 Ub
  rw [wm,if_pos (by omega),if_pos (by omega),KT _ _ (by unfold maxLen; omega),AC]
  by_cases hz:HO (views.getD (m.2.1-1).toNat []) m.1=[]
  ·rw [if_pos ((nil_iff _).2 hz),if_pos hz]
   have:=KU (KA m (views.getD (m.2.1-1).toNat []) op call key val) (by show m.2.2.2.2.2.2.2.1.length<=_; omega)
   unfold KA at this
   simp only
   rw [this]
   rfl
  ·rw [if_neg (fun h=>hz ((nil_iff _).1 h)),if_neg hz]
   exact L4 _ (by omega) y ho)
 have J0:∀ (b:Bool) (y:AF),W0 m views op call key val=true->m.2.1<=(views.length:Int)->C5 views op call key val [] b m y []=some (Dv m views op call key val):=fun b y hmay he=>oQ (by
  unfold X3 Dv
  rw [if_pos hmay,hm.copy,AC,wc,w1,w2]
  by_cases ho:op=1
  ·rw [if_pos (by simpa using ho),NI _ _ (by omega),AC,V_ _ _ (by have:=xE m.2.2.2.2.2.2.2.1 (key,val,1000*m.2.1+(m.2.2.2.2.2.2.2.2.1+1)); unfold maxLen; omega),AC]
   cases hq:MA (.pair .str (.pair .str (.int .i64))) (Df (Dz m.2.2.2.2.2.2.2.1 (Kl m key val)) key) (Kl m key val) with
   | false =>
    have hq':MA AG (Df (Dz m.2.2.2.2.2.2.2.1 (key,val,1000*m.2.1+(m.2.2.2.2.2.2.2.2.1+1))) key) (key,val,1000*m.2.1+(m.2.2.2.2.2.2.2.2.1+1))=false:=hq
    rw [hq',if_pos (show (true != false)=true from rfl),if_pos (show op=1/\false=false from ⟨ho,rfl⟩)]
    rfl
   | true =>
    have hq':MA AG (Df (Dz m.2.2.2.2.2.2.2.1 (key,val,1000*m.2.1+(m.2.2.2.2.2.2.2.2.1+1))) key) (key,val,1000*m.2.1+(m.2.2.2.2.2.2.2.2.1+1))=true:=hq
    rw [hq',if_neg (show ¬ (true != true)=true by simp),if_neg (show ¬ (op=1/\true=false) by rintro ⟨_,h⟩; cases h)]
    exact J1 _ y _ ho he
  ·rw [if_neg (by simpa using ho),if_neg (fun h=>ho h.1)]
   exact J3 _ y ho he)
 have tail:op=1\/op=2->((Ab call 0 1000).bind fun y3=>(if (!y3)=true then (some (Kk,([]:List Bc),([]:List Dt),false)) else ((Ab (key.size:Int) 1 12).bind fun y4=>(if (!y4)=true then (some (Kk,([]:List Bc),([]:List Dt),false)) else (if (decide ((val.size:Int)>20))=true then (some (Kk,([]:List Bc),([]:List Dt),false)) else (if (op==2)=true then (if (!(val.toList==(⟨#[]⟩:ByteArray).toList))=true then (some (Kk,([]:List Bc),([]:List Dt),false)) else (if (decide (m.2.1>(views.length:Int)))=true then (some (Kk,([]:List Bc),([]:List Dt),false)) else (if 0<=(IntKind.i64.wrap (m.2.1-1)) then (if (IntKind.i64.wrap (m.2.1-1))<(views.length:Int) then (if 0<=(0:Int) then (if (0:Int)<((views.getD (IntKind.i64.wrap (m.2.1-1)).toNat ([]:List Int)).length:Int) then (if (((views.getD (IntKind.i64.wrap (m.2.1-1)).toNat ([]:List Int)).getD (0:Int).toNat 0) != m.1)=true then (some (Kk,([]:List Bc),([]:List Dt),false)) else (C5 views op call key val ([]:List Dt) (((views.getD (IntKind.i64.wrap (m.2.1-1)).toNat ([]:List Int)).getD (0:Int).toNat 0) != m.1) m Kk ([]:List Bc))) else none) else none) else none) else none))) else (if (decide (m.2.1>(views.length:Int)))=true then (some (Kk,([]:List Bc),([]:List Dt),false)) else (if 0<=(IntKind.i64.wrap (m.2.1-1)) then (if (IntKind.i64.wrap (m.2.1-1))<(views.length:Int) then (if 0<=(0:Int) then (if (0:Int)<((views.getD (IntKind.i64.wrap (m.2.1-1)).toNat ([]:List Int)).length:Int) then (if (((views.getD (IntKind.i64.wrap (m.2.1-1)).toNat ([]:List Int)).getD (0:Int).toNat 0) != m.1)=true then (some (Kk,([]:List Bc),([]:List Dt),false)) else (C5 views op call key val ([]:List Dt) (((views.getD (IntKind.i64.wrap (m.2.1-1)).toNat ([]:List Int)).getD (0:Int).toNat 0) != m.1) m Kk ([]:List Bc))) else none) else none) else none) else none))))))))=some (Dv m views op call key val):=by
  intro hop
  rw [Bh,AC,Bh,AC,wm]
  cases c5:(decide (0<=call)&&decide (call<=1000)) with
  | false=>rw [bad (by unfold W0; rw [c5]; simp)]; rfl
  | true =>
  rw [if_neg (by simp)]
  cases c6:(decide (1<=(key.size:Int))&&decide ((key.size:Int)<=12)) with
  | false=>rw [bad (by unfold W0; rw [c6]; simp)]; rfl
  | true =>
  rw [if_neg (by simp)]
  by_cases c7:(val.size:Int)<=20
  case neg=>rw [if_pos (by simp; omega),bad (by unfold W0; simp [c7])]
  rw [if_neg (by simp; omega)]
  have last:(op==1||w_ val)=true->(if (decide (m.2.1>(views.length:Int)))=true then (some (Kk,([]:List Bc),([]:List Dt),false)) else (if 0<=m.2.1-1 then (if m.2.1-1<(views.length:Int) then (if 0<=(0:Int) then (if (0:Int)<((views.getD (m.2.1-1).toNat ([]:List Int)).length:Int) then (if (((views.getD (m.2.1-1).toNat ([]:List Int)).getD (0:Int).toNat 0) != m.1)=true then (some (Kk,([]:List Bc),([]:List Dt),false)) else (C5 views op call key val ([]:List Dt) (((views.getD (m.2.1-1).toNat ([]:List Int)).getD (0:Int).toNat 0) != m.1) m Kk ([]:List Bc))) else none) else none) else none) else none))=some (Dv m views op call key val):=by
   intro c8
   by_cases c9:m.2.1<=(views.length:Int)
   case neg=>rw [if_pos (by simp; omega),bad (by unfold W0; simp [c9])]
   have:=view c9
   rw [if_neg (by simp; omega),if_pos (by omega),if_pos (by omega),if_pos (by omega),if_pos (by omega),show (views.getD (m.2.1-1).toNat ([]:List Int)).getD (0:Int).toNat 0=(views.getD (m.2.1-1).toNat []).getD 0 0 from rfl]
   by_cases c10:(views.getD (m.2.1-1).toNat []).getD 0 0=m.1
   case neg=>rw [if_pos (by simpa using c10),bad (by unfold W0; rw [show ((views.getD (m.2.1-1).toNat []).getD 0 0==m.1)=false from by simpa using c10,Bool.and_false])]
   rw [if_neg (by simpa using c10)]
   refine J0 _ _ ?_ c9
   unfold W0
   rw [c1,c5,c6,c8]
   simp only [c2,beq_self_eq_true,c3,c7,c9,c10,decide_true,Bool.and_true,Bool.true_and]
   rcases hop with h | h<;>simp [h]
  by_cases c8:op=2
  ·rw [if_pos (by simpa using c8)]
   cases ce:w_ val with
   | false =>
    rw [if_pos (by rw [mW,ce]; rfl),bad (by unfold W0; rw [ce,show (op==1)=false from by simp [c8]]; simp)]
   | true =>
    rw [if_neg (by rw [mW,ce]; simp)]
    exact last (by rw [ce,Bool.or_true])
  ·rw [if_neg (by simpa using c8)]
   exact last (by rw [show (op==1)=true from by simp; omega]; rfl)
 by_cases c4:op=1
 ·rw [if_neg (by simpa using c4)]
  exact tail (.inl c4)
 ·rw [if_pos (by simpa using c4)]
  by_cases c4':op=2
  ·rw [if_neg (by simpa using c4')]
   exact tail (.inr c4')
  ·rw [if_pos (by simpa using c4'),bad (by unfold W0; rw [show (op==1||op==2)=false from by simp [c4,c4']]; simp)]
   rfl)
structure yz (m:AF) (r:AF×List Bc×List Dt×Bool):Prop where
 mok:r.2.2.2=true->J_ r.1
 id:r.2.2.2=true->r.1.1=m.1
 ep:r.2.2.2=true->r.1.2.1=m.2.1
 told:r.2.2.2=true->fK m r.1 r.2.1
 tlen:r.2.1.length<=4
 said:mZ r.2.2.1
theorem uI {m:AF}:yz m (Kk,[],[],false):=⟨fun h=>(by cases h),fun h=>(by cases h),fun h=>(by cases h),fun h=>(by cases h),by simp,Ft⟩
theorem ma {m:AF} {views:List (List Int)} {op call:Int} {key val:ByteArray} (h:W0 m views op call key val=true) :
  m.2.2.2.2.2.1=true/\m.2.2.2.2.2.2.2.2.2.1=0/\m.2.2.2.2.2.2.2.2.1<900/\(op=1\/op=2)/\(0<=call/\call<=1000)/\(1<=(key.size:Int)/\(key.size:Int)<=12)/\(val.size:Int)<=20/\(op=1\/w_ val=true)/\m.2.1<=(views.length:Int)/\(views.getD (m.2.1-1).toNat []).getD 0 0=m.1:=by
 unfold W0 at h
 simp only [AE,Ec,decide_eq_true_eq,beq_iff_eq] at h
 obtain ⟨⟨⟨⟨⟨⟨⟨⟨⟨h1,h2⟩,h3⟩,h4⟩,h5⟩,h6⟩,h7⟩,h8⟩,h9⟩,h10⟩:=h
 exact ⟨h1,h2,h3,h4,h5,h6,h7,h8,h9,h10⟩
theorem xG {m:AF} {key val:ByteArray} (h:J_ m) (h3:m.2.2.2.2.2.2.2.2.1<900) (h6:1<=(key.size:Int)/\(key.size:Int)<=12) (h7:(val.size:Int)<=20):Ba [Kl m key val]=true:=by
 refine JD.2 ⟨fun b hb=>?_,?_,by simp⟩
 ·simp only [C1] at hb
  subst hb
  unfold NF Kl
  have:=h.ep
  have:=h.count
  simp only [AE,decide_eq_true_eq]
  omega
 ·exact uH.2 (by simp)
theorem J_.task1 {m:AF} {view:List Int} {op call:Int} {key val:ByteArray} (h:J_ m) (h1:m.2.2.2.2.2.1=true) (h3:m.2.2.2.2.2.2.2.2.1<900) (h4:op=1\/op=2) (h5:0<=call/\call<=1000):J_ (KA m view op call key val):=by
 have hc:=h.count
 refine ⟨h.id,h.ep,h.serves,h.fell,h.waits,Wz _ _,h.items,?_,.inr ?_⟩
 ·show 0<=m.2.2.2.2.2.2.2.2.1+1/\m.2.2.2.2.2.2.2.2.1+1<=900
  omega
 ·unfold Fs KA
  rw [h1]
  simp only [AE,Ec,decide_eq_true_eq,beq_iff_eq]
  exact ⟨⟨⟨h4,trivial⟩,h5⟩,by omega⟩
theorem bE {m:AF} {views:List (List Int)} {op call:Int} {key val:ByteArray} (hm:J_ m) (hv:WP views):yz m (Dv m views op call key val):=by
 unfold Dv
 split
 ·rename_i hmay
  obtain ⟨h1,h2,h3,h4,h5,h6,h7,h8,h9,h10⟩:=ma hmay
  split
  ·exact uI
  ·unfold Ub
   have hep:=hm.ep
   have ht:=hm.task1 (view:=views.getD (m.2.1-1).toNat []) (key:=key) (val:=val) h1 h3 h4 h5
   have h0:(KA m (views.getD (m.2.1-1).toNat []) op call key val).2.2.2.2.2.2.2.2.2.1≠0:=by show op≠0; omega
   have hw:=hv.wok (i:=(m.2.1-1).toNat) (by omega)
   split
   ·exact ⟨fun _=>ht.finish,fun _=>(by unfold F6; split<;>rfl),fun _=>(by unfold F6; split<;>rfl),fun _=>aT,by simp,nA ht h0⟩
   ·refine ⟨fun _=>ht,fun _=>rfl,fun _=>rfl,fun _=>?_,?_,Ft⟩
    ·unfold ta
     have hc:=hm.count
     have hi:=xG hm h3 h6 h7
     refine jB (n:=KA m (views.getD (m.2.1-1).toNat []) op call key val) hm.id hm.ep hw.mem (by split<;>omega) (by omega) ?_ ?_
     ·split
      ·exact hi
      ·exact WM
     ·by_cases ho:op=1
      ·rw [if_pos ho,if_pos ho,if_neg (by omega),if_pos rfl]; rfl
      ·rw [if_neg ho,if_neg ho,if_neg (by omega),if_neg (by omega)]
    ·unfold ta
     simp only [List.length_map]
     have:=H8 (views.getD (m.2.1-1).toNat []) m.1
     have:=hw.len
     omega
 ·exact uI
def L_ (m:AF) (e:Int):AF:=(m.1,e,false,false,true,false,([]:List Int),m.2.2.2.2.2.2.2.1,(0:Int),(0:Int),(0:Int),(0:Int),(U,U,(0:Int)),([]:List Int))
def GE (m:AF) (views:List (List Int)) (e:Int):AF×List Bc×Bool :=
 if 2<=e/\e<=(views.length:Int)/\m.2.1<e/\(views.getD (e-1).toNat []).getD 0 0=m.1 then
  if (m.2.2.2.1&&(m.2.1==e-1)&&(views.getD (e-2).toNat []).contains m.1)=true then
   (WI (L_ m e) (views.getD (e-1).toNat []) m.2.2.2.2.2.2.2.1,(CV (views.getD (e-1).toNat []) m.1).map (fun v=>(3,m.1,v,e,0,m.2.2.2.2.2.2.2.1)),true)
  else (L_ m e,(CV (views.getD (e-2).toNat []) m.1).map (fun v=>(1,m.1,v,e,0,[])),true)
 else (Kk,[],false)
theorem J_.new1 {m:AF} (h:J_ m) {e:Int} (he:1<=e/\e<=9):J_ (L_ m e) :=
 ⟨h.id,he,fun hs=>(by cases hs),fun hf=>(by cases hf),⟨by simp [L_],by simp [L_]⟩,⟨by simp [L_],by simp [L_]⟩,h.items,⟨by simp [L_],by simp [L_]⟩,.inl bD⟩
theorem pK (m:AF) (views:List (List Int)) (e:Int) (hm:J_ m) (hv:WP views):Wl m views e=some (GE m views e):=vJ (by
 have hvl:=hv.len
 have hep:=hm.ep
 have hl:=hm.lens
 unfold iR GE
 rw [Le hm,AC,if_neg (by simp),Ge hv,AC,if_neg (by simp),Bh,AC]
 by_cases h1:2<=e/\e<=(views.length:Int)
 case neg =>
  rw [if_pos (by rw [<- Bool.decide_and,decide_eq_false h1]; rfl),if_neg (fun h=>h1 ⟨h.1,h.2.1⟩)]
  rfl
 have we:IntKind.i64.wrap (e-1)=e-1:=AN (by omega)
 have we2:IntKind.i64.wrap (e-2)=e-2:=AN (by omega)
 rw [if_neg (by rw [<- Bool.decide_and,decide_eq_true h1]; simp),we]
 by_cases h2:m.2.1<e
 case neg =>
  rw [if_pos (by simp; omega),if_neg (fun h=>h2 h.2.2.1)]
  rfl
 have g1:=hv.get (i:=(e-1).toNat) (by omega)
 have g2:=hv.get (i:=(e-2).toNat) (by omega)
 rw [if_neg (by simp; omega),if_pos (by omega),if_pos (by omega),if_pos (by omega),if_pos (by omega),show (views.getD (e-1).toNat ([]:List Int)).getD (0:Int).toNat 0=(views.getD (e-1).toNat []).getD 0 0 from rfl]
 by_cases h3:(views.getD (e-1).toNat []).getD 0 0=m.1
 case neg =>
  rw [if_pos (by simpa using h3),if_neg (fun h=>h3 h.2.2.2)]
  rfl
 rw [if_neg (by simpa using h3),if_pos ⟨h1.1,h1.2,h2,h3⟩]
 have L2:∀ y,GK views e 0 m y [] ([]++m.2.2.2.2.2.2.2.1) (L_ m e)=some (L_ m e,(CV (views.getD (e-2).toNat []) m.1).map (fun v=>(1,m.1,v,e,0,[])),true):=by
  intro y
  have hcopy:=(hm.new1 (e:=e) (by omega)).copy
  have key':=HR (n:=(views.getD (e-2).toNat []).length) (P:=fun i=>∀ acc:List Bc,acc.length<=i->GK views e (i:Int) m y acc ([]++m.2.2.2.2.2.2.2.1) (L_ m e)=some (L_ m e,acc++(((views.getD (e-2).toNat []).drop i).filter (· != m.1)).map (fun v=>((1:Int),m.1,v,e,(0:Int),([]:List Ad))),true)) (fun acc ha=>X9 (by
   unfold Pv
   rw [we2,if_pos (by omega),if_pos (by omega),if_neg (by simp),hcopy]
   simp)) (fun i hi ih acc ha=>X9 (by
   unfold Pv
   rw [we2,if_pos (by omega),if_pos (by omega)]
   simp only [show ((i:Int)<((views.getD (e-2).toNat ([]:List Int)).length:Int)) from by omega,decide_true,if_true,show (0:Int)<=(i:Int) from by omega,Al,AW (show i<9223372036854775807 by omega),show (0:Int)<=e-2 from by omega,show e-2<(views.length:Int) from by omega]
   rw [Ac hi,Bu hi,List.filter_cons]
   by_cases hh:((views.getD (e-2).toNat ([]:List Int))[i] != m.1)=true
   ·rw [if_pos hh,if_pos (by simp; omega),ih _ (by simp; omega),if_pos hh,List.map_cons,BW]
    rfl
   ·rw [if_neg hh,ih _ (by omega),if_neg hh])) 0 (by omega) [] (by simp)
  exact key'
 have J1:∀ (b:Bool) y,IC views e b m y []=some (if b=true then (WI (L_ m e) (views.getD (e-1).toNat []) m.2.2.2.2.2.2.2.1,(CV (views.getD (e-1).toNat []) m.1).map (fun v=>(3,m.1,v,e,0,m.2.2.2.2.2.2.2.1)),true) else (L_ m e,(CV (views.getD (e-2).toNat []) m.1).map (fun v=>(1,m.1,v,e,0,[])),true)):=fun b y=>oS (by
  unfold X7
  rw [we,if_pos (by simp; omega)]
  cases b
  ·rw [if_neg (by simp)]
   exact L2 y
  ·rw [if_pos rfl,if_pos (by omega),if_pos (by omega)]
   have hh:=WL (views.getD (e-1).toNat []) m.2.2.2.2.2.2.2.1 (L_ m e) (by omega) (by omega)
   have hc:=((hm.new1 (e:=e) (by omega)).has (view:=views.getD (e-1).toNat []) (its:=m.2.2.2.2.2.2.2.1) rfl rfl hm.items).copy
   unfold L_ at hh hc ⊢
   simp only [List.nil_append]
   rw [hh,AC,hc]
   rfl)
 refine oT ?_
 unfold X8
 rw [we,we2,Em _ _ (by unfold maxLen; omega),AC]
 simp only [J1]
 rw [if_pos (show (0:Int)<=e-2 by omega),if_pos (show e-2<(views.length:Int) by omega)]
 cases m.2.2.2.1<;>cases (m.2.1==e-1)<;>cases (views.getD (e-2).toNat ([]:List Int)).contains m.1<;>rfl)
theorem bF {m:AF} {views:List (List Int)} {e:Int} (hm:J_ m) (hv:WP views):(GE m views e).2.2=true->J_ (GE m views e).1/\(GE m views e).1.1=m.1/\fK m (GE m views e).1 (GE m views e).2.1/\(GE m views e).2.1.length<=4:=by
 intro h
 have hvl:=hv.len
 have hep:=hm.ep
 unfold GE at h ⊢
 split
 ·rename_i hc
  have he:1<=e/\e<=9:=by omega
  split
  ·have hw:=hv.wok (i:=(e-1).toNat) (by omega)
   refine ⟨(hm.new1 he).has rfl rfl hm.items,rfl,jB (n:=WI (L_ m e) (views.getD (e-1).toNat []) m.2.2.2.2.2.2.2.1) hm.id he hw.mem (by omega) (by omega) hm.items (by simp),?_⟩
   simp only [List.length_map]
   have:=H8 (views.getD (e-1).toNat []) m.1
   have:=hw.len
   omega
  ·have hw:=hv.wok (i:=(e-2).toNat) (by omega)
   refine ⟨hm.new1 he,rfl,jB (n:=L_ m e) hm.id he hw.mem (by omega) (by omega) WM (by simp),?_⟩
   simp only [List.length_map]
   have:=H8 (views.getD (e-2).toNat []) m.1
   have:=hw.len
   omega
 ·rename_i hc
  rw [if_neg hc] at h
  cases h
def YS (m:AF):AF:=(m.1,m.2.1,true,false,false,false,([]:List Int),([]:List Ad),(0:Int),(0:Int),(0:Int),(0:Int),(U,U,(0:Int)),([]:List Int))
theorem tc (m:AF):Za m=some (YS m):=wr rfl
theorem J_.fall1 {m:AF} (h:J_ m):J_ (YS m) :=
 ⟨h.id,h.ep,fun hs=>(by cases hs),fun hf=>⟨rfl,rfl⟩,⟨by simp [YS],by simp [YS]⟩,⟨by simp [YS],by simp [YS]⟩,WM,⟨by simp [YS],by simp [YS]⟩,.inl bD⟩
def HQ (id:Int) (views:List (List Int)):AF :=
 (id,(1:Int),false,(views.getD 0 []).contains id,((views.getD 0 []).getD 0 0==id),((views.getD 0 []).getD 0 0==id),([]:List Int),([]:List Ad),(0:Int),(0:Int),(0:Int),(0:Int),(U,U,(0:Int)),([]:List Int))
theorem cC (id:Int) (views:List (List Int)) (hi:1<=id/\id<=6) (hv:WP views):OA id views=some (HQ id views,true):=lP (by
 have hvl:=hv.len
 have g:=hv.get (i:=0) (by omega)
 unfold Ve
 rw [Ge hv,AC,if_pos (by rfl),Bh,AC,if_neg (by rw [<- Bool.decide_and,decide_eq_true hi]; simp)]
 refine bd ?_
 unfold QU
 rw [show views.getD (0:Int).toNat ([]:List Int)=views.getD 0 [] from rfl,Em _ _ (by unfold maxLen; omega),AC]
 repeat rw [if_pos (by omega)]
 rfl)
theorem J_.first1 {id:Int} {views:List (List Int)} (hi:1<=id/\id<=6) (hv:WP views):J_ (HQ id views):=by
 have hvl:=hv.len
 have g:=hv.get (i:=0) (by omega)
 refine ⟨hi,by simp [HQ],fun hs=>⟨?_,hs,rfl⟩,fun hf=>(by cases hf),⟨by simp [HQ],by simp [HQ]⟩,⟨by simp [HQ],by simp [HQ]⟩,WM,⟨by simp [HQ],by simp [HQ]⟩,.inl bD⟩
 simp only [HQ,beq_iff_eq] at hs ⊢
 rw [<- hs,List.contains_iff_mem,Ac (show 0<(views.getD 0 []).length by omega)]
 exact Bk _

abbrev Nr:Type:=Int×ByteArray×ByteArray×Int×Int×Int×Int×Int×ByteArray
abbrev A_:Type:=List (List Int)×List AF×List Bc×List Nr
abbrev CZ:Type:=Int×Int×Int×Int×ByteArray×ByteArray
def Fu:Nr:=((0:Int),U,U,(0:Int),(0:Int),(0:Int),(0:Int),(0:Int),U)
def D4:Bc:=((0:Int),(0:Int),(0:Int),(0:Int),(0:Int),([]:List Ad))
def Cn (g:A_) (i:Nat):AF:=g.2.1.getD i Kk
theorem ACa (g:A_) (i:Nat):g.2.1.getD i ((0:Int),(0:Int),false,false,false,false,([]:List Int),([]:List Ad),(0:Int),(0:Int),(0:Int),(0:Int),(U,U,(0:Int)),([]:List Int))=Cn g i:=rfl
structure SP (g:A_) (n:Nat):Prop where
 views:WP g.1
 six:g.2.1.length=6
 mem:∀ i,i<6->J_ (Cn g i)/\(Cn g i).1=(i:Int)+1
 fly:∀ x∈g.2.2.1,XOk x
 flen:g.2.2.1.length<=8*n
 clen:g.2.2.2.length<=n
def aV (at_:Int) (s:Dt) (c:Nr):Nr :=
 (c.1,c.2.1,c.2.2.1,c.2.2.2.1,at_,s.2.2.2.2.2,s.2.1,s.2.2.1,if (c.1==2)=true then s.2.2.2.2.1 else c.2.2.2.2.2.2.2.2)
def GF (at_:Int) (cs:List Nr) (s:Dt):List Nr :=
 if (decide (s.1>=(cs.length:Int))||decide ((cs.getD s.1.toNat Fu).2.2.2.2.1>=0))=true then cs else cs.set s.1.toNat (aV at_ s (cs.getD s.1.toNat Fu))
def F7 (g:A_) (n:AF) (told:List Bc) (said:List Dt) (at_:Int):A_ :=
 (g.1,g.2.1.set (n.1-1).toNat n,g.2.2.1++told,said.foldl (GF at_) g.2.2.2)
theorem z_ (at_:Int) (cs:List Nr) (s:Dt):(GF at_ cs s).length=cs.length:=by unfold GF; split<;>simp
theorem fL (at_:Int):∀ (said:List Dt) (cs:List Nr),(said.foldl (GF at_) cs).length=cs.length
 | [],cs=>rfl
 | s::l,cs=>by rw [List.foldl_cons,fL at_ l,z_]
theorem vQ {α:Type} {l:List α} {i:Nat} {a d:α} (h:i<l.length):(l.set i a).getD i d=a:=by simp [List.getD,h]
theorem G4 (n:AF) (told:List Bc) (said:List Dt) (at_:Int) (g:A_) (hn:1<=n.1/\n.1<=6) (h6:g.2.1.length=6) (hf:g.2.2.1.length+told.length<=68719476736) (hc:g.2.2.2.length<=68719476736) (hs:mZ said) :
  FY n told said at_ g=some (F7 g n told said at_):=lQ (by
 have hsl:=hs.1
 unfold Vf
 rw [AN (show -9223372036854775808<=n.1-1/\n.1-1<=9223372036854775807 by omega)]
 simp only [List.nil_append,List.length_nil,Nat.zero_add]
 rw [if_pos (by omega),if_pos (by omega),if_pos (by omega),if_pos (by omega),if_pos (by omega)]
 have key:=HR (n:=said.length) (P:=fun i=>∀ (cs:List Nr),cs.length<=68719476736->Cq said at_ (i:Int) (g.1,g.2.1.set (n.1-1).toNat n,g.2.2.1++told,cs) n (g.2.1.set (n.1-1).toNat n) (g.2.2.1++told)=some (g.1,g.2.1.set (n.1-1).toNat n,g.2.2.1++told,(said.drop i).foldl (GF at_) cs)) (fun cs hcs=>QY (by
  unfold KL
  rw [if_neg (by simp)]
  simp)) (fun i hi ih cs hcs=>QY (by
  unfold KL
  have hz:said.getD i ((0:Int),(0:Int),(0:Int),U,U,(0:Int))=said[i]:=Ac hi
  have h0:=(hs.2 said[i] (Bk hi)).1
  simp only [show ((i:Int)<(said.length:Int)) from by omega,decide_true,if_true,show (0:Int)<=(i:Int) from by omega,Al,hz,AW (show i<9223372036854775807 by omega)]
  have hz3:cs.getD said[i].1.toNat ((0:Int),U,U,(0:Int),(0:Int),(0:Int),(0:Int),(0:Int),U)=cs.getD said[i].1.toNat Fu:=rfl
  rw [Bu hi,List.foldl_cons,hz3]
  by_cases c1:said[i].1>=(cs.length:Int)
  ·rw [if_pos (by simpa using c1),ih cs hcs]
   have:GF at_ cs said[i]=cs:=by unfold GF; rw [if_pos (by simp [c1])]
   rw [this]
  ·rw [if_neg (by simpa using c1),if_pos (by omega),if_pos (by omega)]
   by_cases c2:(cs.getD said[i].1.toNat Fu).2.2.2.2.1>=0
   ·rw [if_pos (show decide ((cs.getD said[i].1.toNat Fu).2.2.2.2.1>=0)=true from decide_eq_true c2),ih cs hcs]
    have:GF at_ cs said[i]=cs:=by unfold GF; rw [if_pos (by rw [decide_eq_true c2,Bool.or_true])]
    rw [this]
   ·rw [if_neg (show ¬ decide ((cs.getD said[i].1.toNat Fu).2.2.2.2.1>=0)=true from fun h=>c2 (of_decide_eq_true h))]
    have hcl:said[i].1.toNat<cs.length:=by omega
    have e:GF at_ cs said[i]=cs.set said[i].1.toNat (aV at_ said[i] (cs.getD said[i].1.toNat Fu)):=by unfold GF; rw [if_neg (by rw [decide_eq_false c1,decide_eq_false c2]; simp)]
    rw [e]
    refine be ?_
    unfold QX
    have hz2:∀ (l:List Nr),l.getD said[i].1.toNat ((0:Int),U,U,(0:Int),(0:Int),(0:Int),(0:Int),(0:Int),U)=l.getD said[i].1.toNat Fu:=fun l=>rfl
    simp only [List.nil_append,List.length_nil,Nat.zero_add,hz2,vQ hcl,List.set_set,List.length_set]
    have hk:∀ r,(if cs.length<=68719476736 then r else (none:Option A_))=r:=fun r=>if_pos hcs
    rw [if_pos (show cs.length<=68719476736 from hcs),if_pos (show (0:Int)<=said[i].1 from h0),if_pos (show said[i].1<(cs.length:Int) by omega),AW (show i<9223372036854775807 by omega)]
    unfold aV
    by_cases c3:(cs.getD said[i].1.toNat Fu).1=2
    ·rw [if_pos (show ((cs.getD said[i].1.toNat Fu).1==2)=true by simpa using c3),if_pos (show ((cs.getD said[i].1.toNat Fu).1==2)=true by simpa using c3)]
     exact ih _ (by simpa using hcs)
    ·rw [if_neg (show ¬ ((cs.getD said[i].1.toNat Fu).1==2)=true by simpa using c3),if_neg (show ¬ ((cs.getD said[i].1.toNat Fu).1==2)=true by simpa using c3)]
     exact ih _ (by simpa using hcs))) 0 (by omega) g.2.2.2 hc
 exact key)
theorem xH {g:A_} {n:AF} {told:List Bc} {said:List Dt} {at_:Int} {i j:Nat} (h6:g.2.1.length=6) (hj:j<6) (hn:n.1=(i:Int)+1) (hi:i<6):Cn (F7 g n told said at_) j=if j=i then n else Cn g j:=by
 unfold Cn F7
 simp only [hn,show ((i:Int)+1-1).toNat=i from by omega]
 by_cases e:j=i
 ·subst e
  rw [if_pos rfl]
  exact vQ (by omega)
 ·rw [if_neg e]
  simp [List.getD,Am,Ne.symm e]
theorem SP.member {g:A_} {k:Nat} (h:SP g k) {n:AF} {told:List Bc} {said:List Dt} {at_:Int} {i:Nat} (hi:i<6) (hn:J_ n) (hid:n.1=(i:Int)+1) (ht:∀ y∈told,XOk y) (hl:told.length<=4):SP (F7 g n told said at_) (k+1):=by
 refine ⟨h.views,by simp [F7,h.six],fun j hj=>?_,fun x hx=>?_,?_,?_⟩
 ·rw [xH h.six hj hid hi]
  split
  ·rename_i e
   subst e
   exact ⟨hn,hid⟩
  ·exact h.mem j hj
 ·rcases CD.1 hx with h1 | h1
  ·exact h.fly x h1
  ·exact ht x h1
 ·have:=h.flen
  simp only [F7,List.length_append]
  omega
 ·have:=h.clen
  simp only [F7,fL]
  omega
def PT (g:A_) (at_:Int) (e:CZ):A_:=(g.1,g.2.1,g.2.2.1,g.2.2.2++[(e.2.2.2.1,e.2.2.2.2.1,e.2.2.2.2.2,at_,-1,0,0,0,U)])
def NJ (g:A_) (at_:Int) (e:CZ):Int×A_ :=
 if (Dv (Cn g (e.2.1-1).toNat) g.1 e.2.2.2.1 (g.2.2.2.length:Int) e.2.2.2.2.1 e.2.2.2.2.2).2.2.2=true then
  (0,F7 (PT g at_ e) (Dv (Cn g (e.2.1-1).toNat) g.1 e.2.2.2.1 (g.2.2.2.length:Int) e.2.2.2.2.1 e.2.2.2.2.2).1 (Dv (Cn g (e.2.1-1).toNat) g.1 e.2.2.2.1 (g.2.2.2.length:Int) e.2.2.2.2.1 e.2.2.2.2.2).2.1 (Dv (Cn g (e.2.1-1).toNat) g.1 e.2.2.2.1 (g.2.2.2.length:Int) e.2.2.2.2.1 e.2.2.2.2.2).2.2.1 at_)
 else (1,PT g at_ e)
theorem pa {e:CZ} (h:PQ e=true):1<=e.1/\e.1<=6/\1<=e.2.1/\e.2.1<=6/\0<=e.2.2.1:=by
 unfold PQ at h
 simp only [AE,decide_eq_true_eq] at h
 omega
theorem ABI {m n:AF} {l:List Bc} (h:fK m n l):∀ y∈l,XOk y:=fun y hy=>(h y hy).1
theorem SP.began {at_:Int} {e:CZ} {g:A_} {k:Nat} (hg:SP g k) (hn:1<=e.2.1/\e.2.1<=6):SP (NJ g at_ e).2 (k+1)/\(NJ g at_ e).2.1=g.1:=by
 have hc:=hg.clen
 obtain ⟨m1,m2⟩:=hg.mem (e.2.1-1).toNat (by omega)
 have hb:=bE (op:=e.2.2.2.1) (call:=(g.2.2.2.length:Int)) (key:=e.2.2.2.2.1) (val:=e.2.2.2.2.2) m1 hg.views
 refine ⟨?_,?_⟩
 ·unfold NJ
  split
  ·rename_i hq
   have hid:=hb.id hq
   have hm:=hg.member (said:=(Dv (Cn g (e.2.1-1).toNat) g.1 e.2.2.2.1 (g.2.2.2.length:Int) e.2.2.2.2.1 e.2.2.2.2.2).2.2.1) (at_:=at_) (i:=(e.2.1-1).toNat) (by omega) (hb.mok hq) (by rw [hid,m2]) (ABI (hb.told hq)) hb.tlen
   exact ⟨hm.views,hm.six,hm.mem,hm.fly,hm.flen,by simp only [F7,fL,PT,List.length_append,List.length_cons,List.length_nil]; omega⟩
  ·exact ⟨hg.views,hg.six,hg.mem,hg.fly,by have:=hg.flen; show g.2.2.1.length<=_; omega,by simp only [PT,List.length_append,List.length_cons,List.length_nil]; omega⟩
 ·unfold NJ; split<;>rfl
theorem fM (at_:Int) (e:CZ) (g:A_) (k:Nat) (hg:SP g k) (hk:k<=1000) (hn:1<=e.2.1/\e.2.1<=6):Pf at_ e g=some (NJ g at_ e)/\SP (NJ g at_ e).2 (k+1)/\(NJ g at_ e).2.1=g.1:=by
 have hc:=hg.clen
 have hf:=hg.flen
 have h6:=hg.six
 have wn:IntKind.i64.wrap (e.2.1-1)=e.2.1-1:=AN (by omega)
 have wl:IntKind.i64.wrap (((g.2.2.2.length+1:Nat):Int)-1)=(g.2.2.2.length:Int):=by rw [AN (by omega)]; omega
 obtain ⟨m1,m2⟩:=hg.mem (e.2.1-1).toNat (by omega)
 have hb:=bE (op:=e.2.2.2.1) (call:=(g.2.2.2.length:Int)) (key:=e.2.2.2.2.1) (val:=e.2.2.2.2.2) m1 hg.views
 refine ⟨oJ ?_,hg.began hn⟩
 ·unfold Xw NJ
  simp only [List.nil_append,List.length_nil,Nat.zero_add,List.length_append,List.length_cons]
  rw [if_pos (by omega),if_pos (by omega),wn,if_pos (by omega),if_pos (by omega),wl,
   ACa g (e.2.1-1).toNat,
   pJ _ _ _ _ _ _ m1 hg.views,AC]
  cases hq:(Dv (Cn g (e.2.1-1).toNat) g.1 e.2.2.2.1 (g.2.2.2.length:Int) e.2.2.2.2.1 e.2.2.2.2.2).2.2.2 with
  | false=>rfl
  | true =>
   have hid:=hb.id hq
   have hmo:=hb.mok hq
   have htl:=hb.tlen
   rw [if_neg (by simp),if_pos rfl]
   have:=G4 (Dv (Cn g (e.2.1-1).toNat) g.1 e.2.2.2.1 (g.2.2.2.length:Int) e.2.2.2.2.1 e.2.2.2.2.2).1 (Dv (Cn g (e.2.1-1).toNat) g.1 e.2.2.2.1 (g.2.2.2.length:Int) e.2.2.2.2.1 e.2.2.2.2.2).2.1 (Dv (Cn g (e.2.1-1).toNat) g.1 e.2.2.2.1 (g.2.2.2.length:Int) e.2.2.2.2.1 e.2.2.2.2.2).2.2.1 at_ (PT g at_ e) hmo.id h6 (by show g.2.2.1.length+_<=_; omega) (by simp only [PT,List.length_append,List.length_cons,List.length_nil]; omega) hb.said
   unfold PT at this ⊢
   rw [this]
   rfl

def Lf (g:A_) (at_:Int) (m:AF) (node:Int):Nat->Int->Int×A_
 | 0,_=>(1,g)
 | k+1,e=>if ((g.1.getD (e-1).toNat []).getD 0 0 != node)=true then Lf g at_ m node k (e+1)
  else if (GE m g.1 e).2.2=true then (0,F7 g (GE m g.1 e).1 (GE m g.1 e).2.1 [] at_) else (1,g)
def aW (g:A_) (at_ node:Int):Int×A_:=Lf g at_ (Cn g (node-1).toNat) node ((g.1.length:Int)-(Cn g (node-1).toNat).2.1).toNat ((Cn g (node-1).toNat).2.1+1)
theorem SP.up {g:A_} {k:Nat} (h:SP g k):SP g (k+1):=⟨h.views,h.six,h.mem,h.fly,by have:=h.flen; omega,by have:=h.clen; omega⟩
theorem SP.adopted {at_ node:Int} {g:A_} {k:Nat} (hg:SP g k) (hn:1<=node/\node<=6):∀ (j:Nat) (e:Int),SP (Lf g at_ (Cn g (node-1).toNat) node j e).2 (k+1)/\(Lf g at_ (Cn g (node-1).toNat) node j e).2.1=g.1
 | 0,_=>⟨hg.up,rfl⟩
 | j+1,e=>by
  obtain ⟨m1,m2⟩:=hg.mem (node-1).toNat (by omega)
  unfold Lf
  split
  ·exact SP.adopted hg hn j (e+1)
  ·split
   ·rename_i hq
    obtain ⟨a1,a2,a3,a4⟩:=bF (e:=e) m1 hg.views hq
    exact ⟨hg.member (i:=(node-1).toNat) (by omega) a1 (by rw [a2,m2]) (ABI a3) a4,rfl⟩
   ·exact ⟨hg.up,rfl⟩
theorem fN (at_ node:Int) (g:A_) (k:Nat) (hg:SP g k) (hk:k<=1000) (hn:1<=node/\node<=6):Pg at_ node g=some (aW g at_ node)/\SP (aW g at_ node).2 (k+1)/\(aW g at_ node).2.1=g.1:=by
 have hc:=hg.clen
 have hf:=hg.flen
 have h6:=hg.six
 have hvl:=hg.views.len
 have wn:IntKind.i64.wrap (node-1)=node-1:=AN (by omega)
 obtain ⟨m1,m2⟩:=hg.mem (node-1).toNat (by omega)
 have hep:=m1.ep
 have wm:IntKind.i64.wrap ((Cn g (node-1).toNat).2.1+1)=(Cn g (node-1).toNat).2.1+1:=AN (by omega)
 have key:∀ (j:Nat) (e:Int),e=(g.1.length:Int)+1-(j:Int)->2<=e->Hy at_ node e g (Cn g (node-1).toNat)=some (Lf g at_ (Cn g (node-1).toNat) node j e):=by
  intro j
  induction j with
  | zero =>
   intro e he h2
   refine Lb ?_
   unfold Hz
   rw [if_neg (by simp; omega)]
   rfl
  | succ j ih =>
   intro e he h2
   have we:IntKind.i64.wrap (e-1)=e-1:=AN (by omega)
   have we2:IntKind.i64.wrap (e+1)=e+1:=AN (by omega)
   have gv:=hg.views.get (i:=(e-1).toNat) (by omega)
   have ha:=bF (e:=e) m1 hg.views
   have i1:=ih (e+1) (by omega) (by omega)
   unfold Lf
   refine Lb ?_
   ·unfold Hz
    rw [if_pos (by simp; omega),we,we2,if_pos (by omega),if_pos (by omega),if_pos (by omega),if_pos (by omega),show (g.1.getD (e-1).toNat ([]:List Int)).getD (0:Int).toNat 0=(g.1.getD (e-1).toNat []).getD 0 0 from rfl]
    by_cases h3:((g.1.getD (e-1).toNat []).getD 0 0 != node)=true
    ·rw [if_pos h3,if_pos h3,i1]
    ·rw [if_neg h3,if_neg h3,pK _ _ _ m1 hg.views,AC]
     cases hq:(GE (Cn g (node-1).toNat) g.1 e).2.2 with
     | false=>rfl
     | true =>
      obtain ⟨a1,a2,a3,a4⟩:=ha hq
      rw [if_neg (by simp),if_pos rfl,G4 _ _ _ _ _ a1.id h6 (by omega) (by omega) Ft]
      rfl
 have hmain:=key ((g.1.length:Int)-(Cn g (node-1).toNat).2.1).toNat ((Cn g (node-1).toNat).2.1+1)
 by_cases hle:(Cn g (node-1).toNat).2.1<=(g.1.length:Int)
 ·have k1:=hmain (by omega) (by omega)
  refine ⟨Xx ?_,hg.adopted hn _ _⟩
  unfold Po
  rw [wn,if_pos (by omega),if_pos (by omega),ACa g (node-1).toNat,wm]
  exact k1
 ·have e0:((g.1.length:Int)-(Cn g (node-1).toNat).2.1).toNat=0:=by omega
  unfold aW
  rw [e0]
  refine ⟨Xx ?_,hg.up,rfl⟩
  unfold Po
  rw [wn,if_pos (by omega),if_pos (by omega),ACa g (node-1).toNat,wm]
  refine Lb ?_
  unfold Hz
  rw [if_neg (fun h=>hle (by have:=of_decide_eq_true h; omega))]
  rfl
def Ns (g:A_) (i:Nat):A_:=(g.1,g.2.1,g.2.2.1.take i++g.2.2.1.drop (i+1),g.2.2.2)
def jC (g:A_) (at_:Int) (e:CZ):Int×A_ :=
 if g.2.2.1=[] then (1,g)
 else if e.1=4 then (0,(g.1,g.2.1,g.2.2.1++[g.2.2.1.getD (e.2.2.1 % (g.2.2.1.length:Int)).toNat D4],g.2.2.2))
 else if e.1=3 then (0,Ns g (e.2.2.1 % (g.2.2.1.length:Int)).toNat)
 else (0,F7 (Ns g (e.2.2.1 % (g.2.2.1.length:Int)).toNat)
  (EY (Cn g ((g.2.2.1.getD (e.2.2.1 % (g.2.2.1.length:Int)).toNat D4).2.2.1-1).toNat) g.1 (g.2.2.1.getD (e.2.2.1 % (g.2.2.1.length:Int)).toNat D4)).1
  (EY (Cn g ((g.2.2.1.getD (e.2.2.1 % (g.2.2.1.length:Int)).toNat D4).2.2.1-1).toNat) g.1 (g.2.2.1.getD (e.2.2.1 % (g.2.2.1.length:Int)).toNat D4)).2.1
  (EY (Cn g ((g.2.2.1.getD (e.2.2.1 % (g.2.2.1.length:Int)).toNat D4).2.2.1-1).toNat) g.1 (g.2.2.1.getD (e.2.2.1 % (g.2.2.1.length:Int)).toNat D4)).2.2 at_)
theorem SP.less {g:A_} {k:Nat} (h:SP g k) (i:Nat):SP (Ns g i) k:=by
 refine ⟨h.views,h.six,h.mem,fun x hx=>?_,?_,h.clen⟩
 ·rcases CD.1 hx with h1 | h1
  ·exact h.fly x (List.mem_of_mem_take h1)
  ·exact h.fly x (List.mem_of_mem_drop h1)
 ·have:=h.flen
  simp only [Ns,List.length_append,List.length_take,List.length_drop]
  omega
theorem SP.flew {at_:Int} {e:CZ} {g:A_} {k:Nat} (hg:SP g k):SP (jC g at_ e).2 (k+1)/\(jC g at_ e).2.1=g.1:=by
 have hc:=hg.clen
 have hf:=hg.flen
 unfold jC
 split
 ·exact ⟨hg.up,rfl⟩
 ·rename_i h0
  have hl:0<g.2.2.1.length:=List.length_pos_iff.2 h0
  have hr0:=Int.emod_nonneg e.2.2.1 (show (g.2.2.1.length:Int)≠0 by omega)
  have hr1:=Int.emod_lt_of_pos e.2.2.1 (show 0<(g.2.2.1.length:Int) by omega)
  generalize hq:e.2.2.1 % (g.2.2.1.length:Int)=q at hr0 hr1
  have hx:=hg.fly (g.2.2.1.getD q.toNat D4) (by rw [Ac (show q.toNat<g.2.2.1.length by omega)]; exact Bk _)
  have hto:=hx.to
  obtain ⟨m1,m2⟩:=hg.mem ((g.2.2.1.getD q.toNat D4).2.2.1-1).toNat (by omega)
  have hh:=aU (x:=g.2.2.1.getD q.toNat D4) m1 hg.views
  have hless:=hg.less q.toNat
  split
  ·refine ⟨⟨hg.views,hg.six,hg.mem,fun x hx'=>?_,by simp only [List.length_append,List.length_cons,List.length_nil]; omega,by show g.2.2.2.length<=_; omega⟩,rfl⟩
   rcases CD.1 hx' with h1 | h1
   ·exact hg.fly x h1
   ·simp only [C1] at h1; subst h1; exact hx
  ·split
   ·exact ⟨hless.up,rfl⟩
   ·exact ⟨hless.member (i:=((g.2.2.1.getD q.toNat D4).2.2.1-1).toNat) (by omega) hh.mok (by rw [hh.id,m2]) (ABI hh.told) hh.tlen,rfl⟩
theorem mc (at_:Int) (e:CZ) (g:A_) (k:Nat) (hg:SP g k) (hk:k<=1000) (hn:0<=e.2.2.1):UO at_ e g=some (jC g at_ e)/\SP (jC g at_ e).2 (k+1)/\(jC g at_ e).2.1=g.1:=by
 have hc:=hg.clen
 have hf:=hg.flen
 have h6:=hg.six
 have hvl:=hg.views.len
 refine ⟨tP ?_,hg.flew⟩
 by_cases h0:g.2.2.1=[]
 ·unfold jC
  rw [if_pos h0]
  unfold UU
  rw [h0,if_pos (by rfl)]
 ·have hl:0<g.2.2.1.length:=List.length_pos_iff.2 h0
  have hm:Int.tmod e.2.2.1 (g.2.2.1.length:Int)=e.2.2.1 % (g.2.2.1.length:Int):=Int.tmod_eq_emod_of_nonneg hn
  have hr0:=Int.emod_nonneg e.2.2.1 (show (g.2.2.1.length:Int)≠0 by omega)
  have hr1:=Int.emod_lt_of_pos e.2.2.1 (show 0<(g.2.2.1.length:Int) by omega)
  generalize hq:e.2.2.1 % (g.2.2.1.length:Int)=q at hm hr0 hr1
  have hx:=hg.fly (g.2.2.1.getD q.toNat D4) (by rw [Ac (show q.toNat<g.2.2.1.length by omega)]; exact Bk _)
  have wq:IntKind.i64.wrap (q+1)=q+1:=AN (by omega)
  have hto:=hx.to
  have wt:IntKind.i64.wrap ((g.2.2.1.getD q.toNat D4).2.2.1-1)=(g.2.2.1.getD q.toNat D4).2.2.1-1:=AN (by omega)
  obtain ⟨m1,m2⟩:=hg.mem ((g.2.2.1.getD q.toNat D4).2.2.1-1).toNat (by omega)
  have hh:=aU (x:=g.2.2.1.getD q.toNat D4) m1 hg.views
  have hless:=hg.less q.toNat
  have hxl:=Jk hx.items
  have hz:g.2.2.1.getD q.toNat ((0:Int),(0:Int),(0:Int),(0:Int),(0:Int),([]:List Ad))=g.2.2.1.getD q.toNat D4:=rfl
  have hz2:∀ i,g.2.1.getD i ((0:Int),(0:Int),false,false,false,false,([]:List Int),([]:List Ad),(0:Int),(0:Int),(0:Int),(0:Int),(U,U,(0:Int)),([]:List Int))=Cn g i:=fun i=>rfl
  have e1:(g.2.2.1.take q.toNat).drop (0:Int).toNat=g.2.2.1.take q.toNat:=rfl
  have e2:(g.2.2.1.take (g.2.2.1.length:Int).toNat).drop (q+1).toNat=g.2.2.1.drop (q.toNat+1):=by
   rw [show (g.2.2.1.length:Int).toNat=g.2.2.1.length from by omega,List.take_length,show (q+1).toNat=q.toNat+1 from by omega]
  unfold jC
  rw [if_neg h0,hq]
  ·unfold UU
   rw [if_neg (by simp; exact h0),if_neg (by omega),hm,hz,wq,wt,hz2,e1,e2,if_pos hr0,if_pos hr1]
   simp only [List.nil_append,List.length_nil,Nat.zero_add]
   by_cases h4:e.1=4
   ·rw [if_pos (by simpa using h4),if_pos h4,if_pos (by omega),if_pos (by simp; omega)]
   ·rw [if_neg (by simpa using h4),if_neg h4,if_pos (by omega),if_pos hr0,if_pos (by omega),if_pos (by omega),if_pos (by omega),if_pos (by omega),if_pos (by simp; omega),if_pos (by simp; omega)]
    by_cases h3:e.1=3
    ·rw [if_pos (by simpa using h3),if_pos h3]
     rfl
    ·rw [if_neg (by simpa using h3),if_neg h3,if_pos (by omega),if_pos (by omega),jA _ _ _ m1 hg.views (by omega),AC]
     have htl:=hh.tlen
     have:=G4 (EY (Cn g ((g.2.2.1.getD q.toNat D4).2.2.1-1).toNat) g.1 (g.2.2.1.getD q.toNat D4)).1 (EY (Cn g ((g.2.2.1.getD q.toNat D4).2.2.1-1).toNat) g.1 (g.2.2.1.getD q.toNat D4)).2.1 (EY (Cn g ((g.2.2.1.getD q.toNat D4).2.2.1-1).toNat) g.1 (g.2.2.1.getD q.toNat D4)).2.2 at_ (Ns g q.toNat) hh.mok.id h6 (by have:=hless.flen; omega) (by have:=hless.clen; omega) hh.said
     unfold Ns at this ⊢
     rw [this]
     rfl
def uJ (g:A_) (at_:Int) (e:CZ):Int×A_ :=
 if e.1=1 then NJ g at_ e else if e.1=5 then aW g at_ e.2.1
 else if e.1=6 then (0,F7 g (YS (Cn g (e.2.1-1).toNat)) [] [] at_) else jC g at_ e
theorem SP.event {at_:Int} {e:CZ} {g:A_} {k:Nat} (hg:SP g k) (he:PQ e=true):SP (uJ g at_ e).2 (k+1)/\(uJ g at_ e).2.1=g.1:=by
 have hn:=pa he
 unfold uJ
 split
 ·exact hg.began (by omega)
 ·split
  ·exact hg.adopted (by omega) _ _
  ·split
   ·obtain ⟨m1,m2⟩:=hg.mem (e.2.1-1).toNat (by omega)
    exact ⟨hg.member (i:=(e.2.1-1).toNat) (by omega) m1.fall1 m2 (fun y hy=>by cases hy) (by simp),rfl⟩
   ·exact hg.flew
theorem pL (at_:Int) (e:CZ) (g:A_) (k:Nat) (hg:SP g k) (hk:k<=1000) (he:PQ e=true):Wi at_ e g=some (uJ g at_ e)/\SP (uJ g at_ e).2 (k+1)/\(uJ g at_ e).2.1=g.1:=by
 have hn:=pa he
 have h6:=hg.six
 have hc:=hg.clen
 have hf:=hg.flen
 refine ⟨vE ?_,hg.event he⟩
 unfold uJ
 by_cases h1:e.1=1
 ·have a:=(fM at_ e g k hg hk (by omega)).1
  rw [if_pos h1]
  unfold Mu
  rw [if_pos (by simpa using h1),a]
  rfl
 ·rw [if_neg h1]
  by_cases h5:e.1=5
  ·have a:=(fN at_ e.2.1 g k hg hk (by omega)).1
   rw [if_pos h5]
   unfold Mu
   rw [if_neg (by simpa using h1),if_pos (by simpa using h5),a]
   rfl
  ·rw [if_neg h5]
   by_cases h7:e.1=6
   ·obtain ⟨m1,m2⟩:=hg.mem (e.2.1-1).toNat (by omega)
    rw [if_pos h7]
    have wn:IntKind.i64.wrap (e.2.1-1)=e.2.1-1:=AN (by omega)
    unfold Mu
    rw [if_neg (by simpa using h1),if_neg (by simpa using h5),if_pos (by simpa using h7),wn,if_pos (by omega),if_pos (by omega),
     ACa g (e.2.1-1).toNat,
     tc,AC,G4 _ _ _ _ _ m1.fall1.id h6 (by simp; omega) (by omega) Ft]
    rfl
   ·have a:=(mc at_ e g k hg hk (by omega)).1
    rw [if_neg h7]
    unfold Mu
    rw [if_neg (by simpa using h1),if_neg (by simpa using h5),if_neg (by simpa using h7),a]
    rfl

theorem NK (x:List (List Int)) (h:x.length<=1000) (ho:∀ a∈x,a.length<=1000):Gt x=some x:=bc (by
 unfold QS
 have key:=HR (n:=x.length) (P:=fun i=>E8 x (i:Int) (x.take i)=some x) (My (by
  unfold Hx
  rw [if_neg (by simp),List.take_length])) (fun i hi ih=>My (by
  unfold Hx
  have:=ho x[i] (Bk hi)
  simp only [show ((i:Int)<(x.length:Int)) from by omega,decide_true,if_true,show (0:Int)<=(i:Int) from by omega,Al,Ac hi,AW (show i<9223372036854775807 by omega),List.nil_append,List.length_nil,Nat.zero_add,List.length_cons,List.length_take]
  rw [if_pos (by omega),if_pos (by omega),List.take_append_getElem]
  exact ih)) 0 (by omega)
 exact key)
theorem Yo (x:List Bc) (h:x.length<=100000) (ho:∀ a∈x,a.2.2.2.2.2.length<=1000):LF x=some x:=eP (by
 unfold SE
 have key:=HR (n:=x.length) (P:=fun i=>D0 x (i:Int) (x.take i)=some x) (Nc (by
  unfold IU
  rw [if_neg (by simp),List.take_length])) (fun i hi ih=>Nc (by
  unfold IU
  have:=ho x[i] (Bk hi)
  simp only [show ((i:Int)<(x.length:Int)) from by omega,decide_true,if_true,show (0:Int)<=(i:Int) from by omega,Al,Ac hi,AW (show i<9223372036854775807 by omega),List.nil_append,List.length_nil,Nat.zero_add,List.length_cons,List.length_take]
  rw [if_pos (by omega),if_pos (by omega)]
  change D0 x _ (x.take i++[x[i]])=_
  rw [List.take_append_getElem]
  exact ih)) 0 (by omega)
 exact key)
theorem jD (g:A_) (k:Nat) (hg:SP g k) (hk:k<=1000):Ro g=some g:=rN (by
 have hvl:=hg.views.len
 have hc:=hg.clen
 have hf:=hg.flen
 have h6:=hg.six
 unfold Ze
 rw [NK g.1 (by omega) (fun a ha=>by have:=hg.views.view ha; omega),AC,Yo g.2.2.1 (by omega) (fun a ha=>by have:=Jk (hg.fly a ha).items; omega),AC,if_pos (by simp; omega)]
 have key:∀ (a b c d e:_),GY ((0:Nat):Int) g.1 g.2.1 g.2.2.1 g.2.2.2 a b c d e [] g.1 g.2.2.1 ([]++g.2.2.2)=some g:=by
  intro a b c d e
  have key':=HR (n:=g.2.1.length) (P:=fun i=>GY (i:Int) g.1 g.2.1 g.2.2.1 g.2.2.2 a b c d e (g.2.1.take i) g.1 g.2.2.1 ([]++g.2.2.2)=some g) (Te (by
   unfold Mv
   rw [if_neg (by simp),List.take_length]
   rfl)) (fun i hi ih=>Te (by
   unfold Mv
   have hm:=(hg.mem i (by omega)).1
   unfold Cn at hm
   rw [Ac hi] at hm
   simp only [show ((i:Int)<(g.2.1.length:Int)) from by omega,decide_true,if_true,show (0:Int)<=(i:Int) from by omega,Al,Ac hi,hm.copy,AC,AW (show i<9223372036854775807 by omega),List.length_take,List.length_cons,List.length_nil]
   rw [if_pos (by omega),List.take_append_getElem]
   exact ih)) 0 (by omega)
  exact key'
 exact key _ _ _ _ _)
def Bj (views:List (List Int)):A_:=(views,[HQ 1 views,HQ 2 views,HQ 3 views,HQ 4 views,HQ 5 views,HQ 6 views],[],[])
theorem md {views:List (List Int)} (hv:WP views):SP (Bj views) 0:=by
 refine ⟨hv,rfl,fun i hi=>?_,fun x hx=>(by cases hx),(by simp [Bj]),(by simp [Bj])⟩
 have h5:i=0\/i=1\/i=2\/i=3\/i=4\/i=5:=by omega
 rcases h5 with rfl | rfl | rfl | rfl | rfl | rfl<;>exact ⟨J_.first1 (by omega) hv,rfl⟩
theorem UC {views:List (List Int)} (hv:WP views):Kx views=some (Bj views,true):=Xt (by
 have hvl:=hv.len
 unfold Pl
 rw [Ge hv,AC,if_neg (by simp),NK views (by omega) (fun a ha=>by have:=hv.view ha; omega),AC]
 have step:∀ (i:Nat) (a:_) (b:_) (c:_) (d:_) (l:List AF) r,1<=i->i<=6->l.length<=6->Fo views ((i+1:Nat):Int) a b c d (l++[HQ (i:Int) views]) views=some r->Fo views (i:Int) a b c d l views=some r:=by
  intro i a b c d l r h1 h6 hl hr
  refine R9 ?_
  unfold LW
  rw [if_pos (by simp; omega),cC _ _ (by omega) hv,AC,if_pos (by simp; omega),AW (show i<9223372036854775807 by omega)]
  exact hr
 refine step 1 _ _ _ _ _ _ (by omega) (by omega) (by simp) ?_
 refine step 2 _ _ _ _ _ _ (by omega) (by omega) (by simp) ?_
 refine step 3 _ _ _ _ _ _ (by omega) (by omega) (by simp) ?_
 refine step 4 _ _ _ _ _ _ (by omega) (by omega) (by simp) ?_
 refine step 5 _ _ _ _ _ _ (by omega) (by omega) (by simp) ?_
 refine step 6 _ _ _ _ _ _ (by omega) (by omega) (by simp) ?_
 refine R9 ?_
 unfold LW
 rw [if_neg (by decide)]
 rfl)
def Q2:Nat->List CZ->A_->List Int->A_×List Int
 | _,[],g,cs=>(g,cs)
 | n,e::es,g,cs=>Q2 (n+1) es (uJ g (n:Int) e).2 (cs++[(uJ g (n:Int) e).1])
theorem vR:∀ (es:List CZ) (n:Nat) (g:A_) (cs:List Int),SP g n->n+es.length<=70->(∀ e∈es,PQ e=true)->SP (Q2 n es g cs).1 (n+es.length)/\(Q2 n es g cs).1.1=g.1/\(Q2 n es g cs).2.length=cs.length+es.length
 | [],n,g,cs,hg,_,_=>⟨hg,rfl,rfl⟩
 | e::es,n,g,cs,hg,hn,he=>by
  simp only [List.length_cons] at hn
  obtain ⟨h2,h3⟩:=hg.event (at_:=(n:Int)) (he e (by simp))
  obtain ⟨h4,h5,h6⟩:=vR es (n+1) _ (cs++[(uJ g (n:Int) e).1]) h2 (by omega) (fun x hx=>he x (by simp [hx]))
  refine ⟨?_,h5.trans h3,?_⟩
  ·have:n+(e::es).length=n+1+es.length:=by simp only [List.length_cons]; omega
   rw [this]
   exact h4
  ·simp only [Q2,h6,List.length_append,List.length_cons,List.length_nil]
   omega
theorem jE {views:List (List Int)} {events:List CZ} (hv:WP views) (hl:events.length<=70) (he:∀ e∈events,PQ e=true) :
  Kv views events=some ((Q2 0 events (Bj views) []).1,(Q2 0 events (Bj views) []).2,true):=Xr (by
 have hg:=md hv
 obtain ⟨r1,r2,r3⟩:=vR events 0 (Bj views) [] hg (by omega) he
 unfold Pk
 rw [UC hv,AC]
 have L3:∀ y,Fk events ((0:Nat):Int) y (Bj views) []=some ((Q2 0 events (Bj views) []).1,(Q2 0 events (Bj views) []).2,true):=by
  intro y
  have key:=HR (n:=events.length) (P:=fun i=>∀ (g:A_) (cs:List Int),SP g i->cs.length=i->Q2 i (events.drop i) g cs=Q2 0 events (Bj views) []->Fk events (i:Int) y g cs=some ((Q2 0 events (Bj views) []).1,(Q2 0 events (Bj views) []).2,true)) (fun g cs hgi hcs hr=>Rz (by
   unfold LO
   rw [if_neg (by simp),jD g events.length hgi (by omega),AC]
   rw [List.drop_eq_nil_of_le (Nat.le_refl _)] at hr
   rw [<- hr]
   rfl)) (fun i hi ih g cs hgi hcs hr=>Rz (by
   unfold LO
   obtain ⟨d1,d2,_⟩:=pL (i:Int) events[i] g i hgi (by omega) (he _ (Bk hi))
   simp only [show ((i:Int)<(events.length:Int)) from by omega,decide_true,if_true,show (0:Int)<=(i:Int) from by omega,Al,Ac hi,d1,AC,AW (show i<9223372036854775807 by omega)]
   rw [if_pos (by simp; omega)]
   refine ih _ _ d2 (by simp; omega) ?_
   rw [Bu hi] at hr
   exact hr)) 0 (by omega) (Bj views) [] hg rfl rfl
  exact key
 have L0:∀ y,Ch events true ((0:Nat):Int) y (Bj views)=some ((Q2 0 events (Bj views) []).1,(Q2 0 events (Bj views) []).2,true):=by
  intro y
  have J2:Fl events true y (Bj views)=some ((Q2 0 events (Bj views) []).1,(Q2 0 events (Bj views) []).2,true):=R0 (by
   unfold LP
   rw [if_neg (by simp)]
   exact L3 y)
  refine HR (n:=events.length) (P:=fun i=>Ch events true (i:Int) y (Bj views)=some ((Q2 0 events (Bj views) []).1,(Q2 0 events (Bj views) []).2,true)) (Fm (by
   unfold D8
   rw [if_neg (by simp)]
   exact J2)) (fun i hi ih=>Fm (by
   unfold D8
   rw [if_pos (by simpa using hi),if_pos rfl]
   refine LQ ?_
   unfold Hn
   have hz:events.getD i ((0:Int),(0:Int),(0:Int),(0:Int),U,U)=events[i]:=Ac hi
   rw [if_pos (by simp; omega),if_pos (by omega),if_pos (by omega),Al,hz,T8,he _ (Bk hi),AC,AW (show i<9223372036854775807 by omega)]
   exact ih)) 0 (by omega)
 exact L0 _)





def pb (views:List (List Int)) (e:Int):Int:=(views.getD (e-1).toNat []).getD 0 0
def PU (l:List Ad) (b:Int):Prop:=∀ y∈l,y.2.2<=b
theorem PU.mono {l:List Ad} {a b:Int} (h:PU l a) (hab:a<=b):PU l b:=fun y hy=>Int.le_trans (h y hy) hab
theorem me {b:Int}:PU [] b:=fun y hy=>by cases hy
theorem xI {x:List Ad} {a b:Ad} (h:b∈Dz x a):b=a\/b∈x:=by
 unfold Dz at h
 split at h
 ·exact .inr h
 ·split at h
  ·split at h
   ·exact xC h
   ·exact .inr h
  ·exact .inr h
theorem PU.put {l:List Ad} {a:Ad} {b:Int} (h:PU l b) (ha:a.2.2<=b):PU (Dz l a) b:=fun y hy=>by
 rcases xI hy with e | e
 ·rw [e]; exact ha
 ·exact h y e
structure V1 (views:List (List Int)) (m:AF):Prop where
 lead:m.2.2.2.2.1=true->m.2.1<=(views.length:Int)/\pb views m.2.1=m.1
 ver:PU m.2.2.2.2.2.2.2.1 (1000*m.2.1+900)
 own:m.2.2.2.2.1=true->m.2.2.2.1=true->PU m.2.2.2.2.2.2.2.1 (1000*m.2.1+m.2.2.2.2.2.2.2.2.1)
 task:m.2.2.2.2.2.2.2.2.2.1≠0->m.2.2.2.2.2.2.2.2.2.2.2.2.1.2.2<=1000*m.2.1+m.2.2.2.2.2.2.2.2.1
 view:m.2.2.2.1=true->m.2.1<=(views.length:Int)/\(views.getD (m.2.1-1).toNat []).contains m.1=true
structure V2 (views:List (List Int)) (x:Bc):Prop where
 inst:x.1=3->x.2.2.2.2.1=0
 old:x.1=2\/x.1=3->PU x.2.2.2.2.2 (1000*x.2.2.2.1)
 store:x.1=5->x.2.2.1≠pb views x.2.2.2.1/\PU x.2.2.2.2.2 (1000*x.2.2.2.1+900)
theorem V2.plain {views:List (List Int)} {x:Bc} (h2:x.1≠2) (h3:x.1≠3) (h5:x.1≠5):V2 views x:=⟨fun h=>absurd h h3,fun h=>by omega,fun h=>absurd h h5⟩
theorem V1.finish {views:List (List Int)} {m:AF} (h:V1 views m) (hc:m.2.2.2.2.2.2.2.2.1<=900) (h0:m.2.2.2.2.2.2.2.2.2.1≠0):V1 views (F6 m).2:=by
 have ht:=h.task h0
 unfold F6
 split
 ·exact ⟨h.lead,h.ver.put (by omega),fun h1 h2=>(h.own h1 h2).put ht,fun h0=>absurd rfl h0,h.view⟩
 ·exact ⟨h.lead,h.ver,h.own,fun h0=>absurd rfl h0,h.view⟩
theorem V1.bare {views:List (List Int)} {m:AF} (h:V1 views m) {e:Int} (he:m.2.1<=e):V1 views (WJ m e) :=
 ⟨fun h=>(by cases h),h.ver.mono (by show _<=1000*e+900; omega),fun h=>(by cases h),fun h=>absurd rfl h,fun h=>(by cases h)⟩
theorem V1.inst {views:List (List Int)} {i e:Int} {its:List Ad} (h:PU its (1000*e)) (hv:e<=(views.length:Int)/\(views.getD (e-1).toNat []).contains i=true):V1 views (i,e,false,true,false,false,([]:List Int),its,(0:Int),(0:Int),(0:Int),(0:Int),(U,U,(0:Int)),([]:List Int)) :=
 ⟨fun h=>(by cases h),h.mono (by show _<=1000*e+900; omega),fun h=>(by cases h),fun h=>absurd rfl h,fun _=>hv⟩
theorem ABJ {views:List (List Int)} {i e:Int} (hv:WP views) (h1:1<=e) (he:e<=(views.length:Int)) (hf:pb views e=i):(views.getD (e-1).toNat []).contains i=true:=by
 have g:=hv.get (i:=(e-1).toNat) (by omega)
 rw [<- hf,List.contains_iff_mem,pb,Ac (show 0<(views.getD (e-1).toNat []).length by omega)]
 exact Bk _
theorem V1.has {views:List (List Int)} {m:AF} {view:List Int} {its:List Ad} (hv:WP views) (h1:1<=m.2.1) (hl:m.2.2.2.2.1=true) (h:V1 views m) (hc:0<=m.2.2.2.2.2.2.2.2.1) (hi:PU its (1000*m.2.1)):V1 views (WI m view its) :=
 ⟨h.lead,hi.mono (by show _<=1000*m.2.1+900; omega),fun _ _=>hi.mono (by show _<=1000*m.2.1+m.2.2.2.2.2.2.2.2.1; omega),h.task,fun _=>⟨(h.lead hl).1,ABJ hv h1 (h.lead hl).1 (h.lead hl).2⟩⟩
theorem V2.insts {views:List (List Int)} {i e:Int} {l:List Int} {its:List Ad} (h:PU its (1000*e)):∀ y∈l.map (fun v=>((3:Int),i,v,e,(0:Int),its)),V2 views y:=by
 intro y hy
 obtain ⟨v,_,rfl⟩:=List.mem_map.1 hy
 exact ⟨fun _=>rfl,fun _=>h,fun h5=>absurd h5 (by decide:(3:Int)≠5)⟩
theorem V2.reply {views:List (List Int)} {m:AF} {x:Bc} {k:Int} (hk:k=4\/k=6\/k=8):∀ y∈En m x k,V2 views y:=by
 intro y hy
 simp only [En,C1] at hy
 subst hy
 exact V2.plain (by show k≠2; omega) (by show k≠3; omega) (by show k≠5; omega)
theorem y_ {views:List (List Int)}:∀ y∈([]:List Bc),V2 views y:=fun y hy=>by cases hy
def V4 (views:List (List Int)) (n:AF) (told:List Bc):Prop:=V1 views n/\∀ y∈told,V2 views y
theorem V4.same {views:List (List Int)} {m:AF} (h:V1 views m):V4 views m []:=⟨h,y_⟩
theorem ABK {views:List (List Int)} {m:AF} (h:V1 views m) (hc:m.2.2.2.2.2.2.2.2.1<=900) (h0:m.2.2.2.2.2.2.2.2.2.1≠0) (f:Int):V4 views (G3 m f).1 (G3 m f).2.1:=by
 have hl:V1 views (xF m f):=⟨h.lead,h.ver,h.own,h.task,h.view⟩
 unfold G3
 split
 ·exact ⟨hl.finish hc h0,y_⟩
 ·exact .same hl
theorem ADg {views:List (List Int)} {m:AF} {x:Bc} (hv:WP views) (hlen:m.2.1<=(views.length:Int)) (hm:J_ m) (h:V1 views m) (hx:V2 views x) (hxo:XOk x) (ht:x.2.2.1=m.1) (he:x.2.2.2.1=m.2.1):V4 views (fJ m (views.getD (m.2.1-1).toNat []) x).1 (fJ m (views.getD (m.2.1-1).toNat []) x).2.1:=by
 have hcnt:=hm.count
 unfold fJ
 by_cases k2:x.1=2
 ·rw [if_pos k2]
  split
  ·rename_i hc
   simp only [AE] at hc
   have:=hx.old (.inl k2)
   rw [he] at this
   exact ⟨V1.has hv hm.ep.1 hc.1 h hcnt.1 this,V2.insts this⟩
  ·exact .same h
 rw [if_neg k2]
 by_cases k3:x.1=3
 ·rw [if_pos k3]
  split
  ·exact .same h
  ·rename_i hc
   split
   ·exact .same h
   ·split
    ·exact ⟨h,V2.reply (.inl rfl)⟩
    ·have:=hx.old (.inr k3)
     rw [he] at this
     refine ⟨V1.inst this ⟨hlen,?_⟩,V2.reply (.inl rfl)⟩
     cases q:(views.getD (m.2.1-1).toNat []).contains m.1 with
     | true=>rfl
     | false=>rw [q] at hc; exact absurd rfl hc
 rw [if_neg k3]
 by_cases k4:x.1=4
 ·rw [if_pos k4]
  split
  ·exact .same ⟨h.lead,h.ver,h.own,h.task,h.view⟩
  ·exact .same h
 rw [if_neg k4]
 by_cases k5:x.1=5
 ·rw [if_pos k5]
  split
  ·obtain ⟨s1,s2⟩:=hx.store k5
   have hlen:x.2.2.2.2.2.length=1:=by
    have:=hxo.shape
    rw [if_neg (by omega),if_pos k5] at this
    exact this
   have hit:(x.2.2.2.2.2.getD 0 (U,U,(0:Int))).2.2<=1000*m.2.1+900:=by
    rw [Ac (show 0<x.2.2.2.2.2.length by omega),<- he]
    exact s2 _ (Bk _)
   refine ⟨⟨h.lead,h.ver.put hit,fun h1 h2=>?_,h.task,h.view⟩,V2.reply (.inr (.inl rfl))⟩
   exact absurd (h.lead h1).2 (by rw [<- he,<- ht]; exact Ne.symm s1)
  ·exact .same h
 rw [if_neg k5]
 by_cases k7:x.1=7
 ·rw [if_pos k7]
  split
  ·exact ⟨h,V2.reply (.inr (.inr rfl))⟩
  ·exact .same h
 rw [if_neg k7]
 by_cases hc:(x.1=6\/x.1=8)/\m.2.2.2.2.2.2.2.2.2.1=(if x.1=8 then 2 else 1)/\m.2.2.2.2.2.2.2.2.2.2.2.1=x.2.2.2.2.1
 ·rw [if_pos hc]
  exact ABK h hcnt.2 (by have:=hc.2.1; split at this<;>omega) _
 ·rw [if_neg hc]
  exact .same h
theorem ADK {views:List (List Int)} {m:AF} {x:Bc} (hv:WP views) (hm:J_ m) (h:V1 views m) (hx:V2 views x):V4 views (EY m views x).1 (EY m views x).2.1:=by
 unfold EY
 split
 ·rename_i hc
  simp only [AE,decide_eq_true_eq,beq_iff_eq] at hc
  obtain ⟨⟨⟨hmo,h1⟩,h2⟩,h3⟩:=hc
  split
  ·rename_i he
   exact ADg hv (by omega) hm h hx (bC.1 hmo) h1 he
  ·split
   ·rename_i hs
    simp only [AE,beq_iff_eq] at hs
    refine ⟨h.bare h2,fun y hy=>?_⟩
    simp only [C1] at hy
    subst hy
    refine ⟨fun h3=>absurd h3 (by decide:(2:Int)≠3),fun _=>h.ver.mono ?_,fun h5=>absurd h5 (by decide:(2:Int)≠5)⟩
    show _<=1000*x.2.2.2.1
    omega
   ·split
    ·rename_i hs
     simp only [AE,beq_iff_eq] at hs
     exact ⟨V1.inst (hx.old (.inr hs.1.1)) ⟨h3,hs.1.2⟩,V2.reply (.inl rfl)⟩
    ·exact .same h
 ·exact .same h
theorem ACb {view:List Int} {i v:Int} (h:v∈CV view i):v≠i:=by
 have:=(List.mem_filter.1 h).2
 simpa using this
theorem ACc {views:List (List Int)} {m:AF} {op call:Int} {key val:ByteArray} (hm:J_ m) (h:V1 views m) (hb:(Dv m views op call key val).2.2.2=true) :
  V4 views (Dv m views op call key val).1 (Dv m views op call key val).2.1:=by
 have hcnt:=hm.count
 unfold Dv at hb ⊢
 split at hb
 ·rename_i hmay
  rw [if_pos hmay]
  obtain ⟨h1,h2,h3,h4,h5,h6,h7,h8,h9,h10⟩:=ma hmay
  split at hb
  ·cases hb
  ·rename_i hn
   rw [if_neg hn]
   have ht:V1 views (KA m (views.getD (m.2.1-1).toNat []) op call key val):=by
    refine ⟨h.lead,h.ver,fun a b=>(h.own a b).mono ?_,fun _=>?_,h.view⟩
    ·show _<=1000*m.2.1+(m.2.2.2.2.2.2.2.2.1+1); omega
    ·show 1000*m.2.1+(m.2.2.2.2.2.2.2.2.1+1)<=1000*m.2.1+(m.2.2.2.2.2.2.2.2.1+1); omega
   unfold Ub
   split
   ·exact ⟨ht.finish (by show m.2.2.2.2.2.2.2.2.1+1<=900; omega) (by show op≠0; omega),y_⟩
   ·refine ⟨ht,fun y hy=>?_⟩
    obtain ⟨v,hv,rfl⟩:=List.mem_map.1 hy
    have hne:=ACb hv
    by_cases ho:op=1
    ·rw [if_pos ho,if_pos ho]
     refine ⟨fun h3=>absurd h3 (by decide:(5:Int)≠3),fun h=>absurd h (by decide:¬ ((5:Int)=2\/(5:Int)=3)),fun _=>⟨fun e=>hne (e.trans ?_),fun z hz=>?_⟩⟩
     ·exact h10
     ·simp only [C1] at hz
      subst hz
      show 1000*m.2.1+(m.2.2.2.2.2.2.2.2.1+1)<=1000*m.2.1+900
      omega
    ·rw [if_neg ho,if_neg ho]
     exact V2.plain (by decide:(7:Int)≠2) (by decide:(7:Int)≠3) (by decide:(7:Int)≠5)
 ·cases hb
theorem ACd {views:List (List Int)} {m:AF} {e:Int} (hvo:WP views) (h:V1 views m) (hb:(GE m views e).2.2=true):V4 views (GE m views e).1 (GE m views e).2.1:=by
 unfold GE at hb ⊢
 split at hb
 ·rename_i hc
  rw [if_pos hc]
  have hv:PU m.2.2.2.2.2.2.2.1 (1000*e):=h.ver.mono (by omega)
  have hn:V1 views (L_ m e):=⟨fun _=>⟨hc.2.1,hc.2.2.2⟩,hv.mono (by show _<=1000*e+900; omega),fun _ h=>(by cases h),fun h=>absurd rfl h,fun h=>(by cases h)⟩
  split
  ·exact ⟨V1.has hvo (by show 1<=e; omega) rfl hn (by show (0:Int)<=0; omega) hv,V2.insts hv⟩
  ·refine ⟨hn,fun y hy=>?_⟩
   obtain ⟨v,hv,rfl⟩:=List.mem_map.1 hy
   exact V2.plain (by decide:(1:Int)≠2) (by decide:(1:Int)≠3) (by decide:(1:Int)≠5)
 ·cases hb
theorem V1.fall {views:List (List Int)} {m:AF}:V1 views (YS m):=⟨fun h=>(by cases h),me,fun h=>(by cases h),fun h=>absurd rfl h,fun h=>(by cases h)⟩
theorem V1.first {views:List (List Int)} {i:Int} (hv:WP views):V1 views (HQ i views):=by
 have:=hv.len
 refine ⟨fun h=>⟨by show (1:Int)<=_; omega,?_⟩,me,fun _ _=>me,fun h=>absurd rfl h,fun h=>⟨by show (1:Int)<=_; omega,h⟩⟩
 exact beq_iff_eq.1 h
structure V3 (g:A_):Prop where
 mem:∀ i,i<6->V1 g.1 (Cn g i)
 fly:∀ x∈g.2.2.1,V2 g.1 x
 calls:∀ c∈g.2.2.2,c.2.2.2.2.1=-1\/0<=c.2.2.2.2.1
theorem yC {at_:Int} (ha:0<=at_) (s:Dt) {cs:List Nr} (h:∀ c∈cs,c.2.2.2.2.1=-1\/0<=c.2.2.2.2.1):∀ c∈GF at_ cs s,c.2.2.2.2.1=-1\/0<=c.2.2.2.2.1:=by
 unfold GF
 split
 ·exact h
 ·intro c hc
  rcases List.mem_or_eq_of_mem_set hc with e | e
  ·exact h c e
  ·rw [e]; exact .inr ha
theorem nB {at_:Int} (ha:0<=at_):∀ (said:List Dt) {cs:List Nr},(∀ c∈cs,c.2.2.2.2.1=-1\/0<=c.2.2.2.2.1)->∀ c∈said.foldl (GF at_) cs,c.2.2.2.2.1=-1\/0<=c.2.2.2.2.1
 | [],_,h=>h
 | s::l,_,h=>nB ha l (yC ha s h)
theorem V3.member {g:A_} (h:V3 g) (h6:g.2.1.length=6) {n:AF} {told:List Bc} {said:List Dt} {at_:Int} {i:Nat} (ha:0<=at_) (hi:i<6) (hid:n.1=(i:Int)+1) (hn:V4 g.1 n told):V3 (F7 g n told said at_):=by
 refine ⟨fun j hj=>?_,fun x hx=>?_,nB ha said h.calls⟩
 ·rw [xH h6 hj hid hi]
  split
  ·exact hn.1
  ·exact h.mem j hj
 ·rcases CD.1 hx with h1 | h1
  ·exact h.fly x h1
  ·exact hn.2 x h1
theorem V3.less {g:A_} (h:V3 g) (i:Nat):V3 (Ns g i):=⟨h.mem,fun x hx=>by
 rcases CD.1 hx with h1 | h1
 ·exact h.fly x (List.mem_of_mem_take h1)
 ·exact h.fly x (List.mem_of_mem_drop h1),h.calls⟩
theorem V3.call {g:A_} (h:V3 g) (at_:Int) (e:CZ):V3 (PT g at_ e):=⟨h.mem,h.fly,fun c hc=>by
 rcases CD.1 hc with h1 | h1
 ·exact h.calls c h1
 ·simp only [C1] at h1
  rw [h1]; exact .inl rfl⟩
theorem V3.adopt {g:A_} {k:Nat} (h:V3 g) (hg:SP g k) {at_ node:Int} (ha:0<=at_) (hn:1<=node/\node<=6):∀ (n:Nat) (e:Int),V3 (Lf g at_ (Cn g (node-1).toNat) node n e).2
 | 0,_=>h
 | n+1,e=>by
  unfold Lf
  split
  ·exact V3.adopt h hg ha hn n (e+1)
  ·split
   ·rename_i hb
    obtain ⟨m1,m2⟩:=hg.mem (node-1).toNat (by omega)
    have hao:=bF (e:=e) m1 hg.views hb
    exact h.member hg.six (i:=(node-1).toNat) ha (by omega) (by rw [hao.2.1,m2]) (ACd hg.views (h.mem _ (by omega)) hb)
   ·exact h
theorem V3.event {g:A_} {k:Nat} (h:V3 g) (hg:SP g k) {at_:Int} (ha:0<=at_) {e:CZ} (he:PQ e=true):V3 (uJ g at_ e).2:=by
 have hn:=pa he
 unfold uJ
 split
 ·unfold NJ
  split
  ·rename_i hb
   obtain ⟨m1,m2⟩:=hg.mem (e.2.1-1).toNat (by omega)
   have hbo:=bE (op:=e.2.2.2.1) (call:=(g.2.2.2.length:Int)) (key:=e.2.2.2.2.1) (val:=e.2.2.2.2.2) m1 hg.views
   exact (h.call at_ e).member (g:=PT g at_ e) hg.six (i:=(e.2.1-1).toNat) ha (by omega) (by rw [hbo.id hb,m2]) (ACc m1 (h.mem _ (by omega)) hb)
  ·exact h.call at_ e
 ·split
  ·exact h.adopt hg ha (by omega) _ _
  ·split
   ·obtain ⟨m1,m2⟩:=hg.mem (e.2.1-1).toNat (by omega)
    exact h.member hg.six (i:=(e.2.1-1).toNat) ha (by omega) m2 ⟨V1.fall,y_⟩
   ·unfold jC
    split
    ·exact h
    ·rename_i hne
     have hl:0<g.2.2.1.length:=by
      cases hq:g.2.2.1 with
      | nil=>exact absurd hq hne
      | cons a l=>simp
     have hlt:(e.2.2.1 % (g.2.2.1.length:Int)).toNat<g.2.2.1.length:=by
      have h1:=Int.emod_lt_of_pos e.2.2.1 (show (0:Int)<(g.2.2.1.length:Int) by omega)
      have h2:=Int.emod_nonneg e.2.2.1 (show (g.2.2.1.length:Int)≠0 by omega)
      omega
     have hmem:g.2.2.1.getD (e.2.2.1 % (g.2.2.1.length:Int)).toNat D4∈g.2.2.1:=by
      rw [Ac hlt]
      exact Bk _
     split
     ·refine ⟨h.mem,fun x hx=>?_,h.calls⟩
      rcases CD.1 hx with h1 | h1
      ·exact h.fly x h1
      ·simp only [C1] at h1
       rw [h1]
       exact h.fly _ hmem
     ·split
      ·exact h.less _
      ·have hto:=(hg.fly _ hmem).to
       generalize hx:g.2.2.1.getD (e.2.2.1 % (g.2.2.1.length:Int)).toNat D4=x at *
       obtain ⟨m1,m2⟩:=hg.mem (x.2.2.1-1).toNat (by omega)
       exact (h.less _).member (g:=Ns g (e.2.2.1 % (g.2.2.1.length:Int)).toNat) hg.six (i:=(x.2.2.1-1).toNat) ha (by omega) (by rw [(aU (x:=x) m1 hg.views).id,m2]) (ADK hg.views m1 (h.mem _ (by omega)) (h.fly _ hmem))
theorem V3.new {views:List (List Int)} (hv:WP views):V3 (Bj views):=by
 refine ⟨fun i hi=>?_,(fun x hx=>by cases hx),fun x hx=>by cases hx⟩
 have h5:i=0\/i=1\/i=2\/i=3\/i=4\/i=5:=by omega
 rcases h5 with rfl | rfl | rfl | rfl | rfl | rfl<;>exact V1.first hv

theorem jF (a b:Int):Ru a b=some (decide (a<b)):=r_ (by
 have h:∀ a,Kz a=some false:=fun a=>o_ (by unfold YO; simp)
 unfold aD
 rw [h,AC,if_neg (by simp)])
def vS (l:List Int) (j:Nat):List Int:=(l.set (j+1) (l.getD j 0)).set j (l.getD (j+1) 0)
def bub:Nat->List Int->List Int
 | 0,l=>l
 | j+1,l=>if l.getD (j+1) 0<l.getD j 0 then bub j (vS l j) else l
def srt:Nat->Nat->List Int->List Int
 | 0,_,l=>l
 | k+1,i,l=>srt k (i+1) (bub i l)
theorem jG (l:List Int) (j:Nat):(vS l j).length=l.length:=by simp [vS]
theorem pc:∀ (j:Nat) (l:List Int),(bub j l).length=l.length
 | 0,l=>rfl
 | j+1,l=>by
  unfold bub
  split
  ·rw [pc j,jG]
  ·rfl
theorem AAA {l:List Int} {j:Nat} (h:j+1<l.length):(vS l j).Perm l:=by
 obtain ⟨p,a,b,q,rfl,rfl⟩:∃ p a b q,l=p++a::b::q/\p.length=j :=
  ⟨l.take j,l[j],l[j+1],l.drop (j+2),by rw [<- List.drop_eq_getElem_cons h,<- List.drop_eq_getElem_cons (show j<l.length by omega),List.take_append_drop],by rw [List.length_take]; omega⟩
 have e:vS (p++a::b::q) p.length=p++b::a::q:=by
  unfold vS
  have e1:(p++a::b::q).getD p.length 0=a:=by simp [List.getD]
  have e2:(p++a::b::q).getD (p.length+1) 0=b:=by simp [List.getD]
  rw [e1,e2,List.set_append_right _ _ (by omega),List.set_append_right _ _ (by omega)]
  simp
 rw [e]
 exact List.Perm.append_left p (List.Perm.swap a b q)
theorem xJ:∀ (j:Nat) (l:List Int),j<l.length->(bub j l).Perm l
 | 0,l,_=>List.Perm.refl l
 | j+1,l,h=>by
  unfold bub
  split
  ·exact (xJ j _ (by rw [jG]; omega)).trans (AAA h)
  ·exact List.Perm.refl l
theorem sN:∀ (k i:Nat) (l:List Int),i+k=l.length->(srt k i l).Perm l
 | 0,_,l,_=>List.Perm.refl l
 | k+1,i,l,h=>(sN k (i+1) _ (by rw [pc]; omega)).trans (xJ i l (by omega))
theorem zA {l:List Int} {j:Nat} (h:j+1<l.length) (a:Nat):(vS l j).getD a 0=if a=j then l.getD (j+1) 0 else if a=j+1 then l.getD j 0 else l.getD a 0:=by
 unfold vS
 simp only [List.getD_eq_getElem?_getD,Am,List.length_set]
 by_cases h1:a=j
 ·subst h1
  rw [if_pos rfl,if_pos (by omega),if_pos rfl]
  simp
 ·rw [if_neg (fun e=>h1 e.symm),if_neg h1]
  by_cases h2:a=j+1
  ·subst h2
   rw [if_pos rfl,if_pos (by omega),if_pos rfl]
   simp
  ·rw [if_neg (fun e=>h2 e.symm),if_neg h2]
def ADL (i:Nat) (l:List Int):Prop:=∀ a b,a<b->b<=i->l.getD a 0<=l.getD b 0
theorem ABL (i:Nat):∀ (j:Nat) (l:List Int),j<=i->i<l.length->(∀ a b,a<b->b<=i->b≠j->l.getD a 0<=l.getD b 0)->ADL i (bub j l)
 | 0,l,_,_,h=>fun a b h1 h2=>h a b h1 h2 (by omega)
 | j+1,l,hj,hi,h=>by
  unfold bub
  split
  ·rename_i hlt
   refine ABL i j _ (by omega) (by rw [jG]; exact hi) fun a b h1 h2 h3=>?_
   rw [zA (by omega),zA (by omega)]
   rw [if_neg h3]
   by_cases hb:b=j+1
   ·subst hb
    rw [if_pos rfl]
    by_cases ha:a=j
    ·rw [if_pos ha]; omega
    ·rw [if_neg ha,if_neg (by omega)]
     exact h a j (by omega) (by omega) (by omega)
   ·rw [if_neg hb]
    by_cases ha:a=j
    ·rw [if_pos ha]; exact h (j+1) b (by omega) h2 hb
    ·rw [if_neg ha]
     by_cases ha2:a=j+1
     ·rw [if_pos ha2]; exact h j b (by omega) h2 hb
     ·rw [if_neg ha2]; exact h a b h1 h2 hb
  ·rename_i hlt
   intro a b h1 h2
   by_cases hb:b=j+1
   ·subst hb
    by_cases ha:a=j
    ·subst ha; omega
    ·have:=h a j (by omega) (by omega) (by omega)
     omega
   ·exact h a b h1 h2 hb
theorem ABM:∀ (k i:Nat) (l:List Int),i+k=l.length->1<=i->ADL (i-1) l->ADL (l.length-1) (srt k i l)
 | 0,i,l,h,hi,hu=>by
  have:i-1=l.length-1:=by omega
  rw [<- this]; exact hu
 | k+1,i,l,h,hi,hu=>by
  have:=ABM k (i+1) (bub i l) (by rw [pc]; omega) (by omega) (by
   rw [Nat.add_sub_cancel]
   exact ABL i i l (Nat.le_refl _) (by omega) fun a b h1 h2 h3=>hu a b h1 (by omega))
  rw [pc] at this
  exact this
theorem zB (n i:Nat) (hn:n<=12) (g:List Int->List Int) (K:∀ l:List Int,l.length=n->BJ 0 (n:Int) ((i:Int)+1) l=some (g l)) (hi:i<n) :
  ∀ (j:Nat) (l:List Int),j<n->l.length=n->B9 0 (n:Int) (i:Int) (j:Int) l=some (g (bub j l))
 | 0,l,hj,hl=>Ex (by
  unfold Cr
  rw [if_neg (by simp),AN (by omega)]
  exact K l hl)
 | j+1,l,hj,hl=>Ex (by
  unfold Cr
  have e1:IntKind.i64.wrap (((j+1:Nat):Int)-1)=(j:Int):=by rw [AN (by omega)]; omega
  have e2:((j+1:Nat):Int).toNat=j+1:=by omega
  have e3:((j:Nat):Int).toNat=j:=by omega
  rw [if_pos (by simp<;>omega),if_pos (by omega),if_pos (by omega),e1,if_pos (by omega),if_pos (by omega),jF,AC,e2,e3]
  unfold bub
  by_cases h:l.getD (j+1) 0<l.getD j 0
  ·rw [if_pos (by simpa using h),if_pos h]
   refine KR ?_
   unfold Ew
   simp only [e1,e2,e3]
   rw [if_pos (by omega),if_pos (by omega),if_pos (by omega),if_pos (by omega),if_pos (by omega),if_pos (by omega),if_pos (by omega),if_pos (by rw [List.length_set]; omega)]
   exact zB n i hn g K hi j (vS l j) (by omega) (by rw [jG]; exact hl)
  ·rw [if_neg (by simpa using h),if_neg h,AN (by omega)]
   exact K l hl)
theorem zC (n:Nat) (hn:n<=12):∀ (k i:Nat) (l:List Int),i+k=n->l.length=n->BJ 0 (n:Int) (i:Int) l=some (srt k i l)
 | 0,i,l,h,hl=>Cs (by
  unfold B_
  rw [if_neg (by simp; omega)]
  rfl)
 | k+1,i,l,h,hl=>Cs (by
  unfold B_
  rw [if_pos (by simp; omega)]
  exact zB n i hn (srt k (i+1)) (fun l hl=>by have:=zC n hn k (i+1) l (by omega) hl; rw [<- this]; congr 1) (by omega) i l (by omega) hl)
set_option maxRecDepth 100000 in
theorem ADM (n:Nat) (h:n<=12):∃ r,Pi (IntKind.u64.wrap (n:Int))=some r:=by
 have h1:∃ r,Gc (n:Int) 0=some r:=by
  have hs:IntKind.u8.wrap (n:Int)=(n:Int):=by
   have:n=0\/n=1\/n=2\/n=3\/n=4\/n=5\/n=6\/n=7\/n=8\/n=9\/n=10\/n=11\/n=12:=by omega
   rcases this with h | h | h | h | h | h | h | h | h | h | h | h | h<;>subst h<;>rfl
  have ht:∃ r,JC (n:Int) 0=some r:=by
   unfold JC
   rw [if_neg (by simp; omega),if_pos (by rw [hs]; omega),if_pos (by
    rw [hs]
    exact Int.lt_of_lt_of_le (show (n:Int)<13 by omega) (by decide))]
   exact ⟨_,rfl⟩
  obtain ⟨r,hr⟩:=ht
  exact ⟨r,aE hr⟩
 obtain ⟨r,hr⟩:=h1
 have h2:Mo (n:Int)=some r:=iz (by
  unfold T6
  rw [if_neg (by simp; omega)]
  exact aF (by
   unfold PO
   rw [if_neg (by simp; omega)]
   exact hr))
 have hu:IntKind.u64.wrap (n:Int)=(n:Int):=by
  have:n=0\/n=1\/n=2\/n=3\/n=4\/n=5\/n=6\/n=7\/n=8\/n=9\/n=10\/n=11\/n=12:=by omega
  rcases this with h | h | h | h | h | h | h | h | h | h | h | h | h<;>subst h<;>rfl
 exact ⟨r,o7 (by unfold YL; rw [hu,h2]; rfl)⟩
theorem zD (l:List Int) (h:l.length<=12):∃ r,Cx l=some r/\r.Perm l/\r.Pairwise (· <= ·):=by
 obtain ⟨b,hb⟩:=ADM l.length h
 have hins:∃ r,DU 0 (l.length:Int) l=some r/\r.Perm l/\r.Pairwise (· <= ·):=by
  by_cases h0:l.length=0
  ·have:l=[]:=C2.1 h0
   subst this
   refine ⟨[],GA ?_,List.Perm.refl _,List.Pairwise.nil⟩
   unfold DV
   refine Cs ?_
   unfold B_
   rw [if_neg (by rw [AN (by omega)]; simp)]
  ·refine ⟨srt (l.length-1) 1 l,GA ?_,sN _ _ _ (by omega),?_⟩
   ·unfold DV
    rw [AN (by omega)]
    exact zC l.length h (l.length-1) 1 l (by omega) rfl
   ·have hu:=ABM (l.length-1) 1 l (by omega) (Nat.le_refl _) (fun a b h1 h2=>by omega)
    have hp:=(sN (l.length-1) 1 l (by omega)).length_eq
    rw [List.pairwise_iff_getElem]
    intro i j hi hj hij
    have:=hu i j hij (by omega)
    rwa [Ac hi,Ac hj] at this
 obtain ⟨r,h1,h2,h3⟩:=hins
 refine ⟨r,Yf ?_,h2,h3⟩
 unfold Nf
 have hq:E6 0 (l.length:Int) b l=some r:=Q0 (by
  unfold Ir
  refine OP ?_
  unfold HM
  rw [if_pos (by rw [AN (by omega)]; simp; omega),h1]
  rfl)
 rw [hb,AC,hq]
 rfl
theorem zE:∀ {a b:List Int},a.Pairwise (· < ·)->b.Pairwise (· < ·)->(∀ x,x∈a↔x∈b)->a=b
 | [],[],_,_,_=>rfl
 | [],y::b,_,_,h=>absurd ((h y).2 (by simp)) (by simp)
 | x::a,[],_,_,h=>absurd ((h x).1 (by simp)) (by simp)
 | x::a,y::b,ha,hb,h=>by
  rw [List.pairwise_cons] at ha hb
  have hxy:x=y:=by
   have h1:=(h x).1 (by simp)
   have h2:=(h y).2 (by simp)
   rcases Ah.1 h1 with e | h1
   ·exact e
   ·rcases Ah.1 h2 with e | h2
    ·exact e.symm
    ·have:=ha.1 y h2
     have:=hb.1 x h1
     omega
  subst hxy
  rw [zE ha.2 hb.2 fun z=>?_]
  constructor
  ·intro hz
   rcases Ah.1 ((h z).1 (by simp [hz])) with e | h
   ·subst e; have:=ha.1 z hz; omega
   ·exact h
  ·intro hz
   rcases Ah.1 ((h z).2 (by simp [hz])) with e | h
   ·subst e; have:=hb.1 z hz; omega
   ·exact h
theorem yD {view:List Int} {id x:Int} (hv:WOk view):x∈HO view id↔x∈CV view id:=by
 unfold HO CV
 simp only [List.mem_filter,AE,List.contains_eq_mem,decide_eq_true_eq]
 constructor
 ·rintro ⟨_,h1,h2⟩; exact ⟨h2,h1⟩
 ·rintro ⟨h1,h2⟩
  have:=hv.mem x h1
  refine ⟨?_,h2,h1⟩
  have h5:x=1\/x=2\/x=3\/x=4\/x=5\/x=6:=by omega
  rcases h5 with h | h | h | h | h | h<;>simp [h]
theorem mf {view:List Int} (hv:WOk view) (id:Int):Cx (CV view id)=some (HO view id):=by
 have hl:=H8 view id
 have:=hv.len
 obtain ⟨r,h1,h2,h3⟩:=zD (CV view id) (by omega)
 rw [h1]
 congr 1
 have hnd:r.Nodup:=h2.nodup_iff.2 (hv.nd.filter _)
 refine zE ?_ (Wz view id).2 fun x=>(h2.mem_iff).trans (yD hv).symm
 have:=h3.and (List.nodup_iff_pairwise_ne.1 hnd)
 exact this.imp fun {a b} h=>by have:=h.1; have:=h.2; omega
theorem nC {view:List Int} (hv:WOk view) (id:Int):(HO view id).length=(CV view id).length:=by
 obtain ⟨r,h1,h2,_⟩:=zD (CV view id) (by have:=H8 view id; have:=hv.len; omega)
 rw [mf hv] at h1
 cases h1
 exact h2.length_eq

theorem aX (x:List Int) (n:Int) (h:x.length<=maxLen):Co x n=some (x.contains n):=Se (by
 have hm:x.length<=9223372036854775807:=h
 have key:=HR (n:=x.length) (P:=fun i=>∃ r,Cp x n (x.length:Int) (i:Int)=some r/\(decide (r>=0)=(x.drop i).contains n)) ⟨-1,CI (by
  unfold Bt
  rw [if_neg (by simp)]),by simp⟩ (fun i hi ⟨r,hr,hc⟩=>by
  by_cases e:n=x[i]
  ·refine ⟨(i:Int),CI ?_,?_⟩
   ·unfold Bt
    simp only [show ((i:Int)<(x.length:Int)) from by omega,decide_true,if_true,show (0:Int)<=(i:Int) from by omega,Al,Ac hi]
    rw [if_pos (by simpa using e)]
   ·rw [Bu hi,List.contains_cons,e]
    simp only [beq_self_eq_true,Bool.true_or]
    exact decide_eq_true (by omega)
  ·refine ⟨r,CI ?_,?_⟩
   ·unfold Bt
    simp only [show ((i:Int)<(x.length:Int)) from by omega,decide_true,if_true,show (0:Int)<=(i:Int) from by omega,Al,Ac hi,AW (show i<9223372036854775807 by omega)]
    rw [if_neg (by simpa using e)]
    exact hr
   ·rw [Bu hi,hc,List.contains_cons]
    simp [e]) 0 (by omega)
 obtain ⟨r,hr,hc⟩:=key
 unfold J7
 have:Db x n=some r:=M4 hr
 rw [this,AC,hc,List.drop_zero])
theorem aY (m:AF) (h1:m.2.2.2.2.2.2.1.length<=68719476736) (h2:m.2.2.2.2.2.2.2.1.length<=68719476736) (h3:m.2.2.2.2.2.2.2.2.2.2.2.2.2.length<=68719476736):Da m=some m:=iM (by
 unfold Tl
 rw [BZ h1,AC,Aq h2,AC,BZ h3,AC])
theorem J_.icopy {m:AF} (h:J_ m):Da m=some m:=by
 obtain ⟨h1,h2,h3⟩:=h.lens
 exact aY m (by omega) (by omega) (by omega)
theorem UD (x:Bc) (h:x.2.2.2.2.2.length<=68719476736):I4 x=some x:=rX (by
 unfold Zv
 rw [Aq h,AC])
theorem OQ (view:List Int) (m:AF) (h:view.length<=68719476736):CH view m=some (CV view m.1,m):=Z4 (by
 unfold PH
 have key:=HR (n:=view.length) (P:=fun i=>∀ acc:List Int,acc.length<=i->DP view (view.length:Int) (i:Int) m acc=some (acc++(view.drop i).filter (· != m.1),m)) (fun acc ha=>Lx (by
  unfold HH
  rw [if_neg (by simp)]
  simp)) (fun i hi ih acc ha=>Lx (by
  unfold HH
  simp only [show ((i:Int)<(view.length:Int)) from by omega,decide_true,if_true,show (0:Int)<=(i:Int) from by omega,Al,Ac hi,AW (show i<9223372036854775807 by omega)]
  rw [Bu hi,List.filter_cons]
  by_cases hh:(view[i] != m.1)=true
  ·rw [if_pos hh,if_pos (by simp; omega),ih _ (by simp; omega),if_pos hh,BW]
   rfl
  ·rw [if_neg hh,ih _ (by omega),if_neg hh])) 0 (by omega) [] (by simp)
 exact key)
def zF (m:AF) (ids:List Int) (x:Bc):List Bc:=ids.map fun v=>(x.1,m.1,v,m.2.1,x.2.2.2.2)
theorem CY (ids:List Int) (x:Bc) (m:AF) (h:ids.length<=68719476736) (hx:x.2.2.2.2.2.length<=68719476736):Ar ids x m=some (zF m ids x,m):=Yg (by
 unfold Nh
 have key:=HR (n:=ids.length) (P:=fun i=>∀ acc:List Bc,acc.length<=i->EG ids (ids.length:Int) (i:Int) m x acc=some (acc++(ids.drop i).map (fun v=>(x.1,m.1,v,m.2.1,x.2.2.2.2)),m)) (fun acc ha=>Kb (by
  unfold Gl
  rw [if_neg (by simp)]
  simp)) (fun i hi ih acc ha=>Kb (by
  unfold Gl
  simp only [show ((i:Int)<(ids.length:Int)) from by omega,decide_true,if_true,show (0:Int)<=(i:Int) from by omega,Al,Ac hi,AW (show i<9223372036854775807 by omega)]
  rw [UD x hx,AC,if_pos (by simp; omega),ih _ (by simp; omega),Bu hi,List.map_cons,BW]
  rfl)) 0 (by omega) [] (by simp)
 exact key)
def ADp (m:AF):AF:=(m.1,m.2.1,m.2.2.1,m.2.2.2.1,false,false,([]:List Int),m.2.2.2.2.2.2.2.1,(0:Int),(0:Int),(0:Int),(0:Int),(U,U,(0:Int)),([]:List Int))
theorem Uc (m:AF):GV m=some (ADp m):=ip rfl
theorem SQ (view:List Int) (its:List Ad) (m:AF) (hv:WOk view) (hi:its.length<=68719476736) (hs:m.2.2.2.2.2.1=false) :
  Dc view its m=some ((CV view m.1).map (fun v=>(3,m.1,v,m.2.1,0,its)),WI m view its):=Ww (by
 have hvl:=hv.len
 have hrl:=H8 view m.1
 unfold M_
 rw [OQ view m (by omega),AC,Aq hi,AC,BZ (by show (CV view m.1).length<=_; omega),AC,mf hv,AC]
 have ho:=nC hv m.1
 unfold WI
 rw [ho]
 by_cases h0:(CV view m.1).length=0
 ·rw [if_pos (by simpa using h0),CY _ _ _ (by show (CV view m.1).length<=_; omega) hi,AC,h0]
  rfl
 ·rw [if_neg (by simpa using h0),CY _ _ _ (by show (CV view m.1).length<=_; omega) hi,AC]
  have:(((CV view m.1).length:Int)==0)=false:=by simpa using h0
  rw [this]
  show some (_,(m.1,m.2.1,m.2.2.1,true,m.2.2.2.2.1,m.2.2.2.2.2.1,_))=_
  rw [hs]
  rfl)
theorem UE (v:List Int) (x:Int) (h:v.length<=68719476736):Mp v x=some (v.filter (· != x)):=sA (by
 unfold aG
 rw [BZ h,AC,Qz,AC]
 rfl)
theorem aZ (m:AF) (h:m.2.2.2.2.2.2.2.1.length<=34359738367):Hk m=some (F6 m):=ew (by
 unfold SJ F6
 rw [T9 _ _ h,WA _ _ (by unfold maxLen; omega)]
 split
 ·rw [AC]
  refine Ng ?_
  unfold IX
  rfl
 ·rw [AC]
  refine Ng ?_
  unfold IX
  rfl)
def ABN (m:AF) (views:List (List Int)) (x:Bc):List Bc×AF :=
 if (x.2.2.2.1==m.2.1+1&&m.2.2.2.1&&(views.getD (m.2.1-1).toNat []).contains m.1)=true then ([(2,m.1,x.2.1,x.2.2.2.1,0,m.2.2.2.2.2.2.2.1)],WJ m x.2.2.2.1) else ([],m)
theorem sO (m:AF) (views:List (List Int)) (x:Bc) (hm:J_ m) (hv:WP views) (he:m.2.1<=views.length) :
  LK views x m=some (ABN m views x):=fB (by
 have hvl:=hv.len
 have hep:=hm.ep
 obtain ⟨l1,l2,l3⟩:=hm.lens
 have hf:m.2.2.2.1=true->m.2.2.1=false:=fun h=>by
  cases hh:m.2.2.1 with
  | false=>rfl
  | true=>rw [(hm.fell hh).1] at h; cases h
 unfold SM ABN
 rw [AN (n:=m.2.1+1) (by omega),AN (n:=m.2.1-1) (by omega)]
 by_cases c1:x.2.2.2.1=m.2.1+1
 case neg=>rw [if_pos (by simpa using c1),if_neg (by simp [c1])]
 rw [if_neg (by simpa using c1)]
 by_cases c2:m.2.2.2.1=true
 case neg=>rw [if_pos (by simpa using c2),if_neg (by simp [c2])]
 rw [if_neg (by simpa using c2),if_pos (by omega),if_pos (by omega),aX _ _ (by have:=(hv.get (i:=(m.2.1-1).toNat) (by omega)).2; unfold maxLen; omega),AC]
 cases c3:(views.getD (m.2.1-1).toNat []).contains m.1 with
 | false=>rw [if_pos (by rfl),if_neg (by simp)]
 | true =>
  rw [if_neg (by simp),if_pos (by simp [c1,c2])]
  exact Yl (by
   unfold Nn
   rw [Uc,AC,CY _ _ _ (by simp) (by show m.2.2.2.2.2.2.2.1.length<=_; omega),AC]
   show some (_,(m.1,x.2.2.2.1,m.2.2.1,_))=_
   rw [hf c2]
   rfl))
def ABO (m:AF) (e:Int) (its:List Ad):AF:=(m.1,e,false,true,false,false,([]:List Int),its,(0:Int),(0:Int),(0:Int),(0:Int),(U,U,(0:Int)),([]:List Int))
def ABP (m:AF) (view:List Int) (x:Bc):List Bc×AF :=
 if (!view.contains m.1||(view.getD 0 0==m.1))=true then ([],m)
 else if x.2.2.2.1>m.2.1\/(m.2.2.2.1=false/\m.2.2.1=false) then ([(4,m.1,x.2.1,x.2.2.2.1,0,([]:List Ad))],ABO m x.2.2.2.1 x.2.2.2.2.2)
 else if m.2.2.2.1=false then ([],m) else ([(4,m.1,x.2.1,m.2.1,0,([]:List Ad))],m)
theorem jH (m:AF) (view:List Int) (x:Bc) (hv:WOk view) (hx:x.2.2.2.2.2.length<=68719476736) :
  IR view x m=some (ABP m view x):=Ym (by
 have hvl:=hv.len
 unfold No ABP
 rw [aX _ _ (by unfold maxLen; omega),AC]
 cases c3:view.contains m.1 with
 | false=>rw [if_pos (by rfl),if_pos (by rfl)]
 | true =>
  rw [if_neg (by simp),if_pos (by omega),if_pos (by omega)]
  by_cases c4:view.getD 0 0=m.1
  ·rw [if_pos (by simpa using c4),if_pos (by rw [c4]; simp)]
  ·rw [if_neg (by simpa using c4),if_neg (by have:(view.getD 0 0==m.1)=false:=(by simpa using c4); rw [this]; simp)]
   have J1:∀ b:Bool,C0 b m x=some (if b=true then ([(4,m.1,x.2.1,x.2.2.2.1,0,([]:List Ad))],ABO m x.2.2.2.1 x.2.2.2.2.2) else if m.2.2.2.1=false then ([],m) else ([(4,m.1,x.2.1,m.2.1,0,([]:List Ad))],m)):=fun b=>UY (by
    unfold Ki
    cases b with
    | true =>
     rw [if_pos rfl,if_pos rfl,Aq hx,AC,Uc,AC,CY _ _ _ (by simp) (by simp),AC]
     rfl
    | false =>
     simp only [Bool.false_eq_true,if_false]
     cases hb:m.2.2.2.1 with
     | false=>simp
     | true =>
      simp only [Bool.not_true,Bool.false_eq_true,if_false,Bool.true_eq_false]
      rw [CY _ _ _ (by simp) (by simp),AC]
      rfl)
   refine UZ ?_
   unfold Kj
   rw [J1,J1,J1]
   by_cases c5:x.2.2.2.1>m.2.1
   ·rw [if_pos (by simpa using c5)]
    simp [c5]
   ·rw [if_neg (by simpa using c5)]
    cases hb:m.2.2.2.1<;>cases hf:m.2.2.1<;>simp [c5])
def vT (m:AF) (x:Bc):List Bc×AF :=
 if (x.2.2.2.1==m.2.1&&m.2.2.2.1)=true then
  (if x.1=7 then ([(8,m.1,x.2.1,m.2.1,x.2.2.2.2.1,([]:List Ad))],m)
  else ([(6,m.1,x.2.1,m.2.1,x.2.2.2.2.1,([]:List Ad))],(m.1,m.2.1,m.2.2.1,m.2.2.2.1,m.2.2.2.2.1,m.2.2.2.2.2.1,m.2.2.2.2.2.2.1,Dz m.2.2.2.2.2.2.2.1 (x.2.2.2.2.2.getD 0 (U,U,(0:Int))),m.2.2.2.2.2.2.2.2)))
 else ([],m)
theorem pM (m:AF) (x:Bc) (hm:m.2.2.2.2.2.2.2.1.length<=12) (h5:x.1≠7->0<x.2.2.2.2.2.length) :
  KD x m=some (vT m x):=bz (by
 unfold Qh vT
 by_cases c1:x.2.2.2.1=m.2.1
 case neg=>rw [if_pos (by simpa using c1),if_neg (by simp [c1])]
 rw [if_neg (by simpa using c1)]
 by_cases c2:m.2.2.2.1=true
 case neg=>rw [if_pos (by simpa using c2),if_neg (by simp [c2])]
 rw [if_neg (by simpa using c2),if_pos (by simp [c1,c2])]
 refine Wx ?_
 unfold ND
 by_cases c7:x.1=7
 ·rw [if_pos (by simpa using c7),if_pos c7,CY _ _ _ (by simp) (by simp),AC]
  rfl
 ·have:=h5 c7
  rw [if_neg (by simpa using c7),if_neg c7,if_pos (by omega),if_pos (by omega),T9 _ _ (by omega),AC,CY _ _ _ (by simp) (by simp),AC]
  rfl)
theorem WN (m:AF) (op:Int) (x:Bc) (hm:J_ m) :
  GW op x m=some (if (x.2.2.2.1==m.2.1&&m.2.2.2.2.2.2.2.2.2.1==op&&m.2.2.2.2.2.2.2.2.2.2.2.1==x.2.2.2.2.1)=true then ((G3 m x.2.1).2.2,(G3 m x.2.1).1) else ([],m)):=aH (by
 obtain ⟨l1,l2,l3⟩:=hm.lens
 unfold PP
 by_cases c1:x.2.2.2.1=m.2.1
 case neg=>rw [if_pos (by simpa using c1),if_neg (by simp [c1])]
 rw [if_neg (by simpa using c1)]
 by_cases c2:m.2.2.2.2.2.2.2.2.2.1=op
 case neg=>rw [if_pos (by simpa using c2),if_neg (by simp [c2])]
 rw [if_neg (by simpa using c2)]
 by_cases c3:m.2.2.2.2.2.2.2.2.2.2.2.1=x.2.2.2.2.1
 case neg=>rw [if_pos (by simpa using c3),if_neg (by simp [c3])]
 rw [if_neg (by simpa using c3),if_pos (by simp [c1,c2,c3])]
 refine V8 ?_
 unfold L1 G3
 rw [UE _ _ (by omega),AC]
 by_cases c4:(m.2.2.2.2.2.2.2.2.2.2.2.2.2.filter (· != x.2.1)).length=0
 ·rw [if_neg (by rw [c4]; decide),if_pos (by rw [c4]; decide),aZ _ (by show m.2.2.2.2.2.2.2.1.length<=_; omega)]
  rfl
 ·rw [if_pos (decide_eq_true (by omega)),if_neg (by rw [beq_iff_eq]; omega)]
  rfl)
end Go.Proofs.YtfcgblnlopemkaaGreat.Core
