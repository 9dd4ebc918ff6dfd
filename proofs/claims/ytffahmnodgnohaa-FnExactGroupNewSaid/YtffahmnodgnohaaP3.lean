/- Texts of the proof, packed: part 4. -/
import Derived.Test.YtffahmnodgnohaaP2
import Derived.IntWalk
import Derived.JoinedOf
import Derived.Test.YtffahmnodgnohaaRows
import Derived.ProofKit
set_option linter.unusedVariables false
set_option linter.unusedSimpArgs false
namespace Go.Proofs.Ytffahmnodgnohaa.Core
open Go IntKind
set_option maxRecDepth 100000
noncomputable section
def KR:=cG FS (AT BI) (AT BI) kx
def KS:=kE 0 [] [1] 1 KR kx
def J0:St->Option (RT (Bq.outs BI)):=lG FR [(0,0)] [0,1,5] 1 (AT BI) KS
def Ci (x0 x1:Int) (x2:List AD):Option (Int×List AD):=J0 ⟨[(0,.row 0),(1,.int .i64 x0),(5,.int .i64 x1)],[.mrow 53 Ab x2]⟩
def Dc (x0 x1:Int) (x2:List AD):Option (Int×List AD):=(if (decide (x1<(x2.length:Int)))=true then (if 0<=x1 then (if x1<(x2.length:Int) then (let z1:List AD:=x2.set x1.toNat (x0,(x2.getD x1.toNat (0,0,false,false,false,false,([]:List Int),([]:List J),0,0,0,0,(E,E,0),([]:List Int))).2); (if 0<=x1 then (if x1<(z1.length:Int) then (let z2:List AD:=z1.set x1.toNat ((z1.getD x1.toNat (0,0,false,false,false,false,([]:List Int),([]:List J),0,0,0,0,(E,E,0),([]:List Int))).1,(i64.wrap (x0+1)),((z1.getD x1.toNat (0,0,false,false,false,false,([]:List Int),([]:List J),0,0,0,0,(E,E,0),([]:List Int))).2).2); (if 3=0 then none else (if 0<=x1 then (if x1<(z2.length:Int) then (let z3:List AD:=z2.set x1.toNat ((z2.getD x1.toNat (0,0,false,false,false,false,([]:List Int),([]:List J),0,0,0,0,(E,E,0),([]:List Int))).1,((z2.getD x1.toNat (0,0,false,false,false,false,([]:List Int),([]:List J),0,0,0,0,(E,E,0),([]:List Int))).2).1,((Int.tmod (i64.wrap ((i64.wrap (x0+1))+1)) 3)==0),(((z2.getD x1.toNat (0,0,false,false,false,false,([]:List Int),([]:List J),0,0,0,0,(E,E,0),([]:List Int))).2).2).2); (if 3=0 then none else (if 0<=x1 then (if x1<(z3.length:Int) then (let z4:List AD:=z3.set x1.toNat ((z3.getD x1.toNat (0,0,false,false,false,false,([]:List Int),([]:List J),0,0,0,0,(E,E,0),([]:List Int))).1,((z3.getD x1.toNat (0,0,false,false,false,false,([]:List Int),([]:List J),0,0,0,0,(E,E,0),([]:List Int))).2).1,(((z3.getD x1.toNat (0,0,false,false,false,false,([]:List Int),([]:List J),0,0,0,0,(E,E,0),([]:List Int))).2).2).1,((Int.tmod (i64.wrap ((i64.wrap ((i64.wrap (x0+1))+1))+1)) 3)==0),((((z3.getD x1.toNat (0,0,false,false,false,false,([]:List Int),([]:List J),0,0,0,0,(E,E,0),([]:List Int))).2).2).2).2); (if 3=0 then none else (if 0<=x1 then (if x1<(z4.length:Int) then (let z5:List AD:=z4.set x1.toNat ((z4.getD x1.toNat (0,0,false,false,false,false,([]:List Int),([]:List J),0,0,0,0,(E,E,0),([]:List Int))).1,((z4.getD x1.toNat (0,0,false,false,false,false,([]:List Int),([]:List J),0,0,0,0,(E,E,0),([]:List Int))).2).1,(((z4.getD x1.toNat (0,0,false,false,false,false,([]:List Int),([]:List J),0,0,0,0,(E,E,0),([]:List Int))).2).2).1,((((z4.getD x1.toNat (0,0,false,false,false,false,([]:List Int),([]:List J),0,0,0,0,(E,E,0),([]:List Int))).2).2).2).1,((Int.tmod (i64.wrap ((i64.wrap ((i64.wrap ((i64.wrap (x0+1))+1))+1))+1)) 3)==0),(((((z4.getD x1.toNat (0,0,false,false,false,false,([]:List Int),([]:List J),0,0,0,0,(E,E,0),([]:List Int))).2).2).2).2).2); (if 3=0 then none else (if 0<=x1 then (if x1<(z5.length:Int) then (let z6:List AD:=z5.set x1.toNat ((z5.getD x1.toNat (0,0,false,false,false,false,([]:List Int),([]:List J),0,0,0,0,(E,E,0),([]:List Int))).1,((z5.getD x1.toNat (0,0,false,false,false,false,([]:List Int),([]:List J),0,0,0,0,(E,E,0),([]:List Int))).2).1,(((z5.getD x1.toNat (0,0,false,false,false,false,([]:List Int),([]:List J),0,0,0,0,(E,E,0),([]:List Int))).2).2).1,((((z5.getD x1.toNat (0,0,false,false,false,false,([]:List Int),([]:List J),0,0,0,0,(E,E,0),([]:List Int))).2).2).2).1,(((((z5.getD x1.toNat (0,0,false,false,false,false,([]:List Int),([]:List J),0,0,0,0,(E,E,0),([]:List Int))).2).2).2).2).1,((Int.tmod (i64.wrap ((i64.wrap ((i64.wrap ((i64.wrap ((i64.wrap (x0+1))+1))+1))+1))+1)) 3)==0),((((((z5.getD x1.toNat (0,0,false,false,false,false,([]:List Int),([]:List J),0,0,0,0,(E,E,0),([]:List Int))).2).2).2).2).2).2); (if 0<=x1 then (if x1<(z6.length:Int) then ((BM (i64.wrap ((i64.wrap ((i64.wrap ((i64.wrap ((i64.wrap ((i64.wrap (x0+1))+1))+1))+1))+1))+1)) ((((((((z6.getD x1.toNat (0,0,false,false,false,false,([]:List Int),([]:List J),0,0,0,0,(E,E,0),([]:List Int))).2).2).2).2).2).2).1)).bind fun y7=>(let z8:List AD:=z6.set x1.toNat ((z6.getD x1.toNat (0,0,false,false,false,false,([]:List Int),([]:List J),0,0,0,0,(E,E,0),([]:List Int))).1,((z6.getD x1.toNat (0,0,false,false,false,false,([]:List Int),([]:List J),0,0,0,0,(E,E,0),([]:List Int))).2).1,(((z6.getD x1.toNat (0,0,false,false,false,false,([]:List Int),([]:List J),0,0,0,0,(E,E,0),([]:List Int))).2).2).1,((((z6.getD x1.toNat (0,0,false,false,false,false,([]:List Int),([]:List J),0,0,0,0,(E,E,0),([]:List Int))).2).2).2).1,(((((z6.getD x1.toNat (0,0,false,false,false,false,([]:List Int),([]:List J),0,0,0,0,(E,E,0),([]:List Int))).2).2).2).2).1,((((((z6.getD x1.toNat (0,0,false,false,false,false,([]:List Int),([]:List J),0,0,0,0,(E,E,0),([]:List Int))).2).2).2).2).2).1,y7.2,(((((((z6.getD x1.toNat (0,0,false,false,false,false,([]:List Int),([]:List J),0,0,0,0,(E,E,0),([]:List Int))).2).2).2).2).2).2).2); (if 0<=x1 then (if x1<(z8.length:Int) then ((CQ y7.1 (((((((((z8.getD x1.toNat (0,0,false,false,false,false,([]:List Int),([]:List J),0,0,0,0,(E,E,0),([]:List Int))).2).2).2).2).2).2).2).1)).bind fun y9=>(let z10:List AD:=z8.set x1.toNat ((z8.getD x1.toNat (0,0,false,false,false,false,([]:List Int),([]:List J),0,0,0,0,(E,E,0),([]:List Int))).1,((z8.getD x1.toNat (0,0,false,false,false,false,([]:List Int),([]:List J),0,0,0,0,(E,E,0),([]:List Int))).2).1,(((z8.getD x1.toNat (0,0,false,false,false,false,([]:List Int),([]:List J),0,0,0,0,(E,E,0),([]:List Int))).2).2).1,((((z8.getD x1.toNat (0,0,false,false,false,false,([]:List Int),([]:List J),0,0,0,0,(E,E,0),([]:List Int))).2).2).2).1,(((((z8.getD x1.toNat (0,0,false,false,false,false,([]:List Int),([]:List J),0,0,0,0,(E,E,0),([]:List Int))).2).2).2).2).1,((((((z8.getD x1.toNat (0,0,false,false,false,false,([]:List Int),([]:List J),0,0,0,0,(E,E,0),([]:List Int))).2).2).2).2).2).1,(((((((z8.getD x1.toNat (0,0,false,false,false,false,([]:List Int),([]:List J),0,0,0,0,(E,E,0),([]:List Int))).2).2).2).2).2).2).1,y9.2,((((((((z8.getD x1.toNat (0,0,false,false,false,false,([]:List Int),([]:List J),0,0,0,0,(E,E,0),([]:List Int))).2).2).2).2).2).2).2).2); (if 0<=x1 then (if x1<(z10.length:Int) then (let z11:List AD:=z10.set x1.toNat ((z10.getD x1.toNat (0,0,false,false,false,false,([]:List Int),([]:List J),0,0,0,0,(E,E,0),([]:List Int))).1,((z10.getD x1.toNat (0,0,false,false,false,false,([]:List Int),([]:List J),0,0,0,0,(E,E,0),([]:List Int))).2).1,(((z10.getD x1.toNat (0,0,false,false,false,false,([]:List Int),([]:List J),0,0,0,0,(E,E,0),([]:List Int))).2).2).1,((((z10.getD x1.toNat (0,0,false,false,false,false,([]:List Int),([]:List J),0,0,0,0,(E,E,0),([]:List Int))).2).2).2).1,(((((z10.getD x1.toNat (0,0,false,false,false,false,([]:List Int),([]:List J),0,0,0,0,(E,E,0),([]:List Int))).2).2).2).2).1,((((((z10.getD x1.toNat (0,0,false,false,false,false,([]:List Int),([]:List J),0,0,0,0,(E,E,0),([]:List Int))).2).2).2).2).2).1,(((((((z10.getD x1.toNat (0,0,false,false,false,false,([]:List Int),([]:List J),0,0,0,0,(E,E,0),([]:List Int))).2).2).2).2).2).2).1,((((((((z10.getD x1.toNat (0,0,false,false,false,false,([]:List Int),([]:List J),0,0,0,0,(E,E,0),([]:List Int))).2).2).2).2).2).2).2).1,y9.1,(((((((((z10.getD x1.toNat (0,0,false,false,false,false,([]:List Int),([]:List J),0,0,0,0,(E,E,0),([]:List Int))).2).2).2).2).2).2).2).2).2); (if 0<=x1 then (if x1<(z11.length:Int) then (let z12:List AD:=z11.set x1.toNat ((z11.getD x1.toNat (0,0,false,false,false,false,([]:List Int),([]:List J),0,0,0,0,(E,E,0),([]:List Int))).1,((z11.getD x1.toNat (0,0,false,false,false,false,([]:List Int),([]:List J),0,0,0,0,(E,E,0),([]:List Int))).2).1,(((z11.getD x1.toNat (0,0,false,false,false,false,([]:List Int),([]:List J),0,0,0,0,(E,E,0),([]:List Int))).2).2).1,((((z11.getD x1.toNat (0,0,false,false,false,false,([]:List Int),([]:List J),0,0,0,0,(E,E,0),([]:List Int))).2).2).2).1,(((((z11.getD x1.toNat (0,0,false,false,false,false,([]:List Int),([]:List J),0,0,0,0,(E,E,0),([]:List Int))).2).2).2).2).1,((((((z11.getD x1.toNat (0,0,false,false,false,false,([]:List Int),([]:List J),0,0,0,0,(E,E,0),([]:List Int))).2).2).2).2).2).1,(((((((z11.getD x1.toNat (0,0,false,false,false,false,([]:List Int),([]:List J),0,0,0,0,(E,E,0),([]:List Int))).2).2).2).2).2).2).1,((((((((z11.getD x1.toNat (0,0,false,false,false,false,([]:List Int),([]:List J),0,0,0,0,(E,E,0),([]:List Int))).2).2).2).2).2).2).2).1,(((((((((z11.getD x1.toNat (0,0,false,false,false,false,([]:List Int),([]:List J),0,0,0,0,(E,E,0),([]:List Int))).2).2).2).2).2).2).2).2).1,(i64.wrap (y9.1+1)),((((((((((z11.getD x1.toNat (0,0,false,false,false,false,([]:List Int),([]:List J),0,0,0,0,(E,E,0),([]:List Int))).2).2).2).2).2).2).2).2).2).2); (if 0<=x1 then (if x1<(z12.length:Int) then (let z13:List AD:=z12.set x1.toNat ((z12.getD x1.toNat (0,0,false,false,false,false,([]:List Int),([]:List J),0,0,0,0,(E,E,0),([]:List Int))).1,((z12.getD x1.toNat (0,0,false,false,false,false,([]:List Int),([]:List J),0,0,0,0,(E,E,0),([]:List Int))).2).1,(((z12.getD x1.toNat (0,0,false,false,false,false,([]:List Int),([]:List J),0,0,0,0,(E,E,0),([]:List Int))).2).2).1,((((z12.getD x1.toNat (0,0,false,false,false,false,([]:List Int),([]:List J),0,0,0,0,(E,E,0),([]:List Int))).2).2).2).1,(((((z12.getD x1.toNat (0,0,false,false,false,false,([]:List Int),([]:List J),0,0,0,0,(E,E,0),([]:List Int))).2).2).2).2).1,((((((z12.getD x1.toNat (0,0,false,false,false,false,([]:List Int),([]:List J),0,0,0,0,(E,E,0),([]:List Int))).2).2).2).2).2).1,(((((((z12.getD x1.toNat (0,0,false,false,false,false,([]:List Int),([]:List J),0,0,0,0,(E,E,0),([]:List Int))).2).2).2).2).2).2).1,((((((((z12.getD x1.toNat (0,0,false,false,false,false,([]:List Int),([]:List J),0,0,0,0,(E,E,0),([]:List Int))).2).2).2).2).2).2).2).1,(((((((((z12.getD x1.toNat (0,0,false,false,false,false,([]:List Int),([]:List J),0,0,0,0,(E,E,0),([]:List Int))).2).2).2).2).2).2).2).2).1,((((((((((z12.getD x1.toNat (0,0,false,false,false,false,([]:List Int),([]:List J),0,0,0,0,(E,E,0),([]:List Int))).2).2).2).2).2).2).2).2).2).1,(i64.wrap ((i64.wrap (y9.1+1))+1)),(((((((((((z12.getD x1.toNat (0,0,false,false,false,false,([]:List Int),([]:List J),0,0,0,0,(E,E,0),([]:List Int))).2).2).2).2).2).2).2).2).2).2).2); (if 0<=x1 then (if x1<(z13.length:Int) then (let z14:List AD:=z13.set x1.toNat ((z13.getD x1.toNat (0,0,false,false,false,false,([]:List Int),([]:List J),0,0,0,0,(E,E,0),([]:List Int))).1,((z13.getD x1.toNat (0,0,false,false,false,false,([]:List Int),([]:List J),0,0,0,0,(E,E,0),([]:List Int))).2).1,(((z13.getD x1.toNat (0,0,false,false,false,false,([]:List Int),([]:List J),0,0,0,0,(E,E,0),([]:List Int))).2).2).1,((((z13.getD x1.toNat (0,0,false,false,false,false,([]:List Int),([]:List J),0,0,0,0,(E,E,0),([]:List Int))).2).2).2).1,(((((z13.getD x1.toNat (0,0,false,false,false,false,([]:List Int),([]:List J),0,0,0,0,(E,E,0),([]:List Int))).2).2).2).2).1,((((((z13.getD x1.toNat (0,0,false,false,false,false,([]:List Int),([]:List J),0,0,0,0,(E,E,0),([]:List Int))).2).2).2).2).2).1,(((((((z13.getD x1.toNat (0,0,false,false,false,false,([]:List Int),([]:List J),0,0,0,0,(E,E,0),([]:List Int))).2).2).2).2).2).2).1,((((((((z13.getD x1.toNat (0,0,false,false,false,false,([]:List Int),([]:List J),0,0,0,0,(E,E,0),([]:List Int))).2).2).2).2).2).2).2).1,(((((((((z13.getD x1.toNat (0,0,false,false,false,false,([]:List Int),([]:List J),0,0,0,0,(E,E,0),([]:List Int))).2).2).2).2).2).2).2).2).1,((((((((((z13.getD x1.toNat (0,0,false,false,false,false,([]:List Int),([]:List J),0,0,0,0,(E,E,0),([]:List Int))).2).2).2).2).2).2).2).2).2).1,(((((((((((z13.getD x1.toNat (0,0,false,false,false,false,([]:List Int),([]:List J),0,0,0,0,(E,E,0),([]:List Int))).2).2).2).2).2).2).2).2).2).2).1,(i64.wrap ((i64.wrap ((i64.wrap (y9.1+1))+1))+1)),((((((((((((z13.getD x1.toNat (0,0,false,false,false,false,([]:List Int),([]:List J),0,0,0,0,(E,E,0),([]:List Int))).2).2).2).2).2).2).2).2).2).2).2).2); ((AQ (i64.wrap ((i64.wrap ((i64.wrap ((i64.wrap (y9.1+1))+1))+1))+1))).bind fun y15=>(if 0<=x1 then (if x1<(z14.length:Int) then (let z16:List AD:=z14.set x1.toNat ((z14.getD x1.toNat (0,0,false,false,false,false,([]:List Int),([]:List J),0,0,0,0,(E,E,0),([]:List Int))).1,((z14.getD x1.toNat (0,0,false,false,false,false,([]:List Int),([]:List J),0,0,0,0,(E,E,0),([]:List Int))).2).1,(((z14.getD x1.toNat (0,0,false,false,false,false,([]:List Int),([]:List J),0,0,0,0,(E,E,0),([]:List Int))).2).2).1,((((z14.getD x1.toNat (0,0,false,false,false,false,([]:List Int),([]:List J),0,0,0,0,(E,E,0),([]:List Int))).2).2).2).1,(((((z14.getD x1.toNat (0,0,false,false,false,false,([]:List Int),([]:List J),0,0,0,0,(E,E,0),([]:List Int))).2).2).2).2).1,((((((z14.getD x1.toNat (0,0,false,false,false,false,([]:List Int),([]:List J),0,0,0,0,(E,E,0),([]:List Int))).2).2).2).2).2).1,(((((((z14.getD x1.toNat (0,0,false,false,false,false,([]:List Int),([]:List J),0,0,0,0,(E,E,0),([]:List Int))).2).2).2).2).2).2).1,((((((((z14.getD x1.toNat (0,0,false,false,false,false,([]:List Int),([]:List J),0,0,0,0,(E,E,0),([]:List Int))).2).2).2).2).2).2).2).1,(((((((((z14.getD x1.toNat (0,0,false,false,false,false,([]:List Int),([]:List J),0,0,0,0,(E,E,0),([]:List Int))).2).2).2).2).2).2).2).2).1,((((((((((z14.getD x1.toNat (0,0,false,false,false,false,([]:List Int),([]:List J),0,0,0,0,(E,E,0),([]:List Int))).2).2).2).2).2).2).2).2).2).1,(((((((((((z14.getD x1.toNat (0,0,false,false,false,false,([]:List Int),([]:List J),0,0,0,0,(E,E,0),([]:List Int))).2).2).2).2).2).2).2).2).2).2).1,((((((((((((z14.getD x1.toNat (0,0,false,false,false,false,([]:List Int),([]:List J),0,0,0,0,(E,E,0),([]:List Int))).2).2).2).2).2).2).2).2).2).2).2).1,(y15,((((((((((((((z14.getD x1.toNat (0,0,false,false,false,false,([]:List Int),([]:List J),0,0,0,0,(E,E,0),([]:List Int))).2).2).2).2).2).2).2).2).2).2).2).2).1).2),(((((((((((((z14.getD x1.toNat (0,0,false,false,false,false,([]:List Int),([]:List J),0,0,0,0,(E,E,0),([]:List Int))).2).2).2).2).2).2).2).2).2).2).2).2).2); ((AQ (i64.wrap ((i64.wrap ((i64.wrap ((i64.wrap ((i64.wrap (y9.1+1))+1))+1))+1))+1))).bind fun y17=>(if 0<=x1 then (if x1<(z16.length:Int) then (let z18:List AD:=z16.set x1.toNat ((z16.getD x1.toNat (0,0,false,false,false,false,([]:List Int),([]:List J),0,0,0,0,(E,E,0),([]:List Int))).1,((z16.getD x1.toNat (0,0,false,false,false,false,([]:List Int),([]:List J),0,0,0,0,(E,E,0),([]:List Int))).2).1,(((z16.getD x1.toNat (0,0,false,false,false,false,([]:List Int),([]:List J),0,0,0,0,(E,E,0),([]:List Int))).2).2).1,((((z16.getD x1.toNat (0,0,false,false,false,false,([]:List Int),([]:List J),0,0,0,0,(E,E,0),([]:List Int))).2).2).2).1,(((((z16.getD x1.toNat (0,0,false,false,false,false,([]:List Int),([]:List J),0,0,0,0,(E,E,0),([]:List Int))).2).2).2).2).1,((((((z16.getD x1.toNat (0,0,false,false,false,false,([]:List Int),([]:List J),0,0,0,0,(E,E,0),([]:List Int))).2).2).2).2).2).1,(((((((z16.getD x1.toNat (0,0,false,false,false,false,([]:List Int),([]:List J),0,0,0,0,(E,E,0),([]:List Int))).2).2).2).2).2).2).1,((((((((z16.getD x1.toNat (0,0,false,false,false,false,([]:List Int),([]:List J),0,0,0,0,(E,E,0),([]:List Int))).2).2).2).2).2).2).2).1,(((((((((z16.getD x1.toNat (0,0,false,false,false,false,([]:List Int),([]:List J),0,0,0,0,(E,E,0),([]:List Int))).2).2).2).2).2).2).2).2).1,((((((((((z16.getD x1.toNat (0,0,false,false,false,false,([]:List Int),([]:List J),0,0,0,0,(E,E,0),([]:List Int))).2).2).2).2).2).2).2).2).2).1,(((((((((((z16.getD x1.toNat (0,0,false,false,false,false,([]:List Int),([]:List J),0,0,0,0,(E,E,0),([]:List Int))).2).2).2).2).2).2).2).2).2).2).1,((((((((((((z16.getD x1.toNat (0,0,false,false,false,false,([]:List Int),([]:List J),0,0,0,0,(E,E,0),([]:List Int))).2).2).2).2).2).2).2).2).2).2).2).1,(((((((((((((((z16.getD x1.toNat (0,0,false,false,false,false,([]:List Int),([]:List J),0,0,0,0,(E,E,0),([]:List Int))).2).2).2).2).2).2).2).2).2).2).2).2).1).1,y17,(((((((((((((((z16.getD x1.toNat (0,0,false,false,false,false,([]:List Int),([]:List J),0,0,0,0,(E,E,0),([]:List Int))).2).2).2).2).2).2).2).2).2).2).2).2).1).2).2),(((((((((((((z16.getD x1.toNat (0,0,false,false,false,false,([]:List Int),([]:List J),0,0,0,0,(E,E,0),([]:List Int))).2).2).2).2).2).2).2).2).2).2).2).2).2); (if 0<=x1 then (if x1<(z18.length:Int) then (let z19:List AD:=z18.set x1.toNat ((z18.getD x1.toNat (0,0,false,false,false,false,([]:List Int),([]:List J),0,0,0,0,(E,E,0),([]:List Int))).1,((z18.getD x1.toNat (0,0,false,false,false,false,([]:List Int),([]:List J),0,0,0,0,(E,E,0),([]:List Int))).2).1,(((z18.getD x1.toNat (0,0,false,false,false,false,([]:List Int),([]:List J),0,0,0,0,(E,E,0),([]:List Int))).2).2).1,((((z18.getD x1.toNat (0,0,false,false,false,false,([]:List Int),([]:List J),0,0,0,0,(E,E,0),([]:List Int))).2).2).2).1,(((((z18.getD x1.toNat (0,0,false,false,false,false,([]:List Int),([]:List J),0,0,0,0,(E,E,0),([]:List Int))).2).2).2).2).1,((((((z18.getD x1.toNat (0,0,false,false,false,false,([]:List Int),([]:List J),0,0,0,0,(E,E,0),([]:List Int))).2).2).2).2).2).1,(((((((z18.getD x1.toNat (0,0,false,false,false,false,([]:List Int),([]:List J),0,0,0,0,(E,E,0),([]:List Int))).2).2).2).2).2).2).1,((((((((z18.getD x1.toNat (0,0,false,false,false,false,([]:List Int),([]:List J),0,0,0,0,(E,E,0),([]:List Int))).2).2).2).2).2).2).2).1,(((((((((z18.getD x1.toNat (0,0,false,false,false,false,([]:List Int),([]:List J),0,0,0,0,(E,E,0),([]:List Int))).2).2).2).2).2).2).2).2).1,((((((((((z18.getD x1.toNat (0,0,false,false,false,false,([]:List Int),([]:List J),0,0,0,0,(E,E,0),([]:List Int))).2).2).2).2).2).2).2).2).2).1,(((((((((((z18.getD x1.toNat (0,0,false,false,false,false,([]:List Int),([]:List J),0,0,0,0,(E,E,0),([]:List Int))).2).2).2).2).2).2).2).2).2).2).1,((((((((((((z18.getD x1.toNat (0,0,false,false,false,false,([]:List Int),([]:List J),0,0,0,0,(E,E,0),([]:List Int))).2).2).2).2).2).2).2).2).2).2).2).1,(((((((((((((((z18.getD x1.toNat (0,0,false,false,false,false,([]:List Int),([]:List J),0,0,0,0,(E,E,0),([]:List Int))).2).2).2).2).2).2).2).2).2).2).2).2).1).1,(((((((((((((((z18.getD x1.toNat (0,0,false,false,false,false,([]:List Int),([]:List J),0,0,0,0,(E,E,0),([]:List Int))).2).2).2).2).2).2).2).2).2).2).2).2).1).2).1,(i64.wrap ((i64.wrap ((i64.wrap ((i64.wrap ((i64.wrap ((i64.wrap (y9.1+1))+1))+1))+1))+1))+1))),(((((((((((((z18.getD x1.toNat (0,0,false,false,false,false,([]:List Int),([]:List J),0,0,0,0,(E,E,0),([]:List Int))).2).2).2).2).2).2).2).2).2).2).2).2).2); (if 0<=x1 then (if x1<(z19.length:Int) then ((BM (i64.wrap ((i64.wrap ((i64.wrap ((i64.wrap ((i64.wrap ((i64.wrap ((i64.wrap (y9.1+1))+1))+1))+1))+1))+1))+1)) ((((((((((((((z19.getD x1.toNat (0,0,false,false,false,false,([]:List Int),([]:List J),0,0,0,0,(E,E,0),([]:List Int))).2).2).2).2).2).2).2).2).2).2).2).2).2)).bind fun y20=>(let z21:List AD:=z19.set x1.toNat ((z19.getD x1.toNat (0,0,false,false,false,false,([]:List Int),([]:List J),0,0,0,0,(E,E,0),([]:List Int))).1,((z19.getD x1.toNat (0,0,false,false,false,false,([]:List Int),([]:List J),0,0,0,0,(E,E,0),([]:List Int))).2).1,(((z19.getD x1.toNat (0,0,false,false,false,false,([]:List Int),([]:List J),0,0,0,0,(E,E,0),([]:List Int))).2).2).1,((((z19.getD x1.toNat (0,0,false,false,false,false,([]:List Int),([]:List J),0,0,0,0,(E,E,0),([]:List Int))).2).2).2).1,(((((z19.getD x1.toNat (0,0,false,false,false,false,([]:List Int),([]:List J),0,0,0,0,(E,E,0),([]:List Int))).2).2).2).2).1,((((((z19.getD x1.toNat (0,0,false,false,false,false,([]:List Int),([]:List J),0,0,0,0,(E,E,0),([]:List Int))).2).2).2).2).2).1,(((((((z19.getD x1.toNat (0,0,false,false,false,false,([]:List Int),([]:List J),0,0,0,0,(E,E,0),([]:List Int))).2).2).2).2).2).2).1,((((((((z19.getD x1.toNat (0,0,false,false,false,false,([]:List Int),([]:List J),0,0,0,0,(E,E,0),([]:List Int))).2).2).2).2).2).2).2).1,(((((((((z19.getD x1.toNat (0,0,false,false,false,false,([]:List Int),([]:List J),0,0,0,0,(E,E,0),([]:List Int))).2).2).2).2).2).2).2).2).1,((((((((((z19.getD x1.toNat (0,0,false,false,false,false,([]:List Int),([]:List J),0,0,0,0,(E,E,0),([]:List Int))).2).2).2).2).2).2).2).2).2).1,(((((((((((z19.getD x1.toNat (0,0,false,false,false,false,([]:List Int),([]:List J),0,0,0,0,(E,E,0),([]:List Int))).2).2).2).2).2).2).2).2).2).2).1,((((((((((((z19.getD x1.toNat (0,0,false,false,false,false,([]:List Int),([]:List J),0,0,0,0,(E,E,0),([]:List Int))).2).2).2).2).2).2).2).2).2).2).2).1,(((((((((((((z19.getD x1.toNat (0,0,false,false,false,false,([]:List Int),([]:List J),0,0,0,0,(E,E,0),([]:List Int))).2).2).2).2).2).2).2).2).2).2).2).2).1,y20.2); (Ci y20.1 (i64.wrap (x1+1)) z21))) else none) else none)) else none) else none)) else none) else none))) else none) else none))) else none) else none)) else none) else none)) else none) else none)) else none) else none))) else none) else none))) else none) else none)) else none) else none))) else none) else none))) else none) else none))) else none) else none))) else none) else none)) else none) else none) else (some (x0,x2)))
def Lz (x1:Int) (b0:List AD):Option (Int×List AD):=(Ci x1 0 b0)
theorem FV:PL Dc Ci:=lS (by kernel_rfl)
theorem L0:KJ Lz Eg:=cT BI rfl ⟨rfl,rfl⟩ (by kernel_rfl)
def ND:=cG HK (AT Bi) (AT Bi) kx
def NE:=kE 0 [] [1] 1 ND kx
def L1:St->Option (RT (Bq.outs Bi)):=lG HJ [(0,0)] [0,1,5] 1 (AT Bi) NE
def DP (x0 x1:Int) (x2:List BH):Option (Int×List BH):=L1 ⟨[(0,.row 0),(1,.int .i64 x0),(5,.int .i64 x1)],[.mrow 30 CA x2]⟩
def El (x0 x1:Int) (x2:List BH):Option (Int×List BH):=(if (decide (x1<(x2.length:Int)))=true then (if 0<=x1 then (if x1<(x2.length:Int) then (let z1:List BH:=x2.set x1.toNat (x0,(x2.getD x1.toNat (0,0,0,0,0,([]:List J))).2); (if 0<=x1 then (if x1<(z1.length:Int) then (let z2:List BH:=z1.set x1.toNat ((z1.getD x1.toNat (0,0,0,0,0,([]:List J))).1,(i64.wrap (x0+1)),((z1.getD x1.toNat (0,0,0,0,0,([]:List J))).2).2); (if 0<=x1 then (if x1<(z2.length:Int) then (let z3:List BH:=z2.set x1.toNat ((z2.getD x1.toNat (0,0,0,0,0,([]:List J))).1,((z2.getD x1.toNat (0,0,0,0,0,([]:List J))).2).1,(i64.wrap ((i64.wrap (x0+1))+1)),(((z2.getD x1.toNat (0,0,0,0,0,([]:List J))).2).2).2); (if 0<=x1 then (if x1<(z3.length:Int) then (let z4:List BH:=z3.set x1.toNat ((z3.getD x1.toNat (0,0,0,0,0,([]:List J))).1,((z3.getD x1.toNat (0,0,0,0,0,([]:List J))).2).1,(((z3.getD x1.toNat (0,0,0,0,0,([]:List J))).2).2).1,(i64.wrap ((i64.wrap ((i64.wrap (x0+1))+1))+1)),((((z3.getD x1.toNat (0,0,0,0,0,([]:List J))).2).2).2).2); (if 0<=x1 then (if x1<(z4.length:Int) then (let z5:List BH:=z4.set x1.toNat ((z4.getD x1.toNat (0,0,0,0,0,([]:List J))).1,((z4.getD x1.toNat (0,0,0,0,0,([]:List J))).2).1,(((z4.getD x1.toNat (0,0,0,0,0,([]:List J))).2).2).1,((((z4.getD x1.toNat (0,0,0,0,0,([]:List J))).2).2).2).1,(i64.wrap ((i64.wrap ((i64.wrap ((i64.wrap (x0+1))+1))+1))+1)),(((((z4.getD x1.toNat (0,0,0,0,0,([]:List J))).2).2).2).2).2); (if 0<=x1 then (if x1<(z5.length:Int) then ((CQ (i64.wrap ((i64.wrap ((i64.wrap ((i64.wrap ((i64.wrap (x0+1))+1))+1))+1))+1)) ((((((z5.getD x1.toNat (0,0,0,0,0,([]:List J))).2).2).2).2).2)).bind fun y6=>(let z7:List BH:=z5.set x1.toNat ((z5.getD x1.toNat (0,0,0,0,0,([]:List J))).1,((z5.getD x1.toNat (0,0,0,0,0,([]:List J))).2).1,(((z5.getD x1.toNat (0,0,0,0,0,([]:List J))).2).2).1,((((z5.getD x1.toNat (0,0,0,0,0,([]:List J))).2).2).2).1,(((((z5.getD x1.toNat (0,0,0,0,0,([]:List J))).2).2).2).2).1,y6.2); (DP y6.1 (i64.wrap (x1+1)) z7))) else none) else none)) else none) else none)) else none) else none)) else none) else none)) else none) else none)) else none) else none) else (some (x0,x2)))
def Po (x1:Int) (b0:List BH):Option (Int×List BH):=(DP x1 0 b0)
theorem HZ:PL El DP:=lS (by kernel_rfl)
theorem Pp:KJ Po GJ:=cT Bi rfl ⟨rfl,rfl⟩ (by kernel_rfl)
def L2:=cG GT (AT BU) (AT BU) kx
def L3:=kE 0 [] [1] 1 L2 kx
def K4:St->Option (RT (Bq.outs BU)):=lG GS [(0,0)] [0,1,5] 1 (AT BU) L3
def C5 (x0 x1:Int) (x2:List Ac):Option (Int×List Ac):=K4 ⟨[(0,.row 0),(1,.int .i64 x0),(5,.int .i64 x1)],[.mrow 186 BF x2]⟩
def ES (x0 x1:Int) (x2:List Ac):Option (Int×List Ac):=(if (decide (x1<(x2.length:Int)))=true then (if 0<=x1 then (if x1<(x2.length:Int) then (let z1:List Ac:=x2.set x1.toNat (x0,(x2.getD x1.toNat (0,E,E,0,0,0,0,0,E)).2); ((AQ (i64.wrap (x0+1))).bind fun y2=>(if 0<=x1 then (if x1<(z1.length:Int) then (let z3:List Ac:=z1.set x1.toNat ((z1.getD x1.toNat (0,E,E,0,0,0,0,0,E)).1,y2,((z1.getD x1.toNat (0,E,E,0,0,0,0,0,E)).2).2); ((AQ (i64.wrap ((i64.wrap (x0+1))+1))).bind fun y4=>(if 0<=x1 then (if x1<(z3.length:Int) then (let z5:List Ac:=z3.set x1.toNat ((z3.getD x1.toNat (0,E,E,0,0,0,0,0,E)).1,((z3.getD x1.toNat (0,E,E,0,0,0,0,0,E)).2).1,y4,(((z3.getD x1.toNat (0,E,E,0,0,0,0,0,E)).2).2).2); (if 0<=x1 then (if x1<(z5.length:Int) then (let z6:List Ac:=z5.set x1.toNat ((z5.getD x1.toNat (0,E,E,0,0,0,0,0,E)).1,((z5.getD x1.toNat (0,E,E,0,0,0,0,0,E)).2).1,(((z5.getD x1.toNat (0,E,E,0,0,0,0,0,E)).2).2).1,(i64.wrap ((i64.wrap ((i64.wrap (x0+1))+1))+1)),((((z5.getD x1.toNat (0,E,E,0,0,0,0,0,E)).2).2).2).2); (if 0<=x1 then (if x1<(z6.length:Int) then (let z7:List Ac:=z6.set x1.toNat ((z6.getD x1.toNat (0,E,E,0,0,0,0,0,E)).1,((z6.getD x1.toNat (0,E,E,0,0,0,0,0,E)).2).1,(((z6.getD x1.toNat (0,E,E,0,0,0,0,0,E)).2).2).1,((((z6.getD x1.toNat (0,E,E,0,0,0,0,0,E)).2).2).2).1,(i64.wrap ((i64.wrap ((i64.wrap ((i64.wrap (x0+1))+1))+1))+1)),(((((z6.getD x1.toNat (0,E,E,0,0,0,0,0,E)).2).2).2).2).2); (if 0<=x1 then (if x1<(z7.length:Int) then (let z8:List Ac:=z7.set x1.toNat ((z7.getD x1.toNat (0,E,E,0,0,0,0,0,E)).1,((z7.getD x1.toNat (0,E,E,0,0,0,0,0,E)).2).1,(((z7.getD x1.toNat (0,E,E,0,0,0,0,0,E)).2).2).1,((((z7.getD x1.toNat (0,E,E,0,0,0,0,0,E)).2).2).2).1,(((((z7.getD x1.toNat (0,E,E,0,0,0,0,0,E)).2).2).2).2).1,(i64.wrap ((i64.wrap ((i64.wrap ((i64.wrap ((i64.wrap (x0+1))+1))+1))+1))+1)),((((((z7.getD x1.toNat (0,E,E,0,0,0,0,0,E)).2).2).2).2).2).2); (if 0<=x1 then (if x1<(z8.length:Int) then (let z9:List Ac:=z8.set x1.toNat ((z8.getD x1.toNat (0,E,E,0,0,0,0,0,E)).1,((z8.getD x1.toNat (0,E,E,0,0,0,0,0,E)).2).1,(((z8.getD x1.toNat (0,E,E,0,0,0,0,0,E)).2).2).1,((((z8.getD x1.toNat (0,E,E,0,0,0,0,0,E)).2).2).2).1,(((((z8.getD x1.toNat (0,E,E,0,0,0,0,0,E)).2).2).2).2).1,((((((z8.getD x1.toNat (0,E,E,0,0,0,0,0,E)).2).2).2).2).2).1,(i64.wrap ((i64.wrap ((i64.wrap ((i64.wrap ((i64.wrap ((i64.wrap (x0+1))+1))+1))+1))+1))+1)),(((((((z8.getD x1.toNat (0,E,E,0,0,0,0,0,E)).2).2).2).2).2).2).2); (if 0<=x1 then (if x1<(z9.length:Int) then (let z10:List Ac:=z9.set x1.toNat ((z9.getD x1.toNat (0,E,E,0,0,0,0,0,E)).1,((z9.getD x1.toNat (0,E,E,0,0,0,0,0,E)).2).1,(((z9.getD x1.toNat (0,E,E,0,0,0,0,0,E)).2).2).1,((((z9.getD x1.toNat (0,E,E,0,0,0,0,0,E)).2).2).2).1,(((((z9.getD x1.toNat (0,E,E,0,0,0,0,0,E)).2).2).2).2).1,((((((z9.getD x1.toNat (0,E,E,0,0,0,0,0,E)).2).2).2).2).2).1,(((((((z9.getD x1.toNat (0,E,E,0,0,0,0,0,E)).2).2).2).2).2).2).1,(i64.wrap ((i64.wrap ((i64.wrap ((i64.wrap ((i64.wrap ((i64.wrap ((i64.wrap (x0+1))+1))+1))+1))+1))+1))+1)),((((((((z9.getD x1.toNat (0,E,E,0,0,0,0,0,E)).2).2).2).2).2).2).2).2); ((AQ (i64.wrap ((i64.wrap ((i64.wrap ((i64.wrap ((i64.wrap ((i64.wrap ((i64.wrap ((i64.wrap (x0+1))+1))+1))+1))+1))+1))+1))+1))).bind fun y11=>(if 0<=x1 then (if x1<(z10.length:Int) then (let z12:List Ac:=z10.set x1.toNat ((z10.getD x1.toNat (0,E,E,0,0,0,0,0,E)).1,((z10.getD x1.toNat (0,E,E,0,0,0,0,0,E)).2).1,(((z10.getD x1.toNat (0,E,E,0,0,0,0,0,E)).2).2).1,((((z10.getD x1.toNat (0,E,E,0,0,0,0,0,E)).2).2).2).1,(((((z10.getD x1.toNat (0,E,E,0,0,0,0,0,E)).2).2).2).2).1,((((((z10.getD x1.toNat (0,E,E,0,0,0,0,0,E)).2).2).2).2).2).1,(((((((z10.getD x1.toNat (0,E,E,0,0,0,0,0,E)).2).2).2).2).2).2).1,((((((((z10.getD x1.toNat (0,E,E,0,0,0,0,0,E)).2).2).2).2).2).2).2).1,y11); (C5 (i64.wrap ((i64.wrap ((i64.wrap ((i64.wrap ((i64.wrap ((i64.wrap ((i64.wrap ((i64.wrap ((i64.wrap (x0+1))+1))+1))+1))+1))+1))+1))+1))+1)) (i64.wrap (x1+1)) z12)) else none) else none))) else none) else none)) else none) else none)) else none) else none)) else none) else none)) else none) else none)) else none) else none))) else none) else none))) else none) else none) else (some (x0,x2)))
def Oo (x1:Int) (b0:List Ac):Option (Int×List Ac):=(C5 x1 0 b0)
theorem Ge:PL ES C5:=lS (by kernel_rfl)
theorem Oq:KJ Oo Fi:=cT BU rfl ⟨rfl,rfl⟩ (by kernel_rfl)
def L4:=cG HM (AT BV) (AT BV) kx
def L5:=kE 0 [] [1] 0 L4 kx
def K5:St->Option (RT (Bq.outs BV)):=lG HL [] [0,1,5] 0 (AT BV) L5
def C6 (x0:List (List Int)) (x1 x2:Int):Option Int:=K5 ⟨[(0,.lst .S x0),(1,.int .i64 x1),(5,.int .i64 x2)],[]⟩
def ET (x0:List (List Int)) (x1 x2:Int):Option Int:=(if (decide (x2<(x0.length:Int)))=true then (if 0<=x2 then (if x2<(x0.length:Int) then ((Bl (x0.getD x2.toNat ([]:List Int)) x1).bind fun y1=>(if (decide (y1<0))=true then (some (-1:Int)) else (C6 x0 y1 (i64.wrap (x2+1))))) else none) else none) else (some x1))
def Or (x0:List (List Int)) (x1:Int):Option Int:=(C6 x0 x1 0)
theorem Gf:PL ET C6:=lS (by kernel_rfl)
theorem Ot:KJ Or Fj:=cT BV rfl ⟨rfl,rfl⟩ (by kernel_rfl)

def KT:=cG FU (AT BJ) (AT BJ) kx
def KU:=kE 0 [] [1] 0 KT kx
def J1:St->Option (RT (Bq.outs BJ)):=lG FT [] [0,1,5] 0 (AT BJ) KU
def Cj (x0:List AD) (x1 x2:Int):Option Int:=J1 ⟨[(0,.lst AZ x0),(1,.int .i64 x1),(5,.int .i64 x2)],[]⟩
def Dd (x0:List AD) (x1 x2:Int):Option Int:=(if (decide (x2<(x0.length:Int)))=true then (if 0<=x2 then (if x2<(x0.length:Int) then (if (((x0.getD x2.toNat (0,0,false,false,false,false,([]:List Int),([]:List J),0,0,0,0,(E,E,0),([]:List Int))).1) != x1)=true then (some (-1:Int)) else (if 0<=x2 then (if x2<(x0.length:Int) then (if ((((x0.getD x2.toNat (0,0,false,false,false,false,([]:List Int),([]:List J),0,0,0,0,(E,E,0),([]:List Int))).2).1) != (i64.wrap (x1+1)))=true then (some (-1:Int)) else (if 0<=x2 then (if x2<(x0.length:Int) then (if 3=0 then none else (if (true != Jd .bool ((((x0.getD x2.toNat (0,0,false,false,false,false,([]:List Int),([]:List J),0,0,0,0,(E,E,0),([]:List Int))).2).2).1) ((Int.tmod (i64.wrap ((i64.wrap (x1+1))+1)) 3)==0))=true then (some (-1:Int)) else (if 0<=x2 then (if x2<(x0.length:Int) then (if 3=0 then none else (if (true != Jd .bool (((((x0.getD x2.toNat (0,0,false,false,false,false,([]:List Int),([]:List J),0,0,0,0,(E,E,0),([]:List Int))).2).2).2).1) ((Int.tmod (i64.wrap ((i64.wrap ((i64.wrap (x1+1))+1))+1)) 3)==0))=true then (some (-1:Int)) else (if 0<=x2 then (if x2<(x0.length:Int) then (if 3=0 then none else (if (true != Jd .bool ((((((x0.getD x2.toNat (0,0,false,false,false,false,([]:List Int),([]:List J),0,0,0,0,(E,E,0),([]:List Int))).2).2).2).2).1) ((Int.tmod (i64.wrap ((i64.wrap ((i64.wrap ((i64.wrap (x1+1))+1))+1))+1)) 3)==0))=true then (some (-1:Int)) else (if 0<=x2 then (if x2<(x0.length:Int) then (if 3=0 then none else (if (true != Jd .bool (((((((x0.getD x2.toNat (0,0,false,false,false,false,([]:List Int),([]:List J),0,0,0,0,(E,E,0),([]:List Int))).2).2).2).2).2).1) ((Int.tmod (i64.wrap ((i64.wrap ((i64.wrap ((i64.wrap ((i64.wrap (x1+1))+1))+1))+1))+1)) 3)==0))=true then (some (-1:Int)) else (if 0<=x2 then (if x2<(x0.length:Int) then ((Bl ((((((((x0.getD x2.toNat (0,0,false,false,false,false,([]:List Int),([]:List J),0,0,0,0,(E,E,0),([]:List Int))).2).2).2).2).2).2).1) (i64.wrap ((i64.wrap ((i64.wrap ((i64.wrap ((i64.wrap ((i64.wrap (x1+1))+1))+1))+1))+1))+1))).bind fun y1=>(if (decide (y1<0))=true then (some (-1:Int)) else (if 0<=x2 then (if x2<(x0.length:Int) then ((CR (((((((((x0.getD x2.toNat (0,0,false,false,false,false,([]:List Int),([]:List J),0,0,0,0,(E,E,0),([]:List Int))).2).2).2).2).2).2).2).1) y1).bind fun y2=>(if (decide (y2<0))=true then (some (-1:Int)) else (if 0<=x2 then (if x2<(x0.length:Int) then (if (((((((((((x0.getD x2.toNat (0,0,false,false,false,false,([]:List Int),([]:List J),0,0,0,0,(E,E,0),([]:List Int))).2).2).2).2).2).2).2).2).1) != y2)=true then (some (-1:Int)) else (if 0<=x2 then (if x2<(x0.length:Int) then (if ((((((((((((x0.getD x2.toNat (0,0,false,false,false,false,([]:List Int),([]:List J),0,0,0,0,(E,E,0),([]:List Int))).2).2).2).2).2).2).2).2).2).1) != (i64.wrap (y2+1)))=true then (some (-1:Int)) else (if 0<=x2 then (if x2<(x0.length:Int) then (if (((((((((((((x0.getD x2.toNat (0,0,false,false,false,false,([]:List Int),([]:List J),0,0,0,0,(E,E,0),([]:List Int))).2).2).2).2).2).2).2).2).2).2).1) != (i64.wrap ((i64.wrap (y2+1))+1)))=true then (some (-1:Int)) else (if 0<=x2 then (if x2<(x0.length:Int) then (if ((((((((((((((x0.getD x2.toNat (0,0,false,false,false,false,([]:List Int),([]:List J),0,0,0,0,(E,E,0),([]:List Int))).2).2).2).2).2).2).2).2).2).2).2).1) != (i64.wrap ((i64.wrap ((i64.wrap (y2+1))+1))+1)))=true then (some (-1:Int)) else (if 0<=x2 then (if x2<(x0.length:Int) then ((AQ (i64.wrap ((i64.wrap ((i64.wrap ((i64.wrap (y2+1))+1))+1))+1))).bind fun y3=>(if (!((((((((((((((((x0.getD x2.toNat (0,0,false,false,false,false,([]:List Int),([]:List J),0,0,0,0,(E,E,0),([]:List Int))).2).2).2).2).2).2).2).2).2).2).2).2).1).1).toList==y3.toList))=true then (some (-1:Int)) else (if 0<=x2 then (if x2<(x0.length:Int) then ((AQ (i64.wrap ((i64.wrap ((i64.wrap ((i64.wrap ((i64.wrap (y2+1))+1))+1))+1))+1))).bind fun y4=>(if (!(((((((((((((((((x0.getD x2.toNat (0,0,false,false,false,false,([]:List Int),([]:List J),0,0,0,0,(E,E,0),([]:List Int))).2).2).2).2).2).2).2).2).2).2).2).2).1).2).1).toList==y4.toList))=true then (some (-1:Int)) else (if 0<=x2 then (if x2<(x0.length:Int) then (if (((((((((((((((((x0.getD x2.toNat (0,0,false,false,false,false,([]:List Int),([]:List J),0,0,0,0,(E,E,0),([]:List Int))).2).2).2).2).2).2).2).2).2).2).2).2).1).2).2) != (i64.wrap ((i64.wrap ((i64.wrap ((i64.wrap ((i64.wrap ((i64.wrap (y2+1))+1))+1))+1))+1))+1)))=true then (some (-1:Int)) else (if 0<=x2 then (if x2<(x0.length:Int) then ((Bl ((((((((((((((x0.getD x2.toNat (0,0,false,false,false,false,([]:List Int),([]:List J),0,0,0,0,(E,E,0),([]:List Int))).2).2).2).2).2).2).2).2).2).2).2).2).2) (i64.wrap ((i64.wrap ((i64.wrap ((i64.wrap ((i64.wrap ((i64.wrap ((i64.wrap (y2+1))+1))+1))+1))+1))+1))+1))).bind fun y5=>(if (decide (y5<0))=true then (some (-1:Int)) else (Cj x0 y5 (i64.wrap (x2+1))))) else none) else none)) else none) else none))) else none) else none))) else none) else none)) else none) else none)) else none) else none)) else none) else none)) else none) else none))) else none) else none))) else none) else none))) else none) else none))) else none) else none))) else none) else none))) else none) else none)) else none) else none)) else none) else none) else (some x1))
def L6 (x0:List AD) (x1:Int):Option Int:=(Cj x0 x1 0)
theorem FW:PL Dd Cj:=lS (by kernel_rfl)
theorem L7:KJ L6 Eh:=cT BJ rfl ⟨rfl,rfl⟩ (by kernel_rfl)
def NF:=cG HO (AT Bj) (AT Bj) kx
def NG:=kE 0 [] [1] 0 NF kx
def L8:St->Option (RT (Bq.outs Bj)):=lG HN [] [0,1,5] 0 (AT Bj) NG
def DQ (x0:List BH) (x1 x2:Int):Option Int:=L8 ⟨[(0,.lst Du x0),(1,.int .i64 x1),(5,.int .i64 x2)],[]⟩
def Em (x0:List BH) (x1 x2:Int):Option Int:=(if (decide (x2<(x0.length:Int)))=true then (if 0<=x2 then (if x2<(x0.length:Int) then (if (((x0.getD x2.toNat (0,0,0,0,0,([]:List J))).1) != x1)=true then (some (-1:Int)) else (if 0<=x2 then (if x2<(x0.length:Int) then (if ((((x0.getD x2.toNat (0,0,0,0,0,([]:List J))).2).1) != (i64.wrap (x1+1)))=true then (some (-1:Int)) else (if 0<=x2 then (if x2<(x0.length:Int) then (if (((((x0.getD x2.toNat (0,0,0,0,0,([]:List J))).2).2).1) != (i64.wrap ((i64.wrap (x1+1))+1)))=true then (some (-1:Int)) else (if 0<=x2 then (if x2<(x0.length:Int) then (if ((((((x0.getD x2.toNat (0,0,0,0,0,([]:List J))).2).2).2).1) != (i64.wrap ((i64.wrap ((i64.wrap (x1+1))+1))+1)))=true then (some (-1:Int)) else (if 0<=x2 then (if x2<(x0.length:Int) then (if (((((((x0.getD x2.toNat (0,0,0,0,0,([]:List J))).2).2).2).2).1) != (i64.wrap ((i64.wrap ((i64.wrap ((i64.wrap (x1+1))+1))+1))+1)))=true then (some (-1:Int)) else (if 0<=x2 then (if x2<(x0.length:Int) then ((CR ((((((x0.getD x2.toNat (0,0,0,0,0,([]:List J))).2).2).2).2).2) (i64.wrap ((i64.wrap ((i64.wrap ((i64.wrap ((i64.wrap (x1+1))+1))+1))+1))+1))).bind fun y1=>(if (decide (y1<0))=true then (some (-1:Int)) else (DQ x0 y1 (i64.wrap (x2+1))))) else none) else none)) else none) else none)) else none) else none)) else none) else none)) else none) else none)) else none) else none) else (some x1))
def Pq (x0:List BH) (x1:Int):Option Int:=(DQ x0 x1 0)
theorem Ha:PL Em DQ:=lS (by kernel_rfl)
theorem Pr:KJ Pq GK:=cT Bj rfl ⟨rfl,rfl⟩ (by kernel_rfl)
def L9:=cG GV (AT BW) (AT BW) kx
def L_:=kE 0 [] [1] 0 L9 kx
def K6:St->Option (RT (Bq.outs BW)):=lG GU [] [0,1,5] 0 (AT BW) L_
def C7 (x0:List Ac) (x1 x2:Int):Option Int:=K6 ⟨[(0,.lst BF x0),(1,.int .i64 x1),(5,.int .i64 x2)],[]⟩
def EU (x0:List Ac) (x1 x2:Int):Option Int:=(if (decide (x2<(x0.length:Int)))=true then (if 0<=x2 then (if x2<(x0.length:Int) then (if (((x0.getD x2.toNat (0,E,E,0,0,0,0,0,E)).1) != x1)=true then (some (-1:Int)) else (if 0<=x2 then (if x2<(x0.length:Int) then ((AQ (i64.wrap (x1+1))).bind fun y1=>(if (!((((x0.getD x2.toNat (0,E,E,0,0,0,0,0,E)).2).1).toList==y1.toList))=true then (some (-1:Int)) else (if 0<=x2 then (if x2<(x0.length:Int) then ((AQ (i64.wrap ((i64.wrap (x1+1))+1))).bind fun y2=>(if (!(((((x0.getD x2.toNat (0,E,E,0,0,0,0,0,E)).2).2).1).toList==y2.toList))=true then (some (-1:Int)) else (if 0<=x2 then (if x2<(x0.length:Int) then (if ((((((x0.getD x2.toNat (0,E,E,0,0,0,0,0,E)).2).2).2).1) != (i64.wrap ((i64.wrap ((i64.wrap (x1+1))+1))+1)))=true then (some (-1:Int)) else (if 0<=x2 then (if x2<(x0.length:Int) then (if (((((((x0.getD x2.toNat (0,E,E,0,0,0,0,0,E)).2).2).2).2).1) != (i64.wrap ((i64.wrap ((i64.wrap ((i64.wrap (x1+1))+1))+1))+1)))=true then (some (-1:Int)) else (if 0<=x2 then (if x2<(x0.length:Int) then (if ((((((((x0.getD x2.toNat (0,E,E,0,0,0,0,0,E)).2).2).2).2).2).1) != (i64.wrap ((i64.wrap ((i64.wrap ((i64.wrap ((i64.wrap (x1+1))+1))+1))+1))+1)))=true then (some (-1:Int)) else (if 0<=x2 then (if x2<(x0.length:Int) then (if (((((((((x0.getD x2.toNat (0,E,E,0,0,0,0,0,E)).2).2).2).2).2).2).1) != (i64.wrap ((i64.wrap ((i64.wrap ((i64.wrap ((i64.wrap ((i64.wrap (x1+1))+1))+1))+1))+1))+1)))=true then (some (-1:Int)) else (if 0<=x2 then (if x2<(x0.length:Int) then (if ((((((((((x0.getD x2.toNat (0,E,E,0,0,0,0,0,E)).2).2).2).2).2).2).2).1) != (i64.wrap ((i64.wrap ((i64.wrap ((i64.wrap ((i64.wrap ((i64.wrap ((i64.wrap (x1+1))+1))+1))+1))+1))+1))+1)))=true then (some (-1:Int)) else (if 0<=x2 then (if x2<(x0.length:Int) then ((AQ (i64.wrap ((i64.wrap ((i64.wrap ((i64.wrap ((i64.wrap ((i64.wrap ((i64.wrap ((i64.wrap (x1+1))+1))+1))+1))+1))+1))+1))+1))).bind fun y3=>(if (!((((((((((x0.getD x2.toNat (0,E,E,0,0,0,0,0,E)).2).2).2).2).2).2).2).2).toList==y3.toList))=true then (some (-1:Int)) else (C7 x0 (i64.wrap ((i64.wrap ((i64.wrap ((i64.wrap ((i64.wrap ((i64.wrap ((i64.wrap ((i64.wrap ((i64.wrap (x1+1))+1))+1))+1))+1))+1))+1))+1))+1)) (i64.wrap (x2+1))))) else none) else none)) else none) else none)) else none) else none)) else none) else none)) else none) else none)) else none) else none))) else none) else none))) else none) else none)) else none) else none) else (some x1))
def Ou (x0:List Ac) (x1:Int):Option Int:=(C7 x0 x1 0)
theorem Gg:PL EU C7:=lS (by kernel_rfl)
theorem Ov:KJ Ou Fk:=cT BW rfl ⟨rfl,rfl⟩ (by kernel_rfl)
def LR (x0 x1:J):Option Bool:=(if (!(x0.1.toList==x1.1.toList))=true then (some false) else (if (!(x0.2.1.toList==x1.2.1.toList))=true then (some false) else (if (x0.2.2 != x1.2.2)=true then (some false) else (some true))))
theorem Rc:KJ LR F3:=cT Fx rfl ⟨rfl,rfl⟩ (by kernel_rfl)
def NH:=cG H_ (AT Bk) (AT Bk) kx
def NI:=kE 0 [] [3] 0 NH kx
def MA:St->Option (RT (Bq.outs Bk)):=lG H9 [] [0,3] 0 (AT Bk) NI
def DR (x0:Int) (x1:ByteArray):Option ByteArray:=MA ⟨[(0,.int .i64 x0),(3,.str x1)],[]⟩
def DS (x0:Int) (x1:ByteArray):Option ByteArray:=(if (decide (x0>0))=true then (if 10=0 then none else (if (Fq ([(IntKind.u8.wrap (i64.wrap (48+(Int.tmod x0 10))))]:List Int)).size+x1.size<=1099511627776 then (if 10=0 then none else (DR (i64.wrap (Int.tdiv x0 10)) ((Fq ([(IntKind.u8.wrap (i64.wrap (48+(Int.tmod x0 10))))]:List Int))++x1))) else none)) else (if (⟨#[109]⟩:ByteArray).size+x1.size<=1099511627776 then (some ((⟨#[109]⟩:ByteArray)++x1)) else none))
def GO (x0:Int):Option ByteArray:=(if (decide (x0<=0))=true then (some (⟨#[109,48]⟩:ByteArray)) else (DR x0 (⟨#[]⟩:ByteArray)))
theorem En:KJ DS DR:=lS (by kernel_rfl)
theorem Ju:Uv GO AQ:=cT Bk rfl ⟨rfl,rfl⟩ (by kernel_rfl)
def Ow:=cG I6 (AT B8) (AT B8) kx
def Ox:=kE 0 [] [] 0 Ow kx
def NJ:St->Option (RT (Bq.outs B8)):=lG I5 [] [0,3] 0 (AT B8) Ox
def Do (x0:List Int) (x1:Int):Option Bool:=NJ ⟨[(0,.lst .W x0),(3,.int .i64 x1)],[]⟩
def FJ (x0:List Int) (x1:Int):Option Bool:=(if (decide (x1<(x0.length:Int)))=true then (if 0<=x1 then (if x1<(x0.length:Int) then ((D_ (x0.getD x1.toNat 0) 1 6).bind fun y2=>(if (!y2)=true then (some false) else (if 0<=(0:Int) then (if 0<=x1 then (if x1<=(x0.length:Int) then (if 0<=x1 then (if x1<(x0.length:Int) then ((Gs ((x0.take x1.toNat).drop (0:Int).toNat) (x0.getD x1.toNat 0)).bind fun y3=>(if y3=true then (some false) else (Do x0 (i64.wrap (x1+1))))) else none) else none) else none) else none) else none))) else none) else none) else (some true))
def KV (x0:List Int):Option Bool:=((D_ (x0.length:Int) 1 4).bind fun y1=>(if (!y1)=true then (some false) else (Do x0 0)))
theorem IF:KJ FJ Do:=lS (by kernel_rfl)
theorem Q6:Uv KV HU:=cT B8 rfl ⟨rfl,rfl⟩ (by kernel_rfl)
def IW:=cG EX (AT Ar) (AT Ar) kx
def IX:=kE 0 [] [] 0 IW kx
def Hl:St->Option (RT (Bq.outs Ar)):=lG EW [] [0,1,7,8] 0 (AT Ar) IX
def BK (x0:List Int) (x1 x2 x3:Int):Option Int:=Hl ⟨[(0,.lst .W x0),(1,.int .i64 x1),(7,.int .i64 x2),(8,.int .i64 x3)],[]⟩
def Ao (x0:List Int) (x1 x2 x3:Int):Option Int:=(if (decide (x3<x2))=true then (if 0<=x3 then (if x3<(x0.length:Int) then (if (x1==(x0.getD x3.toNat 0))=true then (some x3) else (BK x0 x1 x2 (i64.wrap (x3+1)))) else none) else none) else (some (-1:Int)))
def Ja (x0:List Int) (x1:Int):Option Int:=(BK x0 x1 (x0.length:Int) 0)
theorem Az:X4 Ao BK:=lS (by kernel_rfl)
theorem FK:KJ Ja Bb:=cT Ar rfl ⟨rfl,rfl⟩ (by kernel_rfl)
def LT (x0 x1:Ac):Option Bool:=(if (x0.1 != x1.1)=true then (some false) else (if (!(x0.2.1.toList==x1.2.1.toList))=true then (some false) else (if (!(x0.2.2.1.toList==x1.2.2.1.toList))=true then (some false) else (if (x0.2.2.2.1 != x1.2.2.2.1)=true then (some false) else (if (x0.2.2.2.2.1 != x1.2.2.2.2.1)=true then (some false) else (if (x0.2.2.2.2.2.1 != x1.2.2.2.2.2.1)=true then (some false) else (if (x0.2.2.2.2.2.2.1 != x1.2.2.2.2.2.2.1)=true then (some false) else (if (x0.2.2.2.2.2.2.2.1 != x1.2.2.2.2.2.2.2.1)=true then (some false) else (if (!(x0.2.2.2.2.2.2.2.2.toList==x1.2.2.2.2.2.2.2.2.toList))=true then (some false) else (some true))))))))))
theorem Rd:KJ LT IU:=cT Fy rfl ⟨rfl,rfl⟩ (by kernel_rfl)
def MB:=cG HR (AT BX) (AT BX) kx
def MC:=kE 0 [(3,0)] [3] 1 MB kx
def K7:St->Option (RT (Bq.outs BX)):=lG HQ [(3,0)] [0,3,4] 1 (AT BX) MC
def C8 (x0:List (List Int)) (x1:Int) (x2:List (List Int)):Option (List (List Int)):=K7 ⟨[(0,.lst .S x0),(3,.row 0),(4,.int .i64 x1)],[.rows 44 (.own 3 .W) x2]⟩
def K8 (x0:List (List Int)) (x1:Int) (x2:List (List Int)):Option (List (List Int)):=(if (decide (x1<(x0.length:Int)))=true then (if 0<=x1 then (if x1<(x0.length:Int) then ((F0 (x0.getD x1.toNat ([]:List Int))).bind fun y1=>(if 0<=x1 then (if x1<(x2.length:Int) then (let z2:List (List Int):=x2.set x1.toNat y1; (C8 x0 (i64.wrap (x1+1)) z2)) else none) else none)) else none) else none) else (some x2))
def Oy (x0:List (List Int)):Option (List (List Int)):=(if 0<=(x0.length:Int) then (if (x0.length:Int)<=68719476736 then (C8 x0 0 (List.replicate (x0.length:Int).toNat ([]:List Int))) else none) else none)
theorem K9:PL K8 C8:=lS (by kernel_rfl)
theorem Oz:Uv Oy Fl:=cT BX rfl ⟨rfl,rfl⟩ (by kernel_rfl)
end
end Go.Proofs.Ytffahmnodgnohaa.Core


namespace Go.Proofs.Ytffahmnodgnohaa.Core
open Go
theorem AH {n:Int} (h:-9223372036854775808<=n/\n<=9223372036854775807):IntKind.i64.wrap n=n:=IntWalk.i64_in n h
theorem Ad {i:Nat} (h:i<9223372036854775807):IntKind.i64.wrap ((i:Int)+1)=((i+1:Nat):Int):=by
 rw [AH (by omega)]
 omega
theorem Ps {P:Nat->Prop} {n:Nat} (h0:P n) (h:∀ i,i<n->P (i+1)->P i):∀ i,i<=n->P i:=by
 intro i hi
 induction hk:n-i generalizing i with
 | zero =>
  have:i=n:=by omega
  subst this
  exact h0
 | succ k ih=>exact h i (by omega) (ih (i+1) (by omega) (by omega))
theorem C9 {α:Type} {xs:List α} {i:Nat} {d:α} (h:i<xs.length):xs.getD i d=xs[i]:=by
 simp [List.getD,h]
theorem V4 {α:Type} {x:List α} {d:α} {i:Nat} (h:i<x.length) :
  (x.take i++List.replicate (x.length-i) d).set i x[i]=x.take (i+1)++List.replicate (x.length-(i+1)) d:=by
 have e:x.length-i=(x.length-(i+1))+1:=by omega
 have l:(x.take i).length=i:=by rw [List.length_take]; omega
 rw [List.set_append_right _ _ (by omega),l,e,List.replicate_succ,Nat.sub_self,List.set_cons_zero]
 have:=List.take_append_getElem (l:=x) (i:=i) h
 rw [<- this,Ba]
 rfl
theorem V5 {n:Int} {m:Nat} (hm:m<=maxLen) (hn:0<=n/\n<=4611686018427387904) (h:¬ IntKind.i64.wrap (n-(m:Int))<0):(m:Int)<=n:=by
 have:m<=9223372036854775807:=hm
 rw [AH (by omega)] at h
 omega

def Kd.small:(K:Kd)->K.T->Prop
 | .slice e,xs=>xs.length<=68719476736/\∀ x∈xs,Kd.small e x
 | .pair a b,x=>a.small x.1/\b.small x.2
 | .int _,_=>True
 | .bool,_=>True
 | .str,_=>True
 | .own _ _,_=>True
 | .ref _,_=>True
 | .fun _,_=>True
 | .clo _ _,_=>True
def Ww (K:Kd) (f:K.T->Option K.T):Prop:=∀ x,K.small x->f x=some x
def O0 (K:Kd) (f:K.T->K.T->Option Bool):Prop:=∀ x,K.small x->f x x=some true
theorem Q7 {α:Type} {x:List α} {d:α} {L:Int->List α->Option (List α)} {f:α->Option α} (hf:∀ a∈x,f a=some a) (hn:x.length<=68719476736)
  (h:∀ i z r,(if decide (i<(x.length:Int))=true then (if 0<=i then (if i<(x.length:Int) then ((f (x.getD i.toNat d)).bind fun y=>(if 0<=i then (if i<(z.length:Int) then (let z2:=z.set i.toNat y; L (IntKind.i64.wrap (i+(1:Int))) z2) else none) else none)) else none) else none) else some z)=some r->L i z=some r) :
  L 0 (List.replicate x.length d)=some x:=by
 have:=Ps (n:=x.length) (P:=fun i=>L (i:Int) (x.take i++List.replicate (x.length-i) d)=some x) (by
  refine h _ _ _ ?_
  simp) (fun i hi ih=>by
  refine h _ _ _ ?_
  simp only [show ((i:Int)<(x.length:Int)) from by omega,decide_true,if_true,show (0:Int)<=(i:Int) from by omega,BY,C9 hi,hf _ (Ex _),Z,Ad (show i<9223372036854775807 by omega)]
  rw [if_pos (by simp; omega),V4 hi]
  exact ih) 0 (by omega)
 simpa using this
theorem Q8 {α:Type} {x:List α} {d:α} {L:Int->Option Bool} {f:α->α->Option Bool} (hf:∀ a∈x,f a a=some true) (hn:x.length<=68719476736)
  (h:∀ i r,(if decide (i<(x.length:Int))=true then (if 0<=i then (if i<(x.length:Int) then (if 0<=i then (if i<(x.length:Int) then ((f (x.getD i.toNat d) (x.getD i.toNat d)).bind fun y=>(if (!y)=true then some false else L (IntKind.i64.wrap (i+(1:Int))))) else none) else none) else none) else none) else some true)=some r->L i=some r) :
  L 0=some true :=
 Ps (n:=x.length) (P:=fun i=>L (i:Int)=some true) (by
  refine h _ _ ?_
  simp) (fun i hi ih=>by
  refine h _ _ ?_
  simp only [show ((i:Int)<(x.length:Int)) from by omega,decide_true,if_true,show (0:Int)<=(i:Int) from by omega,BY,hf _ (C9 hi▸Ex _),Z,Ad (show i<9223372036854775807 by omega)]
  simpa using ih) 0 (by omega)
theorem UI {e:Kd} {f:e.T->Option e.T} (hf:Ww e f) {d:e.T} {x:List e.T} (hx:(Kd.slice e).small x) {L:Int->List e.T->Option (List e.T)}
  (h:∀ i z r,(if decide (i<(x.length:Int))=true then (if 0<=i then (if i<(x.length:Int) then ((f (x.getD i.toNat d)).bind fun y=>(if 0<=i then (if i<(z.length:Int) then (let z2:=z.set i.toNat y; L (IntKind.i64.wrap (i+(1:Int))) z2) else none) else none)) else none) else none) else some z)=some r->L i z=some r) :
  (if 0<=(x.length:Int) then (if (x.length:Int)<=68719476736 then L 0 (List.replicate (x.length:Int).toNat d) else none) else none)=some x:=by
 have:=hx.1
 rw [if_pos (by omega),if_pos (by omega)]
 exact Q7 (fun a ha=>hf a (hx.2 a ha)) hx.1 h
theorem Wx {α:Type} {d:α} {x:List α} (hx:x.length<=68719476736) {L:Int->List α->Option (List α)}
  (h:∀ i z r,(if decide (i<(x.length:Int))=true then (if 0<=i then (if i<(x.length:Int) then (if 0<=i then (if i<(z.length:Int) then (let z2:=z.set i.toNat (x.getD i.toNat d); L (IntKind.i64.wrap (i+(1:Int))) z2) else none) else none) else none) else none) else some z)=some r->L i z=some r) :
  (if 0<=(x.length:Int) then (if (x.length:Int)<=68719476736 then L 0 (List.replicate (x.length:Int).toNat d) else none) else none)=some x:=by
 rw [if_pos (by omega),if_pos (by omega)]
 refine Q7 (f:=fun a=>some a) (fun _ _=>rfl) hx (fun i z r hr=>h i z r ?_)
 simpa only [Z] using hr
theorem NK {e:Kd} {f:e.T->e.T->Option Bool} (hf:O0 e f) {d:e.T} {x:List e.T} (hx:(Kd.slice e).small x) {L:Int->Option Bool}
  (h:∀ i r,(if decide (i<(x.length:Int))=true then (if 0<=i then (if i<(x.length:Int) then (if 0<=i then (if i<(x.length:Int) then ((f (x.getD i.toNat d) (x.getD i.toNat d)).bind fun y=>(if (!y)=true then some false else L (IntKind.i64.wrap (i+(1:Int))))) else none) else none) else none) else none) else some true)=some r->L i=some r) :
  (if ((x.length:Int) != (x.length:Int))=true then some false else L 0)=some true:=by
 rw [if_neg (by simp)]
 exact Q8 (fun a ha=>hf a (hx.2 a ha)) hx.1 h
theorem Wy {α:Type} {c:α->α->Bool} (hc:∀ a,c a a=false) {d:α} {x:List α} (hx:x.length<=68719476736) {L:Int->Option Bool}
  (h:∀ i r,(if decide (i<(x.length:Int))=true then (if 0<=i then (if i<(x.length:Int) then (if 0<=i then (if i<(x.length:Int) then (if c (x.getD i.toNat d) (x.getD i.toNat d)=true then some false else L (IntKind.i64.wrap (i+(1:Int)))) else none) else none) else none) else none) else some true)=some r->L i=some r) :
  (if ((x.length:Int) != (x.length:Int))=true then some false else L 0)=some true:=by
 rw [if_neg (by simp)]
 refine Q8 (d:=d) (f:=fun a b=>some (!c a b)) (fun a _=>by rw [hc]; rfl) hx (fun i r hr=>h i r ?_)
 simpa only [Z,Bool.not_not] using hr

theorem KW:O0 BL F3:=fun x hx=>Rc (by
 unfold LR
 simp [Jd])
theorem Jv:O0 (.slice BL) E9:=fun x hx=>Qy (NK KW hx (L:=fun i=>Dj x x i) (fun i r h=>M1 h))
theorem Re:O0 Du JW:=fun x hx=>SW (by
 unfold Mn
 simp [Jv x.2.2.2.2.2 hx.2.2.2.2.2,Jd])
theorem KX:Ww (.slice (.int .i64)) F0:=fun x hx=>RW (Wx hx.1 (L:=fun i z=>EA x i z) (fun i z r h=>OY h))
theorem Pt:Ww (.slice (.slice (.int .i64))) Dv:=fun x hx=>Qt (UI KX hx (L:=fun i z=>Dh x i z) (fun i z r h=>Mr h))
theorem Hc:O0 (.slice (.int .i64)) EY:=fun x hx=>RY (Wy (c:=fun a b:Int=>a != b) (fun a=>by simp [Jd]) hx.1 (L:=fun i=>EB x x i) (fun i r h=>Of h))
theorem Q9:O0 KE IS:=fun x hx=>RZ (by
 unfold LQ
 simp [KW x.2.2.2.1 hx.2.2.2.1,Hc x.2.2.2.2 hx.2.2.2.2,Jd])
theorem O1:O0 AZ GI:=fun x hx=>Pe (by
 unfold Jo
 simp [Hc x.2.2.2.2.2.2.1 hx.2.2.2.2.2.2.1,Jv x.2.2.2.2.2.2.2.1 hx.2.2.2.2.2.2.2.1,Q9 x.2.2.2.2.2.2.2.2.2 hx.2.2.2.2.2.2.2.2.2,Jd])
theorem Jw:O0 (.slice (.slice (.int .i64))) E8:=fun x hx=>Qv (NK Hc hx (L:=fun i=>Di x x i) (fun i r h=>Mu h))
theorem NL:O0 (.slice AZ) Fh:=fun x hx=>Oi (NK O1 hx (L:=fun i=>C4 x x i) (fun i r h=>K3 h))
theorem Q_:O0 (.slice Du) IT:=fun x hx=>Rb (NK Re hx (L:=fun i=>EC x x i) (fun i r h=>Ol h))
theorem RA:O0 BF IU:=fun x hx=>Rd (by
 unfold LT
 simp [Jd])
theorem Pu:O0 (.slice BF) HT:=fun x hx=>Q5 (NK RA hx (L:=fun i=>Dn x x i) (fun i r h=>NC h))
theorem Pv:O0 Cq Dw:=fun x hx=>Qw (by
 unfold KN
 simp [Jw x.1 hx.1,NL x.2.1 hx.2.1,Q_ x.2.2.1 hx.2.2.1,Pu x.2.2.2 hx.2.2.2,Jd])
theorem NM:Ww (.slice (.slice (.int .i64))) Fl:=fun x hx=>Oz (UI KX hx (L:=fun i z=>C8 x i z) (fun i z r h=>K9 h))

theorem GD {α:Type} {p r:List α} {v w:α} {i:Nat} (h:p.length=i):(p++v::r).set i w=p++w::r:=by
 subst h
 rw [List.set_append_right _ _ (Nat.le_refl _),Nat.sub_self,List.set_cons_zero]
theorem DW {α:Type} {p r:List α} {v d:α} {i:Nat} (h:p.length=i):(p++v::r).getD i d=v:=by
 subst h
 simp [List.getD]
theorem Xo {k:Int} (h0:0<=k) (h1:k<=9223372036854775807):IntKind.i64.wrap (Int.tdiv k 10)=k / 10:=by
 rw [Int.tdiv_eq_ediv_of_nonneg h0,AH (by omega)]
theorem RB:∀ (n:Nat) (k:Int) (s:ByteArray),0<=k->k<10^n->k<=9223372036854775807->s.size+n<=1000->∃ r,DR k s=some r
 | 0,k,s,h0,h1,h2,h3=>by
  have:k=0:=by simp at h1; omega
  subst this
  refine ⟨(⟨#[109]⟩:ByteArray)++s,En ?_⟩
  unfold DS
  rw [if_neg (by decide),if_pos (by
   have:(⟨#[109]⟩:ByteArray).size=1:=rfl
   omega)]
 | n+1,k,s,h0,h1,h2,h3=>by
  by_cases hk:k>0
  ·have hs:∀ d:Int,(Fq ([d]:List Int)).size=1:=fun d=>rfl
   obtain ⟨r,hr⟩:=RB n (k / 10) (Fq ([(IntKind.u8.wrap (IntKind.i64.wrap (48+(Int.tmod k 10))))]:List Int)++s) (by omega) (by rw [Int.pow_succ] at h1; omega) (by omega) (by rw [ByteArray.size_append,hs]; omega)
   refine ⟨r,En ?_⟩
   unfold DS
   rw [if_pos (by simpa using hk),if_neg (by decide),if_pos (by rw [hs]; omega),if_neg (by decide),Xo h0 h2]
   exact hr
  ·have:k=0:=by omega
   subst this
   refine ⟨(⟨#[109]⟩:ByteArray)++s,En ?_⟩
   unfold DS
   rw [if_neg (by decide),if_pos (by
    have:(⟨#[109]⟩:ByteArray).size=1:=rfl
    omega)]
noncomputable def JF (k:Int):ByteArray:=(AQ k).getD E
theorem AU {k:Int} (h:k<=9223372036854775807):AQ k=some (JF k):=by
 have:∃ r,AQ k=some r:=by
  by_cases h0:k<=0
  ·refine ⟨(⟨#[109,48]⟩:ByteArray),Ju ?_⟩
   unfold GO
   rw [if_pos (by simpa using h0)]
  ·obtain ⟨r,hr⟩:=RB 19 k ⟨#[]⟩ (by omega) (by omega) h (by decide)
   refine ⟨r,Ju ?_⟩
   unfold GO
   rw [if_neg (by simpa using h0)]
   exact hr
 obtain ⟨r,hr⟩:=this
 unfold JF
 rw [hr]
 rfl

theorem NN:∀ (r p:List Int) (k:Int),0<=k->k+(r.length:Int)<=4611686018427387904->p.length+r.length<=4611686018427387904 ->
  ∃ z,Ce k (p.length:Int) (p++r)=some (k+(r.length:Int),z)
 | [],p,k,h0,h1,h2=>⟨p++[],DM (by
  unfold Cf
  rw [if_neg (by simp)]
  simp)⟩
 | v::r,p,k,h0,h1,h2=>by
  simp only [List.length_cons] at h1 h2
  obtain ⟨z,ih⟩:=NN r (p++[k]) (k+1) (by omega) (by omega) (by simp only [List.length_append,List.length_cons,List.length_nil]; omega)
  refine ⟨z,DM ?_⟩
  unfold Cf
  have w1:IntKind.i64.wrap (k+1)=k+1:=AH (by omega)
  have hl:∀ m:Int,((p.length:Int)<((p++m::r).length:Int)):=fun m=>by simp only [List.length_append,List.length_cons]; omega
  simp only [List.length_append,List.length_cons,List.length_nil,Ba,List.cons_append,List.nil_append] at ih
  simp only [hl,decide_true,if_true,show (0:Int)<=(p.length:Int) from by omega,w1,BY,GD rfl,Ad (show p.length<9223372036854775807 by omega)]
  rw [show p.length+(0+1)=p.length+1 from rfl] at ih
  rw [ih]
  simp only [List.length_cons]
  congr 2
  omega
theorem MD (k:Int) (x:List Int) (h0:0<=k) (h1:k<=1152921504606846976) (hx:x.length<=68719476736):∃ z,BM k x=some (k+(x.length:Int),z):=by
 obtain ⟨z,hz⟩:=NN x [] k h0 (by omega) (by simp; omega)
 refine ⟨z,Jt ?_⟩
 unfold Js
 simpa using hz

theorem Ee (a b c:Int):D_ a b c=some (decide (b<=a)&&decide (a<=c)):=SX (by
 unfold M2
 by_cases h:b<=a<;>simp [h])
theorem FN (a b c:Int):Dx a b c=some (decide (b<=a)&&decide (a<=c)):=Qz (by
 unfold KO
 by_cases h:b<=a<;>simp [h])

theorem Gy {α:Type} {x:List α} {i:Nat} (h:i<x.length):x.drop i=x[i]::x.drop (i+1):=List.drop_eq_getElem_cons h

theorem JG n:Fz n=some (decide (1<=n)&&decide (n<=6)):=RU (by simp [LO,FN])

theorem O2 (x:List Int) (hx:x.length<=maxLen) (n:Int) (hn:0<=n/\n<=68719476736):∃ r,IR x n=some r/\(r<0\/((x.length:Int)<=n/\0<=r/\r<=n)):=by
 have hm:x.length<=9223372036854775807:=hx
 by_cases h:IntKind.i64.wrap (n-(x.length:Int))<0
 ·exact ⟨-1,LP (by unfold IV; rw [if_pos (by simpa using h)]),.inl (by omega)⟩
 ·have e:IntKind.i64.wrap (n-(x.length:Int))=n-x.length:=AH (by omega)
  exact ⟨_,LP (by unfold IV; rw [if_neg (by simpa using h)]),.inr (by omega)⟩
theorem NO (x:List (List Int)) (hx:x.length<=maxLen) (hok:∀ a∈x,a.length<=maxLen) (n:Int) (hn:0<=n/\n<=68719476736):∃ r,HS x n=some r/\(r<0\/((x.length:Int)<=n/\∀ a∈x,(a.length:Int)<=n)):=by
 have hm:x.length<=9223372036854775807:=hx
 by_cases h:IntKind.i64.wrap (n-(x.length:Int))<0
 ·exact ⟨-1,KM (by unfold HV; rw [if_pos (by simpa using h)]),.inl (by omega)⟩
 ·have hl:=V5 hx (by omega) h
  have key:=Ps (n:=x.length) (P:=fun i=>∀ m:Int,0<=m->m<=n->∃ r,Df x m (i:Int)=some r/\(r<0\/∀ a∈x.drop i,(a.length:Int)<=n)) (fun m _ _=>⟨m,FB (by
   unfold Dg
   rw [if_neg (by simp)]),.inr (by simp)⟩) (fun i hi ih m hm0 hmn=>by
   obtain ⟨s,hs,hso⟩:=O2 x[i] (hok _ (Ex _)) m (by omega)
   by_cases h3:s<0
   ·refine ⟨-1,FB ?_,.inl (by omega)⟩
    unfold Dg
    simp only [show ((i:Int)<(x.length:Int)) from by omega,decide_true,if_true,show (0:Int)<=(i:Int) from by omega,BY,C9 hi,hs,Z]
    rw [if_pos (by simpa using h3)]
   ·rcases hso with hso | ⟨hsl,hs0,hsm⟩
    ·omega
    obtain ⟨r,hr,ho⟩:=ih s (by omega) (by omega)
    refine ⟨r,FB ?_,ho.imp id fun ho a ha=>?_⟩
    ·unfold Dg
     simp only [show ((i:Int)<(x.length:Int)) from by omega,decide_true,if_true,show (0:Int)<=(i:Int) from by omega,BY,C9 hi,hs,Z,Ad (show i<9223372036854775807 by omega)]
     rw [if_neg (by simpa using h3)]
     exact hr
    ·rw [Gy hi] at ha
     rcases AL.1 ha with rfl | ha
     ·omega
     ·exact ho a ha) 0 (by omega)
  have e:IntKind.i64.wrap (n-(x.length:Int))=n-x.length:=AH (by omega)
  obtain ⟨r,hr,ho⟩:=key (n-x.length) (by omega) (by omega)
  exact ⟨r,KM (by unfold HV; rw [if_neg (by simpa using h),e]; exact hr),ho.imp id fun ho=>⟨hl,by simpa using ho⟩⟩
theorem Jx (x:List Int) (n:Int) (h:x.length<=maxLen):Gs x n=some (x.contains n):=SY (by
 have hm:x.length<=9223372036854775807:=h
 unfold M4
 have:=Ps (n:=x.length) (P:=fun i=>Ed x n (i:Int)=some ((x.drop i).contains n)) (Jr (by
  unfold GN
  rw [if_neg (by simp),List.drop_length]
  rfl)) (fun i hi ih=>Jr (by
  unfold GN
  simp only [show ((i:Int)<(x.length:Int)) from by omega,decide_true,if_true,show (0:Int)<=(i:Int) from by omega,BY,C9 hi,Ad (show i<9223372036854775807 by omega)]
  rw [Gy hi,List.contains_cons,ih]
  by_cases e:x[i]=n
  ·subst e
   simp
  ·simp [e,Ne.symm e])) 0 (by omega)
 simpa using this)
theorem XY (x:List Int) (i:Nat) (hi:i<x.length) (h:x.length<=maxLen):∃ r,Bb x x[i]=some r/\((r=(i:Int))↔x[i]∉x.take i):=by
 have hm:x.length<=9223372036854775807:=h
 have key:=Ps (n:=i) (P:=fun k=>∃ r,BK x x[i] (x.length:Int) (k:Int)=some r/\(k:Int)<=r/\((r=(i:Int))↔∀ m (hm:m<i),k<=m->x[m]≠x[i])) ⟨i,Az (by
  unfold Ao
  simp only [show ((i:Int)<(x.length:Int)) from by omega,decide_true,if_true,show (0:Int)<=(i:Int) from by omega,BY,C9 hi]
  simp),by omega,⟨fun _ m hm hk=>by omega,fun _=>rfl⟩⟩ (fun k hk ⟨r,hr,hkr,hiff⟩=>by
  have hk2:k<x.length:=by omega
  by_cases e:x[i]=x[k]
  ·refine ⟨k,Az ?_,by omega,⟨fun he=>by omega,fun hall=>absurd e.symm (hall k hk (by omega))⟩⟩
   unfold Ao
   simp only [show ((k:Int)<(x.length:Int)) from by omega,decide_true,if_true,show (0:Int)<=(k:Int) from by omega,BY,C9 hk2]
   rw [if_pos (by simpa using e)]
  ·refine ⟨r,Az ?_,by omega,hiff.trans ⟨fun hall m hm hkm=>?_,fun hall m hm hkm=>hall m hm (by omega)⟩⟩
   ·unfold Ao
    simp only [show ((k:Int)<(x.length:Int)) from by omega,decide_true,if_true,show (0:Int)<=(k:Int) from by omega,BY,C9 hk2,Ad (show k<9223372036854775807 by omega)]
    rw [if_neg (by simpa using e)]
    exact hr
   ·rcases At k m with h1 | h1
    ·exact hall m hm h1
    ·have:m=k:=by omega
     subst this
     exact fun h=>e h.symm) 0 (by omega)
 obtain ⟨r,hr,_,hiff⟩:=key
 refine ⟨r,FK hr,hiff.trans ⟨fun hall hmem=>?_,fun hn m hm _ he=>hn ?_⟩⟩
 ·obtain ⟨m,hm,he⟩:=List.mem_take_iff_getElem.1 hmem
  exact hall m (by omega) (by omega) he
 ·exact List.mem_take_iff_getElem.2 ⟨m,by omega,he⟩
def Fo (v:List Int) (i:Nat):Nat->Bool
 | 0=>true
 | k+1=>(decide (1<=v.getD i 0)&&decide (v.getD i 0<=6))&&!(v.take i).contains (v.getD i 0)&&Fo v (i+1) k
def ME (v:List Int):Bool:=(decide (1<=(v.length:Int))&&decide ((v.length:Int)<=4))&&Fo v 0 v.length
def Bd (x:List (List Int)) (n:Nat):List (List Int)->Bool
 | []=>decide (1<=(n:Int))&&decide ((n:Int)<=9)
 | v::r=>ME v&&Bd x n r
theorem NP (v:List Int) (h:v.length<=maxLen):HU v=some (ME v):=Q6 (by
 have hm:v.length<=9223372036854775807:=h
 unfold KV ME
 simp only [Ee,Z]
 have:=Ps (n:=v.length) (P:=fun i=>Do v (i:Int)=some (Fo v i (v.length-i))) (IF (by
  unfold FJ
  rw [if_neg (by simp),Nat.sub_self]
  rfl)) (fun i hi ih=>IF (by
  unfold FJ
  have e:v.length-i=(v.length-(i+1))+1:=by omega
  rw [e,Fo]
  simp only [show ((i:Int)<(v.length:Int)) from by omega,show ((i:Int)<=(v.length:Int)) from by omega,decide_true,if_true,show (0:Int)<=(i:Int) from by omega,BY,Ee,Z,Ad (show i<9223372036854775807 by omega),ih,Int.toNat_zero,List.drop_zero,Int.le_refl,
   Jx (v.take i) _ (by rw [List.length_take]; omega)]
  generalize (decide (1<=v.getD i 0)&&decide (v.getD i 0<=6))=a
  generalize (v.take i).contains (v.getD i 0)=b
  cases a<;>cases b<;>simp)) 0 (by omega)
 simp only [Int.ofNat_zero,Nat.sub_zero] at this
 generalize (decide (1<=(v.length:Int))&&decide ((v.length:Int)<=4))=a
 cases a
 ·simp
 ·simpa using this)
theorem IG (x:List (List Int)) (h:x.length<=maxLen) (ho:∀ a∈x,a.length<=maxLen):Dy x=some (Bd x x.length x):=Q0 (by
 have hm:x.length<=9223372036854775807:=h
 unfold KP
 exact Ps (n:=x.length) (P:=fun i=>Dk x (i:Int)=some (Bd x x.length (x.drop i))) (IA (by
  unfold FC
  rw [if_neg (by simp),List.drop_length,Ee]
  rfl)) (fun i hi ih=>IA (by
  unfold FC
  simp only [show ((i:Int)<(x.length:Int)) from by omega,decide_true,if_true,show (0:Int)<=(i:Int) from by omega,BY,C9 hi,NP x[i] (ho _ (Ex _)),Z,Ad (show i<9223372036854775807 by omega),ih]
  rw [Gy hi,Bd]
  generalize ME x[i]=a
  cases a<;>simp)) 0 (by omega))
theorem FO (x:List (List Int)) (h:x.length<=maxLen) (ho:∀ a∈x,a.length<=maxLen):E_ x=some (Bd x x.length x):=Q3 (by
 have hm:x.length<=9223372036854775807:=h
 unfold KQ
 exact Ps (n:=x.length) (P:=fun i=>Dm x x (x.length:Int) (i:Int)=some (Bd x x.length (x.drop i))) (IE (by
  unfold FF
  rw [if_neg (by simp),List.drop_length,FN]
  rfl)) (fun i hi ih=>IE (by
  unfold FF
  simp only [show ((i:Int)<(x.length:Int)) from by omega,decide_true,if_true,show (0:Int)<=(i:Int) from by omega,BY,C9 hi]
  rw [Gy hi,Bd]
  have hv:=ho x[i] (Ex _)
  generalize x[i]=v at hv
  have hvm:v.length<=9223372036854775807:=hv
  have wj:FD x v x (x.length:Int) (i:Int)=some ((decide (1<=(v.length:Int))&&decide ((v.length:Int)<=4))&&Bd x x.length (x.drop (i+1))):=M6 (by
   unfold IC
   rw [FN,Z,Ad (show i<9223372036854775807 by omega),ih]
   generalize (decide (1<=(v.length:Int))&&decide ((v.length:Int)<=4))=a
   cases a<;>simp)
  have:=Ps (n:=v.length) (P:=fun j=>Dl x v x (x.length:Int) (i:Int) v (v.length:Int) (j:Int)=some (Fo v j (v.length-j)&&((decide (1<=(v.length:Int))&&decide ((v.length:Int)<=4))&&Bd x x.length (x.drop (i+1))))) (ID (by
   unfold FE
   rw [if_neg (by simp),Nat.sub_self,wj]
   rfl)) (fun j hj ihj=>ID (by
   unfold FE
   have e:v.length-j=(v.length-(j+1))+1:=by omega
   obtain ⟨r,hr,hiff⟩:=XY v j hj hv
   rw [e,Fo]
   simp only [show ((j:Int)<(v.length:Int)) from by omega,decide_true,if_true,show (0:Int)<=(j:Int) from by omega,BY,JG,Z,Ad (show j<9223372036854775807 by omega),ihj,C9 hj,hr]
   have hb:(r != (j:Int))=(v.take j).contains v[j]:=by
    by_cases e2:r=(j:Int)
    ·have:=hiff.1 e2
     simp [e2,this]
    ·have:v[j]∈v.take j:=Classical.byContradiction fun hn=>e2 (hiff.2 hn)
     simp [e2,this]
   rw [hb]
   generalize (decide (1<=v[j])&&decide (v[j]<=6))=a
   generalize (v.take j).contains v[j]=b
   cases a<;>cases b<;>simp)) 0 (by omega)
  simp only [Int.ofNat_zero,Nat.sub_zero] at this
  unfold ME
  refine Eq.trans this ?_
  congr 1
  generalize Fo v 0 v.length=a
  generalize (decide (1<=(v.length:Int))&&decide ((v.length:Int)<=4))=b
  cases a<;>cases b<;>simp)) 0 (by omega))

def Wz (a:ByteArray×ByteArray×Int):Bool:=(decide (1<=(a.1.size:Int))&&decide ((a.1.size:Int)<=12))&&decide ((a.2.1.size:Int)<=20)&&(decide (1<=a.2.2)&&decide (a.2.2<=1000000000))
def R1 (x:List (ByteArray×ByteArray×Int)) (i:Nat):Nat->Bool
 | 0=>decide ((x.length:Int)<=12)
 | k+1=>Wz (x.getD i (E,E,0))&&(decide (i=0)||Op.bytesLess (x.getD (i-1) (E,E,0)).1.toList (x.getD i (E,E,0)).1.toList)&&R1 x (i+1) k

abbrev R2:Type:=ByteArray×ByteArray×Int
def UJ (x:List R2):Bool:=R1 x 0 x.length





abbrev V6:Type:=Int×Int×Int×(ByteArray×ByteArray×Int)×List Int
abbrev Dp:Type:=Int×Int×Bool×Bool×Bool×Bool×List Int×List (ByteArray×ByteArray×Int)×Int×V6
def XZ (t:V6):Bool:=(t.1==0)&&(t.2.1==0)&&(t.2.2.1==0)&&Jd (.pair .str (.pair .str (.int .i64))) t.2.2.2.1 (E,E,(0:Int))&&((t.2.2.2.2.length:Int)==0)
def V7 (t:V6) (serves:Bool):Bool:=(t.1==1||t.1==2)&&serves&&(decide (0<=t.2.1)&&decide (t.2.1<=1000))&&(decide (1<=t.2.2.1)&&decide (t.2.2.1<=900))

abbrev TC:Type:=Int×Int×Int×Int×Int×List (ByteArray×ByteArray×Int)

def YD (v:List Int):Prop:=(∀ a∈v,1<=a/\a<=6)/\v.Pairwise (· < ·)
structure YJ (m:Dp):Prop where
 id:1<=m.1/\m.1<=6
 ep:1<=m.2.1/\m.2.1<=9
 serves:m.2.2.2.2.2.1=true->m.2.2.2.1=true/\m.2.2.2.2.1=true/\m.2.2.2.2.2.2.1=[]
 fell:m.2.2.1=true->m.2.2.2.1=false/\m.2.2.2.2.1=false
 waits:YD m.2.2.2.2.2.2.1
 left:YD m.2.2.2.2.2.2.2.2.2.2.2.2.2
 items:UJ m.2.2.2.2.2.2.2.1=true
 count:0<=m.2.2.2.2.2.2.2.2.1/\m.2.2.2.2.2.2.2.2.1<=900
 task:XZ m.2.2.2.2.2.2.2.2.2=true\/V7 m.2.2.2.2.2.2.2.2.2 m.2.2.2.2.2.1=true

structure Ux (views:List (List Int)):Prop where
 ok:Bd views views.length views=true
theorem IY {n:Nat}:∀ {l:List (List Int)} {x:List (List Int)},Bd x n l=true↔(∀ v∈l,ME v=true)/\1<=n/\n<=9
 | [],x=>by simp [Bd]; omega
 | v::l,x=>by
  rw [Bd,U,IY]
  simp [and_assoc]
theorem Ux.len {views:List (List Int)} (h:Ux views):1<=views.length/\views.length<=9:=(IY.1 h.ok).2
theorem Ux.view {views:List (List Int)} (h:Ux views) {v:List Int} (hv:v∈views):1<=v.length/\v.length<=4:=by
 have:=(IY.1 h.ok).1 v hv
 unfold ME at this
 simp only [U,decide_eq_true_eq] at this
 omega
theorem Ux.get {views:List (List Int)} (h:Ux views) {i:Nat} (hi:i<views.length):1<=(views.getD i []).length/\(views.getD i []).length<=4:=by
 rw [C9 hi]
 exact h.view (Ex hi)
theorem IH {views:List (List Int)} (h:Ux views):Dy views=some true:=by
 rw [IG views (by have:=h.len; unfold maxLen; omega) (fun a ha=>by have:=h.view ha; unfold maxLen; omega),h.ok]

structure YK (x:TC):Prop where
 kind:1<=x.1/\x.1<=8
 frm:1<=x.2.1/\x.2.1<=6
 to:1<=x.2.2.1/\x.2.2.1<=6
 ep:1<=x.2.2.2.1/\x.2.2.2.1<=9
 num:0<=x.2.2.2.2.1/\x.2.2.2.2.1<=1000000000
 items:UJ x.2.2.2.2.2=true
 shape:if x.1=2\/x.1=3 then True else if x.1=5 then x.2.2.2.2.2.length=1 else x.2.2.2.2.2=[]



def Xp:Dp:=((0:Int),(0:Int),false,false,false,false,([]:List Int),([]:List R2),(0:Int),(0:Int),(0:Int),(0:Int),(E,E,(0:Int)),([]:List Int))
def IZ (id:Int) (views:List (List Int)):Dp :=
 (id,(1:Int),false,(views.getD 0 []).contains id,((views.getD 0 []).getD 0 0==id),((views.getD 0 []).getD 0 0==id),([]:List Int),([]:List R2),(0:Int),(0:Int),(0:Int),(0:Int),(E,E,(0:Int)),([]:List Int))
theorem K_ (id:Int) (views:List (List Int)) (hi:1<=id/\id<=6) (hv:Ux views):Fd id views=some (IZ id views,true):=OG (by
 have hvl:=hv.len
 have g:=hv.get (i:=0) (by omega)
 unfold I7
 rw [IH hv,Z,if_pos (by rfl),Ee,Z,if_neg (by rw [<- Bool.decide_and,decide_eq_true hi]; simp)]
 refine Kr ?_
 unfold GX
 rw [show views.getD (0:Int).toNat ([]:List Int)=views.getD 0 [] from rfl,Jx _ _ (by unfold maxLen; omega),Z]
 repeat rw [if_pos (by omega)]
 rfl)

theorem TD (x:List Int) (n:Int) (h:x.length<=maxLen):Cm x n=some (x.contains n):=Hk (by
 have hm:x.length<=9223372036854775807:=h
 have key:=Ps (n:=x.length) (P:=fun i=>∃ r,BK x n (x.length:Int) (i:Int)=some r/\(decide (r>=0)=(x.drop i).contains n)) ⟨-1,Az (by
  unfold Ao
  rw [if_neg (by simp)]),by simp⟩ (fun i hi ⟨r,hr,hc⟩=>by
  by_cases e:n=x[i]
  ·refine ⟨(i:Int),Az ?_,?_⟩
   ·unfold Ao
    simp only [show ((i:Int)<(x.length:Int)) from by omega,decide_true,if_true,show (0:Int)<=(i:Int) from by omega,BY,C9 hi]
    rw [if_pos (by simpa using e)]
   ·rw [Gy hi,List.contains_cons,e]
    simp only [beq_self_eq_true,Bool.true_or]
    exact decide_eq_true (by omega)
  ·refine ⟨r,Az ?_,?_⟩
   ·unfold Ao
    simp only [show ((i:Int)<(x.length:Int)) from by omega,decide_true,if_true,show (0:Int)<=(i:Int) from by omega,BY,C9 hi,Ad (show i<9223372036854775807 by omega)]
    rw [if_neg (by simpa using e)]
    exact hr
   ·rw [Gy hi,hc,List.contains_cons]
    simp [e]) 0 (by omega)
 obtain ⟨r,hr,hc⟩:=key
 unfold EM
 have:Bb x n=some r:=FK hr
 rw [this,Z,hc,List.drop_zero])

theorem KY:∀ (r p:List (List Int)) (k:Int),0<=k->k+1048576*(r.length:Int)<=1152921504606846976->p.length+r.length<=4611686018427387904->(∀ a∈r,a.length<=1048576) ->
  ∃ k' z,CD k (p.length:Int) (p++r)=some (k',z)/\0<=k'
 | [],p,k,h0,h1,h2,h3=>⟨k,p++[],C0 (by
  unfold CE
  rw [if_neg (by simp)]),h0⟩
 | v::r,p,k,h0,h1,h2,h3=>by
  simp only [List.length_cons] at h1 h2
  have hv:=h3 v (by simp)
  obtain ⟨zv,hz⟩:=MD k v h0 (by omega) (by omega)
  obtain ⟨k',z,ih,hk'⟩:=KY r (p++[zv]) (k+(v.length:Int)) (by omega) (by omega) (by simp only [List.length_append,List.length_cons,List.length_nil]; omega) fun a ha=>h3 a (by simp [ha])
  refine ⟨k',z,C0 ?_,hk'⟩
  unfold CE
  have hl:∀ m:List Int,((p.length:Int)<((p++m::r).length:Int)):=fun m=>by simp only [List.length_append,List.length_cons]; omega
  simp only [List.length_append,List.length_cons,List.length_nil,Ba,List.cons_append,List.nil_append] at ih
  simp only [hl,decide_true,if_true,show (0:Int)<=(p.length:Int) from by omega,BY,GD rfl,DW rfl,hz,Z,Ad (show p.length<9223372036854775807 by omega)]
  rw [show p.length+(0+1)=p.length+1 from rfl] at ih
  exact ih
theorem LA (x:List (List Int)) (h1:x.length<=1048576) (h2:∀ a∈x,a.length<=1048576):∃ k z,DB 1 x=some (k,z)/\0<=k:=by
 obtain ⟨k,z,h,h0⟩:=KY x [] 1 (by omega) (by omega) (by simp; omega) h2
 exact ⟨k,z,I_ (by unfold I9; simpa using h),h0⟩
theorem MF (id:Int) (views:List (List Int)) (hi:1<=id/\id<=6) (hv:Ux views) (h:views.length<=maxLen) (ho:∀ a∈views,a.length<=maxLen):Fe id views=some (IZ id views,true):=OJ (by
 have hvl:=hv.len
 have g:=hv.get (i:=0) (by omega)
 unfold I8
 rw [JG,Z,if_pos (by rw [<- Bool.decide_and,decide_eq_true hi]; rfl),FO _ h ho,Z,if_neg (by simp [hv.ok])]
 refine Kt ?_
 unfold GZ
 rw [show views.getD (0:Int).toNat ([]:List Int)=views.getD 0 [] from rfl,TD _ _ (by unfold maxLen; omega),Z]
 repeat rw [if_pos (by omega)]
 rfl)

abbrev TE:Type:=Int×ByteArray×ByteArray×Int×Int×Int×Int×Int×ByteArray
abbrev MG:Type:=List (List Int)×List Dp×List TC×List TE
def Xq (g:MG) (i:Nat):Dp:=g.2.1.getD i Xp
structure YN (g:MG) (n:Nat):Prop where
 views:Ux g.1
 six:g.2.1.length=6
 mem:∀ i,i<6->YJ (Xq g i)/\(Xq g i).1=(i:Int)+1
 fly:∀ x∈g.2.2.1,YK x
 flen:g.2.2.1.length<=8*n
 clen:g.2.2.2.length<=n



theorem Jb (x:List (List Int)) (h:x.length<=1000) (ho:∀ a∈x,a.length<=1000):EO x=some x:=Kx (by
 unfold Gc
 have key:=Ps (n:=x.length) (P:=fun i=>CI x (i:Int) (x.take i)=some x) (FI (by
  unfold DO
  rw [if_neg (by simp),List.take_length])) (fun i hi ih=>FI (by
  unfold DO
  have:=ho x[i] (Ex hi)
  simp only [show ((i:Int)<(x.length:Int)) from by omega,decide_true,if_true,show (0:Int)<=(i:Int) from by omega,BY,C9 hi,Ad (show i<9223372036854775807 by omega),List.nil_append,List.length_nil,Nat.zero_add,List.length_cons,List.length_take]
  rw [if_pos (by omega),if_pos (by omega),List.take_append_getElem]
  exact ih)) 0 (by omega)
 exact key)
def Jc (views:List (List Int)):MG:=(views,[IZ 1 views,IZ 2 views,IZ 3 views,IZ 4 views,IZ 5 views,IZ 6 views],[],[])
theorem NQ {views:List (List Int)} (hv:Ux views):Ec views=some (Jc views,true):=Jp (by
 have hvl:=hv.len
 unfold GL
 rw [IH hv,Z,if_neg (by simp),Jb views (by omega) (fun a ha=>by have:=hv.view ha; omega),Z]
 have step:∀ (i:Nat) (a:_) (b:_) (c:_) (d:_) (l:List Dp) r,1<=i->i<=6->l.length<=6->Cc views ((i+1:Nat):Int) a b c d (l++[IZ (i:Int) views]) views=some r->Cc views (i:Int) a b c d l views=some r:=by
  intro i a b c d l r h1 h6 hl hr
  refine HW ?_
  unfold Ei
  rw [if_pos (by simp; omega),K_ _ _ (by omega) hv,Z,if_pos (by simp; omega),Ad (show i<9223372036854775807 by omega)]
  exact hr
 refine step 1 _ _ _ _ _ _ (by omega) (by omega) (by simp) ?_
 refine step 2 _ _ _ _ _ _ (by omega) (by omega) (by simp) ?_
 refine step 3 _ _ _ _ _ _ (by omega) (by omega) (by simp) ?_
 refine step 4 _ _ _ _ _ _ (by omega) (by omega) (by simp) ?_
 refine step 5 _ _ _ _ _ _ (by omega) (by omega) (by simp) ?_
 refine step 6 _ _ _ _ _ _ (by omega) (by omega) (by simp) ?_
 refine HW ?_
 unfold Ei
 rw [if_neg (by decide)]
 rfl)

def Gh {α:Type} (M:Int->α->Option (Int×α)) (H:α->Int->Option Int) (w:Nat) (x:α):Prop :=
 ∀ k:Int,0<=k->k+(w:Int)<=1152921504606846976->∃ k' y,M k x=some (k',y)/\k<=k'/\k'<=k+(w:Int)/\H y k=some k'
theorem RC {α:Type} {M:Int->α->Option (Int×α)} {H:α->Int->Option Int} {w:Nat} {LM:Int->Int->List α->Option (Int×List α)} {LH:List α->Int->Int->Option Int}
  (hM0:∀ k (ys:List α),LM k (ys.length:Int) ys=some (k,ys)) (hH0:∀ k (ys:List α),LH ys k (ys.length:Int)=some k)
  (hM:∀ k k' (p:List α) v r y s,p.length+r.length<=4611686018427387904->0<=k->k<=2305843009213693952->M k v=some (k',y)->LM k' ((p.length+1:Nat):Int) (p++y::r)=some s->LM k (p.length:Int) (p++v::r)=some s)
  (hH:∀ k k' (p:List α) v r s,p.length+r.length<=4611686018427387904->0<=k->0<=k'->k<=2305843009213693952->H v k=some k'->LH (p++v::r) k' ((p.length+1:Nat):Int)=some s->LH (p++v::r) k (p.length:Int)=some s) :
  ∀ (r p:List α) (k:Int),(∀ x∈r,Gh M H w x)->0<=k->k+(w:Int)*(r.length:Int)<=1152921504606846976->p.length+r.length<=4611686018427387904 ->
   ∃ k' z,LM k (p.length:Int) (p++r)=some (k',p++z)/\z.length=r.length/\k<=k'/\k'<=k+(w:Int)*(r.length:Int)/\LH (p++z) k (p.length:Int)=some k'
 | [],p,k,hx,h0,h1,h2=>⟨k,[],by rw [List.append_nil]; exact hM0 k p,rfl,by omega,by simp,by rw [List.append_nil]; exact hH0 k p⟩
 | v::r,p,k,hx,h0,h1,h2=>by
  simp only [List.length_cons,Int.natCast_add,Int.mul_add] at h1 h2
  have hw0:(0:Int)<=(w:Int)*(r.length:Int):=Int.mul_nonneg (by omega) (by omega)
  obtain ⟨k1,y,a,b,c,d⟩:=hx v (by simp) k h0 (by omega)
  obtain ⟨k',z,e1,e2,e3,e4,e5⟩:=RC hM0 hH0 hM hH r (p++[y]) k1 (fun x h=>hx x (by simp [h])) (by omega) (by omega) (by simp; omega)
  simp only [List.length_append,List.length_cons,List.length_nil,Ba,List.cons_append,List.nil_append,Nat.zero_add] at e1 e5
  refine ⟨k',y::z,hM k k1 p v r y _ (by omega) h0 (by omega) a e1,by simp [e2],by omega,by simp only [List.length_cons,Int.natCast_add,Int.mul_add]; omega,hH k k1 p y z k' (by omega) h0 (by omega) (by omega) d e5⟩
theorem Gh.of_list {α:Type} {M:Int->α->Option (Int×α)} {H:α->Int->Option Int} {w:Nat} {LM:Int->Int->List α->Option (Int×List α)} {LH:List α->Int->Int->Option Int} {FM:Int->List α->Option (Int×List α)} {FH:List α->Int->Option Int}
  (hM0:∀ k (ys:List α),LM k (ys.length:Int) ys=some (k,ys)) (hH0:∀ k (ys:List α),LH ys k (ys.length:Int)=some k)
  (hM:∀ k k' (p:List α) v r y s,p.length+r.length<=4611686018427387904->0<=k->k<=2305843009213693952->M k v=some (k',y)->LM k' ((p.length+1:Nat):Int) (p++y::r)=some s->LM k (p.length:Int) (p++v::r)=some s)
  (hH:∀ k k' (p:List α) v r s,p.length+r.length<=4611686018427387904->0<=k->0<=k'->k<=2305843009213693952->H v k=some k'->LH (p++v::r) k' ((p.length+1:Nat):Int)=some s->LH (p++v::r) k (p.length:Int)=some s)
  (hf:∀ k xs r,LM k 0 xs=some r->FM k xs=some r) (hg:∀ ys k r,LH ys k 0=some r->FH ys k=some r) {xs:List α} (n:Nat) (hn:xs.length<=n) (hl:xs.length<=4611686018427387904) (hx:∀ x∈xs,Gh M H w x) :
  Gh FM FH (w*n) xs:=fun k h0 h1=>by
 have hle:w*xs.length<=w*n:=Nat.mul_le_mul (Nat.le_refl _) hn
 have hle2:(w:Int)*(xs.length:Int)=((w*xs.length:Nat):Int):=by push_cast; rfl
 obtain ⟨k',z,e1,e2,e3,e4,e5⟩:=RC hM0 hH0 hM hH xs [] k hx h0 (by omega) (by simp; omega)
 exact ⟨k',z,hf k xs _ e1,e3,by omega,hg z k k' e5⟩
theorem MH {xs:List Int} (n:Nat) (hn:xs.length<=n) (hl:xs.length<=4611686018427387904):Gh BM Bl (1*n) xs :=
 Gh.of_list (M:=fun k _=>some (k+1,k)) (H:=fun v k=>if v=k then some (k+1) else none) (LM:=Ce) (LH:=DN)
  (fun k ys=>DM (by unfold Cf; rw [if_neg (by simp)]))
  (fun k ys=>HY (by unfold Ek; rw [if_neg (by simp)]))
  (fun k k' p v r y s h1 h2 h3 h4 h5=>DM (by
   cases h4
   unfold Cf
   rw [if_pos (by simp; omega),if_pos (by omega),if_pos (by simp; omega),BY]
   simp only [GD rfl,Ad (show p.length<9223372036854775807 by omega),show IntKind.i64.wrap (k+1)=k+1 from AH (by omega)]
   exact h5))
  (fun k k' p v r s h1 h2 h3 h4 h5 h6=>HY (by
   split at h5
   ·rename_i e
    cases h5
    unfold Ek
    rw [if_pos (by simp; omega),if_pos (by omega),if_pos (by simp; omega),BY]
    simp only [DW rfl,Ad (show p.length<9223372036854775807 by omega),show IntKind.i64.wrap (k+1)=k+1 from AH (by omega)]
    rw [if_neg (by simp [e])]
    exact h6
   ·cases h5))
  (fun k xs r h=>Jt h) (fun ys k r h=>Pl h) n hn hl
  (fun x _ k h0 h1=>⟨k+1,k,rfl,by omega,by omega,by simp⟩)
theorem TF {xs:List (List Int)} (m n:Nat) (hn:xs.length<=n) (hl:xs.length<=4611686018427387904) (hm:∀ x∈xs,x.length<=m/\x.length<=4611686018427387904):Gh DB Fj (1*m*n) xs :=
 Gh.of_list (M:=BM) (H:=Bl) (LM:=CD) (LH:=C6)
  (fun k ys=>C0 (by unfold CE; rw [if_neg (by simp)]))
  (fun k ys=>Gf (by unfold ET; rw [if_neg (by simp)]))
  (fun k k' p v r y s h1 h2 h3 h4 h5=>C0 (by
   unfold CE
   rw [if_pos (by simp; omega),if_pos (by omega),if_pos (by simp; omega),BY]
   simp only [DW rfl,h4,Z,GD rfl,Ad (show p.length<9223372036854775807 by omega)]
   exact h5))
  (fun k k' p v r s h1 h2 h3 h4 h5 h6=>Gf (by
   unfold ET
   rw [if_pos (by simp; omega),if_pos (by omega),if_pos (by simp; omega),BY]
   simp only [DW rfl,h5,Z,Ad (show p.length<9223372036854775807 by omega)]
   rw [if_neg (by simpa using h3)]
   exact h6))
  (fun k xs r h=>I_ h) (fun ys k r h=>Ot h) n hn hl
  (fun x hx=>MH m (hm x hx).1 (hm x hx).2)

theorem PM {xs:List R2} (n:Nat) (hn:xs.length<=n) (hl:xs.length<=4611686018427387904):Gh CQ CR (3*n) xs :=
 Gh.of_list (M:=fun k _=>some (k+3,(JF k,JF (k+1),k+2))) (H:=fun v k=>if v=(JF k,JF (k+1),k+2) then some (k+3) else none) (LM:=C1) (LH:=C2)
  (fun k ys=>Ga (by unfold EP; rw [if_neg (by simp)]))
  (fun k ys=>Gb (by unfold EQ; rw [if_neg (by simp)]))
  (fun k k' p v r y s h1 h2 h3 h4 h5=>Ga (by
   cases h4
   unfold EP
   have w1:IntKind.i64.wrap (k+1)=k+1:=AH (by omega)
   have w2:IntKind.i64.wrap (k+1+1)=k+2:=by rw [AH (by omega)]; omega
   have w3:IntKind.i64.wrap (k+2+1)=k+3:=by rw [AH (by omega)]; omega
   have hl:∀ m:R2,((p.length:Int)<((p++m::r).length:Int)):=fun m=>by simp only [List.length_append,List.length_cons]; omega
   simp only [hl,decide_true,if_true,show (0:Int)<=(p.length:Int) from by omega,AU (show k<=9223372036854775807 by omega),AU (show k+1<=9223372036854775807 by omega),Z,w1,w2,w3,BY,GD rfl,DW rfl,Ad (show p.length<9223372036854775807 by omega)]
   exact h5))
  (fun k k' p v r s h1 h2 h3 h4 h5 h6=>Gb (by
   split at h5
   ·rename_i e
    subst e
    cases h5
    unfold EQ
    have w1:IntKind.i64.wrap (k+1)=k+1:=AH (by omega)
    have w2:IntKind.i64.wrap (k+1+1)=k+2:=by rw [AH (by omega)]; omega
    have w3:IntKind.i64.wrap (k+2+1)=k+3:=by rw [AH (by omega)]; omega
    have hl:∀ m:R2,((p.length:Int)<((p++m::r).length:Int)):=fun m=>by simp only [List.length_append,List.length_cons]; omega
    simp only [hl,decide_true,if_true,show (0:Int)<=(p.length:Int) from by omega,AU (show k<=9223372036854775807 by omega),AU (show k+1<=9223372036854775807 by omega),Z,w1,w2,w3,BY,DW rfl,Ad (show p.length<9223372036854775807 by omega),bne_self_eq_false,beq_self_eq_true,Bool.not_true,Bool.false_eq_true,if_false]
    exact h6
   ·cases h5))
  (fun k xs r h=>OR h) (fun ys k r h=>OT h) n hn hl
  (fun x _ k h0 h1=>⟨k+3,_,rfl,by omega,by omega,by simp⟩)
noncomputable def UK (k:Int):TE:=(k,JF (k+1),JF (k+2),k+3,k+4,k+5,k+6,k+7,JF (k+8))
open Classical in
theorem TG {xs:List TE} (n:Nat) (hn:xs.length<=n) (hl:xs.length<=4611686018427387904):Gh Fi Fk (9*n) xs :=
 Gh.of_list (M:=fun k _=>some (k+9,UK k)) (H:=fun v k=>if v=UK k then some (k+9) else none) (LM:=C5) (LH:=C7)
  (fun k ys=>Ge (by unfold ES; rw [if_neg (by simp)]))
  (fun k ys=>Gg (by unfold EU; rw [if_neg (by simp)]))
  (fun k k' p v r y s h1 h2 h3 h4 h5=>Ge (by
   cases h4
   unfold ES
   unfold UK at h5
   have w1:IntKind.i64.wrap (k+1)=k+1:=AH (by omega)
   have w2:IntKind.i64.wrap (k+1+1)=k+2:=by rw [AH (by omega)]; omega
   have w3:IntKind.i64.wrap (k+2+1)=k+3:=by rw [AH (by omega)]; omega
   have w4:IntKind.i64.wrap (k+3+1)=k+4:=by rw [AH (by omega)]; omega
   have w5:IntKind.i64.wrap (k+4+1)=k+5:=by rw [AH (by omega)]; omega
   have w6:IntKind.i64.wrap (k+5+1)=k+6:=by rw [AH (by omega)]; omega
   have w7:IntKind.i64.wrap (k+6+1)=k+7:=by rw [AH (by omega)]; omega
   have w8:IntKind.i64.wrap (k+7+1)=k+8:=by rw [AH (by omega)]; omega
   have w9:IntKind.i64.wrap (k+8+1)=k+9:=by rw [AH (by omega)]; omega
   have hl:∀ m:TE,((p.length:Int)<((p++m::r).length:Int)):=fun m=>by simp only [List.length_append,List.length_cons]; omega
   simp only [hl,decide_true,if_true,show (0:Int)<=(p.length:Int) from by omega,AU (show k+1<=9223372036854775807 by omega),AU (show k+2<=9223372036854775807 by omega),AU (show k+8<=9223372036854775807 by omega),Z,w1,w2,w3,w4,w5,w6,w7,w8,w9,BY,GD rfl,DW rfl,Ad (show p.length<9223372036854775807 by omega)]
   exact h5))
  (fun k k' p v r s h1 h2 h3 h4 h5 h6=>Gg (by
   split at h5
   ·rename_i e
    subst e
    cases h5
    unfold EU
    unfold UK at h6 ⊢
    have w1:IntKind.i64.wrap (k+1)=k+1:=AH (by omega)
    have w2:IntKind.i64.wrap (k+1+1)=k+2:=by rw [AH (by omega)]; omega
    have w3:IntKind.i64.wrap (k+2+1)=k+3:=by rw [AH (by omega)]; omega
    have w4:IntKind.i64.wrap (k+3+1)=k+4:=by rw [AH (by omega)]; omega
    have w5:IntKind.i64.wrap (k+4+1)=k+5:=by rw [AH (by omega)]; omega
    have w6:IntKind.i64.wrap (k+5+1)=k+6:=by rw [AH (by omega)]; omega
    have w7:IntKind.i64.wrap (k+6+1)=k+7:=by rw [AH (by omega)]; omega
    have w8:IntKind.i64.wrap (k+7+1)=k+8:=by rw [AH (by omega)]; omega
    have w9:IntKind.i64.wrap (k+8+1)=k+9:=by rw [AH (by omega)]; omega
    have hl:∀ m:TE,((p.length:Int)<((p++m::r).length:Int)):=fun m=>by simp only [List.length_append,List.length_cons]; omega
    simp only [hl,decide_true,if_true,show (0:Int)<=(p.length:Int) from by omega,AU (show k+1<=9223372036854775807 by omega),AU (show k+2<=9223372036854775807 by omega),AU (show k+8<=9223372036854775807 by omega),Z,w1,w2,w3,w4,w5,w6,w7,w8,w9,BY,DW rfl,Ad (show p.length<9223372036854775807 by omega),bne_self_eq_false,beq_self_eq_true,Bool.not_true,Bool.false_eq_true,if_false]
    exact h6
   ·cases h5))
  (fun k xs r h=>Oq h) (fun ys k r h=>Ov h) n hn hl
  (fun x _ k h0 h1=>⟨k+9,_,rfl,by omega,by omega,by simp⟩)
noncomputable def Tl (k:Int) (v:TC):Option (Int×TC):=(CQ (k+5) v.2.2.2.2.2).bind fun a=>some (a.1,(k,k+1,k+2,k+3,k+4,a.2))
open Classical in
noncomputable def Tm (v:TC) (k:Int):Option Int:=(CR v.2.2.2.2.2 (k+5)).bind fun a=>if 0<=a/\v=(k,k+1,k+2,k+3,k+4,v.2.2.2.2.2) then some a else none
theorem Tn {xs:List TC} (m n:Nat) (hn:xs.length<=n) (hl:xs.length<=4611686018427387904) (hm:∀ x∈xs,x.2.2.2.2.2.length<=m/\x.2.2.2.2.2.length<=4611686018427387904):Gh GJ GK ((5+3*m)*n) xs :=
 Gh.of_list (M:=Tl) (H:=Tm) (LM:=DP) (LH:=DQ)
  (fun k ys=>HZ (by unfold El; rw [if_neg (by simp)]))
  (fun k ys=>Ha (by unfold Em; rw [if_neg (by simp)]))
  (fun k k' p v r y s h1 h2 h3 h4 h5=>HZ (by
   unfold Tl at h4
   obtain ⟨a,ha,h4⟩:=Option.bind_eq_some_iff.1 h4
   cases h4
   unfold El
   have w1:IntKind.i64.wrap (k+1)=k+1:=AH (by omega)
   have w2:IntKind.i64.wrap (k+1+1)=k+2:=by rw [AH (by omega)]; omega
   have w3:IntKind.i64.wrap (k+2+1)=k+3:=by rw [AH (by omega)]; omega
   have w4:IntKind.i64.wrap (k+3+1)=k+4:=by rw [AH (by omega)]; omega
   have w5:IntKind.i64.wrap (k+4+1)=k+5:=by rw [AH (by omega)]; omega
   have hl:∀ m:TC,((p.length:Int)<((p++m::r).length:Int)):=fun m=>by simp only [List.length_append,List.length_cons]; omega
   simp only [hl,decide_true,if_true,show (0:Int)<=(p.length:Int) from by omega,ha,Z,w1,w2,w3,w4,w5,BY,GD rfl,DW rfl,Ad (show p.length<9223372036854775807 by omega)]
   exact h5))
  (fun k k' p v r s h1 h2 h3 h4 h5 h6=>Ha (by
   unfold Tm at h5
   obtain ⟨a,ha,h5⟩:=Option.bind_eq_some_iff.1 h5
   split at h5
   ·rename_i e
    cases h5
    obtain ⟨v1,v2,v3,v4,v5,v6⟩:=v
    obtain ⟨e0,e⟩:=e
    cases e
    simp only at ha
    unfold Em
    have w1:IntKind.i64.wrap (k+1)=k+1:=AH (by omega)
    have w2:IntKind.i64.wrap (k+1+1)=k+2:=by rw [AH (by omega)]; omega
    have w3:IntKind.i64.wrap (k+2+1)=k+3:=by rw [AH (by omega)]; omega
    have w4:IntKind.i64.wrap (k+3+1)=k+4:=by rw [AH (by omega)]; omega
    have w5:IntKind.i64.wrap (k+4+1)=k+5:=by rw [AH (by omega)]; omega
    have hl:∀ m:TC,((p.length:Int)<((p++m::r).length:Int)):=fun m=>by simp only [List.length_append,List.length_cons]; omega
    simp only [hl,decide_true,if_true,show (0:Int)<=(p.length:Int) from by omega,Z,w1,w2,w3,w4,w5,BY,DW rfl,ha,Ad (show p.length<9223372036854775807 by omega),bne_self_eq_false,beq_self_eq_true,Bool.not_true,Bool.false_eq_true,if_false,show ¬ k'<0 from by omega,decide_false]
    exact h6
   ·cases h5))
  (fun k xs r h=>Pp h) (fun ys k r h=>Pr h) n hn hl
  (fun x hx k h0 h1=>by
   obtain ⟨k',y,a,b,c,d⟩:=PM m (hm x hx).1 (hm x hx).2 (k+5) (by omega) (by omega)
   refine ⟨k',(k,k+1,k+2,k+3,k+4,y),by unfold Tl; rw [a]; rfl,by omega,by omega,?_⟩
   unfold Tm
   simp only [d,Z]
   rw [if_pos ⟨by omega,trivial⟩])
noncomputable def To (k:Int) (v:Dp):Option (Int×Dp):=(BM (k+6) v.2.2.2.2.2.2.1).bind fun a=>(CQ a.1 v.2.2.2.2.2.2.2.1).bind fun b =>
 if 0<=b.1/\b.1<=2305843009213693952 then (BM (b.1+7) v.2.2.2.2.2.2.2.2.2.2.2.2.2).bind fun c=>some (c.1,(k,k+1,(Int.tmod (k+2) 3==0),(Int.tmod (k+3) 3==0),(Int.tmod (k+4) 3==0),(Int.tmod (k+5) 3==0),a.2,b.2,b.1,b.1+1,b.1+2,b.1+3,(JF (b.1+4),JF (b.1+5),b.1+6),c.2)) else none
open Classical in
noncomputable def Tp (v:Dp) (k:Int):Option Int:=(Bl v.2.2.2.2.2.2.1 (k+6)).bind fun a=>(CR v.2.2.2.2.2.2.2.1 a).bind fun b=>(Bl v.2.2.2.2.2.2.2.2.2.2.2.2.2 (b+7)).bind fun c =>
 if (0<=a/\0<=b/\b<=2305843009213693952)/\v=(k,k+1,(Int.tmod (k+2) 3==0),(Int.tmod (k+3) 3==0),(Int.tmod (k+4) 3==0),(Int.tmod (k+5) 3==0),v.2.2.2.2.2.2.1,v.2.2.2.2.2.2.2.1,b,b+1,b+2,b+3,(JF (b+4),JF (b+5),b+6),v.2.2.2.2.2.2.2.2.2.2.2.2.2) then some c else none
theorem NR (b:Bool):(true != Jd .bool b b)=false:=by cases b<;>rfl
theorem Rf {xs:List Dp} (a b c n:Nat) (hn:xs.length<=n) (hl:xs.length<=4611686018427387904) (hm:∀ x∈xs,(x.2.2.2.2.2.2.1.length<=a/\x.2.2.2.2.2.2.1.length<=4611686018427387904)/\(x.2.2.2.2.2.2.2.1.length<=b/\x.2.2.2.2.2.2.2.1.length<=4611686018427387904)/\(x.2.2.2.2.2.2.2.2.2.2.2.2.2.length<=c/\x.2.2.2.2.2.2.2.2.2.2.2.2.2.length<=4611686018427387904)):Gh Eg Eh ((13+a+3*b+c)*n) xs :=
 Gh.of_list (M:=To) (H:=Tp) (LM:=Ci) (LH:=Cj)
  (fun k ys=>FV (by unfold Dc; rw [if_neg (by simp)]))
  (fun k ys=>FW (by unfold Dd; rw [if_neg (by simp)]))
  (fun k k' p v r y s h1 h2 h3 h4 h5=>FV (by
   unfold To at h4
   obtain ⟨q,hq,h4⟩:=Option.bind_eq_some_iff.1 h4
   obtain ⟨u,hu,h4⟩:=Option.bind_eq_some_iff.1 h4
   split at h4
   ·rename_i hb
    obtain ⟨hb0,hb1⟩:=hb
    obtain ⟨z,hz,h4⟩:=Option.bind_eq_some_iff.1 h4
    cases h4
    obtain ⟨q1,q2⟩:=q
    obtain ⟨u1,u2⟩:=u
    obtain ⟨z1,z2⟩:=z
    simp only at hu hz hb0 hb1 h5
    unfold Dc
    have w1:IntKind.i64.wrap (k+1)=k+1:=AH (by omega)
    have w2:IntKind.i64.wrap (k+1+1)=k+2:=by rw [AH (by omega)]; omega
    have w3:IntKind.i64.wrap (k+2+1)=k+3:=by rw [AH (by omega)]; omega
    have w4:IntKind.i64.wrap (k+3+1)=k+4:=by rw [AH (by omega)]; omega
    have w5:IntKind.i64.wrap (k+4+1)=k+5:=by rw [AH (by omega)]; omega
    have w6:IntKind.i64.wrap (k+5+1)=k+6:=by rw [AH (by omega)]; omega
    have v1:IntKind.i64.wrap (u1+1)=u1+1:=AH (by omega)
    have v2:IntKind.i64.wrap (u1+1+1)=u1+2:=by rw [AH (by omega)]; omega
    have v3:IntKind.i64.wrap (u1+2+1)=u1+3:=by rw [AH (by omega)]; omega
    have v4:IntKind.i64.wrap (u1+3+1)=u1+4:=by rw [AH (by omega)]; omega
    have v5:IntKind.i64.wrap (u1+4+1)=u1+5:=by rw [AH (by omega)]; omega
    have v6:IntKind.i64.wrap (u1+5+1)=u1+6:=by rw [AH (by omega)]; omega
    have v7:IntKind.i64.wrap (u1+6+1)=u1+7:=by rw [AH (by omega)]; omega
    have hl:∀ m:Dp,((p.length:Int)<((p++m::r).length:Int)):=fun m=>by simp only [List.length_append,List.length_cons]; omega
    simp only [hl,decide_true,if_true,show (0:Int)<=(p.length:Int) from by omega,show ¬ (3:Int)=0 from by decide,if_false,hq,hu,hz,AU (show u1+4<=9223372036854775807 by omega),AU (show u1+5<=9223372036854775807 by omega),Z,w1,w2,w3,w4,w5,w6,v1,v2,v3,v4,v5,v6,v7,BY,GD rfl,DW rfl,Ad (show p.length<9223372036854775807 by omega)]
    exact h5
   ·cases h4))
  (fun k k' p v r s h1 h2 h3 h4 h5 h6=>FW (by
   unfold Tp at h5
   obtain ⟨q,hq,h5⟩:=Option.bind_eq_some_iff.1 h5
   obtain ⟨u,hu,h5⟩:=Option.bind_eq_some_iff.1 h5
   obtain ⟨z,hz,h5⟩:=Option.bind_eq_some_iff.1 h5
   split at h5
   ·rename_i e
    cases h5
    obtain ⟨v1,v2,v3,v4,v5,v6,v7,v8,v9,v10,v11,v12,v13,v14⟩:=v
    obtain ⟨⟨e0,e1,e2⟩,e⟩:=e
    cases e
    simp only at hq hu hz
    unfold Dd
    have w1:IntKind.i64.wrap (k+1)=k+1:=AH (by omega)
    have w2:IntKind.i64.wrap (k+1+1)=k+2:=by rw [AH (by omega)]; omega
    have w3:IntKind.i64.wrap (k+2+1)=k+3:=by rw [AH (by omega)]; omega
    have w4:IntKind.i64.wrap (k+3+1)=k+4:=by rw [AH (by omega)]; omega
    have w5:IntKind.i64.wrap (k+4+1)=k+5:=by rw [AH (by omega)]; omega
    have w6:IntKind.i64.wrap (k+5+1)=k+6:=by rw [AH (by omega)]; omega
    have v1:IntKind.i64.wrap (u+1)=u+1:=AH (by omega)
    have v2:IntKind.i64.wrap (u+1+1)=u+2:=by rw [AH (by omega)]; omega
    have v3:IntKind.i64.wrap (u+2+1)=u+3:=by rw [AH (by omega)]; omega
    have v4:IntKind.i64.wrap (u+3+1)=u+4:=by rw [AH (by omega)]; omega
    have v5:IntKind.i64.wrap (u+4+1)=u+5:=by rw [AH (by omega)]; omega
    have v6:IntKind.i64.wrap (u+5+1)=u+6:=by rw [AH (by omega)]; omega
    have v7:IntKind.i64.wrap (u+6+1)=u+7:=by rw [AH (by omega)]; omega
    have hl:∀ m:Dp,((p.length:Int)<((p++m::r).length:Int)):=fun m=>by simp only [List.length_append,List.length_cons]; omega
    simp only [hl,decide_true,if_true,show (0:Int)<=(p.length:Int) from by omega,show ¬ (3:Int)=0 from by decide,NR,show ¬ q<0 from by omega,show ¬ u<0 from by omega,show ¬ k'<0 from by omega,decide_false,hq,hu,hz,AU (show u+4<=9223372036854775807 by omega),AU (show u+5<=9223372036854775807 by omega),Z,w1,w2,w3,w4,w5,w6,v1,v2,v3,v4,v5,v6,v7,BY,DW rfl,Ad (show p.length<9223372036854775807 by omega),bne_self_eq_false,beq_self_eq_true,Bool.not_true,Bool.false_eq_true,if_false]
    exact h6
   ·cases h5))
  (fun k xs r h=>L0 h) (fun ys k r h=>L7 h) n hn hl
  (fun x hx k h0 h1=>by
   obtain ⟨m1,m2,m3⟩:=hm x hx
   obtain ⟨k1,y1,a1,b1,c1,d1⟩:=MH a m1.1 m1.2 (k+6) (by omega) (by omega)
   obtain ⟨k2,y2,a2,b2,c2,d2⟩:=PM b m2.1 m2.2 k1 (by omega) (by omega)
   obtain ⟨k3,y3,a3,b3,c3,d3⟩:=MH c m3.1 m3.2 (k2+7) (by omega) (by omega)
   refine ⟨k3,_,by unfold To; rw [a1,Z,a2,Z,if_pos ⟨by omega,by omega⟩,a3,Z],by omega,by omega,?_⟩
   unfold Tp
   simp only [d1,d2,d3,Z]
   rw [if_pos ⟨⟨by omega,by omega,by omega⟩,trivial⟩])
structure Xx (g:MG):Prop where
 vs:g.1.length<=1048576/\∀ x∈g.1,x.length<=1048576
 ms:g.2.1.length<=1048576/\∀ x∈g.2.1,x.2.2.2.2.2.2.1.length<=1048576/\x.2.2.2.2.2.2.2.1.length<=1048576/\x.2.2.2.2.2.2.2.2.2.2.2.2.2.length<=1048576
 fs:g.2.2.1.length<=1048576/\∀ x∈g.2.2.1,x.2.2.2.2.2.length<=1048576
 cs:g.2.2.2.length<=1048576
theorem TH {g:MG} (h:Xx g):∃ k y,Ff 1 g.1 g.2.1 g.2.2.1 g.2.2.2=some (k,y)/\0<=k/\D9 y 1=some k:=by
 obtain ⟨k1,y1,a1,b1,c1,d1⟩:=TF (xs:=g.1) 1048576 1048576 h.vs.1 (by have:=h.vs.1; omega) (fun x hx=>⟨h.vs.2 x hx,by have:=h.vs.2 x hx; omega⟩) 1 (by omega) (by omega)
 obtain ⟨k2,y2,a2,b2,c2,d2⟩:=Rf (xs:=g.2.1) 1048576 1048576 1048576 1048576 h.ms.1 (by have:=h.ms.1; omega) (fun x hx=>by have:=h.ms.2 x hx; omega) k1 (by omega) (by omega)
 obtain ⟨k3,y3,a3,b3,c3,d3⟩:=Tn (xs:=g.2.2.1) 1048576 1048576 h.fs.1 (by have:=h.fs.1; omega) (fun x hx=>by have:=h.fs.2 x hx; omega) k2 (by omega) (by omega)
 obtain ⟨k4,y4,a4,b4,c4,d4⟩:=TG (xs:=g.2.2.2) 1048576 h.cs (by have:=h.cs; omega) k3 (by omega) (by omega)
 refine ⟨k4,(y1,y2,y3,y4),OM ?_,by omega,ON ?_⟩
 ·unfold JA
  simp only [a1,a2,a3,a4,Z]
 ·unfold JB
  simp only [d1,d2,d3,d4,Z,show ¬ k1<0 from by omega,show ¬ k2<0 from by omega,show ¬ k3<0 from by omega,show ¬ k4<0 from by omega,decide_false,Bool.false_eq_true,if_false]

theorem TI (x:List (List Int)) (h:x.length<=1000) (ho:∀ a∈x,a.length<=1000):Fg x=some x:=Og (by
 have key:=Ps (n:=x.length) (P:=fun i=>C3 x (x.length:Int) (i:Int) [] (x.take i)=some x) (Gd (by
  unfold ER
  rw [if_neg (by simp),List.take_length])) (fun i hi ih=>Gd (by
  unfold ER
  have hb:=ho x[i] (Ex hi)
  simp only [show ((i:Int)<(x.length:Int)) from by omega,decide_true,if_true,show (0:Int)<=(i:Int) from by omega,BY,C9 hi,Ad (show i<9223372036854775807 by omega)]
  rw [JX (by omega),Z,if_pos (by simp; omega),List.take_append_getElem]
  exact ih)) 0 (by omega)
 unfold JE
 exact key)
theorem NS {views:List (List Int)} (hv:Ux views) (h:views.length<=maxLen) (ho:∀ a∈views,a.length<=maxLen):DV views=some (Jc views,true):=Jq (by
 have hvl:=hv.len
 unfold GM
 rw [FO _ h ho,Z,if_neg (by simp [hv.ok]),TI views (by omega) (fun a ha=>by have:=hv.view ha; omega),Z]
 have step:∀ (i:Nat) (l:List Dp) r,1<=i->i<=6->l.length<=6->Cd views ((i+1:Nat):Int) [] [] [] [] [] views (l++[IZ (i:Int) views]) [] []=some r->Cd views (i:Int) [] [] [] [] [] views l [] []=some r:=by
  intro i l r h1 h6 hl hr
  refine HX ?_
  unfold Ej
  rw [if_pos (by simp; omega),MF _ _ (by omega) hv h ho,Z,if_pos (by simp; omega),Ad (show i<9223372036854775807 by omega)]
  exact hr
 refine step 1 _ _ (by omega) (by omega) (by simp) ?_
 refine step 2 _ _ (by omega) (by omega) (by simp) ?_
 refine step 3 _ _ (by omega) (by omega) (by simp) ?_
 refine step 4 _ _ (by omega) (by omega) (by simp) ?_
 refine step 5 _ _ (by omega) (by omega) (by simp) ?_
 refine step 6 _ _ (by omega) (by omega) (by simp) ?_
 refine HX ?_
 unfold Ej
 rw [if_neg (by decide)]
 rfl)
open Classical in
noncomputable def Tq (views:List (List Int)):MG×Bool:=if Bd views views.length views=true then (Jc views,true) else (([],[],[],[]),false)
theorem NT (views:List (List Int)) (h:views.length<=maxLen) (ho:∀ a∈views,a.length<=maxLen):DV views=some (Tq views):=by
 unfold Tq
 by_cases hv:Bd views views.length views=true
 ·rw [if_pos hv]; exact NS ⟨hv⟩ h ho
 ·rw [if_neg hv]
  refine Jq ?_
  unfold GM
  rw [FO _ h ho,Z,if_pos (by simpa using hv)]
theorem NU (views:List (List Int)) (h:views.length<=maxLen) (ho:∀ a∈views,a.length<=maxLen):Ec views=some (Tq views):=by
 unfold Tq
 by_cases hv:Bd views views.length views=true
 ·rw [if_pos hv]; exact NQ ⟨hv⟩
 ·rw [if_neg hv]
  refine Jp ?_
  unfold GL
  rw [IG _ h ho,Z,if_pos (by simpa using hv)]
theorem SZ {m:Dp} (h:m.2.2.2.2.2.2.1.length<=1048576/\m.2.2.2.2.2.2.2.1.length<=1048576/\m.2.2.2.2.2.2.2.2.2.2.2.2.2.length<=1048576):AZ.small m:=by
 obtain ⟨a,b,c,d,e,f,g,h0,i,j,k,l,n,o⟩:=m
 obtain ⟨h1,h2,h3⟩:=h
 simp only at h1 h2 h3
 simp [Kd.small]
 omega
theorem Xx.small {g:MG} (h:Xx g):Cq.small g :=
 ⟨⟨by have:=h.vs.1; omega,fun a ha=>⟨by have:=h.vs.2 a ha; omega,fun _ _=>trivial⟩⟩,⟨by have:=h.ms.1; omega,fun a ha=>SZ (h.ms.2 a ha)⟩,⟨by have:=h.fs.1; omega,fun a ha=>⟨trivial,trivial,trivial,trivial,trivial,by have:=h.fs.2 a ha; omega,fun _ _=>by simp [Kd.small]⟩⟩,by have:=h.cs; omega,fun a ha=>by simp [Kd.small]⟩
theorem Tr (views:List (List Int)):Xx (Tq views).1:=by
 unfold Tq
 split
 ·rename_i hv
  have hv:Ux views:=⟨hv⟩
  refine ⟨⟨by have:=hv.len; simp only [Jc]; omega,fun x hx=>by have:=hv.view hx; omega⟩,⟨by simp [Jc],fun x hx=>?_⟩,⟨by simp [Jc],fun x hx=>by simp [Jc] at hx⟩,by simp [Jc]⟩
  simp only [Jc,AL,List.not_mem_nil,or_false] at hx
  rcases hx with rfl | rfl | rfl | rfl | rfl | rfl<;>exact ⟨Nat.zero_le _,Nat.zero_le _,Nat.zero_le _⟩
 ·exact ⟨⟨by simp,by simp⟩,⟨by simp,by simp⟩,⟨by simp,by simp⟩,by simp⟩
theorem LB (x0) (hx0:Kd.ok (.slice (.slice (.int .i64))) x0):E7 x0=some true:=JY (by
 unfold FA
 obtain ⟨r,hr,hl⟩:=NO x0 hx0.1 (fun a ha=>(hx0.2 a ha).1) 1048576 (by omega)
 rw [hr,Z]
 by_cases h2:r<0
 ·rw [if_pos (by simpa using h2)]
 rw [if_neg (by simpa using h2)]
 obtain ⟨hl1,hl2⟩:=hl.resolve_left h2
 have hsm:Kd.small (.slice (.slice (.int .i64))) x0:=⟨by omega,fun a ha=>⟨by have:=hl2 a ha; omega,fun _ _=>trivial⟩⟩
 have et:=Pt x0 hsm
 have en:=NM x0 hsm
 have ev:=Jw x0 hsm
 have ei:=NT x0 hx0.1 (fun a ha=>(hx0.2 a ha).1)
 have es:=NU x0 hx0.1 (fun a ha=>(hx0.2 a ha).1)
 have hb:=Tr x0
 generalize Tq x0=mb at ei es hb
 obtain ⟨g,b⟩:=mb
 simp only at hb
 have eq1:=Pv g hb.small
 obtain ⟨kg,y,hm,hk0,hh⟩:=TH hb
 obtain ⟨kk,z,hmv,hkk⟩:=LA x0 (by omega) (fun a ha=>by have:=hl2 a ha; omega)
 obtain ⟨g1,g2,g3,g4⟩:=g
 obtain ⟨y1,y2,y3,y4⟩:=y
 simp only at hm
 simp only [et,en,es,ei,eq1,Z,NR,Bool.not_true,if_true,Bool.false_eq_true,if_false]
 refine Hj ?_
 unfold EL
 simp only [et,ev,hmv,eq1,Z,NR,Bool.not_true,if_true,Bool.false_eq_true,if_false,show ¬ kk<0 from by omega,decide_false]
 refine Hi ?_
 unfold EK
 simp only [hm,hh,et,ei,eq1,Z,NR,Bool.not_true,if_true,Bool.false_eq_true,if_false,show ¬ kg<0 from by omega,decide_false,bne_self_eq_false]
 refine Hh ?_
 unfold EJ
 simp only [hh,Z,Bool.false_eq_true,if_false,show ¬ kg<0 from by omega,decide_false,bne_self_eq_false])

theorem V8 {P:Program} {c:List Char} {rest:List (List Char)} (h:behindMainWord (wordsSigns P.initOrder.toList)=c::rest) (h1:(c == "gc".toList||c == "spec".toList)=false) (h2:(c == "cut".toList||(c == "finals".toList&&rest.head? == some "cut".toList))=true):P.make=some .cut:=by
 unfold Program.make
 rw [h]
 simp only [h1,h2]
 rfl
theorem V9 {P:Program} {c:List Char} {rest:List (List Char)} (h:behindMainWord (wordsSigns P.initOrder.toList)=c::rest) (h1:((stripLifts liftWords (c::rest)).2.head? == some "cut".toList)=true) (h2:(stripLifts liftWords (c::rest)).1=[])
  (h3:P.laysLater=false) (h4:P.bearsReflect=false) (h5:P.doorFits []=true):P.mayEnter=true:=by
 unfold Program.mayEnter
 rw [h]
 simp only [h1,h2,h3,h4,h5]
 simp
theorem V_ {P:Program} {c:List Char} {rest:List (List Char)} (h:behindMainWord (wordsSigns P.initOrder.toList)=c::rest) (h1:(c == "carried".toList)=false) (h2:(stripLifts liftWords (c::rest)).1=[]):P.liftsFinal=false:=by
 have e:(some c==some "carried".toList)=false:=h1
 unfold Program.liftsFinal Program.headLifts
 rw [h]
 simp only [List.head?_cons,e,h2]
 simp
theorem Eo {a b:Bool} (h:a=true) (g:b=true):(a&&b)=true:=by rw [h,g]; rfl
theorem WA {α:Type} [BEq α] [LawfulBEq α] {a b:α} (h:a=b):(a==b)=true:=by rw [h]; exact beq_self_eq_true b
end Go.Proofs.Ytffahmnodgnohaa.Core

namespace Go.Proofs.Ytffahmnodgnohaa.Core
open Go
set_option maxRecDepth 100000
def YE:List Nat:=[104,97,114,110,101,115,115,32,57,52,51,54,48,100,51,54,48,102,97,48,51,101,55,56,99,49,99,55,102,52,101,50,52,51,100,50,100,97,57,53,55,57,52,98,57,49,49,99,102,51,55,51,101,101,49,49,101,100,97,49,52,100,97,99,49,98,51,56,98,51,55,99,32,99,117,116,32,97,116,32,108,111,111,112,46,101,120,97,109,112,108,101,47,103,48,48,49,56,48,47,108,97,119,115,46,70,110,69,120,97,99,116,77,115,103,84,101,120,116,32,108,111,111,112,46,101,120,97,109,112,108,101,47,103,48,48,49,56,48,47,108,97,119,115,46,70,110,69,120,97,99,116,82,101,97,100,77,115,103,32,108,111,111,112,46,101,120,97,109,112,108,101,47,103,48,48,49,56,48,47,108,97,119,115,46,70,110,77,115,103,115,32,108,111,111,112,46,101,120,97,109,112,108,101,47,103,48,48,49,56,48,47,108,97,119,115,46,70,110,69,120,97,99,116,77,101,109,98,101,114,78,101,119,32,108,111,111,112,46,101,120,97,109,112,108,101,47,103,48,48,49,56,48,47,108,97,119,115,46,70,110,69,120,97,99,116,67,111,117,110,99,105,108,78,101,119,32,108,111,111,112,46,101,120,97,109,112,108,101,47,103,48,48,49,56,48,47,108,97,119,115,46,70,110,69,120,97,99,116,71,114,111,117,112,78,101,119,32,108,111,111,112,46,101,120,97,109,112,108,101,47,103,48,48,49,56,48,47,108,97,119,115,46,70,110,65,108,111,110,101,49,50,32,108,111,111,112,46,101,120,97,109,112,108,101,47,103,48,48,49,56,48,47,108,97,119,115,46,70,110,67,104,111,115,101,110,32,108,111,111,112,46,101,120,97,109,112,108,101,47,103,48,48,49,56,48,47,108,97,119,115,46,70,110,68,101,99,105,100,101,115]
def YL:List Nat:=[99,117,116]
def YM:List (List Nat):=[[97,116],[108,111,111,112,46,101,120,97,109,112,108,101,47,103,48,48,49,56,48,47,108,97,119,115,46,70,110,69,120,97,99,116,77,115,103,84,101,120,116],[108,111,111,112,46,101,120,97,109,112,108,101,47,103,48,48,49,56,48,47,108,97,119,115,46,70,110,69,120,97,99,116,82,101,97,100,77,115,103],[108,111,111,112,46,101,120,97,109,112,108,101,47,103,48,48,49,56,48,47,108,97,119,115,46,70,110,77,115,103,115],[108,111,111,112,46,101,120,97,109,112,108,101,47,103,48,48,49,56,48,47,108,97,119,115,46,70,110,69,120,97,99,116,77,101,109,98,101,114,78,101,119],[108,111,111,112,46,101,120,97,109,112,108,101,47,103,48,48,49,56,48,47,108,97,119,115,46,70,110,69,120,97,99,116,67,111,117,110,99,105,108,78,101,119],[108,111,111,112,46,101,120,97,109,112,108,101,47,103,48,48,49,56,48,47,108,97,119,115,46,70,110,69,120,97,99,116,71,114,111,117,112,78,101,119],[108,111,111,112,46,101,120,97,109,112,108,101,47,103,48,48,49,56,48,47,108,97,119,115,46,70,110,65,108,111,110,101,49,50],[108,111,111,112,46,101,120,97,109,112,108,101,47,103,48,48,49,56,48,47,108,97,119,115,46,70,110,67,104,111,115,101,110],[108,111,111,112,46,101,120,97,109,112,108,101,47,103,48,48,49,56,48,47,108,97,119,115,46,70,110,68,101,99,105,100,101,115]]
theorem io:Try.prog.initOrder.toList=YE.map Char.ofNat:=(congrArg String.toList (show Try.prog.initOrder=String.ofList (YE.map Char.ofNat) from by kernel_rfl)).trans String.toList_ofList
theorem YA:behindMainWord (wordsSigns Try.prog.initOrder.toList)=YL.map Char.ofNat::YM.map fun w=>w.map Char.ofNat:=by
 rw [io]
 kernel_rfl
theorem YB:Try.prog.make=some .cut:=V8 YA (by kernel_rfl) (by kernel_rfl)
theorem Xa:Try.prog.mayEnter=true:=V9 YA (by kernel_rfl) (by kernel_rfl) (by kernel_rfl) (by kernel_rfl) (by kernel_rfl)
theorem W0:Try.prog.liftsFinal=false:=V_ YA (by kernel_rfl) (by kernel_rfl)
theorem TJ:laidOutB Try.prog=true:=by kernel_rfl
theorem Ts:mapsRowed Try.prog=true:=by kernel_rfl
theorem Xb:Try.prog.stopsHeard=true:=by kernel_rfl
end Go.Proofs.Ytffahmnodgnohaa.Core
