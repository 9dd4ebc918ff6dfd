/- Texts of the proof, packed: part 4. -/
import Derived.Test.YtokiohnjegbnpaaGreatP2
import Derived.IntWalk
set_option linter.unusedVariables false
set_option linter.unusedSimpArgs false
namespace Go.Proofs.YtokiohnjegbnpaaGreat.Core
open Go IntKind
set_option linter.unusedVariables false
set_option maxRecDepth 100000
noncomputable section
def V8:=cG LY (AE BK) (AE BK) kx
def He:=kE 0 [] [] 2 V8 kx
def Lh:St→Option (RT (BQ.outs BK)):=lG LX [] [3,5,11] 2 (AE BK) He
def V9:=kB [] [3,5,11] 2 Lh
def Mw:=cG LW V9 (AE BK) He
def V_:=kB [] [3,5,11] 2 Mw
def WA:=kE 1 [] [3,5,11] 2 Mw He
def WB:=kE 2 [] [3,5,11] 3 V_ WA
def U0:St→Option (RT (BQ.outs BK)):=lG LV [] [3,5,11,12,13] 3 (AE BK) WB
def Bc (x0:List (List Int)) (x1 x2:Int) (x3 x4:AA) (x5:O):Option Bool:=U0 ⟨[(3,.lst (.slice (.int .i64)) x0),(5,.ptr 0 0),(11,.int .i64 x1),(12,.ptr 2 0),(13,.int .i64 x2)],[.var (Aa.enc x3),.var (Aa.enc x4),.var (U.enc x5)]⟩
def Et (x0:List (List Int)) (x1:Int) (x2 x3:AA):Option Bool:=Lh ⟨[(3,.lst (.slice (.int .i64)) x0),(5,.ptr 0 0),(11,.int .i64 x1)],[.var (Aa.enc x2),.var (Aa.enc x3)]⟩
def G0 (x0:List (List Int)) (x1 x2:Int) (x3 x4:AA) (x5:O):Option Bool:=(if (decide (x2<x1))=true then (if x5.2.2.2.2.2.1=true then (if 0≤x2 then (if x2<(x3.2.1.length:Int) then (if (((((((x3.2.1.getD x2.toNat (0,0,false,false,false,false,([]:List Int),([]:List X),0,0,0,0,(ByteArray.empty,ByteArray.empty,0),([]:List Int))).2).2).2).2).2).1)=true then (if 0≤x2 then (if x2<(x3.2.1.length:Int) then (if ((((x3.2.1.getD x2.toNat (0,0,false,false,false,false,([]:List Int),([]:List X),0,0,0,0,(ByteArray.empty,ByteArray.empty,0),([]:List Int))).2).1)==x5.2.1)=true then (some false) else (Bc x0 x1 (i64.wrap (x2+1)) x3 x4 x5)) else none) else none) else (Bc x0 x1 (i64.wrap (x2+1)) x3 x4 x5)) else none) else none) else (Bc x0 x1 (i64.wrap (x2+1)) x3 x4 x5)) else (Et x0 (i64.wrap (x1+1)) x3 x4))
def G1 (x0:List (List Int)) (x1:Int) (x2 x3:AA):Option Bool:=(if (decide (x1<(x2.2.1.length:Int)))=true then (if 0≤x1 then (if x1<(x2.2.1.length:Int) then ((C8 (x2.2.1.getD x1.toNat (0,0,false,false,false,false,([]:List Int),([]:List X),0,0,0,0,(ByteArray.empty,ByteArray.empty,0),([]:List Int)))).bind fun y5=>(if (!y5)=true then (some false) else (if (((x2.2.1.getD x1.toNat (0,0,false,false,false,false,([]:List Int),([]:List X),0,0,0,0,(ByteArray.empty,ByteArray.empty,0),([]:List Int))).1) != (i64.wrap (x1+1)))=true then (some false) else (if (((((((x2.2.1.getD x1.toNat (0,0,false,false,false,false,([]:List Int),([]:List X),0,0,0,0,(ByteArray.empty,ByteArray.empty,0),([]:List Int))).2).2).2).2).2).1)=true then (if 0≤(i64.wrap ((((x2.2.1.getD x1.toNat (0,0,false,false,false,false,([]:List Int),([]:List X),0,0,0,0,(ByteArray.empty,ByteArray.empty,0),([]:List Int))).2).1)-1)) then (if (i64.wrap ((((x2.2.1.getD x1.toNat (0,0,false,false,false,false,([]:List Int),([]:List X),0,0,0,0,(ByteArray.empty,ByteArray.empty,0),([]:List Int))).2).1)-1))<(x0.length:Int) then (if 0≤(0:Int) then (if 0<((x0.getD (i64.wrap ((((x2.2.1.getD x1.toNat (0,0,false,false,false,false,([]:List Int),([]:List X),0,0,0,0,(ByteArray.empty,ByteArray.empty,0),([]:List Int))).2).1)-1)).toNat ([]:List Int)).length:Int) then (if (((x0.getD (i64.wrap ((((x2.2.1.getD x1.toNat (0,0,false,false,false,false,([]:List Int),([]:List X),0,0,0,0,(ByteArray.empty,ByteArray.empty,0),([]:List Int))).2).1)-1)).toNat ([]:List Int)).getD (0:Int).toNat 0) != ((x2.2.1.getD x1.toNat (0,0,false,false,false,false,([]:List Int),([]:List X),0,0,0,0,(ByteArray.empty,ByteArray.empty,0),([]:List Int))).1))=true then (some false) else (Bc x0 x1 0 x2 x3 (x2.2.1.getD x1.toNat (0,0,false,false,false,false,([]:List Int),([]:List X),0,0,0,0,(ByteArray.empty,ByteArray.empty,0),([]:List Int))))) else none) else none) else none) else none) else (Bc x0 x1 0 x2 x3 (x2.2.1.getD x1.toNat (0,0,false,false,false,false,([]:List Int),([]:List X),0,0,0,0,(ByteArray.empty,ByteArray.empty,0),([]:List Int)))))))) else none) else none) else (some true))
def O4 (x0:List Int):Option Bool:=((YS x0).bind fun y1=>(if y1=true then (some true) else ((NI x0).bind fun y2=>((NJ y2.1 y2.2).bind fun y3=>((NK y2.1 y2.2).bind fun y4=>(if (!y3.2.2)=false then (if ((y3.1.2.1.length:Int) != 6)=false then (if ((y3.1.2.2.1.length:Int) != (y4.1.2.2.1.length:Int))=true then (some false) else (Et y2.1 0 y3.1 y4.1)) else (some false)) else (some false)))))))
theorem Li:nq G0 Bc:=lS (by kernel_rfl)
theorem Lj:eQ G1 Et:=lS (by kernel_rfl)
theorem YT:RM O4 Ow:=cT BK rfl ⟨rfl,rfl⟩ (by kernel_rfl)
def nK (x0:List Int):Option Bool:=(some (decide ((x0.length:Int)>1048576)))
theorem nL:RM nK YS:=cT TF rfl ⟨rfl,rfl⟩ (by kernel_rfl)
def UJ (x0:List Int):Option (List (List Int)×List AM):=((Q9 x0).bind fun y1=>((Ox x0 y1).bind fun y2=>(some (y2.1.1,y2.1.2))))
theorem eu:RM UJ NI:=cT Iq rfl ⟨rfl,rfl⟩ (by kernel_rfl)
def Zq:=cG Of (AE At) (AE At) kx
def Zr:=kE 2 [(11,11)] [4,7,11] 12 Zq kx
def YU:St→Option (RT (BQ.outs At)):=lG Oe [(11,11)] [4,7,11,39,40,41] 12 (AE At) Zr
def Zs:=cG I8 (AE At) (AE At) kx
def Zt:=kE 0 [] [1,4,7] 11 Zs kx
def YV:St→Option (RT (BQ.outs At)):=lG Pl [] [1,4,7,28,29,30] 11 (AE At) Zt
def Ee (x0:List AM) (x1 x2:Int) (x3:List O) (x4:List Y) (x5:List AL) (x6:List (List Int)) (x7:List O) (x8:List Y) (x9:List AL) (x10:List (List Int)) (x11:List Int):Option (AA×List Int×Bool):=YU ⟨[(4,.ptr 3 0),(7,.ptr 10 0),(11,.row 11),(39,.lst AR x0),(40,.int .i64 x1),(41,.int .i64 x2)],[.rows 42 U x3,.rows 97 AC x4,.rows 47 Av x5,.var [.lst (.slice (.int .i64)) x6,.row 0,.row 1,.row 2],.dead,.dead,.dead,.rows 42 U x7,.rows 97 AC x8,.rows 47 Av x9,.var [.lst (.slice (.int .i64)) x10,.row 7,.row 8,.row 9],.rows 3 (.int .i64) x11]⟩
def O5 (x0:List AM) (x1:List O) (x2:List Y) (x3:List AL) (x4:List (List Int)) (x5:List O) (x6:List Y) (x7:List AL) (x8:List (List Int)):Option (AA×List Int×Bool):=cG I8 (AE At) (AE At) kx ⟨[(1,.lst AR x0),(4,.ptr 3 0),(7,.ptr 10 0)],[.rows 42 U x1,.rows 97 AC x2,.rows 47 Av x3,.var [.lst (.slice (.int .i64)) x4,.row 0,.row 1,.row 2],.dead,.dead,.dead,.rows 42 U x5,.rows 97 AC x6,.rows 47 Av x7,.var [.lst (.slice (.int .i64)) x8,.row 7,.row 8,.row 9]]⟩
def Ef (x0 x1:List AM) (x2 x3:Int) (x4:List O) (x5:List Y) (x6:List AL) (x7:List (List Int)) (x8:List O) (x9:List Y) (x10:List AL) (x11:List (List Int)):Option (AA×List Int×Bool):=YV ⟨[(1,.lst AR x0),(4,.ptr 3 0),(7,.ptr 10 0),(28,.lst AR x1),(29,.int .i64 x2),(30,.int .i64 x3)],[.rows 42 U x4,.rows 97 AC x5,.rows 47 Av x6,.var [.lst (.slice (.int .i64)) x7,.row 0,.row 1,.row 2],.dead,.dead,.dead,.rows 42 U x8,.rows 97 AC x9,.rows 47 Av x10,.var [.lst (.slice (.int .i64)) x11,.row 7,.row 8,.row 9]]⟩
def O6 (x0:List AM) (x1:Bool) (x2:List O) (x3:List Y) (x4:List AL) (x5:List (List Int)) (x6:List O) (x7:List Y) (x8:List AL) (x9:List (List Int)):Option (AA×List Int×Bool):=cG Og (AE At) (AE At) kx ⟨[(1,.lst AR x0),(4,.ptr 3 0),(7,.ptr 10 0),(26,.bool x1)],[.rows 42 U x2,.rows 97 AC x3,.rows 47 Av x4,.var [.lst (.slice (.int .i64)) x5,.row 0,.row 1,.row 2],.dead,.dead,.dead,.rows 42 U x6,.rows 97 AC x7,.rows 47 Av x8,.var [.lst (.slice (.int .i64)) x9,.row 7,.row 8,.row 9]]⟩
def JG (x0:List AM) (x1 x2:Int) (x3:List O) (x4:List Y) (x5:List AL) (x6:List (List Int)) (x7:List O) (x8:List Y) (x9:List AL) (x10:List (List Int)) (x11:List Int):Option (AA×List Int×Bool):=(if (decide (x2<x1))=true then (if 0≤x2 then (if x2<(x0.length:Int) then ((GV (x0.getD x2.toNat (0,0,0,0,ByteArray.empty,ByteArray.empty)) x2 (x10,x7,x8,x9)).bind fun y3=>((Q_ y3.1).bind fun y4=>(if x11.length+([y4]:List Int).length≤68719476736 then (Ee x0 x1 (i64.wrap (x2+1)) x3 x4 x5 x6 y3.2.2.1 y3.2.2.2.1 y3.2.2.2.2 y3.2.1 (x11++([y4]:List Int))) else none))) else none) else none) else ((Hx (x10,x7,x8,x9)).bind fun y5=>(some (y5,x11,true))))
def O7 (x0:List AM) (x1:List O) (x2:List Y) (x3:List AL) (x4:List (List Int)) (x5:List O) (x6:List Y) (x7:List AL) (x8:List (List Int)):Option (AA×List Int×Bool):=(Ee x0 (x0.length:Int) 0 x1 x2 x3 x4 x5 x6 x7 x8 ([]:List Int))
def JH (x0 x1:List AM) (x2 x3:Int) (x4:List O) (x5:List Y) (x6:List AL) (x7:List (List Int)) (x8:List O) (x9:List Y) (x10:List AL) (x11:List (List Int)):Option (AA×List Int×Bool):=(if (decide (x3<x2))=true then (if 0≤x3 then (if x3<(x1.length:Int) then ((Oy (x1.getD x3.toNat (0,0,0,0,ByteArray.empty,ByteArray.empty))).bind fun y2=>(if (!y2)=true then (some (([],([]:List O),([]:List Y),([]:List AL)),[],false)) else (Ef x0 x1 x2 (i64.wrap (x3+1)) x4 x5 x6 x7 x8 x9 x10 x11))) else none) else none) else (O5 x0 x4 x5 x6 x7 x8 x9 x10 x11))
def O8 (x0:List AM) (x1:Bool) (x2:List O) (x3:List Y) (x4:List AL) (x5:List (List Int)) (x6:List O) (x7:List Y) (x8:List AL) (x9:List (List Int)):Option (AA×List Int×Bool):=(Ef x0 x0 (x0.length:Int) 0 x2 x3 x4 x5 x6 x7 x8 x9)
def UK (x0:List (List Int)) (x1:List AM):Option (AA×List Int×Bool):=((NL x0).bind fun y1=>(if (!y1.2)=false then (if (decide ((x1.length:Int)>70))=true then (some (([],([]:List O),([]:List Y),([]:List AL)),[],false)) else (O6 x1 (decide ((x1.length:Int)>70)) ([]:List O) ([]:List Y) ([]:List AL) ([]:List (List Int)) y1.1.2.1 y1.1.2.2.1 y1.1.2.2.2 y1.1.1)) else (some (([],([]:List O),([]:List Y),([]:List AL)),[],false))))
theorem O9:sK JG Ee:=lS (by kernel_rfl)
theorem YW:sb O7 O5:=jS (by kernel_rfl)
theorem O_:sK JH Ef:=lS (by kernel_rfl)
theorem YX:og O8 O6:=jS (by kernel_rfl)
theorem ew:RN UK NJ:=cT At rfl ⟨rfl,rfl⟩ (by kernel_rfl)
def Zu:=cG Oh (AE BC) (AE BC) kx
def Zv:=kE 2 [(10,2)] [4,7,10] 3 Zu kx
def YY:St→Option (RT (BQ.outs BC)):=lG Po [(10,2)] [1,4,7,10,11] 3 (AE BC) Zv
def Zw:=cG I9 (AE BC) (AE BC) kx
def QR:=kE 0 [] [1,4,7,8] 2 Zw kx
def PA:St→Option (RT (BQ.outs BC)):=lG Pn [] [1,4,7,8,9] 2 (AE BC) QR
def Zx:=kB [] [1,4,7,8,9] 2 PA
def PB (x0:List AM) (x1:Bool) (x2:Int) (x3:Bool) (x4 x5:AA):Option (AA×List Int×Bool):=cG Pm Zx (AE BC) QR ⟨[(1,.lst AR x0),(4,.ptr 0 0),(7,.ptr 1 0),(8,.bool x1),(9,.int .i64 x2),(23,.bool x3)],[.var (Aa.enc x4),.var (Aa.enc x5)]⟩
def Eg (x0:List AM) (x1:Int) (x2 x3:AA) (x4:List Int):Option (AA×List Int×Bool):=YY ⟨[(1,.lst AR x0),(4,.ptr 0 0),(7,.ptr 1 0),(10,.row 2),(11,.int .i64 x1)],[.var (Aa.enc x2),.var (Aa.enc x3),.rows 3 (.int .i64) x4]⟩
def GZ (x0:List AM) (x1:Bool) (x2 x3:AA):Option (AA×List Int×Bool):=cG I9 (AE BC) (AE BC) kx ⟨[(1,.lst AR x0),(4,.ptr 0 0),(7,.ptr 1 0),(8,.bool x1)],[.var (Aa.enc x2),.var (Aa.enc x3)]⟩
def DN (x0:List AM) (x1:Bool) (x2:Int) (x3 x4:AA):Option (AA×List Int×Bool):=PA ⟨[(1,.lst AR x0),(4,.ptr 0 0),(7,.ptr 1 0),(8,.bool x1),(9,.int .i64 x2)],[.var (Aa.enc x3),.var (Aa.enc x4)]⟩
def PC (x0:List AM) (x1:Bool) (x2:Int) (x3:Bool) (x4 x5:AA):Option (AA×List Int×Bool):=(if (decide ((x0.length:Int)≤70))=true then (if 0≤x2 then (if x2<(x0.length:Int) then ((Oz (x0.getD x2.toNat (0,0,0,0,ByteArray.empty,ByteArray.empty))).bind fun y2=>(DN x0 y2 (i64.wrap (x2+1)) x4 x5)) else none) else none) else (DN x0 false (i64.wrap (x2+1)) x4 x5))
def JI (x0:List AM) (x1:Int) (x2 x3:AA) (x4:List Int):Option (AA×List Int×Bool):=(if (decide (x1<(x0.length:Int)))=true then (if 0≤x1 then (if x1<(x0.length:Int) then ((OL x1 (x0.getD x1.toNat (0,0,0,0,ByteArray.empty,ByteArray.empty)) x3).bind fun y3=>(if x4.length+([y3.1]:List Int).length≤68719476736 then (Eg x0 (i64.wrap (x1+1)) x2 y3.2 (x4++([y3.1]:List Int))) else none)) else none) else none) else ((O0 x3).bind fun y4=>(some (y4,x4,true))))
def PD (x0:List AM) (x1:Bool) (x2 x3:AA):Option (AA×List Int×Bool):=(if (!x1)=true then (some ((([]:List (List Int)),([]:List O),([]:List Y),([]:List AL)),([]:List Int),false)) else (Eg x0 0 x2 x3 ([]:List Int)))
def JJ (x0:List AM) (x1:Bool) (x2:Int) (x3 x4:AA):Option (AA×List Int×Bool):=(if (decide (x2<(x0.length:Int)))=true then (if x1=true then (PB x0 x1 x2 x1 x3 x4) else (GZ x0 x1 x3 x4)) else (GZ x0 x1 x3 x4))
def UL (x0:List (List Int)) (x1:List AM):Option (AA×List Int×Bool):=((Iw x0).bind fun y1=>(DN x1 y1.2 0 (([]:List (List Int)),([]:List O),([]:List Y),([]:List AL)) y1.1))
theorem YZ:nq PC PB:=jS (by kernel_rfl)
theorem PE:nG JI Eg:=lS (by kernel_rfl)
theorem Ya:eQ PD GZ:=jS (by kernel_rfl)
theorem PF:nG JJ DN:=lS (by kernel_rfl)
theorem e_:RN UL NK:=cT BC rfl ⟨rfl,rfl⟩ (by kernel_rfl)
def JK (x0:Bool) (x1:O):Option Bool:=cG Pp (AE E8) (AE E8) kx ⟨[(1,.ptr 0 0),(30,.bool x0)],[.var (U.enc x1)]⟩
def PG (x0:Bool) (x1:O):Option Bool:=(if x1.2.2.2.2.2.1=true then (if (!x1.2.2.2.1)=false then (if (!x1.2.2.2.2.1)=false then (if (decide ((x1.2.2.2.2.2.2.1.length:Int)>0))=false then (if x1.2.2.1=true then (if x1.2.2.2.1=false then (if x1.2.2.2.2.1=true then (some false) else ((Ck x1).bind fun y6=>(some y6.1))) else (some false)) else ((Ck x1).bind fun y7=>(some y7.1))) else (some false)) else (some false)) else (some false)) else (if x1.2.2.1=true then (if x1.2.2.2.1=false then (if x1.2.2.2.2.1=true then (some false) else ((Ck x1).bind fun y8=>(some y8.1))) else (some false)) else ((Ck x1).bind fun y9=>(some y9.1))))
def UM (x0:O):Option Bool:=((EO x0.1).bind fun y1=>(if (!y1)=false then ((Ae x0.2.1 1 9).bind fun y2=>(if (!y2)=false then ((GW x0.2.2.2.2.2.2.1 1 6).bind fun y3=>(if (!y3)=false then ((Ec x0.2.2.2.2.2.2.2.1).bind fun y4=>(if (!y4)=false then ((Ae x0.2.2.2.2.2.2.2.2.1 0 900).bind fun y5=>(if (!y5)=true then (some false) else (JK (!y5) x0))) else (some false))) else (some false))) else (some false))) else (some false)))
theorem Yb:RN PG JK:=jS (by kernel_rfl)
theorem fA:RM UM C8:=cT E8 rfl ⟨rfl,rfl⟩ (by kernel_rfl)
def cJ:=cG Re (AE Da) (AE Da) kx
def cK:=kE 0 [] [4,5] 6 cJ kx
def Zy:St→Option (RT (BQ.outs Da)):=lG Rd [] [0,4,5,6,8,9] 6 (AE Da) cK
def Dn (x0 x1:Int) (x2:AK) (x3:List AM) (x4:List (List Int)) (x5:List AM) (x6:List (List Int)) (x7:AA):Option (TD×AK):=Zy ⟨[(0,.ptr 0 0),(4,.ptr 2 0),(5,.ptr 4 0),(6,.ptr 5 0),(8,.int .i64 x0),(9,.int .i64 x1)],[.var (Ay.enc x2),.rows 55 AR x3,.var [.lst (.slice (.int .i64)) x4,.row 1],.rows 55 AR x5,.var [.lst (.slice (.int .i64)) x6,.row 3],.var (Aa.enc x7)]⟩
def Kj (x0 x1:Int) (x2:AK) (x3:List AM) (x4:List (List Int)) (x5:List AM) (x6:List (List Int)) (x7:AA):Option (TD×AK):=(if (decide (x1<x0))=true then ((O1 x2 x7).bind fun y3=>((OL x1 y3.1 y3.2.2).bind fun y4=>(if x5.length+([y3.1]:List AM).length≤68719476736 then (Dn x0 (i64.wrap (x1+1)) y3.2.1 x3 x4 (x5++([y3.1]:List AM)) x6 y4.2) else none))) else (some ((x6,x5),x2)))
def PH (x1:List Int) (b0:AK):Option (TD×AK):=((NM b0).bind fun y1=>((Iw y1.1).bind fun y2=>(if 4=0 then none else (if (decide ((i64.wrap (20+(i64.wrap (Int.tdiv (x1.length:Int) 4))))>69))=true then (Dn 69 0 y1.2 ([]:List AM) ([]:List (List Int)) ([]:List AM) y1.1 y2.1) else (Dn (i64.wrap (20+(i64.wrap (Int.tdiv (x1.length:Int) 4)))) 0 y1.2 ([]:List AM) ([]:List (List Int)) ([]:List AM) y1.1 y2.1)))))
theorem QS:oe Kj Dn:=lS (by kernel_rfl)
theorem WC:RN PH Ox:=cT Da rfl ⟨rfl,rfl⟩ (by kernel_rfl)
def fB:=cG Ti (AE DS) (AE DS) kx
def UN:=kE 0 [] [0,3] 0 fB kx
def R4:St→Option (RT (BQ.outs DS)):=lG Th [] [0,3,4] 0 (AE DS) UN
def fC:=kB [] [0,3,4] 0 R4
def R5 (x0:List Int) (x1 x2:Int) (x3:Bool):Option AK:=cG Tg fC (AE DS) UN ⟨[(0,.lst (.int .u8) x0),(3,.int .i64 x1),(4,.int .i64 x2),(15,.bool x3)],[]⟩
def H5 (x0:List Int) (x1 x2:Int):Option AK:=R4 ⟨[(0,.lst (.int .u8) x0),(3,.int .i64 x1),(4,.int .i64 x2)],[]⟩
def R6 (x0:List Int) (x1 x2:Int) (x3:Bool):Option AK:=(if 0≤x2 then (if x2<(x0.length:Int) then (H5 x0 (Js .i64 (i64.wrap ((i64.wrap ((i64.wrap (x1*131))+(i64.wrap (x0.getD x2.toNat 0))))+7)) 1073741823) (i64.wrap (x2+1))) else none) else none)
def H6 (x0:List Int) (x1 x2:Int):Option AK:=(if (decide (x2<(x0.length:Int)))=true then (if (decide (x2<4000))=true then (R5 x0 x1 x2 (decide (x2<4000))) else (some (x0,0,x1))) else (some (x0,0,x1)))
def jj (x0:List Int):Option AK:=(H5 x0 (i64.wrap (14301+(x0.length:Int))) 0)
theorem cL:eQ R6 R5:=jS (by kernel_rfl)
theorem MF:Q8 H6 H5:=lS (by kernel_rfl)
theorem jk:RM jj Q9:=cT DS rfl ⟨rfl,rfl⟩ (by kernel_rfl)
def Zz:=cG Pr (AE C5) (AE C5) kx
def Z0:=kE 0 [] [2,4] 8 Zz kx
def Yc:St→Option (RT (BQ.outs C5)):=lG Pq [] [0,2,4,5] 8 (AE C5) Z0
def Eh (x0:List (List Int)) (x1:Int) (x2:List O) (x3:List Y) (x4:List AL) (x5:List (List Int)) (x6:List O) (x7:List Y) (x8:List AL) (x9:List (List Int)):Option (AA×Bool):=Yc ⟨[(0,.lst (.slice (.int .i64)) x0),(2,.ptr 3 0),(4,.ptr 7 0),(5,.int .i64 x1)],[.rows 42 U x2,.rows 97 AC x3,.rows 47 Av x4,.var [.lst (.slice (.int .i64)) x5,.row 0,.row 1,.row 2],.rows 42 U x6,.rows 97 AC x7,.rows 47 Av x8,.var [.lst (.slice (.int .i64)) x9,.row 4,.row 5,.row 6]]⟩
def JL (x0:List (List Int)) (x1:Int) (x2:List O) (x3:List Y) (x4:List AL) (x5:List (List Int)) (x6:List O) (x7:List Y) (x8:List AL) (x9:List (List Int)):Option (AA×Bool):=(if (decide (x1≤6))=true then ((MC x1 x0).bind fun y3=>(if x6.length+([y3.1]:List O).length≤68719476736 then (Eh x0 (i64.wrap (x1+1)) x2 x3 x4 x5 (x6++([y3.1]:List O)) x7 x8 x9) else none)) else (some ((x9,x6,x7,x8),true)))
def UO (x0:List (List Int)):Option (AA×Bool):=((Dh x0).bind fun y1=>(if (!y1)=true then (some (([],([]:List O),([]:List Y),([]:List AL)),false)) else ((Hy x0).bind fun y2=>(Eh x0 1 ([]:List O) ([]:List Y) ([]:List AL) ([]:List (List Int)) ([]:List O) ([]:List Y) ([]:List AL) y2))))
theorem PI:og JL Eh:=lS (by kernel_rfl)
theorem fD:RM UO NL:=cT C5 rfl ⟨rfl,rfl⟩ (by kernel_rfl)
def Kk (x0:Bool) (x1:AM):Option Bool:=cG Rf (AE Fx) (AE Fx) kx ⟨[(1,.ptr 0 0),(17,.bool x0)],[.var (AR.enc x1)]⟩
def QT (x0:Bool) (x1:AM):Option Bool:=(if (x1.1==1)=true then ((KY x1.2.2.2.1 0 x1.2.2.2.2.1 x1.2.2.2.2.2).bind fun y3=>(some y3)) else (if (x1.2.2.2.1==0)=true then (if (x1.2.2.2.2.1.toList==(⟨#[]⟩:ByteArray).toList)=true then (some (x1.2.2.2.2.2.toList==(⟨#[]⟩:ByteArray).toList)) else (some false)) else (some false)))
def WD (x0:AM):Option Bool:=((Ae x0.1 1 6).bind fun y1=>(if (!y1)=false then ((EO x0.2.1).bind fun y2=>(if (!y2)=false then (if (decide (x0.2.2.1<0))=true then (some false) else (Kk (decide (x0.2.2.1<0)) x0)) else (some false))) else (some false)))
theorem Z1:RN QT Kk:=jS (by kernel_rfl)
theorem iZ:RM WD Oy:=cT Fx rfl ⟨rfl,rfl⟩ (by kernel_rfl)
def PJ (x1:AM) (x2:Int) (b0:AA):Option (Bool×AA):=(if (x1.1==1)=true then ((I_ x1 x2 b0).bind fun y1=>(some (y1.1,y1.2))) else (if (x1.1==5)=true then ((JA x1 x2 b0).bind fun y2=>(some (y2.1,y2.2))) else (if (x1.1==6)=true then ((Bf x1.2.1 b0).bind fun y3=>(if 0≤y3.1 then (if y3.1<(y3.2.2.1.length:Int) then ((QQ (y3.2.2.1.getD y3.1.toNat (0,0,false,false,false,false,([]:List Int),([]:List X),0,0,0,0,(ByteArray.empty,ByteArray.empty,0),([]:List Int)))).bind fun y4=>(if 0≤y3.1 then (if y3.1<(y3.2.2.1.length:Int) then (let z5:List O:=y3.2.2.1.set y3.1.toNat y4; (some (true,(y3.2.1,z5,y3.2.2.2)))) else none) else none)) else none) else none)) else ((Hc x1 x2 b0).bind fun y6=>(some (y6.1,y6.2))))))
theorem Yd:Q8 PJ GV:=cT GS rfl ⟨rfl,rfl⟩ (by kernel_rfl)
def Xt (x0:Bool):Option Int:=(if x0=true then (some 0) else (some 1))
theorem jl:RM Xt Q_:=cT MY rfl ⟨rfl,rfl⟩ (by kernel_rfl)
def Ye:=cG Ni (AE BB) (AE BB) kx
def Yf:=kE 2 [] [2,3] 10 Ye kx
def XQ:St→Option (RT (BQ.outs BB)):=lG Nh [] [2,3,31,32,33] 10 (AE BB) Yf
def Yg:=cG IK (AE BB) (AE BB) kx
def Yh:=kE 0 [] [1,2,3] 10 Yg kx
def XR:St→Option (RT (BQ.outs BB)):=lG Oi [] [1,2,3,16,17,18] 10 (AE BB) Yh
def C2 (x0:List Y) (x1 x2:Int) (x3:List (List Int)) (x4:List O) (x5:List Y) (x6:List AL) (x7:List O) (x8:List Y) (x9:List AL) (x10:List (List Int)) (x11:List O) (x12:List Y) (x13:List AL) (x14:List (List Int)):Option AA:=XQ ⟨[(2,.ptr 4 0),(3,.ptr 9 0),(31,.lst AC x0),(32,.int .i64 x1),(33,.int .i64 x2)],[.var [.lst (.slice (.int .i64)) x3,.lst U x4,.lst AC x5,.lst Av x6],.rows 42 U x7,.rows 97 AC x8,.rows 47 Av x9,.var [.lst (.slice (.int .i64)) x10,.row 1,.row 2,.row 3],.dead,.rows 42 U x11,.rows 97 AC x12,.rows 47 Av x13,.var [.lst (.slice (.int .i64)) x14,.row 6,.row 7,.row 8]]⟩
def Nt (x0:List (List Int)) (x1:List O) (x2:List Y) (x3:List AL) (x4:List O) (x5:List Y) (x6:List AL) (x7:List (List Int)) (x8:List O) (x9:List Y) (x10:List AL) (x11:List (List Int)):Option AA:=cG IK (AE BB) (AE BB) kx ⟨[(1,.ptr 0 0),(2,.ptr 4 0),(3,.ptr 9 0)],[.var [.lst (.slice (.int .i64)) x0,.lst U x1,.lst AC x2,.lst Av x3],.rows 42 U x4,.rows 97 AC x5,.rows 47 Av x6,.var [.lst (.slice (.int .i64)) x7,.row 1,.row 2,.row 3],.dead,.rows 42 U x8,.rows 97 AC x9,.rows 47 Av x10,.var [.lst (.slice (.int .i64)) x11,.row 6,.row 7,.row 8]]⟩
def C3 (x0:List O) (x1 x2:Int) (x3:List (List Int)) (x4:List O) (x5:List Y) (x6:List AL) (x7:List O) (x8:List Y) (x9:List AL) (x10:List (List Int)) (x11:List O) (x12:List Y) (x13:List AL) (x14:List (List Int)):Option AA:=XR ⟨[(1,.ptr 0 0),(2,.ptr 4 0),(3,.ptr 9 0),(16,.lst U x0),(17,.int .i64 x1),(18,.int .i64 x2)],[.var [.lst (.slice (.int .i64)) x3,.lst U x4,.lst AC x5,.lst Av x6],.rows 42 U x7,.rows 97 AC x8,.rows 47 Av x9,.var [.lst (.slice (.int .i64)) x10,.row 1,.row 2,.row 3],.dead,.rows 42 U x11,.rows 97 AC x12,.rows 47 Av x13,.var [.lst (.slice (.int .i64)) x14,.row 6,.row 7,.row 8]]⟩
def IM (x0:List Y) (x1 x2:Int) (x3:List (List Int)) (x4:List O) (x5:List Y) (x6:List AL) (x7:List O) (x8:List Y) (x9:List AL) (x10:List (List Int)) (x11:List O) (x12:List Y) (x13:List AL) (x14:List (List Int)):Option AA:=(if (decide (x2<x1))=true then (if 0≤x2 then (if x2<(x0.length:Int) then ((F7 (x0.getD x2.toNat (0,0,0,0,0,([]:List X)))).bind fun y4=>(if x12.length+([y4]:List Y).length≤68719476736 then (C2 x0 x1 (i64.wrap (x2+1)) x3 x4 x5 x6 x7 x8 x9 x10 x11 (x12++([y4]:List Y)) x13 x14) else none)) else none) else none) else (some (x14,x11,x12,x13)))
def Nu (x0:List (List Int)) (x1:List O) (x2:List Y) (x3:List AL) (x4:List O) (x5:List Y) (x6:List AL) (x7:List (List Int)) (x8:List O) (x9:List Y) (x10:List AL) (x11:List (List Int)):Option AA:=(C2 x2 (x2.length:Int) 0 x0 x1 x2 x3 x4 x5 x6 x7 x8 x9 x10 x11)
def IN (x0:List O) (x1 x2:Int) (x3:List (List Int)) (x4:List O) (x5:List Y) (x6:List AL) (x7:List O) (x8:List Y) (x9:List AL) (x10:List (List Int)) (x11:List O) (x12:List Y) (x13:List AL) (x14:List (List Int)):Option AA:=(if (decide (x2<x1))=true then (if 0≤x2 then (if x2<(x0.length:Int) then ((CS (x0.getD x2.toNat (0,0,false,false,false,false,([]:List Int),([]:List X),0,0,0,0,(ByteArray.empty,ByteArray.empty,0),([]:List Int)))).bind fun y3=>(if x11.length+([y3]:List O).length≤68719476736 then (C3 x0 x1 (i64.wrap (x2+1)) x3 x4 x5 x6 x7 x8 x9 x10 (x11++([y3]:List O)) x12 x13 x14) else none)) else none) else none) else (Nt x3 x4 x5 x6 x7 x8 x9 x10 x11 x12 x13 x14))
def R7 (x0:AA):Option AA:=((Hy x0.1).bind fun y1=>((Cc x0.2.2.2).bind fun y2=>(C3 x0.2.1 (x0.2.1.length:Int) 0 x0.1 x0.2.1 x0.2.2.1 x0.2.2.2 ([]:List O) ([]:List Y) ([]:List AL) ([]:List (List Int)) ([]:List O) ([]:List Y) y2 y1)))
theorem Nv:su IM C2:=lS (by kernel_rfl)
theorem XS:sK Nu Nt:=jS (by kernel_rfl)
theorem Nw:su IN C3:=lS (by kernel_rfl)
theorem cM:RM R7 Hx:=cT BB rfl ⟨rfl,rfl⟩ (by kernel_rfl)
def Z2:=cG Pt (AE C6) (AE C6) kx
def Z3:=kE 0 [] [2,4] 4 Z2 kx
def Yi:St→Option (RT (BQ.outs C6)):=lG Ps [] [0,2,4,5] 4 (AE C6) Z3
def Ei (x0:List (List Int)) (x1:Int) (x2:List O) (x3:List (List Int)) (x4:List Y) (x5:List AL) (x6:List O) (x7:List (List Int)):Option (AA×Bool):=Yi ⟨[(0,.lst (.slice (.int .i64)) x0),(2,.ptr 1 0),(4,.ptr 3 0),(5,.int .i64 x1)],[.rows 42 U x2,.var [.lst (.slice (.int .i64)) x3,.row 0,.lst AC x4,.lst Av x5],.rows 42 U x6,.var [.lst (.slice (.int .i64)) x7,.row 2,.nil,.nil]]⟩
def JM (x0:List (List Int)) (x1:Int) (x2:List O) (x3:List (List Int)) (x4:List Y) (x5:List AL) (x6:List O) (x7:List (List Int)):Option (AA×Bool):=(if (decide (x1≤6))=true then ((MD x1 x0).bind fun y3=>(if x6.length+([y3.1]:List O).length≤68719476736 then (Ei x0 (i64.wrap (x1+1)) x2 x3 x4 x5 (x6++([y3.1]:List O)) x7) else none)) else (some ((x7,x6,[],[]),true)))
def UP (x0:List (List Int)):Option (AA×Bool):=((Di x0).bind fun y1=>(if (!y1)=true then (some (([],([]:List O),[],[]),false)) else ((Fp x0).bind fun y2=>(Ei x0 1 ([]:List O) ([]:List (List Int)) ([]:List Y) ([]:List AL) ([]:List O) y2))))
theorem PL:oe JM Ei:=lS (by kernel_rfl)
theorem fE:RM UP Iw:=cT C6 rfl ⟨rfl,rfl⟩ (by kernel_rfl)
def Kl (x0:Bool) (x1:AM):Option Bool:=cG Rg (AE Fy) (AE Fy) kx ⟨[(1,.ptr 0 0),(17,.bool x0)],[.var (AR.enc x1)]⟩
def QU (x0:Bool) (x1:AM):Option Bool:=(if (x1.1 != 1)=true then (if (x1.2.2.2.1==0)=true then (if (x1.2.2.2.2.1.toList==(⟨#[]⟩:ByteArray).toList)=true then (some (x1.2.2.2.2.2.toList==(⟨#[]⟩:ByteArray).toList)) else (some false)) else (some false)) else (if (x1.2.2.2.1==1)=false then (if (x1.2.2.2.1==2)=true then ((AP (x1.2.2.2.2.1.size:Int) 1 12).bind fun y3=>(if y3=true then (if (decide ((x1.2.2.2.2.2.size:Int)≤20))=true then (if (x1.2.2.2.1==1)=false then (some (x1.2.2.2.2.2.toList==(⟨#[]⟩:ByteArray).toList)) else (some true)) else (some false)) else (some false))) else (some false)) else ((AP (x1.2.2.2.2.1.size:Int) 1 12).bind fun y4=>(if y4=true then (if (decide ((x1.2.2.2.2.2.size:Int)≤20))=true then (if (x1.2.2.2.1==1)=false then (some (x1.2.2.2.2.2.toList==(⟨#[]⟩:ByteArray).toList)) else (some true)) else (some false)) else (some false)))))
def WE (x0:AM):Option Bool:=((AP x0.1 1 6).bind fun y1=>(if (!y1)=false then ((AP x0.2.1 1 6).bind fun y2=>(if (!y2)=false then (if (decide (x0.2.2.1<0))=true then (some false) else (Kl (decide (x0.2.2.1<0)) x0)) else (some false))) else (some false)))
theorem Z4:RN QU Kl:=jS (by kernel_rfl)
theorem ia:RM WE Oz:=cT Fy rfl ⟨rfl,rfl⟩ (by kernel_rfl)
def Km (x1:Int) (x2:AM) (b0:AA):Option (Int×AA):=(if (x2.1==1)=true then ((NN x1 x2 b0).bind fun y1=>(some (y1.1,y1.2))) else (if (x2.1==5)=true then ((NO x1 x2.2.1 b0).bind fun y2=>(some (y2.1,y2.2))) else (if (x2.1==6)=true then (if 0≤(i64.wrap (x2.2.1-1)) then (if (i64.wrap (x2.2.1-1))<(b0.2.1.length:Int) then ((V7 (b0.2.1.getD (i64.wrap (x2.2.1-1)).toNat (0,0,false,false,false,false,([]:List Int),([]:List X),0,0,0,0,(ByteArray.empty,ByteArray.empty,0),([]:List Int)))).bind fun y3=>((EV y3 ([]:List Y) ([]:List AD) x1 b0).bind fun y4=>(some (0,y4)))) else none) else none) else ((RA x1 x2 b0).bind fun y5=>(some (y5.1,y5.2))))))
theorem OQ:Q8 Km OL:=cT OG rfl ⟨rfl,rfl⟩ (by kernel_rfl)
def cN:=cG Ri (AE Db) (AE Db) kx
def cO:=kE 0 [] [2,3] 6 cN kx
def Z5:St→Option (RT (BQ.outs Db)):=lG Rh [] [1,2,3,4] 6 (AE Db) cO
def FT (x0:Int) (x1:List (List Int)) (x2:List O) (x3:List Y) (x4:List AL) (x5:List O) (x6:List (List Int)) (x7:List Y) (x8 x9:List AL) (x10:List O) (x11:List (List Int)) (x12:List Y) (x13:List AL):Option AA:=Z5 ⟨[(1,.ptr 0 0),(2,.ptr 2 0),(3,.ptr 5 0),(4,.int .i64 x0)],[.var [.lst (.slice (.int .i64)) x1,.lst U x2,.lst AC x3,.lst Av x4],.rows 42 U x5,.var [.lst (.slice (.int .i64)) x6,.row 1,.lst AC x7,.lst Av x8],.frz Av x9,.rows 42 U x10,.var [.lst (.slice (.int .i64)) x11,.row 4,.lst AC x12,.lst Av x13]]⟩
def Kn (x0:Int) (x1:List (List Int)) (x2:List O) (x3:List Y) (x4:List AL) (x5:List O) (x6:List (List Int)) (x7:List Y) (x8 x9:List AL) (x10:List O) (x11:List (List Int)) (x12:List Y) (x13:List AL):Option AA:=(if (decide (x0<(x2.length:Int)))=true then (if 0≤x0 then (if x0<(x2.length:Int) then ((Cs (x2.getD x0.toNat (0,0,false,false,false,false,([]:List Int),([]:List X),0,0,0,0,(ByteArray.empty,ByteArray.empty,0),([]:List Int)))).bind fun y3=>(if x10.length+([y3]:List O).length≤68719476736 then (FT (i64.wrap (x0+1)) x1 x2 x3 x4 x5 x6 x7 x8 x9 (x10++([y3]:List O)) x11 x12 x13) else none)) else none) else none) else (some (x11,x10,x12,x13)))
def WF (x0:AA):Option AA:=((Fp x0.1).bind fun y1=>((JB x0.2.2.1).bind fun y2=>(if ([]:List AL).length+x0.2.2.2.length≤68719476736 then (FT 0 x0.1 x0.2.1 x0.2.2.1 x0.2.2.2 ([]:List O) ([]:List (List Int)) ([]:List Y) ([]:List AL) (([]:List AL)++x0.2.2.2) ([]:List O) y1 y2 (([]:List AL)++x0.2.2.2)) else none)))
theorem QV:tN Kn FT:=lS (by kernel_rfl)
theorem ib:RM WF O0:=cT Db rfl ⟨rfl,rfl⟩ (by kernel_rfl)
def Xu (x0:Int):Option Bool:=((Ae x0 1 6).bind fun y1=>(some y1))
theorem jm:RM Xu EO:=cT MZ rfl ⟨rfl,rfl⟩ (by kernel_rfl)
def WG (x0 x1 x2:Int):Option Bool:=(if (decide (x0≥x1))=true then (some (decide (x0≤x2))) else (some false))
theorem ic:Q8 WG Ae:=cT KJ rfl ⟨rfl,rfl⟩ (by kernel_rfl)
def WH:=cG Mn (AE CA) (AE CA) kx
def WI:=kE 0 [] [] 0 WH kx
def U1:St→Option (RT (BQ.outs CA)):=lG Mm [] [0,1,2,9,10,11] 0 (AE CA) WI
def DE (x0:List Int) (x1 x2:Int) (x3:List Int) (x4 x5:Int):Option Bool:=U1 ⟨[(0,.lst (.int .i64) x0),(1,.int .i64 x1),(2,.int .i64 x2),(9,.lst (.int .i64) x3),(10,.int .i64 x4),(11,.int .i64 x5)],[]⟩
def G2 (x0:List Int) (x1 x2:Int) (x3:List Int) (x4 x5:Int):Option Bool:=(if (decide (x5<x4))=true then (if 0≤x5 then (if x5<(x3.length:Int) then ((Ae (x3.getD x5.toNat 0) x1 x2).bind fun y1=>(if (!y1)=false then (if (decide (x5>0))=true then (if 0≤(i64.wrap (x5-1)) then (if (i64.wrap (x5-1))<(x0.length:Int) then (if (decide ((x3.getD x5.toNat 0)≤(x0.getD (i64.wrap (x5-1)).toNat 0)))=true then (some false) else (DE x0 x1 x2 x3 x4 (i64.wrap (x5+1)))) else none) else none) else (DE x0 x1 x2 x3 x4 (i64.wrap (x5+1)))) else (some false))) else none) else none) else (some true))
def PM (x0:List Int) (x1 x2:Int):Option Bool:=(DE x0 x1 x2 x0 (x0.length:Int) 0)
theorem Lk:nq G2 DE:=lS (by kernel_rfl)
theorem Yj:Q8 PM GW:=cT CA rfl ⟨rfl,rfl⟩ (by kernel_rfl)
def cQ:=cG Py (AE Dc) (AE Dc) kx
def cR:=kE 0 [] [0] 0 cQ kx
def Z6:St→Option (RT (BQ.outs Dc)):=lG Px [] [0,5,6,7] 0 (AE Dc) cR
def FU (x0 x1:List X) (x2 x3:Int):Option Bool:=Z6 ⟨[(0,.lst AB x0),(5,.lst AB x1),(6,.int .i64 x2),(7,.int .i64 x3)],[]⟩
def Ko (x0 x1:List X) (x2 x3:Int):Option Bool:=(if (decide (x3<x2))=true then (if 0≤x3 then (if x3<(x1.length:Int) then ((OM ((x1.getD x3.toNat (ByteArray.empty,ByteArray.empty,0)).1)).bind fun y1=>(if (!y1)=true then (some false) else (if (decide (((((x1.getD x3.toNat (ByteArray.empty,ByteArray.empty,0)).2).1).size:Int)>20))=true then (some false) else ((Ae (((x1.getD x3.toNat (ByteArray.empty,ByteArray.empty,0)).2).2) 1 1000000000).bind fun y2=>(if (!y2)=true then (some false) else (if (decide (x3>0))=true then (if 0≤(i64.wrap (x3-1)) then (if (i64.wrap (x3-1))<(x0.length:Int) then (if ((Op.bytesLess ((x1.getD x3.toNat (ByteArray.empty,ByteArray.empty,0)).1).toList ((x0.getD (i64.wrap (x3-1)).toNat (ByteArray.empty,ByteArray.empty,0)).1).toList)||(((x1.getD x3.toNat (ByteArray.empty,ByteArray.empty,0)).1).toList==((x0.getD (i64.wrap (x3-1)).toNat (ByteArray.empty,ByteArray.empty,0)).1).toList))=true then (some false) else (FU x0 x1 x2 (i64.wrap (x3+1)))) else none) else none) else (FU x0 x1 x2 (i64.wrap (x3+1))))))))) else none) else none) else (some (decide ((x0.length:Int)≤12))))
def WJ (x0:List X):Option Bool:=(FU x0 x0 (x0.length:Int) 0)
theorem QW:eQ Ko FU:=lS (by kernel_rfl)
theorem ie:RM WJ Ec:=cT Dc rfl ⟨rfl,rfl⟩ (by kernel_rfl)
def Mx (b0:O):Option (Bool×O):=(if (b0.2.2.2.2.2.2.2.2.2.1==0)=true then (if (b0.2.2.2.2.2.2.2.2.2.2.1==0)=true then (if (b0.2.2.2.2.2.2.2.2.2.2.2.1==0)=true then (if (false != VM AB b0.2.2.2.2.2.2.2.2.2.2.2.2.1 (ByteArray.empty,ByteArray.empty,0))=true then (some (((b0.2.2.2.2.2.2.2.2.2.2.2.2.2.length:Int)==0),b0)) else (some (false,b0))) else (some (false,b0))) else (some (false,b0))) else ((Ae b0.2.2.2.2.2.2.2.2.2.1 1 2).bind fun y1=>(if y1=true then (if b0.2.2.2.2.2.1=true then ((Ae b0.2.2.2.2.2.2.2.2.2.2.1 0 1000).bind fun y2=>(if y2=true then ((Ae b0.2.2.2.2.2.2.2.2.2.2.2.1 1 900).bind fun y3=>(if y3=true then ((GW b0.2.2.2.2.2.2.2.2.2.2.2.2.2 1 6).bind fun y4=>(some (y4,b0))) else (some (false,b0)))) else (some (false,b0)))) else (some (false,b0))) else (some (false,b0)))))
theorem WK:RM Mx Ck:=cT FK rfl ⟨rfl,rfl⟩ (by kernel_rfl)
def My (x1 x2:Int) (b0:AA):Option AA:=(if 0≤x1 then (if x1<(b0.2.2.1.length:Int) then ((BP b0.2.2.1 x1 (i64.wrap (x1+1))).bind fun y1=>((Bf ((((b0.2.2.1.getD x1.toNat (0,0,0,0,0,([]:List X))).2).2).1) (b0.1,b0.2.1,y1,b0.2.2.2)).bind fun y2=>(if (decide (y2.1≥0))=true then (if 0≤y2.1 then (if y2.1<(y2.2.2.1.length:Int) then ((KZ (y2.2.2.1.getD y2.1.toNat (0,0,false,false,false,false,([]:List Int),([]:List X),0,0,0,0,(ByteArray.empty,ByteArray.empty,0),([]:List Int))) y2.2.1 (b0.2.2.1.getD x1.toNat (0,0,0,0,0,([]:List X)))).bind fun y3=>(if 0≤y2.1 then (if y2.1<(y2.2.2.1.length:Int) then (let z4:List O:=y2.2.2.1.set y2.1.toNat y3.1; ((FQ y3.2.1 y3.2.2 x2 (y2.2.1,z4,y2.2.2.2)).bind fun y5=>(some y5))) else none) else none)) else none) else none) else (some y2.2)))) else none) else none)
theorem WL:Q8 My Ha:=cT FM rfl ⟨rfl,rfl⟩ (by kernel_rfl)
def Z7 (x0 x1 x2:Int):Option Bool:=(if (decide (x0≥x1))=true then (some (decide (x0≤x2))) else (some false))
theorem lL:Q8 Z7 AP:=cT OH rfl ⟨rfl,rfl⟩ (by kernel_rfl)
def ID (x0:List Int) (x1:Int):Option Bool:=((Ct x0 x1).bind fun y1=>(some (decide (y1≥0))))
theorem Pa:RN ID CK:=cT DC rfl ⟨rfl,rfl⟩ (by kernel_rfl)
def ig:=cG Vn (AE FN) (AE FN) kx
def ii:=kE 0 [] [] 0 ig kx
def fF:St→Option (RT (BQ.outs FN)):=lG Vm [] [0,1,5] 0 (AE FN) ii
def Iy (x0:List Int) (x1 x2:Int):Option Bool:=fF ⟨[(0,.lst (.int .i64) x0),(1,.int .i64 x1),(5,.int .i64 x2)],[]⟩
def NR (x0:List Int) (x1 x2:Int):Option Bool:=(if (decide (x2<(x0.length:Int)))=true then (if 0≤x2 then (if x2<(x0.length:Int) then (if ((x0.getD x2.toNat 0)==x1)=true then (some true) else (Iy x0 x1 (i64.wrap (x2+1)))) else none) else none) else (some false))
def Z8 (x0:List Int) (x1:Int):Option Bool:=(Iy x0 x1 0)
theorem UQ:Q8 NR Iy:=lS (by kernel_rfl)
theorem lM:RN Z8 DV:=cT FN rfl ⟨rfl,rfl⟩ (by kernel_rfl)
def PN (b0:AK):Option (Int×AK):=(if 33<0 then none else (if 45<0 then none else (if (decide (b0.2.1<(b0.1.length:Int)))=true then (if 0≤b0.2.1 then (if b0.2.1<(b0.1.length:Int) then (some ((Js .i64 (i64.wrap ((Js .i64 (Y_ .i64 (Int.fdiv (i64.wrap ((i64.wrap (b0.2.2*6364136223846793005))+1442695040888963407)) (2^(min (33:Int).toNat (IntKind.bits .i64)))) (Int.fdiv (i64.wrap ((i64.wrap (b0.2.2*6364136223846793005))+1442695040888963407)) (2^(min (45:Int).toNat (IntKind.bits .i64))))) 255)+(i64.wrap (b0.1.getD b0.2.1.toNat 0)))) 255),(b0.1,(i64.wrap (b0.2.1+1)),(i64.wrap ((i64.wrap (b0.2.2*6364136223846793005))+1442695040888963407))))) else none) else none) else (some ((Js .i64 (Y_ .i64 (Int.fdiv (i64.wrap ((i64.wrap (b0.2.2*6364136223846793005))+1442695040888963407)) (2^(min (33:Int).toNat (IntKind.bits .i64)))) (Int.fdiv (i64.wrap ((i64.wrap (b0.2.2*6364136223846793005))+1442695040888963407)) (2^(min (45:Int).toNat (IntKind.bits .i64))))) 255),(b0.1,b0.2.1,(i64.wrap ((i64.wrap (b0.2.2*6364136223846793005))+1442695040888963407))))))))
theorem ij:RM PN Ed:=cT KK rfl ⟨rfl,rfl⟩ (by kernel_rfl)
def NS (x1:Int) (b0:AK):Option (Int×AK):=(if (decide (x1≤0))=true then (some (0,b0)) else (if (decide (x1≤256))=true then ((Ed b0).bind fun y1=>(if x1=0 then none else (some ((Int.tmod y1.1 x1),y1.2)))) else ((Ed b0).bind fun y2=>((Ed y2.2).bind fun y3=>((Ed y3.2).bind fun y4=>((Ed y4.2).bind fun y5=>(if x1=0 then none else (some ((Int.tmod (i64.wrap ((i64.wrap ((i64.wrap ((i64.wrap (y2.1*16777216))+(i64.wrap (y3.1*65536))))+(i64.wrap (y4.1*256))))+y5.1)) x1),y5.2)))))))))
theorem fG:RN NS CF:=cT Ir rfl ⟨rfl,rfl⟩ (by kernel_rfl)
def Z9:=cG Ol (AE Bi) (AE Bi) kx
def Kp:=kE 0 [(3,1)] [3] 2 Z9 kx
def PO:St→Option (RT (BQ.outs Bi)):=lG Ok [(3,1)] [0,3,4] 2 (AE Bi) Kp
def Z_:=kB [(3,1)] [0,3,4] 2 PO
def QX:=cG Oj Z_ (AE Bi) Kp
def aA:=kB [(3,1)] [0,3,4] 2 QX
def QY:=kE 1 [(3,1)] [0,3,4] 2 QX Kp
def aB:=cG P0 aA (AE Bi) QY
def aC:=kE 2 [(3,1),(5,2)] [0,3,4,5] 3 aB QY
def Yk:St→Option (RT (BQ.outs Bi)):=lG Pz [(3,1),(5,2)] [0,3,4,5,6] 3 (AE Bi) aC
def Ej (x0 x1:Int) (x2:AK) (x3:List (List Int)) (x4:List Int):Option (List (List Int)×AK):=Yk ⟨[(0,.ptr 0 0),(3,.row 1),(4,.int .i64 x0),(5,.row 2),(6,.int .i64 x1)],[.var (Ay.enc x2),.rows 33 (.slice (.int .i64)) x3,.rows 3 (.int .i64) x4]⟩
def Ek (x0:Int) (x1:AK) (x2:List (List Int)):Option (List (List Int)×AK):=PO ⟨[(0,.ptr 0 0),(3,.row 1),(4,.int .i64 x0)],[.var (Ay.enc x1),.rows 33 (.slice (.int .i64)) x2]⟩
def El (x0 x1:Int) (x2:AK) (x3:List (List Int)) (x4:List Int):Option (List (List Int)×AK):=((CF 3 x2).bind fun y2=>(if (decide (x1<(i64.wrap (1+y2.1))))=true then ((CF 4 y2.2).bind fun y3=>((DV x4 (i64.wrap (1+y3.1))).bind fun y4=>(if (!y4)=true then (if x4.length+([(i64.wrap (1+y3.1))]:List Int).length≤68719476736 then (Ej x0 (i64.wrap (x1+1)) y3.2 x3 (x4++([(i64.wrap (1+y3.1))]:List Int))) else none) else (Ej x0 (i64.wrap (x1+1)) y3.2 x3 x4)))) else (if x3.length+([x4]:List (List Int)).length≤68719476736 then (Ek (i64.wrap (x0+1)) y2.2 (x3++([x4]:List (List Int)))) else none)))
def Ga (x0:Int) (x1:AK) (x2:List (List Int)):Option (List (List Int)×AK):=((CF 5 x1).bind fun y1=>(if (decide (x0<(i64.wrap (1+y1.1))))=true then (Ej x0 0 y1.2 x2 ([]:List Int)) else (some (x2,y1.2))))
def UR (b0:AK):Option (List (List Int)×AK):=(Ek 0 b0 ([]:List (List Int)))
theorem Gb:nG El Ej:=lS (by kernel_rfl)
theorem JN:Q8 Ga Ek:=lS (by kernel_rfl)
theorem fH:RM UR NM:=cT Bi rfl ⟨rfl,rfl⟩ (by kernel_rfl)
end
end Go.Proofs.YtokiohnjegbnpaaGreat.Core

namespace Go.Proofs.YtokiohnjegbnpaaGreat.Core
open Go IntKind
set_option linter.unusedVariables false
set_option maxRecDepth 100000
noncomputable section
def R8:=cG P3 (AE BF) (AE BF) kx
def R9:=kB [] [4,5] 4 R8
def R_:=kE 0 [] [4,5] 4 R8 kx
def cS:=kE 1 [] [4,5] 6 R9 R_
def aD:St→Option (RT (BQ.outs BF)):=lG Rj [] [0,1,4,5,6] 6 (AE BF) cS
def cU:=kE 3 [] [4,5] 4 R9 R_
def aE:St→Option (RT (BQ.outs BF)):=lG P2 [] [0,1,4,5,7] 4 (AE BF) cU
def Cx (x0:Int) (x1:AK) (x2:AA) (x3 x4:AM) (x5:List Int) (x6:List ByteArray):Option (AM×AK×AA):=aD ⟨[(0,.ptr 0 0),(1,.ptr 1 0),(4,.ptr 2 0),(5,.ptr 3 0),(6,.int .i64 x0)],[.var (Ay.enc x1),.var (Aa.enc x2),.var (AR.enc x3),.var (AR.enc x4),.frz (.int .i64) x5,.frz .str x6]⟩
def Cy (x0:Int) (x1:AK) (x2:AA) (x3 x4:AM):Option (AM×AK×AA):=aE ⟨[(0,.ptr 0 0),(1,.ptr 1 0),(4,.ptr 2 0),(5,.ptr 3 0),(7,.int .i64 x0)],[.var (Ay.enc x1),.var (Aa.enc x2),.var (AR.enc x3),.var (AR.enc x4)]⟩
def FV (x0:AK) (x1:AA) (x2 x3:AM):Option (AM×AK×AA):=cG P4 (AE BF) (AE BF) kx ⟨[(0,.ptr 0 0),(1,.ptr 1 0),(4,.ptr 2 0),(5,.ptr 3 0)],[.var (Ay.enc x0),.var (Aa.enc x1),.var (AR.enc x2),.var (AR.enc x3)]⟩
def Aq (x0:AK) (x1:AA) (x2 x3:AM):Option (AM×AK×AA):=cG P5 (AE BF) (AE BF) kx ⟨[(0,.ptr 0 0),(1,.ptr 1 0),(4,.ptr 2 0),(5,.ptr 3 0)],[.var (Ay.enc x0),.var (Aa.enc x1),.var (AR.enc x2),.var (AR.enc x3)]⟩
def Kq (x0:AK) (x1:AA) (x2 x3:AM):Option (AM×AK×AA):=cG P6 (AE BF) (AE BF) kx ⟨[(0,.ptr 0 0),(1,.ptr 1 0),(4,.ptr 2 0),(5,.ptr 3 0)],[.var (Ay.enc x0),.var (Aa.enc x1),.var (AR.enc x2),.var (AR.enc x3)]⟩
def FW (x0:Int) (x1:AK) (x2:AA) (x3 x4:AM) (x5:List Int) (x6:List ByteArray):Option (AM×AK×AA):=(if (decide (x0<(x2.2.1.length:Int)))=true then (if 0≤x0 then (if x0<(x2.2.1.length:Int) then (if (((((((x2.2.1.getD x0.toNat (0,0,false,false,false,false,([]:List Int),([]:List X),0,0,0,0,(ByteArray.empty,ByteArray.empty,0),([]:List Int))).2).2).2).2).2).1)=true then ((Cu 4 x1).bind fun y10=>(if (!y10.1)=true then (Cx (i64.wrap (x0+1)) y10.2 x2 x3 (x4.1,(i64.wrap (x0+1)),x4.2.2) x5 x6) else (Cx (i64.wrap (x0+1)) y10.2 x2 x3 x4 x5 x6))) else (Cx (i64.wrap (x0+1)) x1 x2 x3 x4 x5 x6)) else none) else none) else (some (x4,x1,x2)))
def Do (x0:Int) (x1:AK) (x2:AA) (x3 x4:AM):Option (AM×AK×AA):=(if (decide (x0<(x2.2.1.length:Int)))=true then (if 0≤x0 then (if x0<(x2.2.1.length:Int) then (if (decide ((((x2.2.1.getD x0.toNat (0,0,false,false,false,false,([]:List Int),([]:List X),0,0,0,0,(ByteArray.empty,ByteArray.empty,0),([]:List Int))).2).1)<(x2.1.length:Int)))=true then (if 0≤(((x2.2.1.getD x0.toNat (0,0,false,false,false,false,([]:List Int),([]:List X),0,0,0,0,(ByteArray.empty,ByteArray.empty,0),([]:List Int))).2).1) then (if (((x2.2.1.getD x0.toNat (0,0,false,false,false,false,([]:List Int),([]:List X),0,0,0,0,(ByteArray.empty,ByteArray.empty,0),([]:List Int))).2).1)<(x2.1.length:Int) then (if 0≤(0:Int) then (if 0<((x2.1.getD (((x2.2.1.getD x0.toNat (0,0,false,false,false,false,([]:List Int),([]:List X),0,0,0,0,(ByteArray.empty,ByteArray.empty,0),([]:List Int))).2).1).toNat ([]:List Int)).length:Int) then (if (((x2.1.getD (((x2.2.1.getD x0.toNat (0,0,false,false,false,false,([]:List Int),([]:List X),0,0,0,0,(ByteArray.empty,ByteArray.empty,0),([]:List Int))).2).1).toNat ([]:List Int)).getD (0:Int).toNat 0)==((x2.2.1.getD x0.toNat (0,0,false,false,false,false,([]:List Int),([]:List X),0,0,0,0,(ByteArray.empty,ByteArray.empty,0),([]:List Int))).1))=true then ((Cu 3 x1).bind fun y11=>(if (!y11.1)=true then (Cy (i64.wrap (x0+1)) y11.2 x2 x3 (x4.1,(x2.2.1.getD x0.toNat (0,0,false,false,false,false,([]:List Int),([]:List X),0,0,0,0,(ByteArray.empty,ByteArray.empty,0),([]:List Int))).1,x4.2.2)) else (Cy (i64.wrap (x0+1)) y11.2 x2 x3 x4))) else (Cy (i64.wrap (x0+1)) x1 x2 x3 x4)) else none) else none) else none) else none) else (Cy (i64.wrap (x0+1)) x1 x2 x3 x4)) else none) else none) else (some (x4,x1,x2)))
def FX (x0:AK) (x1:AA) (x2 x3:AM):Option (AM×AK×AA):=(if (x3.1==1)=true then ((HD ([1,1,2]:List Int) x0).bind fun y7=>((Ka ([(⟨#[97]⟩:ByteArray),(⟨#[98]⟩:ByteArray),(⟨#[99]⟩:ByteArray)]:List ByteArray) y7.2).bind fun y8=>(if (y7.1==1)=true then ((Ka ([(⟨#[118]⟩:ByteArray),(⟨#[119]⟩:ByteArray),(⟨#[120]⟩:ByteArray),(⟨#[121]⟩:ByteArray)]:List ByteArray) y8.2).bind fun y9=>(Cx 0 y9.2 x1 x2 (x3.1,x3.2.1,x3.2.2.1,y7.1,y8.1,y9.1) ([1,1,2]:List Int) ([(⟨#[97]⟩:ByteArray),(⟨#[98]⟩:ByteArray),(⟨#[99]⟩:ByteArray)]:List ByteArray))) else (Cx 0 y8.2 x1 x2 (x3.1,x3.2.1,x3.2.2.1,y7.1,y8.1,x3.2.2.2.2.2) ([1,1,2]:List Int) ([(⟨#[97]⟩:ByteArray),(⟨#[98]⟩:ByteArray),(⟨#[99]⟩:ByteArray)]:List ByteArray))))) else (if (x3.1==5)=true then (Cy 0 x0 x1 x2 x3) else (some (x3,x0,x1))))
def HF (x0:AK) (x1:AA) (x2 x3:AM):Option (AM×AK×AA):=(if (x3.1==2)=true then ((Cu 2 x0).bind fun y6=>(if y6.1=true then (FV y6.2 x1 x2 (x3.1,x3.2.1,0,x3.2.2.2)) else (FV y6.2 x1 x2 x3))) else (FV x0 x1 x2 x3))
def HG (x0:AK) (x1:AA) (x2 x3:AM):Option (AM×AK×AA):=(if ((x1.2.2.1.length:Int)==0)=true then ((AP x3.1 2 4).bind fun y4=>(if y4=true then (if ((1:Int)==6)=true then ((Cu 4 x0).bind fun y5=>(if (!y5.1)=true then (Aq y5.2 x1 x2 (1,x3.2)) else (Aq y5.2 x1 x2 (1,x3.2)))) else (Aq x0 x1 x2 (1,x3.2))) else (if (x3.1==6)=true then ((Cu 4 x0).bind fun y12=>(if (!y12.1)=true then (Aq y12.2 x1 x2 (1,x3.2)) else (Aq y12.2 x1 x2 x3))) else (Aq x0 x1 x2 x3)))) else (if (x3.1==6)=true then ((Cu 4 x0).bind fun y13=>(if (!y13.1)=true then (Aq y13.2 x1 x2 (1,x3.2)) else (Aq y13.2 x1 x2 x3))) else (Aq x0 x1 x2 x3)))
def WM (b0:AK) (b1:AA):Option (AM×AK×AA):=((HD ([1,1,1,2,2,2,2,2,2,2,2,3,4,5,6]:List Int) b0).bind fun y1=>((CF 4 y1.2).bind fun y2=>((CF 20 y2.2).bind fun y3=>(Kq y3.2 b1 (0,0,0,0,ByteArray.empty,ByteArray.empty) (y1.1,(i64.wrap (1+y2.1)),y3.1,0,ByteArray.empty,ByteArray.empty)))))
theorem HH:qT FW Cx:=lS (by kernel_rfl)
theorem FY:nG Do Cy:=lS (by kernel_rfl)
theorem HI:eQ FX FV:=jS (by kernel_rfl)
theorem Kr:eQ HF Aq:=jS (by kernel_rfl)
theorem Kt:eQ HG Kq:=jS (by kernel_rfl)
theorem ik:RN WM O1:=cT BF rfl ⟨rfl,rfl⟩ (by kernel_rfl)
def cV:=cG P9 (AE Bk) (AE Bk) kx
def MG:=kE 0 [] [0] 0 cV kx
def QZ:St→Option (RT (BQ.outs Bk)):=lG P8 [] [0,7,8,9] 0 (AE Bk) MG
def cW:=kB [] [0,7,8,9] 0 QZ
def SA:=cG P7 cW (AE Bk) MG
def SB:=kB [] [0,7,8,9] 0 SA
def MH:=kE 1 [] [0,7,8,9] 0 SA MG
def cX:=cG L_ SB (AE Bk) MH
def cY:=kE 2 [] [0,4,7,8,9] 0 cX MH
def aF:St→Option (RT (BQ.outs Bk)):=lG Rk [] [0,4,7,8,9,13,14,15] 0 (AE Bk) cY
def Ku (x0:List (List Int)) (x1:List Int) (x2:List (List Int)) (x3 x4:Int):Option Bool:=cG L_ SB (AE Bk) MH ⟨[(0,.lst (.slice (.int .i64)) x0),(4,.lst (.int .i64) x1),(7,.lst (.slice (.int .i64)) x2),(8,.int .i64 x3),(9,.int .i64 x4)],[]⟩
def HJ (x0:List (List Int)) (x1:List Int) (x2:List (List Int)) (x3 x4:Int) (x5:List Int) (x6 x7:Int):Option Bool:=aF ⟨[(0,.lst (.slice (.int .i64)) x0),(4,.lst (.int .i64) x1),(7,.lst (.slice (.int .i64)) x2),(8,.int .i64 x3),(9,.int .i64 x4),(13,.lst (.int .i64) x5),(14,.int .i64 x6),(15,.int .i64 x7)],[]⟩
def HK (x0 x1:List (List Int)) (x2 x3:Int):Option Bool:=QZ ⟨[(0,.lst (.slice (.int .i64)) x0),(7,.lst (.slice (.int .i64)) x1),(8,.int .i64 x2),(9,.int .i64 x3)],[]⟩
def Qa (x0:List (List Int)) (x1:List Int) (x2:List (List Int)) (x3 x4:Int):Option Bool:=((Ae (x1.length:Int) 1 4).bind fun y3=>(if (!y3)=true then (some false) else (HK x0 x2 x3 (i64.wrap (x4+1)))))
def Kv (x0:List (List Int)) (x1:List Int) (x2:List (List Int)) (x3 x4:Int) (x5:List Int) (x6 x7:Int):Option Bool:=(if (decide (x7<x6))=true then (if 0≤x7 then (if x7<(x5.length:Int) then ((EO (x5.getD x7.toNat 0)).bind fun y1=>(if (!y1)=false then ((Ct x1 (x5.getD x7.toNat 0)).bind fun y2=>(if (y2 != x7)=true then (some false) else (HJ x0 x1 x2 x3 x4 x5 x6 (i64.wrap (x7+1))))) else (some false))) else none) else none) else (Ku x0 x1 x2 x3 x4))
def Kw (x0 x1:List (List Int)) (x2 x3:Int):Option Bool:=(if (decide (x3<x2))=true then (if 0≤x3 then (if x3<(x1.length:Int) then (HJ x0 (x1.getD x3.toNat ([]:List Int)) x1 x2 x3 (x1.getD x3.toNat ([]:List Int)) ((x1.getD x3.toNat ([]:List Int)).length:Int) 0) else none) else none) else ((Ae (x0.length:Int) 1 9).bind fun y4=>(some y4)))
def WN (x0:List (List Int)):Option Bool:=(HK x0 x0 (x0.length:Int) 0)
theorem aG:nG Qa Ku:=jS (by kernel_rfl)
theorem Qb:oe Kv HJ:=lS (by kernel_rfl)
theorem Qc:eQ Kw HK:=lS (by kernel_rfl)
theorem il:RM WN Dh:=cT Bk rfl ⟨rfl,rfl⟩ (by kernel_rfl)
def Yl:=cG On (AE Cf) (AE Cf) kx
def Ym:=kE 0 [(3,0)] [3] 1 Yl kx
def XT:St→Option (RT (BQ.outs Cf)):=lG Om [(3,0)] [3,6,7,8] 1 (AE Cf) Ym
def Fq (x0:List (List Int)) (x1 x2:Int) (x3:List (List Int)):Option (List (List Int)):=XT ⟨[(3,.row 0),(6,.lst (.slice (.int .i64)) x0),(7,.int .i64 x1),(8,.int .i64 x2)],[.rows 33 (.slice (.int .i64)) x3]⟩
def IP (x0:List (List Int)) (x1 x2:Int) (x3:List (List Int)):Option (List (List Int)):=(if (decide (x2<x1))=true then (if 0≤x2 then (if x2<(x0.length:Int) then ((BX (x0.getD x2.toNat ([]:List Int))).bind fun y1=>(if x3.length+([y1]:List (List Int)).length≤68719476736 then (Fq x0 x1 (i64.wrap (x2+1)) (x3++([y1]:List (List Int)))) else none)) else none) else none) else (some x3))
def SC (x0:List (List Int)):Option (List (List Int)):=(Fq x0 (x0.length:Int) 0 ([]:List (List Int)))
theorem Nx:eQ IP Fq:=lS (by kernel_rfl)
theorem cZ:RM SC Hy:=cT Cf rfl ⟨rfl,rfl⟩ (by kernel_rfl)
def Ny (x0:Int) (x1:List (List Int)) (x2:Bool) (x3:O):Option (O×Bool):=cG Oo (AE ET) (AE ET) kx ⟨[(0,.int .i64 x0),(1,.lst (.slice (.int .i64)) x1),(4,.ptr 0 0),(14,.bool x2)],[.var (U.enc x3)]⟩
def Nz (x0:Int) (x1:List (List Int)) (x2:Bool) (x3:O):Option (O×Bool):=(if 0≤(0:Int) then (if 0<(x1.length:Int) then (if 0≤(0:Int) then (if 0<((x1.getD (0:Int).toNat ([]:List Int)).length:Int) then (if 0≤(0:Int) then (if 0<(x1.length:Int) then ((CK (x1.getD (0:Int).toNat ([]:List Int)) x0).bind fun y3=>(some ((x0,1,false,y3,(((x1.getD (0:Int).toNat ([]:List Int)).getD (0:Int).toNat 0)==x0),(((x1.getD (0:Int).toNat ([]:List Int)).getD (0:Int).toNat 0)==x0),([]:List Int),([]:List X),0,0,0,0,(ByteArray.empty,ByteArray.empty,0),([]:List Int)),true))) else none) else none) else none) else none) else none) else none)
def SD (x0:Int) (x1:List (List Int)):Option (O×Bool):=((EO x0).bind fun y1=>(if (!y1)=false then ((Dh x1).bind fun y2=>(if (!y2)=true then (some ((0,0,false,false,false,false,([]:List Int),([]:List X),0,0,0,0,(ByteArray.empty,ByteArray.empty,0),([]:List Int)),false)) else (Ny x0 x1 (!y2) (0,0,false,false,false,false,([]:List Int),([]:List X),0,0,0,0,(ByteArray.empty,ByteArray.empty,0),([]:List Int))))) else (some ((0,0,false,false,false,false,([]:List Int),([]:List X),0,0,0,0,(ByteArray.empty,ByteArray.empty,0),([]:List Int)),false))))
theorem XU:eQ Nz Ny:=jS (by kernel_rfl)
theorem ca:RN SD MC:=cT ET rfl ⟨rfl,rfl⟩ (by kernel_rfl)
def Iz (x0:Int) (x1:ByteArray) (x2:Bool):Option Bool:=cG Vo (AE Hs) (AE Hs) kx ⟨[(0,.int .i64 x0),(3,.str x1),(26,.bool x2)],[]⟩
def NT (x0:Int) (x1:ByteArray) (x2:Bool):Option Bool:=(if (x0==1)=false then (some (x1.toList==(⟨#[]⟩:ByteArray).toList)) else (some true))
def TO (x0 x1:Int) (x2 x3:ByteArray):Option Bool:=((Ae x0 1 2).bind fun y1=>(if (!y1)=false then ((Ae x1 0 1000).bind fun y2=>(if (!y2)=false then ((OM x2).bind fun y3=>(if (!y3)=false then (if (decide ((x3.size:Int)>20))=true then (some false) else (Iz x0 x3 (decide ((x3.size:Int)>20)))) else (some false))) else (some false))) else (some false)))
theorem US:Q8 NT Iz:=jS (by kernel_rfl)
theorem aH:eQ TO KY:=cT Hs rfl ⟨rfl,rfl⟩ (by kernel_rfl)
def PP (x1:AM) (x2:Int) (b0:AA):Option (Bool×AA):=(if b0.2.2.2.length+([(x1.2.2.2.1,x1.2.2.2.2.1,x1.2.2.2.2.2,x2,(-1:Int),0,0,0,ByteArray.empty)]:List AL).length≤68719476736 then ((Bf x1.2.1 (b0.1,b0.2.1,b0.2.2.1,(b0.2.2.2++([(x1.2.2.2.1,x1.2.2.2.2.1,x1.2.2.2.2.2,x2,(-1:Int),0,0,0,ByteArray.empty)]:List AL)))).bind fun y1=>(if 0≤y1.1 then (if y1.1<(y1.2.2.1.length:Int) then ((ON (y1.2.2.1.getD y1.1.toNat (0,0,false,false,false,false,([]:List Int),([]:List X),0,0,0,0,(ByteArray.empty,ByteArray.empty,0),([]:List Int))) y1.2.1 x1.2.2.2.1 (b0.2.2.2.length:Int) x1.2.2.2.2.1 x1.2.2.2.2.2).bind fun y2=>(if (!y2.2.2.2)=true then (some (false,y1.2)) else (if 0≤y1.1 then (if y1.1<(y1.2.2.1.length:Int) then (let z3:List O:=y1.2.2.1.set y1.1.toNat y2.1; ((FQ y2.2.1 y2.2.2.1 x2 (y1.2.1,z3,y1.2.2.2)).bind fun y4=>(some (true,y4)))) else none) else none))) else none) else none)) else none)
theorem Yn:Q8 PP I_:=cT GT rfl ⟨rfl,rfl⟩ (by kernel_rfl)
def WO:=cG LZ (AE CB) (AE CB) kx
def WP:=kE 0 [] [] 5 WO kx
def U2:St→Option (RT (BQ.outs CB)):=lG Mo [] [0,2,4,7,8] 5 (AE CB) WP
def DF (x0 x1 x2:Int) (x3:List (List Int)) (x4:List O) (x5:List Y) (x6:List AL) (x7:AM):Option (Bool×AA):=U2 ⟨[(0,.ptr 0 0),(2,.int .i64 x0),(4,.ptr 4 0),(7,.int .i64 x1),(8,.int .i64 x2)],[.var [.lst (.slice (.int .i64)) x3,.row 1,.row 2,.row 3],.rows 42 U x4,.rows 97 AC x5,.rows 47 Av x6,.var (AR.enc x7)]⟩
def Eu (x0 x1 x2:Int) (x3:List (List Int)) (x4:List O) (x5:List Y) (x6:List AL) (x7:AM):Option (Bool×AA):=(if (decide (x2≤(x3.length:Int)))=true then (if 0≤(i64.wrap (x2-1)) then (if (i64.wrap (x2-1))<(x3.length:Int) then (if 0≤(0:Int) then (if 0<((x3.getD (i64.wrap (x2-1)).toNat ([]:List Int)).length:Int) then (if (((x3.getD (i64.wrap (x2-1)).toNat ([]:List Int)).getD (0:Int).toNat 0) != x7.2.1)=true then (DF x0 x1 (i64.wrap (x2+1)) x3 x4 x5 x6 x7) else (if 0≤x1 then (if x1<(x4.length:Int) then ((OO (x4.getD x1.toNat (0,0,false,false,false,false,([]:List Int),([]:List X),0,0,0,0,(ByteArray.empty,ByteArray.empty,0),([]:List Int))) x3 x2).bind fun y2=>(if y2.2.2=true then (if 0≤x1 then (if x1<(x4.length:Int) then (let z3:List O:=x4.set x1.toNat y2.1; ((FQ y2.2.1 ([]) x0 (x3,z3,x5,x6)).bind fun y4=>(some (y2.2.2,y4)))) else none) else none) else (some (y2.2.2,(x3,x4,x5,x6))))) else none) else none)) else none) else none) else none) else none) else (some (false,(x3,x4,x5,x6))))
def PQ (x1:AM) (x2:Int) (b0:AA):Option (Bool×AA):=((Bf x1.2.1 b0).bind fun y1=>(if 0≤y1.1 then (if y1.1<(y1.2.2.1.length:Int) then (DF x2 y1.1 (i64.wrap ((((y1.2.2.1.getD y1.1.toNat (0,0,false,false,false,false,([]:List Int),([]:List X),0,0,0,0,(ByteArray.empty,ByteArray.empty,0),([]:List Int))).2).1)+1)) y1.2.1 y1.2.2.1 y1.2.2.2.1 y1.2.2.2.2 x1) else none) else none))
theorem G3:oe Eu DF:=lS (by kernel_rfl)
theorem Yo:Q8 PQ JA:=cT CB rfl ⟨rfl,rfl⟩ (by kernel_rfl)
def N0 (x1:Int) (b0:AA):Option (Int×AA):=((Bx b0.2.1 x1).bind fun y1=>(some (y1,b0)))
theorem XV:RN N0 Bf:=cT Fo rfl ⟨rfl,rfl⟩ (by kernel_rfl)
def mY (x0:O):Option O:=(some (x0.1,x0.2.1,true,false,false,false,([]:List Int),([]:List X),0,0,0,0,(ByteArray.empty,ByteArray.empty,0),([]:List Int)))
theorem mZ:RM mY QQ:=cT P_ rfl ⟨rfl,rfl⟩ (by kernel_rfl)
def Mz (x1:AM) (x2:Int) (b0:AA):Option (Bool×AA):=(if ((b0.2.2.1.length:Int)==0)=true then (some (false,b0)) else (if (b0.2.2.1.length:Int)=0 then none else (if (x1.1==2)=true then ((Ha (Int.tmod x1.2.2.1 (b0.2.2.1.length:Int)) x2 b0).bind fun y1=>(some (true,y1))) else (if (x1.1==3)=true then ((BP b0.2.2.1 (Int.tmod x1.2.2.1 (b0.2.2.1.length:Int)) (i64.wrap ((Int.tmod x1.2.2.1 (b0.2.2.1.length:Int))+1))).bind fun y2=>(some (true,(b0.1,b0.2.1,y2,b0.2.2.2)))) else (if (x1.1==4)=true then (if 0≤(Int.tmod x1.2.2.1 (b0.2.2.1.length:Int)) then (if (Int.tmod x1.2.2.1 (b0.2.2.1.length:Int))<(b0.2.2.1.length:Int) then ((F7 (b0.2.2.1.getD ((Int.tmod x1.2.2.1 (b0.2.2.1.length:Int)).toNat) (0,0,0,0,0,([]:List X)))).bind fun y3=>(if b0.2.2.1.length+([y3]:List Y).length≤68719476736 then (some (true,(b0.1,b0.2.1,(b0.2.2.1++([y3]:List Y)),b0.2.2.2))) else none)) else none) else none) else (some (true,b0)))))))
theorem WQ:Q8 Mz Hc:=cT FO rfl ⟨rfl,rfl⟩ (by kernel_rfl)
def Qd (x0:O):Option O:=((BX x0.2.2.2.2.2.2.1).bind fun y1=>((Ab x0.2.2.2.2.2.2.2.1).bind fun y2=>((BX x0.2.2.2.2.2.2.2.2.2.2.2.2.2).bind fun y3=>(some (x0.1,x0.2.1,x0.2.2.1,x0.2.2.2.1,x0.2.2.2.2.1,x0.2.2.2.2.2.1,y1,y2,x0.2.2.2.2.2.2.2.2.1,x0.2.2.2.2.2.2.2.2.2.1,x0.2.2.2.2.2.2.2.2.2.2.1,x0.2.2.2.2.2.2.2.2.2.2.2.1,x0.2.2.2.2.2.2.2.2.2.2.2.2.1,y3)))))
theorem aI:RM Qd CS:=cT HA rfl ⟨rfl,rfl⟩ (by kernel_rfl)
def WR (x0:Y):Option Y:=((Ab x0.2.2.2.2.2).bind fun y1=>(some (x0.1,x0.2.1,x0.2.2.1,x0.2.2.2.1,x0.2.2.2.2.1,y1)))
theorem im:RM WR F7:=cT KL rfl ⟨rfl,rfl⟩ (by kernel_rfl)
def cc:=cG Rm (AE Dd) (AE Dd) kx
def cd:=kE 0 [] [0] 0 cc kx
def aJ:St→Option (RT (BQ.outs Dd)):=lG Rl [] [0,3] 0 (AE Dd) cd
def HL (x0:List (List Int)) (x1:Int):Option Bool:=aJ ⟨[(0,.lst (.slice (.int .i64)) x0),(3,.int .i64 x1)],[]⟩
def Kx (x0:List (List Int)) (x1:Int):Option Bool:=(if (decide (x1<(x0.length:Int)))=true then (if 0≤x1 then (if x1<(x0.length:Int) then ((O2 (x0.getD x1.toNat ([]:List Int))).bind fun y1=>(if (!y1)=true then (some false) else (HL x0 (i64.wrap (x1+1))))) else none) else none) else ((AP (x0.length:Int) 1 9).bind fun y2=>(some y2)))
def WS (x0:List (List Int)):Option Bool:=(HL x0 0)
theorem Qe:RN Kx HL:=lS (by kernel_rfl)
theorem ip:RM WS Di:=cT Dd rfl ⟨rfl,rfl⟩ (by kernel_rfl)
def U3:=cG Lb (AE B3) (AE B3) kx
def U4:=kE 0 [(3,0)] [3] 1 U3 kx
def TP:St→Option (RT (BQ.outs B3)):=lG La [(3,0)] [0,3,4] 1 (AE B3) U4
def ED (x0:List (List Int)) (x1:Int) (x2:List (List Int)):Option (List (List Int)):=TP ⟨[(0,.lst (.slice (.int .i64)) x0),(3,.row 0),(4,.int .i64 x1)],[.rows 33 (.slice (.int .i64)) x2]⟩
def Gc (x0:List (List Int)) (x1:Int) (x2:List (List Int)):Option (List (List Int)):=(if (decide (x1<(x0.length:Int)))=true then (if 0≤x1 then (if x1<(x0.length:Int) then (if ([]:List Int).length+(x0.getD x1.toNat ([]:List Int)).length≤68719476736 then (if x2.length+([(([]:List Int)++(x0.getD x1.toNat ([]:List Int)))]:List (List Int)).length≤68719476736 then (ED x0 (i64.wrap (x1+1)) (x2++([(([]:List Int)++(x0.getD x1.toNat ([]:List Int)))]:List (List Int)))) else none) else none) else none) else none) else (some x2))
def N1 (x0:List (List Int)):Option (List (List Int)):=(ED x0 0 ([]:List (List Int)))
theorem Ky:Q8 Gc ED:=lS (by kernel_rfl)
theorem XW:RM N1 Fp:=cT B3 rfl ⟨rfl,rfl⟩ (by kernel_rfl)
def N2 (x0:Int) (x1:List (List Int)) (x2:Bool) (x3:O):Option (O×Bool):=cG Oq (AE EU) (AE EU) kx ⟨[(0,.int .i64 x0),(1,.lst (.slice (.int .i64)) x1),(4,.ptr 0 0),(14,.bool x2)],[.var (U.enc x3)]⟩
def N3 (x0:Int) (x1:List (List Int)) (x2:Bool) (x3:O):Option (O×Bool):=(if 0≤(0:Int) then (if 0<(x1.length:Int) then ((DV (x1.getD (0:Int).toNat ([]:List Int)) x0).bind fun y3=>(if 0≤(0:Int) then (if 0<(x1.length:Int) then (if 0≤(0:Int) then (if 0<((x1.getD (0:Int).toNat ([]:List Int)).length:Int) then (some ((x0,1,false,y3,(((x1.getD (0:Int).toNat ([]:List Int)).getD (0:Int).toNat 0)==x0),(((x1.getD (0:Int).toNat ([]:List Int)).getD (0:Int).toNat 0)==x0),([]:List Int),([]:List X),0,0,0,0,(ByteArray.empty,ByteArray.empty,0),([]:List Int)),true)) else none) else none) else none) else none)) else none) else none)
def SE (x0:Int) (x1:List (List Int)):Option (O×Bool):=((Di x1).bind fun y1=>(if (!y1)=false then ((AP x0 1 6).bind fun y2=>(if (!y2)=true then (some ((0,0,false,false,false,false,([]:List Int),([]:List X),0,0,0,0,(ByteArray.empty,ByteArray.empty,0),([]:List Int)),false)) else (N2 x0 x1 (!y2) (0,0,false,false,false,false,([]:List Int),([]:List X),0,0,0,0,(ByteArray.empty,ByteArray.empty,0),([]:List Int))))) else (some ((0,0,false,false,false,false,([]:List Int),([]:List X),0,0,0,0,(ByteArray.empty,ByteArray.empty,0),([]:List Int)),false))))
theorem XX:eQ N3 N2:=jS (by kernel_rfl)
theorem cf:RN SE MD:=cT EU rfl ⟨rfl,rfl⟩ (by kernel_rfl)
def UT (x1:Int) (x2:AM) (b0:AA):Option (Int×AA):=(if ([]:List AL).length+b0.2.2.2.length≤68719476736 then (if (([]:List AL)++b0.2.2.2).length+([(x2.2.2.2.1,x2.2.2.2.2.1,x2.2.2.2.2.2,x1,(-1:Int),0,0,0,ByteArray.empty)]:List AL).length≤68719476736 then (if 0≤(i64.wrap (x2.2.1-1)) then (if (i64.wrap (x2.2.1-1))<(b0.2.1.length:Int) then ((TK (b0.2.1.getD (i64.wrap (x2.2.1-1)).toNat (0,0,false,false,false,false,([]:List Int),([]:List X),0,0,0,0,(ByteArray.empty,ByteArray.empty,0),([]:List Int))) b0.1 x2.2.2.2.1 (i64.wrap ((((([]:List AL)++b0.2.2.2)++([(x2.2.2.2.1,x2.2.2.2.2.1,x2.2.2.2.2.2,x1,(-1:Int),0,0,0,ByteArray.empty)]:List AL)).length:Int)-1)) x2.2.2.2.2.1 x2.2.2.2.2.2).bind fun y1=>(if (!y1.2.2.2)=true then (some (1,(b0.1,b0.2.1,b0.2.2.1,((([]:List AL)++b0.2.2.2)++([(x2.2.2.2.1,x2.2.2.2.2.1,x2.2.2.2.2.2,x1,(-1:Int),0,0,0,ByteArray.empty)]:List AL))))) else ((EV y1.1 y1.2.1 y1.2.2.1 x1 (b0.1,b0.2.1,b0.2.2.1,((([]:List AL)++b0.2.2.2)++([(x2.2.2.2.1,x2.2.2.2.2.1,x2.2.2.2.2.2,x1,(-1:Int),0,0,0,ByteArray.empty)]:List AL)))).bind fun y2=>(some (0,y2))))) else none) else none) else none) else none)
theorem fI:Q8 UT NN:=cT Is rfl ⟨rfl,rfl⟩ (by kernel_rfl)
def aK:=cG Ot (AE C7) (AE C7) kx
def aL:=kE 0 [] [] 2 aK kx
def Yp:St→Option (RT (BQ.outs C7)):=lG QA [] [0,1,2,7,8] 2 (AE C7) aL
def Gd (x0 x1 x2:Int) (x3:AA) (x4:O):Option (Int×AA):=Yp ⟨[(0,.ptr 0 0),(1,.int .i64 x0),(2,.int .i64 x1),(7,.ptr 1 0),(8,.int .i64 x2)],[.var (Aa.enc x3),.var (U.enc x4)]⟩
def Ge (x0 x1 x2:Int) (x3:AA) (x4:O):Option (Int×AA):=(if (decide (x2≤(x3.1.length:Int)))=true then (if 0≤(i64.wrap (x2-1)) then (if (i64.wrap (x2-1))<(x3.1.length:Int) then (if 0≤(0:Int) then (if 0<((x3.1.getD (i64.wrap (x2-1)).toNat ([]:List Int)).length:Int) then (if (((x3.1.getD (i64.wrap (x2-1)).toNat ([]:List Int)).getD (0:Int).toNat 0) != x1)=true then (Gd x0 x1 (i64.wrap (x2+1)) x3 x4) else ((TL x4 x3.1 x2).bind fun y1=>(if (!y1.2.2)=true then (some (1,x3)) else ((EV y1.1 y1.2.1 ([]:List AD) x0 x3).bind fun y2=>(some (0,y2)))))) else none) else none) else none) else none) else (some (1,x3)))
def NU (x1 x2:Int) (b0:AA):Option (Int×AA):=(if 0≤(i64.wrap (x2-1)) then (if (i64.wrap (x2-1))<(b0.2.1.length:Int) then (Gd x1 x2 (i64.wrap ((((b0.2.1.getD (i64.wrap (x2-1)).toNat (0,0,false,false,false,false,([]:List Int),([]:List X),0,0,0,0,(ByteArray.empty,ByteArray.empty,0),([]:List Int))).2).1)+1)) b0 (b0.2.1.getD (i64.wrap (x2-1)).toNat (0,0,false,false,false,false,([]:List Int),([]:List X),0,0,0,0,(ByteArray.empty,ByteArray.empty,0),([]:List Int)))) else none) else none)
theorem JO:nG Ge Gd:=lS (by kernel_rfl)
theorem UU:Q8 NU NO:=cT C7 rfl ⟨rfl,rfl⟩ (by kernel_rfl)
def JP:=kE 0 [] [] 4 (AE CH) kx
def N4:St→Option (RT (BQ.outs CH)):=lG Nl [] [0,3,4,11] 4 (AE CH) JP
def Yq:=kB [] [0,3,4,11] 4 N4
def PR:=cG Nk Yq (AE CH) JP
def Yr:=kB [] [0,3,4,11] 4 PR
def Ys:=kE 1 [] [0,3,4,11] 4 PR JP
def N5 (x0:List AD) (x1 x2:Int) (x3:Bool) (x4:AA) (x5:O) (x6:List O) (x7:List Y) (x8:AD):Option AA:=cG Nj Yr (AE CH) Ys ⟨[(0,.ptr 0 0),(3,.lst Aj x0),(4,.int .i64 x1),(11,.int .i64 x2),(12,.ptr 4 0),(71,.bool x3)],[.var (Aa.enc x4),.var (U.enc x5),.frz U x6,.frz AC x7,.var (Aj.enc x8)]⟩
def CN (x0:List AD) (x1 x2:Int) (x3:AA) (x4:O) (x5:List O) (x6:List Y):Option AA:=N4 ⟨[(0,.ptr 0 0),(3,.lst Aj x0),(4,.int .i64 x1),(11,.int .i64 x2)],[.var (Aa.enc x3),.var (U.enc x4),.frz U x5,.frz AC x6]⟩
def N6 (x0:List AD) (x1 x2:Int) (x3:Bool) (x4:AA) (x5:O) (x6:List O) (x7:List Y) (x8:AD):Option AA:=(if ([]:List AL).length+x4.2.2.2.length≤68719476736 then (if 0≤x8.1 then (if x8.1<((([]:List AL)++x4.2.2.2).length:Int) then (let z2:List AL:=(([]:List AL)++x4.2.2.2).set x8.1.toNat (((([]:List AL)++x4.2.2.2).getD x8.1.toNat (0,ByteArray.empty,ByteArray.empty,0,0,0,0,0,ByteArray.empty)).1,(((([]:List AL)++x4.2.2.2).getD x8.1.toNat (0,ByteArray.empty,ByteArray.empty,0,0,0,0,0,ByteArray.empty)).2).1,((((([]:List AL)++x4.2.2.2).getD x8.1.toNat (0,ByteArray.empty,ByteArray.empty,0,0,0,0,0,ByteArray.empty)).2).2).1,(((((([]:List AL)++x4.2.2.2).getD x8.1.toNat (0,ByteArray.empty,ByteArray.empty,0,0,0,0,0,ByteArray.empty)).2).2).2).1,x1,((((((([]:List AL)++x4.2.2.2).getD x8.1.toNat (0,ByteArray.empty,ByteArray.empty,0,0,0,0,0,ByteArray.empty)).2).2).2).2).2); (let z3:List AL:=z2.set x8.1.toNat ((z2.getD x8.1.toNat (0,ByteArray.empty,ByteArray.empty,0,0,0,0,0,ByteArray.empty)).1,((z2.getD x8.1.toNat (0,ByteArray.empty,ByteArray.empty,0,0,0,0,0,ByteArray.empty)).2).1,(((z2.getD x8.1.toNat (0,ByteArray.empty,ByteArray.empty,0,0,0,0,0,ByteArray.empty)).2).2).1,((((z2.getD x8.1.toNat (0,ByteArray.empty,ByteArray.empty,0,0,0,0,0,ByteArray.empty)).2).2).2).1,(((((z2.getD x8.1.toNat (0,ByteArray.empty,ByteArray.empty,0,0,0,0,0,ByteArray.empty)).2).2).2).2).1,x8.2.2.2.2.2,((((((z2.getD x8.1.toNat (0,ByteArray.empty,ByteArray.empty,0,0,0,0,0,ByteArray.empty)).2).2).2).2).2).2); (let z4:List AL:=z3.set x8.1.toNat ((z3.getD x8.1.toNat (0,ByteArray.empty,ByteArray.empty,0,0,0,0,0,ByteArray.empty)).1,((z3.getD x8.1.toNat (0,ByteArray.empty,ByteArray.empty,0,0,0,0,0,ByteArray.empty)).2).1,(((z3.getD x8.1.toNat (0,ByteArray.empty,ByteArray.empty,0,0,0,0,0,ByteArray.empty)).2).2).1,((((z3.getD x8.1.toNat (0,ByteArray.empty,ByteArray.empty,0,0,0,0,0,ByteArray.empty)).2).2).2).1,(((((z3.getD x8.1.toNat (0,ByteArray.empty,ByteArray.empty,0,0,0,0,0,ByteArray.empty)).2).2).2).2).1,((((((z3.getD x8.1.toNat (0,ByteArray.empty,ByteArray.empty,0,0,0,0,0,ByteArray.empty)).2).2).2).2).2).1,x8.2.1,(((((((z3.getD x8.1.toNat (0,ByteArray.empty,ByteArray.empty,0,0,0,0,0,ByteArray.empty)).2).2).2).2).2).2).2); (let z5:List AL:=z4.set x8.1.toNat ((z4.getD x8.1.toNat (0,ByteArray.empty,ByteArray.empty,0,0,0,0,0,ByteArray.empty)).1,((z4.getD x8.1.toNat (0,ByteArray.empty,ByteArray.empty,0,0,0,0,0,ByteArray.empty)).2).1,(((z4.getD x8.1.toNat (0,ByteArray.empty,ByteArray.empty,0,0,0,0,0,ByteArray.empty)).2).2).1,((((z4.getD x8.1.toNat (0,ByteArray.empty,ByteArray.empty,0,0,0,0,0,ByteArray.empty)).2).2).2).1,(((((z4.getD x8.1.toNat (0,ByteArray.empty,ByteArray.empty,0,0,0,0,0,ByteArray.empty)).2).2).2).2).1,((((((z4.getD x8.1.toNat (0,ByteArray.empty,ByteArray.empty,0,0,0,0,0,ByteArray.empty)).2).2).2).2).2).1,(((((((z4.getD x8.1.toNat (0,ByteArray.empty,ByteArray.empty,0,0,0,0,0,ByteArray.empty)).2).2).2).2).2).2).1,x8.2.2.1,((((((((z4.getD x8.1.toNat (0,ByteArray.empty,ByteArray.empty,0,0,0,0,0,ByteArray.empty)).2).2).2).2).2).2).2).2); (if (((z5.getD x8.1.toNat (0,ByteArray.empty,ByteArray.empty,0,0,0,0,0,ByteArray.empty)).1)==2)=true then (let z6:List AL:=z5.set x8.1.toNat ((z5.getD x8.1.toNat (0,ByteArray.empty,ByteArray.empty,0,0,0,0,0,ByteArray.empty)).1,((z5.getD x8.1.toNat (0,ByteArray.empty,ByteArray.empty,0,0,0,0,0,ByteArray.empty)).2).1,(((z5.getD x8.1.toNat (0,ByteArray.empty,ByteArray.empty,0,0,0,0,0,ByteArray.empty)).2).2).1,((((z5.getD x8.1.toNat (0,ByteArray.empty,ByteArray.empty,0,0,0,0,0,ByteArray.empty)).2).2).2).1,(((((z5.getD x8.1.toNat (0,ByteArray.empty,ByteArray.empty,0,0,0,0,0,ByteArray.empty)).2).2).2).2).1,((((((z5.getD x8.1.toNat (0,ByteArray.empty,ByteArray.empty,0,0,0,0,0,ByteArray.empty)).2).2).2).2).2).1,(((((((z5.getD x8.1.toNat (0,ByteArray.empty,ByteArray.empty,0,0,0,0,0,ByteArray.empty)).2).2).2).2).2).2).1,((((((((z5.getD x8.1.toNat (0,ByteArray.empty,ByteArray.empty,0,0,0,0,0,ByteArray.empty)).2).2).2).2).2).2).2).1,x8.2.2.2.2.1); (CN x0 x1 (i64.wrap (x2+1)) (x4.1,x4.2.1,x4.2.2.1,z6) x5 x6 x7)) else (CN x0 x1 (i64.wrap (x2+1)) (x4.1,x4.2.1,x4.2.2.1,z5) x5 x6 x7)))))) else none) else none) else none)
def IQ (x0:List AD) (x1 x2:Int) (x3:AA) (x4:O) (x5:List O) (x6:List Y):Option AA:=(if (decide (x2<(x0.length:Int)))=true then (if 0≤x2 then (if x2<(x0.length:Int) then (if (decide (((x0.getD x2.toNat (0,0,0,ByteArray.empty,ByteArray.empty,0)).1)≥(x3.2.2.2.length:Int)))=true then (CN x0 x1 (i64.wrap (x2+1)) x3 x4 x5 x6) else (if 0≤((x0.getD x2.toNat (0,0,0,ByteArray.empty,ByteArray.empty,0)).1) then (if ((x0.getD x2.toNat (0,0,0,ByteArray.empty,ByteArray.empty,0)).1)<(x3.2.2.2.length:Int) then (if (decide (((((((x3.2.2.2.getD ((x0.getD x2.toNat (0,0,0,ByteArray.empty,ByteArray.empty,0)).1).toNat (0,ByteArray.empty,ByteArray.empty,0,0,0,0,0,ByteArray.empty)).2).2).2).2).1)≥0))=true then (CN x0 x1 (i64.wrap (x2+1)) x3 x4 x5 x6) else (N5 x0 x1 x2 (decide (((((((x3.2.2.2.getD ((x0.getD x2.toNat (0,0,0,ByteArray.empty,ByteArray.empty,0)).1).toNat (0,ByteArray.empty,ByteArray.empty,0,0,0,0,0,ByteArray.empty)).2).2).2).2).1)≥0)) x3 x4 x5 x6 (x0.getD x2.toNat (0,0,0,ByteArray.empty,ByteArray.empty,0)))) else none) else none)) else none) else none) else (some x3))
def SF (x1:O) (x2:List Y) (x3:List AD) (x4:Int) (b0:AA):Option AA:=(if ([]:List O).length+b0.2.1.length≤68719476736 then (if 0≤(i64.wrap (x1.1-1)) then (if (i64.wrap (x1.1-1))<((([]:List O)++b0.2.1).length:Int) then (let z1:List O:=(([]:List O)++b0.2.1).set ((i64.wrap (x1.1-1)).toNat) x1; (if ([]:List Y).length+b0.2.2.1.length≤68719476736 then (if (([]:List Y)++b0.2.2.1).length+x2.length≤68719476736 then (CN x3 x4 0 (b0.1,z1,((([]:List Y)++b0.2.2.1)++x2),b0.2.2.2) x1 z1 ((([]:List Y)++b0.2.2.1)++x2)) else none) else none)) else none) else none) else none)
theorem XY:sb N6 N5:=jS (by kernel_rfl)
theorem N7:qT IQ CN:=lS (by kernel_rfl)
theorem cg:nG SF EV:=cT CH rfl ⟨rfl,rfl⟩ (by kernel_rfl)
def ma (x0:O):Option O:=(some (x0.1,x0.2.1,true,false,false,false,([]:List Int),([]:List X),0,0,0,0,(ByteArray.empty,ByteArray.empty,0),([]:List Int)))
theorem mb:RM ma V7:=cT QB rfl ⟨rfl,rfl⟩ (by kernel_rfl)
def RC (x1:Int) (x2:AM) (b0:AA):Option (Int×AA):=(if ((b0.2.2.1.length:Int)==0)=true then (some (1,b0)) else (if (b0.2.2.1.length:Int)=0 then none else (if 0≤(Int.tmod x2.2.2.1 (b0.2.2.1.length:Int)) then (if (Int.tmod x2.2.2.1 (b0.2.2.1.length:Int))<(b0.2.2.1.length:Int) then (if (x2.1==4)=true then (if ([]:List Y).length+b0.2.2.1.length≤68719476736 then (if (([]:List Y)++b0.2.2.1).length+([b0.2.2.1.getD (Int.tmod x2.2.2.1 (b0.2.2.1.length:Int)).toNat (0,0,0,0,0,([]:List X))]:List Y).length≤68719476736 then (some (0,(b0.1,b0.2.1,((([]:List Y)++b0.2.2.1)++([b0.2.2.1.getD (Int.tmod x2.2.2.1 (b0.2.2.1.length:Int)).toNat (0,0,0,0,0,([]:List X))]:List Y)),b0.2.2.2))) else none) else none) else (if 0≤(0:Int) then (if 0≤(Int.tmod x2.2.2.1 (b0.2.2.1.length:Int)) then (if (Int.tmod x2.2.2.1 (b0.2.2.1.length:Int))≤(b0.2.2.1.length:Int) then (if 0≤(i64.wrap ((Int.tmod x2.2.2.1 (b0.2.2.1.length:Int))+1)) then (if (i64.wrap ((Int.tmod x2.2.2.1 (b0.2.2.1.length:Int))+1))≤(b0.2.2.1.length:Int) then (if (b0.2.2.1.length:Int)≤(b0.2.2.1.length:Int) then (if ([]:List Y).length+((b0.2.2.1.take (Int.tmod x2.2.2.1 (b0.2.2.1.length:Int)).toNat).drop (0:Int).toNat).length≤68719476736 then (if (([]:List Y)++((b0.2.2.1.take (Int.tmod x2.2.2.1 (b0.2.2.1.length:Int)).toNat).drop (0:Int).toNat)).length+((b0.2.2.1.take (b0.2.2.1.length:Int).toNat).drop (i64.wrap ((Int.tmod x2.2.2.1 (b0.2.2.1.length:Int))+1)).toNat).length≤68719476736 then (if (x2.1==3)=true then (some (0,(b0.1,b0.2.1,((([]:List Y)++((b0.2.2.1.take (Int.tmod x2.2.2.1 (b0.2.2.1.length:Int)).toNat).drop (0:Int).toNat))++((b0.2.2.1.take (b0.2.2.1.length:Int).toNat).drop (i64.wrap ((Int.tmod x2.2.2.1 (b0.2.2.1.length:Int))+1)).toNat)),b0.2.2.2))) else (if 0≤(i64.wrap (((((b0.2.2.1.getD (Int.tmod x2.2.2.1 (b0.2.2.1.length:Int)).toNat (0,0,0,0,0,([]:List X))).2).2).1)-1)) then (if (i64.wrap (((((b0.2.2.1.getD (Int.tmod x2.2.2.1 (b0.2.2.1.length:Int)).toNat (0,0,0,0,0,([]:List X))).2).2).1)-1))<(b0.2.1.length:Int) then ((O3 (b0.2.1.getD (i64.wrap (((((b0.2.2.1.getD (Int.tmod x2.2.2.1 (b0.2.2.1.length:Int)).toNat (0,0,0,0,0,([]:List X))).2).2).1)-1)).toNat (0,0,false,false,false,false,([]:List Int),([]:List X),0,0,0,0,(ByteArray.empty,ByteArray.empty,0),([]:List Int))) b0.1 (b0.2.2.1.getD (Int.tmod x2.2.2.1 (b0.2.2.1.length:Int)).toNat (0,0,0,0,0,([]:List X)))).bind fun y1=>((EV y1.1 y1.2.1 y1.2.2 x1 (b0.1,b0.2.1,((([]:List Y)++((b0.2.2.1.take (Int.tmod x2.2.2.1 (b0.2.2.1.length:Int)).toNat).drop (0:Int).toNat))++((b0.2.2.1.take (b0.2.2.1.length:Int).toNat).drop (i64.wrap ((Int.tmod x2.2.2.1 (b0.2.2.1.length:Int))+1)).toNat)),b0.2.2.2)).bind fun y2=>(some (0,y2)))) else none) else none)) else none) else none) else none) else none) else none) else none) else none) else none)) else none) else none)))
theorem Xv:Q8 RC RA:=cT Ma rfl ⟨rfl,rfl⟩ (by kernel_rfl)
def WT:=cG Mq (AE CC) (AE CC) kx
def WU:=kE 0 [(3,0)] [3] 1 WT kx
def U5:St→Option (RT (BQ.outs CC)):=lG Mp [(3,0)] [0,3,4] 1 (AE CC) WU
def DG (x0:List Y) (x1:Int) (x2:List Y):Option (List Y):=U5 ⟨[(0,.lst AC x0),(3,.row 0),(4,.int .i64 x1)],[.rows 97 AC x2]⟩
def G4 (x0:List Y) (x1:Int) (x2:List Y):Option (List Y):=(if (decide (x1<(x0.length:Int)))=true then (if 0≤x1 then (if x1<(x0.length:Int) then (if ([]:List X).length+((((((x0.getD x1.toNat (0,0,0,0,0,([]:List X))).2).2).2).2).2).length≤68719476736 then (if x2.length+([((x0.getD x1.toNat (0,0,0,0,0,([]:List X))).1,((x0.getD x1.toNat (0,0,0,0,0,([]:List X))).2).1,(((x0.getD x1.toNat (0,0,0,0,0,([]:List X))).2).2).1,((((x0.getD x1.toNat (0,0,0,0,0,([]:List X))).2).2).2).1,(((((x0.getD x1.toNat (0,0,0,0,0,([]:List X))).2).2).2).2).1,(([]:List X)++((((((x0.getD x1.toNat (0,0,0,0,0,([]:List X))).2).2).2).2).2)))]:List Y).length≤68719476736 then (DG x0 (i64.wrap (x1+1)) (x2++([((x0.getD x1.toNat (0,0,0,0,0,([]:List X))).1,((x0.getD x1.toNat (0,0,0,0,0,([]:List X))).2).1,(((x0.getD x1.toNat (0,0,0,0,0,([]:List X))).2).2).1,((((x0.getD x1.toNat (0,0,0,0,0,([]:List X))).2).2).2).1,(((((x0.getD x1.toNat (0,0,0,0,0,([]:List X))).2).2).2).2).1,(([]:List X)++((((((x0.getD x1.toNat (0,0,0,0,0,([]:List X))).2).2).2).2).2)))]:List Y))) else none) else none) else none) else none) else (some x2))
def PS (x0:List Y):Option (List Y):=(DG x0 0 ([]:List Y))
theorem Ll:Q8 G4 DG:=lS (by kernel_rfl)
theorem Yt:RM PS JB:=cT CC rfl ⟨rfl,rfl⟩ (by kernel_rfl)
def WV (x0:O):Option O:=(if ([]:List Int).length+x0.2.2.2.2.2.2.1.length≤68719476736 then (if ([]:List X).length+x0.2.2.2.2.2.2.2.1.length≤68719476736 then (if ([]:List Int).length+x0.2.2.2.2.2.2.2.2.2.2.2.2.2.length≤68719476736 then (some (x0.1,x0.2.1,x0.2.2.1,x0.2.2.2.1,x0.2.2.2.2.1,x0.2.2.2.2.2.1,(([]:List Int)++x0.2.2.2.2.2.2.1),(([]:List X)++x0.2.2.2.2.2.2.2.1),x0.2.2.2.2.2.2.2.2.1,x0.2.2.2.2.2.2.2.2.2.1,x0.2.2.2.2.2.2.2.2.2.2.1,x0.2.2.2.2.2.2.2.2.2.2.2.1,x0.2.2.2.2.2.2.2.2.2.2.2.2.1,(([]:List Int)++x0.2.2.2.2.2.2.2.2.2.2.2.2.2))) else none) else none) else none)
theorem iq:RM WV Cs:=cT KM rfl ⟨rfl,rfl⟩ (by kernel_rfl)
def aM (x0:ByteArray):Option Bool:=((Ae (x0.size:Int) 1 12).bind fun y1=>(some y1))
theorem lN:RM aM OM:=cT OI rfl ⟨rfl,rfl⟩ (by kernel_rfl)
def Qf (x0:List (List Int)) (x1:Bool) (x2:O) (x3:Y) (x4 x5:O):Option (O×List Y×List AD):=cG Rn (AE Fz) (AE Fz) kx ⟨[(1,.lst (.slice (.int .i64)) x0),(5,.ptr 1 0),(6,.ptr 2 0),(9,.ptr 3 0),(47,.bool x1)],[.var (U.enc x2),.var (AC.enc x3),.var (U.enc x4),.var (U.enc x5)]⟩
def Qg (x0:List (List Int)) (x1:Bool) (x2:O) (x3:Y) (x4 x5:O):Option (O×List Y×List AD):=((JC x0 x3 x5).bind fun y5=>((CS y5.2.2).bind fun y6=>(some (y6,y5.1,y5.2.1))))
def WW (x0:O) (x1:List (List Int)) (x2:Y):Option (O×List Y×List AD):=((CS x0).bind fun y1=>(if (x2.2.2.1 != x0.1)=false then (if (decide (x2.2.2.2.1<x0.2.1))=false then (if (decide (x2.2.2.2.1>(x1.length:Int)))=false then ((C8 x0).bind fun y2=>(if (!y2)=false then ((Dh x1).bind fun y3=>(if (!y3)=false then ((TM x2).bind fun y4=>(if (!y4)=true then (some (y1,[],[])) else (Qf x1 (!y4) x0 x2 (0,0,false,false,false,false,([]:List Int),([]:List X),0,0,0,0,(ByteArray.empty,ByteArray.empty,0),([]:List Int)) y1))) else (some (y1,[],[])))) else (some (y1,[],[])))) else (some (y1,[],[]))) else (some (y1,[],[]))) else (some (y1,[],[]))))
theorem aN:nq Qg Qf:=jS (by kernel_rfl)
theorem ir:Q8 WW KZ:=cT Fz rfl ⟨rfl,rfl⟩ (by kernel_rfl)
end
end Go.Proofs.YtokiohnjegbnpaaGreat.Core

namespace Go.Proofs.YtokiohnjegbnpaaGreat.Core
open Go IntKind
set_option linter.unusedVariables false
set_option maxRecDepth 100000
noncomputable section
def IR:=kE 0 [] [] 4 (AE B7) kx
def M0:St→Option (RT (BQ.outs B7)):=lG No [] [0,3,20,21,22] 4 (AE B7) IR
def XZ:=kB [] [0,3,20,21,22] 4 M0
def N8:=cG Nn XZ (AE B7) IR
def Xa:=kB [] [0,3,20,21,22] 4 N8
def Xb:=kE 1 [] [0,3,20,21,22] 4 N8 IR
def M1 (x0:Int) (x1:List AD) (x2 x3:Int) (x4:Bool) (x5:List (List Int)) (x6:List O) (x7:List Y) (x8:List AL) (x9:AD):Option AA:=cG Nm Xa (AE B7) Xb ⟨[(0,.ptr 0 0),(3,.int .i64 x0),(9,.ptr 4 0),(20,.lst Aj x1),(21,.int .i64 x2),(22,.int .i64 x3),(47,.bool x4)],[.var [.lst (.slice (.int .i64)) x5,.row 1,.row 2,.row 3],.rows 42 U x6,.rows 97 AC x7,.rows 47 Av x8,.var (Aj.enc x9)]⟩
def CD (x0:Int) (x1:List AD) (x2 x3:Int) (x4:List (List Int)) (x5:List O) (x6:List Y) (x7:List AL):Option AA:=M0 ⟨[(0,.ptr 0 0),(3,.int .i64 x0),(20,.lst Aj x1),(21,.int .i64 x2),(22,.int .i64 x3)],[.var [.lst (.slice (.int .i64)) x4,.row 1,.row 2,.row 3],.rows 42 U x5,.rows 97 AC x6,.rows 47 Av x7]⟩
def M2 (x0:Int) (x1:List AD) (x2 x3:Int) (x4:Bool) (x5:List (List Int)) (x6:List O) (x7:List Y) (x8:List AL) (x9:AD):Option AA:=(if 0≤x9.1 then (if x9.1<(x8.length:Int) then (let z2:List AL:=x8.set x9.1.toNat ((x8.getD x9.1.toNat (0,ByteArray.empty,ByteArray.empty,0,0,0,0,0,ByteArray.empty)).1,((x8.getD x9.1.toNat (0,ByteArray.empty,ByteArray.empty,0,0,0,0,0,ByteArray.empty)).2).1,(((x8.getD x9.1.toNat (0,ByteArray.empty,ByteArray.empty,0,0,0,0,0,ByteArray.empty)).2).2).1,((((x8.getD x9.1.toNat (0,ByteArray.empty,ByteArray.empty,0,0,0,0,0,ByteArray.empty)).2).2).2).1,x0,(((((x8.getD x9.1.toNat (0,ByteArray.empty,ByteArray.empty,0,0,0,0,0,ByteArray.empty)).2).2).2).2).2); (let z3:List AL:=z2.set x9.1.toNat ((z2.getD x9.1.toNat (0,ByteArray.empty,ByteArray.empty,0,0,0,0,0,ByteArray.empty)).1,((z2.getD x9.1.toNat (0,ByteArray.empty,ByteArray.empty,0,0,0,0,0,ByteArray.empty)).2).1,(((z2.getD x9.1.toNat (0,ByteArray.empty,ByteArray.empty,0,0,0,0,0,ByteArray.empty)).2).2).1,((((z2.getD x9.1.toNat (0,ByteArray.empty,ByteArray.empty,0,0,0,0,0,ByteArray.empty)).2).2).2).1,(((((z2.getD x9.1.toNat (0,ByteArray.empty,ByteArray.empty,0,0,0,0,0,ByteArray.empty)).2).2).2).2).1,x9.2.2.2.2.2,((((((z2.getD x9.1.toNat (0,ByteArray.empty,ByteArray.empty,0,0,0,0,0,ByteArray.empty)).2).2).2).2).2).2); (let z4:List AL:=z3.set x9.1.toNat ((z3.getD x9.1.toNat (0,ByteArray.empty,ByteArray.empty,0,0,0,0,0,ByteArray.empty)).1,((z3.getD x9.1.toNat (0,ByteArray.empty,ByteArray.empty,0,0,0,0,0,ByteArray.empty)).2).1,(((z3.getD x9.1.toNat (0,ByteArray.empty,ByteArray.empty,0,0,0,0,0,ByteArray.empty)).2).2).1,((((z3.getD x9.1.toNat (0,ByteArray.empty,ByteArray.empty,0,0,0,0,0,ByteArray.empty)).2).2).2).1,(((((z3.getD x9.1.toNat (0,ByteArray.empty,ByteArray.empty,0,0,0,0,0,ByteArray.empty)).2).2).2).2).1,((((((z3.getD x9.1.toNat (0,ByteArray.empty,ByteArray.empty,0,0,0,0,0,ByteArray.empty)).2).2).2).2).2).1,x9.2.1,(((((((z3.getD x9.1.toNat (0,ByteArray.empty,ByteArray.empty,0,0,0,0,0,ByteArray.empty)).2).2).2).2).2).2).2); (let z5:List AL:=z4.set x9.1.toNat ((z4.getD x9.1.toNat (0,ByteArray.empty,ByteArray.empty,0,0,0,0,0,ByteArray.empty)).1,((z4.getD x9.1.toNat (0,ByteArray.empty,ByteArray.empty,0,0,0,0,0,ByteArray.empty)).2).1,(((z4.getD x9.1.toNat (0,ByteArray.empty,ByteArray.empty,0,0,0,0,0,ByteArray.empty)).2).2).1,((((z4.getD x9.1.toNat (0,ByteArray.empty,ByteArray.empty,0,0,0,0,0,ByteArray.empty)).2).2).2).1,(((((z4.getD x9.1.toNat (0,ByteArray.empty,ByteArray.empty,0,0,0,0,0,ByteArray.empty)).2).2).2).2).1,((((((z4.getD x9.1.toNat (0,ByteArray.empty,ByteArray.empty,0,0,0,0,0,ByteArray.empty)).2).2).2).2).2).1,(((((((z4.getD x9.1.toNat (0,ByteArray.empty,ByteArray.empty,0,0,0,0,0,ByteArray.empty)).2).2).2).2).2).2).1,x9.2.2.1,((((((((z4.getD x9.1.toNat (0,ByteArray.empty,ByteArray.empty,0,0,0,0,0,ByteArray.empty)).2).2).2).2).2).2).2).2); (if (((z5.getD x9.1.toNat (0,ByteArray.empty,ByteArray.empty,0,0,0,0,0,ByteArray.empty)).1)==2)=true then (let z6:List AL:=z5.set x9.1.toNat ((z5.getD x9.1.toNat (0,ByteArray.empty,ByteArray.empty,0,0,0,0,0,ByteArray.empty)).1,((z5.getD x9.1.toNat (0,ByteArray.empty,ByteArray.empty,0,0,0,0,0,ByteArray.empty)).2).1,(((z5.getD x9.1.toNat (0,ByteArray.empty,ByteArray.empty,0,0,0,0,0,ByteArray.empty)).2).2).1,((((z5.getD x9.1.toNat (0,ByteArray.empty,ByteArray.empty,0,0,0,0,0,ByteArray.empty)).2).2).2).1,(((((z5.getD x9.1.toNat (0,ByteArray.empty,ByteArray.empty,0,0,0,0,0,ByteArray.empty)).2).2).2).2).1,((((((z5.getD x9.1.toNat (0,ByteArray.empty,ByteArray.empty,0,0,0,0,0,ByteArray.empty)).2).2).2).2).2).1,(((((((z5.getD x9.1.toNat (0,ByteArray.empty,ByteArray.empty,0,0,0,0,0,ByteArray.empty)).2).2).2).2).2).2).1,((((((((z5.getD x9.1.toNat (0,ByteArray.empty,ByteArray.empty,0,0,0,0,0,ByteArray.empty)).2).2).2).2).2).2).2).1,x9.2.2.2.2.1); (CD x0 x1 x2 (i64.wrap (x3+1)) x5 x6 x7 z6)) else (CD x0 x1 x2 (i64.wrap (x3+1)) x5 x6 x7 z5)))))) else none) else none)
def Hf (x0:Int) (x1:List AD) (x2 x3:Int) (x4:List (List Int)) (x5:List O) (x6:List Y) (x7:List AL):Option AA:=(if (decide (x3<x2))=true then (if 0≤x3 then (if x3<(x1.length:Int) then ((Ae ((x1.getD x3.toNat (0,0,0,ByteArray.empty,ByteArray.empty,0)).1) 0 (i64.wrap ((x7.length:Int)-1))).bind fun y1=>(if (!y1)=true then (CD x0 x1 x2 (i64.wrap (x3+1)) x4 x5 x6 x7) else (if 0≤((x1.getD x3.toNat (0,0,0,ByteArray.empty,ByteArray.empty,0)).1) then (if ((x1.getD x3.toNat (0,0,0,ByteArray.empty,ByteArray.empty,0)).1)<(x7.length:Int) then (if (((((((x7.getD (((x1.getD x3.toNat (0,0,0,ByteArray.empty,ByteArray.empty,0)).1).toNat) (0,ByteArray.empty,ByteArray.empty,0,0,0,0,0,ByteArray.empty)).2).2).2).2).1) != (-1:Int))=true then (CD x0 x1 x2 (i64.wrap (x3+1)) x4 x5 x6 x7) else (M1 x0 x1 x2 x3 (((((((x7.getD (((x1.getD x3.toNat (0,0,0,ByteArray.empty,ByteArray.empty,0)).1).toNat) (0,ByteArray.empty,ByteArray.empty,0,0,0,0,0,ByteArray.empty)).2).2).2).2).1) != (-1:Int)) x4 x5 x6 x7 (x1.getD x3.toNat (0,0,0,ByteArray.empty,ByteArray.empty,0)))) else none) else none))) else none) else none) else (some (x4,x5,x6,x7)))
def Qh (x1:List Y) (x2:List AD) (x3:Int) (b0:AA):Option AA:=(if b0.2.2.1.length+x1.length≤68719476736 then (CD x3 x2 (x2.length:Int) 0 b0.1 b0.2.1 (b0.2.2.1++x1) b0.2.2.2) else none)
theorem WX:og M2 M1:=jS (by kernel_rfl)
theorem M3:oe Hf CD:=lS (by kernel_rfl)
theorem aO:eQ Qh FQ:=cT B7 rfl ⟨rfl,rfl⟩ (by kernel_rfl)
def RD:=cG Ia (AE BV) (AE BV) kx
def RE:=kE 0 [] [] 0 RD kx
def Pb:St→Option (RT (BQ.outs BV)):=lG IZ [] [0,1,7,8] 0 (AE BV) RE
def CL (x0:List Int) (x1 x2 x3:Int):Option Int:=Pb ⟨[(0,.lst (.int .i64) x0),(1,.int .i64 x1),(7,.int .i64 x2),(8,.int .i64 x3)],[]⟩
def BS (x0:List Int) (x1 x2 x3:Int):Option Int:=(if (decide (x3<x2))=true then (if 0≤x3 then (if x3<(x0.length:Int) then (if (x1==(x0.getD x3.toNat 0))=true then (some x3) else (CL x0 x1 x2 (i64.wrap (x3+1)))) else none) else none) else (some (-1:Int)))
def TQ (x0:List Int) (x1:Int):Option Int:=(CL x0 x1 (x0.length:Int) 0)
theorem Bs:eQ BS CL:=lS (by kernel_rfl)
theorem Kz:RN TQ Ct:=cT BV rfl ⟨rfl,rfl⟩ (by kernel_rfl)
def Qi (x1:List Int) (b0:AK):Option (Int×AK):=((CF (x1.length:Int) b0).bind fun y1=>(if 0≤y1.1 then (if y1.1<(x1.length:Int) then (some ((x1.getD y1.1.toNat 0),y1.2)) else none) else none))
theorem aP:RN Qi HD:=cT HB rfl ⟨rfl,rfl⟩ (by kernel_rfl)
def WY (x1:Int) (b0:AK):Option (Bool×AK):=((CF x1 b0).bind fun y1=>(some ((y1.1==0),y1.2)))
theorem iu:RN WY Cu:=cT KN rfl ⟨rfl,rfl⟩ (by kernel_rfl)
def WZ (x1:List ByteArray) (b0:AK):Option (ByteArray×AK):=((CF (x1.length:Int) b0).bind fun y1=>(if 0≤y1.1 then (if y1.1<(x1.length:Int) then (some ((x1.getD y1.1.toNat ByteArray.empty),y1.2)) else none) else none))
theorem iv:RN WZ Ka:=cT KO rfl ⟨rfl,rfl⟩ (by kernel_rfl)
def I0 (x0:List Int) (x1 x2 x3:O) (x4:X) (x5:List Int) (x6:Y):Option (O×List Y×List AD×Bool):=cG Vr (AE DU) (AE DU) kx ⟨[(12,.ptr 1 0),(16,.ptr 2 0),(18,.lst (.int .i64) x0),(20,.ptr 5 0)],[.var (U.enc x1),.var (U.enc x2),.var (U.enc x3),.var (AB.enc x4),.frz (.int .i64) x5,.var (AC.enc x6)]⟩
def Gl (x0:List (List Int)) (x1 x2:Int) (x3:Bool) (x4 x5 x6:O) (x7:X):Option (O×List Y×List AD×Bool):=cG Tj (AE DU) (AE DU) kx ⟨[(1,.lst (.slice (.int .i64)) x0),(2,.int .i64 x1),(3,.int .i64 x2),(6,.ptr 0 0),(12,.ptr 1 0),(16,.ptr 2 0),(17,.ptr 3 0),(69,.bool x3)],[.var (U.enc x4),.var (U.enc x5),.var (U.enc x6),.var (AB.enc x7)]⟩
def UV (x0:List (List Int)) (x1 x2:Int) (x3 x4:ByteArray) (x5:Bool) (x6 x7:O):Option (O×List Y×List AD×Bool):=cG Tk (AE DU) (AE DU) kx ⟨[(1,.lst (.slice (.int .i64)) x0),(2,.int .i64 x1),(3,.int .i64 x2),(4,.str x3),(5,.str x4),(6,.ptr 0 0),(12,.ptr 1 0),(37,.bool x5)],[.var (U.enc x6),.var (U.enc x7)]⟩
def UW (x0:List Int) (x1 x2 x3:O) (x4:X) (x5:List Int) (x6:Y):Option (O×List Y×List AD×Bool):=(if ((x0.length:Int)==0)=true then ((GY x3).bind fun y9=>(some (y9.2,[],y9.1,true))) else (lr ((Ac x0 x6 x3).bind fun y10=>(some (x3,y10.1,[],true))) ((Ac x0 x6 x3).bind fun y11=>(some (y11.2,y11.1,[],true)))))
def UX (x0:List (List Int)) (x1 x2:Int) (x3:Bool) (x4 x5 x6:O) (x7:X):Option (O×List Y×List AD×Bool):=(if 0≤(i64.wrap (x4.2.1-1)) then (if (i64.wrap (x4.2.1-1))<(x0.length:Int) then ((Bq (x0.getD (i64.wrap (x4.2.1-1)).toNat ([]:List Int)) x6).bind fun y6=>((BX y6.1).bind fun y7=>((CT y7).bind fun y8=>(if (x1==1)=true then (I0 y6.1 x4 x5 (y6.2.1,y6.2.2.1,y6.2.2.2.1,y6.2.2.2.2.1,y6.2.2.2.2.2.1,y6.2.2.2.2.2.2.1,y6.2.2.2.2.2.2.2.1,y6.2.2.2.2.2.2.2.2.1,y6.2.2.2.2.2.2.2.2.2.1,x1,x2,y6.2.2.2.2.2.2.2.2.2.1,x7,y8) x7 y8 (5,0,0,0,y6.2.2.2.2.2.2.2.2.2.1,([x7]:List X))) else (I0 y6.1 x4 x5 (y6.2.1,y6.2.2.1,y6.2.2.2.1,y6.2.2.2.2.1,y6.2.2.2.2.2.1,y6.2.2.2.2.2.2.1,y6.2.2.2.2.2.2.2.1,y6.2.2.2.2.2.2.2.2.1,y6.2.2.2.2.2.2.2.2.2.1,x1,x2,y6.2.2.2.2.2.2.2.2.2.1,x7,y8) x7 y8 (7,0,0,0,y6.2.2.2.2.2.2.2.2.2.1,([]:List X))))))) else none) else none)
def UY (x0:List (List Int)) (x1 x2:Int) (x3 x4:ByteArray) (x5:Bool) (x6 x7:O):Option (O×List Y×List AD×Bool):=((CS x6).bind fun y4=>(if (x1==1)=true then (if ((x6.2.2.2.2.2.2.2.1.length:Int)==12)=true then ((Mb x6.2.2.2.2.2.2.2.1 x3).bind fun y5=>(if (false != VM AB y5 (ByteArray.empty,ByteArray.empty,0))=true then (some ((0,0,false,false,false,false,([]:List Int),([]:List X),0,0,0,0,(ByteArray.empty,ByteArray.empty,0),([]:List Int)),[],[],false)) else (Gl x0 x1 x2 (false != VM AB y5 (ByteArray.empty,ByteArray.empty,0)) x6 x7 (y4.1,y4.2.1,y4.2.2.1,y4.2.2.2.1,y4.2.2.2.2.1,y4.2.2.2.2.2.1,y4.2.2.2.2.2.2.1,y4.2.2.2.2.2.2.2.1,(i64.wrap (y4.2.2.2.2.2.2.2.2.1+1)),y4.2.2.2.2.2.2.2.2.2) (x3,x4,(i64.wrap ((i64.wrap (1000*x6.2.1))+(i64.wrap (y4.2.2.2.2.2.2.2.2.1+1)))))))) else (Gl x0 x1 x2 false x6 x7 (y4.1,y4.2.1,y4.2.2.1,y4.2.2.2.1,y4.2.2.2.2.1,y4.2.2.2.2.2.1,y4.2.2.2.2.2.2.1,y4.2.2.2.2.2.2.2.1,(i64.wrap (y4.2.2.2.2.2.2.2.2.1+1)),y4.2.2.2.2.2.2.2.2.2) (x3,x4,(i64.wrap ((i64.wrap (1000*x6.2.1))+(i64.wrap (y4.2.2.2.2.2.2.2.2.1+1))))))) else (Gl x0 x1 x2 false x6 x7 (y4.1,y4.2.1,y4.2.2.1,y4.2.2.2.1,y4.2.2.2.2.1,y4.2.2.2.2.2.1,y4.2.2.2.2.2.2.1,y4.2.2.2.2.2.2.2.1,(i64.wrap (y4.2.2.2.2.2.2.2.2.1+1)),y4.2.2.2.2.2.2.2.2.2) (x3,x4,(i64.wrap ((i64.wrap (1000*x6.2.1))+(i64.wrap (y4.2.2.2.2.2.2.2.2.1+1))))))))
def aQ (x0:O) (x1:List (List Int)) (x2 x3:Int) (x4 x5:ByteArray):Option (O×List Y×List AD×Bool):=((C8 x0).bind fun y1=>(if (!y1)=false then ((GX x1 x0).bind fun y2=>(if (!y2.1)=false then ((KY x2 x3 x4 x5).bind fun y3=>(if (!y3)=true then (some ((0,0,false,false,false,false,([]:List Int),([]:List X),0,0,0,0,(ByteArray.empty,ByteArray.empty,0),([]:List Int)),[],[],false)) else (UV x1 x2 x3 x4 x5 (!y3) y2.2 (0,0,false,false,false,false,([]:List Int),([]:List X),0,0,0,0,(ByteArray.empty,ByteArray.empty,0),([]:List Int))))) else (some ((0,0,false,false,false,false,([]:List Int),([]:List X),0,0,0,0,(ByteArray.empty,ByteArray.empty,0),([]:List Int)),[],[],false)))) else (some ((0,0,false,false,false,false,([]:List Int),([]:List X),0,0,0,0,(ByteArray.empty,ByteArray.empty,0),([]:List Int)),[],[],false))))
theorem fJ:qT UW I0:=jS (by kernel_rfl)
theorem fK:oe UX Gl:=jS (by kernel_rfl)
theorem fL:oe UY UV:=jS (by kernel_rfl)
theorem lO:nq aQ ON:=cT DU rfl ⟨rfl,rfl⟩ (by kernel_rfl)
def I1 (x0:List (List Int)) (x1:Int) (x2:Bool) (x3 x4 x5:O):Option (O×List Y×Bool):=cG Tp (AE FP) (AE FP) kx ⟨[(1,.lst (.slice (.int .i64)) x0),(2,.int .i64 x1),(6,.ptr 1 0),(9,.ptr 2 0),(10,.bool x2)],[.var (U.enc x3),.var (U.enc x4),.var (U.enc x5)]⟩
def UZ (x0:List (List Int)) (x1:Int) (x2:Bool) (x3 x4:O):Option (O×List Y×Bool):=cG Tq (AE FP) (AE FP) kx ⟨[(1,.lst (.slice (.int .i64)) x0),(2,.int .i64 x1),(3,.ptr 0 0),(6,.ptr 1 0),(44,.bool x2)],[.var (U.enc x3),.var (U.enc x4)]⟩
def Ua (x0:List (List Int)) (x1:Int) (x2:Bool) (x3 x4 x5:O):Option (O×List Y×Bool):=((FR x5).bind fun y5=>(if x2=true then (if 0≤(i64.wrap (x1-1)) then (if (i64.wrap (x1-1))<(x0.length:Int) then ((Cv (x0.getD (i64.wrap (x1-1)).toNat ([]:List Int)) y5.2.2.2.2.2.2.2.1 (y5.1,x1,false,false,true,y5.2.2.2.2.2)).bind fun y6=>(some (y6.2,y6.1,true))) else none) else none) else (if 0≤(i64.wrap (x1-2)) then (if (i64.wrap (x1-2))<(x0.length:Int) then (lr ((Bq (x0.getD (i64.wrap (x1-2)).toNat ([]:List Int)) (y5.1,x1,false,false,true,y5.2.2.2.2.2)).bind fun y7=>((Ac y7.1 (1,0,0,0,0,([]:List X)) y7.2).bind fun y8=>(some ((y5.1,x1,false,false,true,y5.2.2.2.2.2),y8.1,true)))) ((Bq (x0.getD (i64.wrap (x1-2)).toNat ([]:List Int)) (y5.1,x1,false,false,true,y5.2.2.2.2.2)).bind fun y9=>(lr ((Ac y9.1 (1,0,0,0,0,([]:List X)) y9.2).bind fun y10=>(some (y9.2,y10.1,true))) ((Ac y9.1 (1,0,0,0,0,([]:List X)) y9.2).bind fun y11=>(some (y11.2,y11.1,true)))))) else none) else none)))
def Ub (x0:List (List Int)) (x1:Int) (x2:Bool) (x3 x4:O):Option (O×List Y×Bool):=((CS x3).bind fun y4=>(if x3.2.2.2.1=true then (I1 x0 x1 (x3.2.1==(i64.wrap (x1-1))) x3 x4 y4) else (I1 x0 x1 false x3 x4 y4)))
def aR (x0:O) (x1:List (List Int)) (x2:Int):Option (O×List Y×Bool):=((C8 x0).bind fun y1=>(if (!y1)=true then (some ((0,0,false,false,false,false,([]:List Int),([]:List X),0,0,0,0,(ByteArray.empty,ByteArray.empty,0),([]:List Int)),[],false)) else ((Dh x1).bind fun y2=>(if (!y2)=true then (some ((0,0,false,false,false,false,([]:List Int),([]:List X),0,0,0,0,(ByteArray.empty,ByteArray.empty,0),([]:List Int)),[],false)) else ((Ae x2 2 (x1.length:Int)).bind fun y3=>(if (!y3)=true then (some ((0,0,false,false,false,false,([]:List Int),([]:List X),0,0,0,0,(ByteArray.empty,ByteArray.empty,0),([]:List Int)),[],false)) else (if (decide (x2≤x0.2.1))=true then (some ((0,0,false,false,false,false,([]:List Int),([]:List X),0,0,0,0,(ByteArray.empty,ByteArray.empty,0),([]:List Int)),[],false)) else (if 0≤(i64.wrap (x2-1)) then (if (i64.wrap (x2-1))<(x1.length:Int) then (if 0≤(0:Int) then (if 0<((x1.getD (i64.wrap (x2-1)).toNat ([]:List Int)).length:Int) then (if (((x1.getD (i64.wrap (x2-1)).toNat ([]:List Int)).getD (0:Int).toNat 0) != x0.1)=true then (some ((0,0,false,false,false,false,([]:List Int),([]:List X),0,0,0,0,(ByteArray.empty,ByteArray.empty,0),([]:List Int)),[],false)) else (UZ x1 x2 (((x1.getD (i64.wrap (x2-1)).toNat ([]:List Int)).getD (0:Int).toNat 0) != x0.1) x0 (0,0,false,false,false,false,([]:List Int),([]:List X),0,0,0,0,(ByteArray.empty,ByteArray.empty,0),([]:List Int)))) else none) else none) else none) else none))))))))
theorem fM:nq Ua I1:=jS (by kernel_rfl)
theorem fN:nG Ub UZ:=jS (by kernel_rfl)
theorem lP:Q8 aR OO:=cT FP rfl ⟨rfl,rfl⟩ (by kernel_rfl)
def F_:=cG Ch (AE AS) (AE AS) kx
def GA:=kE 0 [] [] 0 F_ kx
def Fm:St→Option (RT (BQ.outs AS)):=lG Cg [] [0,1,7,8] 0 (AE AS) GA
def A_ (x0:List O) (x1 x2 x3:Int):Option Int:=Fm ⟨[(0,.lst U x0),(1,.clo 103 (.int .i64) x1),(7,.int .i64 x2),(8,.int .i64 x3)],[]⟩
def Ba (x0:List O) (x1 x2 x3:Int):Option Int:=(if (decide (x3<x2))=true then (if 0≤x3 then (if x3<(x0.length:Int) then ((Gx (x0.getD x3.toNat (0,0,false,false,false,false,([]:List Int),([]:List X),0,0,0,0,(ByteArray.empty,ByteArray.empty,0),([]:List Int))) x1).bind fun y1=>(if y1=true then (some x3) else (A_ x0 x1 x2 (i64.wrap (x3+1))))) else none) else none) else (some (-1:Int)))
def Cz (x0:List O) (x1:Int):Option Int:=(A_ x0 x1 (x0.length:Int) 0)
theorem Cb:eQ Ba A_:=lS (by kernel_rfl)
theorem Gf:RN Cz Bx:=cT AS rfl ⟨rfl,rfl⟩ (by kernel_rfl)
def Ln (x0:O) (x1:Int):Option Bool:=(some (x0.1==x1))
theorem U6:RN Ln Gx:=cT Er rfl ⟨rfl,rfl⟩ (by kernel_rfl)
def ci:=cG Rp (AE De) (AE De) kx
def cj:=kE 0 [] [] 0 ci kx
def aS:St→Option (RT (BQ.outs De)):=lG Ro [] [0,3] 0 (AE De) cj
def HM (x0:List Int) (x1:Int):Option Bool:=aS ⟨[(0,.lst (.int .i64) x0),(3,.int .i64 x1)],[]⟩
def K3 (x0:List Int) (x1:Int):Option Bool:=(if (decide (x1<(x0.length:Int)))=true then (if 0≤x1 then (if x1<(x0.length:Int) then ((AP (x0.getD x1.toNat 0) 1 6).bind fun y2=>(if (!y2)=true then (some false) else (if 0≤(0:Int) then (if 0≤x1 then (if x1≤(x0.length:Int) then (if 0≤x1 then (if x1<(x0.length:Int) then ((DV ((x0.take x1.toNat).drop (0:Int).toNat) (x0.getD x1.toNat 0)).bind fun y3=>(if y3=true then (some false) else (HM x0 (i64.wrap (x1+1))))) else none) else none) else none) else none) else none))) else none) else none) else (some true))
def Wa (x0:List Int):Option Bool:=((AP (x0.length:Int) 1 4).bind fun y1=>(if (!y1)=true then (some false) else (HM x0 0)))
theorem Qj:RN K3 HM:=lS (by kernel_rfl)
theorem iw:RM Wa O2:=cT De rfl ⟨rfl,rfl⟩ (by kernel_rfl)
def Wb:=cG Rr (AE Be) (AE Be) kx
def ix:=kE 0 [(16,2)] [12,16,17,18] 6 Wb kx
def fO:St→Option (RT (BQ.outs Be)):=lG MA [(16,2)] [2,6,12,16,17,18,19,20,21] 6 (AE Be) ix
def iy:=kE 0 [(16,2)] [12,16,17,18] 5 Wb kx
def fP:St→Option (RT (BQ.outs Be)):=lG MA [(16,2)] [2,6,12,16,17,18,19,20,21] 5 (AE Be) iy
def Du (x0:Int) (x1:List AD) (x2:List Int) (x3:Int) (x4 x5:O) (x6:List Y) (x7:O) (x8:X) (x9:List X):Option (O×List Y×List AD×Bool):=fO ⟨[(2,.int .i64 x0),(6,.ptr 0 0),(12,.ptr 1 0),(16,.row 2),(17,.lst Aj x1),(18,.ptr 3 0),(19,.ptr 4 0),(20,.lst (.int .i64) x2),(21,.int .i64 x3)],[.var (U.enc x4),.var (U.enc x5),.rows 97 AC x6,.var (U.enc x7),.var (AB.enc x8),.rows 38 AB x9]⟩
def NV (x0:List (List Int)) (x1 x2:Int) (x3:List AD) (x4:Bool) (x5 x6:O) (x7:List Y) (x8:O) (x9:X) (x10:List X):Option (O×List Y×List AD×Bool):=cG MB (AE Be) (AE Be) kx ⟨[(1,.lst (.slice (.int .i64)) x0),(2,.int .i64 x1),(3,.int .i64 x2),(6,.ptr 0 0),(12,.ptr 1 0),(16,.row 2),(17,.lst Aj x3),(18,.ptr 3 0),(19,.ptr 4 0),(130,.bool x4)],[.var (U.enc x5),.var (U.enc x6),.rows 97 AC x7,.var (U.enc x8),.var (AB.enc x9),.rows 38 AB x10]⟩
def Dv (x0:Int) (x1:List AD) (x2:List Int) (x3:Int) (x4 x5:O) (x6:List Y) (x7:O) (x8:X):Option (O×List Y×List AD×Bool):=fP ⟨[(2,.int .i64 x0),(6,.ptr 0 0),(12,.ptr 1 0),(16,.row 2),(17,.lst Aj x1),(18,.ptr 3 0),(19,.ptr 4 0),(20,.lst (.int .i64) x2),(21,.int .i64 x3)],[.var (U.enc x4),.var (U.enc x5),.rows 97 AC x6,.var (U.enc x7),.var (AB.enc x8)]⟩
def NW (x0:List (List Int)) (x1 x2:Int) (x3:List AD) (x4:Bool) (x5 x6:O) (x7:List Y) (x8:O) (x9:X):Option (O×List Y×List AD×Bool):=cG MB (AE Be) (AE Be) kx ⟨[(1,.lst (.slice (.int .i64)) x0),(2,.int .i64 x1),(3,.int .i64 x2),(6,.ptr 0 0),(12,.ptr 1 0),(16,.row 2),(17,.lst Aj x3),(18,.ptr 3 0),(19,.ptr 4 0),(130,.bool x4)],[.var (U.enc x5),.var (U.enc x6),.rows 97 AC x7,.var (U.enc x8),.var (AB.enc x9)]⟩
def CY (x0:List (List Int)) (x1 x2:Int) (x3 x4:ByteArray) (x5:List AD) (x6:Bool) (x7 x8:O) (x9:List Y):Option (O×List Y×List AD×Bool):=cG Rs (AE Be) (AE Be) kx ⟨[(1,.lst (.slice (.int .i64)) x0),(2,.int .i64 x1),(3,.int .i64 x2),(4,.str x3),(5,.str x4),(6,.ptr 0 0),(12,.ptr 1 0),(16,.row 2),(17,.lst Aj x5),(100,.bool x6)],[.var (U.enc x7),.var (U.enc x8),.rows 97 AC x9]⟩
def NX (x0:Int) (x1:List AD) (x2:List Int) (x3:Int) (x4 x5:O) (x6:List Y) (x7:O) (x8:X) (x9:List X):Option (O×List Y×List AD×Bool):=(if (decide (x3<(x2.length:Int)))=true then (if 0≤x3 then (if x3<(x2.length:Int) then (if ((x2.getD x3.toNat 0)==x4.1)=true then (Du x0 x1 x2 (i64.wrap (x3+1)) x4 x5 x6 x7 x8 x9) else (if 0≤x3 then (if x3<(x2.length:Int) then (if (x0==1)=true then (if x6.length+([(5,x4.1,(x2.getD x3.toNat 0),x4.2.1,x7.2.2.2.2.2.2.2.2.1,([x8]:List X))]:List Y).length≤68719476736 then (Du x0 x1 x2 (i64.wrap (x3+1)) x4 x5 (x6++([(5,x4.1,(x2.getD x3.toNat 0),x4.2.1,x7.2.2.2.2.2.2.2.2.1,([x8]:List X))]:List Y)) x7 x8 x9) else none) else (if x6.length+([(7,x4.1,(x2.getD x3.toNat 0),x4.2.1,x7.2.2.2.2.2.2.2.2.1,([]:List X))]:List Y).length≤68719476736 then (Du x0 x1 x2 (i64.wrap (x3+1)) x4 x5 (x6++([(7,x4.1,(x2.getD x3.toNat 0),x4.2.1,x7.2.2.2.2.2.2.2.2.1,([]:List X))]:List Y)) x7 x8 x9) else none)) else none) else none)) else none) else none) else (some (x7,x6,x1,true)))
def Uc (x0:List (List Int)) (x1 x2:Int) (x3:List AD) (x4:Bool) (x5 x6:O) (x7:List Y) (x8:O) (x9:X) (x10:List X):Option (O×List Y×List AD×Bool):=(if 0≤(i64.wrap (x5.2.1-1)) then (if (i64.wrap (x5.2.1-1))<(x0.length:Int) then ((F8 (x0.getD (i64.wrap (x5.2.1-1)).toNat ([]:List Int)) x5.1).bind fun y8=>(if ((y8.length:Int)==0)=true then ((F9 (x8.1,x8.2.1,x8.2.2.1,x8.2.2.2.1,x8.2.2.2.2.1,x8.2.2.2.2.2.1,x8.2.2.2.2.2.2.1,x8.2.2.2.2.2.2.2.1,x8.2.2.2.2.2.2.2.2.1,x1,x2,x8.2.2.2.2.2.2.2.2.1,x9,y8)).bind fun y9=>(some (y9.2,x7,y9.1,true))) else (Du x1 x3 (x0.getD (i64.wrap (x5.2.1-1)).toNat ([]:List Int)) 0 x5 x6 x7 (x8.1,x8.2.1,x8.2.2.1,x8.2.2.2.1,x8.2.2.2.2.1,x8.2.2.2.2.2.1,x8.2.2.2.2.2.2.1,x8.2.2.2.2.2.2.2.1,x8.2.2.2.2.2.2.2.2.1,x1,x2,x8.2.2.2.2.2.2.2.2.1,x9,y8) x9 x10))) else none) else none)
def NY (x0:Int) (x1:List AD) (x2:List Int) (x3:Int) (x4 x5:O) (x6:List Y) (x7:O) (x8:X):Option (O×List Y×List AD×Bool):=(if (decide (x3<(x2.length:Int)))=true then (if 0≤x3 then (if x3<(x2.length:Int) then (if ((x2.getD x3.toNat 0)==x4.1)=true then (Dv x0 x1 x2 (i64.wrap (x3+1)) x4 x5 x6 x7 x8) else (if 0≤x3 then (if x3<(x2.length:Int) then (if (x0==1)=true then (if x6.length+([(5,x4.1,(x2.getD x3.toNat 0),x4.2.1,x7.2.2.2.2.2.2.2.2.1,([x8]:List X))]:List Y).length≤68719476736 then (Dv x0 x1 x2 (i64.wrap (x3+1)) x4 x5 (x6++([(5,x4.1,(x2.getD x3.toNat 0),x4.2.1,x7.2.2.2.2.2.2.2.2.1,([x8]:List X))]:List Y)) x7 x8) else none) else (if x6.length+([(7,x4.1,(x2.getD x3.toNat 0),x4.2.1,x7.2.2.2.2.2.2.2.2.1,([]:List X))]:List Y).length≤68719476736 then (Dv x0 x1 x2 (i64.wrap (x3+1)) x4 x5 (x6++([(7,x4.1,(x2.getD x3.toNat 0),x4.2.1,x7.2.2.2.2.2.2.2.2.1,([]:List X))]:List Y)) x7 x8) else none)) else none) else none)) else none) else none) else (some (x7,x6,x1,true)))
def Ud (x0:List (List Int)) (x1 x2:Int) (x3:List AD) (x4:Bool) (x5 x6:O) (x7:List Y) (x8:O) (x9:X):Option (O×List Y×List AD×Bool):=(if 0≤(i64.wrap (x5.2.1-1)) then (if (i64.wrap (x5.2.1-1))<(x0.length:Int) then ((F8 (x0.getD (i64.wrap (x5.2.1-1)).toNat ([]:List Int)) x5.1).bind fun y10=>(if ((y10.length:Int)==0)=true then ((F9 (x8.1,x8.2.1,x8.2.2.1,x8.2.2.2.1,x8.2.2.2.2.1,x8.2.2.2.2.2.1,x8.2.2.2.2.2.2.1,x8.2.2.2.2.2.2.2.1,x8.2.2.2.2.2.2.2.2.1,x1,x2,x8.2.2.2.2.2.2.2.2.1,x9,y10)).bind fun y11=>(some (y11.2,x7,y11.1,true))) else (Dv x1 x3 (x0.getD (i64.wrap (x5.2.1-1)).toNat ([]:List Int)) 0 x5 x6 x7 (x8.1,x8.2.1,x8.2.2.1,x8.2.2.2.1,x8.2.2.2.2.1,x8.2.2.2.2.2.1,x8.2.2.2.2.2.2.1,x8.2.2.2.2.2.2.2.1,x8.2.2.2.2.2.2.2.2.1,x1,x2,x8.2.2.2.2.2.2.2.2.1,x9,y10) x9))) else none) else none)
def Ue (x0:List (List Int)) (x1 x2:Int) (x3 x4:ByteArray) (x5:List AD) (x6:Bool) (x7 x8:O) (x9:List Y):Option (O×List Y×List AD×Bool):=((Cs x7).bind fun y5=>(if (x1==1)=true then ((Hd x7.2.2.2.2.2.2.2.1 (x3,x4,(i64.wrap ((i64.wrap (1000*x7.2.1))+(i64.wrap (x7.2.2.2.2.2.2.2.2.1+1)))))).bind fun y6=>((Mc y6 x3).bind fun y7=>(if (true != VM AB y7 (x3,x4,(i64.wrap ((i64.wrap (1000*x7.2.1))+(i64.wrap (x7.2.2.2.2.2.2.2.2.1+1))))))=true then (some ((0,0,false,false,false,false,([]:List Int),([]:List X),0,0,0,0,(ByteArray.empty,ByteArray.empty,0),([]:List Int)),x9,x5,false)) else (NV x0 x1 x2 x5 (true != VM AB y7 (x3,x4,(i64.wrap ((i64.wrap (1000*x7.2.1))+(i64.wrap (x7.2.2.2.2.2.2.2.2.1+1)))))) x7 x8 x9 (y5.1,y5.2.1,y5.2.2.1,y5.2.2.2.1,y5.2.2.2.2.1,y5.2.2.2.2.2.1,y5.2.2.2.2.2.2.1,y5.2.2.2.2.2.2.2.1,(i64.wrap (x7.2.2.2.2.2.2.2.2.1+1)),y5.2.2.2.2.2.2.2.2.2) (x3,x4,(i64.wrap ((i64.wrap (1000*x7.2.1))+(i64.wrap (x7.2.2.2.2.2.2.2.2.1+1))))) y6)))) else (NW x0 x1 x2 x5 false x7 x8 x9 (y5.1,y5.2.1,y5.2.2.1,y5.2.2.2.1,y5.2.2.2.2.1,y5.2.2.2.2.2.1,y5.2.2.2.2.2.2.1,y5.2.2.2.2.2.2.2.1,(i64.wrap (x7.2.2.2.2.2.2.2.2.1+1)),y5.2.2.2.2.2.2.2.2.2) (x3,x4,(i64.wrap ((i64.wrap (1000*x7.2.1))+(i64.wrap (x7.2.2.2.2.2.2.2.2.1+1))))))))
def aT (x0:O) (x1:List (List Int)) (x2 x3:Int) (x4 x5:ByteArray):Option (O×List Y×List AD×Bool):=((E_ x0).bind fun y1=>(if (!y1)=true then (some ((0,0,false,false,false,false,([]:List Int),([]:List X),0,0,0,0,(ByteArray.empty,ByteArray.empty,0),([]:List Int)),([]:List Y),([]:List AD),false)) else ((Di x1).bind fun y2=>(if (!y2)=true then (some ((0,0,false,false,false,false,([]:List Int),([]:List X),0,0,0,0,(ByteArray.empty,ByteArray.empty,0),([]:List Int)),([]:List Y),([]:List AD),false)) else (if (!x0.2.2.2.2.2.1)=true then (some ((0,0,false,false,false,false,([]:List Int),([]:List X),0,0,0,0,(ByteArray.empty,ByteArray.empty,0),([]:List Int)),([]:List Y),([]:List AD),false)) else (if (x0.2.2.2.2.2.2.2.2.2.1 != 0)=true then (some ((0,0,false,false,false,false,([]:List Int),([]:List X),0,0,0,0,(ByteArray.empty,ByteArray.empty,0),([]:List Int)),([]:List Y),([]:List AD),false)) else (if (decide (x0.2.2.2.2.2.2.2.2.1≥900))=true then (some ((0,0,false,false,false,false,([]:List Int),([]:List X),0,0,0,0,(ByteArray.empty,ByteArray.empty,0),([]:List Int)),([]:List Y),([]:List AD),false)) else (if (x2 != 1)=true then (if (x2 != 2)=true then (some ((0,0,false,false,false,false,([]:List Int),([]:List X),0,0,0,0,(ByteArray.empty,ByteArray.empty,0),([]:List Int)),([]:List Y),([]:List AD),false)) else ((AP x3 0 1000).bind fun y3=>(if (!y3)=true then (some ((0,0,false,false,false,false,([]:List Int),([]:List X),0,0,0,0,(ByteArray.empty,ByteArray.empty,0),([]:List Int)),([]:List Y),([]:List AD),false)) else ((AP (x4.size:Int) 1 12).bind fun y4=>(if (!y4)=true then (some ((0,0,false,false,false,false,([]:List Int),([]:List X),0,0,0,0,(ByteArray.empty,ByteArray.empty,0),([]:List Int)),([]:List Y),([]:List AD),false)) else (if (decide ((x5.size:Int)>20))=true then (some ((0,0,false,false,false,false,([]:List Int),([]:List X),0,0,0,0,(ByteArray.empty,ByteArray.empty,0),([]:List Int)),([]:List Y),([]:List AD),false)) else (if (x2==2)=true then (if (!(x5.toList==(⟨#[]⟩:ByteArray).toList))=true then (some ((0,0,false,false,false,false,([]:List Int),([]:List X),0,0,0,0,(ByteArray.empty,ByteArray.empty,0),([]:List Int)),([]:List Y),([]:List AD),false)) else (if (decide (x0.2.1>(x1.length:Int)))=true then (some ((0,0,false,false,false,false,([]:List Int),([]:List X),0,0,0,0,(ByteArray.empty,ByteArray.empty,0),([]:List Int)),([]:List Y),([]:List AD),false)) else (if 0≤(i64.wrap (x0.2.1-1)) then (if (i64.wrap (x0.2.1-1))<(x1.length:Int) then (if 0≤(0:Int) then (if 0<((x1.getD (i64.wrap (x0.2.1-1)).toNat ([]:List Int)).length:Int) then (if (((x1.getD (i64.wrap (x0.2.1-1)).toNat ([]:List Int)).getD (0:Int).toNat 0) != x0.1)=true then (some ((0,0,false,false,false,false,([]:List Int),([]:List X),0,0,0,0,(ByteArray.empty,ByteArray.empty,0),([]:List Int)),([]:List Y),([]:List AD),false)) else (CY x1 x2 x3 x4 x5 ([]:List AD) (((x1.getD (i64.wrap (x0.2.1-1)).toNat ([]:List Int)).getD (0:Int).toNat 0) != x0.1) x0 (0,0,false,false,false,false,([]:List Int),([]:List X),0,0,0,0,(ByteArray.empty,ByteArray.empty,0),([]:List Int)) ([]:List Y))) else none) else none) else none) else none))) else (if (decide (x0.2.1>(x1.length:Int)))=true then (some ((0,0,false,false,false,false,([]:List Int),([]:List X),0,0,0,0,(ByteArray.empty,ByteArray.empty,0),([]:List Int)),([]:List Y),([]:List AD),false)) else (if 0≤(i64.wrap (x0.2.1-1)) then (if (i64.wrap (x0.2.1-1))<(x1.length:Int) then (if 0≤(0:Int) then (if 0<((x1.getD (i64.wrap (x0.2.1-1)).toNat ([]:List Int)).length:Int) then (if (((x1.getD (i64.wrap (x0.2.1-1)).toNat ([]:List Int)).getD (0:Int).toNat 0) != x0.1)=true then (some ((0,0,false,false,false,false,([]:List Int),([]:List X),0,0,0,0,(ByteArray.empty,ByteArray.empty,0),([]:List Int)),([]:List Y),([]:List AD),false)) else (CY x1 x2 x3 x4 x5 ([]:List AD) (((x1.getD (i64.wrap (x0.2.1-1)).toNat ([]:List Int)).getD (0:Int).toNat 0) != x0.1) x0 (0,0,false,false,false,false,([]:List Int),([]:List X),0,0,0,0,(ByteArray.empty,ByteArray.empty,0),([]:List Int)) ([]:List Y))) else none) else none) else none) else none))))))))) else ((AP x3 0 1000).bind fun y12=>(if (!y12)=true then (some ((0,0,false,false,false,false,([]:List Int),([]:List X),0,0,0,0,(ByteArray.empty,ByteArray.empty,0),([]:List Int)),([]:List Y),([]:List AD),false)) else ((AP (x4.size:Int) 1 12).bind fun y13=>(if (!y13)=true then (some ((0,0,false,false,false,false,([]:List Int),([]:List X),0,0,0,0,(ByteArray.empty,ByteArray.empty,0),([]:List Int)),([]:List Y),([]:List AD),false)) else (if (decide ((x5.size:Int)>20))=true then (some ((0,0,false,false,false,false,([]:List Int),([]:List X),0,0,0,0,(ByteArray.empty,ByteArray.empty,0),([]:List Int)),([]:List Y),([]:List AD),false)) else (if (x2==2)=true then (if (!(x5.toList==(⟨#[]⟩:ByteArray).toList))=true then (some ((0,0,false,false,false,false,([]:List Int),([]:List X),0,0,0,0,(ByteArray.empty,ByteArray.empty,0),([]:List Int)),([]:List Y),([]:List AD),false)) else (if (decide (x0.2.1>(x1.length:Int)))=true then (some ((0,0,false,false,false,false,([]:List Int),([]:List X),0,0,0,0,(ByteArray.empty,ByteArray.empty,0),([]:List Int)),([]:List Y),([]:List AD),false)) else (if 0≤(i64.wrap (x0.2.1-1)) then (if (i64.wrap (x0.2.1-1))<(x1.length:Int) then (if 0≤(0:Int) then (if 0<((x1.getD (i64.wrap (x0.2.1-1)).toNat ([]:List Int)).length:Int) then (if (((x1.getD (i64.wrap (x0.2.1-1)).toNat ([]:List Int)).getD (0:Int).toNat 0) != x0.1)=true then (some ((0,0,false,false,false,false,([]:List Int),([]:List X),0,0,0,0,(ByteArray.empty,ByteArray.empty,0),([]:List Int)),([]:List Y),([]:List AD),false)) else (CY x1 x2 x3 x4 x5 ([]:List AD) (((x1.getD (i64.wrap (x0.2.1-1)).toNat ([]:List Int)).getD (0:Int).toNat 0) != x0.1) x0 (0,0,false,false,false,false,([]:List Int),([]:List X),0,0,0,0,(ByteArray.empty,ByteArray.empty,0),([]:List Int)) ([]:List Y))) else none) else none) else none) else none))) else (if (decide (x0.2.1>(x1.length:Int)))=true then (some ((0,0,false,false,false,false,([]:List Int),([]:List X),0,0,0,0,(ByteArray.empty,ByteArray.empty,0),([]:List Int)),([]:List Y),([]:List AD),false)) else (if 0≤(i64.wrap (x0.2.1-1)) then (if (i64.wrap (x0.2.1-1))<(x1.length:Int) then (if 0≤(0:Int) then (if 0<((x1.getD (i64.wrap (x0.2.1-1)).toNat ([]:List Int)).length:Int) then (if (((x1.getD (i64.wrap (x0.2.1-1)).toNat ([]:List Int)).getD (0:Int).toNat 0) != x0.1)=true then (some ((0,0,false,false,false,false,([]:List Int),([]:List X),0,0,0,0,(ByteArray.empty,ByteArray.empty,0),([]:List Int)),([]:List Y),([]:List AD),false)) else (CY x1 x2 x3 x4 x5 ([]:List AD) (((x1.getD (i64.wrap (x0.2.1-1)).toNat ([]:List Int)).getD (0:Int).toNat 0) != x0.1) x0 (0,0,false,false,false,false,([]:List Int),([]:List X),0,0,0,0,(ByteArray.empty,ByteArray.empty,0),([]:List Int)) ([]:List Y))) else none) else none) else none) else none))))))))))))))))
theorem Uf:og NX Du:=lS (by kernel_rfl)
theorem fQ:tM Uc NV:=jS (by kernel_rfl)
theorem Ug:sb NY Dv:=lS (by kernel_rfl)
theorem fR:og Ud NW:=jS (by kernel_rfl)
theorem fS:og Ue CY:=jS (by kernel_rfl)
theorem lQ:nq aT TK:=cT Be rfl ⟨rfl,rfl⟩ (by kernel_rfl)
def iz:=cG T5 (AE CX) (AE CX) kx
def i4:=kE 0 [(9,2)] [6,9,11] 5 iz kx
def fT:St→Option (RT (BQ.outs CX)):=lG T4 [(9,2)] [1,2,3,6,9,11,13] 5 (AE CX) i4
def FA (x0:List (List Int)) (x1 x2:Int) (x3 x4:O) (x5:List Y) (x6:List X) (x7:O):Option (O×List Y×Bool):=fT ⟨[(1,.lst (.slice (.int .i64)) x0),(2,.int .i64 x1),(3,.ptr 0 0),(6,.ptr 1 0),(9,.row 2),(11,.ptr 4 0),(13,.int .i64 x2)],[.var (U.enc x3),.var (U.enc x4),.rows 97 AC x5,.frz AB x6,.var (U.enc x7)]⟩
def Gm (x0:List (List Int)) (x1:Int) (x2:Bool) (x3 x4:O) (x5:List Y):Option (O×List Y×Bool):=cG T6 (AE CX) (AE CX) kx ⟨[(1,.lst (.slice (.int .i64)) x0),(2,.int .i64 x1),(3,.ptr 0 0),(6,.ptr 1 0),(9,.row 2),(10,.bool x2)],[.var (U.enc x3),.var (U.enc x4),.rows 97 AC x5]⟩
def Uh (x0:List (List Int)) (x1:Int) (x2:Bool) (x3 x4:O) (x5:List Y):Option (O×List Y×Bool):=cG T7 (AE CX) (AE CX) kx ⟨[(1,.lst (.slice (.int .i64)) x0),(2,.int .i64 x1),(3,.ptr 0 0),(6,.ptr 1 0),(9,.row 2),(48,.bool x2)],[.var (U.enc x3),.var (U.enc x4),.rows 97 AC x5]⟩
def NZ (x0:List (List Int)) (x1 x2:Int) (x3 x4:O) (x5:List Y) (x6:List X) (x7:O):Option (O×List Y×Bool):=(if 0≤(i64.wrap (x1-2)) then (if (i64.wrap (x1-2))<(x0.length:Int) then (if (decide (x2<((x0.getD (i64.wrap (x1-2)).toNat ([]:List Int)).length:Int)))=true then (if 0≤(i64.wrap (x1-2)) then (if (i64.wrap (x1-2))<(x0.length:Int) then (if 0≤x2 then (if x2<((x0.getD (i64.wrap (x1-2)).toNat ([]:List Int)).length:Int) then (if (((x0.getD (i64.wrap (x1-2)).toNat ([]:List Int)).getD x2.toNat 0) != x3.1)=true then (if x5.length+([(1,x3.1,((x0.getD (i64.wrap (x1-2)).toNat ([]:List Int)).getD x2.toNat 0),x1,0,([]:List X))]:List Y).length≤68719476736 then (FA x0 x1 (i64.wrap (x2+1)) x3 x4 (x5++([(1,x3.1,((x0.getD (i64.wrap (x1-2)).toNat ([]:List Int)).getD x2.toNat 0),x1,0,([]:List X))]:List Y)) x6 x7) else none) else (FA x0 x1 (i64.wrap (x2+1)) x3 x4 x5 x6 x7)) else none) else none) else none) else none) else ((Cs x7).bind fun y7=>(some (y7,x5,true)))) else none) else none)
def Ui (x0:List (List Int)) (x1:Int) (x2:Bool) (x3 x4:O) (x5:List Y):Option (O×List Y×Bool):=(if ([]:List X).length+x3.2.2.2.2.2.2.2.1.length≤68719476736 then (if x2=true then (if 0≤(i64.wrap (x1-1)) then (if (i64.wrap (x1-1))<(x0.length:Int) then ((Md (x0.getD (i64.wrap (x1-1)).toNat ([]:List Int)) x3.2.2.2.2.2.2.2.1 (x3.1,x1,false,false,true,false,([]:List Int),(([]:List X)++x3.2.2.2.2.2.2.2.1),0,0,0,0,(ByteArray.empty,ByteArray.empty,0),([]:List Int))).bind fun y5=>((Cs y5.2).bind fun y6=>(some (y6,y5.1,true)))) else none) else none) else (FA x0 x1 0 x3 x4 x5 (([]:List X)++x3.2.2.2.2.2.2.2.1) (x3.1,x1,false,false,true,false,([]:List Int),(([]:List X)++x3.2.2.2.2.2.2.2.1),0,0,0,0,(ByteArray.empty,ByteArray.empty,0),([]:List Int)))) else none)
def Uj (x0:List (List Int)) (x1:Int) (x2:Bool) (x3 x4:O) (x5:List Y):Option (O×List Y×Bool):=(if x3.2.2.2.1=true then (if (x3.2.1==(i64.wrap (x1-1)))=true then (if 0≤(i64.wrap (x1-2)) then (if (i64.wrap (x1-2))<(x0.length:Int) then ((DV (x0.getD (i64.wrap (x1-2)).toNat ([]:List Int)) x3.1).bind fun y4=>(Gm x0 x1 y4 x3 x4 x5)) else none) else none) else (Gm x0 x1 false x3 x4 x5)) else (Gm x0 x1 false x3 x4 x5))
def aU (x0:O) (x1:List (List Int)) (x2:Int):Option (O×List Y×Bool):=((E_ x0).bind fun y1=>(if (!y1)=true then (some ((0,0,false,false,false,false,([]:List Int),([]:List X),0,0,0,0,(ByteArray.empty,ByteArray.empty,0),([]:List Int)),([]:List Y),false)) else ((Di x1).bind fun y2=>(if (!y2)=true then (some ((0,0,false,false,false,false,([]:List Int),([]:List X),0,0,0,0,(ByteArray.empty,ByteArray.empty,0),([]:List Int)),([]:List Y),false)) else ((AP x2 2 (x1.length:Int)).bind fun y3=>(if (!y3)=true then (some ((0,0,false,false,false,false,([]:List Int),([]:List X),0,0,0,0,(ByteArray.empty,ByteArray.empty,0),([]:List Int)),([]:List Y),false)) else (if (decide (x2≤x0.2.1))=true then (some ((0,0,false,false,false,false,([]:List Int),([]:List X),0,0,0,0,(ByteArray.empty,ByteArray.empty,0),([]:List Int)),([]:List Y),false)) else (if 0≤(i64.wrap (x2-1)) then (if (i64.wrap (x2-1))<(x1.length:Int) then (if 0≤(0:Int) then (if 0<((x1.getD (i64.wrap (x2-1)).toNat ([]:List Int)).length:Int) then (if (((x1.getD (i64.wrap (x2-1)).toNat ([]:List Int)).getD (0:Int).toNat 0) != x0.1)=true then (some ((0,0,false,false,false,false,([]:List Int),([]:List X),0,0,0,0,(ByteArray.empty,ByteArray.empty,0),([]:List Int)),([]:List Y),false)) else (Uh x1 x2 (((x1.getD (i64.wrap (x2-1)).toNat ([]:List Int)).getD (0:Int).toNat 0) != x0.1) x0 (0,0,false,false,false,false,([]:List Int),([]:List X),0,0,0,0,(ByteArray.empty,ByteArray.empty,0),([]:List Int)) ([]:List Y))) else none) else none) else none) else none))))))))
theorem Uk:oe NZ FA:=lS (by kernel_rfl)
theorem fU:nq Ui Gm:=jS (by kernel_rfl)
theorem fV:nq Uj Uh:=jS (by kernel_rfl)
theorem lR:Q8 aU TL:=cT CX rfl ⟨rfl,rfl⟩ (by kernel_rfl)
end
end Go.Proofs.YtokiohnjegbnpaaGreat.Core

namespace Go.Proofs.YtokiohnjegbnpaaGreat.Core
open Go IntKind
set_option linter.unusedVariables false
set_option maxRecDepth 100000
noncomputable section
def cm:=cG QG (AE BW) (AE BW) kx
def cn:=cG KP (AE BW) (AE BW) kx
def FZ (x0:List Y) (x1:List AD) (x2:Bool) (x3:O) (x4:Y) (x5 x6:O):Option (O×List Y×List AD):=cG QF cm (AE BW) kx ⟨[(3,.ptr 0 0),(5,.ptr 1 0),(6,.ptr 2 0),(9,.ptr 3 0),(10,.lst AC x0),(11,.lst Aj x1),(146,.bool x2)],[.var (U.enc x3),.var (AC.enc x4),.var (U.enc x5),.var (U.enc x6)]⟩
def K4 (x0:List (List Int)) (x1:List Y) (x2:List AD) (x3:Bool) (x4:O) (x5:Y) (x6 x7:O):Option (O×List Y×List AD):=cG KP (AE BW) (AE BW) kx ⟨[(1,.lst (.slice (.int .i64)) x0),(3,.ptr 0 0),(5,.ptr 1 0),(6,.ptr 2 0),(9,.ptr 3 0),(10,.lst AC x1),(11,.lst Aj x2),(105,.bool x3)],[.var (U.enc x4),.var (AC.enc x5),.var (U.enc x6),.var (U.enc x7)]⟩
def Dp (x0:List (List Int)) (x1:List Y) (x2:List AD) (x3:Bool) (x4:O) (x5:Y) (x6 x7:O):Option (O×List Y×List AD):=cG QD cn (AE BW) kx ⟨[(1,.lst (.slice (.int .i64)) x0),(3,.ptr 0 0),(5,.ptr 1 0),(6,.ptr 2 0),(9,.ptr 3 0),(10,.lst AC x1),(11,.lst Aj x2),(105,.bool x3)],[.var (U.enc x4),.var (AC.enc x5),.var (U.enc x6),.var (U.enc x7)]⟩
def Qk (x0:List (List Int)) (x1:List Y) (x2:List AD) (x3:Bool) (x4:O) (x5:Y) (x6 x7:O):Option (O×List Y×List AD):=cG QH (AE BW) (AE BW) kx ⟨[(1,.lst (.slice (.int .i64)) x0),(3,.ptr 0 0),(5,.ptr 1 0),(6,.ptr 2 0),(9,.ptr 3 0),(10,.lst AC x1),(11,.lst Aj x2),(59,.bool x3)],[.var (U.enc x4),.var (AC.enc x5),.var (U.enc x6),.var (U.enc x7)]⟩
def Ql (x0:List Y) (x1:List AD) (x2:Bool) (x3:O) (x4:Y) (x5 x6:O):Option (O×List Y×List AD):=(if x2=true then (if ([]:List X).length+x4.2.2.2.2.2.length≤68719476736 then ((Dt x3 x4 4).bind fun y9=>(some ((x3.1,x4.2.2.2.1,false,true,false,false,([]:List Int),(([]:List X)++x4.2.2.2.2.2),0,0,0,0,(ByteArray.empty,ByteArray.empty,0),([]:List Int)),y9,x1))) else none) else (some (x6,x0,x1)))
def Qm (x0:List (List Int)) (x1:List Y) (x2:List AD) (x3:Bool) (x4:O) (x5:Y) (x6 x7:O):Option (O×List Y×List AD):=(if 0≤(i64.wrap (x5.2.2.2.1-1)) then (if (i64.wrap (x5.2.2.2.1-1))<(x0.length:Int) then (if (x5.1==3)=true then ((DV (x0.getD (i64.wrap (x5.2.2.2.1-1)).toNat ([]:List Int)) x4.1).bind fun y8=>(if y8=true then (if 0≤(0:Int) then (if 0<((x0.getD (i64.wrap (x5.2.2.2.1-1)).toNat ([]:List Int)).length:Int) then (FZ x1 x2 (((x0.getD (i64.wrap (x5.2.2.2.1-1)).toNat ([]:List Int)).getD (0:Int).toNat 0) != x4.1) x4 x5 x6 x7) else none) else none) else (FZ x1 x2 false x4 x5 x6 x7))) else (FZ x1 x2 false x4 x5 x6 x7)) else none) else none)
def Qn (x0:List (List Int)) (x1:List Y) (x2:List AD) (x3:Bool) (x4:O) (x5:Y) (x6 x7:O):Option (O×List Y×List AD):=(if x3=true then ((Kb x4 x5.2.2.2.1).bind fun y7=>(if ([]:List X).length+x4.2.2.2.2.2.2.2.1.length≤68719476736 then (some (y7,([(2,x4.1,x5.2.1,x5.2.2.2.1,0,(([]:List X)++x4.2.2.2.2.2.2.2.1))]:List Y),x2)) else none)) else (K4 x0 x1 x2 x3 x4 x5 x6 x7))
def Qo (x0:List (List Int)) (x1:List Y) (x2:List AD) (x3:Bool) (x4:O) (x5:Y) (x6 x7:O):Option (O×List Y×List AD):=(if (x5.2.2.2.1==x4.2.1)=true then (if 0≤(i64.wrap (x4.2.1-1)) then (if (i64.wrap (x4.2.1-1))<(x0.length:Int) then ((RB x4 (x0.getD (i64.wrap (x4.2.1-1)).toNat ([]:List Int)) x5).bind fun y5=>(some (y5.1,y5.2.1,y5.2.2))) else none) else none) else (if (x5.1==1)=true then (if (x5.2.2.2.1==(i64.wrap (x4.2.1+1)))=true then (if x4.2.2.2.1=true then (if 0≤(i64.wrap (x4.2.1-1)) then (if (i64.wrap (x4.2.1-1))<(x0.length:Int) then ((DV (x0.getD (i64.wrap (x4.2.1-1)).toNat ([]:List Int)) x4.1).bind fun y6=>(Dp x0 x1 x2 y6 x4 x5 x6 x7)) else none) else none) else (Dp x0 x1 x2 false x4 x5 x6 x7)) else (Dp x0 x1 x2 false x4 x5 x6 x7)) else (Dp x0 x1 x2 false x4 x5 x6 x7)))
def Wc (x0:O) (x1:List (List Int)) (x2:Y):Option (O×List Y×List AD):=((Cs x0).bind fun y1=>((E_ x0).bind fun y2=>(if (!y2)=false then ((Di x1).bind fun y3=>(if (!y3)=false then ((TN x2).bind fun y4=>(if (!y4)=false then (if (x2.2.2.1 != x0.1)=false then (if (decide (x2.2.2.2.1<x0.2.1))=false then (if (decide (x2.2.2.2.1>(x1.length:Int)))=false then (if (decide (x0.2.1>(x1.length:Int)))=true then (some (y1,([]:List Y),([]:List AD))) else (Qk x1 ([]:List Y) ([]:List AD) (decide (x0.2.1>(x1.length:Int))) x0 x2 (0,0,false,false,false,false,([]:List Int),([]:List X),0,0,0,0,(ByteArray.empty,ByteArray.empty,0),([]:List Int)) y1)) else (some (y1,([]:List Y),([]:List AD)))) else (some (y1,([]:List Y),([]:List AD)))) else (some (y1,([]:List Y),([]:List AD)))) else (some (y1,([]:List Y),([]:List AD))))) else (some (y1,([]:List Y),([]:List AD))))) else (some (y1,([]:List Y),([]:List AD))))))
theorem aV:qT Ql FZ:=jS (by kernel_rfl)
theorem aW:oe Qm K4:=jS (by kernel_rfl)
theorem aX:oe Qn Dp:=jS (by kernel_rfl)
theorem aY:oe Qo Qk:=jS (by kernel_rfl)
theorem i5:Q8 Wc O3:=cT BW rfl ⟨rfl,rfl⟩ (by kernel_rfl)
def Wd:=cG Vw (AE D9) (AE D9) kx
def i6:=kB [] [1] 1 Wd
def i7:=kE 0 [] [1] 1 Wd kx
def I2 (x0:Int) (x1:Bool) (x2:Y):Option Bool:=cG Vv i6 (AE D9) i7 ⟨[(1,.ptr 0 0),(38,.int .i64 x0),(39,.bool x1)],[.var (AC.enc x2)]⟩
def Na (x0:Bool) (x1:Y):Option Bool:=cG Vx (AE D9) (AE D9) kx ⟨[(1,.ptr 0 0),(36,.bool x0)],[.var (AC.enc x1)]⟩
def Ul (x0:Int) (x1:Bool) (x2:Y):Option Bool:=(if x1=true then (some true) else (if (x0==5)=true then (some ((x2.2.2.2.2.2.length:Int)==1)) else (some ((x2.2.2.2.2.2.length:Int)==0))))
def Um (x0:Bool) (x1:Y):Option Bool:=(if (x1.1==2)=true then (I2 x1.1 (x1.1==2) x1) else (I2 x1.1 (x1.1==3) x1))
def aZ (x0:Y):Option Bool:=((Ae x0.1 1 8).bind fun y1=>(if (!y1)=false then ((EO x0.2.1).bind fun y2=>(if (!y2)=false then ((EO x0.2.2.1).bind fun y3=>(if (!y3)=false then ((Ae x0.2.2.2.1 1 9).bind fun y4=>(if (!y4)=false then ((Ae x0.2.2.2.2.1 0 1000000000).bind fun y5=>(if (!y5)=false then ((Ec x0.2.2.2.2.2).bind fun y6=>(if (!y6)=true then (some false) else (Na (!y6) x0))) else (some false))) else (some false))) else (some false))) else (some false))) else (some false)))
theorem fW:Q8 Ul I2:=jS (by kernel_rfl)
theorem fX:RN Um Na:=jS (by kernel_rfl)
theorem lT:RM aZ TM:=cT D9 rfl ⟨rfl,rfl⟩ (by kernel_rfl)
def M4:=cG Ld (AE Bw) (AE Bw) kx
def Hg:=kB [] [] 2 M4
def Hh:=kE 0 [] [] 2 M4 kx
def DH (x0:List (List Int)) (x1:Bool) (x2:O) (x3:Y):Option (List Y×List AD×O):=cG Ms Hg (AE Bw) Hh ⟨[(0,.ptr 0 0),(1,.lst (.slice (.int .i64)) x0),(5,.ptr 1 0),(37,.bool x1)],[.var (U.enc x2),.var (AC.enc x3)]⟩
def Ew (x0:Bool) (x1:O) (x2:Y):Option (List Y×List AD×O):=cG Mt Hg (AE Bw) Hh ⟨[(0,.ptr 0 0),(5,.ptr 1 0),(75,.bool x0)],[.var (U.enc x1),.var (AC.enc x2)]⟩
def Ex (x0:Int) (x1:Bool) (x2:O) (x3:Y):Option (List Y×List AD×O):=cG Lc Hg (AE Bw) Hh ⟨[(0,.ptr 0 0),(5,.ptr 1 0),(9,.int .i64 x0),(107,.bool x1)],[.var (U.enc x2),.var (AC.enc x3)]⟩
def Lo (x0:List (List Int)) (x1:Bool) (x2:O) (x3:Y):Option (List Y×List AD×O):=(if x1=true then (if 0≤(i64.wrap (x2.2.1-1)) then (if (i64.wrap (x2.2.1-1))<(x0.length:Int) then ((Cv (x0.getD (i64.wrap (x2.2.1-1)).toNat ([]:List Int)) x3.2.2.2.2.2 x2).bind fun y2=>(some (y2.1,[],y2.2))) else none) else none) else (some ([],[],x2)))
def Lq (x0:Bool) (x1:O) (x2:Y):Option (List Y×List AD×O):=(if x0=true then ((Kc x1.2.2.2.2.2.2.1 x2.2.1).bind fun y4=>(if x1.2.2.2.2.2.1=false then (if ((y4.length:Int)==0)=true then (some ([],[],(x1.1,x1.2.1,x1.2.2.1,x1.2.2.2.1,x1.2.2.2.2.1,x1.2.2.2.1,y4,x1.2.2.2.2.2.2.2))) else (some ([],[],(x1.1,x1.2.1,x1.2.2.1,x1.2.2.2.1,x1.2.2.2.2.1,false,y4,x1.2.2.2.2.2.2.2)))) else (some ([],[],(x1.1,x1.2.1,x1.2.2.1,x1.2.2.2.1,x1.2.2.2.2.1,true,y4,x1.2.2.2.2.2.2.2))))) else (some ([],[],x1)))
def Lr (x0:Int) (x1:Bool) (x2:O) (x3:Y):Option (List Y×List AD×O):=(if x1=true then ((IL x3 x2).bind fun y5=>(some (y5.1,[],y5.2))) else (if (x0==6)=true then ((FS 1 x3 x2).bind fun y6=>(some ([],y6.1,y6.2))) else (if (x0==8)=true then ((FS 2 x3 x2).bind fun y7=>(some ([],y7.1,y7.2))) else (some ([],[],x2)))))
def PT (x1:List (List Int)) (x2:Y) (b0:O):Option (List Y×List AD×O):=(if (x2.1==1)=true then ((JD x1 x2 b0).bind fun y1=>(some (y1.1,[],y1.2))) else (if (x2.1==2)=true then (if (x2.2.2.2.1==b0.2.1)=true then (if b0.2.2.2.2.1=true then (DH x1 (!b0.2.2.2.1) b0 x2) else (DH x1 false b0 x2)) else (DH x1 false b0 x2)) else (if (x2.1==3)=true then (if 0≤(i64.wrap (x2.2.2.2.1-1)) then (if (i64.wrap (x2.2.2.2.1-1))<(x1.length:Int) then ((Gy (x1.getD (i64.wrap (x2.2.2.2.1-1)).toNat ([]:List Int)) x2 b0).bind fun y3=>(some (y3.1,[],y3.2))) else none) else none) else (if (x2.1==4)=true then (if (x2.2.2.2.1==b0.2.1)=true then (Ew b0.2.2.2.2.1 b0 x2) else (Ew false b0 x2)) else (if (x2.1==5)=true then (Ex x2.1 (x2.1==5) b0 x2) else (Ex x2.1 (x2.1==7) b0 x2))))))
theorem U7:eQ Lo DH:=jS (by kernel_rfl)
theorem U8:Q8 Lq Ew:=jS (by kernel_rfl)
theorem U9:eQ Lr Ex:=jS (by kernel_rfl)
theorem Yu:Q8 PT JC:=cT Bw rfl ⟨rfl,rfl⟩ (by kernel_rfl)
def IE (x0:List (List Int)) (x1:Bool) (x2:O):Option (Bool×O):=cG Ib (AE CI) (AE CI) kx ⟨[(0,.ptr 0 0),(1,.lst (.slice (.int .i64)) x0),(33,.bool x1)],[.var (U.enc x2)]⟩
def IF (x0:List (List Int)) (x1:Bool) (x2:O):Option (Bool×O):=((Dh x0).bind fun y1=>(if y1=true then (if 0≤(i64.wrap (x2.2.1-1)) then (if (i64.wrap (x2.2.1-1))<(x0.length:Int) then (if 0≤(0:Int) then (if 0<((x0.getD (i64.wrap (x2.2.1-1)).toNat ([]:List Int)).length:Int) then (some ((((x0.getD (i64.wrap (x2.2.1-1)).toNat ([]:List Int)).getD (0:Int).toNat 0)==x2.1),x2)) else none) else none) else none) else none) else (some (false,x2))))
def K5 (x1:List (List Int)) (b0:O):Option (Bool×O):=(if (!b0.2.2.2.2.2.1)=false then (if (b0.2.2.2.2.2.2.2.2.2.1 != 0)=false then (if (b0.2.2.2.2.2.2.2.2.1==900)=false then (if (decide (b0.2.1>(x1.length:Int)))=true then (some (false,b0)) else (IE x1 (decide (b0.2.1>(x1.length:Int))) b0)) else (some (false,b0))) else (some (false,b0))) else (some (false,b0)))
theorem Pc:Q8 IF IE:=jS (by kernel_rfl)
theorem TR:RN K5 GX:=cT CI rfl ⟨rfl,rfl⟩ (by kernel_rfl)
def fY:=cG T9 (AE EG) (AE EG) kx
def fZ:=kE 0 [] [4] 1 fY kx
def cp:St→Option (RT (BQ.outs EG)):=lG T8 [] [1,4,7,8,9] 1 (AE EG) fZ
def H7 (x0:ByteArray) (x1:List X) (x2 x3:Int) (x4:X):Option X:=cp ⟨[(1,.str x0),(4,.ptr 0 0),(7,.lst AB x1),(8,.int .i64 x2),(9,.int .i64 x3)],[.var (AB.enc x4)]⟩
def MI (x0:ByteArray) (x1:List X) (x2 x3:Int) (x4:X):Option X:=(if (decide (x3<x2))=true then (if 0≤x3 then (if x3<(x1.length:Int) then (if (((x1.getD x3.toNat (ByteArray.empty,ByteArray.empty,0)).1).toList==x0.toList)=true then (some (x1.getD x3.toNat (ByteArray.empty,ByteArray.empty,0))) else (H7 x0 x1 x2 (i64.wrap (x3+1)) x4)) else none) else none) else (some (ByteArray.empty,ByteArray.empty,0)))
def Xw (x0:List X) (x1:ByteArray):Option X:=(H7 x1 x0 (x0.length:Int) 0 (ByteArray.empty,ByteArray.empty,0))
theorem SG:nG MI H7:=lS (by kernel_rfl)
theorem jn:RN Xw Mb:=cT EG rfl ⟨rfl,rfl⟩ (by kernel_rfl)
def TS:=cG KR (AE Bp) (AE Bp) kx
def TU:=kE 0 [(5,1)] [5] 2 TS kx
def SH:St→Option (RT (BQ.outs Bp)):=lG KQ [(5,1)] [0,5,8,9,10] 2 (AE Bp) TU
def Cl (x0:List Int) (x1 x2:Int) (x3:O) (x4:List Int):Option (List Int×O):=SH ⟨[(0,.ptr 0 0),(5,.row 1),(8,.lst (.int .i64) x0),(9,.int .i64 x1),(10,.int .i64 x2)],[.var (U.enc x3),.rows 3 (.int .i64) x4]⟩
def GB (x0:List Int) (x1 x2:Int) (x3:O) (x4:List Int):Option (List Int×O):=(if (decide (x2<x1))=true then (if 0≤x2 then (if x2<(x0.length:Int) then (if ((x0.getD x2.toNat 0) != x3.1)=true then (if x4.length+([(x0.getD x2.toNat 0)]:List Int).length≤68719476736 then (Cl x0 x1 (i64.wrap (x2+1)) x3 (x4++([(x0.getD x2.toNat 0)]:List Int))) else none) else (Cl x0 x1 (i64.wrap (x2+1)) x3 x4)) else none) else none) else (some (x4,x3)))
def M5 (x1:List Int) (b0:O):Option (List Int×O):=(Cl x1 (x1.length:Int) 0 b0 ([]:List Int))
theorem Jg:nG GB Cl:=lS (by kernel_rfl)
theorem We:RN M5 Bq:=cT Bp rfl ⟨rfl,rfl⟩ (by kernel_rfl)
def Ls (b0:List Int):Option (List Int):=((NP (IntKind.u64.wrap (b0.length:Int))).bind fun y1=>((B8 0 (b0.length:Int) y1 b0).bind fun y2=>(some y2)))
theorem U_:RM Ls CT:=cT Es rfl ⟨rfl,rfl⟩ (by kernel_rfl)
def G5 (x0:O) (x1:km):Option (List AD×O):=cG Mu (AE DK) (AE DK) kx ⟨[(0,.ptr 0 0),(3,.ptr 1 0)],[.var (U.enc x0),.var (KA.enc x1)]⟩
def G6 (x0:O) (x1:km):Option (List AD×O):=(some (([(x1.2.1,x0.2.1,x1.2.2.1,x1.2.2.2.1)]:List AD),(x0.1,x0.2.1,x0.2.2.1,x0.2.2.2.1,x0.2.2.2.2.1,x0.2.2.2.2.2.1,x0.2.2.2.2.2.2.1,x0.2.2.2.2.2.2.2.1,x0.2.2.2.2.2.2.2.2.1,0,0,0,(ByteArray.empty,ByteArray.empty,0),([]:List Int))))
def PU (b0:O):Option (List AD×O):=(if (b0.2.2.2.2.2.2.2.2.2.1==1)=true then ((Ke b0.2.2.2.2.2.2.2.1 b0.2.2.2.2.2.2.2.2.2.2.2.2.1).bind fun y1=>(G5 (b0.1,b0.2.1,b0.2.2.1,b0.2.2.2.1,b0.2.2.2.2.1,b0.2.2.2.2.2.1,b0.2.2.2.2.2.2.1,y1,b0.2.2.2.2.2.2.2.2) b0.2.2.2.2.2.2.2.2.2)) else ((Mb b0.2.2.2.2.2.2.2.1 b0.2.2.2.2.2.2.2.2.2.2.2.2.1.1).bind fun y2=>(G5 b0 (b0.2.2.2.2.2.2.2.2.2.1,b0.2.2.2.2.2.2.2.2.2.2.1,b0.2.2.2.2.2.2.2.2.2.2.2.1,y2,b0.2.2.2.2.2.2.2.2.2.2.2.2.2))))
theorem Lt:RN G6 G5:=jS (by kernel_rfl)
theorem Yv:RM PU GY:=cT DK rfl ⟨rfl,rfl⟩ (by kernel_rfl)
def SI:=cG Ja (AE Bb) (AE Bb) kx
def SJ:=kE 0 [(7,2)] [7] 3 SI kx
def RF:St→Option (RT (BQ.outs Bb)):=lG JZ [(7,2)] [0,5,7,11,12,13] 3 (AE Bb) SJ
def DW (x0:List Int) (x1 x2:Int) (x3:O) (x4:Y) (x5:List Y):Option (List Y×O):=RF ⟨[(0,.ptr 0 0),(5,.ptr 1 0),(7,.row 2),(11,.lst (.int .i64) x0),(12,.int .i64 x1),(13,.int .i64 x2)],[.var (U.enc x3),.var (AC.enc x4),.rows 97 AC x5]⟩
def Fi (x0:List Int) (x1 x2:Int) (x3:O) (x4:Y) (x5:List Y):Option (List Y×O):=(if (decide (x2<x1))=true then (if 0≤x2 then (if x2<(x0.length:Int) then ((F7 x4).bind fun y1=>(if x5.length+([(y1.1,x3.1,(x0.getD x2.toNat 0),x3.2.1,y1.2.2.2.2)]:List Y).length≤68719476736 then (DW x0 x1 (i64.wrap (x2+1)) x3 x4 (x5++([(y1.1,x3.1,(x0.getD x2.toNat 0),x3.2.1,y1.2.2.2.2)]:List Y))) else none)) else none) else none) else (some (x5,x3)))
def Lu (x1:List Int) (x2:Y) (b0:O):Option (List Y×O):=(DW x1 (x1.length:Int) 0 b0 x2 ([]:List Y))
theorem Id:nq Fi DW:=lS (by kernel_rfl)
theorem VD:Q8 Lu Ac:=cT Bb rfl ⟨rfl,rfl⟩ (by kernel_rfl)
def aa (b0:O):Option O:=(some (b0.1,b0.2.1,b0.2.2.1,b0.2.2.2.1,false,false,[],b0.2.2.2.2.2.2.2.1,0,0,0,0,(ByteArray.empty,ByteArray.empty,0),([]:List Int)))
theorem ae:RM aa FR:=cT HC rfl ⟨rfl,rfl⟩ (by kernel_rfl)
def K6 (x1:List Int) (x2:List X) (b0:O):Option (List Y×O):=((Bq x1 b0).bind fun y1=>((Ab x2).bind fun y2=>((BX y1.1).bind fun y3=>((CT y3).bind fun y4=>(if ((y1.1.length:Int)==0)=true then ((Ac y1.1 (3,0,0,0,0,x2) (y1.2.1,y1.2.2.1,y1.2.2.2.1,true,y1.2.2.2.2.2.1,true,y4,y2,y1.2.2.2.2.2.2.2.2.2)).bind fun y5=>(some (y5.1,y5.2))) else ((Ac y1.1 (3,0,0,0,0,x2) (y1.2.1,y1.2.2.1,y1.2.2.2.1,true,y1.2.2.2.2.2.1,y1.2.2.2.2.2.2.1,y4,y2,y1.2.2.2.2.2.2.2.2.2)).bind fun y6=>(some (y6.1,y6.2))))))))
theorem TV:Q8 K6 Cv:=cT D_ rfl ⟨rfl,rfl⟩ (by kernel_rfl)
def DO (x0:Bool) (x1:O):Option Bool:=cG QI (AE E9) (AE E9) kx ⟨[(1,.ptr 0 0),(70,.bool x0)],[.var (U.enc x1)]⟩
def PV (x0:Bool) (x1:O):Option Bool:=((ME x1.2.2.2.2.2.2.2.2.2).bind fun y7=>(if y7=false then (if (x1.2.2.2.2.2.2.2.2.2.1==1)=false then (if (x1.2.2.2.2.2.2.2.2.2.1==2)=true then (if x1.2.2.2.2.2.1=true then ((AP x1.2.2.2.2.2.2.2.2.2.2.1 0 1000).bind fun y8=>(if y8=true then ((AP x1.2.2.2.2.2.2.2.2.2.2.2.1 1 900).bind fun y9=>(some y9)) else (some false))) else (some false)) else (some false)) else (if x1.2.2.2.2.2.1=true then ((AP x1.2.2.2.2.2.2.2.2.2.2.1 0 1000).bind fun y10=>(if y10=true then ((AP x1.2.2.2.2.2.2.2.2.2.2.2.1 1 900).bind fun y11=>(some y11)) else (some false))) else (some false))) else (some true)))
def Un (x0:O):Option Bool:=((AP x0.1 1 6).bind fun y1=>(if (!y1)=false then ((AP x0.2.1 1 9).bind fun y2=>(if (!y2)=false then (if x0.2.2.2.2.2.1=true then (if (!x0.2.2.2.1)=false then (if (!x0.2.2.2.2.1)=false then (if (decide ((x0.2.2.2.2.2.2.1.length:Int)>0))=false then (if x0.2.2.1=true then (if x0.2.2.2.1=false then (if x0.2.2.2.2.1=false then ((Cp x0.2.2.2.2.2.2.1).bind fun y3=>(if (!y3)=false then ((Cp x0.2.2.2.2.2.2.2.2.2.2.2.2.2).bind fun y4=>(if (!y4)=false then ((Cw x0.2.2.2.2.2.2.2.1).bind fun y5=>(if (!y5)=false then ((AP x0.2.2.2.2.2.2.2.2.1 0 900).bind fun y6=>(if (!y6)=true then (some false) else (DO (!y6) x0))) else (some false))) else (some false))) else (some false))) else (some false)) else (some false)) else ((Cp x0.2.2.2.2.2.2.1).bind fun y12=>(if (!y12)=false then ((Cp x0.2.2.2.2.2.2.2.2.2.2.2.2.2).bind fun y13=>(if (!y13)=false then ((Cw x0.2.2.2.2.2.2.2.1).bind fun y14=>(if (!y14)=false then ((AP x0.2.2.2.2.2.2.2.2.1 0 900).bind fun y15=>(if (!y15)=true then (some false) else (DO (!y15) x0))) else (some false))) else (some false))) else (some false)))) else (some false)) else (some false)) else (some false)) else (if x0.2.2.1=true then (if x0.2.2.2.1=false then (if x0.2.2.2.2.1=false then ((Cp x0.2.2.2.2.2.2.1).bind fun y16=>(if (!y16)=false then ((Cp x0.2.2.2.2.2.2.2.2.2.2.2.2.2).bind fun y17=>(if (!y17)=false then ((Cw x0.2.2.2.2.2.2.2.1).bind fun y18=>(if (!y18)=false then ((AP x0.2.2.2.2.2.2.2.2.1 0 900).bind fun y19=>(if (!y19)=true then (some false) else (DO (!y19) x0))) else (some false))) else (some false))) else (some false))) else (some false)) else (some false)) else ((Cp x0.2.2.2.2.2.2.1).bind fun y20=>(if (!y20)=false then ((Cp x0.2.2.2.2.2.2.2.2.2.2.2.2.2).bind fun y21=>(if (!y21)=false then ((Cw x0.2.2.2.2.2.2.2.1).bind fun y22=>(if (!y22)=false then ((AP x0.2.2.2.2.2.2.2.2.1 0 900).bind fun y23=>(if (!y23)=true then (some false) else (DO (!y23) x0))) else (some false))) else (some false))) else (some false))))) else (some false))) else (some false)))
theorem Yw:RN PV DO:=jS (by kernel_rfl)
theorem fa:RM Un E_:=cT E9 rfl ⟨rfl,rfl⟩ (by kernel_rfl)
def fb:=cG UA (AE EH) (AE EH) kx
def fc:=kE 0 [] [4] 1 fb kx
def cq:St→Option (RT (BQ.outs EH)):=lG T_ [] [0,1,4,5] 1 (AE EH) fc
def H8 (x0:List X) (x1:ByteArray) (x2:Int) (x3:X):Option X:=cq ⟨[(0,.lst AB x0),(1,.str x1),(4,.ptr 0 0),(5,.int .i64 x2)],[.var (AB.enc x3)]⟩
def MJ (x0:List X) (x1:ByteArray) (x2:Int) (x3:X):Option X:=(if (decide (x2<(x0.length:Int)))=true then (if 0≤x2 then (if x2<(x0.length:Int) then (if (((x0.getD x2.toNat (ByteArray.empty,ByteArray.empty,0)).1).toList==x1.toList)=true then (if 0≤x2 then (if x2<(x0.length:Int) then (some (x0.getD x2.toNat (ByteArray.empty,ByteArray.empty,0))) else none) else none) else (H8 x0 x1 (i64.wrap (x2+1)) x3)) else none) else none) else (some (ByteArray.empty,ByteArray.empty,0)))
def Xx (x0:List X) (x1:ByteArray):Option X:=(H8 x0 x1 0 (ByteArray.empty,ByteArray.empty,0))
theorem SK:eQ MJ H8:=lS (by kernel_rfl)
theorem jo:RN Xx Mc:=cT EH rfl ⟨rfl,rfl⟩ (by kernel_rfl)
def cr:=cG KS (AE Ao) (AE Ao) kx
def ct:=kE 2 [(5,1),(6,2)] [0,5,6] 3 cr kx
def af:St→Option (RT (BQ.outs Ao)):=lG QJ [(5,1),(6,2)] [0,3,5,6,8] 3 (AE Ao) ct
def cv:=cG KT (AE Ao) (AE Ao) kx
def MK:=kE 0 [(5,1),(6,2)] [0,3,5,6] 3 cv kx
def Qp:St→Option (RT (BQ.outs Ao)):=lG Rw [(5,1),(6,2)] [0,3,5,6,7] 3 (AE Ao) MK
def cw:=kB [(5,1),(6,2)] [0,3,5,6,7] 3 Qp
def SL:=cG Rv cw (AE Ao) MK
def cz:=kB [(5,1),(6,2)] [0,3,5,6,7] 3 SL
def c_:=kE 1 [(5,1),(6,2)] [0,3,5,6,7] 3 SL MK
def HN (x0:List X) (x1:Int) (x2:X) (x3 x4:List X):Option (List X):=cG Ru cz (AE Ao) c_ ⟨[(0,.lst AB x0),(3,.ptr 0 0),(5,.row 1),(6,.row 2),(7,.int .i64 x1)],[.var (AB.enc x2),.rows 38 AB x3,.rows 38 AB x4]⟩
def K7 (x0:List X) (x1:X) (x2 x3:List X):Option (List X):=cG KS (AE Ao) (AE Ao) kx ⟨[(0,.lst AB x0),(5,.row 1),(6,.row 2)],[.var (AB.enc x1),.rows 38 AB x2,.rows 38 AB x3]⟩
def Dq (x0:List X) (x1:Int) (x2:X) (x3 x4:List X):Option (List X):=af ⟨[(0,.lst AB x0),(3,.ptr 0 0),(5,.row 1),(6,.row 2),(8,.int .i64 x1)],[.var (AB.enc x2),.rows 38 AB x3,.rows 38 AB x4]⟩
def K8 (x0:List X) (x1:X) (x2 x3:List X):Option (List X):=cG KT (AE Ao) (AE Ao) kx ⟨[(0,.lst AB x0),(3,.ptr 0 0),(5,.row 1),(6,.row 2)],[.var (AB.enc x1),.rows 38 AB x2,.rows 38 AB x3]⟩
def Dr (x0:List X) (x1:Int) (x2:X) (x3 x4:List X):Option (List X):=Qp ⟨[(0,.lst AB x0),(3,.ptr 0 0),(5,.row 1),(6,.row 2),(7,.int .i64 x1)],[.var (AB.enc x2),.rows 38 AB x3,.rows 38 AB x4]⟩
def Qq (x0:List X) (x1:Int) (x2:X) (x3 x4:List X):Option (List X):=(if 0≤x1 then (if x1<(x0.length:Int) then (if (((x0.getD x1.toNat (ByteArray.empty,ByteArray.empty,0)).1).toList==x2.1.toList)=true then (if 0≤x1 then (if x1<(x0.length:Int) then (if (decide ((((x0.getD x1.toNat (ByteArray.empty,ByteArray.empty,0)).2).2)≥x2.2.2))=true then (some x3) else (Dr x0 (i64.wrap (x1+1)) x2 x3 x4)) else none) else none) else (Dr x0 (i64.wrap (x1+1)) x2 x3 x4)) else none) else none)
def Qr (x0:List X) (x1:X) (x2 x3:List X):Option (List X):=((Cw x0).bind fun y1=>(if (!y1)=false then ((Cw x3).bind fun y2=>(if (!y2)=true then (some x2) else (some x3))) else (some x2)))
def K9 (x0:List X) (x1:Int) (x2:X) (x3 x4:List X):Option (List X):=(if (decide (x1<(x0.length:Int)))=true then (if 0≤x1 then (if x1<(x0.length:Int) then (if (!((Op.bytesLess ((x0.getD x1.toNat (ByteArray.empty,ByteArray.empty,0)).1).toList x2.1.toList)||(((x0.getD x1.toNat (ByteArray.empty,ByteArray.empty,0)).1).toList==x2.1.toList)))=true then (if 0≤x1 then (if x1<(x0.length:Int) then (if x4.length+([x0.getD x1.toNat (ByteArray.empty,ByteArray.empty,0)]:List X).length≤68719476736 then (Dq x0 (i64.wrap (x1+1)) x2 x3 (x4++([x0.getD x1.toNat (ByteArray.empty,ByteArray.empty,0)]:List X))) else none) else none) else none) else (Dq x0 (i64.wrap (x1+1)) x2 x3 x4)) else none) else none) else (K7 x0 x2 x3 x4))
def Qs (x0:List X) (x1:X) (x2 x3:List X):Option (List X):=(if x3.length+([x1]:List X).length≤68719476736 then (Dq x0 0 x1 x2 (x3++([x1]:List X))) else none)
def K_ (x0:List X) (x1:Int) (x2:X) (x3 x4:List X):Option (List X):=(if (decide (x1<(x0.length:Int)))=true then (if 0≤x1 then (if x1<(x0.length:Int) then (if (Op.bytesLess ((x0.getD x1.toNat (ByteArray.empty,ByteArray.empty,0)).1).toList x2.1.toList)=true then (if 0≤x1 then (if x1<(x0.length:Int) then (if x4.length+([x0.getD x1.toNat (ByteArray.empty,ByteArray.empty,0)]:List X).length≤68719476736 then (HN x0 x1 x2 x3 (x4++([x0.getD x1.toNat (ByteArray.empty,ByteArray.empty,0)]:List X))) else none) else none) else none) else (HN x0 x1 x2 x3 x4)) else none) else none) else (K8 x0 x2 x3 x4))
def Wf (x0:List X) (x1:X):Option (List X):=(if ([]:List X).length+x0.length≤68719476736 then (Dr x0 0 x1 (([]:List X)++x0) ([]:List X)) else none)
theorem ag:nG Qq HN:=jS (by kernel_rfl)
theorem ah:eQ Qr K7:=jS (by kernel_rfl)
theorem Qt:nG K9 Dq:=lS (by kernel_rfl)
theorem ak:eQ Qs K8:=jS (by kernel_rfl)
theorem Qu:nG K_ Dr:=lS (by kernel_rfl)
theorem i8:RN Wf Hd:=cT Ao rfl ⟨rfl,rfl⟩ (by kernel_rfl)
def Yx:=cG Ov (AE Ci) (AE Ci) kx
def Yy:=kE 0 [(5,0)] [5] 1 Yx kx
def Xc:St→Option (RT (BQ.outs Ci)):=lG Ou [(5,0)] [0,1,5,6] 1 (AE Ci) Yy
def B4 (x0:List Int) (x1 x2:Int) (x3:List Int):Option (List Int):=Xc ⟨[(0,.lst (.int .i64) x0),(1,.int .i64 x1),(5,.row 0),(6,.int .i64 x2)],[.rows 3 (.int .i64) x3]⟩
def IS (x0:List Int) (x1 x2:Int) (x3:List Int):Option (List Int):=(if (decide (x2≤6))=true then (if (x2 != x1)=true then ((DV x0 x2).bind fun y1=>(if y1=true then (if x3.length+([x2]:List Int).length≤68719476736 then (B4 x0 x1 (i64.wrap (x2+1)) (x3++([x2]:List Int))) else none) else (B4 x0 x1 (i64.wrap (x2+1)) x3))) else (B4 x0 x1 (i64.wrap (x2+1)) x3)) else (some x3))
def SM (x0:List Int) (x1:Int):Option (List Int):=(B4 x0 x1 1 ([]:List Int))
theorem N9:eQ IS B4:=lS (by kernel_rfl)
theorem dA:RN SM F8:=cT Ci rfl ⟨rfl,rfl⟩ (by kernel_rfl)
def SN (b0:O):Option (List AD×O):=(if (b0.2.2.2.2.2.2.2.2.2.1==1)=true then ((Hd b0.2.2.2.2.2.2.2.1 b0.2.2.2.2.2.2.2.2.2.2.2.2.1).bind fun y1=>(some (([(b0.2.2.2.2.2.2.2.2.2.2.1,b0.2.1,b0.2.2.2.2.2.2.2.2.2.2.2.1,b0.2.2.2.2.2.2.2.2.2.2.2.2.1)]:List AD),(b0.1,b0.2.1,b0.2.2.1,b0.2.2.2.1,b0.2.2.2.2.1,b0.2.2.2.2.2.1,b0.2.2.2.2.2.2.1,y1,b0.2.2.2.2.2.2.2.2.1,0,0,0,(ByteArray.empty,ByteArray.empty,0),([]:List Int))))) else ((Mc b0.2.2.2.2.2.2.2.1 b0.2.2.2.2.2.2.2.2.2.2.2.2.1.1).bind fun y2=>(some (([(b0.2.2.2.2.2.2.2.2.2.2.1,b0.2.1,b0.2.2.2.2.2.2.2.2.2.2.2.1,y2)]:List AD),(b0.1,b0.2.1,b0.2.2.1,b0.2.2.2.1,b0.2.2.2.2.1,b0.2.2.2.2.2.1,b0.2.2.2.2.2.2.1,b0.2.2.2.2.2.2.2.1,b0.2.2.2.2.2.2.2.2.1,0,0,0,(ByteArray.empty,ByteArray.empty,0),([]:List Int))))))
theorem dB:RM SN F9:=cT Ht rfl ⟨rfl,rfl⟩ (by kernel_rfl)
def ff:=cG UC (AE EI) (AE EI) kx
def fg:=kE 0 [(7,1)] [7] 3 ff kx
def dC:St→Option (RT (BQ.outs EI)):=lG UB [(7,1)] [0,1,2,7,8] 3 (AE EI) fg
def GC (x0:List Int) (x1:List X) (x2:Int) (x3:O) (x4:List Y) (x5:List X):Option (List Y×O):=dC ⟨[(0,.ptr 0 0),(1,.lst (.int .i64) x0),(2,.lst AB x1),(7,.row 1),(8,.int .i64 x2)],[.var (U.enc x3),.rows 97 AC x4,.frz AB x5]⟩
def ML (x0:List Int) (x1:List X) (x2:Int) (x3:O) (x4:List Y) (x5:List X):Option (List Y×O):=(if (decide (x2<(x0.length:Int)))=true then (if 0≤x2 then (if x2<(x0.length:Int) then (if ((x0.getD x2.toNat 0) != x3.1)=true then (if 0≤x2 then (if x2<(x0.length:Int) then (if ([]:List X).length+x1.length≤68719476736 then (if x4.length+([(3,x3.1,(x0.getD x2.toNat 0),x3.2.1,0,(([]:List X)++x1))]:List Y).length≤68719476736 then (GC x0 x1 (i64.wrap (x2+1)) x3 (x4++([(3,x3.1,(x0.getD x2.toNat 0),x3.2.1,0,(([]:List X)++x1))]:List Y)) x5) else none) else none) else none) else none) else (GC x0 x1 (i64.wrap (x2+1)) x3 x4 x5)) else none) else none) else (some (x4,x3)))
def Xy (x1:List Int) (x2:List X) (b0:O):Option (List Y×O):=(if ([]:List X).length+x2.length≤68719476736 then ((F8 x1 b0.1).bind fun y1=>(GC x1 x2 0 (b0.1,b0.2.1,b0.2.2.1,true,b0.2.2.2.2.1,((y1.length:Int)==0),y1,(([]:List X)++x2),b0.2.2.2.2.2.2.2.2) ([]:List Y) (([]:List X)++x2))) else none)
theorem SO:nq ML GC:=lS (by kernel_rfl)
theorem jp:Q8 Xy Md:=cT EI rfl ⟨rfl,rfl⟩ (by kernel_rfl)
def Wg:=cG V0 (AE EA) (AE EA) kx
def i9:=kB [] [1] 1 Wg
def i_:=kE 0 [] [1] 1 Wg kx
def I3 (x0:Int) (x1:Bool) (x2:Y):Option Bool:=cG Vz i9 (AE EA) i_ ⟨[(1,.ptr 0 0),(38,.int .i64 x0),(39,.bool x1)],[.var (AC.enc x2)]⟩
def Nb (x0:Bool) (x1:Y):Option Bool:=cG V5 (AE EA) (AE EA) kx ⟨[(1,.ptr 0 0),(36,.bool x0)],[.var (AC.enc x1)]⟩
def Uo (x0:Int) (x1:Bool) (x2:Y):Option Bool:=(if x1=true then (some true) else (if (x0==5)=true then (some ((x2.2.2.2.2.2.length:Int)==1)) else (some ((x2.2.2.2.2.2.length:Int)==0))))
def Up (x0:Bool) (x1:Y):Option Bool:=(if (x1.1==2)=true then (I3 x1.1 (x1.1==2) x1) else (I3 x1.1 (x1.1==3) x1))
def am (x0:Y):Option Bool:=((AP x0.1 1 8).bind fun y1=>(if (!y1)=false then ((AP x0.2.1 1 6).bind fun y2=>(if (!y2)=false then ((AP x0.2.2.1 1 6).bind fun y3=>(if (!y3)=false then ((AP x0.2.2.2.1 1 9).bind fun y4=>(if (!y4)=false then ((AP x0.2.2.2.2.1 0 1000000000).bind fun y5=>(if (!y5)=false then ((Cw x0.2.2.2.2.2).bind fun y6=>(if (!y6)=true then (some false) else (Nb (!y6) x0))) else (some false))) else (some false))) else (some false))) else (some false))) else (some false)))
theorem fh:Q8 Uo I3:=jS (by kernel_rfl)
theorem fi:RN Up Nb:=jS (by kernel_rfl)
theorem lU:RM am TN:=cT EA rfl ⟨rfl,rfl⟩ (by kernel_rfl)
def Uq:=cG R0 (AE CE) (AE CE) kx
def FB:=kB [] [6,9,10,11] 4 Uq
def FC:=kE 0 [] [6,9,10,11] 4 Uq kx
def H9 (x0:List Int) (x1:List Y) (x2:List AD) (x3:Bool) (x4:O) (x5:Y) (x6 x7:O):Option (O×List Y×List AD):=cG UD FB (AE CE) FC ⟨[(1,.lst (.int .i64) x0),(5,.ptr 1 0),(6,.ptr 2 0),(9,.ptr 3 0),(10,.lst AC x1),(11,.lst Aj x2),(28,.bool x3)],[.var (U.enc x4),.var (AC.enc x5),.var (U.enc x6),.var (U.enc x7)]⟩
def H_ (x0:List Y) (x1:List AD) (x2:Bool) (x3:O) (x4:Y) (x5 x6:O):Option (O×List Y×List AD):=cG UE FB (AE CE) FC ⟨[(3,.ptr 0 0),(5,.ptr 1 0),(6,.ptr 2 0),(9,.ptr 3 0),(10,.lst AC x0),(11,.lst Aj x1),(60,.bool x2)],[.var (U.enc x3),.var (AC.enc x4),.var (U.enc x5),.var (U.enc x6)]⟩
def MM (x0:List Y) (x1:List AD) (x2:Bool) (x3:O) (x4:Y) (x5 x6:O):Option (O×List Y×List AD):=cG UF FB (AE CE) FC ⟨[(3,.ptr 0 0),(5,.ptr 1 0),(6,.ptr 2 0),(9,.ptr 3 0),(10,.lst AC x0),(11,.lst Aj x1),(50,.bool x2)],[.var (U.enc x3),.var (AC.enc x4),.var (U.enc x5),.var (U.enc x6)]⟩
def MN (x0:List Y) (x1:List AD) (x2:Bool) (x3:O) (x4:Y) (x5 x6:O):Option (O×List Y×List AD):=cG Rx FB (AE CE) FC ⟨[(5,.ptr 1 0),(6,.ptr 2 0),(9,.ptr 3 0),(10,.lst AC x0),(11,.lst Aj x1),(145,.bool x2)],[.var (U.enc x3),.var (AC.enc x4),.var (U.enc x5),.var (U.enc x6)]⟩
def IA (x0:List Y) (x1:List AD) (x2:Int) (x3:O) (x4:Y) (x5 x6:O):Option (O×List Y×List AD):=cG Ry FB (AE CE) FC ⟨[(5,.ptr 1 0),(6,.ptr 2 0),(9,.ptr 3 0),(10,.lst AC x0),(11,.lst Aj x1),(13,.int .i64 x2)],[.var (U.enc x3),.var (AC.enc x4),.var (U.enc x5),.var (U.enc x6)]⟩
def IB (x0:List Y) (x1:List AD) (x2:Bool) (x3:O) (x4:Y) (x5 x6:O):Option (O×List Y×List AD):=cG Rz FB (AE CE) FC ⟨[(5,.ptr 1 0),(6,.ptr 2 0),(9,.ptr 3 0),(10,.lst AC x0),(11,.lst Aj x1),(127,.bool x2)],[.var (U.enc x3),.var (AC.enc x4),.var (U.enc x5),.var (U.enc x6)]⟩
def SP (x0:List Int) (x1:List Y) (x2:List AD) (x3:Bool) (x4:O) (x5:Y) (x6 x7:O):Option (O×List Y×List AD):=(if x3=true then ((Md x0 x5.2.2.2.2.2 x7).bind fun y2=>(some (y2.2,y2.1,x2))) else (some (x7,x1,x2)))
def SQ (x0:List Y) (x1:List AD) (x2:Bool) (x3:O) (x4:Y) (x5 x6:O):Option (O×List Y×List AD):=(if (!x6.2.2.2.1)=true then ((Kb x3 x3.2.1).bind fun y4=>(if ([]:List X).length+x4.2.2.2.2.2.length≤68719476736 then ((Dt x3 x4 4).bind fun y5=>(some ((y4.1,y4.2.1,y4.2.2.1,true,y4.2.2.2.2.1,y4.2.2.2.2.2.1,y4.2.2.2.2.2.2.1,(([]:List X)++x4.2.2.2.2.2),y4.2.2.2.2.2.2.2.2),y5,x1))) else none)) else ((Dt x3 x4 4).bind fun y6=>(some (x6,y6,x1))))
def SS (x0:List Y) (x1:List AD) (x2:Bool) (x3:O) (x4:Y) (x5 x6:O):Option (O×List Y×List AD):=(if (!x6.2.2.2.1)=true then (if x6.2.2.1=true then (some (x6,x0,x1)) else (H_ x0 x1 x6.2.2.1 x3 x4 x5 x6)) else (H_ x0 x1 false x3 x4 x5 x6))
def ST (x0:List Y) (x1:List AD) (x2:Bool) (x3:O) (x4:Y) (x5 x6:O):Option (O×List Y×List AD):=((HE x6.2.2.2.2.2.2.2.2.2.2.2.2.2 x4.2.1).bind fun y11=>(if ((y11.length:Int)==0)=true then ((F9 (x6.1,x6.2.1,x6.2.2.1,x6.2.2.2.1,x6.2.2.2.2.1,x6.2.2.2.2.2.1,x6.2.2.2.2.2.2.1,x6.2.2.2.2.2.2.2.1,x6.2.2.2.2.2.2.2.2.1,x6.2.2.2.2.2.2.2.2.2.1,x6.2.2.2.2.2.2.2.2.2.2.1,x6.2.2.2.2.2.2.2.2.2.2.2.1,x6.2.2.2.2.2.2.2.2.2.2.2.2.1,y11)).bind fun y12=>(some (y12.2,x0,y12.1))) else (some ((x6.1,x6.2.1,x6.2.2.1,x6.2.2.2.1,x6.2.2.2.2.1,x6.2.2.2.2.2.1,x6.2.2.2.2.2.2.1,x6.2.2.2.2.2.2.2.1,x6.2.2.2.2.2.2.2.2.1,x6.2.2.2.2.2.2.2.2.2.1,x6.2.2.2.2.2.2.2.2.2.2.1,x6.2.2.2.2.2.2.2.2.2.2.2.1,x6.2.2.2.2.2.2.2.2.2.2.2.2.1,y11),x0,x1))))
def SU (x0:List Y) (x1:List AD) (x2:Int) (x3:O) (x4:Y) (x5 x6:O):Option (O×List Y×List AD):=(if (x6.2.2.2.2.2.2.2.2.2.1 != x2)=false then (if (x6.2.2.2.2.2.2.2.2.2.2.2.1 != x4.2.2.2.2.1)=true then (some (x6,x0,x1)) else (MN x0 x1 (x6.2.2.2.2.2.2.2.2.2.2.2.1 != x4.2.2.2.2.1) x3 x4 x5 x6)) else (some (x6,x0,x1)))
def SV (x0:List Y) (x1:List AD) (x2:Bool) (x3:O) (x4:Y) (x5 x6:O):Option (O×List Y×List AD):=(if x2=true then (if (x4.1==8)=true then (IA x0 x1 2 x3 x4 x5 x6) else (IA x0 x1 1 x3 x4 x5 x6)) else (some (x6,x0,x1)))
def Xz (x0:O) (x1:List Int) (x2:Y):Option (O×List Y×List AD):=((Cs x0).bind fun y1=>(if (x2.1==2)=true then (if y1.2.2.2.2.1=true then (H9 x1 ([]:List Y) ([]:List AD) (!y1.2.2.2.1) x0 x2 (0,0,false,false,false,false,([]:List Int),([]:List X),0,0,0,0,(ByteArray.empty,ByteArray.empty,0),([]:List Int)) y1) else (H9 x1 ([]:List Y) ([]:List AD) false x0 x2 (0,0,false,false,false,false,([]:List Int),([]:List X),0,0,0,0,(ByteArray.empty,ByteArray.empty,0),([]:List Int)) y1)) else (if (x2.1==3)=true then ((DV x1 x0.1).bind fun y3=>(if (!y3)=true then (some (y1,([]:List Y),([]:List AD))) else (if 0≤(0:Int) then (if 0<(x1.length:Int) then (if ((x1.getD (0:Int).toNat 0)==x0.1)=true then (some (y1,([]:List Y),([]:List AD))) else (MM ([]:List Y) ([]:List AD) ((x1.getD (0:Int).toNat 0)==x0.1) x0 x2 (0,0,false,false,false,false,([]:List Int),([]:List X),0,0,0,0,(ByteArray.empty,ByteArray.empty,0),([]:List Int)) y1)) else none) else none))) else (if (x2.1==4)=true then (if y1.2.2.2.2.1=true then ((HE y1.2.2.2.2.2.2.1 x2.2.1).bind fun y7=>(if y1.2.2.2.1=true then (some ((y1.1,y1.2.1,y1.2.2.1,y1.2.2.2.1,y1.2.2.2.2.1,((y7.length:Int)==0),y7,y1.2.2.2.2.2.2.2),([]:List Y),([]:List AD))) else (some ((y1.1,y1.2.1,y1.2.2.1,y1.2.2.2.1,y1.2.2.2.2.1,false,y7,y1.2.2.2.2.2.2.2),([]:List Y),([]:List AD))))) else (some (y1,([]:List Y),([]:List AD)))) else (if (x2.1==5)=true then (if y1.2.2.2.1=true then (if 0≤(0:Int) then (if 0<(x2.2.2.2.2.2.length:Int) then ((Hd y1.2.2.2.2.2.2.2.1 (x2.2.2.2.2.2.getD (0:Int).toNat (ByteArray.empty,ByteArray.empty,0))).bind fun y8=>((Dt x0 x2 6).bind fun y9=>(some ((y1.1,y1.2.1,y1.2.2.1,y1.2.2.2.1,y1.2.2.2.2.1,y1.2.2.2.2.2.1,y1.2.2.2.2.2.2.1,y8,y1.2.2.2.2.2.2.2.2),y9,([]:List AD))))) else none) else none) else (some (y1,([]:List Y),([]:List AD)))) else (if (x2.1==7)=true then (if y1.2.2.2.1=true then ((Dt x0 x2 8).bind fun y10=>(some (y1,y10,([]:List AD)))) else (some (y1,([]:List Y),([]:List AD)))) else (if (x2.1==6)=true then (IB ([]:List Y) ([]:List AD) (x2.1==6) x0 x2 (0,0,false,false,false,false,([]:List Int),([]:List X),0,0,0,0,(ByteArray.empty,ByteArray.empty,0),([]:List Int)) y1) else (IB ([]:List Y) ([]:List AD) (x2.1==8) x0 x2 (0,0,false,false,false,false,([]:List Int),([]:List X),0,0,0,0,(ByteArray.empty,ByteArray.empty,0),([]:List Int)) y1))))))))
theorem dD:oe SP H9:=jS (by kernel_rfl)
theorem dE:qT SQ H_:=jS (by kernel_rfl)
theorem dF:qT SS MM:=jS (by kernel_rfl)
theorem dG:qT ST MN:=jS (by kernel_rfl)
theorem dH:qT SU IA:=jS (by kernel_rfl)
theorem dI:qT SV IB:=jS (by kernel_rfl)
theorem jq:Q8 Xz RB:=cT CE rfl ⟨rfl,rfl⟩ (by kernel_rfl)
def Wh (x0:O) (x1:Int):Option O:=(if ([]:List X).length+x0.2.2.2.2.2.2.2.1.length≤68719476736 then (some (x0.1,x1,false,false,false,false,([]:List Int),(([]:List X)++x0.2.2.2.2.2.2.2.1),0,0,0,0,(ByteArray.empty,ByteArray.empty,0),([]:List Int))) else none)
theorem jA:RN Wh Kb:=cT KU rfl ⟨rfl,rfl⟩ (by kernel_rfl)
def fj (x0:O) (x1:Y) (x2:Int):Option (List Y):=(some ([(x2,x0.1,x1.2.1,x1.2.2.2.1,x1.2.2.2.2.1,([]:List X))]:List Y))
theorem fk:Q8 fj Dt:=cT It rfl ⟨rfl,rfl⟩ (by kernel_rfl)
def Lv (x0:Bool) (x1:O) (x2:Y):Option (List Y×O):=cG Lf (AE DL) (AE DL) kx ⟨[(0,.ptr 0 0),(5,.ptr 1 0),(37,.bool x0)],[.var (U.enc x1),.var (AC.enc x2)]⟩
def Lw (x0:Bool) (x1:O) (x2:Y):Option (List Y×O):=((FR (x1.1,x2.2.2.2.1,x1.2.2.1,false,x1.2.2.2.2)).bind fun y2=>((Ac ([x2.2.1]:List Int) (2,0,0,0,0,y2.2.2.2.2.2.2.2.1) y2).bind fun y3=>(some (y3.1,y3.2))))
def PW (x1:List (List Int)) (x2:Y) (b0:O):Option (List Y×O):=(if (x2.2.2.2.1 != (i64.wrap (b0.2.1+1)))=true then (some ([],b0)) else (if (!b0.2.2.2.1)=true then (some ([],b0)) else (if 0≤(i64.wrap (b0.2.1-1)) then (if (i64.wrap (b0.2.1-1))<(x1.length:Int) then ((CK (x1.getD (i64.wrap (b0.2.1-1)).toNat ([]:List Int)) b0.1).bind fun y1=>(if (!y1)=true then (some ([],b0)) else (Lv (!y1) b0 x2))) else none) else none)))
theorem VG:Q8 Lw Lv:=jS (by kernel_rfl)
theorem Yz:Q8 PW JD:=cT DL rfl ⟨rfl,rfl⟩ (by kernel_rfl)
def Jh:=cG Jd (AE BN) (AE BN) kx
def SW:=kB [] [0,5] 2 Jh
def SX:=kE 0 [] [0,5] 2 Jh kx
def CV (x0:Bool) (x1:O) (x2:Y):Option (List Y×O):=cG Jc SW (AE BN) SX ⟨[(0,.ptr 0 0),(5,.ptr 1 0),(24,.bool x0)],[.var (U.enc x1),.var (AC.enc x2)]⟩
def Ie (x0:Bool) (x1:O) (x2:Y):Option (List Y×O):=cG Je (AE BN) (AE BN) kx ⟨[(0,.ptr 0 0),(5,.ptr 1 0),(23,.bool x0)],[.var (U.enc x1),.var (AC.enc x2)]⟩
def If (x0:Bool) (x1:O) (x2:Y):Option (List Y×O):=(if x0=true then ((Ab x2.2.2.2.2.2).bind fun y2=>((FR (x1.1,x2.2.2.2.1,false,true,x1.2.2.2.2.1,x1.2.2.2.2.2.1,x1.2.2.2.2.2.2.1,y2,x1.2.2.2.2.2.2.2.2)).bind fun y3=>((Ac ([x2.2.1]:List Int) (4,0,0,0,0,([]:List X)) y3).bind fun y4=>(some (y4.1,y4.2))))) else (if (!x1.2.2.2.1)=true then (some ([],x1)) else ((Ac ([x2.2.1]:List Int) (4,0,0,0,0,([]:List X)) x1).bind fun y5=>(some (y5.1,y5.2)))))
def Ig (x0:Bool) (x1:O) (x2:Y):Option (List Y×O):=(if (decide (x2.2.2.2.1>x1.2.1))=true then (CV true x1 x2) else (if (!x1.2.2.2.1)=true then (CV (!x1.2.2.1) x1 x2) else (CV false x1 x2)))
def Lx (x1:List Int) (x2:Y) (b0:O):Option (List Y×O):=((CK x1 b0.1).bind fun y1=>(if (!y1)=true then (some ([],b0)) else (if 0≤(0:Int) then (if 0<(x1.length:Int) then (if ((x1.getD (0:Int).toNat 0)==b0.1)=true then (some ([],b0)) else (Ie ((x1.getD (0:Int).toNat 0)==b0.1) b0 x2)) else none) else none)))
theorem RG:Q8 If CV:=jS (by kernel_rfl)
theorem RH:Q8 Ig Ie:=jS (by kernel_rfl)
theorem VH:Q8 Lx Gy:=cT BN rfl ⟨rfl,rfl⟩ (by kernel_rfl)
def Wi (x0:List Int) (x1:Int):Option (List Int):=((BX x0).bind fun y1=>((EC y1 x1).bind fun y2=>(some y2)))
theorem jB:RN Wi Kc:=cT KV rfl ⟨rfl,rfl⟩ (by kernel_rfl)
def LA (x0:Bool) (x1:O) (x2:Y):Option (List Y×O):=cG Lg (AE C1) (AE C1) kx ⟨[(0,.ptr 0 0),(3,.ptr 1 0),(18,.bool x0)],[.var (U.enc x1),.var (AC.enc x2)]⟩
def LB (x0:Bool) (x1:O) (x2:Y):Option (List Y×O):=(if (x2.1==7)=true then ((Ac ([x2.2.1]:List Int) (8,0,0,0,x2.2.2.2.2.1,([]:List X)) x1).bind fun y1=>(some (y1.1,y1.2))) else (if 0≤(0:Int) then (if 0<(x2.2.2.2.2.2.length:Int) then ((Ke x1.2.2.2.2.2.2.2.1 (x2.2.2.2.2.2.getD (0:Int).toNat (ByteArray.empty,ByteArray.empty,0))).bind fun y2=>((Ac ([x2.2.1]:List Int) (6,0,0,0,x2.2.2.2.2.1,([]:List X)) (x1.1,x1.2.1,x1.2.2.1,x1.2.2.2.1,x1.2.2.2.2.1,x1.2.2.2.2.2.1,x1.2.2.2.2.2.2.1,y2,x1.2.2.2.2.2.2.2.2)).bind fun y3=>(some (y3.1,y3.2)))) else none) else none))
def N_ (x1:Y) (b0:O):Option (List Y×O):=(if (x1.2.2.2.1 != b0.2.1)=true then (some ([],b0)) else (if (!b0.2.2.2.1)=true then (some ([],b0)) else (LA (!b0.2.2.2.1) b0 x1)))
theorem TW:Q8 LB LA:=jS (by kernel_rfl)
theorem Xd:RN N_ IL:=cT C1 rfl ⟨rfl,rfl⟩ (by kernel_rfl)
def Ji (x0:Bool) (x1:O) (x2:Y):Option (List AD×O):=cG Jf (AE Cj) (AE Cj) kx ⟨[(0,.ptr 0 0),(5,.ptr 1 0),(32,.bool x0)],[.var (U.enc x1),.var (AC.enc x2)]⟩
def Jj (x0:Bool) (x1:O) (x2:Y):Option (List AD×O):=((Kc x1.2.2.2.2.2.2.2.2.2.2.2.2.2 x2.2.1).bind fun y1=>(if (decide ((y1.length:Int)>0))=true then (some ([],(x1.1,x1.2.1,x1.2.2.1,x1.2.2.2.1,x1.2.2.2.2.1,x1.2.2.2.2.2.1,x1.2.2.2.2.2.2.1,x1.2.2.2.2.2.2.2.1,x1.2.2.2.2.2.2.2.2.1,x1.2.2.2.2.2.2.2.2.2.1,x1.2.2.2.2.2.2.2.2.2.2.1,x1.2.2.2.2.2.2.2.2.2.2.2.1,x1.2.2.2.2.2.2.2.2.2.2.2.2.1,y1))) else ((GY (x1.1,x1.2.1,x1.2.2.1,x1.2.2.2.1,x1.2.2.2.2.1,x1.2.2.2.2.2.1,x1.2.2.2.2.2.2.1,x1.2.2.2.2.2.2.2.1,x1.2.2.2.2.2.2.2.2.1,x1.2.2.2.2.2.2.2.2.2.1,x1.2.2.2.2.2.2.2.2.2.2.1,x1.2.2.2.2.2.2.2.2.2.2.2.1,x1.2.2.2.2.2.2.2.2.2.2.2.2.1,y1)).bind fun y2=>(some (y2.1,y2.2)))))
def M6 (x1:Int) (x2:Y) (b0:O):Option (List AD×O):=(if (x2.2.2.2.1 != b0.2.1)=true then (some ([],b0)) else (if (b0.2.2.2.2.2.2.2.2.2.1 != x1)=true then (some ([],b0)) else (if (b0.2.2.2.2.2.2.2.2.2.2.2.1 != x2.2.2.2.2.1)=true then (some ([],b0)) else (Ji (b0.2.2.2.2.2.2.2.2.2.2.2.1 != x2.2.2.2.2.1) b0 x2))))
theorem SY:Q8 Jj Ji:=jS (by kernel_rfl)
theorem Wj:Q8 M6 FS:=cT Cj rfl ⟨rfl,rfl⟩ (by kernel_rfl)
end
end Go.Proofs.YtokiohnjegbnpaaGreat.Core

namespace Go.Proofs.YtokiohnjegbnpaaGreat.Core
open Go IntKind
set_option linter.unusedVariables false
set_option maxRecDepth 100000
noncomputable section
def GM:=kE 0 [] [] 1 (AE AT) kx
def GD:St→Option (RT (BQ.outs AT)):=lG F6 [(0,0)] [0,1,2,3,8,9] 1 (AE AT) GM
def GN:=kB [(0,0)] [0,1,2,3,8,9] 1 GD
def Br:=kB [(0,0)] [0,1,2,3,8,9] 1 GN
def BO:=kE 1 [(0,0)] [0,1,2,3,8,9] 1 GN GM
def M7:=cG DM Br (AE AT) BO
def GE (x0 x1 x2:Int) (x3 x4:Bool) (x5 x6:Int) (x7:Bool) (x8:List Int):Option (List Int):=cG DM Br (AE AT) BO ⟨[(0,.row 0),(1,.int .i64 x0),(2,.int .i64 x1),(3,.int .i64 x2),(8,.bool x3),(9,.bool x4),(10,.int .i64 x5),(11,.int .i64 x6),(87,.bool x7)],[.mrow 3 (.int .i64) x8]⟩
def DP (x0 x1 x2:Int) (x3 x4:Bool) (x5 x6:Int) (x7:Bool) (x8:List Int):Option (List Int):=cG F0 M7 (AE AT) BO ⟨[(0,.row 0),(1,.int .i64 x0),(2,.int .i64 x1),(3,.int .i64 x2),(8,.bool x3),(9,.bool x4),(10,.int .i64 x5),(11,.int .i64 x6),(87,.bool x7)],[.mrow 3 (.int .i64) x8]⟩
def Bl (x0 x1 x2:Int) (x3 x4:Bool) (x5 x6:Int) (x7:List Int):Option (List Int):=cG F3 Br (AE AT) BO ⟨[(0,.row 0),(1,.int .i64 x0),(2,.int .i64 x1),(3,.int .i64 x2),(8,.bool x3),(9,.bool x4),(10,.int .i64 x5),(11,.int .i64 x6)],[.mrow 3 (.int .i64) x7]⟩
def DQ (x0 x1 x2:Int) (x3 x4:Bool) (x5 x6 x7:Int) (x8:List Int):Option (List Int):=cG F4 Br (AE AT) BO ⟨[(0,.row 0),(1,.int .i64 x0),(2,.int .i64 x1),(3,.int .i64 x2),(8,.bool x3),(9,.bool x4),(10,.int .i64 x5),(11,.int .i64 x6),(12,.int .i64 x7)],[.mrow 3 (.int .i64) x8]⟩
def DR (x0 x1 x2:Int) (x3 x4:Bool) (x5:Int) (x6:List Int):Option (List Int):=cG F5 Br (AE AT) BO ⟨[(0,.row 0),(1,.int .i64 x0),(2,.int .i64 x1),(3,.int .i64 x2),(8,.bool x3),(9,.bool x4),(10,.int .i64 x5)],[.mrow 3 (.int .i64) x6]⟩
def Bm (x0 x1 x2:Int) (x3 x4:Bool) (x5:List Int):Option (List Int):=GD ⟨[(0,.row 0),(1,.int .i64 x0),(2,.int .i64 x1),(3,.int .i64 x2),(8,.bool x3),(9,.bool x4)],[.mrow 3 (.int .i64) x5]⟩
def MO (x0 x1 x2:Int) (x3 x4:Bool) (x5 x6:Int) (x7:Bool) (x8:List Int):Option (List Int):=((Mv x0 x1 x6 x8).bind fun y9=>(if 8=0 then none else (if (decide ((i64.wrap (y9.1-x0))<(i64.wrap (x1-y9.1))))=true then ((B8 x0 y9.1 x2 y9.2.2).bind fun y10=>(Bm (i64.wrap (y9.1+1)) x1 x2 (decide ((i64.wrap (y9.1-x0))≥(i64.wrap (Int.tdiv x5 8)))) y9.2.1 y10)) else ((B8 (i64.wrap (y9.1+1)) x1 x2 y9.2.2).bind fun y11=>(Bm x0 y9.1 x2 (decide ((i64.wrap (x1-y9.1))≥(i64.wrap (Int.tdiv x5 8)))) y9.2.1 y11)))))
def MP (x0 x1 x2:Int) (x3 x4:Bool) (x5 x6:Int) (x7:Bool) (x8:List Int):Option (List Int):=(if x7=true then ((JE x0 x1 x6 x8).bind fun y8=>(Bm y8.1 x1 x2 x3 x4 y8.2)) else (GE x0 x1 x2 x3 x4 x5 x6 x7 x8))
def MQ (x0 x1 x2:Int) (x3 x4:Bool) (x5 x6:Int) (x7:List Int):Option (List Int):=(if (decide (x0>0))=true then (if 0≤(i64.wrap (x0-1)) then (if (i64.wrap (x0-1))<(x7.length:Int) then (if 0≤x6 then (if x6<(x7.length:Int) then ((Kf (x7.getD ((i64.wrap (x0-1)).toNat) 0) (x7.getD x6.toNat 0)).bind fun y7=>(DP x0 x1 x2 x3 x4 x5 x6 (!y7) x7)) else none) else none) else none) else none) else (DP x0 x1 x2 x3 x4 x5 x6 false x7))
def MR (x0 x1 x2:Int) (x3 x4:Bool) (x5 x6 x7:Int) (x8:List Int):Option (List Int):=(if x3=true then (if x4=true then (if (x7==1)=true then ((Gz x0 x1 x8).bind fun y6=>(if y6.1=true then (some y6.2) else (Bl x0 x1 x2 x3 x4 x5 x6 y6.2))) else (Bl x0 x1 x2 x3 x4 x5 x6 x8)) else (Bl x0 x1 x2 x3 x4 x5 x6 x8)) else (Bl x0 x1 x2 x3 x4 x5 x6 x8))
def MS (x0 x1 x2:Int) (x3 x4:Bool) (x5:Int) (x6:List Int):Option (List Int):=((LO x0 x1 x6).bind fun y4=>(if (y4.2.1==2)=true then ((Kh x0 x1 y4.2.2).bind fun y5=>(DQ x0 x1 x2 x3 x4 x5 (i64.wrap ((i64.wrap (x1-1))-(i64.wrap (y4.1-x0)))) 1 y5)) else (DQ x0 x1 x2 x3 x4 x5 y4.1 y4.2.1 y4.2.2)))
def GF (x0 x1 x2:Int) (x3 x4:Bool) (x5:List Int):Option (List Int):=(if (decide ((i64.wrap (x1-x0))≤12))=true then ((Cn x0 x1 x5).bind fun y1=>(some y1)) else (if (x2==0)=true then ((NQ x0 x1 x5).bind fun y2=>(some y2)) else (if (!x3)=true then ((Jq x0 x1 x5).bind fun y3=>(DR x0 x1 (i64.wrap (x2-1)) x3 x4 (i64.wrap (x1-x0)) y3)) else (DR x0 x1 x2 x3 x4 (i64.wrap (x1-x0)) x5))))
def HO (x1 x2 x3:Int) (b0:List Int):Option (List Int):=(Bm x1 x2 x3 true true b0)
theorem dJ:sb MO GE:=jS (by kernel_rfl)
theorem dL:sb MP DP:=jS (by kernel_rfl)
theorem dM:oe MQ Bl:=jS (by kernel_rfl)
theorem dN:sb MR DQ:=jS (by kernel_rfl)
theorem dO:qT MS DR:=jS (by kernel_rfl)
theorem MT:nq GF Bm:=lS (by kernel_rfl)
theorem OR:eQ HO B8:=cT AT rfl ⟨rfl,rfl⟩ (by kernel_rfl)
def Ur (x0:Int):Option Int:=((Kg x0).bind fun y1=>(some y1))
theorem fm:RM Ur NP:=cT Iu rfl ⟨rfl,rfl⟩ (by kernel_rfl)
def HQ (x0:List X) (x1:X) (x2:List X):Option (List X):=cG R2 (AE Df) (AE Df) kx ⟨[(0,.lst AB x0),(5,.row 1)],[.var (AB.enc x1),.rows 38 AB x2]⟩
def HR (x0:List X) (x1:Int) (x2 x3:Bool) (x4:X) (x5:List X):Option (List X):=cG R3 (AE Df) (AE Df) kx ⟨[(0,.lst AB x0),(3,.ptr 0 0),(5,.row 1),(6,.int .i64 x1),(7,.bool x2),(32,.bool x3)],[.var (AB.enc x4),.rows 38 AB x5]⟩
def Qv (x0:List X) (x1:X) (x2:List X):Option (List X):=((Ec x2).bind fun y5=>(if (!y5)=true then ((Ab x0).bind fun y6=>(some y6)) else (some x2)))
def Qw (x0:List X) (x1:Int) (x2 x3:Bool) (x4:X) (x5:List X):Option (List X):=(if x2=true then (if 0≤x1 then (if x1<(x5.length:Int) then (let z4:List X:=x5.set x1.toNat x4; (HQ x0 x4 z4)) else none) else none) else ((CU x5 x1 ([x4]:List X)).bind fun y7=>(HQ x0 x4 y7)))
def Wk (x0:List X) (x1:X):Option (List X):=((Ab x0).bind fun y1=>((BG x0 x1.1 ()).bind fun y2=>((Ec x0).bind fun y3=>(if (!y3)=true then (some y1) else (if y2.2=true then (if 0≤y2.1 then (if y2.1<(x0.length:Int) then (if (decide ((((x0.getD y2.1.toNat (ByteArray.empty,ByteArray.empty,0)).2).2)≥x1.2.2))=true then (some y1) else (HR x0 y2.1 y2.2 (decide ((((x0.getD y2.1.toNat (ByteArray.empty,ByteArray.empty,0)).2).2)≥x1.2.2)) x1 y1)) else none) else none) else (HR x0 y2.1 y2.2 false x1 y1))))))
theorem an:Q8 Qv HQ:=jS (by kernel_rfl)
theorem aq:nq Qw HR:=jS (by kernel_rfl)
theorem jC:RN Wk Ke:=cT Df rfl ⟨rfl,rfl⟩ (by kernel_rfl)
def fo:=cG UI (AE EJ) (AE EJ) kx
def fp:=kE 0 [] [] 0 fo kx
def dP:St→Option (RT (BQ.outs EJ)):=lG UH [] [0,3] 0 (AE EJ) fp
def GG (x0:List Int) (x1:Int):Option Bool:=dP ⟨[(0,.lst (.int .i64) x0),(3,.int .i64 x1)],[]⟩
def MU (x0:List Int) (x1:Int):Option Bool:=(if (decide (x1<(x0.length:Int)))=true then (if 0≤x1 then (if x1<(x0.length:Int) then ((AP (x0.getD x1.toNat 0) 1 6).bind fun y1=>(if (!y1)=true then (some false) else (if (decide (x1>0))=true then (if 0≤(i64.wrap (x1-1)) then (if (i64.wrap (x1-1))<(x0.length:Int) then (if 0≤x1 then (if x1<(x0.length:Int) then (if (decide ((x0.getD (i64.wrap (x1-1)).toNat 0)≥(x0.getD x1.toNat 0)))=true then (some false) else (GG x0 (i64.wrap (x1+1)))) else none) else none) else none) else none) else (GG x0 (i64.wrap (x1+1)))))) else none) else none) else (some true))
def X0 (x0:List Int):Option Bool:=(GG x0 0)
theorem SZ:RN MU GG:=lS (by kernel_rfl)
theorem jr:RM X0 Cp:=cT EJ rfl ⟨rfl,rfl⟩ (by kernel_rfl)
def dQ:=cG QO (AE Dg) (AE Dg) kx
def dR:=kE 0 [] [0] 0 dQ kx
def ar:St→Option (RT (BQ.outs Dg)):=lG QN [] [0,3] 0 (AE Dg) dR
def Fa (x0:List X) (x1:Int):Option Bool:=ar ⟨[(0,.lst AB x0),(3,.int .i64 x1)],[]⟩
def LC (x0:List X) (x1:Int):Option Bool:=(if (decide (x1<(x0.length:Int)))=true then (if 0≤x1 then (if x1<(x0.length:Int) then ((AP (((x0.getD x1.toNat (ByteArray.empty,ByteArray.empty,0)).1).size:Int) 1 12).bind fun y1=>(if (!y1)=true then (some false) else (if (decide (((((x0.getD x1.toNat (ByteArray.empty,ByteArray.empty,0)).2).1).size:Int)>20))=true then (some false) else ((AP (((x0.getD x1.toNat (ByteArray.empty,ByteArray.empty,0)).2).2) 1 1000000000).bind fun y2=>(if (!y2)=true then (some false) else (if (decide (x1>0))=true then (if 0≤(i64.wrap (x1-1)) then (if (i64.wrap (x1-1))<(x0.length:Int) then (if (!(Op.bytesLess ((x0.getD (i64.wrap (x1-1)).toNat (ByteArray.empty,ByteArray.empty,0)).1).toList ((x0.getD x1.toNat (ByteArray.empty,ByteArray.empty,0)).1).toList))=true then (some false) else (Fa x0 (i64.wrap (x1+1)))) else none) else none) else (Fa x0 (i64.wrap (x1+1))))))))) else none) else none) else (some (decide ((x0.length:Int)≤12))))
def Wl (x0:List X):Option Bool:=(Fa x0 0)
theorem Qx:RN LC Fa:=lS (by kernel_rfl)
theorem jD:RM Wl Cw:=cT Dg rfl ⟨rfl,rfl⟩ (by kernel_rfl)
def Sa (x0:km):Option Bool:=(if (x0.1==0)=true then (if (x0.2.1==0)=true then (if (x0.2.2.1==0)=true then (if (false != VM AB x0.2.2.2.1 (ByteArray.empty,ByteArray.empty,0))=true then (some ((x0.2.2.2.2.length:Int)==0)) else (some false)) else (some false)) else (some false)) else (some false))
theorem dS:RM Sa ME:=cT Hu rfl ⟨rfl,rfl⟩ (by kernel_rfl)
def Xe:=cG Nq (AE CQ) (AE CQ) kx
def Xf:=kE 0 [(5,0)] [5] 1 Xe kx
def Wm:St→Option (RT (BQ.outs CQ)):=lG Np [(5,0)] [0,1,5,6] 1 (AE CQ) Xf
def Dj (x0:List Int) (x1 x2:Int) (x3:List Int):Option (List Int):=Wm ⟨[(0,.lst (.int .i64) x0),(1,.int .i64 x1),(5,.row 0),(6,.int .i64 x2)],[.rows 3 (.int .i64) x3]⟩
def Hi (x0:List Int) (x1 x2:Int) (x3:List Int):Option (List Int):=(if (decide (x2<(x0.length:Int)))=true then (if 0≤x2 then (if x2<(x0.length:Int) then (if ((x0.getD x2.toNat 0) != x1)=true then (if 0≤x2 then (if x2<(x0.length:Int) then (if x3.length+([(x0.getD x2.toNat 0)]:List Int).length≤68719476736 then (Dj x0 x1 (i64.wrap (x2+1)) (x3++([(x0.getD x2.toNat 0)]:List Int))) else none) else none) else none) else (Dj x0 x1 (i64.wrap (x2+1)) x3)) else none) else none) else (some x3))
def Qy (x0:List Int) (x1:Int):Option (List Int):=(Dj x0 x1 0 ([]:List Int))
theorem M8:eQ Hi Dj:=lS (by kernel_rfl)
theorem au:RN Qy HE:=cT CQ rfl ⟨rfl,rfl⟩ (by kernel_rfl)
def CW:=kE 0 [] [] 1 (AE AO) kx
def D0:St→Option (RT (BQ.outs AO)):=lG EN [(0,0)] [0,1,2,6] 1 (AE AO) CW
def Ih:=kB [(0,0)] [0,1,2,6] 1 D0
def EP:=cG EM Ih (AE AO) CW
def Ii:=kB [(0,0)] [0,1,2,6] 1 EP
def Ij:=kE 1 [(0,0)] [0,1,2,6] 1 EP CW
def EQ:=kE 2 [(0,0)] [0,1,2,6] 1 Ii Ij
def D1:St→Option (RT (BQ.outs AO)):=lG EL [(0,0)] [0,1,2,6,7] 1 (AE AO) EQ
def Ik:=kB [(0,0)] [0,1,2,6,7] 1 D1
def D2 (x0 x1 x2 x3:Int) (x4:Bool) (x5:List Int):Option (List Int):=cG EK Ik (AE AO) EQ ⟨[(0,.row 0),(1,.int .i64 x0),(2,.int .i64 x1),(6,.int .i64 x2),(7,.int .i64 x3),(30,.bool x4)],[.mrow 3 (.int .i64) x5]⟩
def Bg (x0 x1 x2 x3:Int) (x4:List Int):Option (List Int):=D1 ⟨[(0,.row 0),(1,.int .i64 x0),(2,.int .i64 x1),(6,.int .i64 x2),(7,.int .i64 x3)],[.mrow 3 (.int .i64) x4]⟩
def Am (x0 x1 x2:Int) (x3:List Int):Option (List Int):=D0 ⟨[(0,.row 0),(1,.int .i64 x0),(2,.int .i64 x1),(6,.int .i64 x2)],[.mrow 3 (.int .i64) x3]⟩
def D3 (x0 x1 x2 x3:Int) (x4:Bool) (x5:List Int):Option (List Int):=(if 0≤(i64.wrap (x3-1)) then (if (i64.wrap (x3-1))<(x5.length:Int) then (if 0≤x3 then (if x3<(x5.length:Int) then (if 0≤x3 then (if x3<(x5.length:Int) then (let z2:List Int:=x5.set x3.toNat (x5.getD ((i64.wrap (x3-1)).toNat) 0); (if 0≤(i64.wrap (x3-1)) then (if (i64.wrap (x3-1))<(z2.length:Int) then (let z3:List Int:=z2.set ((i64.wrap (x3-1)).toNat) (x5.getD x3.toNat 0); (Bg x0 x1 x2 (i64.wrap (x3-1)) z3)) else none) else none)) else none) else none) else none) else none) else none) else none)
def CO (x0 x1 x2 x3:Int) (x4:List Int):Option (List Int):=(if (decide (x3>x0))=true then (if 0≤x3 then (if x3<(x4.length:Int) then (if 0≤(i64.wrap (x3-1)) then (if (i64.wrap (x3-1))<(x4.length:Int) then ((Kf (x4.getD x3.toNat 0) (x4.getD ((i64.wrap (x3-1)).toNat) 0)).bind fun y1=>(if y1=true then (D2 x0 x1 x2 x3 y1 x4) else (Am x0 x1 (i64.wrap (x2+1)) x4))) else none) else none) else none) else none) else (Am x0 x1 (i64.wrap (x2+1)) x4))
def Bh (x0 x1 x2:Int) (x3:List Int):Option (List Int):=(if (decide (x2<x1))=true then (Bg x0 x1 x2 x2 x3) else (some x3))
def Co (x1 x2:Int) (b0:List Int):Option (List Int):=(Am x1 x2 (i64.wrap (x1+1)) b0)
theorem IT:nq D3 D2:=jS (by kernel_rfl)
theorem D4:nG CO Bg:=lS (by kernel_rfl)
theorem CP:eQ Bh Am:=lS (by kernel_rfl)
theorem E4:Q8 Co Cn:=cT AO rfl ⟨rfl,rfl⟩ (by kernel_rfl)
def Wn (x0 x1:Int):Option Bool:=((Ix x0).bind fun y1=>(if y1=true then ((Ix x1).bind fun y2=>(if (!y2)=false then (some (decide (x0<x1))) else (some true))) else (some (decide (x0<x1)))))
theorem jE:RN Wn Kf:=cT KX rfl ⟨rfl,rfl⟩ (by kernel_rfl)
def Fb (x0 x1:Int):Option Int:=cG Nr (AE CR) (AE CR) kx ⟨[(0,.int .u64 x0),(2,.int .i64 x1)],[]⟩
def Hj (x0 x1:Int):Option Int:=cG Ns (AE CR) (AE CR) kx ⟨[(0,.int .u64 x0),(2,.int .i64 x1)],[]⟩
def Hk (x0 x1:Int):Option Int:=(if (decide (x0≥256))=true then (if 8<0 then none else (if 0≤(IntKind.u8.wrap (Int.fdiv x0 (2^(min (8:Int).toNat (IntKind.bits .u64))))) then (if (IntKind.u8.wrap (Int.fdiv x0 (2^(min (8:Int).toNat (IntKind.bits .u64)))))<((⟨#[0,1,2,2,3,3,3,3,4,4,4,4,4,4,4,4,5,5,5,5,5,5,5,5,5,5,5,5,5,5,5,5,6,6,6,6,6,6,6,6,6,6,6,6,6,6,6,6,6,6,6,6,6,6,6,6,6,6,6,6,6,6,6,6,7,7,7,7,7,7,7,7,7,7,7,7,7,7,7,7,7,7,7,7,7,7,7,7,7,7,7,7,7,7,7,7,7,7,7,7,7,7,7,7,7,7,7,7,7,7,7,7,7,7,7,7,7,7,7,7,7,7,7,7,7,7,7,7,8,8,8,8,8,8,8,8,8,8,8,8,8,8,8,8,8,8,8,8,8,8,8,8,8,8,8,8,8,8,8,8,8,8,8,8,8,8,8,8,8,8,8,8,8,8,8,8,8,8,8,8,8,8,8,8,8,8,8,8,8,8,8,8,8,8,8,8,8,8,8,8,8,8,8,8,8,8,8,8,8,8,8,8,8,8,8,8,8,8,8,8,8,8,8,8,8,8,8,8,8,8,8,8,8,8,8,8,8,8,8,8,8,8,8,8,8,8,8,8,8,8,8,8,8,8,8,8]⟩:ByteArray).size:Int) then (some (i64.wrap ((i64.wrap (x1+8))+(i64.wrap (((⟨#[0,1,2,2,3,3,3,3,4,4,4,4,4,4,4,4,5,5,5,5,5,5,5,5,5,5,5,5,5,5,5,5,6,6,6,6,6,6,6,6,6,6,6,6,6,6,6,6,6,6,6,6,6,6,6,6,6,6,6,6,6,6,6,6,7,7,7,7,7,7,7,7,7,7,7,7,7,7,7,7,7,7,7,7,7,7,7,7,7,7,7,7,7,7,7,7,7,7,7,7,7,7,7,7,7,7,7,7,7,7,7,7,7,7,7,7,7,7,7,7,7,7,7,7,7,7,7,7,8,8,8,8,8,8,8,8,8,8,8,8,8,8,8,8,8,8,8,8,8,8,8,8,8,8,8,8,8,8,8,8,8,8,8,8,8,8,8,8,8,8,8,8,8,8,8,8,8,8,8,8,8,8,8,8,8,8,8,8,8,8,8,8,8,8,8,8,8,8,8,8,8,8,8,8,8,8,8,8,8,8,8,8,8,8,8,8,8,8,8,8,8,8,8,8,8,8,8,8,8,8,8,8,8,8,8,8,8,8,8,8,8,8,8,8,8,8,8,8,8,8,8,8,8,8,8,8]⟩:ByteArray).data.toList.getD (IntKind.u8.wrap (Int.fdiv x0 (2^(min (8:Int).toNat (IntKind.bits .u64))))).toNat 0).toNat:Int))))) else none) else none)) else (if 0≤(IntKind.u8.wrap x0) then (if (IntKind.u8.wrap x0)<((⟨#[0,1,2,2,3,3,3,3,4,4,4,4,4,4,4,4,5,5,5,5,5,5,5,5,5,5,5,5,5,5,5,5,6,6,6,6,6,6,6,6,6,6,6,6,6,6,6,6,6,6,6,6,6,6,6,6,6,6,6,6,6,6,6,6,7,7,7,7,7,7,7,7,7,7,7,7,7,7,7,7,7,7,7,7,7,7,7,7,7,7,7,7,7,7,7,7,7,7,7,7,7,7,7,7,7,7,7,7,7,7,7,7,7,7,7,7,7,7,7,7,7,7,7,7,7,7,7,7,8,8,8,8,8,8,8,8,8,8,8,8,8,8,8,8,8,8,8,8,8,8,8,8,8,8,8,8,8,8,8,8,8,8,8,8,8,8,8,8,8,8,8,8,8,8,8,8,8,8,8,8,8,8,8,8,8,8,8,8,8,8,8,8,8,8,8,8,8,8,8,8,8,8,8,8,8,8,8,8,8,8,8,8,8,8,8,8,8,8,8,8,8,8,8,8,8,8,8,8,8,8,8,8,8,8,8,8,8,8,8,8,8,8,8,8,8,8,8,8,8,8,8,8,8,8,8,8]⟩:ByteArray).size:Int) then (some (i64.wrap (x1+(i64.wrap (((⟨#[0,1,2,2,3,3,3,3,4,4,4,4,4,4,4,4,5,5,5,5,5,5,5,5,5,5,5,5,5,5,5,5,6,6,6,6,6,6,6,6,6,6,6,6,6,6,6,6,6,6,6,6,6,6,6,6,6,6,6,6,6,6,6,6,7,7,7,7,7,7,7,7,7,7,7,7,7,7,7,7,7,7,7,7,7,7,7,7,7,7,7,7,7,7,7,7,7,7,7,7,7,7,7,7,7,7,7,7,7,7,7,7,7,7,7,7,7,7,7,7,7,7,7,7,7,7,7,7,8,8,8,8,8,8,8,8,8,8,8,8,8,8,8,8,8,8,8,8,8,8,8,8,8,8,8,8,8,8,8,8,8,8,8,8,8,8,8,8,8,8,8,8,8,8,8,8,8,8,8,8,8,8,8,8,8,8,8,8,8,8,8,8,8,8,8,8,8,8,8,8,8,8,8,8,8,8,8,8,8,8,8,8,8,8,8,8,8,8,8,8,8,8,8,8,8,8,8,8,8,8,8,8,8,8,8,8,8,8,8,8,8,8,8,8,8,8,8,8,8,8,8,8,8,8,8,8]⟩:ByteArray).data.toList.getD (IntKind.u8.wrap x0).toNat 0).toNat:Int))))) else none) else none))
def M9 (x0 x1:Int):Option Int:=(if (decide (x0≥65536))=true then (if 16<0 then none else (Fb (Int.fdiv x0 (2^(min (16:Int).toNat (IntKind.bits .u64)))) (i64.wrap (x1+16)))) else (Fb x0 x1))
def Qz (x0:Int):Option Int:=(if (decide (x0≥4294967296))=true then (if 32<0 then none else (Hj (Int.fdiv x0 (2^(min (32:Int).toNat (IntKind.bits .u64)))) 32)) else (Hj x0 0))
theorem Wo:RN Hk Fb:=jS (by kernel_rfl)
theorem Wp:RN M9 Hj:=jS (by kernel_rfl)
theorem ax:RM Qz Kg:=cT CR rfl ⟨rfl,rfl⟩ (by kernel_rfl)
def Dw:=cG BD (AE AG) (AE AG) kx
def Dx:=kE 0 [] [0,1,2,8,9] 0 Dw kx
def Dl:St→Option (RT (BQ.outs AG)):=lG B2 [] [0,1,2,8,9,10] 0 (AE AG) Dx
def By (x0:List X) (x1:ByteArray) (x2 x3:Int):Option (Int×Bool):=cG BD (AE AG) (AE AG) kx ⟨[(0,.lst AB x0),(1,.str x1),(2,.fn 160 []),(8,.int .i64 x2),(9,.int .i64 x3)],[]⟩
def AI (x0:List X) (x1:ByteArray) (x2 x3 x4:Int):Option (Int×Bool):=Dl ⟨[(0,.lst AB x0),(1,.str x1),(2,.fn 160 []),(8,.int .i64 x2),(9,.int .i64 x3),(10,.int .i64 x4)],[]⟩
def Bz (x0:List X) (x1:ByteArray) (x2 x3:Int):Option (Int×Bool):=(if (decide (x3<x2))=true then (if 0≤x3 then (if x3<(x0.length:Int) then ((Hz (x0.getD x3.toNat (ByteArray.empty,ByteArray.empty,0)) x1).bind fun y2=>(some (x3,(y2==0)))) else none) else none) else (some (x3,false)))
def BA (x0:List X) (x1:ByteArray) (x2 x3 x4:Int):Option (Int×Bool):=(if (decide (x3<x4))=true then (if 1<0 then none else (if 0≤(i64.wrap (Int.fdiv (IntKind.u64.wrap (i64.wrap (x3+x4))) (2^(min (1:Int).toNat (IntKind.bits .u64))))) then (if (i64.wrap (Int.fdiv (IntKind.u64.wrap (i64.wrap (x3+x4))) (2^(min (1:Int).toNat (IntKind.bits .u64)))))<(x0.length:Int) then ((Hz (x0.getD (i64.wrap (Int.fdiv (IntKind.u64.wrap (i64.wrap (x3+x4))) (2^(min (1:Int).toNat (IntKind.bits .u64))))).toNat (ByteArray.empty,ByteArray.empty,0)) x1).bind fun y1=>(if (decide (y1<0))=true then (AI x0 x1 x2 (i64.wrap ((i64.wrap (Int.fdiv (IntKind.u64.wrap (i64.wrap (x3+x4))) (2^(min (1:Int).toNat (IntKind.bits .u64)))))+1)) x4) else (AI x0 x1 x2 x3 (i64.wrap (Int.fdiv (IntKind.u64.wrap (i64.wrap (x3+x4))) (2^(min (1:Int).toNat (IntKind.bits .u64)))))))) else none) else none)) else (By x0 x1 x2 x3))
def B9 (x0:List X) (x1:ByteArray) (x2:Unit):Option (Int×Bool):=(AI x0 x1 (x0.length:Int) 0 (x0.length:Int))
theorem Dm:eQ Bz By:=jS (by kernel_rfl)
theorem B0:nG BA AI:=lS (by kernel_rfl)
theorem EE:Q8 B9 BG:=cT AG rfl ⟨rfl,rfl⟩ (by kernel_rfl)
def Sb (x0:X) (x1:ByteArray):Option Int:=((Ki x0.1 x1).bind fun y1=>(some y1))
theorem dU:RN Sb Hz:=cT Hv rfl ⟨rfl,rfl⟩ (by kernel_rfl)
def Us (x0:Int):Option Bool:=(some (x0 != x0))
theorem fq:RM Us Ix:=cT Iv rfl ⟨rfl,rfl⟩ (by kernel_rfl)
end
end Go.Proofs.YtokiohnjegbnpaaGreat.Core


namespace Go.Proofs.YtokiohnjegbnpaaGreat.Core
open Go
set_option linter.unusedVariables false
theorem AX {n:Int} (h:-9223372036854775808≤n∧n≤9223372036854775807):IntKind.i64.wrap n=n:=IntWalk.i64_in n h
theorem AU {i:Nat} (h:i<9223372036854775807):IntKind.i64.wrap ((i:Int)+1)=((i+1:Nat):Int):=by
 rw [AX (by omega)]
 omega
theorem G7 {P:Nat→Prop} {n:Nat} (h0:P n) (h:∀ i,i<n→P (i+1)→P i):∀ i,i≤n→P i:=by
 intro i hi
 induction hk:n-i generalizing i with
 | zero =>
  have:i=n:=by omega
  subst this
  exact h0
 | succ k ih=>exact h i (by omega) (ih (i+1) (by omega) (by omega))
theorem AY {α:Type} {xs:List α} {i:Nat} {d:α} (h:i<xs.length):xs.getD i d=xs[i]:=by
 simp [List.getD,h]
end Go.Proofs.YtokiohnjegbnpaaGreat.Core

namespace Go.Proofs.YtokiohnjegbnpaaGreat.Core
open Go
set_option linter.unusedVariables false
theorem Au (a b c:Int):AP a b c=some (decide (b≤a)&&decide (a≤c)):=lL (by
 unfold Z7
 by_cases h:b≤a<;>simp [h])
theorem Al (a b c:Int):Ae a b c=some (decide (b≤a)&&decide (a≤c)):=ic (by
 unfold WG
 by_cases h:b≤a<;>simp [h])
end Go.Proofs.YtokiohnjegbnpaaGreat.Core

namespace Go.Proofs.YtokiohnjegbnpaaGreat.Core
open Go
set_option linter.unusedVariables false
def C0 (x:List (ByteArray×ByteArray×Int)) (k:ByteArray):ByteArray×ByteArray×Int :=
 (x.find? fun a=>a.1.toList==k.toList).getD (ByteArray.empty,ByteArray.empty,0)
theorem Bt {α:Type} {x:List α} {i:Nat} (h:i<x.length):x.drop i=x[i]::x.drop (i+1):=List.drop_eq_getElem_cons h
theorem Sc (x k) (h:x.length≤maxLen):Mc x k=some (C0 x k):=jo (by
 have hm:x.length≤9223372036854775807:=h
 unfold Xx
 exact G7 (n:=x.length) (P:=fun i=>∀ z,H8 x k (i:Int) z=some (C0 (x.drop i) k)) (fun z=>SK (by
  unfold MJ
  rw [if_neg (by simp),List.drop_length]
  rfl)) (fun i hi ih z=>SK (by
  unfold MJ
  simp only [show ((i:Int)<(x.length:Int)) from by omega,decide_true,if_true,show (0:Int)≤(i:Int) from by omega,Int.toNat_natCast,AY hi,AU (show i<9223372036854775807 by omega)]
  rw [Bt hi]
  by_cases hk:(x[i].1.toList==k.toList)=true
  ·rw [if_pos hk]
   unfold C0
   rw [List.find?_cons,hk]
   rfl
  ·rw [if_neg hk,ih]
   unfold C0
   rw [List.find?_cons,Bool.eq_false_iff.2 hk])) 0 (by omega) _)
theorem Sd (x k) (h:x.length≤maxLen):Mb x k=some (C0 x k):=jn (by
 have hm:x.length≤9223372036854775807:=h
 unfold Xw
 exact G7 (n:=x.length) (P:=fun i=>∀ z,H7 k x (x.length:Int) (i:Int) z=some (C0 (x.drop i) k)) (fun z=>SG (by
  unfold MI
  rw [if_neg (by simp),List.drop_length]
  rfl)) (fun i hi ih z=>SG (by
  unfold MI
  simp only [show ((i:Int)<(x.length:Int)) from by omega,decide_true,if_true,show (0:Int)≤(i:Int) from by omega,Int.toNat_natCast,AY hi,AU (show i<9223372036854775807 by omega)]
  rw [Bt hi]
  by_cases hk:(x[i].1.toList==k.toList)=true
  ·rw [if_pos hk]
   unfold C0
   rw [List.find?_cons,hk]
   rfl
  ·rw [if_neg hk,ih]
   unfold C0
   rw [List.find?_cons,Bool.eq_false_iff.2 hk])) 0 (by omega) _)
end Go.Proofs.YtokiohnjegbnpaaGreat.Core

namespace Go.Proofs.YtokiohnjegbnpaaGreat.Core
open Go
set_option linter.unusedVariables false
theorem Nc k:OM k=some (decide (1≤(k.size:Int))&&decide ((k.size:Int)≤12)):=lN (by simp [aM,Al])
theorem GH n:EO n=some (decide (1≤n)&&decide (n≤6)):=jm (by simp [Xu,Al])
def lV (v:ByteArray):Bool:=v.toList==(⟨#[]⟩:ByteArray).toList
theorem dV (v:ByteArray):(v.toList==(⟨#[]⟩:ByteArray).toList)=lV v:=rfl
def ay (op:Int) (k v:ByteArray):Bool :=
 (decide (op=1)||decide (op=2))&&(decide (1≤(k.size:Int))&&decide ((k.size:Int)≤12))&&decide ((v.size:Int)≤20)&&(decide (op=1)||lV v)
def LP (x:Int×Int×Int×Int×ByteArray×ByteArray):Bool :=
 decide (1≤x.1)&&decide (x.1≤6)&&(decide (1≤x.2.1)&&decide (x.2.1≤6))&&decide (0≤x.2.2.1) &&
  (if x.1=1 then ay x.2.2.2.1 x.2.2.2.2.1 x.2.2.2.2.2 else decide (x.2.2.2.1=0)&&lV x.2.2.2.2.1&&lV x.2.2.2.2.2)
theorem fu a k v:KY a 0 k v=some (ay a k v):=aH (by
 have w:∀ b,Iz a v b=some (decide (a=1)||lV v):=fun b=>US (by
  unfold NT
  rw [dV]
  by_cases h:a=1<;>simp [h])
 unfold TO ay
 have oq:decide ((v.size:Int)>20)=!decide ((v.size:Int)≤20):=by
  by_cases h:(v.size:Int)≤20<;>simp [h]
  omega
 simp only [oq,Al,Nc,Option.bind_some,w]
 by_cases h1:a=1
 ·by_cases h2:1≤(k.size:Int)<;>by_cases h3:(k.size:Int)≤12<;>by_cases h4:(v.size:Int)≤20<;>simp [h1,h2,h3,h4]
 ·by_cases h1b:a=2
  ·by_cases h2:1≤(k.size:Int)<;>by_cases h3:(k.size:Int)≤12<;>by_cases h4:(v.size:Int)≤20<;>simp [h1b,h2,h3,h4]
  ·have:¬ (1≤a∧a≤2):=by omega
   by_cases h5:1≤a
   ·have:¬ a≤2:=by omega
    simp [h1,h1b,this]
   ·simp [h1,h1b,h5])
theorem az x:Oy x=some (LP x):=iZ (by
 have w:∀ b,Kk b x=some (if x.1=1 then ay x.2.2.2.1 x.2.2.2.2.1 x.2.2.2.2.2 else decide (x.2.2.2.1=0)&&lV x.2.2.2.2.1&&lV x.2.2.2.2.2):=fun b=>Z1 (by
  unfold QT
  simp only [dV]
  by_cases h:x.1=1
  ·simp [h,fu]
  ·by_cases h2:x.2.2.2.1=0<;>rcases Bool.eq_false_or_eq_true (lV x.2.2.2.2.1) with h3 | h3<;>simp [h,h2,h3])
 unfold WD LP
 simp only [Al,GH,Option.bind_some,w]
 by_cases h1:1≤x.1<;>by_cases h2:x.1≤6<;>by_cases h3:1≤x.2.1<;>by_cases h4:x.2.1≤6<;>by_cases h5:0≤x.2.2.1<;>simp [h1,h2,h3,h4,h5]<;>omega)
theorem a_ x:Oz x=some (LP x):=ia (by
 have w:∀ b,Kl b x=some (if x.1=1 then ay x.2.2.2.1 x.2.2.2.2.1 x.2.2.2.2.2 else decide (x.2.2.2.1=0)&&lV x.2.2.2.2.1&&lV x.2.2.2.2.2):=fun b=>Z4 (by
  unfold QU ay
  simp only [dV]
  by_cases h:x.1=1
  ·simp only [Au,Option.bind_some]
   by_cases g1:x.2.2.2.1=1
   ·by_cases h2:1≤(x.2.2.2.2.1.size:Int)<;>by_cases h3:(x.2.2.2.2.1.size:Int)≤12<;>by_cases h4:(x.2.2.2.2.2.size:Int)≤20<;>simp [h,g1,h2,h3,h4]
   ·by_cases g2:x.2.2.2.1=2
    ·by_cases h2:1≤(x.2.2.2.2.1.size:Int)<;>by_cases h3:(x.2.2.2.2.1.size:Int)≤12<;>by_cases h4:(x.2.2.2.2.2.size:Int)≤20<;>simp [h,g2,h2,h3,h4]
    ·simp [h,g1,g2]
  ·by_cases h2:x.2.2.2.1=0<;>rcases Bool.eq_false_or_eq_true (lV x.2.2.2.2.1) with h3 | h3<;>simp [h,h2,h3])
 unfold WE LP
 simp only [Au,Option.bind_some,w]
 by_cases h1:1≤x.1<;>by_cases h2:x.1≤6<;>by_cases h3:1≤x.2.1<;>by_cases h4:x.2.1≤6<;>by_cases h5:0≤x.2.2.1<;>simp [h1,h2,h3,h4,h5]<;>omega)
end Go.Proofs.YtokiohnjegbnpaaGreat.Core

namespace Go.Proofs.YtokiohnjegbnpaaGreat.Core
open Go
set_option linter.unusedVariables false
def LD (a:ByteArray×ByteArray×Int):Bool:=(decide (1≤(a.1.size:Int))&&decide ((a.1.size:Int)≤12))&&decide ((a.2.1.size:Int)≤20)&&(decide (1≤a.2.2)&&decide (a.2.2≤1000000000))
def Bu (x:List (ByteArray×ByteArray×Int)) (i:Nat):Nat→Bool
 | 0=>decide ((x.length:Int)≤12)
 | k+1=>LD (x.getD i (ByteArray.empty,ByteArray.empty,0))&&(decide (i=0)||Op.bytesLess (x.getD (i-1) (ByteArray.empty,ByteArray.empty,0)).1.toList (x.getD i (ByteArray.empty,ByteArray.empty,0)).1.toList)&&Bu x (i+1) k
theorem oq (n:Int):decide (n>20)=!decide (n≤20):=by
 by_cases h:n≤20<;>simp [h]
 omega
theorem XE {i:Nat} (h:i<9223372036854775807) (h0:0<i):IntKind.i64.wrap ((i:Int)-1)=((i-1:Nat):Int):=by
 rw [AX (by omega)]
 omega
theorem HS (x) (h:x.length≤maxLen):Cw x=some (Bu x 0 x.length):=jD (by
 have hm:x.length≤9223372036854775807:=h
 unfold Wl
 have:=G7 (n:=x.length) (P:=fun i=>Fa x (i:Int)=some (Bu x i (x.length-i))) (Qx (by
  unfold LC
  rw [if_neg (by simp),Nat.sub_self]
  rfl)) (fun i hi ih=>Qx (by
  unfold LC
  have e:x.length-i=(x.length-(i+1))+1:=by omega
  simp only [show ((i:Int)<(x.length:Int)) from by omega,decide_true,if_true,show (0:Int)≤(i:Int) from by omega,Int.toNat_natCast,AU (show i<9223372036854775807 by omega),ih,Au,Option.bind_some,oq]
  rw [e,Bu,LD]
  generalize (decide (1≤((x.getD i (ByteArray.empty,ByteArray.empty,0)).1.size:Int))&&decide (((x.getD i (ByteArray.empty,ByteArray.empty,0)).1.size:Int)≤12))=a
  generalize decide (((x.getD i (ByteArray.empty,ByteArray.empty,0)).2.1.size:Int)≤20)=b
  generalize (decide (1≤(x.getD i (ByteArray.empty,ByteArray.empty,0)).2.2)&&decide ((x.getD i (ByteArray.empty,ByteArray.empty,0)).2.2≤1000000000))=c
  cases a
  ·simp
  cases b
  ·simp
  cases c
  ·simp
  by_cases h0:0<i
  ·rw [XE (by omega) h0]
   simp only [Int.toNat_natCast,show ((0:Int)≤((i-1:Nat):Int)) from by omega,show (((i-1:Nat):Int)<(x.length:Int)) from by omega,if_true]
   rcases Bool.eq_false_or_eq_true (Op.bytesLess (x.getD (i-1) (ByteArray.empty,ByteArray.empty,0)).1.toList (x.getD i (ByteArray.empty,ByteArray.empty,0)).1.toList) with hb | hb<;>simp only [hb]<;>simp [h0,show i≠0 by omega]
  ·have:i=0:=by omega
   subst this
   simp)) 0 (by omega)
 simpa using this)
theorem LE (x) (h:x.length≤maxLen) (hl:∀ a b:List UInt8,(Op.bytesLess a b||a==b)=!Op.bytesLess b a):Ec x=some (Bu x 0 x.length):=ie (by
 have hm:x.length≤9223372036854775807:=h
 unfold WJ
 have:=G7 (n:=x.length) (P:=fun i=>FU x x (x.length:Int) (i:Int)=some (Bu x i (x.length-i))) (QW (by
  unfold Ko
  rw [if_neg (by simp),Nat.sub_self]
  rfl)) (fun i hi ih=>QW (by
  unfold Ko
  have e:x.length-i=(x.length-(i+1))+1:=by omega
  simp only [show ((i:Int)<(x.length:Int)) from by omega,decide_true,if_true,show (0:Int)≤(i:Int) from by omega,Int.toNat_natCast,AU (show i<9223372036854775807 by omega),ih,Al,Nc,Option.bind_some,oq,hl]
  rw [e,Bu,LD]
  generalize (decide (1≤((x.getD i (ByteArray.empty,ByteArray.empty,0)).1.size:Int))&&decide (((x.getD i (ByteArray.empty,ByteArray.empty,0)).1.size:Int)≤12))=a
  generalize decide (((x.getD i (ByteArray.empty,ByteArray.empty,0)).2.1.size:Int)≤20)=b
  generalize (decide (1≤(x.getD i (ByteArray.empty,ByteArray.empty,0)).2.2)&&decide ((x.getD i (ByteArray.empty,ByteArray.empty,0)).2.2≤1000000000))=c
  cases a
  ·simp
  cases b
  ·simp
  cases c
  ·simp
  by_cases h0:0<i
  ·rw [XE (by omega) h0]
   simp only [Int.toNat_natCast,show ((0:Int)≤((i-1:Nat):Int)) from by omega,show (((i-1:Nat):Int)<(x.length:Int)) from by omega,if_true]
   rcases Bool.eq_false_or_eq_true (Op.bytesLess (x.getD (i-1) (ByteArray.empty,ByteArray.empty,0)).1.toList (x.getD i (ByteArray.empty,ByteArray.empty,0)).1.toList) with hb | hb<;>simp only [hb]<;>simp [h0,show i≠0 by omega]
  ·have:i=0:=by omega
   subst this
   simp)) 0 (by omega)
 simpa using this)
theorem M_:∀ a b:List UInt8,(Op.bytesLess a b||a==b)=!Op.bytesLess b a
 | [],[]=>rfl
 | [],_::_=>rfl
 | _::_,[]=>rfl
 | a::l,b::m=>by
  have ih:=M_ l m
  simp only [Op.bytesLess]
  by_cases h1:a<b
  ·have h2:¬ b<a:=by exact UInt8.not_lt.2 (UInt8.le_of_lt h1)
   have h3:¬ b=a:=fun h=>by subst h; exact absurd h1 (UInt8.lt_irrefl _)
   simp [h1,h2,h3]
  ·by_cases h2:b<a
   ·have h3:¬ a=b:=fun h=>by subst h; exact absurd h2 (UInt8.lt_irrefl _)
    simp [h1,h2,h3]
   ·have h3:a=b:=UInt8.le_antisymm (UInt8.not_lt.1 h2) (UInt8.not_lt.1 h1)
    subst h3
    simpa [h1] using ih
end Go.Proofs.YtokiohnjegbnpaaGreat.Core

namespace Go.Proofs.YtokiohnjegbnpaaGreat.Core
open Go
set_option linter.unusedVariables false
abbrev AQ:Type:=ByteArray×ByteArray×Int
abbrev jF:AQ:=(ByteArray.empty,ByteArray.empty,(0:Int))
theorem XF:∀ a:List UInt8,Op.bytesLess a a=false
 | []=>rfl
 | a::l=>by simp [Op.bytesLess,XF l,UInt8.lt_irrefl]
theorem Wq:∀ {a b c:List UInt8},Op.bytesLess a b=true→Op.bytesLess b c=true→Op.bytesLess a c=true
 | _,[],_,h,_=>by cases ‹List UInt8› <;> simp [Op.bytesLess] at h
 | _,_::_,[],_,h=>by simp [Op.bytesLess] at h
 | [],_::_,_::_,_,_=>rfl
 | a::x,b::y,c::z,h,g=>by
  simp only [Op.bytesLess,Bool.or_eq_true,decide_eq_true_eq,Bool.and_eq_true,beq_iff_eq] at h g ⊢
  rcases h with h | ⟨rfl,h⟩
  ·rcases g with g | ⟨rfl,g⟩
   ·exact .inl (UInt8.lt_trans h g)
   ·exact .inl h
  ·rcases g with g | ⟨rfl,g⟩
   ·exact .inl g
   ·exact .inr ⟨rfl,Wq h g⟩
theorem jG:∀ a b:List UInt8,decide (Lib.compareBytes a b<0)=Op.bytesLess a b∧(Lib.compareBytes a b==0)=(a==b)
 | [],[]=>⟨rfl,rfl⟩
 | [],_::_=>⟨rfl,rfl⟩
 | _::_,[]=>⟨rfl,rfl⟩
 | a::l,b::m=>by
  have ih:=jG l m
  simp only [Lib.compareBytes,Op.bytesLess]
  by_cases h1:a<b
  ·have h3:¬ a=b:=fun h=>by subst h; exact absurd h1 (UInt8.lt_irrefl _)
   simp [h1,h3]
  ·by_cases h2:b<a
   ·have h3:¬ a=b:=fun h=>by subst h; exact absurd h2 (UInt8.lt_irrefl _)
    simp [h1,h2,h3]
   ·have h3:a=b:=UInt8.le_antisymm (UInt8.not_lt.1 h2) (UInt8.not_lt.1 h1)
    subst h3
    simpa [h1] using ih
theorem OA (a:AQ) (k:ByteArray):Hz a k=some (Lib.compareBytes a.1.toList k.toList):=dU (by
 unfold Sb
 rw [Zp,ByteArray.toList_eq,ByteArray.toList_eq]
 rfl)
def Se (x:List AQ) (i:Nat) (k:ByteArray):Bool:=match x[i]? with
 | some b=>b.1.toList==k.toList
 | none=>false
def Sf (k:ByteArray) (b:AQ):Bool:=Op.bytesLess b.1.toList k.toList
def LF (x:List AQ):Prop:=∀ a b (ha:a<x.length) (hb:b<x.length),a<b→Op.bytesLess x[a].1.toList x[b].1.toList=true
def d8 (x:List AQ) (k:ByteArray) (i j:Nat):Prop:=∀ a (ha:a<x.length),(a<i→Sf k x[a]=true)∧(j≤a→Sf k x[a]=false)
theorem sS {i j:Nat} (h:i+j≤137438953472):IntKind.i64.wrap (Int.fdiv (IntKind.u64.wrap (IntKind.i64.wrap ((i:Int)+(j:Int)))) (2^(min (1:Int).toNat (IntKind.bits .u64))))=(((i+j) / 2:Nat):Int):=by
 have e1:IntKind.i64.wrap ((i:Int)+(j:Int))=((i+j:Nat):Int):=by rw [AX (by omega)]; omega
 have e2:IntKind.u64.wrap ((i+j:Nat):Int)=((i+j:Nat):Int):=by
  simp only [IntKind.wrap,IntKind.bits,IntKind.signed]
  simp
  omega
 have e3:(2:Int)^(min (1:Int).toNat (IntKind.bits .u64))=2:=by decide
 rw [e1,e2,e3,Int.fdiv_eq_ediv_of_nonneg _ (by omega)]
 rw [AX (by omega)]
 omega
theorem mc (x:List AQ) (k:ByteArray) (hx:x.length≤68719476736):∀ (m i j:Nat),j-i≤m→i≤j→j≤x.length →
  ∃ r:Nat,i≤r∧r≤j∧AI x k (x.length:Int) (i:Int) (j:Int)=some ((r:Int),Se x r k)∧(LF x→d8 x k i j→d8 x k r r):=by
 intro m
 induction m with
 | zero =>
  intro i j hm hij hj
  have:i=j:=by omega
  subst this
  refine ⟨i,Nat.le_refl _,Nat.le_refl _,B0 ?_,fun _ h=>h⟩
  unfold BA
  rw [if_neg (by simp)]
  refine Dm ?_
  unfold Bz Se
  by_cases h:i<x.length
  ·simp only [show ((i:Int)<(x.length:Int)) from by omega,decide_true,if_true,show (0:Int)≤(i:Int) from by omega,Int.toNat_natCast,AY h,OA,Option.bind_some,(jG _ _).2,List.getElem?_eq_getElem h]
  ·rw [if_neg (by simp; omega),List.getElem?_eq_none (by omega)]
 | succ m ih =>
  intro i j hm hij hj
  by_cases hlt:i<j
  ·have hmid:i≤(i+j) / 2∧(i+j) / 2<j:=by omega
   generalize hh:(i+j) / 2=h at hmid
   have hb:h<x.length:=by omega
   have step:∀ r,(if Sf k x[h]=true then AI x k (x.length:Int) ((h+1:Nat):Int) (j:Int) else AI x k (x.length:Int) (i:Int) (h:Int))=some r→AI x k (x.length:Int) (i:Int) (j:Int)=some r:=fun r hr=>B0 (by
    unfold BA
    simp only [show ((i:Int)<(j:Int)) from by omega,decide_true,if_true,sS (show i+j≤137438953472 by omega),hh,show ¬ ((1:Int)<0) from by decide,if_false,show ((0:Int)≤(h:Int)) from by omega,show ((h:Int)<(x.length:Int)) from by omega,Int.toNat_natCast,AY hb,OA,Option.bind_some,(jG _ _).1,AU (show h<9223372036854775807 by omega)]
    exact hr)
   cases hl:Sf k x[h] with
   | true =>
    obtain ⟨r,h1,h2,h3,h4⟩:=ih (h+1) j (by omega) (by omega) hj
    refine ⟨r,by omega,h2,step _ (by rw [hl]; exact h3),fun ho hc=>h4 ho fun a ha=>⟨fun hlt=>?_,(hc a ha).2⟩⟩
    by_cases e:a=h
    ·subst e; exact hl
    ·exact Wq (ho a h ha hb (by omega)) hl
   | false =>
    obtain ⟨r,h1,h2,h3,h4⟩:=ih i h (by omega) hmid.1 (by omega)
    refine ⟨r,h1,by omega,step _ (by rw [hl]; exact h3),fun ho hc=>h4 ho fun a ha=>⟨(hc a ha).1,fun hle=>?_⟩⟩
    by_cases e:a=h
    ·subst e; exact hl
    ·cases q:Sf k x[a] with
     | false=>rfl
     | true =>
      have:=Wq (ho h a hb ha (by omega)) q
      rw [show Op.bytesLess x[h].1.toList k.toList=false from hl] at this
      cases this
  ·have:i=j:=by omega
   subst this
   exact ih i i (by omega) (Nat.le_refl _) hj
theorem ot (x:List AQ) (k:ByteArray) (hx:x.length≤68719476736):∃ r:Nat,r≤x.length∧BG x k ()=some ((r:Int),Se x r k)∧(LF x→d8 x k r r):=by
 obtain ⟨r,_,h2,h3,h4⟩:=mc x k hx x.length 0 x.length (by omega) (by omega) (Nat.le_refl _)
 refine ⟨r,h2,EE (by unfold B9; exact h3),fun ho=>h4 ho fun a ha=>⟨fun h=>by omega,fun h=>by omega⟩⟩
theorem Wr {x:List AQ}:∀ (m i:Nat),Bu x i m=true→∀ a,i≤a→a<i+m→a≠0→Op.bytesLess (x.getD (a-1) jF).1.toList (x.getD a jF).1.toList=true
 | 0,i,_,a,h1,h2,_=>by omega
 | m+1,i,h,a,h1,h2,h0=>by
  simp only [Bu,Bool.and_eq_true,Bool.or_eq_true,decide_eq_true_eq] at h
  obtain ⟨⟨_,h3⟩,h4⟩:=h
  by_cases e:a=i
  ·subst e
   exact h3.resolve_left h0
  ·exact Wr m (i+1) h4 a (by omega) (by omega) h0
theorem Ws {x:List AQ} (h:Bu x 0 x.length=true):LF x:=by
 have st:=Wr _ _ h
 have:∀ d a (ha:a+d+1<x.length),Op.bytesLess (x.getD a jF).1.toList (x.getD (a+d+1) jF).1.toList=true:=by
  intro d
  induction d with
  | zero=>intro a ha; exact st (a+1) (by omega) (by omega) (by omega)
  | succ d ih =>
   intro a ha
   exact Wq (ih a (by omega)) (st (a+(d+1)+1) (by omega) (by omega) (by omega))
 intro a b ha hb hab
 have:=this (b-a-1) a (by omega)
 rw [show a+(b-a-1)+1=b by omega,AY ha,AY hb] at this
 exact this
theorem md {x:List AQ} {k:ByteArray} {r:Nat} (hr:r≤x.length) (h:d8 x k r r):x.take r=x.filter (Sf k)∧x.drop r=x.filter (fun b=>!Sf k b):=by
 have e1:(x.take r).filter (Sf k)=x.take r:=List.filter_eq_self.2 fun b hb=>by
  obtain ⟨a,ha,rfl⟩:=List.getElem_of_mem hb
  rw [List.length_take] at ha
  rw [List.getElem_take]
  exact (h a (by omega)).1 (by omega)
 have e2:(x.drop r).filter (Sf k)=[]:=List.filter_eq_nil_iff.2 fun b hb=>by
  obtain ⟨a,ha,rfl⟩:=List.getElem_of_mem hb
  rw [List.length_drop] at ha
  rw [List.getElem_drop]
  have:=(h (r+a) (by omega)).2 (by omega)
  simp [this]
 have e3:(x.take r).filter (fun b=>!Sf k b)=[]:=List.filter_eq_nil_iff.2 fun b hb=>by
  obtain ⟨a,ha,rfl⟩:=List.getElem_of_mem hb
  rw [List.length_take] at ha
  rw [List.getElem_take]
  have:=(h a (by omega)).1 (by omega)
  simp [this]
 have e4:(x.drop r).filter (fun b=>!Sf k b)=x.drop r:=List.filter_eq_self.2 fun b hb=>by
  obtain ⟨a,ha,rfl⟩:=List.getElem_of_mem hb
  rw [List.length_drop] at ha
  rw [List.getElem_drop]
  have:=(h (r+a) (by omega)).2 (by omega)
  simp [this]
 have f1:x.filter (Sf k)=(x.take r).filter (Sf k)++(x.drop r).filter (Sf k):=by rw [← List.filter_append,List.take_append_drop]
 have f2:x.filter (fun b=>!Sf k b)=(x.take r).filter (fun b=>!Sf k b)++(x.drop r).filter (fun b=>!Sf k b):=by rw [← List.filter_append,List.take_append_drop]
 rw [f1,f2,e1,e2,e3,e4]
 simp
theorem nM {x:List AQ} {k:ByteArray} {r:Nat} (ho:LF x) (h:d8 x k r r) (j:Nat) (hj:j<x.length) (e:x[j].1.toList=k.toList):j=r:=by
 rcases Nat.lt_trichotomy j r with g | g | g
 ·have:=(h j hj).1 g
  simp only [Sf,e,XF] at this
  cases this
 ·exact g
 ·have h1:=ho r j (by omega) hj g
  have h2:=(h r (by omega)).2 (Nat.le_refl _)
  rw [e] at h1
  rw [show Sf k x[r]=true from h1] at h2
  cases h2
def Wt (x:List AQ) (a:AQ):Bool:=x.any fun b=>(b.1.toList==a.1.toList)&&decide (b.2.2≥a.2.2)
def OS (k:ByteArray) (b:AQ):Bool:=!(Op.bytesLess b.1.toList k.toList||(b.1.toList==k.toList))
def Sg (x:List AQ) (a:AQ):List AQ:=x.filter (Sf a.1)++[a]++x.filter (OS a.1)
def BH (x:List AQ):Bool:=Bu x 0 x.length
def DD (x:List AQ) (a:AQ):List AQ:=if Wt x a=true then x else if BH x=true then (if BH (Sg x a)=true then Sg x a else x) else x
theorem nN {x:List AQ} {k:ByteArray} {r:Nat} (hr:r≤x.length) (h:d8 x k r r):x.filter (OS k)=(x.drop r).filter fun b=>!(b.1.toList==k.toList):=by
 rw [(md hr h).2,List.filter_filter]
 congr 1
 funext b
 simp only [OS,Sf,Bool.not_or]
 exact Bool.and_comm _ _
theorem LG (x:List AQ) (a:AQ) (hx:x.length≤34359738367):Hd x a=some (DD x a):=i8 (by
 have J4:∀ same out:List AQ,out.length≤maxLen→K7 x a same out=some (if BH x=true then (if BH out=true then out else same) else same):=fun same out ho=>ah (by
  unfold Qr BH
  rw [HS x (by unfold maxLen; omega),HS out ho]
  cases Bu x 0 x.length<;>cases Bu out 0 out.length<;>simp)
 have L3:∀ same out:List AQ,out.length≤x.length+1→Dq x ((0:Nat):Int) a same out=some (if BH x=true then (if BH (out++(x.drop 0).filter (OS a.1))=true then out++(x.drop 0).filter (OS a.1) else same) else same):=by
  intro same out ho
  refine G7 (n:=x.length) (P:=fun i=>∀ out:List AQ,out.length≤x.length+1+i→Dq x (i:Int) a same out=some (if BH x=true then (if BH (out++(x.drop i).filter (OS a.1))=true then out++(x.drop i).filter (OS a.1) else same) else same)) (fun out ho=>Qt ?_) (fun i hi ih out ho=>Qt ?_) 0 (by omega) out ho
  ·unfold K9
   rw [if_neg (by simp),J4 same out (by unfold maxLen; omega)]
   simp
  ·unfold K9
   simp only [show ((i:Int)<(x.length:Int)) from by omega,decide_true,if_true,show (0:Int)≤(i:Int) from by omega,Int.toNat_natCast,AY hi,AU (show i<9223372036854775807 by omega)]
   rw [Bt hi,List.filter_cons]
   change (if OS a.1 x[i]=true then _ else _)=_
   by_cases hh:OS a.1 x[i]=true
   ·rw [if_pos hh,if_pos (by simp; omega),ih _ (by simp; omega),if_pos hh,List.append_assoc]
    rfl
   ·rw [if_neg hh,ih _ (by omega),if_neg hh]
 have J2:∀ same out:List AQ,out.length≤x.length→K8 x a same out=some (if BH x=true then (if BH (out++[a]++x.filter (OS a.1))=true then out++[a]++x.filter (OS a.1) else same) else same):=fun same out ho=>ak (by
  unfold Qs
  rw [if_pos (by simp; omega)]
  have:=L3 same (out++[a]) (by simp; omega)
  simpa using this)
 have L0:∀ same:List AQ,Dr x ((0:Nat):Int) a same []=some (if Wt (x.drop 0) a=true then same else if BH x=true then (if BH (([]++(x.drop 0).filter (Sf a.1))++[a]++x.filter (OS a.1))=true then ([]++(x.drop 0).filter (Sf a.1))++[a]++x.filter (OS a.1) else same) else same):=by
  intro same
  refine G7 (n:=x.length) (P:=fun i=>∀ out:List AQ,out.length≤i→Dr x (i:Int) a same out=some (if Wt (x.drop i) a=true then same else if BH x=true then (if BH ((out++(x.drop i).filter (Sf a.1))++[a]++x.filter (OS a.1))=true then (out++(x.drop i).filter (Sf a.1))++[a]++x.filter (OS a.1) else same) else same)) (fun out ho=>Qu ?_) (fun i hi ih out ho=>Qu ?_) 0 (by omega) [] (by simp)
  ·unfold K_
   rw [if_neg (by simp),J2 same out ho]
   simp [Wt]
  ·unfold K_
   simp only [show ((i:Int)<(x.length:Int)) from by omega,decide_true,if_true,show (0:Int)≤(i:Int) from by omega,Int.toNat_natCast,AY hi]
   have J1:∀ out:List AQ,out.length≤i+1→HN x (i:Int) a same out=some (if Wt (x.drop i) a=true then same else if BH x=true then (if BH ((out++(x.drop (i+1)).filter (Sf a.1))++[a]++x.filter (OS a.1))=true then (out++(x.drop (i+1)).filter (Sf a.1))++[a]++x.filter (OS a.1) else same) else same):=fun out ho=>ag (by
    unfold Qq
    simp only [show ((i:Int)<(x.length:Int)) from by omega,decide_true,if_true,show (0:Int)≤(i:Int) from by omega,Int.toNat_natCast,AY hi,AU (show i<9223372036854775807 by omega),ih out ho]
    rw [Bt hi]
    rw [show Wt (x[i]::x.drop (i+1)) a=(((x[i].1.toList==a.1.toList)&&decide (x[i].2.2≥a.2.2))||Wt (x.drop (i+1)) a) from List.any_cons]
    generalize (x[i].1.toList==a.1.toList)=p
    generalize decide (x[i].2.2≥a.2.2)=q
    cases p<;>cases q<;>simp)
   rw [Bt hi,List.filter_cons]
   change (if Sf a.1 x[i]=true then _ else _)=_
   rw [Bt hi] at J1
   by_cases hh:Sf a.1 x[i]=true
   ·rw [if_pos hh,if_pos (by simp; omega),J1 _ (by simp; omega),if_pos hh]
    simp only [List.append_assoc,List.cons_append,List.nil_append]
   ·rw [if_neg hh,J1 _ (by omega),if_neg hh]
 unfold Wf
 rw [if_pos (by simp; omega)]
 have:=L0 ([]++x)
 simpa [DD,Sg] using this)
theorem p9 {x:List AQ} {a:AQ} {r:Nat} (hr:r≤x.length) (ho:LF x) (h:d8 x a.1 r r):Wt x a=(Se x r a.1&&decide ((x.getD r jF).2.2≥a.2.2)):=by
 unfold Wt Se
 by_cases hl:r<x.length
 ·rw [List.getElem?_eq_getElem hl,AY hl]
  rw [Bool.eq_iff_iff,List.any_eq_true]
  simp only [Bool.and_eq_true,beq_iff_eq,decide_eq_true_eq]
  refine ⟨fun ⟨b,hb,e,hv⟩=>?_,fun ⟨e,hv⟩=>⟨_,List.getElem_mem hl,e,hv⟩⟩
  obtain ⟨j,hj,rfl⟩:=List.getElem_of_mem hb
  have:=nM ho h j hj e
  subst this
  exact ⟨e,hv⟩
 ·rw [List.getElem?_eq_none (by omega),Bool.false_and,List.any_eq_false]
  intro b hb
  obtain ⟨j,hj,rfl⟩:=List.getElem_of_mem hb
  intro hc
  simp only [Bool.and_eq_true,beq_iff_eq] at hc
  have:=nM ho h j hj hc.1
  omega
theorem rU {x:List AQ} {a:AQ} {r:Nat} (hr:r≤x.length) (ho:LF x) (h:d8 x a.1 r r):Sg x a=if Se x r a.1=true then x.set r a else x.take r++[a]++x.drop r:=by
 unfold Sg
 rw [nN hr h,← (md hr h).1]
 have hk:∀ (j:Nat) (hj:j<x.length),j≠r→(x[j].1.toList==a.1.toList)=false:=fun j hj hne=>by
  cases q:(x[j].1.toList==a.1.toList) with
  | false=>rfl
  | true=>exact absurd (nM ho h j hj (by simpa using q)) hne
 have tail:(x.drop (r+1)).filter (fun b=>!(b.1.toList==a.1.toList))=x.drop (r+1):=List.filter_eq_self.2 fun b hb=>by
  obtain ⟨j,hj,rfl⟩:=List.getElem_of_mem hb
  rw [List.length_drop] at hj
  rw [List.getElem_drop,hk (r+1+j) (by omega) (by omega)]
  rfl
 by_cases hl:r<x.length
 ·rw [Bt hl,List.filter_cons,tail]
  unfold Se
  rw [List.getElem?_eq_getElem hl]
  cases q:(x[r].1.toList==a.1.toList) with
  | true=>simp [q,List.set_eq_take_append_cons_drop,hl]
  | false=>simp [q]
 ·have:x.drop r=[]:=List.drop_eq_nil_of_le (by omega)
  rw [this]
  unfold Se
  rw [List.getElem?_eq_none (by omega)]
  simp
theorem Q0 (x:List AQ) (a:AQ) (hx:x.length≤34359738367):Ke x a=some (DD x a):=jC (by
 obtain ⟨r,hr,hs,hc⟩:=ot x a.1 (by omega)
 have ok:∀ y:List AQ,y.length≤68719476736→Ec y=some (BH y):=fun y hy=>LE y (by unfold maxLen; omega) M_
 have J1:∀ y:List AQ,y.length≤68719476736→HQ x a y=some (if BH y=true then y else x):=fun y hy=>an (by
  unfold Qv
  rw [ok y hy,As (by omega)]
  cases BH y<;>simp)
 have hl:Se x r a.1=true→r<x.length:=fun h=>by
  by_cases hl:r<x.length
  ·exact hl
  ·unfold Se at h
   rw [List.getElem?_eq_none (by omega)] at h
   cases h
 have J0:∀ b,BH x=true→HR x (r:Int) (Se x r a.1) b a x=some (if BH (Sg x a)=true then Sg x a else x):=fun b hok=>aq (by
  unfold Qw
  rw [rU hr (Ws hok) (hc (Ws hok))]
  cases hh:Se x r a.1 with
  | true =>
   have:=hl hh
   simp only [if_true,show (0:Int)≤(r:Int) from by omega,show ((r:Int)<(x.length:Int)) from by omega,Int.toNat_natCast]
   rw [J1 _ (by simp; omega)]
  | false =>
   rw [if_neg (by simp),Ic (by simp; omega) hr (by simp),Option.bind_some,J1 _ (by simp; omega)]
   simp)
 unfold Wk
 rw [As (by omega),Option.bind_some,hs,Option.bind_some,ok x (by omega),Option.bind_some]
 cases hok:BH x with
 | false=>simp [DD,hok]
 | true =>
  have hst:=p9 hr (Ws hok) (hc (Ws hok))
  have j0:=J0
  unfold DD
  rw [hst,hok]
  cases hh:Se x r a.1 with
  | false =>
   have:=J0 false hok
   rw [hh] at this
   simp [this]
  | true =>
   have hlr:=hl hh
   have:=J0 false hok
   rw [hh] at this
   simp only [if_true,show (0:Int)≤(r:Int) from by omega,show ((r:Int)<(x.length:Int)) from by omega,Int.toNat_natCast,Bool.true_and]
   cases q:decide ((x.getD r jF).2.2≥a.2.2) with
   | true=>simp
   | false=>simp [this])
end Go.Proofs.YtokiohnjegbnpaaGreat.Core

namespace Go.Proofs.YtokiohnjegbnpaaGreat.Core
open Go
set_option linter.unusedVariables false
abbrev NA:Type:=List Int×Int×Int
def Ut (d:NA):Prop:=0≤d.2.1∧d.1.length≤maxLen
theorem d9 (a:Int):0≤Js .i64 a 255∧Js .i64 a 255≤255:=by
 unfold Js
 have h:(BitVec.ofInt (IntKind.bits .i64) a &&& BitVec.ofInt (IntKind.bits .i64) 255).toNat≤255:=by
  rw [BitVec.toNat_and]
  refine Nat.le_trans Nat.and_le_right ?_
  decide
 rw [AX (by omega)]
 omega
theorem Fc (d:NA) (h:Ut d):∃ b d',Ed d=some (b,d')∧Ut d'∧0≤b∧b≤255:=by
 have hm:d.1.length≤9223372036854775807:=h.2
 have hp:=h.1
 suffices g:∃ b d',PN d=some (b,d')∧Ut d'∧0≤b∧b≤255 from g.imp fun b g=>g.imp fun d' g=>⟨ij g.1,g.2⟩
 unfold PN
 rw [if_neg (by omega),if_neg (by omega)]
 by_cases h1:d.2.1<(d.1.length:Int)
 ·rw [if_pos (by simpa using h1),if_pos hp,if_pos h1]
  refine ⟨_,_,rfl,⟨?_,h.2⟩,d9 _⟩
  show 0≤IntKind.i64.wrap (d.2.1+1)
  rw [AX (by omega)]
  omega
 ·rw [if_neg (by simpa using h1)]
  exact ⟨_,_,rfl,h,d9 _⟩
theorem BY (n:Int) (d:NA) (h:Ut d):∃ v d',CF n d=some (v,d')∧Ut d'∧0≤v∧(0<n→v<n):=by
 suffices g:∃ b d',NS n d=some (b,d')∧Ut d'∧0≤b∧(0<n→b<n) from g.imp fun b g=>g.imp fun d' g=>⟨fG g.1,g.2⟩
 unfold NS
 by_cases h1:n≤0
 ·exact ⟨0,d,by rw [if_pos (by simpa using h1)],h,by omega,by omega⟩
 ·rw [if_neg (by simpa using h1)]
  by_cases h2:n≤256
  ·obtain ⟨b,d1,e1,k1,b0,b1⟩:=Fc d h
   refine ⟨_,_,by rw [if_pos (by simpa using h2),e1,Option.bind_some,if_neg (by omega)],k1,Int.tmod_nonneg _ b0,fun _=>Int.tmod_lt_of_pos _ (by omega)⟩
  ·obtain ⟨b1,d1,e1,k1,b10,b11⟩:=Fc d h
   obtain ⟨b2,d2,e2,k2,b20,b21⟩:=Fc d1 k1
   obtain ⟨b3,d3,e3,k3,b30,b31⟩:=Fc d2 k2
   obtain ⟨b4,d4,e4,k4,b40,b41⟩:=Fc d3 k3
   refine ⟨_,_,by rw [if_neg (by simpa using h2),e1,Option.bind_some,e2,Option.bind_some,e3,Option.bind_some,e4,Option.bind_some,if_neg (by omega)],k4,Int.tmod_nonneg _ ?_,fun _=>Int.tmod_lt_of_pos _ (by omega)⟩
   rw [AX (n:=b1*16777216) (by omega),AX (n:=b2*65536) (by omega),AX (n:=b3*256) (by omega),AX (n:=b1*16777216+b2*65536) (by omega),AX (n:=b1*16777216+b2*65536+b3*256) (by omega),AX (by omega)]
   omega
theorem HT (n:Int) (d:NA) (h:Ut d):∃ v d',Cu n d=some (v,d')∧Ut d':=by
 obtain ⟨v,d',e,k,_⟩:=BY n d h
 exact ⟨_,_,iu (by unfold WY; rw [e,Option.bind_some]),k⟩
theorem NB (x:List Int) (hx:0<x.length) (d:NA) (h:Ut d):∃ v d',HD x d=some (v,d')∧Ut d'∧v∈x:=by
 obtain ⟨v,d',e,k,v0,v1⟩:=BY (x.length:Int) d h
 have v1:=v1 (by omega)
 have hv:v.toNat<x.length:=by omega
 exact ⟨_,_,aP (by unfold Qi; rw [e,Option.bind_some,if_pos v0,if_pos v1]),k,by rw [AY hv]; exact List.getElem_mem hv⟩
theorem dW (x:List Int) (h:x.length≤maxLen):∃ d,Q9 x=some d∧Ut d:=by
 have hm:x.length≤9223372036854775807:=h
 have key:=G7 (n:=x.length) (P:=fun i=>∀ a,∃ d,H5 x a (i:Int)=some d∧Ut d) (fun a=>⟨(x,0,a),MF (by
  unfold H6
  rw [if_neg (by simp)]),⟨Int.le_refl _,h⟩⟩) (fun i hi ih a=>by
  by_cases h4:(i:Int)<4000
  ·obtain ⟨d,e,k⟩:=ih (Js .i64 (IntKind.i64.wrap ((IntKind.i64.wrap ((IntKind.i64.wrap (a*(131:Int)))+(IntKind.i64.wrap (x.getD (i:Int).toNat (0:Int)))))+(7:Int))) (1073741823:Int))
   refine ⟨d,MF ?_,k⟩
   unfold H6
   rw [if_pos (by simpa using hi),if_pos (by simpa using h4)]
   refine cL ?_
   unfold R6
   rw [if_pos (by omega),if_pos (by omega),AU (show i<9223372036854775807 by omega)]
   exact e
  ·refine ⟨(x,0,a),MF ?_,⟨Int.le_refl _,h⟩⟩
   unfold H6
   rw [if_pos (by simpa using hi),if_neg (by simpa using h4)]) 0 (by omega)
 obtain ⟨d,e,k⟩:=key (IntKind.i64.wrap ((14301:Int)+(x.length:Int)))
 exact ⟨d,jk e,k⟩
end Go.Proofs.YtokiohnjegbnpaaGreat.Core

namespace Go.Proofs.YtokiohnjegbnpaaGreat.Core
open Go
set_option linter.unusedVariables false
theorem RI {x:List AQ}:∀ (m i:Nat),i+m=x.length→(Bu x i m=true↔(∀ a (ha:a<x.length),i≤a→LD x[a]=true∧(a≠0→Op.bytesLess (x.getD (a-1) jF).1.toList x[a].1.toList=true))∧x.length≤12)
 | 0,i,h=>by
  simp only [Bu,decide_eq_true_eq]
  refine ⟨fun h2=>⟨fun a ha hi=>by omega,by omega⟩,fun h2=>by have:=h2.2; omega⟩
 | m+1,i,h=>by
  have hi:i<x.length:=by omega
  rw [Bu,Bool.and_eq_true,Bool.and_eq_true,RI m (i+1) (by omega),AY hi]
  simp only [Bool.or_eq_true,decide_eq_true_eq]
  constructor
  ·rintro ⟨⟨h1,h2⟩,h3,h4⟩
   refine ⟨fun a ha hia=>?_,h4⟩
   by_cases e:a=i
   ·subst e
    exact ⟨h1,fun h0=>h2.resolve_left h0⟩
   ·exact h3 a ha (by omega)
  ·rintro ⟨h3,h4⟩
   refine ⟨⟨(h3 i hi (Nat.le_refl _)).1,?_⟩,fun a ha hia=>h3 a ha (by omega),h4⟩
   by_cases e:i=0
   ·exact .inl e
   ·exact .inr ((h3 i hi (Nat.le_refl _)).2 e)
theorem Hl {x:List AQ}:BH x=true↔(∀ b∈x,LD b=true)∧LF x∧x.length≤12:=by
 constructor
 ·intro h
  have h1:=(RI x.length 0 (by omega)).1 h
  refine ⟨fun b hb=>?_,Ws h,h1.2⟩
  obtain ⟨a,ha,rfl⟩:=List.getElem_of_mem hb
  exact (h1.1 a ha (Nat.zero_le _)).1
 ·rintro ⟨h1,h2,h3⟩
  refine (RI x.length 0 (by omega)).2 ⟨fun a ha _=>⟨h1 _ (List.getElem_mem ha),fun h0=>?_⟩,h3⟩
  rw [AY (show a-1<x.length by omega)]
  exact h2 (a-1) a (by omega) ha (by omega)
theorem kL {x:List AQ}:LF x↔x.Pairwise fun b c=>Op.bytesLess b.1.toList c.1.toList=true:=by
 rw [List.pairwise_iff_getElem]
 rfl
theorem jH {x:List AQ} (a:AQ) (h:LF x):LF (Sg x a):=by
 rw [kL] at h ⊢
 have lo:∀ b∈x.filter (Sf a.1),Op.bytesLess b.1.toList a.1.toList=true:=fun b hb=>(List.mem_filter.1 hb).2
 have hg:∀ b∈x.filter (OS a.1),Op.bytesLess a.1.toList b.1.toList=true:=fun b hb=>by
  have:=(List.mem_filter.1 hb).2
  rw [OS,M_] at this
  simpa using this
 unfold Sg
 rw [List.pairwise_append,List.pairwise_append]
 refine ⟨⟨h.filter _,List.pairwise_singleton _ _,fun b hb c hc=>?_⟩,h.filter _,fun b hb c hc=>?_⟩
 ·rw [List.mem_singleton] at hc
  subst hc
  exact lo b hb
 ·rcases List.mem_append.1 hb with hb | hb
  ·exact Wq (lo b hb) (hg c hc)
  ·rw [List.mem_singleton] at hb
   subst hb
   exact hg c hc
theorem p_ (x:List AQ) (a:AQ):(Sg x a).length≤x.length+1:=by
 have h1:(x.filter (OS a.1)).length≤(x.filter fun b=>!Sf a.1 b).length:=by
  rw [← List.countP_eq_length_filter,← List.countP_eq_length_filter]
  refine List.countP_mono_left fun b _ hb=>?_
  simp only [OS,Sf,Bool.not_eq_true',Bool.or_eq_false_iff] at hb ⊢
  exact hb.1
 have h2:(x.filter (Sf a.1)).length+(x.filter fun b=>!Sf a.1 b).length=x.length:=by
  rw [← List.countP_eq_length_filter,← List.countP_eq_length_filter]
  have:=List.length_eq_countP_add_countP (Sf a.1) (l:=x)
  rw [this]
  congr 2
  funext b
  cases Sf a.1 b<;>rfl
 simp only [Sg,List.length_append,List.length_cons,List.length_nil]
 omega
theorem qA {x:List AQ} {a:AQ}:a∈Sg x a:=by simp [Sg]
theorem me {x:List AQ} {a b:AQ} (h:b∈Sg x a):b=a∨b∈x:=by
 simp only [Sg,List.mem_append,List.mem_filter,List.mem_singleton] at h
 rcases h with (h | h) | h
 ·exact .inr h.1
 ·exact .inl h
 ·exact .inr h.1
theorem nO {x:List AQ} (ho:LF x) {b:AQ} (hb:b∈x):C0 x b.1=b:=by
 obtain ⟨j,hj,rfl⟩:=List.getElem_of_mem hb
 have:x.find? (fun a=>a.1.toList==x[j].1.toList)=some x[j]:=by
  rw [List.find?_eq_some_iff_getElem]
  refine ⟨by simp,j,hj,rfl,fun i hi=>?_⟩
  have:=ho i j (by omega) hj hi
  cases q:(x[i].1.toList==x[j].1.toList) with
  | false=>rfl
  | true =>
   rw [beq_iff_eq] at q
   rw [q,XF] at this
   cases this
 unfold C0
 rw [this]
 rfl
theorem mf (a:AQ):VM (.pair .str (.pair .str (.int .i64))) a a=true:=by simp [VM]
theorem Q1 (x:List ByteArray) (hx:0<x.length) (d:NA) (h:Ut d):∃ v d',Ka x d=some (v,d')∧Ut d'∧v∈x:=by
 obtain ⟨v,d',e,k,v0,v1⟩:=BY (x.length:Int) d h
 have v1:=v1 (by omega)
 have hv:v.toNat<x.length:=by omega
 exact ⟨_,_,iv (by unfold WZ; rw [e,Option.bind_some,if_pos v0,if_pos v1]),k,by rw [AY hv]; exact List.getElem_mem hv⟩
theorem jI {x:List AQ} {a:AQ} (h:BH x=true):BH (DD x a)=true:=by
 unfold DD
 rw [if_pos h]
 split
 ·exact h
 ·split
  ·assumption
  ·exact h
theorem mg (x:List AQ) (a:AQ):(DD x a).length≤x.length+1:=by
 have:=p_ x a
 unfold DD
 (repeat' split)<;>omega
end Go.Proofs.YtokiohnjegbnpaaGreat.Core

namespace Go.Proofs.YtokiohnjegbnpaaGreat.Core
open Go
set_option linter.unusedVariables false
end Go.Proofs.YtokiohnjegbnpaaGreat.Core

namespace Go.Proofs.YtokiohnjegbnpaaGreat.Core
open Go
set_option linter.unusedVariables false
theorem CZ (x:List Int) (n:Int) (h:x.length≤maxLen):DV x n=some (x.contains n):=lM (by
 have hm:x.length≤9223372036854775807:=h
 unfold Z8
 have:=G7 (n:=x.length) (P:=fun i=>Iy x n (i:Int)=some ((x.drop i).contains n)) (UQ (by
  unfold NR
  rw [if_neg (by simp),List.drop_length]
  rfl)) (fun i hi ih=>UQ (by
  unfold NR
  simp only [show ((i:Int)<(x.length:Int)) from by omega,decide_true,if_true,show (0:Int)≤(i:Int) from by omega,Int.toNat_natCast,AY hi,AU (show i<9223372036854775807 by omega)]
  rw [Bt hi,List.contains_cons,ih]
  by_cases e:x[i]=n
  ·subst e
   simp
  ·simp [e,Ne.symm e])) 0 (by omega)
 simpa using this)
theorem sU (x:List Int) (i:Nat) (hi:i<x.length) (h:x.length≤maxLen):∃ r,Ct x x[i]=some r∧((r=(i:Int))↔x[i]∉x.take i):=by
 have hm:x.length≤9223372036854775807:=h
 have key:=G7 (n:=i) (P:=fun k=>∃ r,CL x x[i] (x.length:Int) (k:Int)=some r∧(k:Int)≤r∧((r=(i:Int))↔∀ m (hm:m<i),k≤m→x[m]≠x[i])) ⟨i,Bs (by
  unfold BS
  simp only [show ((i:Int)<(x.length:Int)) from by omega,decide_true,if_true,show (0:Int)≤(i:Int) from by omega,Int.toNat_natCast,AY hi]
  simp),by omega,⟨fun _ m hm hk=>by omega,fun _=>rfl⟩⟩ (fun k hk ⟨r,hr,hkr,hiff⟩=>by
  have hk2:k<x.length:=by omega
  by_cases e:x[i]=x[k]
  ·refine ⟨k,Bs ?_,by omega,⟨fun he=>by omega,fun hall=>absurd e.symm (hall k hk (by omega))⟩⟩
   unfold BS
   simp only [show ((k:Int)<(x.length:Int)) from by omega,decide_true,if_true,show (0:Int)≤(k:Int) from by omega,Int.toNat_natCast,AY hk2]
   rw [if_pos (by simpa using e)]
  ·refine ⟨r,Bs ?_,by omega,hiff.trans ⟨fun hall m hm hkm=>?_,fun hall m hm hkm=>hall m hm (by omega)⟩⟩
   ·unfold BS
    simp only [show ((k:Int)<(x.length:Int)) from by omega,decide_true,if_true,show (0:Int)≤(k:Int) from by omega,Int.toNat_natCast,AY hk2,AU (show k<9223372036854775807 by omega)]
    rw [if_neg (by simpa using e)]
    exact hr
   ·rcases Nat.lt_or_ge k m with h1 | h1
    ·exact hall m hm h1
    ·have:m=k:=by omega
     subst this
     exact fun h=>e h.symm) 0 (by omega)
 obtain ⟨r,hr,_,hiff⟩:=key
 refine ⟨r,Kz hr,hiff.trans ⟨fun hall hmem=>?_,fun hn m hm _ he=>hn ?_⟩⟩
 ·obtain ⟨m,hm,he⟩:=List.mem_take_iff_getElem.1 hmem
  exact hall m (by omega) (by omega) he
 ·exact List.mem_take_iff_getElem.2 ⟨m,by omega,he⟩
def Gu (v:List Int) (i:Nat):Nat→Bool
 | 0=>true
 | k+1=>(decide (1≤v.getD i 0)&&decide (v.getD i 0≤6))&&!(v.take i).contains (v.getD i 0)&&Gu v (i+1) k
def TX (v:List Int):Bool:=(decide (1≤(v.length:Int))&&decide ((v.length:Int)≤4))&&Gu v 0 v.length
def EW (x:List (List Int)) (n:Nat):List (List Int)→Bool
 | []=>decide (1≤(n:Int))&&decide ((n:Int)≤9)
 | v::r=>TX v&&EW x n r
theorem bA (v:List Int) (h:v.length≤maxLen):O2 v=some (TX v):=iw (by
 have hm:v.length≤9223372036854775807:=h
 unfold Wa TX
 simp only [Au,Option.bind_some]
 have:=G7 (n:=v.length) (P:=fun i=>HM v (i:Int)=some (Gu v i (v.length-i))) (Qj (by
  unfold K3
  rw [if_neg (by simp),Nat.sub_self]
  rfl)) (fun i hi ih=>Qj (by
  unfold K3
  have e:v.length-i=(v.length-(i+1))+1:=by omega
  rw [e,Gu]
  simp only [show ((i:Int)<(v.length:Int)) from by omega,show ((i:Int)≤(v.length:Int)) from by omega,decide_true,if_true,show (0:Int)≤(i:Int) from by omega,Int.toNat_natCast,Au,Option.bind_some,AU (show i<9223372036854775807 by omega),ih,Int.toNat_zero,List.drop_zero,Int.le_refl,
   CZ (v.take i) _ (by rw [List.length_take]; omega)]
  generalize (decide (1≤v.getD i 0)&&decide (v.getD i 0≤6))=a
  generalize (v.take i).contains (v.getD i 0)=b
  cases a<;>cases b<;>simp)) 0 (by omega)
 simp only [Int.ofNat_zero,Nat.sub_zero] at this
 generalize (decide (1≤(v.length:Int))&&decide ((v.length:Int)≤4))=a
 cases a
 ·simp
 ·simpa using this)
theorem bB (x:List (List Int)) (h:x.length≤maxLen) (ho:∀ a∈x,a.length≤maxLen):Di x=some (EW x x.length x):=ip (by
 have hm:x.length≤9223372036854775807:=h
 unfold WS
 exact G7 (n:=x.length) (P:=fun i=>HL x (i:Int)=some (EW x x.length (x.drop i))) (Qe (by
  unfold Kx
  rw [if_neg (by simp),List.drop_length,Au]
  rfl)) (fun i hi ih=>Qe (by
  unfold Kx
  simp only [show ((i:Int)<(x.length:Int)) from by omega,decide_true,if_true,show (0:Int)≤(i:Int) from by omega,Int.toNat_natCast,AY hi,bA x[i] (ho _ (List.getElem_mem _)),Option.bind_some,AU (show i<9223372036854775807 by omega),ih]
  rw [Bt hi,EW]
  generalize TX x[i]=a
  cases a<;>simp)) 0 (by omega))
theorem bC (x:List (List Int)) (h:x.length≤maxLen) (ho:∀ a∈x,a.length≤maxLen):Dh x=some (EW x x.length x):=il (by
 have hm:x.length≤9223372036854775807:=h
 unfold WN
 exact G7 (n:=x.length) (P:=fun i=>HK x x (x.length:Int) (i:Int)=some (EW x x.length (x.drop i))) (Qc (by
  unfold Kw
  rw [if_neg (by simp),List.drop_length,Al]
  rfl)) (fun i hi ih=>Qc (by
  unfold Kw
  simp only [show ((i:Int)<(x.length:Int)) from by omega,decide_true,if_true,show (0:Int)≤(i:Int) from by omega,Int.toNat_natCast,AY hi]
  rw [Bt hi,EW]
  have hv:=ho x[i] (List.getElem_mem _)
  generalize x[i]=v at hv
  have hvm:v.length≤9223372036854775807:=hv
  have wj:Ku x v x (x.length:Int) (i:Int)=some ((decide (1≤(v.length:Int))&&decide ((v.length:Int)≤4))&&EW x x.length (x.drop (i+1))):=aG (by
   unfold Qa
   rw [Al,Option.bind_some,AU (show i<9223372036854775807 by omega),ih]
   generalize (decide (1≤(v.length:Int))&&decide ((v.length:Int)≤4))=a
   cases a<;>simp)
  have:=G7 (n:=v.length) (P:=fun j=>HJ x v x (x.length:Int) (i:Int) v (v.length:Int) (j:Int)=some (Gu v j (v.length-j)&&((decide (1≤(v.length:Int))&&decide ((v.length:Int)≤4))&&EW x x.length (x.drop (i+1))))) (Qb (by
   unfold Kv
   rw [if_neg (by simp),Nat.sub_self,wj]
   rfl)) (fun j hj ihj=>Qb (by
   unfold Kv
   have e:v.length-j=(v.length-(j+1))+1:=by omega
   obtain ⟨r,hr,hiff⟩:=sU v j hj hv
   rw [e,Gu]
   simp only [show ((j:Int)<(v.length:Int)) from by omega,decide_true,if_true,show (0:Int)≤(j:Int) from by omega,Int.toNat_natCast,GH,Option.bind_some,AU (show j<9223372036854775807 by omega),ihj,AY hj,hr]
   have hb:(r != (j:Int))=(v.take j).contains v[j]:=by
    by_cases e2:r=(j:Int)
    ·have:=hiff.1 e2
     simp [e2,this]
    ·have:v[j]∈v.take j:=Classical.byContradiction fun hn=>e2 (hiff.2 hn)
     simp [e2,this]
   rw [hb]
   generalize (decide (1≤v[j])&&decide (v[j]≤6))=a
   generalize (v.take j).contains v[j]=b
   cases a<;>cases b<;>simp)) 0 (by omega)
  simp only [Int.ofNat_zero,Nat.sub_zero] at this
  unfold TX
  refine Eq.trans this ?_
  congr 1
  generalize Gu v 0 v.length=a
  generalize (decide (1≤(v.length:Int))&&decide ((v.length:Int)≤4))=b
  cases a<;>cases b<;>simp)) 0 (by omega))
end Go.Proofs.YtokiohnjegbnpaaGreat.Core

namespace Go.Proofs.YtokiohnjegbnpaaGreat.Core
open Go
set_option linter.unusedVariables false
abbrev ns:Type:=Int×Int×Int×(ByteArray×ByteArray×Int)×List Int
abbrev Z:Type:=Int×Int×Bool×Bool×Bool×Bool×List Int×List (ByteArray×ByteArray×Int)×Int×ns
def Em (v:List Int) (i:Nat):Nat→Bool
 | 0=>true
 | k+1=>(decide (1≤v.getD i 0)&&decide (v.getD i 0≤6))&&(decide (i=0)||decide (v.getD (i-1) 0<v.getD i 0))&&Em v (i+1) k
theorem Sh (x:List Int) (h:x.length≤maxLen):Cp x=some (Em x 0 x.length):=jr (by
 have hm:x.length≤9223372036854775807:=h
 unfold X0
 have:=G7 (n:=x.length) (P:=fun i=>GG x (i:Int)=some (Em x i (x.length-i))) (SZ (by
  unfold MU
  rw [if_neg (by simp),Nat.sub_self]
  rfl)) (fun i hi ih=>SZ (by
  unfold MU
  have e:x.length-i=(x.length-(i+1))+1:=by omega
  simp only [show ((i:Int)<(x.length:Int)) from by omega,decide_true,if_true,show (0:Int)≤(i:Int) from by omega,Int.toNat_natCast,AU (show i<9223372036854775807 by omega),ih,Au,Option.bind_some]
  rw [e,Em]
  generalize (decide (1≤x.getD i 0)&&decide (x.getD i 0≤6))=a
  cases a
  ·simp
  by_cases h0:0<i
  ·rw [XE (by omega) h0]
   simp only [Int.toNat_natCast,show ((0:Int)≤((i-1:Nat):Int)) from by omega,show (((i-1:Nat):Int)<(x.length:Int)) from by omega,if_true]
   rcases Int.lt_or_le (x.getD (i-1) 0) (x.getD i 0) with hb | hb
   ·have d1:decide (x.getD (i-1) 0≥x.getD i 0)=false:=decide_eq_false (by omega)
    have d2:decide (x.getD (i-1) 0<x.getD i 0)=true:=decide_eq_true hb
    simp only [d1,d2]
    simp [h0,show i≠0 by omega]
   ·have d1:decide (x.getD (i-1) 0≥x.getD i 0)=true:=decide_eq_true (by omega)
    have d2:decide (x.getD (i-1) 0<x.getD i 0)=false:=decide_eq_false (by omega)
    simp only [d1,d2]
    simp [h0,show i≠0 by omega]
  ·have:i=0:=by omega
   subst this
   simp)) 0 (by omega)
 simpa using this)
theorem Ly (x:List Int) (h:x.length≤maxLen):GW x 1 6=some (Em x 0 x.length):=Yj (by
 have hm:x.length≤9223372036854775807:=h
 unfold PM
 have:=G7 (n:=x.length) (P:=fun i=>DE x 1 6 x (x.length:Int) (i:Int)=some (Em x i (x.length-i))) (Lk (by
  unfold G2
  rw [if_neg (by simp),Nat.sub_self]
  rfl)) (fun i hi ih=>Lk (by
  unfold G2
  have e:x.length-i=(x.length-(i+1))+1:=by omega
  simp only [show ((i:Int)<(x.length:Int)) from by omega,decide_true,if_true,show (0:Int)≤(i:Int) from by omega,Int.toNat_natCast,AU (show i<9223372036854775807 by omega),ih,Al,Option.bind_some]
  rw [e,Em]
  generalize (decide (1≤x.getD i 0)&&decide (x.getD i 0≤6))=a
  cases a
  ·simp
  by_cases h0:0<i
  ·rw [XE (by omega) h0]
   simp only [Int.toNat_natCast,show ((0:Int)≤((i-1:Nat):Int)) from by omega,show (((i-1:Nat):Int)<(x.length:Int)) from by omega,if_true]
   rcases Int.lt_or_le (x.getD (i-1) 0) (x.getD i 0) with hb | hb
   ·have d1:decide (x.getD i 0≤x.getD (i-1) 0)=false:=decide_eq_false (by omega)
    have d2:decide (x.getD (i-1) 0<x.getD i 0)=true:=decide_eq_true hb
    simp only [d1,d2]
    simp [h0,show i≠0 by omega]
   ·have d1:decide (x.getD i 0≤x.getD (i-1) 0)=true:=decide_eq_true (by omega)
    have d2:decide (x.getD (i-1) 0<x.getD i 0)=false:=decide_eq_false (by omega)
    simp only [d1,d2]
    simp [h0,show i≠0 by omega]
  ·have:i=0:=by omega
   subst this
   simp)) 0 (by omega)
 simpa using this)
def IU (t:ns):Bool:=(t.1==0)&&(t.2.1==0)&&(t.2.2.1==0)&&VM (.pair .str (.pair .str (.int .i64))) t.2.2.2.1 (ByteArray.empty,ByteArray.empty,(0:Int))&&((t.2.2.2.2.length:Int)==0)
def En (t:ns) (serves:Bool):Bool:=(t.1==1||t.1==2)&&serves&&(decide (0≤t.2.1)&&decide (t.2.1≤1000))&&(decide (1≤t.2.2.1)&&decide (t.2.2.1≤900))
def Si (x:Z):Bool :=
 (decide (1≤x.1)&&decide (x.1≤6))&&(decide (1≤x.2.1)&&decide (x.2.1≤9))&&(!x.2.2.2.2.2.1||(x.2.2.2.1&&x.2.2.2.2.1&&!decide ((x.2.2.2.2.2.2.1.length:Int)>0)))&&(!x.2.2.1||(!x.2.2.2.1&&!x.2.2.2.2.1)) &&
  Em x.2.2.2.2.2.2.1 0 x.2.2.2.2.2.2.1.length&&Em x.2.2.2.2.2.2.2.2.2.2.2.2.2 0 x.2.2.2.2.2.2.2.2.2.2.2.2.2.length&&Bu x.2.2.2.2.2.2.2.1 0 x.2.2.2.2.2.2.2.1.length&&(decide (0≤x.2.2.2.2.2.2.2.2.1)&&decide (x.2.2.2.2.2.2.2.2.1≤900)) &&
  (IU x.2.2.2.2.2.2.2.2.2||En x.2.2.2.2.2.2.2.2.2 x.2.2.2.2.2.1)
theorem Xg (t:ns):ME t=some (IU t):=dS (by
 unfold Sa IU
 generalize (t.1==0)=a
 generalize (t.2.1==0)=b
 generalize (t.2.2.1==0)=c
 generalize VM (.pair .str (.pair .str (.int .i64))) t.2.2.2.1 (ByteArray.empty,ByteArray.empty,(0:Int))=d
 cases a<;>cases b<;>cases c<;>cases d<;>simp)
theorem Y0 (x:Z) (h1:x.2.2.2.2.2.2.1.length≤maxLen) (h2:x.2.2.2.2.2.2.2.1.length≤maxLen) (h3:x.2.2.2.2.2.2.2.2.2.2.2.2.2.length≤maxLen):E_ x=some (Si x):=fa (by
 have w0:∀ b,DO b x=some (IU x.2.2.2.2.2.2.2.2.2||En x.2.2.2.2.2.2.2.2.2 x.2.2.2.2.2.1):=fun b=>Yw (by
  unfold PV En
  simp only [Au,Xg,Option.bind_some]
  generalize IU x.2.2.2.2.2.2.2.2.2=a
  generalize (x.2.2.2.2.2.2.2.2.2.1==1)=b
  generalize (x.2.2.2.2.2.2.2.2.2.1==2)=c
  generalize x.2.2.2.2.2.1=d
  generalize (decide (0≤x.2.2.2.2.2.2.2.2.2.2.1)&&decide (x.2.2.2.2.2.2.2.2.2.2.1≤1000))=e
  generalize (decide (1≤x.2.2.2.2.2.2.2.2.2.2.2.1)&&decide (x.2.2.2.2.2.2.2.2.2.2.2.1≤900))=f
  cases a<;>cases b<;>cases c<;>cases d<;>cases e<;>simp)
 unfold Un Si
 simp only [Au,Sh _ h1,Sh _ h3,HS _ h2,Option.bind_some,w0]
 generalize (decide (1≤x.1)&&decide (x.1≤6))=a
 generalize (decide (1≤x.2.1)&&decide (x.2.1≤9))=b
 generalize decide ((x.2.2.2.2.2.2.1.length:Int)>0)=c
 generalize Em x.2.2.2.2.2.2.1 0 x.2.2.2.2.2.2.1.length=d
 generalize Em x.2.2.2.2.2.2.2.2.2.2.2.2.2 0 x.2.2.2.2.2.2.2.2.2.2.2.2.2.length=e
 generalize Bu x.2.2.2.2.2.2.2.1 0 x.2.2.2.2.2.2.2.1.length=f
 generalize (decide (0≤x.2.2.2.2.2.2.2.2.1)&&decide (x.2.2.2.2.2.2.2.2.1≤900))=g
 generalize (IU x.2.2.2.2.2.2.2.2.2||En x.2.2.2.2.2.2.2.2.2 x.2.2.2.2.2.1)=t
 generalize x.2.2.2.2.2.1=s
 generalize x.2.2.2.2.1=l
 generalize x.2.2.2.1=m
 generalize x.2.2.1=n
 cases a
 ·simp
 cases b
 ·simp
 cases d<;>cases e<;>cases f<;>cases g<;>cases s<;>cases n<;>cases m<;>cases l<;>cases c<;>simp)
theorem Sj (x:Z) (h3:x.2.2.2.2.2.2.2.2.2.2.2.2.2.length≤maxLen):Ck x=some (Em x.2.2.2.2.2.2.2.2.2.2.2.2.2 0 x.2.2.2.2.2.2.2.2.2.2.2.2.2.length&&(IU x.2.2.2.2.2.2.2.2.2||En x.2.2.2.2.2.2.2.2.2 x.2.2.2.2.2.1),x):=WK (by
 unfold Mx IU En
 simp only [Al,Ly _ h3,Option.bind_some]
 by_cases hk:x.2.2.2.2.2.2.2.2.2.1=0
 ·rw [if_pos (by simp [hk])]
  have k1:(x.2.2.2.2.2.2.2.2.2.1==1)=false:=by simp [hk]
  have k2:(x.2.2.2.2.2.2.2.2.2.1==2)=false:=by simp [hk]
  have k0:(x.2.2.2.2.2.2.2.2.2.1==0)=true:=by simp [hk]
  rw [k1,k2,k0]
  have hl:((x.2.2.2.2.2.2.2.2.2.2.2.2.2.length:Int)==0)=true→Em x.2.2.2.2.2.2.2.2.2.2.2.2.2 0 x.2.2.2.2.2.2.2.2.2.2.2.2.2.length=true:=by
   intro h
   have:x.2.2.2.2.2.2.2.2.2.2.2.2.2.length=0:=by simpa using h
   rw [this]
   rfl
  generalize ((x.2.2.2.2.2.2.2.2.2.2.2.2.2.length:Int)==0)=l at hl
  generalize Em x.2.2.2.2.2.2.2.2.2.2.2.2.2 0 x.2.2.2.2.2.2.2.2.2.2.2.2.2.length=u at hl
  generalize (x.2.2.2.2.2.2.2.2.2.2.1==0)=b
  generalize (x.2.2.2.2.2.2.2.2.2.2.2.1==0)=c
  generalize VM (.pair .str (.pair .str (.int .i64))) x.2.2.2.2.2.2.2.2.2.2.2.2.1 (ByteArray.empty,ByteArray.empty,(0:Int))=d
  cases b<;>cases c<;>cases d<;>cases l<;>cases u<;>simp at hl ⊢
 ·rw [if_neg (by simp [hk])]
  have k0:(x.2.2.2.2.2.2.2.2.2.1==0)=false:=by simp [hk]
  have k12:(decide (1≤x.2.2.2.2.2.2.2.2.2.1)&&decide (x.2.2.2.2.2.2.2.2.2.1≤2))=(x.2.2.2.2.2.2.2.2.2.1==1||x.2.2.2.2.2.2.2.2.2.1==2):=by
   rw [Bool.eq_iff_iff]
   simp
   omega
  rw [k12,k0]
  generalize (x.2.2.2.2.2.2.2.2.2.1==1||x.2.2.2.2.2.2.2.2.2.1==2)=k
  generalize Em x.2.2.2.2.2.2.2.2.2.2.2.2.2 0 x.2.2.2.2.2.2.2.2.2.2.2.2.2.length=u
  generalize (decide (0≤x.2.2.2.2.2.2.2.2.2.2.1)&&decide (x.2.2.2.2.2.2.2.2.2.2.1≤1000))=e
  generalize (decide (1≤x.2.2.2.2.2.2.2.2.2.2.2.1)&&decide (x.2.2.2.2.2.2.2.2.2.2.2.1≤900))=f
  cases k<;>cases u<;>cases e<;>cases f<;>rcases Bool.eq_false_or_eq_true x.2.2.2.2.2.1 with hs | hs<;>simp [hs])
theorem Y1 (x:Z) (h1:x.2.2.2.2.2.2.1.length≤maxLen) (h2:x.2.2.2.2.2.2.2.1.length≤maxLen) (h3:x.2.2.2.2.2.2.2.2.2.2.2.2.2.length≤maxLen):C8 x=some (Si x):=fA (by
 have w0:∀ b,JK b x=some ((!x.2.2.2.2.2.1||(x.2.2.2.1&&x.2.2.2.2.1&&!decide ((x.2.2.2.2.2.2.1.length:Int)>0)))&&(!x.2.2.1||(!x.2.2.2.1&&!x.2.2.2.2.1))&&(Em x.2.2.2.2.2.2.2.2.2.2.2.2.2 0 x.2.2.2.2.2.2.2.2.2.2.2.2.2.length&&(IU x.2.2.2.2.2.2.2.2.2||En x.2.2.2.2.2.2.2.2.2 x.2.2.2.2.2.1))):=fun b=>Yb (by
  unfold PG
  simp only [Sj x h3,Option.bind_some]
  generalize (Em x.2.2.2.2.2.2.2.2.2.2.2.2.2 0 x.2.2.2.2.2.2.2.2.2.2.2.2.2.length&&(IU x.2.2.2.2.2.2.2.2.2||En x.2.2.2.2.2.2.2.2.2 x.2.2.2.2.2.1))=t
  generalize decide ((x.2.2.2.2.2.2.1.length:Int)>0)=c
  generalize x.2.2.2.2.2.1=s
  generalize x.2.2.2.2.1=l
  generalize x.2.2.2.1=m
  generalize x.2.2.1=n
  cases s<;>cases n<;>cases m<;>cases l<;>cases c<;>simp)
 unfold UM Si
 simp only [Al,GH,Ly _ h1,LE _ h2 M_,Option.bind_some,w0]
 generalize (decide (1≤x.1)&&decide (x.1≤6))=a
 generalize (decide (1≤x.2.1)&&decide (x.2.1≤9))=b
 generalize Em x.2.2.2.2.2.2.1 0 x.2.2.2.2.2.2.1.length=d
 generalize Em x.2.2.2.2.2.2.2.2.2.2.2.2.2 0 x.2.2.2.2.2.2.2.2.2.2.2.2.2.length=e
 generalize Bu x.2.2.2.2.2.2.2.1 0 x.2.2.2.2.2.2.2.1.length=f
 generalize (decide (0≤x.2.2.2.2.2.2.2.2.1)&&decide (x.2.2.2.2.2.2.2.2.1≤900))=g
 generalize (IU x.2.2.2.2.2.2.2.2.2||En x.2.2.2.2.2.2.2.2.2 x.2.2.2.2.2.1)=t
 generalize (!x.2.2.2.2.2.1||(x.2.2.2.1&&x.2.2.2.2.1&&!decide ((x.2.2.2.2.2.2.1.length:Int)>0)))=p
 generalize (!x.2.2.1||(!x.2.2.2.1&&!x.2.2.2.2.1))=q
 cases a
 ·simp
 cases b
 ·simp
 cases d<;>cases e<;>cases f<;>cases g<;>cases p<;>cases q<;>simp)
end Go.Proofs.YtokiohnjegbnpaaGreat.Core

namespace Go.Proofs.YtokiohnjegbnpaaGreat.Core
open Go
set_option linter.unusedVariables false
abbrev BT:Type:=Int×Int×Int×Int×Int×List (ByteArray×ByteArray×Int)
def Sk (x:BT):Bool :=
 (decide (1≤x.1)&&decide (x.1≤8))&&(decide (1≤x.2.1)&&decide (x.2.1≤6))&&(decide (1≤x.2.2.1)&&decide (x.2.2.1≤6))&&(decide (1≤x.2.2.2.1)&&decide (x.2.2.2.1≤9))&&(decide (0≤x.2.2.2.2.1)&&decide (x.2.2.2.2.1≤1000000000))&&Bu x.2.2.2.2.2 0 x.2.2.2.2.2.length &&
  (if x.1=2∨x.1=3 then true else if x.1=5 then ((x.2.2.2.2.2.length:Int)==1) else ((x.2.2.2.2.2.length:Int)==0))
theorem fw (x:BT) (h:x.2.2.2.2.2.length≤maxLen):TN x=some (Sk x):=lU (by
 have w1:∀ a b,I3 a b x=some (if b=true then true else if a=5 then ((x.2.2.2.2.2.length:Int)==1) else ((x.2.2.2.2.2.length:Int)==0)):=fun a b=>fh (by
  unfold Uo
  by_cases h1:b=true<;>by_cases h2:a=5<;>simp [h1,h2])
 have w0:∀ b,Nb b x=some (if x.1=2∨x.1=3 then true else if x.1=5 then ((x.2.2.2.2.2.length:Int)==1) else ((x.2.2.2.2.2.length:Int)==0)):=fun b=>fi (by
  unfold Up
  by_cases h1:x.1=2<;>by_cases h2:x.1=3<;>simp [h1,h2,w1])
 unfold am Sk
 simp only [Au,HS _ h,Option.bind_some,w0]
 generalize (decide (1≤x.1)&&decide (x.1≤8))=a
 generalize (decide (1≤x.2.1)&&decide (x.2.1≤6))=b
 generalize (decide (1≤x.2.2.1)&&decide (x.2.2.1≤6))=c
 generalize (decide (1≤x.2.2.2.1)&&decide (x.2.2.2.1≤9))=d
 generalize (decide (0≤x.2.2.2.2.1)&&decide (x.2.2.2.2.1≤1000000000))=e
 generalize Bu x.2.2.2.2.2 0 x.2.2.2.2.2.length=f
 cases a<;>cases b<;>cases c<;>cases d<;>cases e<;>cases f<;>simp)
theorem f4 (x:BT) (h:x.2.2.2.2.2.length≤maxLen):TM x=some (Sk x):=lT (by
 have w1:∀ a b,I2 a b x=some (if b=true then true else if a=5 then ((x.2.2.2.2.2.length:Int)==1) else ((x.2.2.2.2.2.length:Int)==0)):=fun a b=>fW (by
  unfold Ul
  by_cases h1:b=true<;>by_cases h2:a=5<;>simp [h1,h2])
 have w0:∀ b,Na b x=some (if x.1=2∨x.1=3 then true else if x.1=5 then ((x.2.2.2.2.2.length:Int)==1) else ((x.2.2.2.2.2.length:Int)==0)):=fun b=>fX (by
  unfold Um
  by_cases h1:x.1=2<;>by_cases h2:x.1=3<;>simp [h1,h2,w1])
 unfold aZ Sk
 simp only [Al,GH,LE _ h M_,Option.bind_some,w0]
 generalize (decide (1≤x.1)&&decide (x.1≤8))=a
 generalize (decide (1≤x.2.1)&&decide (x.2.1≤6))=b
 generalize (decide (1≤x.2.2.1)&&decide (x.2.2.1≤6))=c
 generalize (decide (1≤x.2.2.2.1)&&decide (x.2.2.2.1≤9))=d
 generalize (decide (0≤x.2.2.2.2.1)&&decide (x.2.2.2.2.1≤1000000000))=e
 generalize Bu x.2.2.2.2.2 0 x.2.2.2.2.2.length=f
 cases a<;>cases b<;>cases c<;>cases d<;>cases e<;>cases f<;>simp)
end Go.Proofs.YtokiohnjegbnpaaGreat.Core

namespace Go.Proofs.YtokiohnjegbnpaaGreat.Core
open Go
set_option linter.unusedVariables false
set_option linter.unusedSimpArgs false
abbrev C9:Type:=Int×Int×Int×AQ
def sV (v:List Int):Prop:=(∀ a∈v,1≤a∧a≤6)∧v.Pairwise (· < ·)
theorem jJ {v:List Int}:∀ (m i:Nat),i+m=v.length→(Em v i m=true↔∀ a (ha:a<v.length),i≤a→(1≤v[a]∧v[a]≤6)∧(a≠0→v.getD (a-1) 0<v[a]))
 | 0,i,h=>by
  simp only [Em,true_iff]
  intro a ha hi
  omega
 | m+1,i,h=>by
  have hi:i<v.length:=by omega
  rw [Em,Bool.and_eq_true,Bool.and_eq_true,jJ m (i+1) (by omega),AY hi]
  simp only [Bool.or_eq_true,Bool.and_eq_true,decide_eq_true_eq]
  constructor
  ·rintro ⟨⟨h1,h2⟩,h3⟩ a ha hia
   by_cases e:a=i
   ·subst e
    exact ⟨h1,fun h0=>h2.resolve_left h0⟩
   ·exact h3 a ha (by omega)
  ·intro h3
   refine ⟨⟨(h3 i hi (Nat.le_refl _)).1,?_⟩,fun a ha hia=>h3 a ha (by omega)⟩
   by_cases e:i=0
   ·exact .inl e
   ·exact .inr ((h3 i hi (Nat.le_refl _)).2 e)
theorem rV {v:List Int}:Em v 0 v.length=true↔sV v:=by
 rw [jJ _ _ (by omega)]
 constructor
 ·intro h
  refine ⟨fun a ha=>?_,?_⟩
  ·obtain ⟨i,hi,rfl⟩:=List.getElem_of_mem ha
   exact (h i hi (Nat.zero_le _)).1
  ·have st:∀ d a (ha:a+d+1<v.length),v.getD a 0<v.getD (a+d+1) 0:=by
    intro d
    induction d with
    | zero =>
     intro a ha
     have:=(h (a+1) (by omega) (Nat.zero_le _)).2 (by omega)
     rw [AY (show a+0+1<v.length from ha)]
     simpa using this
    | succ d ih =>
     intro a ha
     have h1:=ih a (by omega)
     have h2:=(h (a+(d+1)+1) ha (Nat.zero_le _)).2 (by omega)
     rw [AY ha]
     simp only [Nat.add_sub_cancel] at h2
     have h3:v.getD (a+d+1) 0<v[a+(d+1)+1]:=h2
     omega
   rw [List.pairwise_iff_getElem]
   intro i j hi hj hij
   have:=st (j-i-1) i (by omega)
   rw [show i+(j-i-1)+1=j by omega,AY hi,AY hj] at this
   exact this
 ·rintro ⟨h1,h2⟩ a ha _
  refine ⟨h1 _ (List.getElem_mem ha),fun h0=>?_⟩
  rw [AY (show a-1<v.length by omega)]
  exact (List.pairwise_iff_getElem.1 h2) (a-1) a (by omega) ha (by omega)
theorem nt {v:List Int} (h:sV v):v.length≤6:=by
 have hs:v.Sublist [1,2,3,4,5,6]:=by
  have key:∀ (l:List Int) (n:Nat),n≤6→(∀ a∈l,(6-n:Int)<a∧a≤6)→l.Pairwise (· < ·)→l.length≤n:=by
   intro l
   induction l with
   | nil=>intro n _ _ _; simp
   | cons a l ih =>
    intro n hn hb hp
    have ha:=hb a (by simp)
    have hp2:=List.pairwise_cons.1 hp
    have:=ih ((6-a).toNat) (by omega) (fun b hb'=>⟨by have:=hp2.1 b hb'; omega,(hb b (by simp [hb'])).2⟩) hp2.2
    simp only [List.length_cons]
    omega
  have hl:=key v 6 (by omega) (fun a ha=>by have:=h.1 a ha; omega) h.2
  exact List.Sublist.trans (List.Sublist.refl v) (by
   have:∀ (l:List Int) (s:List Int),s.Pairwise (· < ·)→l.Pairwise (· < ·)→(∀ a∈l,a∈s)→l.Sublist s:=by
    intro l s
    induction s generalizing l with
    | nil =>
     intro _ _ hm
     cases l with
     | nil=>exact List.Sublist.slnil
     | cons a l=>exact absurd (hm a (by simp)) (by simp)
    | cons b s ih =>
     intro hs hl hm
     cases l with
     | nil=>exact List.nil_sublist _
     | cons a l =>
      have hs2:=List.pairwise_cons.1 hs
      have hl2:=List.pairwise_cons.1 hl
      rcases List.mem_cons.1 (hm a (by simp)) with e | e
      ·subst e
       refine (ih l hs2.2 hl2.2 fun c hc=>?_).cons_cons _
       rcases List.mem_cons.1 (hm c (by simp [hc])) with e | e
       ·have:=hl2.1 c hc; omega
       ·exact e
      ·refine (ih (a::l) hs2.2 hl fun c hc=>?_).cons _
       rcases List.mem_cons.1 (hm c hc) with e2 | e2
       ·have h1:=hs2.1 a e
        rcases List.mem_cons.1 hc with e3 | e3
        ·omega
        ·have:=hl2.1 c e3; omega
       ·exact e2
   refine this v [1,2,3,4,5,6] (by decide) h.2 fun a ha=>?_
   have:=h.1 a ha
   have h5:a=1∨a=2∨a=3∨a=4∨a=5∨a=6:=by omega
   rcases h5 with h | h | h | h | h | h<;>simp [h])
 simpa using hs.length_le
structure IV (m:Z):Prop where
 id:1≤m.1∧m.1≤6
 ep:1≤m.2.1∧m.2.1≤9
 serves:m.2.2.2.2.2.1=true→m.2.2.2.1=true∧m.2.2.2.2.1=true∧m.2.2.2.2.2.2.1=[]
 fell:m.2.2.1=true→m.2.2.2.1=false∧m.2.2.2.2.1=false
 waits:sV m.2.2.2.2.2.2.1
 left:sV m.2.2.2.2.2.2.2.2.2.2.2.2.2
 items:BH m.2.2.2.2.2.2.2.1=true
 count:0≤m.2.2.2.2.2.2.2.2.1∧m.2.2.2.2.2.2.2.2.1≤900
 task:IU m.2.2.2.2.2.2.2.2.2=true∨En m.2.2.2.2.2.2.2.2.2 m.2.2.2.2.2.1=true
theorem nu {m:Z}:Si m=true↔IV m:=by
 unfold Si
 simp only [Bool.and_eq_true,Bool.or_eq_true,Bool.not_eq_true',decide_eq_true_eq,rV,decide_eq_false_iff_not]
 constructor
 ·rintro ⟨⟨⟨⟨⟨⟨⟨⟨h1,h2⟩,h3⟩,h4⟩,h5⟩,h6⟩,h7⟩,h8⟩,h9⟩
  refine ⟨h1,h2,fun h=>?_,fun h=>?_,h5,h6,h7,h8,h9⟩
  ·rcases h3 with h3 | ⟨⟨a,b⟩,c⟩
   ·rw [h] at h3; cases h3
   ·exact ⟨a,b,List.length_eq_zero_iff.1 (by omega)⟩
  ·rcases h4 with h4 | h4
   ·rw [h] at h4; cases h4
   ·exact h4
 ·rintro ⟨h1,h2,h3,h4,h5,h6,h7,h8,h9⟩
  refine ⟨⟨⟨⟨⟨⟨⟨⟨h1,h2⟩,?_⟩,?_⟩,h5⟩,h6⟩,h7⟩,h8⟩,h9⟩
  ·cases hs:m.2.2.2.2.2.1 with
   | false=>exact .inl rfl
   | true =>
    obtain ⟨a,b,c⟩:=h3 hs
    exact .inr ⟨⟨a,b⟩,by rw [c]; simp⟩
  ·cases hs:m.2.2.1 with
   | false=>exact .inl rfl
   | true=>exact .inr (h4 hs)
theorem Jk {x:List AQ} (h:BH x=true):x.length≤12:=(Hl.1 h).2.2
theorem IV.lens {m:Z} (h:IV m):m.2.2.2.2.2.2.1.length≤6∧m.2.2.2.2.2.2.2.1.length≤12∧m.2.2.2.2.2.2.2.2.2.2.2.2.2.length≤6:=⟨nt h.waits,Jk h.items,nt h.left⟩
theorem bD (m:Z) (h1:m.2.2.2.2.2.2.1.length≤68719476736) (h2:m.2.2.2.2.2.2.2.1.length≤68719476736) (h3:m.2.2.2.2.2.2.2.2.2.2.2.2.2.length≤68719476736):Cs m=some m:=iq (by
 unfold WV
 rw [if_pos (by simpa using h1),if_pos (by simpa using h2),if_pos (by simpa using h3)]
 rfl)
theorem IV.copy {m:Z} (h:IV m):Cs m=some m:=by
 obtain ⟨h1,h2,h3⟩:=h.lens
 exact bD m (by omega) (by omega) (by omega)
def GI (view:List Int) (id:Int):List Int:=[1,2,3,4,5,6].filter fun v=>v != id&&view.contains v
theorem TY (view:List Int) (id:Int):sV (GI view id):=by
 refine ⟨fun a ha=>?_,List.Pairwise.filter _ (by decide)⟩
 have:=(List.mem_filter.1 ha).1
 simp at this
 omega
theorem IW (view:List Int) (id:Int) (h:view.length≤maxLen):F8 view id=some (GI view id):=dA (by
 unfold SM
 have step:∀ (v:Nat) (acc r:List Int),v≤6→1≤v→acc.length≤6→B4 view id ((v+1:Nat):Int) (if ((v:Int) != id&&view.contains (v:Int))=true then acc++[(v:Int)] else acc)=some r→B4 view id (v:Int) acc=some r:=by
  intro v acc r hv hv1 ha hr
  refine N9 ?_
  unfold IS
  rw [if_pos (by simp; omega),AU (show v<9223372036854775807 by omega),CZ view _ h]
  by_cases h1:((v:Int) != id)=true
  ·rw [if_pos h1,Option.bind_some]
   by_cases h2:view.contains (v:Int)=true
   ·rw [if_pos h2,if_pos (by simp; omega)]
    rw [if_pos (by rw [h1,h2]; rfl)] at hr
    exact hr
   ·rw [if_neg h2]
    rw [if_neg (fun hc=>h2 (by simp only [Bool.and_eq_true] at hc; exact hc.2))] at hr
    exact hr
  ·rw [if_neg h1]
   rw [if_neg (fun hc=>h1 (by simp only [Bool.and_eq_true] at hc; exact hc.1))] at hr
   exact hr
 have fin:∀ acc,B4 view id ((7:Nat):Int) acc=some acc:=fun acc=>N9 (by
  unfold IS
  rw [if_neg (by decide)])
 have g:∀ (acc:List Int) (v:Int),(if (v != id&&view.contains v)=true then acc++[v] else acc).length≤acc.length+1:=by
  intro acc v; split<;>simp
 refine step 1 [] _ (by omega) (by omega) (by simp) ?_
 refine step 2 _ _ (by omega) (by omega) (by have:=g [] ((1:Nat):Int); simp only [List.length_nil] at this; omega) ?_
 have l2:=g [] ((1:Nat):Int)
 generalize e1:(if (((1:Nat):Int) != id&&view.contains ((1:Nat):Int))=true then ([]:List Int)++[((1:Nat):Int)] else [])=a1 at l2 ⊢
 have l3:=g a1 ((2:Nat):Int)
 generalize e2:(if (((2:Nat):Int) != id&&view.contains ((2:Nat):Int))=true then a1++[((2:Nat):Int)] else a1)=a2 at l3 ⊢
 have l4:=g a2 ((3:Nat):Int)
 simp only [List.length_nil] at l2
 refine step 3 _ _ (by omega) (by omega) (by omega) ?_
 generalize e3:(if (((3:Nat):Int) != id&&view.contains ((3:Nat):Int))=true then a2++[((3:Nat):Int)] else a2)=a3 at l4 ⊢
 have l5:=g a3 ((4:Nat):Int)
 refine step 4 _ _ (by omega) (by omega) (by omega) ?_
 generalize e4:(if (((4:Nat):Int) != id&&view.contains ((4:Nat):Int))=true then a3++[((4:Nat):Int)] else a3)=a4 at l5 ⊢
 have l6:=g a4 ((5:Nat):Int)
 refine step 5 _ _ (by omega) (by omega) (by omega) ?_
 generalize e5:(if (((5:Nat):Int) != id&&view.contains ((5:Nat):Int))=true then a4++[((5:Nat):Int)] else a4)=a5 at l6 ⊢
 refine step 6 _ _ (by omega) (by omega) (by omega) ?_
 rw [fin]
 congr 1
 unfold GI
 have fl:∀ (p:Int→Bool) (v:Int) (l:List Int),(v::l).filter p=(if p v=true then [v] else [])++l.filter p:=by
  intro p v l; rw [List.filter_cons]; split<;>simp
 have ap:∀ (c:Bool) (a:List Int) (v:Int),(if c=true then a++[v] else a)=a++(if c=true then [v] else []):=by
  intro c a v; split<;>simp
 rw [ap,← e5,ap,← e4,ap,← e3,ap,← e2,ap,← e1,ap]
 simp only [fl,List.filter_nil,List.append_nil,List.nil_append,List.append_assoc]
 rfl)
theorem jK {v:List Int} (h:sV v) (p:Int→Bool):sV (v.filter p):=⟨fun a ha=>h.1 a (List.mem_filter.1 ha).1,h.2.filter p⟩
theorem NC (v:List Int) (x:Int) (h:v.length≤68719476736):HE v x=some (v.filter (· != x)):=au (by
 unfold Qy
 have key:=G7 (n:=v.length) (P:=fun i=>∀ acc:List Int,acc.length≤i→Dj v x (i:Int) acc=some (acc++(v.drop i).filter (· != x))) (fun acc ha=>M8 (by
  unfold Hi
  rw [if_neg (by simp)]
  simp)) (fun i hi ih acc ha=>M8 (by
  unfold Hi
  simp only [show ((i:Int)<(v.length:Int)) from by omega,decide_true,if_true,show (0:Int)≤(i:Int) from by omega,Int.toNat_natCast,AY hi,AU (show i<9223372036854775807 by omega)]
  rw [Bt hi,List.filter_cons]
  by_cases hh:(v[i] != x)=true
  ·rw [if_pos hh,if_pos (by simp; omega),ih _ (by simp; omega),if_pos hh,List.append_assoc]
   rfl
  ·rw [if_neg hh,ih _ (by omega),if_neg hh])) 0 (by omega) [] (by simp)
 simpa using key)
end Go.Proofs.YtokiohnjegbnpaaGreat.Core

namespace Go.Proofs.YtokiohnjegbnpaaGreat.Core
open Go
set_option linter.unusedVariables false
set_option linter.unusedSimpArgs false
def B5 (view:List Int) (id:Int):List Int:=view.filter (· != id)
def Sl (m:Z) (view:List Int) (its:List AQ):Z :=
 (m.1,m.2.1,m.2.2.1,true,m.2.2.2.2.1,(((GI view m.1).length:Int)==0),GI view m.1,its,m.2.2.2.2.2.2.2.2)
def Sm (m:Z) (e:Int):Z :=
 (m.1,e,false,false,false,false,([]:List Int),m.2.2.2.2.2.2.2.1,(0:Int),(0:Int),(0:Int),(0:Int),(ByteArray.empty,ByteArray.empty,(0:Int)),([]:List Int))
def Dy (m:Z) (x:BT) (k:Int):List BT:=[(k,m.1,x.2.1,x.2.2.2.1,x.2.2.2.2.1,([]:List AQ))]
def Sn (m:Z) (its:List AQ):Z :=
 (m.1,m.2.1,m.2.2.1,m.2.2.2.1,m.2.2.2.2.1,m.2.2.2.2.2.1,m.2.2.2.2.2.2.1,its,m.2.2.2.2.2.2.2.2.1,(0:Int),(0:Int),(0:Int),(ByteArray.empty,ByteArray.empty,(0:Int)),([]:List Int))
def Ey (m:Z):List C9×Z :=
 if (m.2.2.2.2.2.2.2.2.2.1==1)=true then ([(m.2.2.2.2.2.2.2.2.2.2.1,m.2.1,m.2.2.2.2.2.2.2.2.2.2.2.1,m.2.2.2.2.2.2.2.2.2.2.2.2.1)],Sn m (DD m.2.2.2.2.2.2.2.1 m.2.2.2.2.2.2.2.2.2.2.2.2.1))
 else ([(m.2.2.2.2.2.2.2.2.2.2.1,m.2.1,m.2.2.2.2.2.2.2.2.2.2.2.1,C0 m.2.2.2.2.2.2.2.1 m.2.2.2.2.2.2.2.2.2.2.2.2.1.1)],Sn m m.2.2.2.2.2.2.2.1)
theorem So (view:List Int) (its:List AQ) (m:Z) (h:view.length≤68719476736) (hi:its.length≤68719476736) :
  Md view its m=some ((B5 view m.1).map (fun v=>(3,m.1,v,m.2.1,0,its)),Sl m view its):=jp (by
 unfold Xy
 rw [if_pos (by simpa using hi),IW view _ (by unfold maxLen; omega),Option.bind_some]
 have key:=G7 (n:=view.length) (P:=fun i=>∀ acc:List BT,acc.length≤i→GC view its (i:Int) (Sl m view its) acc ([]++its)=some (acc++((view.drop i).filter (· != m.1)).map (fun v=>((3:Int),m.1,v,m.2.1,(0:Int),its)),Sl m view its)) (fun acc ha=>SO (by
  unfold ML
  rw [if_neg (by simp)]
  simp)) (fun i hi2 ih acc ha=>SO (by
  unfold ML
  simp only [show ((i:Int)<(view.length:Int)) from by omega,decide_true,if_true,show (0:Int)≤(i:Int) from by omega,Int.toNat_natCast,AY hi2,AU (show i<9223372036854775807 by omega)]
  rw [show (Sl m view its).1=m.1 from rfl,show (Sl m view its).2.1=m.2.1 from rfl,Bt hi2,List.filter_cons]
  by_cases hh:(view[i] != m.1)=true
  ·rw [if_pos hh,if_pos (by simpa using hi),if_pos (by simp; omega),ih _ (by simp; omega),if_pos hh,List.map_cons,List.append_assoc]
   rfl
  ·rw [if_neg hh,ih _ (by omega),if_neg hh])) 0 (by omega) [] (by simp)
 exact key)
theorem Q2 (m:Z) (e:Int) (h:m.2.2.2.2.2.2.2.1.length≤68719476736):Kb m e=some (Sm m e):=jA (by
 unfold Wh
 rw [if_pos (by simpa using h)]
 rfl)
theorem Gg (m:Z) (x:BT) (k:Int):Dt m x k=some (Dy m x k):=fk rfl
theorem IX (m:Z) (h:m.2.2.2.2.2.2.2.1.length≤34359738367):F9 m=some (Ey m):=dB (by
 unfold SN Ey
 rw [LG _ _ h,Sc _ _ (by unfold maxLen; omega)]
 split<;>rfl)
def mh (m:Z) (f:Int):Z :=
 (m.1,m.2.1,m.2.2.1,m.2.2.2.1,m.2.2.2.2.1,m.2.2.2.2.2.1,m.2.2.2.2.2.2.1,m.2.2.2.2.2.2.2.1,m.2.2.2.2.2.2.2.2.1,m.2.2.2.2.2.2.2.2.2.1,m.2.2.2.2.2.2.2.2.2.2.1,m.2.2.2.2.2.2.2.2.2.2.2.1,m.2.2.2.2.2.2.2.2.2.2.2.2.1,m.2.2.2.2.2.2.2.2.2.2.2.2.2.filter (· != f))
def Fs (m:Z) (f:Int):Z×List BT×List C9 :=
 if (((m.2.2.2.2.2.2.2.2.2.2.2.2.2.filter (· != f)).length:Int)==0)=true then ((Ey (mh m f)).2,[],(Ey (mh m f)).1) else (mh m f,[],[])
def Y2 (m:Z) (view:List Int) (x:BT):Z×List BT×List C9 :=
 if x.1=2 then (if (m.2.2.2.2.1&&!m.2.2.2.1)=true then (Sl m view x.2.2.2.2.2,(B5 view m.1).map (fun v=>(3,m.1,v,m.2.1,0,x.2.2.2.2.2)),[]) else (m,[],[]))
 else if x.1=3 then (if (!view.contains m.1||(view.getD 0 0==m.1))=true then (m,[],[]) else if (!m.2.2.2.1&&m.2.2.1)=true then (m,[],[])
  else if m.2.2.2.1=true then (m,Dy m x 4,[]) else
   ((m.1,m.2.1,false,true,false,false,([]:List Int),x.2.2.2.2.2,(0:Int),(0:Int),(0:Int),(0:Int),(ByteArray.empty,ByteArray.empty,(0:Int)),([]:List Int)),Dy m x 4,[]))
 else if x.1=4 then (if m.2.2.2.2.1=true then
   ((m.1,m.2.1,m.2.2.1,m.2.2.2.1,m.2.2.2.2.1,m.2.2.2.1&&(((m.2.2.2.2.2.2.1.filter (· != x.2.1)).length:Int)==0),m.2.2.2.2.2.2.1.filter (· != x.2.1),m.2.2.2.2.2.2.2),[],[]) else (m,[],[]))
 else if x.1=5 then (if m.2.2.2.1=true then
   ((m.1,m.2.1,m.2.2.1,m.2.2.2.1,m.2.2.2.2.1,m.2.2.2.2.2.1,m.2.2.2.2.2.2.1,DD m.2.2.2.2.2.2.2.1 (x.2.2.2.2.2.getD 0 (ByteArray.empty,ByteArray.empty,(0:Int))),m.2.2.2.2.2.2.2.2),Dy m x 6,[]) else (m,[],[]))
 else if x.1=7 then (if m.2.2.2.1=true then (m,Dy m x 8,[]) else (m,[],[]))
 else if (x.1=6∨x.1=8)∧m.2.2.2.2.2.2.2.2.2.1=(if x.1=8 then 2 else 1)∧m.2.2.2.2.2.2.2.2.2.2.2.1=x.2.2.2.2.1 then
  (Fs m x.2.1)
 else (m,[],[])
theorem dX (m:Z) (view:List Int) (x:BT) (hm:IV m) (hv:view.length≤68719476736) (hv0:0<view.length) (hx:x.2.2.2.2.2.length≤68719476736) (h5:x.1=5→0<x.2.2.2.2.2.length) :
  RB m view x=some (Y2 m view x):=jq (by
 obtain ⟨l1,l2,l3⟩:=hm.lens
 unfold Xz
 rw [hm.copy,Option.bind_some]
 unfold Y2
 by_cases k2:x.1=2
 ·rw [if_pos (by simpa using k2),if_pos k2]
  have J:∀ b y,H9 view [] [] b m x y m=some (if b=true then (Sl m view x.2.2.2.2.2,(B5 view m.1).map (fun v=>(3,m.1,v,m.2.1,0,x.2.2.2.2.2)),[]) else (m,[],[])):=fun b y=>dD (by
   unfold SP
   cases b
   ·rfl
   ·rw [if_pos rfl,So view _ m hv hx]
    rfl)
  rw [J,J]
  cases m.2.2.2.2.1<;>cases m.2.2.2.1<;>rfl
 ·rw [if_neg (by simpa using k2),if_neg k2]
  by_cases k3:x.1=3
  ·rw [if_pos (by simpa using k3),if_pos k3,CZ view _ (by unfold maxLen; omega),Option.bind_some]
   have J2:∀ b y,H_ [] [] b m x y m=some (if m.2.2.2.1=true then (m,Dy m x 4,[]) else
     ((m.1,m.2.1,false,true,false,false,([]:List Int),x.2.2.2.2.2,(0:Int),(0:Int),(0:Int),(0:Int),(ByteArray.empty,ByteArray.empty,(0:Int)),([]:List Int)),Dy m x 4,[])):=fun b y=>dE (by
    unfold SQ
    rw [Q2 m _ (by omega),Gg,Option.bind_some,Option.bind_some]
    have hx':([]:List AQ).length+x.2.2.2.2.2.length≤68719476736:=by simpa using hx
    cases m.2.2.2.1
    ·rw [if_pos (show (!false)=true from rfl),if_pos hx']; rfl
    ·rfl)
   have J1:∀ b y,MM [] [] b m x y m=some (if (!m.2.2.2.1&&m.2.2.1)=true then (m,[],[]) else if m.2.2.2.1=true then (m,Dy m x 4,[]) else
     ((m.1,m.2.1,false,true,false,false,([]:List Int),x.2.2.2.2.2,(0:Int),(0:Int),(0:Int),(0:Int),(ByteArray.empty,ByteArray.empty,(0:Int)),([]:List Int)),Dy m x 4,[])):=fun b y=>dF (by
    unfold SS
    rw [J2,J2]
    cases m.2.2.2.1<;>cases m.2.2.1<;>rfl)
   rw [show view.getD (0:Int).toNat 0=view.getD 0 0 from rfl]
   cases view.contains m.1
   ·rfl
   ·rw [if_neg (by simp),if_pos (by omega),if_pos (by omega),J1]
    cases (view.getD 0 0==m.1)<;>rfl
  ·rw [if_neg (by simpa using k3),if_neg k3]
   by_cases k4:x.1=4
   ·rw [if_pos (by simpa using k4),if_pos k4,NC _ _ (by omega),Option.bind_some]
    cases m.2.2.2.2.1<;>cases m.2.2.2.1<;>rfl
   ·rw [if_neg (by simpa using k4),if_neg k4]
    by_cases k5:x.1=5
    ·have:=h5 k5
     rw [if_pos (by simpa using k5),if_pos k5,LG _ _ (by omega),Option.bind_some,Gg,Option.bind_some,show x.2.2.2.2.2.getD (0:Int).toNat (ByteArray.empty,ByteArray.empty,(0:Int))=x.2.2.2.2.2.getD 0 (ByteArray.empty,ByteArray.empty,(0:Int)) from rfl]
     cases m.2.2.2.1
     ·rfl
     ·rw [if_pos rfl,if_pos rfl,if_pos (by omega),if_pos (by omega)]
    ·rw [if_neg (by simpa using k5),if_neg k5]
     by_cases k7:x.1=7
     ·rw [if_pos (by simpa using k7),if_pos k7,Gg,Option.bind_some]
      cases m.2.2.2.1<;>rfl
     ·rw [if_neg (by simpa using k7),if_neg k7]
      have J5:∀ b y,MN [] [] b m x y m=some (Fs m x.2.1):=fun b y=>dG (by
       unfold ST
       rw [NC _ _ (by omega),Option.bind_some,IX _ (by simp only; omega),Option.bind_some]
       unfold Fs
       split<;>rfl)
      have J4:∀ op y,IA [] [] op m x y m=some (if m.2.2.2.2.2.2.2.2.2.1=op∧m.2.2.2.2.2.2.2.2.2.2.2.1=x.2.2.2.2.1 then (Fs m x.2.1) else (m,[],[])):=fun op y=>dH (by
       unfold SU
       rw [J5]
       by_cases h1:m.2.2.2.2.2.2.2.2.2.1=op
       ·rw [if_pos (by simp [h1])]
        by_cases h2:m.2.2.2.2.2.2.2.2.2.2.2.1=x.2.2.2.2.1
        ·rw [if_neg (by simp [h2]),if_pos (show _∧_ from ⟨h1,h2⟩)]
        ·rw [if_pos (by simp [h2]),if_neg (show ¬(_∧_) from fun h=>h2 h.2)]
       ·rw [if_neg (by simp [h1]),if_neg (fun h=>h1 h.1)])
      have J3:∀ b y,IB [] [] b m x y m=some (if b=true∧m.2.2.2.2.2.2.2.2.2.1=(if x.1=8 then 2 else 1)∧m.2.2.2.2.2.2.2.2.2.2.2.1=x.2.2.2.2.1 then (Fs m x.2.1) else (m,[],[])):=fun b y=>dI (by
       unfold SV
       rw [J4,J4]
       cases b
       ·rw [if_neg (by simp),if_neg (by simp)]
       ·rw [if_pos rfl]
        by_cases k8:x.1=8
        ·simp only [k8,beq_self_eq_true,if_true,true_and]
        ·rw [if_neg (by simpa using k8)]
         simp only [k8,if_false,true_and])
      rw [J3,J3]
      by_cases k6:x.1=6
      ·simp only [k6,beq_self_eq_true,if_true,true_and,true_or]
      ·rw [if_neg (by simpa using k6)]
       simp only [k6,false_or,beq_iff_eq])
structure RJ (views:List (List Int)):Prop where
 ok:EW views views.length views=true
theorem Il {n:Nat}:∀ {l:List (List Int)} {x:List (List Int)},EW x n l=true↔(∀ v∈l,TX v=true)∧1≤n∧n≤9
 | [],x=>by simp [EW]; omega
 | v::l,x=>by
  rw [EW,Bool.and_eq_true,Il]
  simp [and_assoc]
theorem RJ.len {views:List (List Int)} (h:RJ views):1≤views.length∧views.length≤9:=(Il.1 h.ok).2
theorem RJ.view {views:List (List Int)} (h:RJ views) {v:List Int} (hv:v∈views):1≤v.length∧v.length≤4:=by
 have:=(Il.1 h.ok).1 v hv
 unfold TX at this
 simp only [Bool.and_eq_true,decide_eq_true_eq] at this
 omega
theorem RJ.get {views:List (List Int)} (h:RJ views) {i:Nat} (hi:i<views.length):1≤(views.getD i []).length∧(views.getD i []).length≤4:=by
 rw [AY hi]
 exact h.view (List.getElem_mem hi)
theorem Fd {views:List (List Int)} (h:RJ views):Di views=some true:=by
 rw [bB views (by have:=h.len; unfold maxLen; omega) (fun a ha=>by have:=h.view ha; unfold maxLen; omega),h.ok]
theorem JQ {m:Z} (h:IV m):E_ m=some true:=by
 obtain ⟨h1,h2,h3⟩:=h.lens
 rw [Y0 m (by unfold maxLen; omega) (by unfold maxLen; omega) (by unfold maxLen; omega),nu.2 h]
def Dk (m:Z) (views:List (List Int)) (x:BT):Z×List BT×List C9 :=
 if (Sk x&&(x.2.2.1==m.1)&&decide (m.2.1≤x.2.2.2.1)&&decide (x.2.2.2.1≤(views.length:Int)))=true then
  if x.2.2.2.1=m.2.1 then Y2 m (views.getD (m.2.1-1).toNat []) x
  else if (x.1==1&&(x.2.2.2.1==m.2.1+1)&&m.2.2.2.1&&(views.getD (m.2.1-1).toNat []).contains m.1)=true then (Sm m x.2.2.2.1,[(2,m.1,x.2.1,x.2.2.2.1,0,m.2.2.2.2.2.2.2.1)],[])
  else if (x.1==3&&(views.getD (x.2.2.2.1-1).toNat []).contains m.1&&((views.getD (x.2.2.2.1-1).toNat []).getD 0 0 != m.1))=true then
   ((m.1,x.2.2.2.1,false,true,false,false,([]:List Int),x.2.2.2.2.2,(0:Int),(0:Int),(0:Int),(0:Int),(ByteArray.empty,ByteArray.empty,(0:Int)),([]:List Int)),Dy m x 4,[])
  else (m,[],[])
 else (m,[],[])
theorem rW {x:BT} (h:Sk x=true):x.2.2.2.2.2.length≤12∧(x.1=5→x.2.2.2.2.2.length=1):=by
 unfold Sk at h
 simp only [Bool.and_eq_true] at h
 refine ⟨Jk (x:=x.2.2.2.2.2) h.1.2,fun h5=>?_⟩
 have:=h.2
 rw [if_neg (by omega),if_pos h5] at this
 simp only [beq_iff_eq] at this
 omega
theorem bE (m:Z) (views:List (List Int)) (x:BT) (hm:IV m) (hv:RJ views) (hx:x.2.2.2.2.2.length≤68719476736) :
  O3 m views x=some (Dk m views x):=i5 (by
 have hvl:=hv.len
 have hep:=hm.ep
 unfold Wc Dk
 rw [hm.copy,Option.bind_some,JQ hm,Option.bind_some,if_pos (by rfl),Fd hv,Option.bind_some,if_pos (by rfl),fw x (by unfold maxLen; omega),Option.bind_some]
 cases hmo:Sk x with
 | false=>rfl
 | true =>
  obtain ⟨xl,x5⟩:=rW hmo
  rw [if_pos (by rfl)]
  by_cases h1:x.2.2.1=m.1
  ·rw [if_pos (by simp [h1])]
   by_cases h2:x.2.2.2.1<m.2.1
   ·rw [if_neg (by simpa using h2),if_neg (by simp; omega)]
   ·rw [if_pos (by simpa using h2)]
    by_cases h3:x.2.2.2.1>(views.length:Int)
    ·rw [if_neg (by simpa using h3),if_neg (by simp; omega)]
    ·rw [if_pos (by simpa using h3),if_neg (by simp; omega),if_pos (by simp [h1]; omega)]
     have wm:IntKind.i64.wrap (m.2.1-1)=m.2.1-1:=AX (by omega)
     have wp:IntKind.i64.wrap (m.2.1+1)=m.2.1+1:=AX (by omega)
     have wx:IntKind.i64.wrap (x.2.2.2.1-1)=x.2.2.2.1-1:=AX (by omega)
     have g1:=hv.get (i:=(m.2.1-1).toNat) (by omega)
     have g2:=hv.get (i:=(x.2.2.2.1-1).toNat) (by omega)
     have J3:∀ b y,FZ [] [] b m x y m=some (if b=true then ((m.1,x.2.2.2.1,false,true,false,false,([]:List Int),x.2.2.2.2.2,(0:Int),(0:Int),(0:Int),(0:Int),(ByteArray.empty,ByteArray.empty,(0:Int)),([]:List Int)),Dy m x 4,[]) else (m,[],[])):=fun b y=>aV (by
      unfold Ql
      cases b
      ·rfl
      ·rw [if_pos rfl,if_pos (by simpa using hx),Gg]
       rfl)
     have J2:∀ b y,K4 views [] [] b m x y m=some (if (x.1==3&&(views.getD (x.2.2.2.1-1).toNat []).contains m.1&&((views.getD (x.2.2.2.1-1).toNat []).getD 0 0 != m.1))=true then
       ((m.1,x.2.2.2.1,false,true,false,false,([]:List Int),x.2.2.2.2.2,(0:Int),(0:Int),(0:Int),(0:Int),(ByteArray.empty,ByteArray.empty,(0:Int)),([]:List Int)),Dy m x 4,[]) else (m,[],[])):=fun b y=>aW (by
      unfold Qm
      rw [wx,if_pos (by omega),if_pos (by omega),CZ _ _ (by unfold maxLen; omega),Option.bind_some,show (views.getD (x.2.2.2.1-1).toNat ([]:List Int)).getD (0:Int).toNat 0=(views.getD (x.2.2.2.1-1).toNat []).getD 0 0 from rfl]
      simp only [J3]
      rw [if_pos (show (0:Int)≤0 by omega),if_pos (show (0:Int)<((views.getD (x.2.2.2.1-1).toNat ([]:List Int)).length:Int) by omega)]
      cases (x.1==3)<;>cases (views.getD (x.2.2.2.1-1).toNat ([]:List Int)).contains m.1<;>rfl)
     have J1:∀ b y,Dp views [] [] b m x y m=some (if b=true then (Sm m x.2.2.2.1,[(2,m.1,x.2.1,x.2.2.2.1,0,m.2.2.2.2.2.2.2.1)],[]) else
       if (x.1==3&&(views.getD (x.2.2.2.1-1).toNat []).contains m.1&&((views.getD (x.2.2.2.1-1).toNat []).getD 0 0 != m.1))=true then
       ((m.1,x.2.2.2.1,false,true,false,false,([]:List Int),x.2.2.2.2.2,(0:Int),(0:Int),(0:Int),(0:Int),(ByteArray.empty,ByteArray.empty,(0:Int)),([]:List Int)),Dy m x 4,[]) else (m,[],[])):=fun b y=>aX (by
      unfold Qn
      have hl:([]:List AQ).length+m.2.2.2.2.2.2.2.1.length≤68719476736:=by have:=hm.lens; simp; omega
      rw [J2,Q2 m _ (by have:=hm.lens; omega),Option.bind_some,if_pos hl]
      cases b<;>rfl)
     refine aY ?_
     unfold Qo
     rw [wm,wp]
     by_cases h4:x.2.2.2.1=m.2.1
     ·rw [if_pos (by simpa using h4),if_pos (by omega),if_pos (by omega),if_pos h4,dX m _ x hm (by omega) (by omega) hx (fun h=>by have:=x5 h; omega)]
      rfl
     ·rw [if_neg (by simpa using h4),if_neg h4,CZ _ _ (by unfold maxLen; omega),Option.bind_some]
      simp only [J1]
      rw [if_pos (show (0:Int)≤m.2.1-1 by omega),if_pos (show m.2.1-1<(views.length:Int) by omega)]
      cases (x.1==1)<;>cases (x.2.2.2.1==m.2.1+1)<;>cases m.2.2.2.1<;>cases (views.getD (m.2.1-1).toNat ([]:List Int)).contains m.1<;>rfl
  ·rw [if_neg (by simp [h1]),if_neg (by simp [h1])])
end Go.Proofs.YtokiohnjegbnpaaGreat.Core

namespace Go.Proofs.YtokiohnjegbnpaaGreat.Core
open Go
set_option linter.unusedVariables false
set_option linter.unusedSimpArgs false
theorem X1 {v:List Int}:∀ (m i:Nat),i+m=v.length→(Gu v i m=true↔∀ a (ha:a<v.length),i≤a→(1≤v[a]∧v[a]≤6)∧v[a]∉v.take a)
 | 0,i,h=>by
  simp only [Gu,true_iff]
  intro a ha hi
  omega
 | m+1,i,h=>by
  have hi:i<v.length:=by omega
  rw [Gu,Bool.and_eq_true,Bool.and_eq_true,X1 m (i+1) (by omega),AY hi]
  simp only [Bool.and_eq_true,decide_eq_true_eq,Bool.not_eq_true',List.contains_eq_mem,decide_eq_false_iff_not]
  constructor
  ·rintro ⟨⟨h1,h2⟩,h3⟩ a ha hia
   by_cases e:a=i
   ·subst e
    exact ⟨h1,h2⟩
   ·exact h3 a ha (by omega)
  ·intro h3
   exact ⟨⟨(h3 i hi (Nat.le_refl _)).1,(h3 i hi (Nat.le_refl _)).2⟩,fun a ha hia=>h3 a ha (by omega)⟩
structure qB (v:List Int):Prop where
 len:1≤v.length∧v.length≤4
 mem:∀ a∈v,1≤a∧a≤6
 nd:v.Nodup
theorem nw {v:List Int}:TX v=true↔qB v:=by
 unfold TX
 simp only [Bool.and_eq_true,decide_eq_true_eq]
 rw [X1 _ _ (by omega)]
 constructor
 ·rintro ⟨h1,h2⟩
  refine ⟨by omega,fun a ha=>?_,?_⟩
  ·obtain ⟨i,hi,rfl⟩:=List.getElem_of_mem ha
   exact (h2 i hi (Nat.zero_le _)).1
  ·rw [List.nodup_iff_pairwise_ne,List.pairwise_iff_getElem]
   intro i j hi hj hij e
   have:=(h2 j hj (Nat.zero_le _)).2
   apply this
   rw [← e]
   exact List.mem_iff_getElem.2 ⟨i,by rw [List.length_take]; omega,by rw [List.getElem_take]⟩
 ·rintro ⟨h1,h2,h3⟩
  refine ⟨by omega,fun a ha _=>⟨h2 _ (List.getElem_mem ha),fun hm=>?_⟩⟩
  obtain ⟨i,hi,e⟩:=List.getElem_of_mem hm
  rw [List.length_take] at hi
  rw [List.getElem_take] at e
  have:=(List.getElem_inj h3).1 e
  omega
theorem RJ.wok {views:List (List Int)} (h:RJ views) {i:Nat} (hi:i<views.length):qB (views.getD i []):=by
 rw [AY hi]
 exact nw.1 ((Il.1 h.ok).1 _ (List.getElem_mem hi))
structure qC (x:BT):Prop where
 kind:1≤x.1∧x.1≤8
 frm:1≤x.2.1∧x.2.1≤6
 to:1≤x.2.2.1∧x.2.2.1≤6
 ep:1≤x.2.2.2.1∧x.2.2.2.1≤9
 num:0≤x.2.2.2.2.1∧x.2.2.2.2.1≤1000000000
 items:BH x.2.2.2.2.2=true
 shape:if x.1=2∨x.1=3 then True else if x.1=5 then x.2.2.2.2.2.length=1 else x.2.2.2.2.2=[]
theorem XG {x:BT}:Sk x=true↔qC x:=by
 unfold Sk
 simp only [Bool.and_eq_true,decide_eq_true_eq]
 constructor
 ·rintro ⟨⟨⟨⟨⟨⟨h1,h2⟩,h3⟩,h4⟩,h5⟩,h6⟩,h7⟩
  refine ⟨h1,h2,h3,h4,h5,h6,?_⟩
  split at h7
  ·rename_i e; rw [if_pos e]; trivial
  ·rename_i e
   rw [if_neg e]
   split at h7
   ·rename_i e2; rw [if_pos e2]; simp only [beq_iff_eq] at h7; omega
   ·rename_i e2; rw [if_neg e2]; simp only [beq_iff_eq] at h7; exact List.length_eq_zero_iff.1 (by omega)
 ·rintro ⟨h1,h2,h3,h4,h5,h6,h7⟩
  refine ⟨⟨⟨⟨⟨⟨h1,h2⟩,h3⟩,h4⟩,h5⟩,h6⟩,?_⟩
  split
  ·rfl
  ·rename_i e
   rw [if_neg e] at h7
   split
   ·rename_i e2; rw [if_pos e2] at h7; simp; omega
   ·rename_i e2; rw [if_neg e2] at h7; simp [h7]
theorem Sp:BH []=true:=rfl
def Y3 (m n:Z) (l:List BT):Prop:=∀ y∈l,qC y∧y.2.1=m.1∧y.2.2.2.1=n.2.1
theorem bF {m n:Z} {view:List Int} {k num:Int} {its:List AQ} (hm:1≤m.1∧m.1≤6) (he:1≤n.2.1∧n.2.1≤9) (hv:∀ a∈view,1≤a∧a≤6) (hk:1≤k∧k≤8) (hn:0≤num∧num≤1000000000) (hi:BH its=true)
  (hs:if k=2∨k=3 then True else if k=5 then its.length=1 else its=[]):Y3 m n ((B5 view m.1).map fun v=>(k,m.1,v,n.2.1,num,its)):=by
 intro y hy
 obtain ⟨v,hv2,rfl⟩:=List.mem_map.1 hy
 exact ⟨⟨hk,hm,hv v (List.mem_filter.1 hv2).1,he,hn,hi,hs⟩,rfl,rfl⟩
theorem PX {m n:Z} {x:BT} {k:Int} (hm:1≤m.1∧m.1≤6) (hx:qC x) (he:x.2.2.2.1=n.2.1) (hk:k=4∨k=6∨k=8):Y3 m n (Dy m x k):=by
 intro y hy
 simp only [Dy,List.mem_singleton] at hy
 subst hy
 refine ⟨⟨by show 1≤k∧k≤8; omega,hm,hx.frm,hx.ep,hx.num,Sp,?_⟩,rfl,he⟩
 show if k=2∨k=3 then True else if k=5 then ([]:List AQ).length=1 else ([]:List AQ)=[]
 rw [if_neg (by omega),if_neg (by omega)]
theorem Wu {m n:Z}:Y3 m n []:=fun y hy=>by cases hy
theorem XH:IU ((0:Int),(0:Int),(0:Int),(ByteArray.empty,ByteArray.empty,(0:Int)),([]:List Int))=true:=by simp [IU,VM]
theorem IV.has {m:Z} {view:List Int} {its:List AQ} (h:IV m) (hl:m.2.2.2.2.1=true) (hb:m.2.2.2.1=false) (hi:BH its=true):IV (Sl m view its):=by
 have hns:m.2.2.2.2.2.1=false:=by
  cases hs:m.2.2.2.2.2.1 with
  | false=>rfl
  | true=>have:=(h.serves hs).1; rw [hb] at this; cases this
 refine ⟨h.id,h.ep,fun hs=>⟨rfl,hl,?_⟩,fun hf=>?_,TY _ _,h.left,hi,h.count,?_⟩
 ·simp only [Sl,beq_iff_eq] at hs ⊢
  exact List.length_eq_zero_iff.1 (by omega)
 ·have:=(h.fell hf).2; rw [hl] at this; cases this
 ·rcases h.task with h1 | h1
  ·exact .inl h1
  ·unfold En at h1
   rw [hns] at h1
   simp at h1
theorem IV.bare {m:Z} (h:IV m) {e:Int} (he:1≤e∧e≤9):IV (Sm m e) :=
 ⟨h.id,he,fun hs=>(by cases hs),fun hf=>(by cases hf),⟨by simp [Sm],by simp [Sm]⟩,⟨by simp [Sm],by simp [Sm]⟩,h.items,⟨by simp [Sm],by simp [Sm]⟩,.inl XH⟩
theorem IV.install {m:Z} (h:IV m) {e:Int} {its:List AQ} (he:1≤e∧e≤9) (hi:BH its=true) :
  IV (m.1,e,false,true,false,false,([]:List Int),its,(0:Int),(0:Int),(0:Int),(0:Int),(ByteArray.empty,ByteArray.empty,(0:Int)),([]:List Int)) :=
 ⟨h.id,he,fun hs=>(by cases hs),fun hf=>(by cases hf),⟨by simp,by simp⟩,⟨by simp,by simp⟩,hi,⟨by simp,by simp⟩,.inl XH⟩
theorem IV.clear {m:Z} (h:IV m) {its:List AQ} (hi:BH its=true):IV (Sn m its) :=
 ⟨h.id,h.ep,h.serves,h.fell,h.waits,⟨by simp [Sn],by simp [Sn]⟩,hi,h.count,.inl XH⟩
theorem IV.finish {m:Z} (h:IV m):IV (Ey m).2:=by
 unfold Ey
 split
 ·exact h.clear (jI h.items)
 ·exact h.clear h.items
theorem rX {m:Z} (h:IV m) (h0:m.2.2.2.2.2.2.2.2.2.1≠0):En m.2.2.2.2.2.2.2.2.2 m.2.2.2.2.2.1=true:=by
 rcases h.task with h1 | h1
 ·unfold IU at h1
  simp only [Bool.and_eq_true,beq_iff_eq] at h1
  exact absurd h1.1.1.1.1 h0
 ·exact h1
def dY (l:List C9):Prop:=l.length≤1∧∀ s∈l,0≤s.1∧s.1≤1000
theorem Eo:dY []:=⟨by simp,fun s hs=>by cases hs⟩
theorem d_ {m:Z} (h:IV m) (h0:m.2.2.2.2.2.2.2.2.2.1≠0):dY (Ey m).1:=by
 have h1:=rX h h0
 unfold En at h1
 simp only [Bool.and_eq_true,decide_eq_true_eq] at h1
 unfold Ey
 split
 ·exact ⟨by simp,fun s hs=>by simp at hs; subst hs; exact h1.1.2⟩
 ·exact ⟨by simp,fun s hs=>by simp at hs; subst hs; exact h1.1.2⟩
structure lW (m:Z) (r:Z×List BT×List C9):Prop where
 mok:IV r.1
 id:r.1.1=m.1
 ep:m.2.1≤r.1.2.1
 told:Y3 m r.1 r.2.1
 tlen:r.2.1.length≤4
 said:dY r.2.2
theorem Gh {m:Z} (h:IV m):lW m (m,[],[]):=⟨h,rfl,Int.le_refl _,Wu,by simp,Eo⟩
theorem Gi (view:List Int) (id:Int):(B5 view id).length≤view.length:=List.length_filter_le _ _
theorem IV.left_filter {m:Z} (h:IV m) (f:Int):IV (mh m f):=by
 refine ⟨h.id,h.ep,h.serves,h.fell,h.waits,jK h.left _,h.items,h.count,?_⟩
 rcases h.task with h1 | h1
 ·left
  unfold IU at h1 ⊢
  simp only [Bool.and_eq_true,beq_iff_eq] at h1 ⊢
  refine ⟨h1.1,?_⟩
  have h2:=List.length_filter_le (· != f) m.2.2.2.2.2.2.2.2.2.2.2.2.2
  have h3:=h1.2
  show (((m.2.2.2.2.2.2.2.2.2.2.2.2.2.filter (· != f)).length:Nat):Int)=0
  omega
 ·exact .inr h1
theorem rY {m:Z} {view:List Int} {x:BT} (hm:IV m) (hv:qB view) (hx:qC x) (he:x.2.2.2.1=m.2.1):lW m (Y2 m view x):=by
 unfold Y2
 split
 ·split
  ·rename_i h1 h2
   simp only [Bool.and_eq_true,Bool.not_eq_true'] at h2
   refine ⟨hm.has h2.1 h2.2 hx.items,rfl,Int.le_refl _,?_,by simp only [List.length_map]; have:=Gi view m.1; have:=hv.len; omega,Eo⟩
   exact bF (n:=Sl m view x.2.2.2.2.2) hm.id hm.ep hv.mem (by omega) (by omega) hx.items (by simp)
  ·exact Gh hm
 ·split
  ·split
   ·exact Gh hm
   ·split
    ·exact Gh hm
    ·split
     ·exact ⟨hm,rfl,Int.le_refl _,PX hm.id hx he (by omega),by simp [Dy],Eo⟩
     ·exact ⟨hm.install hm.ep hx.items,rfl,Int.le_refl _,PX hm.id hx he (by omega),by simp [Dy],Eo⟩
  ·split
   ·split
    ·rename_i hl
     refine ⟨⟨hm.id,hm.ep,fun hs=>?_,hm.fell,jK hm.waits _,hm.left,hm.items,hm.count,?_⟩,rfl,Int.le_refl _,Wu,by simp,Eo⟩
     ·simp only [Bool.and_eq_true,beq_iff_eq] at hs
      exact ⟨hs.1,hl,List.length_eq_zero_iff.1 (show (List.filter (· != x.2.1) m.2.2.2.2.2.2.1).length=0 by have h:((List.filter (· != x.2.1) m.2.2.2.2.2.2.1).length:Int)=0:=hs.2; omega)⟩
     ·rcases hm.task with h1 | h1
      ·exact .inl h1
      ·right
       have hs:m.2.2.2.2.2.1=true:=by
        unfold En at h1
        simp only [Bool.and_eq_true] at h1
        exact h1.1.1.2
       obtain ⟨a,b,c⟩:=hm.serves hs
       rw [hs] at h1
       simp only [c,List.filter_nil,List.length_nil,a,Bool.true_and]
       exact h1
    ·exact Gh hm
   ·split
    ·split
     ·exact ⟨⟨hm.id,hm.ep,hm.serves,hm.fell,hm.waits,hm.left,jI hm.items,hm.count,hm.task⟩,rfl,Int.le_refl _,PX hm.id hx he (by omega),by simp [Dy],Eo⟩
     ·exact Gh hm
    ·split
     ·split
      ·exact ⟨hm,rfl,Int.le_refl _,PX hm.id hx he (by omega),by simp [Dy],Eo⟩
      ·exact Gh hm
     ·by_cases hc:(x.1=6∨x.1=8)∧m.2.2.2.2.2.2.2.2.2.1=(if x.1=8 then 2 else 1)∧m.2.2.2.2.2.2.2.2.2.2.2.1=x.2.2.2.2.1
      ·rw [if_pos hc]
       have hn:=hm.left_filter x.2.1
       unfold Fs
       split
       ·refine ⟨hn.finish,?_,?_,Wu,by simp,d_ hn ?_⟩
        ·unfold Ey; split<;>rfl
        ·unfold Ey; split<;>exact Int.le_refl _
        ·have:=hc.2.1
         show m.2.2.2.2.2.2.2.2.2.1≠0
         rw [this]
         split<;>omega
       ·exact ⟨hn,rfl,Int.le_refl _,Wu,by simp,Eo⟩
      ·rw [if_neg hc]
       exact Gh hm
theorem bG {m:Z} {views:List (List Int)} {x:BT} (hm:IV m) (hv:RJ views):lW m (Dk m views x):=by
 unfold Dk
 split
 ·rename_i hc
  simp only [Bool.and_eq_true,decide_eq_true_eq,beq_iff_eq] at hc
  obtain ⟨⟨⟨h1,h2⟩,h3⟩,h4⟩:=hc
  have hx:=XG.1 h1
  have hvl:=hv.len
  have he:=hm.ep
  split
  ·rename_i e
   exact rY hm (hv.wok (by omega)) hx e
  ·split
   ·refine ⟨hm.bare hx.ep,rfl,h3,fun y hy=>?_,by simp,Eo⟩
    simp only [List.mem_singleton] at hy
    subst hy
    exact ⟨⟨by simp,hm.id,hx.frm,hx.ep,by simp,hm.items,by simp⟩,rfl,rfl⟩
   ·split
    ·exact ⟨hm.install hx.ep hx.items,rfl,h3,PX hm.id hx rfl (by omega),by simp [Dy],Eo⟩
    ·exact Gh hm
 ·exact Gh hm
end Go.Proofs.YtokiohnjegbnpaaGreat.Core

namespace Go.Proofs.YtokiohnjegbnpaaGreat.Core
open Go
set_option linter.unusedVariables false
set_option linter.unusedSimpArgs false
def Im:Z:=((0:Int),(0:Int),false,false,false,false,([]:List Int),([]:List AQ),(0:Int),(0:Int),(0:Int),(0:Int),(ByteArray.empty,ByteArray.empty,(0:Int)),([]:List Int))
def TZ (m:Z) (views:List (List Int)) (op call:Int) (key val:ByteArray):Bool :=
 m.2.2.2.2.2.1&&(m.2.2.2.2.2.2.2.2.2.1==0)&&decide (m.2.2.2.2.2.2.2.2.1<900)&&(op==1||op==2)&&(decide (0≤call)&&decide (call≤1000))&&(decide (1≤(key.size:Int))&&decide ((key.size:Int)≤12))&&decide ((val.size:Int)≤20)&&(op==1||lV val)&&decide (m.2.1≤(views.length:Int))&&((views.getD (m.2.1-1).toNat []).getD 0 0==m.1)
def In (m:Z) (key val:ByteArray):AQ:=(key,val,1000*m.2.1+(m.2.2.2.2.2.2.2.2.1+1))
def IG (m:Z) (view:List Int) (op call:Int) (key val:ByteArray):Z :=
 (m.1,m.2.1,m.2.2.1,m.2.2.2.1,m.2.2.2.2.1,m.2.2.2.2.2.1,m.2.2.2.2.2.2.1,m.2.2.2.2.2.2.2.1,m.2.2.2.2.2.2.2.2.1+1,op,call,m.2.2.2.2.2.2.2.2.1+1,In m key val,GI view m.1)
def jt (m:Z) (view:List Int) (op:Int) (key val:ByteArray):List BT :=
 (B5 view m.1).map fun v=>(if op=1 then 5 else 7,m.1,v,m.2.1,m.2.2.2.2.2.2.2.2.1+1,if op=1 then [In m key val] else [])
def RK (m:Z) (view:List Int) (op call:Int) (key val:ByteArray):Z×List BT×List C9×Bool :=
 if GI view m.1=[] then ((Ey (IG m view op call key val)).2,[],(Ey (IG m view op call key val)).1,true) else (IG m view op call key val,jt m view op key val,[],true)
def DA (m:Z) (views:List (List Int)) (op call:Int) (key val:ByteArray):Z×List BT×List C9×Bool :=
 if TZ m views op call key val=true then
  (if op=1∧VM (.pair .str (.pair .str (.int .i64))) (C0 (DD m.2.2.2.2.2.2.2.1 (In m key val)) key) (In m key val)=false then (Im,[],[],false) else RK m (views.getD (m.2.1-1).toNat []) op call key val)
 else (Im,[],[],false)
theorem f5 (m:Z) (views:List (List Int)) (op call:Int) (key val:ByteArray) (hm:IV m) (hv:RJ views):TK m views op call key val=some (DA m views op call key val):=lQ (by
 have hvl:=hv.len
 have hep:=hm.ep
 have hl:=hm.lens
 have hcnt:=hm.count
 have wm:IntKind.i64.wrap (m.2.1-1)=m.2.1-1:=AX (by omega)
 have wc:IntKind.i64.wrap (m.2.2.2.2.2.2.2.2.1+1)=m.2.2.2.2.2.2.2.2.1+1:=AX (by omega)
 have w1:IntKind.i64.wrap (1000*m.2.1)=1000*m.2.1:=AX (by omega)
 have w2:IntKind.i64.wrap (1000*m.2.1+(m.2.2.2.2.2.2.2.2.1+1))=1000*m.2.1+(m.2.2.2.2.2.2.2.2.1+1):=AX (by omega)
 unfold aT
 rw [JQ hm,Option.bind_some,if_neg (by simp),Fd hv,Option.bind_some,if_neg (by simp)]
 have bad:TZ m views op call key val=false→DA m views op call key val=(Im,[],[],false):=fun h=>by unfold DA; rw [h]; rfl
 by_cases c1:m.2.2.2.2.2.1=true
 case neg =>
  rw [if_pos (by simpa using c1),bad (by unfold TZ; simp [c1])]
  rfl
 rw [if_neg (by simpa using c1)]
 by_cases c2:m.2.2.2.2.2.2.2.2.2.1=0
 case neg =>
  rw [if_pos (by simpa using c2),bad (by unfold TZ; simp [c2])]
  rfl
 rw [if_neg (by simpa using c2)]
 by_cases c3:m.2.2.2.2.2.2.2.2.1<900
 case neg =>
  rw [if_pos (by simp; omega),bad (by unfold TZ; simp [c3])]
  rfl
 rw [if_neg (by simp; omega)]
 have view:∀ (hep2:m.2.1≤(views.length:Int)),1≤(views.getD (m.2.1-1).toNat []).length∧(views.getD (m.2.1-1).toNat []).length≤4:=fun h=>hv.get (by omega)
 have L2:∀ (v:List Int) (hv:v.length≤4) (y:Z) (its:List AQ),op=1→Du op [] v 0 m y [] (IG m v op call key val) (In m key val) its=some (IG m v op call key val,jt m v op key val,[],true):=by
  intro v hv y its ho
  have key':=G7 (n:=v.length) (P:=fun i=>∀ acc:List BT,acc.length≤i→Du op [] v (i:Int) m y acc (IG m v op call key val) (In m key val) its=some (IG m v op call key val,acc++((v.drop i).filter (· != m.1)).map (fun v=>((5:Int),m.1,v,m.2.1,m.2.2.2.2.2.2.2.2.1+1,[In m key val])),[],true)) (fun acc ha=>Uf (by
   unfold NX
   rw [if_neg (by simp)]
   simp)) (fun i hi ih acc ha=>Uf (by
   unfold NX
   simp only [show ((i:Int)<(v.length:Int)) from by omega,decide_true,if_true,show (0:Int)≤(i:Int) from by omega,Int.toNat_natCast,AY hi,AU (show i<9223372036854775807 by omega),ho,beq_self_eq_true]
   rw [ho] at ih
   rw [Bt hi,List.filter_cons]
   by_cases hh:v[i]=m.1
   ·rw [if_pos (by simpa using hh),ih _ (by omega),if_neg (by simpa using hh)]
   ·rw [if_neg (by simpa using hh),if_pos (by simp; omega),ih _ (by simp; omega),if_pos (by simpa using hh),List.map_cons,List.append_assoc]
    rfl)) 0 (by omega) [] (by simp)
  unfold jt
  rw [if_pos ho,if_pos ho]
  exact key'
 have L4:∀ (v:List Int) (hv:v.length≤4) (y:Z),op≠1→Dv op [] v 0 m y [] (IG m v op call key val) (In m key val)=some (IG m v op call key val,jt m v op key val,[],true):=by
  intro v hv y ho
  have key':=G7 (n:=v.length) (P:=fun i=>∀ acc:List BT,acc.length≤i→Dv op [] v (i:Int) m y acc (IG m v op call key val) (In m key val)=some (IG m v op call key val,acc++((v.drop i).filter (· != m.1)).map (fun v=>((7:Int),m.1,v,m.2.1,m.2.2.2.2.2.2.2.2.1+1,([]:List AQ))),[],true)) (fun acc ha=>Ug (by
   unfold NY
   rw [if_neg (by simp)]
   simp)) (fun i hi ih acc ha=>Ug (by
   unfold NY
   have ho':¬ ((op==1)=true):=by simpa using ho
   simp only [show ((i:Int)<(v.length:Int)) from by omega,decide_true,if_true,show (0:Int)≤(i:Int) from by omega,Int.toNat_natCast,AY hi,AU (show i<9223372036854775807 by omega),if_neg ho']
   rw [Bt hi,List.filter_cons]
   by_cases hh:v[i]=m.1
   ·rw [if_pos (by simpa using hh),ih _ (by omega),if_neg (by simpa using hh)]
   ·rw [if_neg (by simpa using hh),if_pos (by simp; omega),ih _ (by simp; omega),if_pos (by simpa using hh),List.map_cons,List.append_assoc]
    rfl)) 0 (by omega) [] (by simp)
  unfold jt
  rw [if_neg ho,if_neg ho]
  exact key'
 have nil_iff:∀ l:List Int,((l.length:Int)==0)=true↔l=[]:=fun l=>by
  rw [beq_iff_eq]
  exact ⟨fun h=>List.length_eq_zero_iff.1 (by omega),fun h=>by rw [h]; rfl⟩
 have J1:∀ (b:Bool) (y:Z) (its:List AQ),op=1→m.2.1≤(views.length:Int)→NV views op call [] b m y [] (m.1,m.2.1,m.2.2.1,m.2.2.2.1,m.2.2.2.2.1,m.2.2.2.2.2.1,m.2.2.2.2.2.2.1,m.2.2.2.2.2.2.2.1,m.2.2.2.2.2.2.2.2.1+1,m.2.2.2.2.2.2.2.2.2) (In m key val) its=some (RK m (views.getD (m.2.1-1).toNat []) op call key val):=fun b y its ho he=>fQ (by
  have:=view he
  unfold Uc RK
  rw [wm,if_pos (by omega),if_pos (by omega),IW _ _ (by unfold maxLen; omega),Option.bind_some]
  by_cases hz:GI (views.getD (m.2.1-1).toNat []) m.1=[]
  ·rw [if_pos ((nil_iff _).2 hz),if_pos hz]
   have:=IX (IG m (views.getD (m.2.1-1).toNat []) op call key val) (by show m.2.2.2.2.2.2.2.1.length≤_; omega)
   unfold IG at this
   simp only
   rw [this]
   rfl
  ·rw [if_neg (fun h=>hz ((nil_iff _).1 h)),if_neg hz]
   exact L2 _ (by omega) y its ho)
 have J3:∀ (b:Bool) (y:Z),op≠1→m.2.1≤(views.length:Int)→NW views op call [] b m y [] (m.1,m.2.1,m.2.2.1,m.2.2.2.1,m.2.2.2.2.1,m.2.2.2.2.2.1,m.2.2.2.2.2.2.1,m.2.2.2.2.2.2.2.1,m.2.2.2.2.2.2.2.2.1+1,m.2.2.2.2.2.2.2.2.2) (In m key val)=some (RK m (views.getD (m.2.1-1).toNat []) op call key val):=fun b y ho he=>fR (by
  have:=view he
  unfold Ud RK
  rw [wm,if_pos (by omega),if_pos (by omega),IW _ _ (by unfold maxLen; omega),Option.bind_some]
  by_cases hz:GI (views.getD (m.2.1-1).toNat []) m.1=[]
  ·rw [if_pos ((nil_iff _).2 hz),if_pos hz]
   have:=IX (IG m (views.getD (m.2.1-1).toNat []) op call key val) (by show m.2.2.2.2.2.2.2.1.length≤_; omega)
   unfold IG at this
   simp only
   rw [this]
   rfl
  ·rw [if_neg (fun h=>hz ((nil_iff _).1 h)),if_neg hz]
   exact L4 _ (by omega) y ho)
 have J0:∀ (b:Bool) (y:Z),TZ m views op call key val=true→m.2.1≤(views.length:Int)→CY views op call key val [] b m y []=some (DA m views op call key val):=fun b y hmay he=>fS (by
  unfold Ue DA
  rw [if_pos hmay,hm.copy,Option.bind_some,wc,w1,w2]
  by_cases ho:op=1
  ·rw [if_pos (by simpa using ho),LG _ _ (by omega),Option.bind_some,Sc _ _ (by have:=mg m.2.2.2.2.2.2.2.1 (key,val,1000*m.2.1+(m.2.2.2.2.2.2.2.2.1+1)); unfold maxLen; omega),Option.bind_some]
   cases hq:VM (.pair .str (.pair .str (.int .i64))) (C0 (DD m.2.2.2.2.2.2.2.1 (In m key val)) key) (In m key val) with
   | false =>
    have hq':VM AB (C0 (DD m.2.2.2.2.2.2.2.1 (key,val,1000*m.2.1+(m.2.2.2.2.2.2.2.2.1+1))) key) (key,val,1000*m.2.1+(m.2.2.2.2.2.2.2.2.1+1))=false:=hq
    rw [hq',if_pos (show (true != false)=true from rfl),if_pos (show op=1∧false=false from ⟨ho,rfl⟩)]
    rfl
   | true =>
    have hq':VM AB (C0 (DD m.2.2.2.2.2.2.2.1 (key,val,1000*m.2.1+(m.2.2.2.2.2.2.2.2.1+1))) key) (key,val,1000*m.2.1+(m.2.2.2.2.2.2.2.2.1+1))=true:=hq
    rw [hq',if_neg (show ¬ (true != true)=true by simp),if_neg (show ¬ (op=1∧true=false) by rintro ⟨_,h⟩; cases h)]
    exact J1 _ y _ ho he
  ·rw [if_neg (by simpa using ho),if_neg (fun h=>ho h.1)]
   exact J3 _ y ho he)
 have tail:op=1∨op=2→((AP call 0 1000).bind fun y3=>(if (!y3)=true then (some (Im,([]:List BT),([]:List C9),false)) else ((AP (key.size:Int) 1 12).bind fun y4=>(if (!y4)=true then (some (Im,([]:List BT),([]:List C9),false)) else (if (decide ((val.size:Int)>20))=true then (some (Im,([]:List BT),([]:List C9),false)) else (if (op==2)=true then (if (!(val.toList==(⟨#[]⟩:ByteArray).toList))=true then (some (Im,([]:List BT),([]:List C9),false)) else (if (decide (m.2.1>(views.length:Int)))=true then (some (Im,([]:List BT),([]:List C9),false)) else (if 0≤(IntKind.i64.wrap (m.2.1-1)) then (if (IntKind.i64.wrap (m.2.1-1))<(views.length:Int) then (if 0≤(0:Int) then (if (0:Int)<((views.getD (IntKind.i64.wrap (m.2.1-1)).toNat ([]:List Int)).length:Int) then (if (((views.getD (IntKind.i64.wrap (m.2.1-1)).toNat ([]:List Int)).getD (0:Int).toNat 0) != m.1)=true then (some (Im,([]:List BT),([]:List C9),false)) else (CY views op call key val ([]:List C9) (((views.getD (IntKind.i64.wrap (m.2.1-1)).toNat ([]:List Int)).getD (0:Int).toNat 0) != m.1) m Im ([]:List BT))) else none) else none) else none) else none))) else (if (decide (m.2.1>(views.length:Int)))=true then (some (Im,([]:List BT),([]:List C9),false)) else (if 0≤(IntKind.i64.wrap (m.2.1-1)) then (if (IntKind.i64.wrap (m.2.1-1))<(views.length:Int) then (if 0≤(0:Int) then (if (0:Int)<((views.getD (IntKind.i64.wrap (m.2.1-1)).toNat ([]:List Int)).length:Int) then (if (((views.getD (IntKind.i64.wrap (m.2.1-1)).toNat ([]:List Int)).getD (0:Int).toNat 0) != m.1)=true then (some (Im,([]:List BT),([]:List C9),false)) else (CY views op call key val ([]:List C9) (((views.getD (IntKind.i64.wrap (m.2.1-1)).toNat ([]:List Int)).getD (0:Int).toNat 0) != m.1) m Im ([]:List BT))) else none) else none) else none) else none))))))))=some (DA m views op call key val):=by
  intro hop
  rw [Au,Option.bind_some,Au,Option.bind_some,wm]
  cases c5:(decide (0≤call)&&decide (call≤1000)) with
  | false=>rw [bad (by unfold TZ; rw [c5]; simp)]; rfl
  | true =>
  rw [if_neg (by simp)]
  cases c6:(decide (1≤(key.size:Int))&&decide ((key.size:Int)≤12)) with
  | false=>rw [bad (by unfold TZ; rw [c6]; simp)]; rfl
  | true =>
  rw [if_neg (by simp)]
  by_cases c7:(val.size:Int)≤20
  case neg=>rw [if_pos (by simp; omega),bad (by unfold TZ; simp [c7])]
  rw [if_neg (by simp; omega)]
  have last:(op==1||lV val)=true→(if (decide (m.2.1>(views.length:Int)))=true then (some (Im,([]:List BT),([]:List C9),false)) else (if 0≤m.2.1-1 then (if m.2.1-1<(views.length:Int) then (if 0≤(0:Int) then (if (0:Int)<((views.getD (m.2.1-1).toNat ([]:List Int)).length:Int) then (if (((views.getD (m.2.1-1).toNat ([]:List Int)).getD (0:Int).toNat 0) != m.1)=true then (some (Im,([]:List BT),([]:List C9),false)) else (CY views op call key val ([]:List C9) (((views.getD (m.2.1-1).toNat ([]:List Int)).getD (0:Int).toNat 0) != m.1) m Im ([]:List BT))) else none) else none) else none) else none))=some (DA m views op call key val):=by
   intro c8
   by_cases c9:m.2.1≤(views.length:Int)
   case neg=>rw [if_pos (by simp; omega),bad (by unfold TZ; simp [c9])]
   have:=view c9
   rw [if_neg (by simp; omega),if_pos (by omega),if_pos (by omega),if_pos (by omega),if_pos (by omega),show (views.getD (m.2.1-1).toNat ([]:List Int)).getD (0:Int).toNat 0=(views.getD (m.2.1-1).toNat []).getD 0 0 from rfl]
   by_cases c10:(views.getD (m.2.1-1).toNat []).getD 0 0=m.1
   case neg=>rw [if_pos (by simpa using c10),bad (by unfold TZ; rw [show ((views.getD (m.2.1-1).toNat []).getD 0 0==m.1)=false from by simpa using c10,Bool.and_false])]
   rw [if_neg (by simpa using c10)]
   refine J0 _ _ ?_ c9
   unfold TZ
   rw [c1,c5,c6,c8]
   simp only [c2,beq_self_eq_true,c3,c7,c9,c10,decide_true,Bool.and_true,Bool.true_and]
   rcases hop with h | h<;>simp [h]
  by_cases c8:op=2
  ·rw [if_pos (by simpa using c8)]
   cases ce:lV val with
   | false =>
    rw [if_pos (by rw [dV,ce]; rfl),bad (by unfold TZ; rw [ce,show (op==1)=false from by simp [c8]]; simp)]
   | true =>
    rw [if_neg (by rw [dV,ce]; simp)]
    exact last (by rw [ce,Bool.or_true])
  ·rw [if_neg (by simpa using c8)]
   exact last (by rw [show (op==1)=true from by simp; omega]; rfl)
 by_cases c4:op=1
 ·rw [if_neg (by simpa using c4)]
  exact tail (.inl c4)
 ·rw [if_pos (by simpa using c4)]
  by_cases c4':op=2
  ·rw [if_neg (by simpa using c4')]
   exact tail (.inr c4')
  ·rw [if_pos (by simpa using c4'),bad (by unfold TZ; rw [show (op==1||op==2)=false from by simp [c4,c4']]; simp)]
   rfl)
structure nx (m:Z) (r:Z×List BT×List C9×Bool):Prop where
 mok:r.2.2.2=true→IV r.1
 id:r.2.2.2=true→r.1.1=m.1
 ep:r.2.2.2=true→r.1.2.1=m.2.1
 told:r.2.2.2=true→Y3 m r.1 r.2.1
 tlen:r.2.1.length≤4
 said:dY r.2.2.1
theorem kM {m:Z}:nx m (Im,[],[],false):=⟨fun h=>(by cases h),fun h=>(by cases h),fun h=>(by cases h),fun h=>(by cases h),by simp,Eo⟩
theorem dZ {m:Z} {views:List (List Int)} {op call:Int} {key val:ByteArray} (h:TZ m views op call key val=true) :
  m.2.2.2.2.2.1=true∧m.2.2.2.2.2.2.2.2.2.1=0∧m.2.2.2.2.2.2.2.2.1<900∧(op=1∨op=2)∧(0≤call∧call≤1000)∧(1≤(key.size:Int)∧(key.size:Int)≤12)∧(val.size:Int)≤20∧(op=1∨lV val=true)∧m.2.1≤(views.length:Int)∧(views.getD (m.2.1-1).toNat []).getD 0 0=m.1:=by
 unfold TZ at h
 simp only [Bool.and_eq_true,Bool.or_eq_true,decide_eq_true_eq,beq_iff_eq] at h
 obtain ⟨⟨⟨⟨⟨⟨⟨⟨⟨h1,h2⟩,h3⟩,h4⟩,h5⟩,h6⟩,h7⟩,h8⟩,h9⟩,h10⟩:=h
 exact ⟨h1,h2,h3,h4,h5,h6,h7,h8,h9,h10⟩
theorem mi {m:Z} {key val:ByteArray} (h:IV m) (h3:m.2.2.2.2.2.2.2.2.1<900) (h6:1≤(key.size:Int)∧(key.size:Int)≤12) (h7:(val.size:Int)≤20):BH [In m key val]=true:=by
 refine Hl.2 ⟨fun b hb=>?_,?_,by simp⟩
 ·simp only [List.mem_singleton] at hb
  subst hb
  unfold LD In
  have:=h.ep
  have:=h.count
  simp only [Bool.and_eq_true,decide_eq_true_eq]
  omega
 ·exact kL.2 (by simp)
theorem IV.task1 {m:Z} {view:List Int} {op call:Int} {key val:ByteArray} (h:IV m) (h1:m.2.2.2.2.2.1=true) (h3:m.2.2.2.2.2.2.2.2.1<900) (h4:op=1∨op=2) (h5:0≤call∧call≤1000):IV (IG m view op call key val):=by
 have hc:=h.count
 refine ⟨h.id,h.ep,h.serves,h.fell,h.waits,TY _ _,h.items,?_,.inr ?_⟩
 ·show 0≤m.2.2.2.2.2.2.2.2.1+1∧m.2.2.2.2.2.2.2.2.1+1≤900
  omega
 ·unfold En IG
  rw [h1]
  simp only [Bool.and_eq_true,Bool.or_eq_true,decide_eq_true_eq,beq_iff_eq]
  exact ⟨⟨⟨h4,trivial⟩,h5⟩,by omega⟩
theorem da {m:Z} {views:List (List Int)} {op call:Int} {key val:ByteArray} (hm:IV m) (hv:RJ views):nx m (DA m views op call key val):=by
 unfold DA
 split
 ·rename_i hmay
  obtain ⟨h1,h2,h3,h4,h5,h6,h7,h8,h9,h10⟩:=dZ hmay
  split
  ·exact kM
  ·unfold RK
   have hep:=hm.ep
   have ht:=hm.task1 (view:=views.getD (m.2.1-1).toNat []) (key:=key) (val:=val) h1 h3 h4 h5
   have h0:(IG m (views.getD (m.2.1-1).toNat []) op call key val).2.2.2.2.2.2.2.2.2.1≠0:=by show op≠0; omega
   have hw:=hv.wok (i:=(m.2.1-1).toNat) (by omega)
   split
   ·exact ⟨fun _=>ht.finish,fun _=>(by unfold Ey; split<;>rfl),fun _=>(by unfold Ey; split<;>rfl),fun _=>Wu,by simp,d_ ht h0⟩
   ·refine ⟨fun _=>ht,fun _=>rfl,fun _=>rfl,fun _=>?_,?_,Eo⟩
    ·unfold jt
     have hc:=hm.count
     have hi:=mi hm h3 h6 h7
     refine bF (n:=IG m (views.getD (m.2.1-1).toNat []) op call key val) hm.id hm.ep hw.mem (by split<;>omega) (by omega) ?_ ?_
     ·split
      ·exact hi
      ·exact Sp
     ·by_cases ho:op=1
      ·rw [if_pos ho,if_pos ho,if_neg (by omega),if_pos rfl]; rfl
      ·rw [if_neg ho,if_neg ho,if_neg (by omega),if_neg (by omega)]
    ·unfold jt
     simp only [List.length_map]
     have:=Gi (views.getD (m.2.1-1).toNat []) m.1
     have:=hw.len
     omega
 ·exact kM
def Jr (m:Z) (e:Int):Z:=(m.1,e,false,false,true,false,([]:List Int),m.2.2.2.2.2.2.2.1,(0:Int),(0:Int),(0:Int),(0:Int),(ByteArray.empty,ByteArray.empty,(0:Int)),([]:List Int))
def E6 (m:Z) (views:List (List Int)) (e:Int):Z×List BT×Bool :=
 if 2≤e∧e≤(views.length:Int)∧m.2.1<e∧(views.getD (e-1).toNat []).getD 0 0=m.1 then
  if (m.2.2.2.1&&(m.2.1==e-1)&&(views.getD (e-2).toNat []).contains m.1)=true then
   (Sl (Jr m e) (views.getD (e-1).toNat []) m.2.2.2.2.2.2.2.1,(B5 (views.getD (e-1).toNat []) m.1).map (fun v=>(3,m.1,v,e,0,m.2.2.2.2.2.2.2.1)),true)
  else (Jr m e,(B5 (views.getD (e-2).toNat []) m.1).map (fun v=>(1,m.1,v,e,0,[])),true)
 else (Im,[],false)
theorem IV.new1 {m:Z} (h:IV m) {e:Int} (he:1≤e∧e≤9):IV (Jr m e) :=
 ⟨h.id,he,fun hs=>(by cases hs),fun hf=>(by cases hf),⟨by simp [Jr],by simp [Jr]⟩,⟨by simp [Jr],by simp [Jr]⟩,h.items,⟨by simp [Jr],by simp [Jr]⟩,.inl XH⟩
theorem f7 (m:Z) (views:List (List Int)) (e:Int) (hm:IV m) (hv:RJ views):TL m views e=some (E6 m views e):=lR (by
 have hvl:=hv.len
 have hep:=hm.ep
 have hl:=hm.lens
 unfold aU E6
 rw [JQ hm,Option.bind_some,if_neg (by simp),Fd hv,Option.bind_some,if_neg (by simp),Au,Option.bind_some]
 by_cases h1:2≤e∧e≤(views.length:Int)
 case neg =>
  rw [if_pos (by rw [← Bool.decide_and,decide_eq_false h1]; rfl),if_neg (fun h=>h1 ⟨h.1,h.2.1⟩)]
  rfl
 have we:IntKind.i64.wrap (e-1)=e-1:=AX (by omega)
 have we2:IntKind.i64.wrap (e-2)=e-2:=AX (by omega)
 rw [if_neg (by rw [← Bool.decide_and,decide_eq_true h1]; simp),we]
 by_cases h2:m.2.1<e
 case neg =>
  rw [if_pos (by simp; omega),if_neg (fun h=>h2 h.2.2.1)]
  rfl
 have g1:=hv.get (i:=(e-1).toNat) (by omega)
 have g2:=hv.get (i:=(e-2).toNat) (by omega)
 rw [if_neg (by simp; omega),if_pos (by omega),if_pos (by omega),if_pos (by omega),if_pos (by omega),show (views.getD (e-1).toNat ([]:List Int)).getD (0:Int).toNat 0=(views.getD (e-1).toNat []).getD 0 0 from rfl]
 by_cases h3:(views.getD (e-1).toNat []).getD 0 0=m.1
 case neg =>
  rw [if_pos (by simpa using h3),if_neg (fun h=>h3 h.2.2.2)]
  rfl
 rw [if_neg (by simpa using h3),if_pos ⟨h1.1,h1.2,h2,h3⟩]
 have L2:∀ y,FA views e 0 m y [] ([]++m.2.2.2.2.2.2.2.1) (Jr m e)=some (Jr m e,(B5 (views.getD (e-2).toNat []) m.1).map (fun v=>(1,m.1,v,e,0,[])),true):=by
  intro y
  have hcopy:=(hm.new1 (e:=e) (by omega)).copy
  have key':=G7 (n:=(views.getD (e-2).toNat []).length) (P:=fun i=>∀ acc:List BT,acc.length≤i→FA views e (i:Int) m y acc ([]++m.2.2.2.2.2.2.2.1) (Jr m e)=some (Jr m e,acc++(((views.getD (e-2).toNat []).drop i).filter (· != m.1)).map (fun v=>((1:Int),m.1,v,e,(0:Int),([]:List AQ))),true)) (fun acc ha=>Uk (by
   unfold NZ
   rw [we2,if_pos (by omega),if_pos (by omega),if_neg (by simp),hcopy]
   simp)) (fun i hi ih acc ha=>Uk (by
   unfold NZ
   rw [we2,if_pos (by omega),if_pos (by omega)]
   simp only [show ((i:Int)<((views.getD (e-2).toNat ([]:List Int)).length:Int)) from by omega,decide_true,if_true,show (0:Int)≤(i:Int) from by omega,Int.toNat_natCast,AU (show i<9223372036854775807 by omega),show (0:Int)≤e-2 from by omega,show e-2<(views.length:Int) from by omega]
   rw [AY hi,Bt hi,List.filter_cons]
   by_cases hh:((views.getD (e-2).toNat ([]:List Int))[i] != m.1)=true
   ·rw [if_pos hh,if_pos (by simp; omega),ih _ (by simp; omega),if_pos hh,List.map_cons,List.append_assoc]
    rfl
   ·rw [if_neg hh,ih _ (by omega),if_neg hh])) 0 (by omega) [] (by simp)
  exact key'
 have J1:∀ (b:Bool) y,Gm views e b m y []=some (if b=true then (Sl (Jr m e) (views.getD (e-1).toNat []) m.2.2.2.2.2.2.2.1,(B5 (views.getD (e-1).toNat []) m.1).map (fun v=>(3,m.1,v,e,0,m.2.2.2.2.2.2.2.1)),true) else (Jr m e,(B5 (views.getD (e-2).toNat []) m.1).map (fun v=>(1,m.1,v,e,0,[])),true)):=fun b y=>fU (by
  unfold Ui
  rw [we,if_pos (by simp; omega)]
  cases b
  ·rw [if_neg (by simp)]
   exact L2 y
  ·rw [if_pos rfl,if_pos (by omega),if_pos (by omega)]
   have hh:=So (views.getD (e-1).toNat []) m.2.2.2.2.2.2.2.1 (Jr m e) (by omega) (by omega)
   have hc:=((hm.new1 (e:=e) (by omega)).has (view:=views.getD (e-1).toNat []) (its:=m.2.2.2.2.2.2.2.1) rfl rfl hm.items).copy
   unfold Jr at hh hc ⊢
   simp only [List.nil_append]
   rw [hh,Option.bind_some,hc]
   rfl)
 refine fV ?_
 unfold Uj
 rw [we,we2,CZ _ _ (by unfold maxLen; omega),Option.bind_some]
 simp only [J1]
 rw [if_pos (show (0:Int)≤e-2 by omega),if_pos (show e-2<(views.length:Int) by omega)]
 cases m.2.2.2.1<;>cases (m.2.1==e-1)<;>cases (views.getD (e-2).toNat ([]:List Int)).contains m.1<;>rfl)
theorem db {m:Z} {views:List (List Int)} {e:Int} (hm:IV m) (hv:RJ views):(E6 m views e).2.2=true→IV (E6 m views e).1∧(E6 m views e).1.1=m.1∧Y3 m (E6 m views e).1 (E6 m views e).2.1∧(E6 m views e).2.1.length≤4:=by
 intro h
 have hvl:=hv.len
 have hep:=hm.ep
 unfold E6 at h ⊢
 split
 ·rename_i hc
  have he:1≤e∧e≤9:=by omega
  split
  ·have hw:=hv.wok (i:=(e-1).toNat) (by omega)
   refine ⟨(hm.new1 he).has rfl rfl hm.items,rfl,bF (n:=Sl (Jr m e) (views.getD (e-1).toNat []) m.2.2.2.2.2.2.2.1) hm.id he hw.mem (by omega) (by omega) hm.items (by simp),?_⟩
   simp only [List.length_map]
   have:=Gi (views.getD (e-1).toNat []) m.1
   have:=hw.len
   omega
  ·have hw:=hv.wok (i:=(e-2).toNat) (by omega)
   refine ⟨hm.new1 he,rfl,bF (n:=Jr m e) hm.id he hw.mem (by omega) (by omega) Sp (by simp),?_⟩
   simp only [List.length_map]
   have:=Gi (views.getD (e-2).toNat []) m.1
   have:=hw.len
   omega
 ·rename_i hc
  rw [if_neg hc] at h
  cases h
def Uu (m:Z):Z:=(m.1,m.2.1,true,false,false,false,([]:List Int),([]:List AQ),(0:Int),(0:Int),(0:Int),(0:Int),(ByteArray.empty,ByteArray.empty,(0:Int)),([]:List Int))
theorem ju (m:Z):V7 m=some (Uu m):=mb rfl
theorem IV.fall1 {m:Z} (h:IV m):IV (Uu m) :=
 ⟨h.id,h.ep,fun hs=>(by cases hs),fun hf=>⟨rfl,rfl⟩,⟨by simp [Uu],by simp [Uu]⟩,⟨by simp [Uu],by simp [Uu]⟩,Sp,⟨by simp [Uu],by simp [Uu]⟩,.inl XH⟩
def GJ (id:Int) (views:List (List Int)):Z :=
 (id,(1:Int),false,(views.getD 0 []).contains id,((views.getD 0 []).getD 0 0==id),((views.getD 0 []).getD 0 0==id),([]:List Int),([]:List AQ),(0:Int),(0:Int),(0:Int),(0:Int),(ByteArray.empty,ByteArray.empty,(0:Int)),([]:List Int))
theorem Xh (id:Int) (views:List (List Int)) (hi:1≤id∧id≤6) (hv:RJ views):MD id views=some (GJ id views,true):=cf (by
 have hvl:=hv.len
 have g:=hv.get (i:=0) (by omega)
 unfold SE
 rw [Fd hv,Option.bind_some,if_pos (by rfl),Au,Option.bind_some,if_neg (by rw [← Bool.decide_and,decide_eq_true hi]; simp)]
 refine XX ?_
 unfold N3
 rw [show views.getD (0:Int).toNat ([]:List Int)=views.getD 0 [] from rfl,CZ _ _ (by unfold maxLen; omega),Option.bind_some]
 repeat rw [if_pos (by omega)]
 rfl)
theorem IV.first1 {id:Int} {views:List (List Int)} (hi:1≤id∧id≤6) (hv:RJ views):IV (GJ id views):=by
 have hvl:=hv.len
 have g:=hv.get (i:=0) (by omega)
 refine ⟨hi,by simp [GJ],fun hs=>⟨?_,hs,rfl⟩,fun hf=>(by cases hf),⟨by simp [GJ],by simp [GJ]⟩,⟨by simp [GJ],by simp [GJ]⟩,Sp,⟨by simp [GJ],by simp [GJ]⟩,.inl XH⟩
 simp only [GJ,beq_iff_eq] at hs ⊢
 rw [← hs,List.contains_iff_mem,AY (show 0<(views.getD 0 []).length by omega)]
 exact List.getElem_mem _
end Go.Proofs.YtokiohnjegbnpaaGreat.Core
