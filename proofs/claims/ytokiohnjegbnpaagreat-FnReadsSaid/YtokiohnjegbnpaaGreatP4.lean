/- Texts of the proof, packed: part 5. -/
import Derived.Test.YtokiohnjegbnpaaGreatP3
import Derived.JoinedOf
import Derived.Test.YtokiohnjegbnpaaGreatRows
import Derived.ProofKit
set_option linter.unusedVariables false
set_option linter.unusedSimpArgs false
namespace Go.Proofs.YtokiohnjegbnpaaGreat.Core
open Go
def Jd:AA:=((0:Int),(0:Int),false,false,false,false,([]:List Int),([]:List AM),(0:Int),(0:Int),(0:Int),(0:Int),(ByteArray.empty,ByteArray.empty,(0:Int)),([]:List Int))
def U3 (m:AA) (views:List (List Int)) (op call:Int) (key val:ByteArray):Bool :=
 m.2.2.2.2.2.1&&(m.2.2.2.2.2.2.2.2.2.1==0)&&decide (m.2.2.2.2.2.2.2.2.1<900)&&(op==1||op==2)&&(decide (0<=call)&&decide (call<=1000))&&(decide (1<=(key.size:Int))&&decide ((key.size:Int)<=12))&&decide ((val.size:Int)<=20)&&(op==1||rm val)&&decide (m.2.1<=(views.length:Int))&&((views.getD (m.2.1-1).toNat []).getD 0 0==m.1)
def GC (m:AA) (key val:ByteArray):AM:=(key,val,1000*m.2.1+(m.2.2.2.2.2.2.2.2.1+1))
def GL (m:AA) (view:List Int) (op call:Int) (key val:ByteArray):AA :=
 (m.1,m.2.1,m.2.2.1,m.2.2.2.1,m.2.2.2.2.1,m.2.2.2.2.2.1,m.2.2.2.2.2.2.1,m.2.2.2.2.2.2.2.1,m.2.2.2.2.2.2.2.2.1+1,op,call,m.2.2.2.2.2.2.2.2.1+1,GC m key val,DN view m.1)
def nE (m:AA) (view:List Int) (op:Int) (key val:ByteArray):List BN :=
 (Bz view m.1).map fun v=>(if op=1 then 5 else 7,m.1,v,m.2.1,m.2.2.2.2.2.2.2.2.1+1,if op=1 then [GC m key val] else [])
def Qd (m:AA) (view:List Int) (op call:Int) (key val:ByteArray):AA×List BN×List Cy×Bool :=
 if DN view m.1=[] then ((Bs (GL m view op call key val)).2,[],(Bs (GL m view op call key val)).1,true) else (GL m view op call key val,nE m view op key val,[],true)
def DP (m:AA) (views:List (List Int)) (op call:Int) (key val:ByteArray):AA×List BN×List Cy×Bool :=
 if U3 m views op call key val=true then
  (if op=1/\XZ (.pair .str (.pair .str (.int .i64))) (BD (Aj m.2.2.2.2.2.2.2.1 (GC m key val)) key) (GC m key val)=false then (Jd,[],[],false) else Qd m (views.getD (m.2.1-1).toNat []) op call key val)
 else (Jd,[],[],false)
theorem jy (m:AA) (views:List (List Int)) (op call:Int) (key val:ByteArray) (hm:I2 m) (hv:Qg views):Ul m views op call key val=some (DP m views op call key val):=qM (by
 have hvl:=hv.len
 have hep:=hm.ep
 have hl:=hm.lens
 have hcnt:=hm.count
 have wm:IntKind.i64.wrap (m.2.1-1)=m.2.1-1:=AZ (by omega)
 have wc:IntKind.i64.wrap (m.2.2.2.2.2.2.2.2.1+1)=m.2.2.2.2.2.2.2.2.1+1:=AZ (by omega)
 have w1:IntKind.i64.wrap (1000*m.2.1)=1000*m.2.1:=AZ (by omega)
 have w2:IntKind.i64.wrap (1000*m.2.1+(m.2.2.2.2.2.2.2.2.1+1))=1000*m.2.1+(m.2.2.2.2.2.2.2.2.1+1):=AZ (by omega)
 unfold dr
 rw [KJ hm,X,if_neg (by simp),GB hv,X,if_neg (by simp)]
 have bad:U3 m views op call key val=false->DP m views op call key val=(Jd,[],[],false):=fun h=>by unfold DP; rw [h]; rfl
 by_cases c1:m.2.2.2.2.2.1=true
 case neg =>
  rw [if_pos (by simpa using c1),bad (by unfold U3; simp [c1])]
  rfl
 rw [if_neg (by simpa using c1)]
 by_cases c2:m.2.2.2.2.2.2.2.2.2.1=0
 case neg =>
  rw [if_pos (by simpa using c2),bad (by unfold U3; simp [c2])]
  rfl
 rw [if_neg (by simpa using c2)]
 by_cases c3:m.2.2.2.2.2.2.2.2.1<900
 case neg =>
  rw [if_pos (by simp; omega),bad (by unfold U3; simp [c3])]
  rfl
 rw [if_neg (by simp; omega)]
 have view:∀ (hep2:m.2.1<=(views.length:Int)),1<=(views.getD (m.2.1-1).toNat []).length/\(views.getD (m.2.1-1).toNat []).length<=4:=fun h=>hv.get (by omega)
 have L2:∀ (v:List Int) (hv:v.length<=4) (y:AA) (its:List AM),op=1->EN op [] v 0 m y [] (GL m v op call key val) (GC m key val) its=some (GL m v op call key val,nE m v op key val,[],true):=by
  intro v hv y its ho
  have key':=GJ (n:=v.length) (P:=fun i=>∀ acc:List BN,acc.length<=i->EN op [] v (i:Int) m y acc (GL m v op call key val) (GC m key val) its=some (GL m v op call key val,acc++((v.drop i).filter (· != m.1)).map (fun v=>((5:Int),m.1,v,m.2.1,m.2.2.2.2.2.2.2.2.1+1,[GC m key val])),[],true)) (fun acc ha=>Ww (by
   unfold OZ
   rw [if_neg (by simp)]
   simp)) (fun i hi ih acc ha=>Ww (by
   unfold OZ
   simp only [show ((i:Int)<(v.length:Int)) from by omega,decide_true,if_true,show (0:Int)<=(i:Int) from by omega,Int.toNat_natCast,AR hi,AO (show i<9223372036854775807 by omega),ho,beq_self_eq_true]
   rw [ho] at ih
   rw [BZ hi,List.filter_cons]
   by_cases hh:v[i]=m.1
   ·rw [if_pos (by simpa using hh),ih _ (by omega),if_neg (by simpa using hh)]
   ·rw [if_neg (by simpa using hh),if_pos (by simp; omega),ih _ (by simp; omega),if_pos (by simpa using hh),List.map_cons,List.append_assoc]
    rfl)) 0 (by omega) [] (by simp)
  unfold nE
  rw [if_pos ho,if_pos ho]
  exact key'
 have L4:∀ (v:List Int) (hv:v.length<=4) (y:AA),op≠1->EO op [] v 0 m y [] (GL m v op call key val) (GC m key val)=some (GL m v op call key val,nE m v op key val,[],true):=by
  intro v hv y ho
  have key':=GJ (n:=v.length) (P:=fun i=>∀ acc:List BN,acc.length<=i->EO op [] v (i:Int) m y acc (GL m v op call key val) (GC m key val)=some (GL m v op call key val,acc++((v.drop i).filter (· != m.1)).map (fun v=>((7:Int),m.1,v,m.2.1,m.2.2.2.2.2.2.2.2.1+1,([]:List AM))),[],true)) (fun acc ha=>Wx (by
   unfold Oa
   rw [if_neg (by simp)]
   simp)) (fun i hi ih acc ha=>Wx (by
   unfold Oa
   have ho':¬ ((op==1)=true):=by simpa using ho
   simp only [show ((i:Int)<(v.length:Int)) from by omega,decide_true,if_true,show (0:Int)<=(i:Int) from by omega,Int.toNat_natCast,AR hi,AO (show i<9223372036854775807 by omega),if_neg ho']
   rw [BZ hi,List.filter_cons]
   by_cases hh:v[i]=m.1
   ·rw [if_pos (by simpa using hh),ih _ (by omega),if_neg (by simpa using hh)]
   ·rw [if_neg (by simpa using hh),if_pos (by simp; omega),ih _ (by simp; omega),if_pos (by simpa using hh),List.map_cons,List.append_assoc]
    rfl)) 0 (by omega) [] (by simp)
  unfold nE
  rw [if_neg ho,if_neg ho]
  exact key'
 have nil_iff:∀ l:List Int,((l.length:Int)==0)=true↔l=[]:=fun l=>by
  rw [beq_iff_eq]
  exact ⟨fun h=>List.length_eq_zero_iff.1 (by omega),fun h=>by rw [h]; rfl⟩
 have J1:∀ (b:Bool) (y:AA) (its:List AM),op=1->m.2.1<=(views.length:Int)->OX views op call [] b m y [] (m.1,m.2.1,m.2.2.1,m.2.2.2.1,m.2.2.2.2.1,m.2.2.2.2.2.1,m.2.2.2.2.2.2.1,m.2.2.2.2.2.2.2.1,m.2.2.2.2.2.2.2.2.1+1,m.2.2.2.2.2.2.2.2.2) (GC m key val) its=some (Qd m (views.getD (m.2.1-1).toNat []) op call key val):=fun b y its ho he=>jX (by
  have:=view he
  unfold Ws Qd
  rw [wm,if_pos (by omega),if_pos (by omega),JL _ _ (by unfold maxLen; omega),X]
  by_cases hz:DN (views.getD (m.2.1-1).toNat []) m.1=[]
  ·rw [if_pos ((nil_iff _).2 hz),if_pos hz]
   have:=JM (GL m (views.getD (m.2.1-1).toNat []) op call key val) (by show m.2.2.2.2.2.2.2.1.length<=_; omega)
   unfold GL at this
   simp only
   rw [this]
   rfl
  ·rw [if_neg (fun h=>hz ((nil_iff _).1 h)),if_neg hz]
   exact L2 _ (by omega) y its ho)
 have J3:∀ (b:Bool) (y:AA),op≠1->m.2.1<=(views.length:Int)->OY views op call [] b m y [] (m.1,m.2.1,m.2.2.1,m.2.2.2.1,m.2.2.2.2.1,m.2.2.2.2.2.1,m.2.2.2.2.2.2.1,m.2.2.2.2.2.2.2.1,m.2.2.2.2.2.2.2.2.1+1,m.2.2.2.2.2.2.2.2.2) (GC m key val)=some (Qd m (views.getD (m.2.1-1).toNat []) op call key val):=fun b y ho he=>jY (by
  have:=view he
  unfold Wt Qd
  rw [wm,if_pos (by omega),if_pos (by omega),JL _ _ (by unfold maxLen; omega),X]
  by_cases hz:DN (views.getD (m.2.1-1).toNat []) m.1=[]
  ·rw [if_pos ((nil_iff _).2 hz),if_pos hz]
   have:=JM (GL m (views.getD (m.2.1-1).toNat []) op call key val) (by show m.2.2.2.2.2.2.2.1.length<=_; omega)
   unfold GL at this
   simp only
   rw [this]
   rfl
  ·rw [if_neg (fun h=>hz ((nil_iff _).1 h)),if_neg hz]
   exact L4 _ (by omega) y ho)
 have J0:∀ (b:Bool) (y:AA),U3 m views op call key val=true->m.2.1<=(views.length:Int)->Cu views op call key val [] b m y []=some (DP m views op call key val):=fun b y hmay he=>jZ (by
  unfold Wu DP
  rw [if_pos hmay,hm.copy,X,wc,w1,w2]
  by_cases ho:op=1
  ·rw [if_pos (by simpa using ho),MM _ _ (by omega),X,T0 _ _ (by have:=rX m.2.2.2.2.2.2.2.1 (key,val,1000*m.2.1+(m.2.2.2.2.2.2.2.2.1+1)); unfold maxLen; omega),X]
   cases hq:XZ (.pair .str (.pair .str (.int .i64))) (BD (Aj m.2.2.2.2.2.2.2.1 (GC m key val)) key) (GC m key val) with
   | false =>
    have hq':XZ AC (BD (Aj m.2.2.2.2.2.2.2.1 (key,val,1000*m.2.1+(m.2.2.2.2.2.2.2.2.1+1))) key) (key,val,1000*m.2.1+(m.2.2.2.2.2.2.2.2.1+1))=false:=hq
    rw [hq',if_pos (show (true != false)=true from rfl),if_pos (show op=1/\false=false from ⟨ho,rfl⟩)]
    rfl
   | true =>
    have hq':XZ AC (BD (Aj m.2.2.2.2.2.2.2.1 (key,val,1000*m.2.1+(m.2.2.2.2.2.2.2.2.1+1))) key) (key,val,1000*m.2.1+(m.2.2.2.2.2.2.2.2.1+1))=true:=hq
    rw [hq',if_neg (show ¬ (true != true)=true by simp),if_neg (show ¬ (op=1/\true=false) by rintro ⟨_,h⟩; cases h)]
    exact J1 _ y _ ho he
  ·rw [if_neg (by simpa using ho),if_neg (fun h=>ho h.1)]
   exact J3 _ y ho he)
 have tail:op=1\/op=2->((AX call 0 1000).bind fun y3=>(if (!y3)=true then (some (Jd,([]:List BN),([]:List Cy),false)) else ((AX (key.size:Int) 1 12).bind fun y4=>(if (!y4)=true then (some (Jd,([]:List BN),([]:List Cy),false)) else (if (decide ((val.size:Int)>20))=true then (some (Jd,([]:List BN),([]:List Cy),false)) else (if (op==2)=true then (if (!(val.toList==(⟨#[]⟩:ByteArray).toList))=true then (some (Jd,([]:List BN),([]:List Cy),false)) else (if (decide (m.2.1>(views.length:Int)))=true then (some (Jd,([]:List BN),([]:List Cy),false)) else (if 0<=(IntKind.i64.wrap (m.2.1-1)) then (if (IntKind.i64.wrap (m.2.1-1))<(views.length:Int) then (if 0<=(0:Int) then (if (0:Int)<((views.getD (IntKind.i64.wrap (m.2.1-1)).toNat ([]:List Int)).length:Int) then (if (((views.getD (IntKind.i64.wrap (m.2.1-1)).toNat ([]:List Int)).getD (0:Int).toNat 0) != m.1)=true then (some (Jd,([]:List BN),([]:List Cy),false)) else (Cu views op call key val ([]:List Cy) (((views.getD (IntKind.i64.wrap (m.2.1-1)).toNat ([]:List Int)).getD (0:Int).toNat 0) != m.1) m Jd ([]:List BN))) else none) else none) else none) else none))) else (if (decide (m.2.1>(views.length:Int)))=true then (some (Jd,([]:List BN),([]:List Cy),false)) else (if 0<=(IntKind.i64.wrap (m.2.1-1)) then (if (IntKind.i64.wrap (m.2.1-1))<(views.length:Int) then (if 0<=(0:Int) then (if (0:Int)<((views.getD (IntKind.i64.wrap (m.2.1-1)).toNat ([]:List Int)).length:Int) then (if (((views.getD (IntKind.i64.wrap (m.2.1-1)).toNat ([]:List Int)).getD (0:Int).toNat 0) != m.1)=true then (some (Jd,([]:List BN),([]:List Cy),false)) else (Cu views op call key val ([]:List Cy) (((views.getD (IntKind.i64.wrap (m.2.1-1)).toNat ([]:List Int)).getD (0:Int).toNat 0) != m.1) m Jd ([]:List BN))) else none) else none) else none) else none))))))))=some (DP m views op call key val):=by
  intro hop
  rw [BK,X,BK,X,wm]
  cases c5:(decide (0<=call)&&decide (call<=1000)) with
  | false=>rw [bad (by unfold U3; rw [c5]; simp)]; rfl
  | true =>
  rw [if_neg (by simp)]
  cases c6:(decide (1<=(key.size:Int))&&decide ((key.size:Int)<=12)) with
  | false=>rw [bad (by unfold U3; rw [c6]; simp)]; rfl
  | true =>
  rw [if_neg (by simp)]
  by_cases c7:(val.size:Int)<=20
  case neg=>rw [if_pos (by simp; omega),bad (by unfold U3; simp [c7])]
  rw [if_neg (by simp; omega)]
  have last:(op==1||rm val)=true->(if (decide (m.2.1>(views.length:Int)))=true then (some (Jd,([]:List BN),([]:List Cy),false)) else (if 0<=m.2.1-1 then (if m.2.1-1<(views.length:Int) then (if 0<=(0:Int) then (if (0:Int)<((views.getD (m.2.1-1).toNat ([]:List Int)).length:Int) then (if (((views.getD (m.2.1-1).toNat ([]:List Int)).getD (0:Int).toNat 0) != m.1)=true then (some (Jd,([]:List BN),([]:List Cy),false)) else (Cu views op call key val ([]:List Cy) (((views.getD (m.2.1-1).toNat ([]:List Int)).getD (0:Int).toNat 0) != m.1) m Jd ([]:List BN))) else none) else none) else none) else none))=some (DP m views op call key val):=by
   intro c8
   by_cases c9:m.2.1<=(views.length:Int)
   case neg=>rw [if_pos (by simp; omega),bad (by unfold U3; simp [c9])]
   have:=view c9
   rw [if_neg (by simp; omega),if_pos (by omega),if_pos (by omega),if_pos (by omega),if_pos (by omega),show (views.getD (m.2.1-1).toNat ([]:List Int)).getD (0:Int).toNat 0=(views.getD (m.2.1-1).toNat []).getD 0 0 from rfl]
   by_cases c10:(views.getD (m.2.1-1).toNat []).getD 0 0=m.1
   case neg=>rw [if_pos (by simpa using c10),bad (by unfold U3; rw [show ((views.getD (m.2.1-1).toNat []).getD 0 0==m.1)=false from by simpa using c10,Bool.and_false])]
   rw [if_neg (by simpa using c10)]
   refine J0 _ _ ?_ c9
   unfold U3
   rw [c1,c5,c6,c8]
   simp only [c2,beq_self_eq_true,c3,c7,c9,c10,decide_true,Bool.and_true,Bool.true_and]
   rcases hop with h | h<;>simp [h]
  by_cases c8:op=2
  ·rw [if_pos (by simpa using c8)]
   cases ce:rm val with
   | false =>
    rw [if_pos (by rw [m8,ce]; rfl),bad (by unfold U3; rw [ce,show (op==1)=false from by simp [c8]]; simp)]
   | true =>
    rw [if_neg (by rw [m8,ce]; simp)]
    exact last (by rw [ce,Bool.or_true])
  ·rw [if_neg (by simpa using c8)]
   exact last (by rw [show (op==1)=true from by simp; omega]; rfl)
 by_cases c4:op=1
 ·rw [if_neg (by simpa using c4)]
  exact tail (.inl c4)
 ·rw [if_pos (by simpa using c4)]
  by_cases c4':op=2
  ·rw [if_neg (by simpa using c4')]
   exact tail (.inr c4')
  ·rw [if_pos (by simpa using c4'),bad (by unfold U3; rw [show (op==1||op==2)=false from by simp [c4,c4']]; simp)]
   rfl)
structure tE (m:AA) (r:AA×List BN×List Cy×Bool):Prop where
 mok:r.2.2.2=true->I2 r.1
 id:r.2.2.2=true->r.1.1=m.1
 ep:r.2.2.2=true->r.1.2.1=m.2.1
 told:r.2.2.2=true->bZ m r.1 r.2.1
 tlen:r.2.1.length<=4
 said:g9 r.2.2.1
theorem oo {m:AA}:tE m (Jd,[],[],false):=⟨fun h=>(by cases h),fun h=>(by cases h),fun h=>(by cases h),fun h=>(by cases h),by simp,FQ⟩
theorem ZW {m:AA} {views:List (List Int)} {op call:Int} {key val:ByteArray} (h:U3 m views op call key val=true) :
  m.2.2.2.2.2.1=true/\m.2.2.2.2.2.2.2.2.2.1=0/\m.2.2.2.2.2.2.2.2.1<900/\(op=1\/op=2)/\(0<=call/\call<=1000)/\(1<=(key.size:Int)/\(key.size:Int)<=12)/\(val.size:Int)<=20/\(op=1\/rm val=true)/\m.2.1<=(views.length:Int)/\(views.getD (m.2.1-1).toNat []).getD 0 0=m.1:=by
 unfold U3 at h
 simp only [Bool.and_eq_true,Bool.or_eq_true,decide_eq_true_eq,beq_iff_eq] at h
 obtain ⟨⟨⟨⟨⟨⟨⟨⟨⟨h1,h2⟩,h3⟩,h4⟩,h5⟩,h6⟩,h7⟩,h8⟩,h9⟩,h10⟩:=h
 exact ⟨h1,h2,h3,h4,h5,h6,h7,h8,h9,h10⟩
theorem nF {m:AA} {key val:ByteArray} (h:I2 m) (h3:m.2.2.2.2.2.2.2.2.1<900) (h6:1<=(key.size:Int)/\(key.size:Int)<=12) (h7:(val.size:Int)<=20):Ap [GC m key val]=true:=by
 refine Cm.2 ⟨fun b hb=>?_,?_,by simp⟩
 ·simp only [List.mem_singleton] at hb
  subst hb
  unfold I1 GC
  have:=h.ep
  have:=h.count
  simp only [Bool.and_eq_true,decide_eq_true_eq]
  omega
 ·exact ol.2 (by simp)
theorem I2.task1 {m:AA} {view:List Int} {op call:Int} {key val:ByteArray} (h:I2 m) (h1:m.2.2.2.2.2.1=true) (h3:m.2.2.2.2.2.2.2.2.1<900) (h4:op=1\/op=2) (h5:0<=call/\call<=1000):I2 (GL m view op call key val):=by
 have hc:=h.count
 refine ⟨h.id,h.ep,h.serves,h.fell,h.waits,U2 _ _,h.items,?_,.inr ?_⟩
 ·show 0<=m.2.2.2.2.2.2.2.2.1+1/\m.2.2.2.2.2.2.2.2.1+1<=900
  omega
 ·unfold FP GL
  rw [h1]
  simp only [Bool.and_eq_true,Bool.or_eq_true,decide_eq_true_eq,beq_iff_eq]
  exact ⟨⟨⟨h4,trivial⟩,h5⟩,by omega⟩
theorem ZX {m:AA} {views:List (List Int)} {op call:Int} {key val:ByteArray} (hm:I2 m) (hv:Qg views):tE m (DP m views op call key val):=by
 unfold DP
 split
 ·rename_i hmay
  obtain ⟨h1,h2,h3,h4,h5,h6,h7,h8,h9,h10⟩:=ZW hmay
  split
  ·exact oo
  ·unfold Qd
   have hep:=hm.ep
   have ht:=hm.task1 (view:=views.getD (m.2.1-1).toNat []) (key:=key) (val:=val) h1 h3 h4 h5
   have h0:(GL m (views.getD (m.2.1-1).toNat []) op call key val).2.2.2.2.2.2.2.2.2.1≠0:=by show op≠0; omega
   have hw:=hv.wok (i:=(m.2.1-1).toNat) (by omega)
   split
   ·exact ⟨fun _=>ht.finish,fun _=>(by unfold Bs; split<;>rfl),fun _=>(by unfold Bs; split<;>rfl),fun _=>Y9,by simp,iU ht h0⟩
   ·refine ⟨fun _=>ht,fun _=>rfl,fun _=>rfl,fun _=>?_,?_,FQ⟩
    ·unfold nE
     have hc:=hm.count
     have hi:=nF hm h3 h6 h7
     refine eO (n:=GL m (views.getD (m.2.1-1).toNat []) op call key val) hm.id hm.ep hw.mem (by split<;>omega) (by omega) ?_ ?_
     ·split
      ·exact hi
      ·exact Ph
     ·by_cases ho:op=1
      ·rw [if_pos ho,if_pos ho,if_neg (by omega),if_pos rfl]; rfl
      ·rw [if_neg ho,if_neg ho,if_neg (by omega),if_neg (by omega)]
    ·unfold nE
     simp only [List.length_map]
     have:=HJ (views.getD (m.2.1-1).toNat []) m.1
     have:=hw.len
     omega
 ·exact oo
def Ku (m:AA) (e:Int):AA:=(m.1,e,false,false,true,false,([]:List Int),m.2.2.2.2.2.2.2.1,(0:Int),(0:Int),(0:Int),(0:Int),(ByteArray.empty,ByteArray.empty,(0:Int)),([]:List Int))
def Eo (m:AA) (views:List (List Int)) (e:Int):AA×List BN×Bool :=
 if 2<=e/\e<=(views.length:Int)/\m.2.1<e/\(views.getD (e-1).toNat []).getD 0 0=m.1 then
  if (m.2.2.2.1&&(m.2.1==e-1)&&(views.getD (e-2).toNat []).contains m.1)=true then
   (Qm (Ku m e) (views.getD (e-1).toNat []) m.2.2.2.2.2.2.2.1,(Bz (views.getD (e-1).toNat []) m.1).map (fun v=>(3,m.1,v,e,0,m.2.2.2.2.2.2.2.1)),true)
  else (Ku m e,(Bz (views.getD (e-2).toNat []) m.1).map (fun v=>(1,m.1,v,e,0,[])),true)
 else (Jd,[],false)
theorem I2.new1 {m:AA} (h:I2 m) {e:Int} (he:1<=e/\e<=9):I2 (Ku m e) :=
 ⟨h.id,he,fun hs=>(by cases hs),fun hf=>(by cases hf),⟨by simp [Ku],by simp [Ku]⟩,⟨by simp [Ku],by simp [Ku]⟩,h.items,⟨by simp [Ku],by simp [Ku]⟩,.inl ZV⟩
theorem jz (m:AA) (views:List (List Int)) (e:Int) (hm:I2 m) (hv:Qg views):Um m views e=some (Eo m views e):=qN (by
 have hvl:=hv.len
 have hep:=hm.ep
 have hl:=hm.lens
 unfold dt Eo
 rw [KJ hm,X,if_neg (by simp),GB hv,X,if_neg (by simp),BK,X]
 by_cases h1:2<=e/\e<=(views.length:Int)
 case neg =>
  rw [if_pos (by rw [<- Bool.decide_and,decide_eq_false h1]; rfl),if_neg (fun h=>h1 ⟨h.1,h.2.1⟩)]
  rfl
 have we:IntKind.i64.wrap (e-1)=e-1:=AZ (by omega)
 have we2:IntKind.i64.wrap (e-2)=e-2:=AZ (by omega)
 rw [if_neg (by rw [<- Bool.decide_and,decide_eq_true h1]; simp),we]
 by_cases h2:m.2.1<e
 case neg =>
  rw [if_pos (by simp; omega),if_neg (fun h=>h2 h.2.2.1)]
  rfl
 have g1:=hv.get (i:=(e-1).toNat) (by omega)
 have g2:=hv.get (i:=(e-2).toNat) (by omega)
 rw [if_neg (by simp; omega),if_pos (by omega),if_pos (by omega),if_pos (by omega),if_pos (by omega),show (views.getD (e-1).toNat ([]:List Int)).getD (0:Int).toNat 0=(views.getD (e-1).toNat []).getD 0 0 from rfl]
 by_cases h3:(views.getD (e-1).toNat []).getD 0 0=m.1
 case neg =>
  rw [if_pos (by simpa using h3),if_neg (fun h=>h3 h.2.2.2)]
  rfl
 rw [if_neg (by simpa using h3),if_pos ⟨h1.1,h1.2,h2,h3⟩]
 have L2:∀ y,Fj views e 0 m y [] ([]++m.2.2.2.2.2.2.2.1) (Ku m e)=some (Ku m e,(Bz (views.getD (e-2).toNat []) m.1).map (fun v=>(1,m.1,v,e,0,[])),true):=by
  intro y
  have hcopy:=(hm.new1 (e:=e) (by omega)).copy
  have key':=GJ (n:=(views.getD (e-2).toNat []).length) (P:=fun i=>∀ acc:List BN,acc.length<=i->Fj views e (i:Int) m y acc ([]++m.2.2.2.2.2.2.2.1) (Ku m e)=some (Ku m e,acc++(((views.getD (e-2).toNat []).drop i).filter (· != m.1)).map (fun v=>((1:Int),m.1,v,e,(0:Int),([]:List AM))),true)) (fun acc ha=>W3 (by
   unfold Ob
   rw [we2,if_pos (by omega),if_pos (by omega),if_neg (by simp),hcopy]
   simp)) (fun i hi ih acc ha=>W3 (by
   unfold Ob
   rw [we2,if_pos (by omega),if_pos (by omega)]
   simp only [show ((i:Int)<((views.getD (e-2).toNat ([]:List Int)).length:Int)) from by omega,decide_true,if_true,show (0:Int)<=(i:Int) from by omega,Int.toNat_natCast,AO (show i<9223372036854775807 by omega),show (0:Int)<=e-2 from by omega,show e-2<(views.length:Int) from by omega]
   rw [AR hi,BZ hi,List.filter_cons]
   by_cases hh:((views.getD (e-2).toNat ([]:List Int))[i] != m.1)=true
   ·rw [if_pos hh,if_pos (by simp; omega),ih _ (by simp; omega),if_pos hh,List.map_cons,List.append_assoc]
    rfl
   ·rw [if_neg hh,ih _ (by omega),if_neg hh])) 0 (by omega) [] (by simp)
  exact key'
 have J1:∀ (b:Bool) y,HR views e b m y []=some (if b=true then (Qm (Ku m e) (views.getD (e-1).toNat []) m.2.2.2.2.2.2.2.1,(Bz (views.getD (e-1).toNat []) m.1).map (fun v=>(3,m.1,v,e,0,m.2.2.2.2.2.2.2.1)),true) else (Ku m e,(Bz (views.getD (e-2).toNat []) m.1).map (fun v=>(1,m.1,v,e,0,[])),true)):=fun b y=>jb (by
  unfold Wz
  rw [we,if_pos (by simp; omega)]
  cases b
  ·rw [if_neg (by simp)]
   exact L2 y
  ·rw [if_pos rfl,if_pos (by omega),if_pos (by omega)]
   have hh:=T8 (views.getD (e-1).toNat []) m.2.2.2.2.2.2.2.1 (Ku m e) (by omega) (by omega)
   have hc:=((hm.new1 (e:=e) (by omega)).has (view:=views.getD (e-1).toNat []) (its:=m.2.2.2.2.2.2.2.1) rfl rfl hm.items).copy
   unfold Ku at hh hc ⊢
   simp only [List.nil_append]
   rw [hh,X,hc]
   rfl)
 refine jc ?_
 unfold W0
 rw [we,we2,Cv _ _ (by unfold maxLen; omega),X]
 simp only [J1]
 rw [if_pos (show (0:Int)<=e-2 by omega),if_pos (show e-2<(views.length:Int) by omega)]
 cases m.2.2.2.1<;>cases (m.2.1==e-1)<;>cases (views.getD (e-2).toNat ([]:List Int)).contains m.1<;>rfl)
theorem T9 {m:AA} {views:List (List Int)} {e:Int} (hm:I2 m) (hv:Qg views):(Eo m views e).2.2=true->I2 (Eo m views e).1/\(Eo m views e).1.1=m.1/\bZ m (Eo m views e).1 (Eo m views e).2.1/\(Eo m views e).2.1.length<=4:=by
 intro h
 have hvl:=hv.len
 have hep:=hm.ep
 unfold Eo at h ⊢
 split
 ·rename_i hc
  have he:1<=e/\e<=9:=by omega
  split
  ·have hw:=hv.wok (i:=(e-1).toNat) (by omega)
   refine ⟨(hm.new1 he).has rfl rfl hm.items,rfl,eO (n:=Qm (Ku m e) (views.getD (e-1).toNat []) m.2.2.2.2.2.2.2.1) hm.id he hw.mem (by omega) (by omega) hm.items (by simp),?_⟩
   simp only [List.length_map]
   have:=HJ (views.getD (e-1).toNat []) m.1
   have:=hw.len
   omega
  ·have hw:=hv.wok (i:=(e-2).toNat) (by omega)
   refine ⟨hm.new1 he,rfl,eO (n:=Ku m e) hm.id he hw.mem (by omega) (by omega) Ph (by simp),?_⟩
   simp only [List.length_map]
   have:=HJ (views.getD (e-2).toNat []) m.1
   have:=hw.len
   omega
 ·rename_i hc
  rw [if_neg hc] at h
  cases h
def T_ (m:AA):AA:=(m.1,m.2.1,true,false,false,false,([]:List Int),([]:List AM),(0:Int),(0:Int),(0:Int),(0:Int),(ByteArray.empty,ByteArray.empty,(0:Int)),([]:List Int))
theorem oG (m:AA):YL m=some (T_ m):=rS rfl
theorem I2.fall1 {m:AA} (h:I2 m):I2 (T_ m) :=
 ⟨h.id,h.ep,fun hs=>(by cases hs),fun hf=>⟨rfl,rfl⟩,⟨by simp [T_],by simp [T_]⟩,⟨by simp [T_],by simp [T_]⟩,Ph,⟨by simp [T_],by simp [T_]⟩,.inl ZV⟩
def D9 (id:Int) (views:List (List Int)):AA :=
 (id,(1:Int),false,(views.getD 0 []).contains id,((views.getD 0 []).getD 0 0==id),((views.getD 0 []).getD 0 0==id),([]:List Int),([]:List AM),(0:Int),(0:Int),(0:Int),(0:Int),(ByteArray.empty,ByteArray.empty,(0:Int)),([]:List Int))
theorem Zy (id:Int) (views:List (List Int)) (hi:1<=id/\id<=6) (hv:Qg views):Mx id views=some (D9 id views,true):=gH (by
 have hvl:=hv.len
 have g:=hv.get (i:=0) (by omega)
 unfold Td
 rw [GB hv,X,if_pos (by rfl),BK,X,if_neg (by rw [<- Bool.decide_and,decide_eq_true hi]; simp)]
 refine Zo ?_
 unfold O8
 rw [show views.getD (0:Int).toNat ([]:List Int)=views.getD 0 [] from rfl,Cv _ _ (by unfold maxLen; omega),X]
 repeat rw [if_pos (by omega)]
 rfl)
theorem I2.first1 {id:Int} {views:List (List Int)} (hi:1<=id/\id<=6) (hv:Qg views):I2 (D9 id views):=by
 have hvl:=hv.len
 have g:=hv.get (i:=0) (by omega)
 refine ⟨hi,by simp [D9],fun hs=>⟨?_,hs,rfl⟩,fun hf=>(by cases hf),⟨by simp [D9],by simp [D9]⟩,⟨by simp [D9],by simp [D9]⟩,Ph,⟨by simp [D9],by simp [D9]⟩,.inl ZV⟩
 simp only [D9,beq_iff_eq] at hs ⊢
 rw [<- hs,List.contains_iff_mem,AR (show 0<(views.getD 0 []).length by omega)]
 exact List.getElem_mem _

abbrev Kl:Type:=Int×ByteArray×ByteArray×Int×Int×Int×Int×Int×ByteArray
abbrev AT:Type:=List (List Int)×List AA×List BN×List Kl
abbrev D_:Type:=Int×Int×Int×Int×ByteArray×ByteArray
def ES:Kl:=((0:Int),ByteArray.empty,ByteArray.empty,(0:Int),(0:Int),(0:Int),(0:Int),(0:Int),ByteArray.empty)
def Cr:BN:=((0:Int),(0:Int),(0:Int),(0:Int),(0:Int),([]:List AM))
def BX (g:AT) (i:Nat):AA:=g.2.1.getD i Jd
theorem sV (g:AT) (i:Nat):g.2.1.getD i ((0:Int),(0:Int),false,false,false,false,([]:List Int),([]:List AM),(0:Int),(0:Int),(0:Int),(0:Int),(ByteArray.empty,ByteArray.empty,(0:Int)),([]:List Int))=BX g i:=rfl
structure JN (g:AT) (n:Nat):Prop where
 views:Qg g.1
 six:g.2.1.length=6
 mem:∀ i,i<6->I2 (BX g i)/\(BX g i).1=(i:Int)+1
 fly:∀ x∈g.2.2.1,uK x
 flen:g.2.2.1.length<=8*n
 clen:g.2.2.2.length<=n
def Qe (at_:Int) (s:Cy) (c:Kl):Kl :=
 (c.1,c.2.1,c.2.2.1,c.2.2.2.1,at_,s.2.2.2.2.2,s.2.1,s.2.2.1,if (c.1==2)=true then s.2.2.2.2.1 else c.2.2.2.2.2.2.2.2)
def ID (at_:Int) (cs:List Kl) (s:Cy):List Kl :=
 if (decide (s.1>=(cs.length:Int))||decide ((cs.getD s.1.toNat ES).2.2.2.2.1>=0))=true then cs else cs.set s.1.toNat (Qe at_ s (cs.getD s.1.toNat ES))
def BF (g:AT) (n:AA) (told:List BN) (said:List Cy) (at_:Int):AT :=
 (g.1,g.2.1.set (n.1-1).toNat n,g.2.2.1++told,said.foldl (ID at_) g.2.2.2)
theorem uL (at_:Int) (cs:List Kl) (s:Cy):(ID at_ cs s).length=cs.length:=by unfold ID; split<;>simp
theorem U4 (at_:Int):∀ (said:List Cy) (cs:List Kl),(said.foldl (ID at_) cs).length=cs.length
 | [],cs=>rfl
 | s::l,cs=>by rw [List.foldl_cons,U4 at_ l,uL]
theorem qR {α:Type} {l:List α} {i:Nat} {a d:α} (h:i<l.length):(l.set i a).getD i d=a:=by simp [List.getD,h]
theorem GR (n:AA) (told:List BN) (said:List Cy) (at_:Int) (g:AT) (hn:1<=n.1/\n.1<=6) (h6:g.2.1.length=6) (hf:g.2.2.1.length+told.length<=68719476736) (hc:g.2.2.2.length<=68719476736) (hs:g9 said) :
  E7 n told said at_ g=some (BF g n told said at_):=gI (by
 have hsl:=hs.1
 unfold Te
 rw [AZ (show -9223372036854775808<=n.1-1/\n.1-1<=9223372036854775807 by omega)]
 simp only [List.nil_append,List.length_nil,Nat.zero_add]
 rw [if_pos (by omega),if_pos (by omega),if_pos (by omega),if_pos (by omega),if_pos (by omega)]
 have key:=GJ (n:=said.length) (P:=fun i=>∀ (cs:List Kl),cs.length<=68719476736->Cg said at_ (i:Int) (g.1,g.2.1.set (n.1-1).toNat n,g.2.2.1++told,cs) n (g.2.1.set (n.1-1).toNat n) (g.2.2.1++told)=some (g.1,g.2.1.set (n.1-1).toNat n,g.2.2.1++told,(said.drop i).foldl (ID at_) cs)) (fun cs hcs=>PB (by
  unfold JG
  rw [if_neg (by simp)]
  simp)) (fun i hi ih cs hcs=>PB (by
  unfold JG
  have hz:said.getD i ((0:Int),(0:Int),(0:Int),ByteArray.empty,ByteArray.empty,(0:Int))=said[i]:=AR hi
  have h0:=(hs.2 said[i] (List.getElem_mem hi)).1
  simp only [show ((i:Int)<(said.length:Int)) from by omega,decide_true,if_true,show (0:Int)<=(i:Int) from by omega,Int.toNat_natCast,hz,AO (show i<9223372036854775807 by omega)]
  have hz3:cs.getD said[i].1.toNat ((0:Int),ByteArray.empty,ByteArray.empty,(0:Int),(0:Int),(0:Int),(0:Int),(0:Int),ByteArray.empty)=cs.getD said[i].1.toNat ES:=rfl
  rw [BZ hi,List.foldl_cons,hz3]
  by_cases c1:said[i].1>=(cs.length:Int)
  ·rw [if_pos (by simpa using c1),ih cs hcs]
   have:ID at_ cs said[i]=cs:=by unfold ID; rw [if_pos (by simp [c1])]
   rw [this]
  ·rw [if_neg (by simpa using c1),if_pos (by omega),if_pos (by omega)]
   by_cases c2:(cs.getD said[i].1.toNat ES).2.2.2.2.1>=0
   ·rw [if_pos (show decide ((cs.getD said[i].1.toNat ES).2.2.2.2.1>=0)=true from decide_eq_true c2),ih cs hcs]
    have:ID at_ cs said[i]=cs:=by unfold ID; rw [if_pos (by rw [decide_eq_true c2,Bool.or_true])]
    rw [this]
   ·rw [if_neg (show ¬ decide ((cs.getD said[i].1.toNat ES).2.2.2.2.1>=0)=true from fun h=>c2 (of_decide_eq_true h))]
    have hcl:said[i].1.toNat<cs.length:=by omega
    have e:ID at_ cs said[i]=cs.set said[i].1.toNat (Qe at_ said[i] (cs.getD said[i].1.toNat ES)):=by unfold ID; rw [if_neg (by rw [decide_eq_false c1,decide_eq_false c2]; simp)]
    rw [e]
    refine Zp ?_
    unfold PA
    have hz2:∀ (l:List Kl),l.getD said[i].1.toNat ((0:Int),ByteArray.empty,ByteArray.empty,(0:Int),(0:Int),(0:Int),(0:Int),(0:Int),ByteArray.empty)=l.getD said[i].1.toNat ES:=fun l=>rfl
    simp only [List.nil_append,List.length_nil,Nat.zero_add,hz2,qR hcl,List.set_set,List.length_set]
    have hk:∀ r,(if cs.length<=68719476736 then r else (none:Option AT))=r:=fun r=>if_pos hcs
    rw [if_pos (show cs.length<=68719476736 from hcs),if_pos (show (0:Int)<=said[i].1 from h0),if_pos (show said[i].1<(cs.length:Int) by omega),AO (show i<9223372036854775807 by omega)]
    unfold Qe
    by_cases c3:(cs.getD said[i].1.toNat ES).1=2
    ·rw [if_pos (show ((cs.getD said[i].1.toNat ES).1==2)=true by simpa using c3),if_pos (show ((cs.getD said[i].1.toNat ES).1==2)=true by simpa using c3)]
     exact ih _ (by simpa using hcs)
    ·rw [if_neg (show ¬ ((cs.getD said[i].1.toNat ES).1==2)=true by simpa using c3),if_neg (show ¬ ((cs.getD said[i].1.toNat ES).1==2)=true by simpa using c3)]
     exact ih _ (by simpa using hcs))) 0 (by omega) g.2.2.2 hc
 exact key)
theorem nG {g:AT} {n:AA} {told:List BN} {said:List Cy} {at_:Int} {i j:Nat} (h6:g.2.1.length=6) (hj:j<6) (hn:n.1=(i:Int)+1) (hi:i<6):BX (BF g n told said at_) j=if j=i then n else BX g j:=by
 unfold BX BF
 simp only [hn,show ((i:Int)+1-1).toNat=i from by omega]
 by_cases e:j=i
 ·subst e
  rw [if_pos rfl]
  exact qR (by omega)
 ·rw [if_neg e]
  simp [List.getD,List.getElem?_set,Ne.symm e]
theorem JN.member {g:AT} {k:Nat} (h:JN g k) {n:AA} {told:List BN} {said:List Cy} {at_:Int} {i:Nat} (hi:i<6) (hn:I2 n) (hid:n.1=(i:Int)+1) (ht:∀ y∈told,uK y) (hl:told.length<=4):JN (BF g n told said at_) (k+1):=by
 refine ⟨h.views,by simp [BF,h.six],fun j hj=>?_,fun x hx=>?_,?_,?_⟩
 ·rw [nG h.six hj hid hi]
  split
  ·rename_i e
   subst e
   exact ⟨hn,hid⟩
  ·exact h.mem j hj
 ·rcases List.mem_append.1 hx with h1 | h1
  ·exact h.fly x h1
  ·exact ht x h1
 ·have:=h.flen
  simp only [BF,List.length_append]
  omega
 ·have:=h.clen
  simp only [BF,U4]
  omega
def Gy (g:AT) (at_:Int) (e:D_):AT:=(g.1,g.2.1,g.2.2.1,g.2.2.2++[(e.2.2.2.1,e.2.2.2.2.1,e.2.2.2.2.2,at_,-1,0,0,0,ByteArray.empty)])
def JO (g:AT) (at_:Int) (e:D_):Int×AT :=
 if (DP (BX g (e.2.1-1).toNat) g.1 e.2.2.2.1 (g.2.2.2.length:Int) e.2.2.2.2.1 e.2.2.2.2.2).2.2.2=true then
  (0,BF (Gy g at_ e) (DP (BX g (e.2.1-1).toNat) g.1 e.2.2.2.1 (g.2.2.2.length:Int) e.2.2.2.2.1 e.2.2.2.2.2).1 (DP (BX g (e.2.1-1).toNat) g.1 e.2.2.2.1 (g.2.2.2.length:Int) e.2.2.2.2.1 e.2.2.2.2.2).2.1 (DP (BX g (e.2.1-1).toNat) g.1 e.2.2.2.1 (g.2.2.2.length:Int) e.2.2.2.2.1 e.2.2.2.2.2).2.2.1 at_)
 else (1,Gy g at_ e)
theorem eP {e:D_} (h:MS e=true):1<=e.1/\e.1<=6/\1<=e.2.1/\e.2.1<=6/\0<=e.2.2.1:=by
 unfold MS at h
 simp only [Bool.and_eq_true,decide_eq_true_eq] at h
 omega
theorem tF {m n:AA} {l:List BN} (h:bZ m n l):∀ y∈l,uK y:=fun y hy=>(h y hy).1
theorem JN.began {at_:Int} {e:D_} {g:AT} {k:Nat} (hg:JN g k) (hn:1<=e.2.1/\e.2.1<=6):JN (JO g at_ e).2 (k+1)/\(JO g at_ e).2.1=g.1:=by
 have hc:=hg.clen
 obtain ⟨m1,m2⟩:=hg.mem (e.2.1-1).toNat (by omega)
 have hb:=ZX (op:=e.2.2.2.1) (call:=(g.2.2.2.length:Int)) (key:=e.2.2.2.2.1) (val:=e.2.2.2.2.2) m1 hg.views
 refine ⟨?_,?_⟩
 ·unfold JO
  split
  ·rename_i hq
   have hid:=hb.id hq
   have hm:=hg.member (said:=(DP (BX g (e.2.1-1).toNat) g.1 e.2.2.2.1 (g.2.2.2.length:Int) e.2.2.2.2.1 e.2.2.2.2.2).2.2.1) (at_:=at_) (i:=(e.2.1-1).toNat) (by omega) (hb.mok hq) (by rw [hid,m2]) (tF (hb.told hq)) hb.tlen
   exact ⟨hm.views,hm.six,hm.mem,hm.fly,hm.flen,by simp only [BF,U4,Gy,List.length_append,List.length_cons,List.length_nil]; omega⟩
  ·exact ⟨hg.views,hg.six,hg.mem,hg.fly,by have:=hg.flen; show g.2.2.1.length<=_; omega,by simp only [Gy,List.length_append,List.length_cons,List.length_nil]; omega⟩
 ·unfold JO; split<;>rfl
theorem ba (at_:Int) (e:D_) (g:AT) (k:Nat) (hg:JN g k) (hk:k<=1000) (hn:1<=e.2.1/\e.2.1<=6):OF at_ e g=some (JO g at_ e)/\JN (JO g at_ e).2 (k+1)/\(JO g at_ e).2.1=g.1:=by
 have hc:=hg.clen
 have hf:=hg.flen
 have h6:=hg.six
 have wn:IntKind.i64.wrap (e.2.1-1)=e.2.1-1:=AZ (by omega)
 have wl:IntKind.i64.wrap (((g.2.2.2.length+1:Nat):Int)-1)=(g.2.2.2.length:Int):=by rw [AZ (by omega)]; omega
 obtain ⟨m1,m2⟩:=hg.mem (e.2.1-1).toNat (by omega)
 have hb:=ZX (op:=e.2.2.2.1) (call:=(g.2.2.2.length:Int)) (key:=e.2.2.2.2.1) (val:=e.2.2.2.2.2) m1 hg.views
 refine ⟨jO ?_,hg.began hn⟩
 ·unfold Wj JO
  simp only [List.nil_append,List.length_nil,Nat.zero_add,List.length_append,List.length_cons]
  rw [if_pos (by omega),if_pos (by omega),wn,if_pos (by omega),if_pos (by omega),wl,
   sV g (e.2.1-1).toNat,
   jy _ _ _ _ _ _ m1 hg.views,X]
  cases hq:(DP (BX g (e.2.1-1).toNat) g.1 e.2.2.2.1 (g.2.2.2.length:Int) e.2.2.2.2.1 e.2.2.2.2.2).2.2.2 with
  | false=>rfl
  | true =>
   have hid:=hb.id hq
   have hmo:=hb.mok hq
   have htl:=hb.tlen
   rw [if_neg (by simp),if_pos rfl]
   have:=GR (DP (BX g (e.2.1-1).toNat) g.1 e.2.2.2.1 (g.2.2.2.length:Int) e.2.2.2.2.1 e.2.2.2.2.2).1 (DP (BX g (e.2.1-1).toNat) g.1 e.2.2.2.1 (g.2.2.2.length:Int) e.2.2.2.2.1 e.2.2.2.2.2).2.1 (DP (BX g (e.2.1-1).toNat) g.1 e.2.2.2.1 (g.2.2.2.length:Int) e.2.2.2.2.1 e.2.2.2.2.2).2.2.1 at_ (Gy g at_ e) hmo.id h6 (by show g.2.2.1.length+_<=_; omega) (by simp only [Gy,List.length_append,List.length_cons,List.length_nil]; omega) hb.said
   unfold Gy at this ⊢
   rw [this]
   rfl

def Ic (g:AT) (at_:Int) (m:AA) (node:Int):Nat->Int->Int×AT
 | 0,_=>(1,g)
 | k+1,e=>if ((g.1.getD (e-1).toNat []).getD 0 0 != node)=true then Ic g at_ m node k (e+1)
  else if (Eo m g.1 e).2.2=true then (0,BF g (Eo m g.1 e).1 (Eo m g.1 e).2.1 [] at_) else (1,g)
def Y_ (g:AT) (at_ node:Int):Int×AT:=Ic g at_ (BX g (node-1).toNat) node ((g.1.length:Int)-(BX g (node-1).toNat).2.1).toNat ((BX g (node-1).toNat).2.1+1)
theorem JN.up {g:AT} {k:Nat} (h:JN g k):JN g (k+1):=⟨h.views,h.six,h.mem,h.fly,by have:=h.flen; omega,by have:=h.clen; omega⟩
theorem JN.adopted {at_ node:Int} {g:AT} {k:Nat} (hg:JN g k) (hn:1<=node/\node<=6):∀ (j:Nat) (e:Int),JN (Ic g at_ (BX g (node-1).toNat) node j e).2 (k+1)/\(Ic g at_ (BX g (node-1).toNat) node j e).2.1=g.1
 | 0,_=>⟨hg.up,rfl⟩
 | j+1,e=>by
  obtain ⟨m1,m2⟩:=hg.mem (node-1).toNat (by omega)
  unfold Ic
  split
  ·exact JN.adopted hg hn j (e+1)
  ·split
   ·rename_i hq
    obtain ⟨a1,a2,a3,a4⟩:=T9 (e:=e) m1 hg.views hq
    exact ⟨hg.member (i:=(node-1).toNat) (by omega) a1 (by rw [a2,m2]) (tF a3) a4,rfl⟩
   ·exact ⟨hg.up,rfl⟩
theorem bc (at_ node:Int) (g:AT) (k:Nat) (hg:JN g k) (hk:k<=1000) (hn:1<=node/\node<=6):OG at_ node g=some (Y_ g at_ node)/\JN (Y_ g at_ node).2 (k+1)/\(Y_ g at_ node).2.1=g.1:=by
 have hc:=hg.clen
 have hf:=hg.flen
 have h6:=hg.six
 have hvl:=hg.views.len
 have wn:IntKind.i64.wrap (node-1)=node-1:=AZ (by omega)
 obtain ⟨m1,m2⟩:=hg.mem (node-1).toNat (by omega)
 have hep:=m1.ep
 have wm:IntKind.i64.wrap ((BX g (node-1).toNat).2.1+1)=(BX g (node-1).toNat).2.1+1:=AZ (by omega)
 have key:∀ (j:Nat) (e:Int),e=(g.1.length:Int)+1-(j:Int)->2<=e->HE at_ node e g (BX g (node-1).toNat)=some (Ic g at_ (BX g (node-1).toNat) node j e):=by
  intro j
  induction j with
  | zero =>
   intro e he h2
   refine KH ?_
   unfold HF
   rw [if_neg (by simp; omega)]
   rfl
  | succ j ih =>
   intro e he h2
   have we:IntKind.i64.wrap (e-1)=e-1:=AZ (by omega)
   have we2:IntKind.i64.wrap (e+1)=e+1:=AZ (by omega)
   have gv:=hg.views.get (i:=(e-1).toNat) (by omega)
   have ha:=T9 (e:=e) m1 hg.views
   have i1:=ih (e+1) (by omega) (by omega)
   unfold Ic
   refine KH ?_
   ·unfold HF
    rw [if_pos (by simp; omega),we,we2,if_pos (by omega),if_pos (by omega),if_pos (by omega),if_pos (by omega),show (g.1.getD (e-1).toNat ([]:List Int)).getD (0:Int).toNat 0=(g.1.getD (e-1).toNat []).getD 0 0 from rfl]
    by_cases h3:((g.1.getD (e-1).toNat []).getD 0 0 != node)=true
    ·rw [if_pos h3,if_pos h3,i1]
    ·rw [if_neg h3,if_neg h3,jz _ _ _ m1 hg.views,X]
     cases hq:(Eo (BX g (node-1).toNat) g.1 e).2.2 with
     | false=>rfl
     | true =>
      obtain ⟨a1,a2,a3,a4⟩:=ha hq
      rw [if_neg (by simp),if_pos rfl,GR _ _ _ _ _ a1.id h6 (by omega) (by omega) FQ]
      rfl
 have hmain:=key ((g.1.length:Int)-(BX g (node-1).toNat).2.1).toNat ((BX g (node-1).toNat).2.1+1)
 by_cases hle:(BX g (node-1).toNat).2.1<=(g.1.length:Int)
 ·have k1:=hmain (by omega) (by omega)
  refine ⟨Wk ?_,hg.adopted hn _ _⟩
  unfold OW
  rw [wn,if_pos (by omega),if_pos (by omega),sV g (node-1).toNat,wm]
  exact k1
 ·have e0:((g.1.length:Int)-(BX g (node-1).toNat).2.1).toNat=0:=by omega
  unfold Y_
  rw [e0]
  refine ⟨Wk ?_,hg.up,rfl⟩
  unfold OW
  rw [wn,if_pos (by omega),if_pos (by omega),sV g (node-1).toNat,wm]
  refine KH ?_
  unfold HF
  rw [if_neg (fun h=>hle (by have:=of_decide_eq_true h; omega))]
  rfl
def Ec (g:AT) (i:Nat):AT:=(g.1,g.2.1,g.2.2.1.take i++g.2.2.1.drop (i+1),g.2.2.2)
def bd (g:AT) (at_:Int) (e:D_):Int×AT :=
 if g.2.2.1=[] then (1,g)
 else if e.1=4 then (0,(g.1,g.2.1,g.2.2.1++[g.2.2.1.getD (e.2.2.1 % (g.2.2.1.length:Int)).toNat Cr],g.2.2.2))
 else if e.1=3 then (0,Ec g (e.2.2.1 % (g.2.2.1.length:Int)).toNat)
 else (0,BF (Ec g (e.2.2.1 % (g.2.2.1.length:Int)).toNat)
  (DO (BX g ((g.2.2.1.getD (e.2.2.1 % (g.2.2.1.length:Int)).toNat Cr).2.2.1-1).toNat) g.1 (g.2.2.1.getD (e.2.2.1 % (g.2.2.1.length:Int)).toNat Cr)).1
  (DO (BX g ((g.2.2.1.getD (e.2.2.1 % (g.2.2.1.length:Int)).toNat Cr).2.2.1-1).toNat) g.1 (g.2.2.1.getD (e.2.2.1 % (g.2.2.1.length:Int)).toNat Cr)).2.1
  (DO (BX g ((g.2.2.1.getD (e.2.2.1 % (g.2.2.1.length:Int)).toNat Cr).2.2.1-1).toNat) g.1 (g.2.2.1.getD (e.2.2.1 % (g.2.2.1.length:Int)).toNat Cr)).2.2 at_)
theorem JN.less {g:AT} {k:Nat} (h:JN g k) (i:Nat):JN (Ec g i) k:=by
 refine ⟨h.views,h.six,h.mem,fun x hx=>?_,?_,h.clen⟩
 ·rcases List.mem_append.1 hx with h1 | h1
  ·exact h.fly x (List.mem_of_mem_take h1)
  ·exact h.fly x (List.mem_of_mem_drop h1)
 ·have:=h.flen
  simp only [Ec,List.length_append,List.length_take,List.length_drop]
  omega
theorem JN.flew {at_:Int} {e:D_} {g:AT} {k:Nat} (hg:JN g k):JN (bd g at_ e).2 (k+1)/\(bd g at_ e).2.1=g.1:=by
 have hc:=hg.clen
 have hf:=hg.flen
 unfold bd
 split
 ·exact ⟨hg.up,rfl⟩
 ·rename_i h0
  have hl:0<g.2.2.1.length:=List.length_pos_iff.2 h0
  have hr0:=Int.emod_nonneg e.2.2.1 (show (g.2.2.1.length:Int)≠0 by omega)
  have hr1:=Int.emod_lt_of_pos e.2.2.1 (show 0<(g.2.2.1.length:Int) by omega)
  generalize hq:e.2.2.1 % (g.2.2.1.length:Int)=q at hr0 hr1
  have hx:=hg.fly (g.2.2.1.getD q.toNat Cr) (by rw [AR (show q.toNat<g.2.2.1.length by omega)]; exact List.getElem_mem _)
  have hto:=hx.to
  obtain ⟨m1,m2⟩:=hg.mem ((g.2.2.1.getD q.toNat Cr).2.2.1-1).toNat (by omega)
  have hh:=N4 (x:=g.2.2.1.getD q.toNat Cr) m1 hg.views
  have hless:=hg.less q.toNat
  split
  ·refine ⟨⟨hg.views,hg.six,hg.mem,fun x hx'=>?_,by simp only [List.length_append,List.length_cons,List.length_nil]; omega,by show g.2.2.2.length<=_; omega⟩,rfl⟩
   rcases List.mem_append.1 hx' with h1 | h1
   ·exact hg.fly x h1
   ·simp only [List.mem_singleton] at h1; subst h1; exact hx
  ·split
   ·exact ⟨hless.up,rfl⟩
   ·exact ⟨hless.member (i:=((g.2.2.1.getD q.toNat Cr).2.2.1-1).toNat) (by omega) hh.mok (by rw [hh.id,m2]) (tF hh.told) hh.tlen,rfl⟩
theorem g_ (at_:Int) (e:D_) (g:AT) (k:Nat) (hg:JN g k) (hk:k<=1000) (hn:0<=e.2.2.1):ST at_ e g=some (bd g at_ e)/\JN (bd g at_ e).2 (k+1)/\(bd g at_ e).2.1=g.1:=by
 have hc:=hg.clen
 have hf:=hg.flen
 have h6:=hg.six
 have hvl:=hg.views.len
 refine ⟨oA ?_,hg.flew⟩
 by_cases h0:g.2.2.1=[]
 ·unfold bd
  rw [if_pos h0]
  unfold SV
  rw [h0,if_pos (by rfl)]
 ·have hl:0<g.2.2.1.length:=List.length_pos_iff.2 h0
  have hm:Int.tmod e.2.2.1 (g.2.2.1.length:Int)=e.2.2.1 % (g.2.2.1.length:Int):=Int.tmod_eq_emod_of_nonneg hn
  have hr0:=Int.emod_nonneg e.2.2.1 (show (g.2.2.1.length:Int)≠0 by omega)
  have hr1:=Int.emod_lt_of_pos e.2.2.1 (show 0<(g.2.2.1.length:Int) by omega)
  generalize hq:e.2.2.1 % (g.2.2.1.length:Int)=q at hm hr0 hr1
  have hx:=hg.fly (g.2.2.1.getD q.toNat Cr) (by rw [AR (show q.toNat<g.2.2.1.length by omega)]; exact List.getElem_mem _)
  have wq:IntKind.i64.wrap (q+1)=q+1:=AZ (by omega)
  have hto:=hx.to
  have wt:IntKind.i64.wrap ((g.2.2.1.getD q.toNat Cr).2.2.1-1)=(g.2.2.1.getD q.toNat Cr).2.2.1-1:=AZ (by omega)
  obtain ⟨m1,m2⟩:=hg.mem ((g.2.2.1.getD q.toNat Cr).2.2.1-1).toNat (by omega)
  have hh:=N4 (x:=g.2.2.1.getD q.toNat Cr) m1 hg.views
  have hless:=hg.less q.toNat
  have hxl:=NG hx.items
  have hz:g.2.2.1.getD q.toNat ((0:Int),(0:Int),(0:Int),(0:Int),(0:Int),([]:List AM))=g.2.2.1.getD q.toNat Cr:=rfl
  have hz2:∀ i,g.2.1.getD i ((0:Int),(0:Int),false,false,false,false,([]:List Int),([]:List AM),(0:Int),(0:Int),(0:Int),(0:Int),(ByteArray.empty,ByteArray.empty,(0:Int)),([]:List Int))=BX g i:=fun i=>rfl
  have e1:(g.2.2.1.take q.toNat).drop (0:Int).toNat=g.2.2.1.take q.toNat:=rfl
  have e2:(g.2.2.1.take (g.2.2.1.length:Int).toNat).drop (q+1).toNat=g.2.2.1.drop (q.toNat+1):=by
   rw [show (g.2.2.1.length:Int).toNat=g.2.2.1.length from by omega,List.take_length,show (q+1).toNat=q.toNat+1 from by omega]
  unfold bd
  rw [if_neg h0,hq]
  ·unfold SV
   rw [if_neg (by simp; exact h0),if_neg (by omega),hm,hz,wq,wt,hz2,e1,e2,if_pos hr0,if_pos hr1]
   simp only [List.nil_append,List.length_nil,Nat.zero_add]
   by_cases h4:e.1=4
   ·rw [if_pos (by simpa using h4),if_pos h4,if_pos (by omega),if_pos (by simp; omega)]
   ·rw [if_neg (by simpa using h4),if_neg h4,if_pos (by omega),if_pos hr0,if_pos (by omega),if_pos (by omega),if_pos (by omega),if_pos (by omega),if_pos (by simp; omega),if_pos (by simp; omega)]
    by_cases h3:e.1=3
    ·rw [if_pos (by simpa using h3),if_pos h3]
     rfl
    ·rw [if_neg (by simpa using h3),if_neg h3,if_pos (by omega),if_pos (by omega),eN _ _ _ m1 hg.views (by omega),X]
     have htl:=hh.tlen
     have:=GR (DO (BX g ((g.2.2.1.getD q.toNat Cr).2.2.1-1).toNat) g.1 (g.2.2.1.getD q.toNat Cr)).1 (DO (BX g ((g.2.2.1.getD q.toNat Cr).2.2.1-1).toNat) g.1 (g.2.2.1.getD q.toNat Cr)).2.1 (DO (BX g ((g.2.2.1.getD q.toNat Cr).2.2.1-1).toNat) g.1 (g.2.2.1.getD q.toNat Cr)).2.2 at_ (Ec g q.toNat) hh.mok.id h6 (by have:=hless.flen; omega) (by have:=hless.clen; omega) hh.said
     unfold Ec at this ⊢
     rw [this]
     rfl
def nH (g:AT) (at_:Int) (e:D_):Int×AT :=
 if e.1=1 then JO g at_ e else if e.1=5 then Y_ g at_ e.2.1
 else if e.1=6 then (0,BF g (T_ (BX g (e.2.1-1).toNat)) [] [] at_) else bd g at_ e
theorem JN.event {at_:Int} {e:D_} {g:AT} {k:Nat} (hg:JN g k) (he:MS e=true):JN (nH g at_ e).2 (k+1)/\(nH g at_ e).2.1=g.1:=by
 have hn:=eP he
 unfold nH
 split
 ·exact hg.began (by omega)
 ·split
  ·exact hg.adopted (by omega) _ _
  ·split
   ·obtain ⟨m1,m2⟩:=hg.mem (e.2.1-1).toNat (by omega)
    exact ⟨hg.member (i:=(e.2.1-1).toNat) (by omega) m1.fall1 m2 (fun y hy=>by cases hy) (by simp),rfl⟩
   ·exact hg.flew
theorem j1 (at_:Int) (e:D_) (g:AT) (k:Nat) (hg:JN g k) (hk:k<=1000) (he:MS e=true):Uj at_ e g=some (nH g at_ e)/\JN (nH g at_ e).2 (k+1)/\(nH g at_ e).2.1=g.1:=by
 have hn:=eP he
 have h6:=hg.six
 have hc:=hg.clen
 have hf:=hg.flen
 refine ⟨qE ?_,hg.event he⟩
 unfold nH
 by_cases h1:e.1=1
 ·have a:=(ba at_ e g k hg hk (by omega)).1
  rw [if_pos h1]
  unfold Lu
  rw [if_pos (by simpa using h1),a]
  rfl
 ·rw [if_neg h1]
  by_cases h5:e.1=5
  ·have a:=(bc at_ e.2.1 g k hg hk (by omega)).1
   rw [if_pos h5]
   unfold Lu
   rw [if_neg (by simpa using h1),if_pos (by simpa using h5),a]
   rfl
  ·rw [if_neg h5]
   by_cases h7:e.1=6
   ·obtain ⟨m1,m2⟩:=hg.mem (e.2.1-1).toNat (by omega)
    rw [if_pos h7]
    have wn:IntKind.i64.wrap (e.2.1-1)=e.2.1-1:=AZ (by omega)
    unfold Lu
    rw [if_neg (by simpa using h1),if_neg (by simpa using h5),if_pos (by simpa using h7),wn,if_pos (by omega),if_pos (by omega),
     sV g (e.2.1-1).toNat,
     oG,X,GR _ _ _ _ _ m1.fall1.id h6 (by simp; omega) (by omega) FQ]
    rfl
   ·have a:=(g_ at_ e g k hg hk (by omega)).1
    rw [if_neg h7]
    unfold Lu
    rw [if_neg (by simpa using h1),if_neg (by simpa using h5),if_neg (by simpa using h7),a]
    rfl

theorem U5 (x:List (List Int)) (h:x.length<=1000) (ho:∀ a∈x,a.length<=1000):JB x=some x:=Zn (by
 unfold O6
 have key:=GJ (n:=x.length) (P:=fun i=>Em x (i:Int) (x.take i)=some x) (L9 (by
  unfold HD
  rw [if_neg (by simp),List.take_length])) (fun i hi ih=>L9 (by
  unfold HD
  have:=ho x[i] (List.getElem_mem hi)
  simp only [show ((i:Int)<(x.length:Int)) from by omega,decide_true,if_true,show (0:Int)<=(i:Int) from by omega,Int.toNat_natCast,AR hi,AO (show i<9223372036854775807 by omega),List.nil_append,List.length_nil,Nat.zero_add,List.length_cons,List.length_take]
  rw [if_pos (by omega),if_pos (by omega),List.take_append_getElem]
  exact ih)) 0 (by omega)
 exact key)
def Av (views:List (List Int)):AT:=(views,[D9 1 views,D9 2 views,D9 3 views,D9 4 views,D9 5 views,D9 6 views],[],[])
theorem UA {views:List (List Int)} (hv:Qg views):JN (Av views) 0:=by
 refine ⟨hv,rfl,fun i hi=>?_,fun x hx=>(by cases hx),(by simp [Av]),(by simp [Av])⟩
 have h5:i=0\/i=1\/i=2\/i=3\/i=4\/i=5:=by omega
 rcases h5 with rfl | rfl | rfl | rfl | rfl | rfl<;>exact ⟨I2.first1 (by omega) hv,rfl⟩
theorem SJ {views:List (List Int)} (hv:Qg views):OD views=some (Av views,true):=jK (by
 have hvl:=hv.len
 unfold Wf
 rw [GB hv,X,if_neg (by simp),U5 views (by omega) (fun a ha=>by have:=hv.view ha; omega),X]
 have step:∀ (i:Nat) (a:_) (b:_) (c:_) (d:_) (l:List AA) r,1<=i->i<=6->l.length<=6->FJ views ((i+1:Nat):Int) a b c d (l++[D9 (i:Int) views]) views=some r->FJ views (i:Int) a b c d l views=some r:=by
  intro i a b c d l r h1 h6 hl hr
  refine QR ?_
  unfold KF
  rw [if_pos (by simp; omega),Zy _ _ (by omega) hv,X,if_pos (by simp; omega),AO (show i<9223372036854775807 by omega)]
  exact hr
 refine step 1 _ _ _ _ _ _ (by omega) (by omega) (by simp) ?_
 refine step 2 _ _ _ _ _ _ (by omega) (by omega) (by simp) ?_
 refine step 3 _ _ _ _ _ _ (by omega) (by omega) (by simp) ?_
 refine step 4 _ _ _ _ _ _ (by omega) (by omega) (by simp) ?_
 refine step 5 _ _ _ _ _ _ (by omega) (by omega) (by simp) ?_
 refine step 6 _ _ _ _ _ _ (by omega) (by omega) (by simp) ?_
 refine QR ?_
 unfold KF
 rw [if_neg (by decide)]
 rfl)
def Sc:Nat->List D_->AT->List Int->AT×List Int
 | _,[],g,cs=>(g,cs)
 | n,e::es,g,cs=>Sc (n+1) es (nH g (n:Int) e).2 (cs++[(nH g (n:Int) e).1])
theorem qS:∀ (es:List D_) (n:Nat) (g:AT) (cs:List Int),JN g n->n+es.length<=70->(∀ e∈es,MS e=true)->JN (Sc n es g cs).1 (n+es.length)/\(Sc n es g cs).1.1=g.1/\(Sc n es g cs).2.length=cs.length+es.length
 | [],n,g,cs,hg,_,_=>⟨hg,rfl,rfl⟩
 | e::es,n,g,cs,hg,hn,he=>by
  simp only [List.length_cons] at hn
  obtain ⟨h2,h3⟩:=hg.event (at_:=(n:Int)) (he e (by simp))
  obtain ⟨h4,h5,h6⟩:=qS es (n+1) _ (cs++[(nH g (n:Int) e).1]) h2 (by omega) (fun x hx=>he x (by simp [hx]))
  refine ⟨?_,h5.trans h3,?_⟩
  ·have:n+(e::es).length=n+1+es.length:=by simp only [List.length_cons]; omega
   rw [this]
   exact h4
  ·simp only [Sc,h6,List.length_append,List.length_cons,List.length_nil]
   omega
theorem be (d:N1) (h:XE d):∃ v d',OE d=some (v,d')/\XE d'/\Qg v:=by
 have inner:∀ (m j:Nat),j+m=3->∀ (i:Int) (d:N1) (vs:List (List Int)) (v:List Int),XE d->0<=i->vs.length<=10->v.length<=j->(j=0\/1<=v.length)->(∀ a∈v,1<=a/\a<=6)->v.Nodup ->
   ∃ v' d',uP v'/\XE d'/\∀ r,FM (IntKind.i64.wrap (i+1)) d' (vs++[v'])=some r->FK i (j:Int) d vs v=some r:=by
  intro m
  induction m with
  | zero =>
   intro j hj i d vs v hd hi hvs hv h1 hm hnd
   obtain ⟨y,d1,e1,k1,y0,y1⟩:=Bj 3 d hd
   have y1:=y1 (by omega)
   refine ⟨v,d1,⟨by omega,hm,hnd⟩,k1,fun r hr=>HC ?_⟩
   unfold FN
   have wy:IntKind.i64.wrap (1+y)=1+y:=AZ (by omega)
   rw [e1,X,wy,if_neg (by simp; omega),if_pos (by simp; omega)]
   exact hr
  | succ m ih =>
   intro j hj i d vs v hd hi hvs hv h1 hm hnd
   obtain ⟨y,d1,e1,k1,y0,y1⟩:=Bj 3 d hd
   have y1:=y1 (by omega)
   have wy:IntKind.i64.wrap (1+y)=1+y:=AZ (by omega)
   by_cases hlt:(j:Int)<1+y
   ·obtain ⟨z,d2,e2,k2,z0,z1⟩:=Bj 4 d1 k1
    have z1:=z1 (by omega)
    have wz:IntKind.i64.wrap (1+z)=1+z:=AZ (by omega)
    by_cases hc:v.contains (1+z)=true
    ·obtain ⟨v',d',w1,w2,w3⟩:=ih (j+1) (by omega) i d2 vs v k2 hi hvs (by omega) (.inr (by
      cases v with
      | nil=>simp at hc
      | cons a v=>simp)) hm hnd
     refine ⟨v',d',w1,w2,fun r hr=>HC ?_⟩
     unfold FN
     rw [e1,X,wy,if_pos (by simpa using hlt),e2,X,wz,Cv v _ (by unfold maxLen; omega),X,hc,if_neg (by simp),AO (show j<9223372036854775807 by omega)]
     exact w3 r hr
    ·have hc':v.contains (1+z)=false:=by simpa using hc
     obtain ⟨v',d',w1,w2,w3⟩:=ih (j+1) (by omega) i d2 vs (v++[1+z]) k2 hi hvs (by simp; omega) (.inr (by simp)) (fun a ha=>by
      rcases List.mem_append.1 ha with h | h
      ·exact hm a h
      ·simp only [List.mem_singleton] at h; omega) (by
      rw [List.nodup_append]
      refine ⟨hnd,by simp,fun a ha b hb e=>?_⟩
      simp only [List.mem_singleton] at hb
      subst hb
      subst e
      rw [List.contains_iff_mem.2 ha] at hc'
      cases hc')
     refine ⟨v',d',w1,w2,fun r hr=>HC ?_⟩
     unfold FN
     rw [e1,X,wy,if_pos (by simpa using hlt),e2,X,wz,Cv v _ (by unfold maxLen; omega),X,hc',if_pos (by rfl),if_pos (by simp; omega),AO (show j<9223372036854775807 by omega)]
     exact w3 r hr
   ·refine ⟨v,d1,⟨by omega,hm,hnd⟩,k1,fun r hr=>HC ?_⟩
    unfold FN
    rw [e1,X,wy,if_neg (by simpa using hlt),if_pos (by simp; omega)]
    exact hr
 have outer:∀ (m i:Nat),i+m=5->∀ (d:N1) (vs:List (List Int)),XE d->vs.length=i->(∀ v∈vs,uP v)->∃ v' d',FM (i:Int) d vs=some (v',d')/\XE d'/\Qg v':=by
  have fin:∀ (vs:List (List Int)),1<=vs.length->vs.length<=5->(∀ v∈vs,uP v)->Qg vs:=fun vs h1 h2 h3=>⟨Jc.2 ⟨fun v hv=>tD.2 (h3 v hv),h1,by omega⟩⟩
  intro m
  induction m with
  | zero =>
   intro i hi d vs hd hl hv
   obtain ⟨y,d1,e1,k1,y0,y1⟩:=Bj 5 d hd
   have y1:=y1 (by omega)
   have wy:IntKind.i64.wrap (1+y)=1+y:=AZ (by omega)
   refine ⟨vs,d1,KG ?_,k1,fin vs (by omega) (by omega) hv⟩
   unfold HB
   rw [e1,X,wy,if_neg (by simp; omega)]
  | succ m ih =>
   intro i hi d vs hd hl hv
   obtain ⟨y,d1,e1,k1,y0,y1⟩:=Bj 5 d hd
   have y1:=y1 (by omega)
   have wy:IntKind.i64.wrap (1+y)=1+y:=AZ (by omega)
   by_cases hlt:(i:Int)<1+y
   ·obtain ⟨v',d2,w1,k2,w3⟩:=inner 3 0 (by omega) (i:Int) d1 vs [] k1 (by omega) (by omega) (by simp) (.inl rfl) (by simp) (by simp)
    obtain ⟨r1,d3,q1,q2,q3⟩:=ih (i+1) (by omega) d2 (vs++[v']) k2 (by simp; omega) (fun v hv'=>by
     rcases List.mem_append.1 hv' with h | h
     ·exact hv v h
     ·simp only [List.mem_singleton] at h; subst h; exact w1)
    refine ⟨r1,d3,KG ?_,q2,q3⟩
    unfold HB
    rw [e1,X,wy,if_pos (by simpa using hlt)]
    exact w3 _ (by rw [AO (show i<9223372036854775807 by omega)]; exact q1)
   ·have hi1:1<=i:=by omega
    refine ⟨vs,d1,KG ?_,k1,fin vs (by omega) (by omega) hv⟩
    unfold HB
    rw [e1,X,wy,if_neg (by simpa using hlt)]
 obtain ⟨v,d',e,k,hv⟩:=outer 5 0 (by omega) d [] h rfl (fun v hv=>by cases hv)
 exact ⟨v,d',jN (by unfold Wh; exact e),k,hv⟩

theorem eQ (d:N1) (g:AT) (k:Nat) (h:XE d) (hg:JN g k):∃ e d',P7 d g=some (e,d',g)/\XE d'/\MS e=true:=by
 have hvl:=hg.views.len
 have h6:=hg.six
 have ev:∀ (kd nd at_:Int),2<=kd/\kd<=6->1<=nd/\nd<=6->0<=at_->MS (kd,nd,at_,0,ByteArray.empty,ByteArray.empty)=true:=by
  intro kd nd at_ h1 h2 h3
  unfold MS
  simp only [show decide (1<=kd)=true from decide_eq_true (by omega),show decide (kd<=6)=true from decide_eq_true (by omega),show decide (1<=nd)=true from decide_eq_true (by omega),show decide (nd<=6)=true from decide_eq_true (by omega),show decide (0<=at_)=true from decide_eq_true h3,if_neg (show ¬ kd=1 by omega)]
  simp [rm]
 have ev1:∀ (nd at_ op:Int) (key val:ByteArray),1<=nd/\nd<=6->0<=at_->m9 op key val=true->MS (1,nd,at_,op,key,val)=true:=by
  intro nd at_ op key val h2 h3 h4
  unfold MS
  simp only [show decide (1<=nd)=true from decide_eq_true (by omega),show decide (nd<=6)=true from decide_eq_true (by omega),show decide (0<=at_)=true from decide_eq_true h3,if_true,h4]
  rfl
 have L3:∀ (m i:Nat),i+m=6->∀ (d:N1) (nd at_ op:Int) (key val:ByteArray) (a b c:_),XE d->1<=nd/\nd<=6->∃ nd' d',DK (i:Int) d g a (1,nd,at_,op,key,val) b c=some ((1,nd',at_,op,key,val),d',g)/\XE d'/\1<=nd'/\nd'<=6:=by
  intro m
  induction m with
  | zero =>
   intro i hi d nd at_ op key val a b c hd hn
   refine ⟨nd,d,Hv ?_,hd,hn⟩
   unfold F4
   rw [if_neg (by simp; omega)]
  | succ m ih =>
   intro i hi d nd at_ op key val a b c hd hn
   have ws:=AO (show i<9223372036854775807 by omega)
   by_cases hs:(BX g i).2.2.2.2.2.1=true
   ·obtain ⟨o,d1,e1,k1⟩:=IC 4 d hd
    cases o
    ·obtain ⟨nd',d',e2,k2,n2⟩:=ih (i+1) (by omega) d1 ((i+1:Nat):Int) at_ op key val a b c k1 (by omega)
     refine ⟨nd',d',Hv ?_,k2,n2⟩
     unfold F4
     rw [if_pos (by simp; omega),if_pos (by omega),if_pos (by omega),Int.toNat_natCast,sV g i,if_pos hs,e1,X,if_pos (by rfl),ws]
     exact e2
    ·obtain ⟨nd',d',e2,k2,n2⟩:=ih (i+1) (by omega) d1 nd at_ op key val a b c k1 hn
     refine ⟨nd',d',Hv ?_,k2,n2⟩
     unfold F4
     rw [if_pos (by simp; omega),if_pos (by omega),if_pos (by omega),Int.toNat_natCast,sV g i,if_pos hs,e1,X,if_neg (by simp),ws]
     exact e2
   ·obtain ⟨nd',d',e2,k2,n2⟩:=ih (i+1) (by omega) d nd at_ op key val a b c hd hn
    refine ⟨nd',d',Hv ?_,k2,n2⟩
    unfold F4
    rw [if_pos (by simp; omega),if_pos (by omega),if_pos (by omega),Int.toNat_natCast,sV g i,if_neg hs,ws]
    exact e2
 have L4:∀ (m i:Nat),i+m=6->∀ (d:N1) (kd nd at_:Int) (a:_),XE d->1<=nd/\nd<=6->∃ nd' d',DL (i:Int) d g a (kd,nd,at_,0,ByteArray.empty,ByteArray.empty)=some ((kd,nd',at_,0,ByteArray.empty,ByteArray.empty),d',g)/\XE d'/\1<=nd'/\nd'<=6:=by
  intro m
  induction m with
  | zero =>
   intro i hi d kd nd at_ a hd hn
   refine ⟨nd,d,F6 ?_,hd,hn⟩
   unfold EF
   rw [if_neg (by simp; omega)]
  | succ m ih =>
   intro i hi d kd nd at_ a hd hn
   have ws:=AO (show i<9223372036854775807 by omega)
   obtain ⟨m1,m2⟩:=hg.mem i (by omega)
   have hep:=m1.ep
   have hz:∀ j,g.2.1.getD j ((0:Int),(0:Int),false,false,false,false,([]:List Int),([]:List AM),(0:Int),(0:Int),(0:Int),(0:Int),(ByteArray.empty,ByteArray.empty,(0:Int)),([]:List Int))=BX g j:=fun j=>rfl
   obtain ⟨nd0,d0,e0,k0,n0⟩:=ih (i+1) (by omega) d kd nd at_ a hd hn
   by_cases h1:(BX g i).2.1<(g.1.length:Int)
   ·have gv:=hg.views.get (i:=(BX g i).2.1.toNat) (by omega)
    by_cases h2:((g.1.getD (BX g i).2.1.toNat ([]:List Int)).getD (0:Int).toNat 0==(BX g i).1)=true
    ·obtain ⟨o,d1,e1,k1⟩:=IC 3 d hd
     cases o
     ·obtain ⟨nd',d',e2,k2,n2⟩:=ih (i+1) (by omega) d1 kd (BX g i).1 at_ a k1 (by omega)
      refine ⟨nd',d',F6 ?_,k2,n2⟩
      unfold EF
      rw [if_pos (by simp; omega),if_pos (by omega),if_pos (by omega),Int.toNat_natCast,hz,if_pos (by simpa using h1),if_pos (by omega),if_pos (by omega),if_pos (by omega),if_pos (by omega),if_pos h2,e1,X,if_pos (by rfl),ws]
      exact e2
     ·obtain ⟨nd',d',e2,k2,n2⟩:=ih (i+1) (by omega) d1 kd nd at_ a k1 hn
      refine ⟨nd',d',F6 ?_,k2,n2⟩
      unfold EF
      rw [if_pos (by simp; omega),if_pos (by omega),if_pos (by omega),Int.toNat_natCast,hz,if_pos (by simpa using h1),if_pos (by omega),if_pos (by omega),if_pos (by omega),if_pos (by omega),if_pos h2,e1,X,if_neg (by simp),ws]
      exact e2
    ·refine ⟨nd0,d0,F6 ?_,k0,n0⟩
     unfold EF
     rw [if_pos (by simp; omega),if_pos (by omega),if_pos (by omega),Int.toNat_natCast,hz,if_pos (by simpa using h1),if_pos (by omega),if_pos (by omega),if_pos (by omega),if_pos (by omega),if_neg h2,ws]
     exact e0
   ·refine ⟨nd0,d0,F6 ?_,k0,n0⟩
    unfold EF
    rw [if_pos (by simp; omega),if_pos (by omega),if_pos (by omega),Int.toNat_natCast,hz,if_neg (by simpa using h1),ws]
    exact e0
 have keyOk:∀ key∈([(⟨#[97]⟩:ByteArray),(⟨#[98]⟩:ByteArray),(⟨#[99]⟩:ByteArray)]:List ByteArray),key.size=1:=by
  intro key hk
  simp only [List.mem_cons,List.mem_nil_iff,or_false] at hk
  rcases hk with rfl | rfl | rfl<;>rfl
 have valOk:∀ v∈([(⟨#[118]⟩:ByteArray),(⟨#[119]⟩:ByteArray),(⟨#[120]⟩:ByteArray),(⟨#[121]⟩:ByteArray)]:List ByteArray),v.size=1:=by
  intro v hk
  simp only [List.mem_cons,List.mem_nil_iff,or_false] at hk
  rcases hk with rfl | rfl | rfl | rfl<;>rfl
 have J2:∀ (d:N1) (a:_) (kd nd at_:Int),XE d->1<=kd/\kd<=6->1<=nd/\nd<=6->0<=at_->∃ e d',F3 d g a (kd,nd,at_,0,ByteArray.empty,ByteArray.empty)=some (e,d',g)/\XE d'/\MS e=true:=by
  intro d a kd nd at_ hd hk hn ha
  by_cases h1:kd=1
  ·subst h1
   obtain ⟨op,d1,e1,k1,mem1⟩:=N2 [1,1,2] (by simp) d hd
   obtain ⟨key,d2,e2,k2,mem2⟩:=SH [(⟨#[97]⟩:ByteArray),(⟨#[98]⟩:ByteArray),(⟨#[99]⟩:ByteArray)] (by simp) d1 k1
   have hkey:=keyOk key mem2
   by_cases ho:op=1
   ·obtain ⟨val,d3,e3,k3,mem3⟩:=SH [(⟨#[118]⟩:ByteArray),(⟨#[119]⟩:ByteArray),(⟨#[120]⟩:ByteArray),(⟨#[121]⟩:ByteArray)] (by simp) d2 k2
    have hval:=valOk val mem3
    obtain ⟨nd',d',e4,k4,n4⟩:=L3 6 0 (by omega) d3 nd at_ op key val a _ _ k3 hn
    refine ⟨_,d',Hw ?_,k4,ev1 nd' at_ op key val n4 ha (by unfold m9; simp [ho,hkey,hval])⟩
    unfold F5
    rw [if_pos (by simp),e1,X,e2,X,if_pos (by simpa using ho),e3,X]
    exact e4
   ·have ho2:op=2:=by simp at mem1; omega
    obtain ⟨nd',d',e4,k4,n4⟩:=L3 6 0 (by omega) d2 nd at_ op key ByteArray.empty a _ _ k2 hn
    refine ⟨_,d',Hw ?_,k4,ev1 nd' at_ op key ByteArray.empty n4 ha (by unfold m9; simp [ho2,hkey,rm])⟩
    unfold F5
    rw [if_pos (by simp),e1,X,e2,X,if_neg (by simpa using ho)]
    exact e4
  ·by_cases h5:kd=5
   ·obtain ⟨nd',d',e4,k4,n4⟩:=L4 6 0 (by omega) d kd nd at_ a hd hn
    refine ⟨_,d',Hw ?_,k4,ev kd nd' at_ (by omega) n4 ha⟩
    unfold F5
    rw [if_neg (by simpa using h1),if_pos (by simpa using h5)]
    exact e4
   ·refine ⟨_,d,Hw ?_,hd,ev kd nd at_ (by omega) hn ha⟩
    unfold F5
    rw [if_neg (by simpa using h1),if_neg (by simpa using h5)]
 have J1:∀ (d:N1) (a:_) (kd nd at_:Int),XE d->1<=kd/\kd<=6->1<=nd/\nd<=6->0<=at_->∃ e d',Ay d g a (kd,nd,at_,0,ByteArray.empty,ByteArray.empty)=some (e,d',g)/\XE d'/\MS e=true:=by
  intro d a kd nd at_ hd hk hn ha
  by_cases h2:kd=2
  ·obtain ⟨o,d1,e1,k1⟩:=IC 2 d hd
   cases o
   ·obtain ⟨e,d',e2,k2,v2⟩:=J2 d1 a kd nd at_ k1 hk hn ha
    refine ⟨e,d',Ly ?_,k2,v2⟩
    unfold Ht
    rw [if_pos (by simpa using h2),e1,X,if_neg (by simp)]
    exact e2
   ·obtain ⟨e,d',e2,k2,v2⟩:=J2 d1 a kd nd 0 k1 hk hn (by omega)
    refine ⟨e,d',Ly ?_,k2,v2⟩
    unfold Ht
    rw [if_pos (by simpa using h2),e1,X,if_pos (by rfl)]
    exact e2
  ·obtain ⟨e,d',e2,k2,v2⟩:=J2 d a kd nd at_ hd hk hn ha
   refine ⟨e,d',Ly ?_,k2,v2⟩
   unfold Ht
   rw [if_neg (by simpa using h2)]
   exact e2
 have six:∀ (d:N1) (a:_) (kd nd at_:Int),XE d->1<=kd/\kd<=6->1<=nd/\nd<=6->0<=at_->∃ e d',(if (kd==6)=true then ((DH 4 d).bind fun y5=>(if (!y5.1)=true then (Ay y5.2 g a (1,nd,at_,0,ByteArray.empty,ByteArray.empty)) else (Ay y5.2 g a (kd,nd,at_,0,ByteArray.empty,ByteArray.empty)))) else (Ay d g a (kd,nd,at_,0,ByteArray.empty,ByteArray.empty)))=some (e,d',g)/\XE d'/\MS e=true:=by
  intro d a kd nd at_ hd hk hn ha
  by_cases h2:kd=6
  ·obtain ⟨o,d1,e1,k1⟩:=IC 4 d hd
   cases o
   ·obtain ⟨e,d',e2,k2,v2⟩:=J1 d1 a 1 nd at_ k1 (by omega) hn ha
    refine ⟨e,d',?_,k2,v2⟩
    rw [if_pos (by simpa using h2),e1,X,if_pos (by rfl)]
    exact e2
   ·obtain ⟨e,d',e2,k2,v2⟩:=J1 d1 a kd nd at_ k1 hk hn ha
    refine ⟨e,d',?_,k2,v2⟩
    rw [if_pos (by simpa using h2),e1,X,if_neg (by simp)]
    exact e2
  ·obtain ⟨e,d',e2,k2,v2⟩:=J1 d a kd nd at_ hd hk hn ha
   refine ⟨e,d',?_,k2,v2⟩
   rw [if_neg (by simpa using h2)]
   exact e2
 obtain ⟨kd,d1,e1,k1,mem1⟩:=N2 [1,1,1,2,2,2,2,2,2,2,2,3,4,5,6] (by simp) d h
 obtain ⟨nd,d2,e2,k2,n0,n1⟩:=Bj 4 d1 k1
 obtain ⟨at_,d3,e3,k3,a0,a1⟩:=Bj 20 d2 k2
 have n1:=n1 (by omega)
 have wn:IntKind.i64.wrap (1+nd)=1+nd:=AZ (by omega)
 have hkd:1<=kd/\kd<=6:=by
  simp only [List.mem_cons,List.mem_nil_iff,or_false] at mem1
  omega
 have fin:∃ e d',Lx d3 g ((0:Int),(0:Int),(0:Int),(0:Int),ByteArray.empty,ByteArray.empty) (kd,1+nd,at_,0,ByteArray.empty,ByteArray.empty)=some (e,d',g)/\XE d'/\MS e=true:=by
  by_cases hf:((g.2.2.1.length:Int)==0)=true
  ·cases hin:(decide (2<=kd)&&decide (kd<=4)) with
   | true =>
    obtain ⟨e,d',e4,k4,v4⟩:=J1 d3 ((0:Int),(0:Int),(0:Int),(0:Int),ByteArray.empty,ByteArray.empty) 1 (1+nd) at_ k3 (by omega) (by omega) a0
    refine ⟨e,d',Lz ?_,k4,v4⟩
    unfold Hu
    rw [if_pos hf,BK,X,if_pos hin,if_neg (show ¬ ((1:Int)==6)=true by decide)]
    exact e4
   | false =>
    obtain ⟨e,d',e4,k4,v4⟩:=six d3 ((0:Int),(0:Int),(0:Int),(0:Int),ByteArray.empty,ByteArray.empty) kd (1+nd) at_ k3 hkd (by omega) a0
    refine ⟨e,d',Lz ?_,k4,v4⟩
    unfold Hu
    rw [if_pos hf,BK,X,if_neg (by rw [hin]; simp)]
    exact e4
  ·obtain ⟨e,d',e4,k4,v4⟩:=six d3 ((0:Int),(0:Int),(0:Int),(0:Int),ByteArray.empty,ByteArray.empty) kd (1+nd) at_ k3 hkd (by omega) a0
   refine ⟨e,d',Lz ?_,k4,v4⟩
   unfold Hu
   rw [if_neg hf]
   exact e4
 obtain ⟨e,d',e4,k4,v4⟩:=fin
 refine ⟨e,d',ma ?_,k4,v4⟩
 unfold Yc
 rw [e1,X,e2,X,e3,X,wn]
 exact e4

theorem eR (x:List Int) (d:N1) (hx:x.length<=1048576) (h:XE d):∃ v es d',P5 x d=some ((v,es),d')/\XE d'/\Qg v/\es.length<=69/\∀ e∈es,MS e=true:=by
 obtain ⟨v,d1,e1,k1,hv⟩:=be d h
 have L:∀ (n:Nat),n<=69->∀ a b,∃ es d',EC (n:Int) ((0:Nat):Int) d1 a b [] v (Av v)=some ((v,es),d')/\XE d'/\es.length<=69/\∀ e∈es,MS e=true:=by
  intro n hn a b
  refine GJ (n:=n) (P:=fun i=>∀ (d:N1) (es:List D_) (g:AT),XE d->JN g i->es.length=i->(∀ e∈es,MS e=true)->∃ es' d',EC (n:Int) (i:Int) d a b es v g=some ((v,es'),d')/\XE d'/\es'.length<=69/\∀ e∈es',MS e=true) (fun d es g hd hg hl he=>?_) (fun i hi ih d es g hd hg hl he=>?_) 0 (by omega) d1 [] (Av v) k1 (UA hv) rfl (fun e he=>by cases he)
  ·refine ⟨es,d,Rl ?_,hd,by omega,he⟩
   unfold Ls
   rw [if_neg (by simp)]
  ·obtain ⟨e,d2,e2,k2,ke⟩:=eQ d g i hd hg
   obtain ⟨q1,q2,q3⟩:=j1 (i:Int) e g i hg (by omega) ke
   obtain ⟨es',d3,e3,k3⟩:=ih d2 (es++[e]) (nH g (i:Int) e).2 k2 q2 (by simp; omega) (fun y hy=>by
    rcases List.mem_append.1 hy with hy | hy
    ·exact he y hy
    ·rw [List.mem_singleton.1 hy]; exact ke)
   refine ⟨es',d3,Rl ?_,k3⟩
   unfold Ls
   rw [if_pos (by simpa using hi),e2,X]
   dsimp only
   rw [q1,X,if_pos (by simp; omega),AO (by omega)]
   exact e3
 have wq:IntKind.i64.wrap (Int.tdiv (x.length:Int) 4)=((x.length / 4:Nat):Int):=by
  rw [Int.tdiv_eq_ediv_of_nonneg (by omega),AZ (by omega)]
  omega
 have wn:IntKind.i64.wrap (20+((x.length / 4:Nat):Int))=((20+x.length / 4:Nat):Int):=by rw [AZ (by omega)]; omega
 by_cases hn:20+x.length / 4<=69
 ·obtain ⟨es,d',e,k,k2⟩:=L (20+x.length / 4) hn [] []
  refine ⟨v,es,d',YT ?_,k,hv,k2⟩
  unfold QO
  rw [e1,X,SJ hv,X,if_neg (by omega),wq,wn,if_neg (by simp; omega)]
  exact e
 ·obtain ⟨es,d',e,k,k2⟩:=L 69 (by omega) [] []
  refine ⟨v,es,d',YT ?_,k,hv,k2⟩
  unfold QO
  rw [e1,X,SJ hv,X,if_neg (by omega),wq,wn,if_pos (by simp; omega)]
  exact e

def SK (views:List (List Int)) (e:Int):Int:=(views.getD (e-1).toNat []).getD 0 0
def MN (l:List AM) (b:Int):Prop:=∀ y∈l,y.2.2<=b
theorem MN.mono {l:List AM} {a b:Int} (h:MN l a) (hab:a<=b):MN l b:=fun y hy=>Int.le_trans (h y hy) hab
theorem hJ {b:Int}:MN [] b:=fun y hy=>by cases hy
theorem ZA {x:List AM} {a b:AM} (h:b∈Aj x a):b=a\/b∈x:=by
 unfold Aj at h
 split at h
 ·exact .inr h
 ·split at h
  ·split at h
   ·exact rV h
   ·exact .inr h
  ·exact .inr h
theorem MN.put {l:List AM} {a:AM} {b:Int} (h:MN l b) (ha:a.2.2<=b):MN (Aj l a) b:=fun y hy=>by
 rcases ZA hy with e | e
 ·rw [e]; exact ha
 ·exact h y e
structure V1 (views:List (List Int)) (m:AA):Prop where
 lead:m.2.2.2.2.1=true->m.2.1<=(views.length:Int)/\SK views m.2.1=m.1
 ver:MN m.2.2.2.2.2.2.2.1 (1000*m.2.1+900)
 own:m.2.2.2.2.1=true->m.2.2.2.1=true->MN m.2.2.2.2.2.2.2.1 (1000*m.2.1+m.2.2.2.2.2.2.2.2.1)
 task:m.2.2.2.2.2.2.2.2.2.1≠0->m.2.2.2.2.2.2.2.2.2.2.2.2.1.2.2<=1000*m.2.1+m.2.2.2.2.2.2.2.2.1
 view:m.2.2.2.1=true->m.2.1<=(views.length:Int)/\(views.getD (m.2.1-1).toNat []).contains m.1=true
structure V2 (views:List (List Int)) (x:BN):Prop where
 inst:x.1=3->x.2.2.2.2.1=0
 old:x.1=2\/x.1=3->MN x.2.2.2.2.2 (1000*x.2.2.2.1)
 store:x.1=5->x.2.2.1≠SK views x.2.2.2.1/\MN x.2.2.2.2.2 (1000*x.2.2.2.1+900)
theorem V2.plain {views:List (List Int)} {x:BN} (h2:x.1≠2) (h3:x.1≠3) (h5:x.1≠5):V2 views x:=⟨fun h=>absurd h h3,fun h=>by omega,fun h=>absurd h h5⟩
theorem V1.finish {views:List (List Int)} {m:AA} (h:V1 views m) (hc:m.2.2.2.2.2.2.2.2.1<=900) (h0:m.2.2.2.2.2.2.2.2.2.1≠0):V1 views (Bs m).2:=by
 have ht:=h.task h0
 unfold Bs
 split
 ·exact ⟨h.lead,h.ver.put (by omega),fun h1 h2=>(h.own h1 h2).put ht,fun h0=>absurd rfl h0,h.view⟩
 ·exact ⟨h.lead,h.ver,h.own,fun h0=>absurd rfl h0,h.view⟩
theorem V1.bare {views:List (List Int)} {m:AA} (h:V1 views m) {e:Int} (he:m.2.1<=e):V1 views (T7 m e) :=
 ⟨fun h=>(by cases h),h.ver.mono (by show _<=1000*e+900; omega),fun h=>(by cases h),fun h=>absurd rfl h,fun h=>(by cases h)⟩
theorem V1.inst {views:List (List Int)} {i e:Int} {its:List AM} (h:MN its (1000*e)) (hv:e<=(views.length:Int)/\(views.getD (e-1).toNat []).contains i=true):V1 views (i,e,false,true,false,false,([]:List Int),its,(0:Int),(0:Int),(0:Int),(0:Int),(ByteArray.empty,ByteArray.empty,(0:Int)),([]:List Int)) :=
 ⟨fun h=>(by cases h),h.mono (by show _<=1000*e+900; omega),fun h=>(by cases h),fun h=>absurd rfl h,fun _=>hv⟩
theorem nI {views:List (List Int)} {i e:Int} (hv:Qg views) (h1:1<=e) (he:e<=(views.length:Int)) (hf:SK views e=i):(views.getD (e-1).toNat []).contains i=true:=by
 have g:=hv.get (i:=(e-1).toNat) (by omega)
 rw [<- hf,List.contains_iff_mem,SK,AR (show 0<(views.getD (e-1).toNat []).length by omega)]
 exact List.getElem_mem _
theorem V1.has {views:List (List Int)} {m:AA} {view:List Int} {its:List AM} (hv:Qg views) (h1:1<=m.2.1) (hl:m.2.2.2.2.1=true) (h:V1 views m) (hc:0<=m.2.2.2.2.2.2.2.2.1) (hi:MN its (1000*m.2.1)):V1 views (Qm m view its) :=
 ⟨h.lead,hi.mono (by show _<=1000*m.2.1+900; omega),fun _ _=>hi.mono (by show _<=1000*m.2.1+m.2.2.2.2.2.2.2.2.1; omega),h.task,fun _=>⟨(h.lead hl).1,nI hv h1 (h.lead hl).1 (h.lead hl).2⟩⟩
theorem V2.insts {views:List (List Int)} {i e:Int} {l:List Int} {its:List AM} (h:MN its (1000*e)):∀ y∈l.map (fun v=>((3:Int),i,v,e,(0:Int),its)),V2 views y:=by
 intro y hy
 obtain ⟨v,_,rfl⟩:=List.mem_map.1 hy
 exact ⟨fun _=>rfl,fun _=>h,fun h5=>absurd h5 (by decide:(3:Int)≠5)⟩
theorem V2.reply {views:List (List Int)} {m:AA} {x:BN} {k:Int} (hk:k=4\/k=6\/k=8):∀ y∈ER m x k,V2 views y:=by
 intro y hy
 simp only [ER,List.mem_singleton] at hy
 subst hy
 exact V2.plain (by show k≠2; omega) (by show k≠3; omega) (by show k≠5; omega)
theorem tG {views:List (List Int)}:∀ y∈([]:List BN),V2 views y:=fun y hy=>by cases hy
def V4 (views:List (List Int)) (n:AA) (told:List BN):Prop:=V1 views n/\∀ y∈told,V2 views y
theorem V4.same {views:List (List Int)} {m:AA} (h:V1 views m):V4 views m []:=⟨h,tG⟩
theorem vV {views:List (List Int)} {m:AA} (h:V1 views m) (hc:m.2.2.2.2.2.2.2.2.1<=900) (h0:m.2.2.2.2.2.2.2.2.2.1≠0) (f:Int):V4 views (GA m f).1 (GA m f).2.1:=by
 have hl:V1 views (om m f):=⟨h.lead,h.ver,h.own,h.task,h.view⟩
 unfold GA
 split
 ·exact ⟨hl.finish hc h0,tG⟩
 ·exact .same hl
theorem yi {views:List (List Int)} {m:AA} {x:BN} (hv:Qg views) (hlen:m.2.1<=(views.length:Int)) (hm:I2 m) (h:V1 views m) (hx:V2 views x) (hxo:uK x) (ht:x.2.2.1=m.1) (he:x.2.2.2.1=m.2.1):V4 views (Y8 m (views.getD (m.2.1-1).toNat []) x).1 (Y8 m (views.getD (m.2.1-1).toNat []) x).2.1:=by
 have hcnt:=hm.count
 unfold Y8
 by_cases k2:x.1=2
 ·rw [if_pos k2]
  split
  ·rename_i hc
   simp only [Bool.and_eq_true] at hc
   have:=hx.old (.inl k2)
   rw [he] at this
   exact ⟨V1.has hv hm.ep.1 hc.1 h hcnt.1 this,V2.insts this⟩
  ·exact .same h
 rw [if_neg k2]
 by_cases k3:x.1=3
 ·rw [if_pos k3]
  split
  ·exact .same h
  ·rename_i hc
   split
   ·exact .same h
   ·split
    ·exact ⟨h,V2.reply (.inl rfl)⟩
    ·have:=hx.old (.inr k3)
     rw [he] at this
     refine ⟨V1.inst this ⟨hlen,?_⟩,V2.reply (.inl rfl)⟩
     cases q:(views.getD (m.2.1-1).toNat []).contains m.1 with
     | true=>rfl
     | false=>rw [q] at hc; exact absurd rfl hc
 rw [if_neg k3]
 by_cases k4:x.1=4
 ·rw [if_pos k4]
  split
  ·exact .same ⟨h.lead,h.ver,h.own,h.task,h.view⟩
  ·exact .same h
 rw [if_neg k4]
 by_cases k5:x.1=5
 ·rw [if_pos k5]
  split
  ·obtain ⟨s1,s2⟩:=hx.store k5
   have hlen:x.2.2.2.2.2.length=1:=by
    have:=hxo.shape
    rw [if_neg (by omega),if_pos k5] at this
    exact this
   have hit:(x.2.2.2.2.2.getD 0 (ByteArray.empty,ByteArray.empty,(0:Int))).2.2<=1000*m.2.1+900:=by
    rw [AR (show 0<x.2.2.2.2.2.length by omega),<- he]
    exact s2 _ (List.getElem_mem _)
   refine ⟨⟨h.lead,h.ver.put hit,fun h1 h2=>?_,h.task,h.view⟩,V2.reply (.inr (.inl rfl))⟩
   exact absurd (h.lead h1).2 (by rw [<- he,<- ht]; exact Ne.symm s1)
  ·exact .same h
 rw [if_neg k5]
 by_cases k7:x.1=7
 ·rw [if_pos k7]
  split
  ·exact ⟨h,V2.reply (.inr (.inr rfl))⟩
  ·exact .same h
 rw [if_neg k7]
 by_cases hc:(x.1=6\/x.1=8)/\m.2.2.2.2.2.2.2.2.2.1=(if x.1=8 then 2 else 1)/\m.2.2.2.2.2.2.2.2.2.2.2.1=x.2.2.2.2.1
 ·rw [if_pos hc]
  exact vV h hcnt.2 (by have:=hc.2.1; split at this<;>omega) _
 ·rw [if_neg hc]
  exact .same h
theorem vW {views:List (List Int)} {m:AA} {x:BN} (hv:Qg views) (hm:I2 m) (h:V1 views m) (hx:V2 views x):V4 views (DO m views x).1 (DO m views x).2.1:=by
 unfold DO
 split
 ·rename_i hc
  simp only [Bool.and_eq_true,decide_eq_true_eq,beq_iff_eq] at hc
  obtain ⟨⟨⟨hmo,h1⟩,h2⟩,h3⟩:=hc
  split
  ·rename_i he
   exact yi hv (by omega) hm h hx (ZU.1 hmo) h1 he
  ·split
   ·rename_i hs
    simp only [Bool.and_eq_true,beq_iff_eq] at hs
    refine ⟨h.bare h2,fun y hy=>?_⟩
    simp only [List.mem_singleton] at hy
    subst hy
    refine ⟨fun h3=>absurd h3 (by decide:(2:Int)≠3),fun _=>h.ver.mono ?_,fun h5=>absurd h5 (by decide:(2:Int)≠5)⟩
    show _<=1000*x.2.2.2.1
    omega
   ·split
    ·rename_i hs
     simp only [Bool.and_eq_true,beq_iff_eq] at hs
     exact ⟨V1.inst (hx.old (.inr hs.1.1)) ⟨h3,hs.1.2⟩,V2.reply (.inl rfl)⟩
    ·exact .same h
 ·exact .same h
theorem xN {view:List Int} {i v:Int} (h:v∈Bz view i):v≠i:=by
 have:=(List.mem_filter.1 h).2
 simpa using this
theorem xO {views:List (List Int)} {m:AA} {op call:Int} {key val:ByteArray} (hm:I2 m) (h:V1 views m) (hb:(DP m views op call key val).2.2.2=true) :
  V4 views (DP m views op call key val).1 (DP m views op call key val).2.1:=by
 have hcnt:=hm.count
 unfold DP at hb ⊢
 split at hb
 ·rename_i hmay
  rw [if_pos hmay]
  obtain ⟨h1,h2,h3,h4,h5,h6,h7,h8,h9,h10⟩:=ZW hmay
  split at hb
  ·cases hb
  ·rename_i hn
   rw [if_neg hn]
   have ht:V1 views (GL m (views.getD (m.2.1-1).toNat []) op call key val):=by
    refine ⟨h.lead,h.ver,fun a b=>(h.own a b).mono ?_,fun _=>?_,h.view⟩
    ·show _<=1000*m.2.1+(m.2.2.2.2.2.2.2.2.1+1); omega
    ·show 1000*m.2.1+(m.2.2.2.2.2.2.2.2.1+1)<=1000*m.2.1+(m.2.2.2.2.2.2.2.2.1+1); omega
   unfold Qd
   split
   ·exact ⟨ht.finish (by show m.2.2.2.2.2.2.2.2.1+1<=900; omega) (by show op≠0; omega),tG⟩
   ·refine ⟨ht,fun y hy=>?_⟩
    obtain ⟨v,hv,rfl⟩:=List.mem_map.1 hy
    have hne:=xN hv
    by_cases ho:op=1
    ·rw [if_pos ho,if_pos ho]
     refine ⟨fun h3=>absurd h3 (by decide:(5:Int)≠3),fun h=>absurd h (by decide:¬ ((5:Int)=2\/(5:Int)=3)),fun _=>⟨fun e=>hne (e.trans ?_),fun z hz=>?_⟩⟩
     ·exact h10
     ·simp only [List.mem_singleton] at hz
      subst hz
      show 1000*m.2.1+(m.2.2.2.2.2.2.2.2.1+1)<=1000*m.2.1+900
      omega
    ·rw [if_neg ho,if_neg ho]
     exact V2.plain (by decide:(7:Int)≠2) (by decide:(7:Int)≠3) (by decide:(7:Int)≠5)
 ·cases hb
theorem xP {views:List (List Int)} {m:AA} {e:Int} (hvo:Qg views) (h:V1 views m) (hb:(Eo m views e).2.2=true):V4 views (Eo m views e).1 (Eo m views e).2.1:=by
 unfold Eo at hb ⊢
 split at hb
 ·rename_i hc
  rw [if_pos hc]
  have hv:MN m.2.2.2.2.2.2.2.1 (1000*e):=h.ver.mono (by omega)
  have hn:V1 views (Ku m e):=⟨fun _=>⟨hc.2.1,hc.2.2.2⟩,hv.mono (by show _<=1000*e+900; omega),fun _ h=>(by cases h),fun h=>absurd rfl h,fun h=>(by cases h)⟩
  split
  ·exact ⟨V1.has hvo (by show 1<=e; omega) rfl hn (by show (0:Int)<=0; omega) hv,V2.insts hv⟩
  ·refine ⟨hn,fun y hy=>?_⟩
   obtain ⟨v,hv,rfl⟩:=List.mem_map.1 hy
   exact V2.plain (by decide:(1:Int)≠2) (by decide:(1:Int)≠3) (by decide:(1:Int)≠5)
 ·cases hb
theorem V1.fall {views:List (List Int)} {m:AA}:V1 views (T_ m):=⟨fun h=>(by cases h),hJ,fun h=>(by cases h),fun h=>absurd rfl h,fun h=>(by cases h)⟩
theorem V1.first {views:List (List Int)} {i:Int} (hv:Qg views):V1 views (D9 i views):=by
 have:=hv.len
 refine ⟨fun h=>⟨by show (1:Int)<=_; omega,?_⟩,hJ,fun _ _=>hJ,fun h=>absurd rfl h,fun h=>⟨by show (1:Int)<=_; omega,h⟩⟩
 exact beq_iff_eq.1 h
structure V3 (g:AT):Prop where
 mem:∀ i,i<6->V1 g.1 (BX g i)
 fly:∀ x∈g.2.2.1,V2 g.1 x
 calls:∀ c∈g.2.2.2,c.2.2.2.2.1=-1\/0<=c.2.2.2.2.1
theorem sW {at_:Int} (ha:0<=at_) (s:Cy) {cs:List Kl} (h:∀ c∈cs,c.2.2.2.2.1=-1\/0<=c.2.2.2.2.1):∀ c∈ID at_ cs s,c.2.2.2.2.1=-1\/0<=c.2.2.2.2.1:=by
 unfold ID
 split
 ·exact h
 ·intro c hc
  rcases List.mem_or_eq_of_mem_set hc with e | e
  ·exact h c e
  ·rw [e]; exact .inr ha
theorem iV {at_:Int} (ha:0<=at_):∀ (said:List Cy) {cs:List Kl},(∀ c∈cs,c.2.2.2.2.1=-1\/0<=c.2.2.2.2.1)->∀ c∈said.foldl (ID at_) cs,c.2.2.2.2.1=-1\/0<=c.2.2.2.2.1
 | [],_,h=>h
 | s::l,_,h=>iV ha l (sW ha s h)
theorem V3.member {g:AT} (h:V3 g) (h6:g.2.1.length=6) {n:AA} {told:List BN} {said:List Cy} {at_:Int} {i:Nat} (ha:0<=at_) (hi:i<6) (hid:n.1=(i:Int)+1) (hn:V4 g.1 n told):V3 (BF g n told said at_):=by
 refine ⟨fun j hj=>?_,fun x hx=>?_,iV ha said h.calls⟩
 ·rw [nG h6 hj hid hi]
  split
  ·exact hn.1
  ·exact h.mem j hj
 ·rcases List.mem_append.1 hx with h1 | h1
  ·exact h.fly x h1
  ·exact hn.2 x h1
theorem V3.less {g:AT} (h:V3 g) (i:Nat):V3 (Ec g i):=⟨h.mem,fun x hx=>by
 rcases List.mem_append.1 hx with h1 | h1
 ·exact h.fly x (List.mem_of_mem_take h1)
 ·exact h.fly x (List.mem_of_mem_drop h1),h.calls⟩
theorem V3.call {g:AT} (h:V3 g) (at_:Int) (e:D_):V3 (Gy g at_ e):=⟨h.mem,h.fly,fun c hc=>by
 rcases List.mem_append.1 hc with h1 | h1
 ·exact h.calls c h1
 ·simp only [List.mem_singleton] at h1
  rw [h1]; exact .inl rfl⟩
theorem V3.adopt {g:AT} {k:Nat} (h:V3 g) (hg:JN g k) {at_ node:Int} (ha:0<=at_) (hn:1<=node/\node<=6):∀ (n:Nat) (e:Int),V3 (Ic g at_ (BX g (node-1).toNat) node n e).2
 | 0,_=>h
 | n+1,e=>by
  unfold Ic
  split
  ·exact V3.adopt h hg ha hn n (e+1)
  ·split
   ·rename_i hb
    obtain ⟨m1,m2⟩:=hg.mem (node-1).toNat (by omega)
    have hao:=T9 (e:=e) m1 hg.views hb
    exact h.member hg.six (i:=(node-1).toNat) ha (by omega) (by rw [hao.2.1,m2]) (xP hg.views (h.mem _ (by omega)) hb)
   ·exact h
theorem V3.event {g:AT} {k:Nat} (h:V3 g) (hg:JN g k) {at_:Int} (ha:0<=at_) {e:D_} (he:MS e=true):V3 (nH g at_ e).2:=by
 have hn:=eP he
 unfold nH
 split
 ·unfold JO
  split
  ·rename_i hb
   obtain ⟨m1,m2⟩:=hg.mem (e.2.1-1).toNat (by omega)
   have hbo:=ZX (op:=e.2.2.2.1) (call:=(g.2.2.2.length:Int)) (key:=e.2.2.2.2.1) (val:=e.2.2.2.2.2) m1 hg.views
   exact (h.call at_ e).member (g:=Gy g at_ e) hg.six (i:=(e.2.1-1).toNat) ha (by omega) (by rw [hbo.id hb,m2]) (xO m1 (h.mem _ (by omega)) hb)
  ·exact h.call at_ e
 ·split
  ·exact h.adopt hg ha (by omega) _ _
  ·split
   ·obtain ⟨m1,m2⟩:=hg.mem (e.2.1-1).toNat (by omega)
    exact h.member hg.six (i:=(e.2.1-1).toNat) ha (by omega) m2 ⟨V1.fall,tG⟩
   ·unfold bd
    split
    ·exact h
    ·rename_i hne
     have hl:0<g.2.2.1.length:=by
      cases hq:g.2.2.1 with
      | nil=>exact absurd hq hne
      | cons a l=>simp
     have hlt:(e.2.2.1 % (g.2.2.1.length:Int)).toNat<g.2.2.1.length:=by
      have h1:=Int.emod_lt_of_pos e.2.2.1 (show (0:Int)<(g.2.2.1.length:Int) by omega)
      have h2:=Int.emod_nonneg e.2.2.1 (show (g.2.2.1.length:Int)≠0 by omega)
      omega
     have hmem:g.2.2.1.getD (e.2.2.1 % (g.2.2.1.length:Int)).toNat Cr∈g.2.2.1:=by
      rw [AR hlt]
      exact List.getElem_mem _
     split
     ·refine ⟨h.mem,fun x hx=>?_,h.calls⟩
      rcases List.mem_append.1 hx with h1 | h1
      ·exact h.fly x h1
      ·simp only [List.mem_singleton] at h1
       rw [h1]
       exact h.fly _ hmem
     ·split
      ·exact h.less _
      ·have hto:=(hg.fly _ hmem).to
       generalize hx:g.2.2.1.getD (e.2.2.1 % (g.2.2.1.length:Int)).toNat Cr=x at *
       obtain ⟨m1,m2⟩:=hg.mem (x.2.2.1-1).toNat (by omega)
       exact (h.less _).member (g:=Ec g (e.2.2.1 % (g.2.2.1.length:Int)).toNat) hg.six (i:=(x.2.2.1-1).toNat) ha (by omega) (by rw [(N4 (x:=x) m1 hg.views).id,m2]) (vW hg.views m1 (h.mem _ (by omega)) (h.fly _ hmem))
theorem V3.new {views:List (List Int)} (hv:Qg views):V3 (Av views):=by
 refine ⟨fun i hi=>?_,(fun x hx=>by cases hx),fun x hx=>by cases hx⟩
 have h5:i=0\/i=1\/i=2\/i=3\/i=4\/i=5:=by omega
 rcases h5 with rfl | rfl | rfl | rfl | rfl | rfl<;>exact V1.first hv
theorem V3.run:∀ (es:List D_) (n:Nat) (g:AT) (cs:List Int),JN g n->V3 g->n+es.length<=70->(∀ e∈es,MS e=true)->V3 (Sc n es g cs).1
 | [],n,g,cs,_,h,_,_=>h
 | e::es,n,g,cs,hg,h,hn,he=>by
  simp only [List.length_cons] at hn
  obtain ⟨h2,_⟩:=hg.event (at_:=(n:Int)) (he e (by simp))
  exact V3.run es (n+1) _ _ h2 (h.event hg (by omega) (he e (by simp))) (by omega) (fun x hx=>he x (by simp [hx]))

theorem eS (a b:Int):Li a b=some (decide (a<b)):=m7 (by
 have h:∀ a,Jm a=some false:=fun a=>ju (by unfold XA; simp)
 unfold Y2
 rw [h,X,if_neg (by simp)])
def qT (l:List Int) (j:Nat):List Int:=(l.set (j+1) (l.getD j 0)).set j (l.getD (j+1) 0)
def vX:Nat->List Int->List Int
 | 0,l=>l
 | j+1,l=>if l.getD (j+1) 0<l.getD j 0 then vX j (qT l j) else l
def yQ:Nat->Nat->List Int->List Int
 | 0,_,l=>l
 | k+1,i,l=>yQ k (i+1) (vX i l)
theorem eT (l:List Int) (j:Nat):(qT l j).length=l.length:=by simp [qT]
theorem kK:∀ (j:Nat) (l:List Int),(vX j l).length=l.length
 | 0,l=>rfl
 | j+1,l=>by
  unfold vX
  split
  ·rw [kK j,eT]
  ·rfl
theorem uM {l:List Int} {j:Nat} (h:j+1<l.length):(qT l j).Perm l:=by
 obtain ⟨p,a,b,q,rfl,rfl⟩:∃ p a b q,l=p++a::b::q/\p.length=j :=
  ⟨l.take j,l[j],l[j+1],l.drop (j+2),by rw [<- List.drop_eq_getElem_cons h,<- List.drop_eq_getElem_cons (show j<l.length by omega),List.take_append_drop],by rw [List.length_take]; omega⟩
 have e:qT (p++a::b::q) p.length=p++b::a::q:=by
  unfold qT
  have e1:(p++a::b::q).getD p.length 0=a:=by simp [List.getD]
  have e2:(p++a::b::q).getD (p.length+1) 0=b:=by simp [List.getD]
  rw [e1,e2,List.set_append_right _ _ (by omega),List.set_append_right _ _ (by omega)]
  simp
 rw [e]
 exact List.Perm.append_left p (List.Perm.swap a b q)
theorem rY:∀ (j:Nat) (l:List Int),j<l.length->(vX j l).Perm l
 | 0,l,_=>List.Perm.refl l
 | j+1,l,h=>by
  unfold vX
  split
  ·exact (rY j _ (by rw [eT]; omega)).trans (uM h)
  ·exact List.Perm.refl l
theorem nJ:∀ (k i:Nat) (l:List Int),i+k=l.length->(yQ k i l).Perm l
 | 0,_,l,_=>List.Perm.refl l
 | k+1,i,l,h=>(nJ k (i+1) _ (by rw [kK]; omega)).trans (rY i l (by omega))
theorem tH {l:List Int} {j:Nat} (h:j+1<l.length) (a:Nat):(qT l j).getD a 0=if a=j then l.getD (j+1) 0 else if a=j+1 then l.getD j 0 else l.getD a 0:=by
 unfold qT
 simp only [List.getD_eq_getElem?_getD,List.getElem?_set,List.length_set]
 by_cases h1:a=j
 ·subst h1
  rw [if_pos rfl,if_pos (by omega),if_pos rfl]
  simp
 ·rw [if_neg (fun e=>h1 e.symm),if_neg h1]
  by_cases h2:a=j+1
  ·subst h2
   rw [if_pos rfl,if_pos (by omega),if_pos rfl]
   simp
  ·rw [if_neg (fun e=>h2 e.symm),if_neg h2]
def yK (i:Nat) (l:List Int):Prop:=∀ a b,a<b->b<=i->l.getD a 0<=l.getD b 0
theorem vY (i:Nat):∀ (j:Nat) (l:List Int),j<=i->i<l.length->(∀ a b,a<b->b<=i->b≠j->l.getD a 0<=l.getD b 0)->yK i (vX j l)
 | 0,l,_,_,h=>fun a b h1 h2=>h a b h1 h2 (by omega)
 | j+1,l,hj,hi,h=>by
  unfold vX
  split
  ·rename_i hlt
   refine vY i j _ (by omega) (by rw [eT]; exact hi) fun a b h1 h2 h3=>?_
   rw [tH (by omega),tH (by omega)]
   rw [if_neg h3]
   by_cases hb:b=j+1
   ·subst hb
    rw [if_pos rfl]
    by_cases ha:a=j
    ·rw [if_pos ha]; omega
    ·rw [if_neg ha,if_neg (by omega)]
     exact h a j (by omega) (by omega) (by omega)
   ·rw [if_neg hb]
    by_cases ha:a=j
    ·rw [if_pos ha]; exact h (j+1) b (by omega) h2 hb
    ·rw [if_neg ha]
     by_cases ha2:a=j+1
     ·rw [if_pos ha2]; exact h j b (by omega) h2 hb
     ·rw [if_neg ha2]; exact h a b h1 h2 hb
  ·rename_i hlt
   intro a b h1 h2
   by_cases hb:b=j+1
   ·subst hb
    by_cases ha:a=j
    ·subst ha; omega
    ·have:=h a j (by omega) (by omega) (by omega)
     omega
   ·exact h a b h1 h2 hb
theorem vZ:∀ (k i:Nat) (l:List Int),i+k=l.length->1<=i->yK (i-1) l->yK (l.length-1) (yQ k i l)
 | 0,i,l,h,hi,hu=>by
  have:i-1=l.length-1:=by omega
  rw [<- this]; exact hu
 | k+1,i,l,h,hi,hu=>by
  have:=vZ k (i+1) (vX i l) (by rw [kK]; omega) (by omega) (by
   rw [Nat.add_sub_cancel]
   exact vY i i l (Nat.le_refl _) (by omega) fun a b h1 h2 h3=>hu a b h1 (by omega))
  rw [kK] at this
  exact this
theorem tI (n i:Nat) (hn:n<=12) (g:List Int->List Int) (K:∀ l:List Int,l.length=n->Au 0 (n:Int) ((i:Int)+1) l=some (g l)) (hi:i<n) :
  ∀ (j:Nat) (l:List Int),j<n->l.length=n->Bq 0 (n:Int) (i:Int) (j:Int) l=some (g (vX j l))
 | 0,l,hj,hl=>Eb (by
  unfold Ch
  rw [if_neg (by simp),AZ (by omega)]
  exact K l hl)
 | j+1,l,hj,hl=>Eb (by
  unfold Ch
  have e1:IntKind.i64.wrap (((j+1:Nat):Int)-1)=(j:Int):=by rw [AZ (by omega)]; omega
  have e2:((j+1:Nat):Int).toNat=j+1:=by omega
  have e3:((j:Nat):Int).toNat=j:=by omega
  rw [if_pos (by simp<;>omega),if_pos (by omega),if_pos (by omega),e1,if_pos (by omega),if_pos (by omega),eS,X,e2,e3]
  unfold vX
  by_cases h:l.getD (j+1) 0<l.getD j 0
  ·rw [if_pos (by simpa using h),if_pos h]
   refine JJ ?_
   unfold Ea
   simp only [e1,e2,e3]
   rw [if_pos (by omega),if_pos (by omega),if_pos (by omega),if_pos (by omega),if_pos (by omega),if_pos (by omega),if_pos (by omega),if_pos (by rw [List.length_set]; omega)]
   exact tI n i hn g K hi j (qT l j) (by omega) (by rw [eT]; exact hl)
  ·rw [if_neg (by simpa using h),if_neg h,AZ (by omega)]
   exact K l hl)
theorem tJ (n:Nat) (hn:n<=12):∀ (k i:Nat) (l:List Int),i+k=n->l.length=n->Au 0 (n:Int) (i:Int) l=some (yQ k i l)
 | 0,i,l,h,hl=>Ci (by
  unfold Br
  rw [if_neg (by simp; omega)]
  rfl)
 | k+1,i,l,h,hl=>Ci (by
  unfold Br
  rw [if_pos (by simp; omega)]
  exact tI n i hn (yQ k (i+1)) (fun l hl=>by have:=tJ n hn k (i+1) l (by omega) hl; rw [<- this]; congr 1) (by omega) i l (by omega) hl)
set_option maxRecDepth 100000 in
theorem yL (n:Nat) (h:n<=12):∃ r,OH (IntKind.u64.wrap (n:Int))=some r:=by
 have h1:∃ r,F9 (n:Int) 0=some r:=by
  have hs:IntKind.u8.wrap (n:Int)=(n:Int):=by
   have:n=0\/n=1\/n=2\/n=3\/n=4\/n=5\/n=6\/n=7\/n=8\/n=9\/n=10\/n=11\/n=12:=by omega
   rcases this with h | h | h | h | h | h | h | h | h | h | h | h | h<;>subst h<;>rfl
  have ht:∃ r,Ia (n:Int) 0=some r:=by
   unfold Ia
   rw [if_neg (by simp; omega),if_pos (by rw [hs]; omega),if_pos (by
    rw [hs]
    exact Int.lt_of_lt_of_le (show (n:Int)<13 by omega) (by decide))]
   exact ⟨_,rfl⟩
  obtain ⟨r,hr⟩:=ht
  exact ⟨r,Y3 hr⟩
 obtain ⟨r,hr⟩:=h1
 have h2:Lj (n:Int)=some r:=eH (by
  unfold SF
  rw [if_neg (by simp; omega)]
  exact Y4 (by
   unfold Nz
   rw [if_neg (by simp; omega)]
   exact hr))
 have hu:IntKind.u64.wrap (n:Int)=(n:Int):=by
  have:n=0\/n=1\/n=2\/n=3\/n=4\/n=5\/n=6\/n=7\/n=8\/n=9\/n=10\/n=11\/n=12:=by omega
  rcases this with h | h | h | h | h | h | h | h | h | h | h | h | h<;>subst h<;>rfl
 exact ⟨r,jq (by unfold W_; rw [hu,h2]; rfl)⟩
theorem tK (l:List Int) (h:l.length<=12):∃ r,Cn l=some r/\r.Perm l/\r.Pairwise (· <= ·):=by
 obtain ⟨b,hb⟩:=yL l.length h
 have hins:∃ r,C_ 0 (l.length:Int) l=some r/\r.Perm l/\r.Pairwise (· <= ·):=by
  by_cases h0:l.length=0
  ·have:l=[]:=List.length_eq_zero_iff.1 h0
   subst this
   refine ⟨[],Fa ?_,List.Perm.refl _,List.Pairwise.nil⟩
   unfold DA
   refine Ci ?_
   unfold Br
   rw [if_neg (by rw [AZ (by omega)]; simp)]
  ·refine ⟨yQ (l.length-1) 1 l,Fa ?_,nJ _ _ _ (by omega),?_⟩
   ·unfold DA
    rw [AZ (by omega)]
    exact tJ l.length h (l.length-1) 1 l (by omega) rfl
   ·have hu:=vZ (l.length-1) 1 l (by omega) (Nat.le_refl _) (fun a b h1 h2=>by omega)
    have hp:=(nJ (l.length-1) 1 l (by omega)).length_eq
    rw [List.pairwise_iff_getElem]
    intro i j hi hj hij
    have:=hu i j hij (by omega)
    rwa [AR hi,AR hj] at this
 obtain ⟨r,h1,h2,h3⟩:=hins
 refine ⟨r,XS ?_,h2,h3⟩
 unfold Mh
 have hq:CL 0 (l.length:Int) b l=some r:=Pd (by
  unfold H7
  refine ND ?_
  unfold Gr
  rw [if_pos (by rw [AZ (by omega)]; simp; omega),h1]
  rfl)
 rw [hb,X,hq]
 rfl
theorem tL:∀ {a b:List Int},a.Pairwise (· < ·)->b.Pairwise (· < ·)->(∀ x,x∈a↔x∈b)->a=b
 | [],[],_,_,_=>rfl
 | [],y::b,_,_,h=>absurd ((h y).2 (by simp)) (by simp)
 | x::a,[],_,_,h=>absurd ((h x).1 (by simp)) (by simp)
 | x::a,y::b,ha,hb,h=>by
  rw [List.pairwise_cons] at ha hb
  have hxy:x=y:=by
   have h1:=(h x).1 (by simp)
   have h2:=(h y).2 (by simp)
   rcases List.mem_cons.1 h1 with e | h1
   ·exact e
   ·rcases List.mem_cons.1 h2 with e | h2
    ·exact e.symm
    ·have:=ha.1 y h2
     have:=hb.1 x h1
     omega
  subst hxy
  rw [tL ha.2 hb.2 fun z=>?_]
  constructor
  ·intro hz
   rcases List.mem_cons.1 ((h z).1 (by simp [hz])) with e | h
   ·subst e; have:=ha.1 z hz; omega
   ·exact h
  ·intro hz
   rcases List.mem_cons.1 ((h z).2 (by simp [hz])) with e | h
   ·subst e; have:=hb.1 z hz; omega
   ·exact h
theorem nK {view:List Int} {id x:Int} (hv:uP view):x∈DN view id↔x∈Bz view id:=by
 unfold DN Bz
 simp only [List.mem_filter,Bool.and_eq_true,List.contains_eq_mem,decide_eq_true_eq]
 constructor
 ·rintro ⟨_,h1,h2⟩; exact ⟨h2,h1⟩
 ·rintro ⟨h1,h2⟩
  have:=hv.mem x h1
  refine ⟨?_,h2,h1⟩
  have h5:x=1\/x=2\/x=3\/x=4\/x=5\/x=6:=by omega
  rcases h5 with h | h | h | h | h | h<;>simp [h]
theorem hO {view:List Int} (hv:uP view) (id:Int):Cn (Bz view id)=some (DN view id):=by
 have hl:=HJ view id
 have:=hv.len
 obtain ⟨r,h1,h2,h3⟩:=tK (Bz view id) (by omega)
 rw [h1]
 congr 1
 have hnd:r.Nodup:=h2.nodup_iff.2 (hv.nd.filter _)
 refine tL ?_ (U2 view id).2 fun x=>(h2.mem_iff).trans (nK hv).symm
 have:=h3.and (List.nodup_iff_pairwise_ne.1 hnd)
 exact this.imp fun {a b} h=>by have:=h.1; have:=h.2; omega
theorem iW {view:List Int} (hv:uP view) (id:Int):(DN view id).length=(Bz view id).length:=by
 obtain ⟨r,h1,h2,_⟩:=tK (Bz view id) (by have:=HJ view id; have:=hv.len; omega)
 rw [hO hv] at h1
 cases h1
 exact h2.length_eq

theorem ZB (x:List Int) (n:Int) (h:x.length<=maxLen):Cd x n=some (x.contains n):=Qi (by
 have hm:x.length<=9223372036854775807:=h
 have key:=GJ (n:=x.length) (P:=fun i=>∃ r,Ce x n (x.length:Int) (i:Int)=some r/\(decide (r>=0)=(x.drop i).contains n)) ⟨-1,B6 (by
  unfold Bc
  rw [if_neg (by simp)]),by simp⟩ (fun i hi ⟨r,hr,hc⟩=>by
  by_cases e:n=x[i]
  ·refine ⟨(i:Int),B6 ?_,?_⟩
   ·unfold Bc
    simp only [show ((i:Int)<(x.length:Int)) from by omega,decide_true,if_true,show (0:Int)<=(i:Int) from by omega,Int.toNat_natCast,AR hi]
    rw [if_pos (by simpa using e)]
   ·rw [BZ hi,List.contains_cons,e]
    simp only [beq_self_eq_true,Bool.true_or]
    exact decide_eq_true (by omega)
  ·refine ⟨r,B6 ?_,?_⟩
   ·unfold Bc
    simp only [show ((i:Int)<(x.length:Int)) from by omega,decide_true,if_true,show (0:Int)<=(i:Int) from by omega,Int.toNat_natCast,AR hi,AO (show i<9223372036854775807 by omega)]
    rw [if_neg (by simpa using e)]
    exact hr
   ·rw [BZ hi,hc,List.contains_cons]
    simp [e]) 0 (by omega)
 obtain ⟨r,hr,hc⟩:=key
 unfold I4
 have:DG x n=some r:=L_ hr
 rw [this,X,hc,List.drop_zero])
theorem ZD (m:AA) (h1:m.2.2.2.2.2.2.1.length<=68719476736) (h2:m.2.2.2.2.2.2.2.1.length<=68719476736) (h3:m.2.2.2.2.2.2.2.2.2.2.2.2.2.length<=68719476736):Cl m=some m:=db (by
 unfold Ru
 rw [Cc h1,X,A_ h2,X,Cc h3,X])
theorem I2.icopy {m:AA} (h:I2 m):Cl m=some m:=by
 obtain ⟨h1,h2,h3⟩:=h.lens
 exact ZD m (by omega) (by omega) (by omega)
theorem MO (x:BN) (h:x.2.2.2.2.2.length<=68719476736):Gf x=some x:=mc (by
 unfold Yh
 rw [A_ h,X])
theorem NI (view:List Int) (m:AA) (h:view.length<=68719476736):B3 view m=some (Bz view m.1,m):=Yt (by
 unfold Nv
 have key:=GJ (n:=view.length) (P:=fun i=>∀ acc:List Int,acc.length<=i->C8 view (view.length:Int) (i:Int) m acc=some (acc++(view.drop i).filter (· != m.1),m)) (fun acc ha=>Kg (by
  unfold Gm
  rw [if_neg (by simp)]
  simp)) (fun i hi ih acc ha=>Kg (by
  unfold Gm
  simp only [show ((i:Int)<(view.length:Int)) from by omega,decide_true,if_true,show (0:Int)<=(i:Int) from by omega,Int.toNat_natCast,AR hi,AO (show i<9223372036854775807 by omega)]
  rw [BZ hi,List.filter_cons]
  by_cases hh:(view[i] != m.1)=true
  ·rw [if_pos hh,if_pos (by simp; omega),ih _ (by simp; omega),if_pos hh,List.append_assoc]
   rfl
  ·rw [if_neg hh,ih _ (by omega),if_neg hh])) 0 (by omega) [] (by simp)
 exact key)
def tM (m:AA) (ids:List Int) (x:BN):List BN:=ids.map fun v=>(x.1,m.1,v,m.2.1,x.2.2.2.2)
theorem CN (ids:List Int) (x:BN) (m:AA) (h:ids.length<=68719476736) (hx:x.2.2.2.2.2.length<=68719476736):Ai ids x m=some (tM m ids x,m):=XT (by
 unfold Mj
 have key:=GJ (n:=ids.length) (P:=fun i=>∀ acc:List BN,acc.length<=i->Du ids (ids.length:Int) (i:Int) m x acc=some (acc++(ids.drop i).map (fun v=>(x.1,m.1,v,m.2.1,x.2.2.2.2)),m)) (fun acc ha=>JU (by
  unfold GI
  rw [if_neg (by simp)]
  simp)) (fun i hi ih acc ha=>JU (by
  unfold GI
  simp only [show ((i:Int)<(ids.length:Int)) from by omega,decide_true,if_true,show (0:Int)<=(i:Int) from by omega,Int.toNat_natCast,AR hi,AO (show i<9223372036854775807 by omega)]
  rw [MO x hx,X,if_pos (by simp; omega),ih _ (by simp; omega),BZ hi,List.map_cons,List.append_assoc]
  rfl)) 0 (by omega) [] (by simp)
 exact key)
def zB (m:AA):AA:=(m.1,m.2.1,m.2.2.1,m.2.2.2.1,false,false,([]:List Int),m.2.2.2.2.2.2.2.1,(0:Int),(0:Int),(0:Int),(0:Int),(ByteArray.empty,ByteArray.empty,(0:Int)),([]:List Int))
theorem Sd (m:AA):Fy m=some (zB m):=d8 rfl
theorem Qf (view:List Int) (its:List AM) (m:AA) (hv:uP view) (hi:its.length<=68719476736) (hs:m.2.2.2.2.2.1=false) :
  DI view its m=some ((Bz view m.1).map (fun v=>(3,m.1,v,m.2.1,0,its)),Qm m view its):=Uz (by
 have hvl:=hv.len
 have hrl:=HJ view m.1
 unfold MD
 rw [NI view m (by omega),X,A_ hi,X,Cc (by show (Bz view m.1).length<=_; omega),X,hO hv,X]
 have ho:=iW hv m.1
 unfold Qm
 rw [ho]
 by_cases h0:(Bz view m.1).length=0
 ·rw [if_pos (by simpa using h0),CN _ _ _ (by show (Bz view m.1).length<=_; omega) hi,X,h0]
  rfl
 ·rw [if_neg (by simpa using h0),CN _ _ _ (by show (Bz view m.1).length<=_; omega) hi,X]
  have:(((Bz view m.1).length:Int)==0)=false:=by simpa using h0
  rw [this]
  show some (_,(m.1,m.2.1,m.2.2.1,true,m.2.2.2.2.1,m.2.2.2.2.2.1,_))=_
  rw [hs]
  rfl)
theorem SL (v:List Int) (x:Int) (h:v.length<=68719476736):Lg v x=some (v.filter (· != x)):=m4 (by
 unfold Yx
 rw [Cc h,X,Pc,X]
 rfl)
theorem ZE (m:AA) (h:m.2.2.2.2.2.2.2.1.length<=34359738367):HA m=some (Bs m):=bR (by
 unfold QZ Bs
 rw [SG _ _ h,T1 _ _ (by unfold maxLen; omega)]
 split
 ·rw [X]
  refine Mi ?_
  unfold Hk
  rfl
 ·rw [X]
  refine Mi ?_
  unfold Hk
  rfl)
def vd (m:AA) (views:List (List Int)) (x:BN):List BN×AA :=
 if (x.2.2.2.1==m.2.1+1&&m.2.2.2.1&&(views.getD (m.2.1-1).toNat []).contains m.1)=true then ([(2,m.1,x.2.1,x.2.2.2.1,0,m.2.2.2.2.2.2.2.1)],T7 m x.2.2.2.1) else ([],m)
theorem nL (m:AA) (views:List (List Int)) (x:BN) (hm:I2 m) (hv:Qg views) (he:m.2.1<=views.length) :
  J9 views x m=some (vd m views x):=bV (by
 have hvl:=hv.len
 have hep:=hm.ep
 obtain ⟨l1,l2,l3⟩:=hm.lens
 have hf:m.2.2.2.1=true->m.2.2.1=false:=fun h=>by
  cases hh:m.2.2.1 with
  | false=>rfl
  | true=>rw [(hm.fell hh).1] at h; cases h
 unfold Qb vd
 rw [AZ (n:=m.2.1+1) (by omega),AZ (n:=m.2.1-1) (by omega)]
 by_cases c1:x.2.2.2.1=m.2.1+1
 case neg=>rw [if_pos (by simpa using c1),if_neg (by simp [c1])]
 rw [if_neg (by simpa using c1)]
 by_cases c2:m.2.2.2.1=true
 case neg=>rw [if_pos (by simpa using c2),if_neg (by simp [c2])]
 rw [if_neg (by simpa using c2),if_pos (by omega),if_pos (by omega),ZB _ _ (by have:=(hv.get (i:=(m.2.1-1).toNat) (by omega)).2; unfold maxLen; omega),X]
 cases c3:(views.getD (m.2.1-1).toNat []).contains m.1 with
 | false=>rw [if_pos (by rfl),if_neg (by simp)]
 | true =>
  rw [if_neg (by simp),if_pos (by simp [c1,c2])]
  exact XU (by
   unfold Ml
   rw [Sd,X,CN _ _ _ (by simp) (by show m.2.2.2.2.2.2.2.1.length<=_; omega),X]
   show some (_,(m.1,x.2.2.2.1,m.2.2.1,_))=_
   rw [hf c2]
   rfl))
def ve (m:AA) (e:Int) (its:List AM):AA:=(m.1,e,false,true,false,false,([]:List Int),its,(0:Int),(0:Int),(0:Int),(0:Int),(ByteArray.empty,ByteArray.empty,(0:Int)),([]:List Int))
def vf (m:AA) (view:List Int) (x:BN):List BN×AA :=
 if (!view.contains m.1||(view.getD 0 0==m.1))=true then ([],m)
 else if x.2.2.2.1>m.2.1\/(m.2.2.2.1=false/\m.2.2.1=false) then ([(4,m.1,x.2.1,x.2.2.2.1,0,([]:List AM))],ve m x.2.2.2.1 x.2.2.2.2.2)
 else if m.2.2.2.1=false then ([],m) else ([(4,m.1,x.2.1,m.2.1,0,([]:List AM))],m)
theorem eU (m:AA) (view:List Int) (x:BN) (hv:uP view) (hx:x.2.2.2.2.2.length<=68719476736) :
  Hd view x m=some (vf m view x):=XV (by
 have hvl:=hv.len
 unfold Mm vf
 rw [ZB _ _ (by unfold maxLen; omega),X]
 cases c3:view.contains m.1 with
 | false=>rw [if_pos (by rfl),if_pos (by rfl)]
 | true =>
  rw [if_neg (by simp),if_pos (by omega),if_pos (by omega)]
  by_cases c4:view.getD 0 0=m.1
  ·rw [if_pos (by simpa using c4),if_pos (by rw [c4]; simp)]
  ·rw [if_neg (by simpa using c4),if_neg (by have:(view.getD 0 0==m.1)=false:=(by simpa using c4); rw [this]; simp)]
   have J1:∀ b:Bool,Cp b m x=some (if b=true then ([(4,m.1,x.2.1,x.2.2.2.1,0,([]:List AM))],ve m x.2.2.2.1 x.2.2.2.2.2) else if m.2.2.2.1=false then ([],m) else ([(4,m.1,x.2.1,m.2.1,0,([]:List AM))],m)):=fun b=>SZ (by
    unfold JW
    cases b with
    | true =>
     rw [if_pos rfl,if_pos rfl,A_ hx,X,Sd,X,CN _ _ _ (by simp) (by simp),X]
     rfl
    | false =>
     simp only [Bool.false_eq_true,if_false]
     cases hb:m.2.2.2.1 with
     | false=>simp
     | true =>
      simp only [Bool.not_true,Bool.false_eq_true,if_false,Bool.true_eq_false]
      rw [CN _ _ _ (by simp) (by simp),X]
      rfl)
   refine Sa ?_
   unfold JX
   rw [J1,J1,J1]
   by_cases c5:x.2.2.2.1>m.2.1
   ·rw [if_pos (by simpa using c5)]
    simp [c5]
   ·rw [if_neg (by simpa using c5)]
    cases hb:m.2.2.2.1<;>cases hf:m.2.2.1<;>simp [c5])
def qU (m:AA) (x:BN):List BN×AA :=
 if (x.2.2.2.1==m.2.1&&m.2.2.2.1)=true then
  (if x.1=7 then ([(8,m.1,x.2.1,m.2.1,x.2.2.2.2.1,([]:List AM))],m)
  else ([(6,m.1,x.2.1,m.2.1,x.2.2.2.2.1,([]:List AM))],(m.1,m.2.1,m.2.2.1,m.2.2.2.1,m.2.2.2.2.1,m.2.2.2.2.2.1,m.2.2.2.2.2.2.1,Aj m.2.2.2.2.2.2.2.1 (x.2.2.2.2.2.getD 0 (ByteArray.empty,ByteArray.empty,(0:Int))),m.2.2.2.2.2.2.2.2)))
 else ([],m)
theorem j3 (m:AA) (x:BN) (hm:m.2.2.2.2.2.2.2.1.length<=12) (h5:x.1≠7->0<x.2.2.2.2.2.length) :
  JC x m=some (qU m x):=Zu (by
 unfold PF qU
 by_cases c1:x.2.2.2.1=m.2.1
 case neg=>rw [if_pos (by simpa using c1),if_neg (by simp [c1])]
 rw [if_neg (by simpa using c1)]
 by_cases c2:m.2.2.2.1=true
 case neg=>rw [if_pos (by simpa using c2),if_neg (by simp [c2])]
 rw [if_neg (by simpa using c2),if_pos (by simp [c1,c2])]
 refine U0 ?_
 unfold MJ
 by_cases c7:x.1=7
 ·rw [if_pos (by simpa using c7),if_pos c7,CN _ _ _ (by simp) (by simp),X]
  rfl
 ·have:=h5 c7
  rw [if_neg (by simpa using c7),if_neg c7,if_pos (by omega),if_pos (by omega),SG _ _ (by omega),X,CN _ _ _ (by simp) (by simp),X]
  rfl)
theorem UB (m:AA) (op:Int) (x:BN) (hm:I2 m) :
  Fz op x m=some (if (x.2.2.2.1==m.2.1&&m.2.2.2.2.2.2.2.2.2.1==op&&m.2.2.2.2.2.2.2.2.2.2.2.1==x.2.2.2.2.1)=true then ((GA m x.2.1).2.2,(GA m x.2.1).1) else ([],m)):=Yy (by
 obtain ⟨l1,l2,l3⟩:=hm.lens
 unfold Nw
 by_cases c1:x.2.2.2.1=m.2.1
 case neg=>rw [if_pos (by simpa using c1),if_neg (by simp [c1])]
 rw [if_neg (by simpa using c1)]
 by_cases c2:m.2.2.2.2.2.2.2.2.2.1=op
 case neg=>rw [if_pos (by simpa using c2),if_neg (by simp [c2])]
 rw [if_neg (by simpa using c2)]
 by_cases c3:m.2.2.2.2.2.2.2.2.2.2.2.1=x.2.2.2.2.1
 case neg=>rw [if_pos (by simpa using c3),if_neg (by simp [c3])]
 rw [if_neg (by simpa using c3),if_pos (by simp [c1,c2,c3])]
 refine Tw ?_
 unfold Kj GA
 rw [SL _ _ (by omega),X]
 by_cases c4:(m.2.2.2.2.2.2.2.2.2.2.2.2.2.filter (· != x.2.1)).length=0
 ·rw [if_neg (by rw [c4]; decide),if_pos (by rw [c4]; decide),ZE _ (by show m.2.2.2.2.2.2.2.1.length<=_; omega)]
  rfl
 ·rw [if_pos (decide_eq_true (by omega)),if_neg (by rw [beq_iff_eq]; omega)]
  rfl)

def oH (x:BN):BN:=if x.1=3 then (x.1,x.2.1,x.2.2.1,x.2.2.2.1,0,x.2.2.2.2.2) else x
def ZF (m:AA) (views:List (List Int)) (x:BN):AA×List BN×List Cy:=if T6 x=true then DO m views (oH x) else (m,[],[])
theorem vg (x:BN):(oH x).2.2.1=x.2.2.1/\(oH x).2.2.2.1=x.2.2.2.1:=by unfold oH; split<;>exact ⟨rfl,rfl⟩
theorem ZY {m:AA} {views:List (List Int)} {x:BN} (h:¬ (x.2.2.1=m.1/\m.2.1<=x.2.2.2.1/\x.2.2.2.1<=(views.length:Int)/\T6 x=true)):ZF m views x=(m,[],[]):=by
 unfold ZF
 split
 ·rename_i hx
  unfold DO
  rw [if_neg (by
   rw [(vg x).1,(vg x).2]
   simp only [Bool.and_eq_true,beq_iff_eq,decide_eq_true_eq]
   exact fun g=>h ⟨g.1.1.2,g.1.2,g.2,hx⟩)]
 ·rfl
theorem qV {x:BN} (h:x.1≠3):oH x=x:=if_neg h
theorem vh {x:BN} (h:x.1=3->x.2.2.2.2.1=0):oH x=x:=by
 unfold oH
 split
 ·rename_i e
  obtain ⟨a,b,c,d,e,f⟩:=x
  have:=h ‹_›
  dsimp only at this
  rw [this]
 ·rfl
theorem rZ {m:AA} {views:List (List Int)} {x:BN} (hx:uK x) (h1:x.2.2.1=m.1) (h2:m.2.1<=x.2.2.2.1) (h3:x.2.2.2.1<=(views.length:Int)):DO m views x =
  (if x.2.2.2.1=m.2.1 then Y8 m (views.getD (m.2.1-1).toNat []) x
  else if (x.1==1&&(x.2.2.2.1==m.2.1+1)&&m.2.2.2.1&&(views.getD (m.2.1-1).toNat []).contains m.1)=true then (T7 m x.2.2.2.1,[(2,m.1,x.2.1,x.2.2.2.1,0,m.2.2.2.2.2.2.2.1)],[])
  else if (x.1==3&&(views.getD (x.2.2.2.1-1).toNat []).contains m.1&&((views.getD (x.2.2.2.1-1).toNat []).getD 0 0 != m.1))=true then
   ((m.1,x.2.2.2.1,false,true,false,false,([]:List Int),x.2.2.2.2.2,(0:Int),(0:Int),(0:Int),(0:Int),(ByteArray.empty,ByteArray.empty,(0:Int)),([]:List Int)),ER m x 4,[])
  else (m,[],[])):=by
 unfold DO
 rw [if_pos (by rw [ZU.2 hx]; simp [h1,h2,h3])]
theorem eV {a:AA} {b:List BN} {c:List Cy} {r:AA×List BN×List Cy} (h:r=(a,b,c)):(b,c,a)=(r.2.1,r.2.2,r.1):=by rw [h]
theorem nM (m:AA) (views:List (List Int)) (x:BN) (hm:I2 m) (hv:Qg views) (hx:uK x) (h1:x.2.2.1=m.1) (h2:m.2.1<=x.2.2.2.1) (h3:x.2.2.2.1<=(views.length:Int)) :
  J8 views x m=some ((ZF m views x).2.1,(ZF m views x).2.2,(ZF m views x).1):=bQ (by
 have hvl:=hv.len
 have hep:=hm.ep
 have hxe:=hx.ep
 have hxi:=NG hx.items
 obtain ⟨l1,l2,l3⟩:=hm.lens
 have hin:=rZ hx h1 h2 h3
 unfold QY ZF
 rw [if_pos (ZU.2 hx)]
 have hV:=hv.wok (i:=(m.2.1-1).toNat) (by omega)
 generalize hVe:views.getD (m.2.1-1).toNat []=V at hV hin
 have hk:=hx.kind
 by_cases k1:x.1=1
 ·rw [if_pos (by simpa using k1),nL m views x hm hv (by omega),X,qV (by omega)]
  congr 1
  apply eV
  rw [hin]
  unfold vd
  rw [hVe]
  by_cases e:x.2.2.2.1=m.2.1
  ·rw [if_pos e,if_neg (by rw [e]; simp; omega)]
   unfold Y8
   simp [k1]
  ·rw [if_neg e]
   cases hc:(x.2.2.2.1==m.2.1+1&&m.2.2.2.1&&V.contains m.1) with
   | true =>
    rw [if_pos (by rw [k1]; simpa using hc),if_pos rfl]
   | false =>
    rw [if_neg (by rw [k1]; simpa using hc),if_neg (by simp [k1]),if_neg (by simp)]
 rw [if_neg (by simpa using k1)]
 by_cases k2:x.1=2
 ·have J:∀ b:Bool,(b=true->m.2.2.2.1=false)->De views b m x=some (if b=true then ((Bz V m.1).map (fun v=>(3,m.1,v,m.2.1,0,x.2.2.2.2.2)),[],Qm m V x.2.2.2.2.2) else ([],[],m)):=fun b hb=>XP (by
   unfold Me
   cases b with
   | false=>rw [if_neg (by simp),if_neg (by simp)]
   | true =>
    have hs:m.2.2.2.2.2.1=false:=by
     cases hh:m.2.2.2.2.2.1 with
     | false=>rfl
     | true=>have:=(hm.serves hh).1; rw [hb rfl] at this; cases this
    rw [if_pos rfl,if_pos rfl,AZ (by omega),if_pos (by omega),if_pos (by omega),hVe,Qf V _ m hV (by omega) hs,X])
  rw [if_pos (by simpa using k2),qV (by omega)]
  by_cases e:x.2.2.2.1=m.2.1
  ·rw [if_pos (by simpa using e)]
   have ho:DO m views x=(if (m.2.2.2.2.1&&!m.2.2.2.1)=true then (Qm m V x.2.2.2.2.2,(Bz V m.1).map (fun v=>(3,m.1,v,m.2.1,0,x.2.2.2.2.2)),[]) else (m,[],[])):=by
    rw [hin,if_pos e]; unfold Y8; rw [if_pos k2]
   rw [ho]
   cases hl:m.2.2.2.2.1 with
   | false=>rw [if_neg (by simp),J false (by simp),if_neg (by simp),if_neg (by simp)]
   | true =>
    rw [if_pos (by rfl),J _ (by simp)]
    cases hb:m.2.2.2.1 with
    | true=>rw [if_neg (by simp),if_neg (by simp)]
    | false=>rw [if_pos (by rfl),if_pos (by rfl)]
  ·rw [if_neg (by simpa using e),J false (by simp),if_neg (by simp)]
   congr 1
   apply eV
   rw [hin,if_neg e,if_neg (by simp [k2]),if_neg (by simp [k2])]
 rw [if_neg (by simpa using k2)]
 by_cases k3:x.1=3
 ·have hW:=hv.wok (i:=(x.2.2.2.1-1).toNat) (by omega)
  rw [if_pos (by simpa using k3),AZ (by omega),if_pos (by omega),if_pos (by omega)]
  have hx':uK (oH x):=by
   unfold oH
   rw [if_pos k3]
   exact ⟨hx.kind,hx.frm,hx.to,hx.ep,(show (0:Int)<=0/\(0:Int)<=1000000000 from by decide),hx.items,hx.shape⟩
  have hf:oH x=(x.1,x.2.1,x.2.2.1,x.2.2.2.1,0,x.2.2.2.2.2):=if_pos k3
  have hin2:=rZ (m:=m) (views:=views) hx' (by rw [hf]; exact h1) (by rw [hf]; exact h2) (by rw [hf]; exact h3)
  rw [hVe] at hin2
  generalize hWe:views.getD (x.2.2.2.1-1).toNat []=Wv at hW
  rw [eU m Wv x hW (by omega),X]
  congr 1
  apply eV
  rw [hin2,hf]
  dsimp only
  rw [hWe]
  unfold vf
  by_cases e:x.2.2.2.1=m.2.1
  ·have hVW:Wv=V:=by rw [<- hWe,<- hVe,e]
   rw [if_pos e]
   unfold Y8
   rw [if_neg (by rw [k3]; decide),if_pos k3,hVW]
   dsimp only
   cases hc:(!V.contains m.1||(V.getD 0 0==m.1)) with
   | true=>simp only [if_true]
   | false =>
    simp only [Bool.false_eq_true,if_false]
    cases hb:m.2.2.2.1<;>cases hf2:m.2.2.1<;>simp [e,ER,ve]
  ·rw [if_neg e,if_neg (by rw [k3]; simp)]
   cases hc:(!Wv.contains m.1||(Wv.getD 0 0==m.1)) with
   | true =>
    rw [if_neg (by
     intro h
     simp only [Bool.and_eq_true,bne_iff_ne,Bool.or_eq_true,Bool.not_eq_true',beq_iff_eq] at h hc
     rcases hc with hc | hc
     ·rw [hc] at h; exact absurd h.1.2 (by simp)
     ·exact h.2 hc),if_pos rfl]
   | false =>
    rw [if_pos (by
     simp only [Bool.or_eq_false_iff,Bool.not_eq_false'] at hc
     rw [k3,hc.1]
     simpa using hc.2),if_neg (by simp),if_pos (Or.inl (by omega))]
    rfl
 rw [if_neg (by simpa using k3),qV k3]
 by_cases k4:x.1=4
 ·rw [if_pos (by simpa using k4)]
  have J:∀ b:Bool,FU b m x=some (if b=true then ([],[],(m.1,m.2.1,m.2.2.1,m.2.2.2.1,m.2.2.2.2.1,m.2.2.2.1&&(((m.2.2.2.2.2.2.1.filter (· != x.2.1)).length:Int)==0),m.2.2.2.2.2.2.1.filter (· != x.2.1),m.2.2.2.2.2.2.2)) else ([],[],m)):=fun b=>XQ (by
   unfold Mf
   cases b with
   | false=>rw [if_neg (by simp),if_neg (by simp)]
   | true =>
    rw [if_pos rfl,if_pos rfl,SL _ _ (by omega),X]
    cases hs:m.2.2.2.2.2.1 with
    | true =>
     obtain ⟨q1,q2,q3⟩:=hm.serves hs
     rw [if_neg (by simp),q3,q1]
     rfl
    | false =>
     rw [if_pos rfl]
     cases hq:(((m.2.2.2.2.2.2.1.filter (· != x.2.1)).length:Int)==0) with
     | true=>rw [if_pos rfl,Bool.and_true]
     | false=>rw [if_neg (by simp),Bool.and_false])
  by_cases e:x.2.2.2.1=m.2.1
  ·rw [if_pos (by simpa using e),J]
   have ho:DO m views x=(if m.2.2.2.2.1=true then
     ((m.1,m.2.1,m.2.2.1,m.2.2.2.1,m.2.2.2.2.1,m.2.2.2.1&&(((m.2.2.2.2.2.2.1.filter (· != x.2.1)).length:Int)==0),m.2.2.2.2.2.2.1.filter (· != x.2.1),m.2.2.2.2.2.2.2),[],[]) else (m,[],[])):=by
    rw [hin,if_pos e]; unfold Y8; rw [if_neg k2,if_neg k3,if_pos k4]
   rw [ho]
   cases hl:m.2.2.2.2.1 with
   | false=>rw [if_neg (by simp),if_neg (by simp)]
   | true=>rw [if_pos rfl,if_pos rfl]
  ·rw [if_neg (by simpa using e),J,if_neg (by simp)]
   congr 1
   apply eV
   rw [hin,if_neg e,if_neg (by simp [k4]),if_neg (by simp [k4])]
 rw [if_neg (by simpa using k4)]
 have st:x.1=5\/x.1=7->qU m x=((DO m views x).2.1,(DO m views x).1)/\(DO m views x).2.2=[]:=fun hk=>by
  rw [hin]
  unfold qU
  by_cases e:x.2.2.2.1=m.2.1
  ·rw [if_pos e]
   unfold Y8 ER
   rw [if_neg k2,if_neg k3,if_neg k4,e]
   cases hb:m.2.2.2.1 with
   | true =>
    rcases hk with hk | hk
    ·rw [if_pos (by simp),if_neg (by omega),if_pos hk,if_pos rfl]
     exact ⟨rfl,rfl⟩
    ·rw [if_pos (by simp),if_pos hk,if_neg (by omega),if_pos hk,if_pos rfl]
     exact ⟨rfl,rfl⟩
   | false =>
    rcases hk with hk | hk
    ·rw [if_neg (by simp),if_pos hk,if_neg (by simp)]
     exact ⟨rfl,rfl⟩
    ·rw [if_neg (by simp),if_neg (by omega),if_pos hk,if_neg (by simp)]
     exact ⟨rfl,rfl⟩
  ·simp [e,k1,k3]
 have sd:∀ op,x.1=6/\op=1\/x.1=8/\op=2->(if (x.2.2.2.1==m.2.1&&m.2.2.2.2.2.2.2.2.2.1==op&&m.2.2.2.2.2.2.2.2.2.2.2.1==x.2.2.2.2.1)=true then ((GA m x.2.1).2.2,(GA m x.2.1).1) else ([],m))=((DO m views x).2.2,(DO m views x).1)/\(DO m views x).2.1=[]:=fun op hk=>by
  have ht:(GA m x.2.1).2.1=[]:=by unfold GA; split<;>rfl
  rw [hin]
  by_cases e:x.2.2.2.1=m.2.1
  ·rw [if_pos e]
   unfold Y8
   rw [if_neg k2,if_neg k3,if_neg k4,if_neg (show ¬ x.1=5 by omega),if_neg (show ¬ x.1=7 by omega),e]
   have hop:(if x.1=8 then (2:Int) else 1)=op:=by
    rcases hk with ⟨h,h'⟩ | ⟨h,h'⟩
    ·rw [if_neg (by omega),h']
    ·rw [if_pos h,h']
   rw [hop]
   by_cases c1:m.2.2.2.2.2.2.2.2.2.1=op
   ·by_cases c2:m.2.2.2.2.2.2.2.2.2.2.2.1=x.2.2.2.2.1
    ·rw [if_pos (by simp [c1,c2]),if_pos ⟨by omega,c1,c2⟩]
     exact ⟨rfl,ht⟩
    ·simp [c2]
   ·simp [c1]
  ·simp [e,k1,k3]
 have h7:x.1≠7->x.1=5->0<x.2.2.2.2.2.length:=fun _ h5=>by
  have:=hx.shape
  rw [if_neg (by omega),if_pos h5] at this
  omega
 have J2:∀ b:Bool,(b=true↔x.1=5\/x.1=7)->FV x.1 b m x=some ((DO m views x).2.1,(DO m views x).2.2,(DO m views x).1):=fun b hb=>XR (by
  unfold Mg
  cases b with
  | true =>
   have hk5:=hb.1 rfl
   obtain ⟨q1,q2⟩:=st hk5
   rw [if_pos rfl,j3 m x l2 (fun h=>h7 h (by omega)),X,q1,q2]
  | false =>
   have hn:¬ (x.1=5\/x.1=7):=fun h=>by have:=hb.2 h; cases this
   rw [if_neg (by simp)]
   by_cases k6:x.1=6
   ·obtain ⟨q1,q2⟩:=sd 1 (.inl ⟨k6,rfl⟩)
    rw [if_pos (by simpa using k6),UB m 1 x hm,X,q1,q2]
   ·obtain ⟨q1,q2⟩:=sd 2 (.inr ⟨by omega,rfl⟩)
    rw [if_neg (by simpa using k6),if_pos (by rw [beq_iff_eq]; omega),UB m 2 x hm,X,q1,q2])
 by_cases k5:x.1=5
 ·rw [if_pos (by simpa using k5),J2 _ (by simp [k5])]
 ·rw [if_neg (by simpa using k5),J2 _ (by simp [k5])])
theorem KK {m:AA} (h:I2 m):Ff m=some true:=by
 obtain ⟨h1,h2,h3⟩:=h.lens
 rw [bY m (by unfold maxLen; omega) (by unfold maxLen; omega) (by unfold maxLen; omega),tC.2 h]
theorem EJ {views:List (List Int)} (h:Qg views):DF views=some true:=by
 have:=h.len
 rw [eL views (by unfold maxLen; omega) (fun a ha=>by have:=(h.view ha).2; unfold maxLen; omega),h.ok]
theorem eW (m:AA) (views:List (List Int)) (x:BN) (hm:I2 m) (hv:Qg views) (hx:x.2.2.2.2.2.length<=68719476736) :
  Ld m views x=some (ZF m views x):=mf (by
 have hxm:x.2.2.2.2.2.length<=maxLen:=by unfold maxLen; omega
 unfold Yk
 rw [hm.icopy,X]
 by_cases c1:x.2.2.1=m.1
 case neg=>rw [if_neg (by simpa using c1),ZY (fun h=>c1 h.1)]
 rw [if_pos (by simpa using c1)]
 by_cases c2:x.2.2.2.1<m.2.1
 ·rw [if_neg (by simpa using c2),ZY (fun h=>by omega)]
 rw [if_pos (by simpa using c2)]
 by_cases c3:x.2.2.2.1>(views.length:Int)
 ·rw [if_neg (by simpa using c3),ZY (fun h=>by omega)]
 rw [if_pos (by simpa using c3),KK hm,X,if_pos (by rfl),EJ hv,X,if_pos (by rfl),jx x hxm,X]
 cases hmo:T6 x with
 | false=>rw [if_pos (by rfl),ZY (fun h=>by rw [hmo] at h; cases h.2.2.2)]
 | true =>
  rw [if_neg (by simp)]
  have hx':=ZU.1 hmo
  refine dh ?_
  unfold Rx
  have hok:I2 (ZF m views x).1:=by
   unfold ZF
   rw [if_pos hmo]
   exact (N4 hm hv).mok
  rw [nM m views x hm hv hx' c1 (by omega) (by omega),X,hok.icopy,X])

theorem oI (x:List Int):aq x=some (decide ((x.length:Int)>1048576)):=sQ rfl
theorem oJ (m:AA):Rd m=some (T_ m):=rQ rfl



theorem qW (x:List AM) {k k2:ByteArray} (h:k.toList=k2.toList):BD x k=BD x k2:=by
 unfold BD
 rw [h]
theorem xQ {x:List AM} {a b:AM} (hx:Ap x=true) (hb:b∈x):b.2.2<=(BD (Aj x a) b.1).2.2:=by
 have ho:=(Cm.1 hx).2.1
 have same:b.2.2<=(BD x b.1).2.2:=by rw [NF ho hb]; exact Int.le_refl _
 unfold Aj
 split
 ·exact same
 ·rename_i hs
  try rw [if_pos hx]
  split
  ·rename_i hl
   have ho':=(Cm.1 hl).2.1
   cases hk:(b.1.toList==a.1.toList) with
   | false=>rw [NF ho' (sU hb hk)]; exact Int.le_refl _
   | true =>
    rw [qW _ (beq_iff_eq.1 hk),NF ho' nB]
    have:¬ (b.2.2>=a.2.2):=fun h=>hs (List.any_eq_true.2 ⟨b,hb,by rw [hk]; simpa using h⟩)
    omega
  ·exact same

def aK (k:ByteArray) (b:AM):Bool:=b.1.toList==k.toList
theorem rc (k:ByteArray):∀ x:List AM,(x.filter (Sf k)).length+(x.filter (Of k)).length+(x.filter (aK k)).length=x.length
 | []=>rfl
 | b::x=>by
  have ih:=rc k x
  have hi:Of k b=!(Sf k b||aK k b):=rfl
  cases hl:Sf k b with
  | true =>
   have hs:aK k b=false:=by
    cases q:aK k b with
    | false=>rfl
    | true =>
     have e:b.1.toList=k.toList:=by simpa [aK] using q
     unfold Sf at hl
     rw [e,ZT] at hl
     cases hl
   simp only [List.filter_cons,hi,hl,hs,Bool.true_or,Bool.not_true,if_true,Bool.false_eq_true,if_false,List.length_cons]
   omega
  | false =>
   cases hs:aK k b with
   | true =>
    simp only [List.filter_cons,hi,hl,hs,Bool.false_or,Bool.not_true,if_true,Bool.false_eq_true,if_false,List.length_cons]
    omega
   | false =>
    simp only [List.filter_cons,hi,hl,hs,Bool.or_false,Bool.not_false,if_true,Bool.false_eq_true,if_false,List.length_cons]
    omega
def Id (x:List AM) (k:ByteArray):Bool:=x.any (aK k)
theorem nN {x:List AM} {k:ByteArray}:Id x k=true↔1<=(x.filter (aK k)).length:=by
 unfold Id
 rw [List.any_eq_true]
 constructor
 ·rintro ⟨b,hb,hs⟩
  exact List.length_pos_of_mem (List.mem_filter.2 ⟨hb,hs⟩)
 ·intro h
  obtain ⟨b,hb⟩:=List.exists_mem_of_length_pos h
  exact ⟨b,(List.mem_filter.1 hb).1,(List.mem_filter.1 hb).2⟩
theorem ZG {x:List AM} {k:ByteArray} (h:Id x k=false):BD x k=(ByteArray.empty,ByteArray.empty,0):=by
 unfold BD
 have:x.find? (fun a=>a.1.toList==k.toList)=none:=by
  rw [List.find?_eq_none]
  intro b hb hs
  have:Id x k=true:=List.any_eq_true.2 ⟨b,hb,hs⟩
  rw [h] at this
  cases this
 rw [this]
 rfl
theorem nO {x:List AM} {k:ByteArray} (h:Id x k=true):BD x k∈x/\(BD x k).1.toList=k.toList:=by
 obtain ⟨b,hb,hs⟩:=List.any_eq_true.1 h
 unfold BD
 cases q:x.find? (fun a=>a.1.toList==k.toList) with
 | none =>
  rw [List.find?_eq_none] at q
  exact absurd hs (q b hb)
 | some c=>exact ⟨List.mem_of_find?_eq_some q,by simpa using List.find?_some q⟩
theorem vj {x:List AM} {k:ByteArray} (hx:Ap x=true):XZ (.pair .str (.pair .str (.int .i64))) (BD x k) (ByteArray.empty,ByteArray.empty,(0:Int))=!Id x k:=by
 cases h:Id x k with
 | false=>rw [ZG h]; exact rW _
 | true =>
  obtain ⟨h1,h2⟩:=nO h
  have h3:=(Cm.1 hx).1 _ h1
  unfold I1 at h3
  simp only [Bool.and_eq_true,decide_eq_true_eq] at h3
  have h4:((BD x k).2.2==(0:Int))=false:=by
   rw [beq_eq_false_iff_ne]
   omega
  show ((BD x k).1.toList==_&&((BD x k).2.1.toList==_&&((BD x k).2.2==(0:Int))))=false
  rw [h4,Bool.and_false,Bool.and_false]
theorem tN {x:List AM} {a:AM} (hx:Ap x=true) (ha:I1 a=true) (hv:MN x (a.2.2-1)) :
  Aj x a=if x.length=12/\Id x a.1=false then x else Ql x a:=by
 obtain ⟨h1,h2,h3⟩:=Cm.1 hx
 have hs:XD x a=false:=by
  cases q:XD x a with
  | false=>rfl
  | true =>
   obtain ⟨b,hb,hc⟩:=List.any_eq_true.1 q
   simp only [Bool.and_eq_true,decide_eq_true_eq] at hc
   have:=hv b hb
   omega
 have hl:=rc a.1 x
 have hlen:(Ql x a).length=(x.filter (Sf a.1)).length+1+(x.filter (Of a.1)).length:=by simp [Ql]; omega
 unfold Aj
 rw [hs,if_neg (by simp),if_pos hx]
 have hk:Ap (Ql x a)=true↔(Ql x a).length<=12:=by
  rw [Cm]
  refine ⟨fun h=>h.2.2,fun h=>⟨fun b hb=>?_,bW a h2,h⟩⟩
  rcases rV hb with e | e
  ·rw [e]; exact ha
  ·exact h1 b e
 cases hh:Id x a.1 with
 | true =>
  have:=nN.1 hh
  rw [if_pos (hk.2 (by omega)),if_neg (by simp)]
 | false =>
  have h0:(x.filter (aK a.1)).length=0:=by
   rcases Nat.eq_zero_or_pos (x.filter (aK a.1)).length with e | e
   ·exact e
   ·have:=nN.2 e
    rw [hh] at this
    cases this
  by_cases h12:x.length=12
  ·rw [if_neg (fun h=>by have:=hk.1 h; omega),if_pos ⟨h12,rfl⟩]
  ·rw [if_pos (hk.2 (by omega)),if_neg (fun h=>h12 h.1)]
theorem nP {x:List AM} {a:AM} (hx:Ap x=true) (ha:I1 a=true) (hv:MN x (a.2.2-1)) :
  XZ (.pair .str (.pair .str (.int .i64))) (BD (Aj x a) a.1) a=!(decide (x.length=12)&&!Id x a.1):=by
 obtain ⟨h1,h2,h3⟩:=Cm.1 hx
 have ha2:=ha
 unfold I1 at ha2
 simp only [Bool.and_eq_true,decide_eq_true_eq] at ha2
 rw [tN hx ha hv]
 by_cases h:x.length=12/\Id x a.1=false
 ·rw [if_pos h,ZG h.2,h.2,decide_eq_true h.1]
  have h4:((0:Int)==a.2.2)=false:=by
   rw [beq_eq_false_iff_ne]
   omega
  show (_&&(_&&((0:Int)==a.2.2)))=false
  rw [h4,Bool.and_false,Bool.and_false]
 ·rw [if_neg h,NF (bW a h2) nB,rW]
  by_cases h12:x.length=12
  ·cases hh:Id x a.1 with
   | true=>simp
   | false=>exact absurd ⟨h12,hh⟩ h
  ·simp [h12]
def yj (m:AA) (views:List (List Int)):Bool:=m.2.2.2.2.2.1&&(m.2.2.2.2.2.2.2.2.2.1==0)&&decide (m.2.2.2.2.2.2.2.2.1<900)&&decide (m.2.1<=(views.length:Int))&&((views.getD (m.2.1-1).toNat []).getD 0 0==m.1)
def yk (op call:Int) (key val:ByteArray):Bool:=(op==1||op==2)&&(decide (0<=call)&&decide (call<=1000))&&(decide (1<=(key.size:Int))&&decide ((key.size:Int)<=12))&&decide ((val.size:Int)<=20)&&(op==1||rm val)
theorem nQ (m:AA) (views:List (List Int)) (op call:Int) (key val:ByteArray):U3 m views op call key val=(yj m views&&yk op call key val):=by
 unfold U3 yj yk
 ac_rfl
theorem bf (m:AA) (views:List (List Int)) (hm:I2 m) (hv:Qg views):G_ views m=some (yj m views,m):=Uw (by
 have hvl:=hv.len
 have hep:=hm.ep
 have hcnt:=hm.count
 have wm:IntKind.i64.wrap (m.2.1-1)=m.2.1-1:=AZ (by omega)
 unfold MC yj
 cases h1:m.2.2.2.2.2.1 with
 | false=>rfl
 | true =>
  rw [if_pos (by rfl)]
  by_cases h2:m.2.2.2.2.2.2.2.2.2.1=0
  ·rw [if_pos (by rw [h2]; rfl),h2]
   by_cases h3:m.2.2.2.2.2.2.2.2.1=900
   ·rw [if_neg (by rw [h3]; simp),h3]
    rfl
   ·rw [if_pos (by simpa using h3),decide_eq_true (show m.2.2.2.2.2.2.2.2.1<900 by omega)]
    by_cases h4:m.2.1>(views.length:Int)
    ·rw [if_pos (by simpa using h4),decide_eq_false (show ¬ m.2.1<=(views.length:Int) by omega)]
     rfl
    ·rw [if_neg (by simpa using h4),decide_eq_true (show m.2.1<=(views.length:Int) by omega)]
     refine Qk ?_
     have g1:=hv.get (i:=(m.2.1-1).toNat) (by omega)
     unfold I6
     rw [EJ hv,X,if_pos (by rfl),wm,if_pos (by omega),if_pos (by omega),if_pos (by omega),if_pos (by omega)]
     rfl
  ·rw [if_neg (by simpa using h2),show (m.2.2.2.2.2.2.2.2.2.1==(0:Int))=false by simpa using h2]
   rfl)
theorem nR (op call:Int) (key val:ByteArray):Lc op call key val=some (yk op call key val):=da (by
 have w:∀ b,Jp op val b=some (op==1||rm val):=fun b=>Wi (by
  unfold OV
  rw [m8]
  by_cases h:op=1
  ·rw [if_neg (by simp [h]),h]; rfl
  ·rw [if_pos (by simpa using h),show (op==1)=false by simpa using h]; rfl)
 unfold Ut yk
 have uH:decide ((val.size:Int)>20)=!decide ((val.size:Int)<=20):=by
  by_cases h:(val.size:Int)<=20
  ·rw [decide_eq_true h,decide_eq_false (by omega)]; rfl
  ·rw [decide_eq_false h,decide_eq_true (by omega)]; rfl
 have h12:(op==1||op==2)=(decide (1<=op)&&decide (op<=2)):=by
  by_cases a:op=1
  ·subst a; rfl
  ·by_cases b:op=2
   ·subst b; rfl
   ·rw [show (op==1)=false by simpa using a,show (op==2)=false by simpa using b,<- Bool.decide_and,decide_eq_false (by omega)]; rfl
 rw [Ao,X,Ao,Oe,h12]
 cases (decide (1<=op)&&decide (op<=2)) with
 | false=>rfl
 | true =>
  rw [if_pos (by rfl),X]
  cases (decide (0<=call)&&decide (call<=1000)) with
  | false=>rfl
  | true =>
   rw [if_pos (by rfl),X]
   cases (decide (1<=(key.size:Int))&&decide ((key.size:Int)<=12)) with
   | false=>rfl
   | true =>
    rw [if_pos (by rfl),uH,w]
    cases decide ((val.size:Int)<=20)<;>rfl)
theorem j4 (m:AA) (views:List (List Int)) (op call:Int) (key val:ByteArray) (hm:I2 m) (hv:Qg views) (h1:V1 views m):Pa m views op call key val=some (DP m views op call key val):=qK (by
 have hvl:=hv.len
 have hep:=hm.ep
 have hcnt:=hm.count
 have hl:=hm.lens
 have wm:IntKind.i64.wrap (m.2.1-1)=m.2.1-1:=AZ (by omega)
 have wc:IntKind.i64.wrap (m.2.2.2.2.2.2.2.2.1+1)=m.2.2.2.2.2.2.2.2.1+1:=AZ (by omega)
 have wk:IntKind.i64.wrap (1000*m.2.1)=1000*m.2.1:=AZ (by omega)
 have wv:IntKind.i64.wrap (1000*m.2.1+(m.2.2.2.2.2.2.2.2.1+1))=1000*m.2.1+(m.2.2.2.2.2.2.2.2.1+1):=AZ (by omega)
 unfold dl DP
 rw [KK hm,X,if_pos (by rfl),bf m views hm hv,X,nR,nQ]
 cases hb:yj m views with
 | false=>rfl
 | true =>
  dsimp only
  rw [if_pos (by rfl),X]
  cases ha:yk op call key val with
  | false=>rfl
  | true =>
   rw [if_neg (by simp),if_pos (by rfl)]
   have hmay:U3 m views op call key val=true:=by rw [nQ,hb,ha]; rfl
   obtain ⟨s1,s2,s3,s4,s5,s6,s7,s8,s9,s10⟩:=ZW hmay
   obtain ⟨b1,b2,_⟩:=hm.serves s1
   have hw:=hv.wok (i:=(m.2.1-1).toNat) (by omega)
   have hwl:=hw.len
   have hrl:=HJ (views.getD (m.2.1-1).toNat []) m.1
   have ho:=iW hw m.1
   have hone:I1 (GC m key val)=true:=(Cm.1 (nF hm s3 s6 s7)).1 _ (by simp)
   have href:=nP (a:=GC m key val) hm.items hone ((h1.own b2 b1).mono (by show _<=1000*m.2.1+(m.2.2.2.2.2.2.2.2.1+1)-1; omega))
   have hz:=vj (k:=key) hm.items
   have J1:∀ b z,HQ views op call b m z (m.1,m.2.1,m.2.2.1,m.2.2.2.1,m.2.2.2.2.1,m.2.2.2.2.2.1,m.2.2.2.2.2.2.1,m.2.2.2.2.2.2.2.1,m.2.2.2.2.2.2.2.2.1+1,m.2.2.2.2.2.2.2.2.2) (key,val,1000*m.2.1+(m.2.2.2.2.2.2.2.2.1+1))=some (Qd m (views.getD (m.2.1-1).toNat []) op call key val):=fun b z=>jQ (by
    unfold Wn
    rw [wm,if_pos (by omega),if_pos (by omega),NI _ _ (by omega),X,Cc (by show (Bz (views.getD (m.2.1-1).toNat []) m.1).length<=_; omega),X]
    have hsort:=hO hw m.1
    change ((Cn (Bz (views.getD (m.2.1-1).toNat []) m.1)).bind _)=_
    rw [hsort,X]
    have J2:∀ a c d e x,(∀ q:BN,q=x->q.2.2.2.2.2.length<=12)->(tM (GL m (views.getD (m.2.1-1).toNat []) op call key val) (Bz (views.getD (m.2.1-1).toNat []) m.1) x=nE m (views.getD (m.2.1-1).toNat []) op key val) ->
      Jq (Bz (views.getD (m.2.1-1).toNat []) m.1) a c (GL m (views.getD (m.2.1-1).toNat []) op call key val) d e x=some (Qd m (views.getD (m.2.1-1).toNat []) op call key val):=fun a c d e x hx12 htell=>jP (by
     have hx:=hx12 x rfl
     unfold Wm Qd
     by_cases h0:(Bz (views.getD (m.2.1-1).toNat []) m.1).length=0
     ·rw [if_pos (by simpa using h0),if_pos (List.length_eq_zero_iff.1 (by rw [ho,h0])),ZE _ (by show m.2.2.2.2.2.2.2.1.length<=_; omega),X]
     ·rw [if_neg (by simpa using h0),if_neg (fun e=>h0 (by rw [<- ho,e]; rfl)),CN _ _ _ (by omega) (by omega),X,htell]
      exact ew)
    by_cases hop:op=1
    ·rw [if_pos (by simpa using hop)]
     refine J2 _ _ _ _ _ (fun q e=>by subst e; simp) ?_
     unfold tM nE
     simp only [hop,if_true]
     rfl
    ·rw [if_neg (by simpa using hop)]
     refine J2 _ _ _ _ _ (fun q e=>by subst e; simp) ?_
     unfold tM nE
     simp only [hop,if_false]
     rfl)
   refine jR ?_
   unfold Wo
   rw [hm.icopy,X,wc,wk,wv]
   by_cases hop:op=1
   ·rw [if_pos (by simpa using hop)]
    by_cases h12:m.2.2.2.2.2.2.2.1.length=12
    ·rw [if_pos (by simp only [beq_iff_eq]; omega),T1 _ _ (by unfold maxLen; omega),X]
     change (if (false != XZ (.pair .str (.pair .str (.int .i64))) (BD m.2.2.2.2.2.2.2.1 key) (ByteArray.empty,ByteArray.empty,(0:Int)))=true then _ else _)=_
     rw [hz]
     rw [h12] at href
     cases hh:Id m.2.2.2.2.2.2.2.1 key with
     | false =>
      have hh2:Id m.2.2.2.2.2.2.2.1 (GC m key val).1=false:=hh
      rw [hh2] at href
      rw [if_pos (by rfl),if_pos ⟨hop,href⟩]
      rfl
     | true =>
      have hh2:Id m.2.2.2.2.2.2.2.1 (GC m key val).1=true:=hh
      rw [hh2] at href
      rw [if_neg (by simp),if_neg (fun h=>by have:=h.2; change XZ (.pair .str (.pair .str (.int .i64))) (BD _ (GC m key val).1) _=false at this; rw [href] at this; cases this)]
      exact J1 _ _
    ·rw [if_neg (by simp; omega),if_neg (fun h=>by
      have:=h.2
      change XZ (.pair .str (.pair .str (.int .i64))) (BD _ (GC m key val).1) _=false at this
      rw [href,decide_eq_false h12] at this
      cases this)]
     exact J1 _ _
   ·rw [if_neg (by simpa using hop),if_neg (fun h=>hop h.1)]
    exact J1 _ _)

def qX (m:AA) (views:List (List Int)) (e:Int):AA×List BN×Bool :=
 if 2<=e/\e<=(views.length:Int)/\m.2.1<e/\(views.getD (e-1).toNat []).getD 0 0=m.1 then
  if (m.2.2.2.1&&(m.2.1==e-1))=true then
   (Qm (Ku m e) (views.getD (e-1).toNat []) m.2.2.2.2.2.2.2.1,(Bz (views.getD (e-1).toNat []) m.1).map (fun v=>(3,m.1,v,e,0,m.2.2.2.2.2.2.2.1)),true)
  else (Ku m e,(Bz (views.getD (e-2).toNat []) m.1).map (fun v=>(1,m.1,v,e,0,[])),true)
 else (Jd,[],false)
theorem j5 (m:AA) (views:List (List Int)) (e:Int) (hm:I2 m) (hv:Qg views):Pb m views e=some (qX m views e):=qL (by
 have hvl:=hv.len
 have hep:=hm.ep
 have hl:=hm.lens
 unfold dp qX
 rw [KK hm,X,if_neg (by simp),EJ hv,X,if_neg (by simp),Ao,X]
 by_cases h1:2<=e/\e<=(views.length:Int)
 case neg =>
  rw [if_pos (by rw [<- Bool.decide_and,decide_eq_false h1]; rfl),if_neg (fun h=>h1 ⟨h.1,h.2.1⟩)]
  rfl
 have we:IntKind.i64.wrap (e-1)=e-1:=AZ (by omega)
 have we2:IntKind.i64.wrap (e-2)=e-2:=AZ (by omega)
 rw [if_neg (by rw [<- Bool.decide_and,decide_eq_true h1]; simp),we]
 by_cases h2:m.2.1<e
 case neg =>
  rw [if_pos (by simp; omega),if_neg (fun h=>h2 h.2.2.1)]
  rfl
 have g1:=hv.get (i:=(e-1).toNat) (by omega)
 have hw:=hv.wok (i:=(e-1).toNat) (by omega)
 have hw2:=hv.wok (i:=(e-2).toNat) (by omega)
 have hwl:=hw2.len
 rw [if_neg (by simp; omega),if_pos (by omega),if_pos (by omega),if_pos (by omega),if_pos (by omega)]
 by_cases h3:(views.getD (e-1).toNat []).getD 0 0=m.1
 case neg =>
  rw [if_pos (by simpa using h3),if_neg (fun h=>h3 h.2.2.2)]
  rfl
 rw [if_neg (by simpa using h3),if_pos ⟨h1.1,h1.2,h2,h3⟩]
 refine jU ?_
 unfold Wr
 rw [hm.icopy,X,we]
 have J1:∀ b z,Jr views e b m z m=some (if b=true then (Qm (Ku m e) (views.getD (e-1).toNat []) m.2.2.2.2.2.2.2.1,(Bz (views.getD (e-1).toNat []) m.1).map (fun v=>(3,m.1,v,e,0,m.2.2.2.2.2.2.2.1)),true)
   else (Ku m e,(Bz (views.getD (e-2).toNat []) m.1).map (fun v=>(1,m.1,v,e,0,[])),true)):=fun b z=>jT (by
  unfold Wq
  rw [Sd,X,we,we2]
  cases b with
  | true =>
   rw [if_pos rfl,if_pos (by omega),if_pos (by omega)]
   change ((DI (views.getD (e-1).toNat []) m.2.2.2.2.2.2.2.1 (Ku m e)).bind _)=_
   rw [Qf _ _ (Ku m e) hw (by omega) rfl,X]
   rfl
  | false =>
   rw [if_neg (by simp),if_pos (by omega),if_pos (by omega)]
   change qe ((B3 (views.getD (e-2).toNat []) (Ku m e)).bind _) ((B3 (views.getD (e-2).toNat []) (Ku m e)).bind _)=_
   have hrl:=HJ (views.getD (e-2).toNat []) m.1
   rw [NI _ (Ku m e) (by omega),X,X,CN _ _ (Ku m e) (by show (Bz (views.getD (e-2).toNat []) m.1).length<=_; omega) (by simp),X,X,X,ew]
   exact ew)
 cases hb:m.2.2.2.1 with
 | true=>rw [if_pos rfl,J1,Bool.true_and]
 | false=>rw [if_neg (by simp),J1,Bool.false_and])
theorem Zz (id:Int) (views:List (List Int)) (hi:1<=id/\id<=6) (hv:Qg views):Mw id views=some (D9 id views,true):=gE (by
 have hvl:=hv.len
 have g:=hv.get (i:=0) (by omega)
 unfold Tc
 rw [E8,X,if_pos (by rw [<- Bool.decide_and,decide_eq_true hi]; rfl),EJ hv,X,if_neg (by simp)]
 refine Zl ?_
 unfold O4
 rw [show views.getD (0:Int).toNat ([]:List Int)=views.getD 0 [] from rfl,ZB _ _ (by unfold maxLen; omega),X]
 repeat rw [if_pos (by omega)]
 rfl)

theorem PI (x:List (List Int)) (h:x.length<=1000) (ho:∀ a∈x,a.length<=1000):Ir x=some x:=gD (by
 have key:=GJ (n:=x.length) (P:=fun i=>GQ x (x.length:Int) (i:Int) (x.take i)=some x) (O2 (by
  unfold JF
  rw [if_neg (by simp),List.take_length])) (fun i hi ih=>O2 (by
  unfold JF
  have hb:=ho x[i] (List.getElem_mem hi)
  simp only [show ((i:Int)<(x.length:Int)) from by omega,decide_true,if_true,show (0:Int)<=(i:Int) from by omega,Int.toNat_natCast,AR hi,AO (show i<9223372036854775807 by omega)]
  rw [Cc (by omega),X,if_pos (by simp; omega),List.take_append_getElem]
  exact ih)) 0 (by omega)
 unfold Tb
 exact key)
theorem GS (g:AT) (k:Nat) (hg:JN g k) (hk:k<=10000):Cb g=some g:=fu (by
 have hvl:=hg.views.len
 have hc:=hg.clen
 have hf:=hg.flen
 have h6:=hg.six
 unfold TQ
 rw [PI g.1 (by omega) (fun a ha=>by have:=hg.views.view ha; omega),X,KA (by omega),X]
 have key2:∀ a b c d e f h k,EV g.2.2.1 (g.2.2.1.length:Int) ((0:Nat):Int) a b c d e f h k g.2.1 [] g.2.2.2 g.1=some g:=by
  intro a b c d e f h k
  have key':=GJ (n:=g.2.2.1.length) (P:=fun i=>EV g.2.2.1 (g.2.2.1.length:Int) (i:Int) a b c d e f h k g.2.1 (g.2.2.1.take i) g.2.2.2 g.1=some g) (O0 (by
   unfold JD
   rw [if_neg (by simp),List.take_length])) (fun i hi ih=>O0 (by
   unfold JD
   have hm:=NG (hg.fly _ (List.getElem_mem hi)).items
   have hz:g.2.2.1.getD i ((0:Int),(0:Int),(0:Int),(0:Int),(0:Int),([]:List AM))=g.2.2.1[i]:=AR hi
   simp only [show ((i:Int)<(g.2.2.1.length:Int)) from by omega,decide_true,if_true,show (0:Int)<=(i:Int) from by omega,Int.toNat_natCast,hz,AO (show i<9223372036854775807 by omega)]
   rw [MO _ (by omega),X,if_pos (by simp; omega),List.take_append_getElem]
   exact ih)) 0 (by omega)
  exact key'
 have key0:∀ a b c d e f h,EW g.2.1 (g.2.1.length:Int) ((0:Nat):Int) a b g.2.2.1 c d e f h [] [] g.2.2.2 g.1=some g:=by
  intro a b c d e f h
  have key':=GJ (n:=g.2.1.length) (P:=fun i=>EW g.2.1 (g.2.1.length:Int) (i:Int) a b g.2.2.1 c d e f h (g.2.1.take i) [] g.2.2.2 g.1=some g) (O1 (by
   unfold JE
   rw [if_neg (by simp),List.take_length]
   refine Zj ?_
   unfold Oz
   exact key2 _ _ _ _ _ _ _ _)) (fun i hi ih=>O1 (by
   unfold JE
   have hm:=(hg.mem i (by omega)).1
   unfold BX at hm
   rw [AR hi] at hm
   have hz:g.2.1.getD i ((0:Int),(0:Int),false,false,false,false,([]:List Int),([]:List AM),(0:Int),(0:Int),(0:Int),(0:Int),(ByteArray.empty,ByteArray.empty,(0:Int)),([]:List Int))=g.2.1[i]:=AR hi
   simp only [show ((i:Int)<(g.2.1.length:Int)) from by omega,decide_true,if_true,show (0:Int)<=(i:Int) from by omega,Int.toNat_natCast,hz,hm.icopy,X,AO (show i<9223372036854775807 by omega)]
   rw [if_pos (by simp; omega),List.take_append_getElem]
   exact ih)) 0 (by omega)
  exact key'
 exact key0 _ _ _ _ _ _ _)
theorem eX {views:List (List Int)} (hv:Qg views):OC views=some (Av views,true):=jJ (by
 have hvl:=hv.len
 unfold We
 rw [EJ hv,X,if_neg (by simp),PI views (by omega) (fun a ha=>by have:=hv.view ha; omega),X]
 have step:∀ (i:Nat) (a:_) (b:_) (c:_) (d:_) (l:List AA) r,1<=i->i<=6->l.length<=6->FI views ((i+1:Nat):Int) a b c d (l++[D9 (i:Int) views]) [] [] views=some r->FI views (i:Int) a b c d l [] [] views=some r:=by
  intro i a b c d l r h1 h6 hl hr
  refine QP ?_
  unfold KE
  rw [if_pos (by simp; omega),Zz _ _ (by omega) hv,X,if_pos (by simp; omega),AO (show i<9223372036854775807 by omega)]
  exact hr
 refine step 1 _ _ _ _ _ _ (by omega) (by omega) (by simp) ?_
 refine step 2 _ _ _ _ _ _ (by omega) (by omega) (by simp) ?_
 refine step 3 _ _ _ _ _ _ (by omega) (by omega) (by simp) ?_
 refine step 4 _ _ _ _ _ _ (by omega) (by omega) (by simp) ?_
 refine step 5 _ _ _ _ _ _ (by omega) (by omega) (by simp) ?_
 refine step 6 _ _ _ _ _ _ (by omega) (by omega) (by simp) ?_
 refine QP ?_
 unfold KE
 rw [if_neg (by decide)]
 rfl)
theorem Ep {k:Nat} (id:Int) (g:AT) (ms:JN g k) (hi:1<=id/\id<=6):Bp id g=some (id-1,g):=Zm (by
 have h6:=ms.six
 have step:∀ j (hj:j<6),Hc (g.2.1.getD j ((0:Int),(0:Int),false,false,false,false,([]:List Int),([]:List AM),(0:Int),(0:Int),(0:Int),(0:Int),(ByteArray.empty,ByteArray.empty,(0:Int)),([]:List Int))) id=some ((j:Int)+1==id):=fun j hj=>XO (by
  unfold Md
  have:=(ms.mem j hj).2
  unfold BX at this
  change some ((g.2.1.getD j Jd).1==id)=_
  rw [this])
 have key:∀ (d j:Nat),j+d=5->(j:Int)+1<=id->BE g.2.1 id (g.2.1.length:Int) (j:Int)=some (id-1):=by
  intro d
  induction d with
  | zero =>
   intro j hj hle
   refine Cx ?_
   unfold Bl
   rw [if_pos (by simp; omega),if_pos (by omega),if_pos (by omega),Int.toNat_natCast,step j (by omega),X,if_pos (by simp; omega)]
   congr 1; omega
  | succ d ih =>
   intro j hj hle
   refine Cx ?_
   unfold Bl
   rw [if_pos (by simp; omega),if_pos (by omega),if_pos (by omega),Int.toNat_natCast,step j (by omega),X]
   by_cases e:(j:Int)+1=id
   ·rw [if_pos (by simpa using e)]
    congr 1; omega
   ·rw [if_neg (by simpa using e),AO (by omega)]
    exact ih (j+1) (by omega) (by omega)
 unfold O5
 rw [show B_ g.2.1 id=some (id-1) from HG (by
  unfold DM
  exact key 5 0 rfl (by omega)),X])
theorem Ie (told:List BN) (said:List Cy) (at_:Int) (g:AT) (hf:g.2.2.1.length+told.length<=68719476736) (hc:g.2.2.2.length<=68719476736) (hs:g9 said) (hd:∀ c∈g.2.2.2,c.2.2.2.2.1=-1\/0<=c.2.2.2.2.1) :
  Fx told said at_ g=some (g.1,g.2.1,g.2.2.1++told,said.foldl (ID at_) g.2.2.2):=di (by
 have hsl:=hs.1
 unfold Ry
 rw [if_pos hf]
 have fin:∀ (n:Nat) (cs:List Kl),n=said.length->CR at_ said (said.length:Int) (n:Int) g.1 g.2.1 (g.2.2.1++told) cs=some (g.1,g.2.1,g.2.2.1++told,cs):=fun n cs hn=>Nt (by
  unfold IS
  rw [if_neg (by simp; omega)])
 match said,hs,hsl,fin with
 | [],_,_,fin=>exact fin 0 _ rfl
 | [s],hs,_,fin =>
  have h0:=(hs.2 s (by simp)).1
  refine Nt ?_
  unfold IS
  have wl:IntKind.i64.wrap ((g.2.2.2.length:Int)-1)=(g.2.2.2.length:Int)-1:=AZ (by omega)
  rw [if_pos (by simp),if_pos (by omega),if_pos (by simp)]
  change ((Af s.1 0 (IntKind.i64.wrap ((g.2.2.2.length:Int)-1))).bind _)=_
  rw [Ao,X,wl,AZ (show -9223372036854775808<=(0:Int)+1/\(0:Int)+1<=9223372036854775807 by omega)]
  show _=some (g.1,g.2.1,g.2.2.1++told,ID at_ g.2.2.2 s)
  have f1:=fun cs=>fin 1 cs rfl
  by_cases c1:s.1>=(g.2.2.2.length:Int)
  ·rw [if_pos (by rw [<- Bool.decide_and,decide_eq_false (by omega)]; rfl)]
   have:ID at_ g.2.2.2 s=g.2.2.2:=by unfold ID; rw [if_pos (by simp [c1])]
   rw [this]
   exact f1 _
  ·rw [if_neg (by rw [<- Bool.decide_and,decide_eq_true (by omega)]; simp)]
   change (if 0<=s.1 then (if s.1<(g.2.2.2.length:Int) then (if ((g.2.2.2.getD s.1.toNat ES).2.2.2.2.1 != -1)=true then _ else _) else _) else _)=_
   rw [if_pos h0,if_pos (by omega)]
   have hcl:s.1.toNat<g.2.2.2.length:=by omega
   have hdd:=hd (g.2.2.2.getD s.1.toNat ES) (by rw [AR hcl]; exact List.getElem_mem _)
   by_cases c2:(g.2.2.2.getD s.1.toNat ES).2.2.2.2.1>=0
   ·rw [if_pos (by simp only [bne_iff_ne,ne_eq]; omega)]
    have:ID at_ g.2.2.2 s=g.2.2.2:=by unfold ID; rw [if_pos (by rw [decide_eq_true c2,Bool.or_true])]
    rw [this]
    exact f1 _
   ·rw [if_neg (by simp only [bne_iff_ne,ne_eq]; omega)]
    have e:ID at_ g.2.2.2 s=g.2.2.2.set s.1.toNat (Qe at_ s (g.2.2.2.getD s.1.toNat ES)):=by unfold ID; rw [if_neg (by rw [decide_eq_false c1,decide_eq_false c2]; simp)]
    rw [e]
    refine Yl ?_
    unfold Ns
    have hz2:∀ (l:List Kl),l.getD s.1.toNat ((0:Int),ByteArray.empty,ByteArray.empty,(0:Int),(0:Int),(0:Int),(0:Int),(0:Int),ByteArray.empty)=l.getD s.1.toNat ES:=fun l=>rfl
    have hz3:([s]:List Cy).getD (0:Int).toNat ((0:Int),(0:Int),(0:Int),ByteArray.empty,ByteArray.empty,(0:Int))=s:=rfl
    simp only [hz3,hz2,qR hcl,List.set_set,List.length_set]
    rw [if_pos h0,if_pos (by omega),AZ (show -9223372036854775808<=(0:Int)+1/\(0:Int)+1<=9223372036854775807 by omega)]
    unfold Qe
    by_cases c3:(g.2.2.2.getD s.1.toNat ES).1=2
    ·rw [if_pos (show ((g.2.2.2.getD s.1.toNat ES).1==2)=true by simpa using c3),if_pos (show ((g.2.2.2.getD s.1.toNat ES).1==2)=true by simpa using c3)]
     exact f1 _
    ·rw [if_neg (show ¬ ((g.2.2.2.getD s.1.toNat ES).1==2)=true by simpa using c3),if_neg (show ¬ ((g.2.2.2.getD s.1.toNat ES).1==2)=true by simpa using c3)]
     exact f1 _
 | _::_::_,_,hsl,_=>simp at hsl)

theorem JN.call {g:AT} {k:Nat} (h:JN g k) (at_:Int) (e:D_):JN (Gy g at_ e) (k+1) :=
 ⟨h.views,h.six,h.mem,h.fly,by have:=h.flen; show g.2.2.1.length<=_; omega,by have:=h.clen; simp only [Gy,List.length_append,List.length_cons,List.length_nil]; omega⟩
theorem XW (at_:Int) (e:D_) (g:AT) (k:Nat) (hg:JN g k) (hk:k<=1000) (h3:V3 g) (hn:1<=e.2.1/\e.2.1<=6):J6 e at_ g=some ((JO g at_ e).1==0,(JO g at_ e).2):=bK (by
 have hc:=hg.clen
 have hf:=hg.flen
 have h6:=hg.six
 have hgc:=hg.call at_ e
 have h3c:=h3.call at_ e
 obtain ⟨m1,m2⟩:=hg.mem (e.2.1-1).toNat (by omega)
 have hb:=ZX (op:=e.2.2.2.1) (call:=(g.2.2.2.length:Int)) (key:=e.2.2.2.2.1) (val:=e.2.2.2.2.2) m1 hg.views
 unfold QV JO
 rw [if_pos (by simp; omega)]
 change ((Bp e.2.1 (Gy g at_ e)).bind _)=_
 rw [Ep e.2.1 _ hgc hn,X]
 change (if 0<=e.2.1-1 then (if e.2.1-1<(g.2.1.length:Int) then ((Pa (BX g (e.2.1-1).toNat) g.1 e.2.2.2.1 (g.2.2.2.length:Int) e.2.2.2.2.1 e.2.2.2.2.2).bind _) else none) else none)=_
 rw [if_pos (by omega),if_pos (by omega),j4 _ _ _ _ _ _ m1 hg.views (h3.mem _ (by omega)),X]
 cases hq:(DP (BX g (e.2.1-1).toNat) g.1 e.2.2.2.1 (g.2.2.2.length:Int) e.2.2.2.2.1 e.2.2.2.2.2).2.2.2 with
 | false=>rfl
 | true =>
  have hid:=hb.id hq
  have htl:=hb.tlen
  rw [if_neg (by simp),if_pos rfl]
  change (if 0<=e.2.1-1 then (if e.2.1-1<(g.2.1.length:Int) then _ else none) else none)=_
  rw [if_pos (by omega),if_pos (by omega)]
  dsimp only
  have:=Ie (DP (BX g (e.2.1-1).toNat) g.1 e.2.2.2.1 (g.2.2.2.length:Int) e.2.2.2.2.1 e.2.2.2.2.2).2.1 (DP (BX g (e.2.1-1).toNat) g.1 e.2.2.2.1 (g.2.2.2.length:Int) e.2.2.2.2.1 e.2.2.2.2.2).2.2.1 at_
   ((Gy g at_ e).1,(Gy g at_ e).2.1.set (e.2.1-1).toNat (DP (BX g (e.2.1-1).toNat) g.1 e.2.2.2.1 (g.2.2.2.length:Int) e.2.2.2.2.1 e.2.2.2.2.2).1,(Gy g at_ e).2.2.1,(Gy g at_ e).2.2.2) (by show g.2.2.1.length+_<=_; omega) (by simp only [Gy,List.length_append,List.length_cons,List.length_nil]; omega) hb.said h3c.calls
  rw [this,X]
  unfold BF
  rw [hid,m2,show (((e.2.1-1).toNat:Int)+1-1).toNat=(e.2.1-1).toNat by omega]
  rfl)
theorem uN {m:AA} {views:List (List Int)} {e:Int} (h:V1 views m):qX m views e=Eo m views e:=by
 unfold qX Eo
 split
 ·cases hb:m.2.2.2.1 with
  | false=>rfl
  | true =>
   have hv:=(h.view hb).2
   by_cases he:m.2.1=e-1
   ·rw [show (e-2).toNat=(m.2.1-1).toNat by omega,hv,show (m.2.1==e-1)=true by simpa using he]
    rfl
   ·rw [show (m.2.1==e-1)=false by simpa using he]
    rfl
 ·rfl
theorem XX (at_:Int) (e:D_) (g:AT) (k:Nat) (hg:JN g k) (hk:k<=1000) (h3:V3 g) (hn:1<=e.2.1/\e.2.1<=6):J7 e at_ g=some ((Y_ g at_ e.2.1).1==0,(Y_ g at_ e.2.1).2):=bL (by
 have hc:=hg.clen
 have hf:=hg.flen
 have h6:=hg.six
 have hvl:=hg.views.len
 obtain ⟨m1,m2⟩:=hg.mem (e.2.1-1).toNat (by omega)
 have hep:=m1.ep
 have h1:=h3.mem (e.2.1-1).toNat (by omega)
 unfold QW Y_
 rw [Ep e.2.1 g hg hn,X]
 change (if 0<=e.2.1-1 then (if e.2.1-1<(g.2.1.length:Int) then Dd at_ (e.2.1-1) (IntKind.i64.wrap ((BX g (e.2.1-1).toNat).2.1+1)) g.1 g.2.1 g.2.2.1 g.2.2.2 e else none) else none)=_
 rw [if_pos (by omega),if_pos (by omega),AZ (by omega)]
 have key:∀ (n:Nat) (ep:Int),1<=ep->ep+(n:Int)=(g.1.length:Int)+1->Dd at_ (e.2.1-1) ep g.1 g.2.1 g.2.2.1 g.2.2.2 e=some ((Ic g at_ (BX g (e.2.1-1).toNat) e.2.1 n ep).1==0,(Ic g at_ (BX g (e.2.1-1).toNat) e.2.1 n ep).2):=by
  intro n
  induction n with
  | zero =>
   intro ep h1 h2
   refine Hg ?_
   unfold FT
   rw [if_neg (by simp; omega)]
   rfl
  | succ n ih =>
   intro ep hp1 hp2
   refine Hg ?_
   unfold FT Ic
   have we:IntKind.i64.wrap (ep-1)=ep-1:=AZ (by omega)
   have g1:=hg.views.get (i:=(ep-1).toNat) (by omega)
   rw [if_pos (by simp; omega),we,if_pos (by omega),if_pos (by omega),if_pos (by omega),if_pos (by omega)]
   change (if ((g.1.getD (ep-1).toNat []).getD 0 0 != e.2.1)=true then _ else _)=_
   by_cases hq:((g.1.getD (ep-1).toNat []).getD 0 0 != e.2.1)=true
   ·rw [if_pos hq,if_pos hq,AZ (by omega)]
    exact ih (ep+1) (by omega) (by omega)
   ·rw [if_neg hq,if_neg hq,if_pos (by omega),if_pos (by omega)]
    change ((Pb (BX g (e.2.1-1).toNat) g.1 ep).bind _)=_
    rw [j5 _ _ _ m1 hg.views,X,uN h1]
    cases hb:(Eo (BX g (e.2.1-1).toNat) g.1 ep).2.2 with
    | false=>rfl
    | true =>
     have ha:=T9 (e:=ep) m1 hg.views hb
     have hal:=ha.2.2.2
     rw [if_pos rfl,if_pos rfl,if_pos (by omega),if_pos (by omega)]
     dsimp only
     have:=Ie (Eo (BX g (e.2.1-1).toNat) g.1 ep).2.1 [] at_ (g.1,g.2.1.set (e.2.1-1).toNat (Eo (BX g (e.2.1-1).toNat) g.1 ep).1,g.2.2.1,g.2.2.2) (by show g.2.2.1.length+_<=_; omega) (by show g.2.2.2.length<=_; omega) FQ h3.calls
     rw [this,X]
     unfold BF
     rw [ha.2.1,m2,show (((e.2.1-1).toNat:Int)+1-1).toNat=(e.2.1-1).toNat by omega]
     rfl
 by_cases hle:(BX g (e.2.1-1).toNat).2.1<=(g.1.length:Int)
 ·exact key _ _ (by omega) (by omega)
 ·have e0:((g.1.length:Int)-(BX g (e.2.1-1).toNat).2.1).toNat=0:=by omega
  rw [e0]
  refine Hg ?_
  unfold FT
  rw [if_neg (fun h=>hle (by have:=of_decide_eq_true h; omega))]
  rfl)
def HT (g:AT) (i:Nat) (at_:Int):AT:=BF (Ec g i)
 (DO (BX g ((g.2.2.1.getD i Cr).2.2.1-1).toNat) g.1 (g.2.2.1.getD i Cr)).1 (DO (BX g ((g.2.2.1.getD i Cr).2.2.1-1).toNat) g.1 (g.2.2.1.getD i Cr)).2.1 (DO (BX g ((g.2.2.1.getD i Cr).2.2.1-1).toNat) g.1 (g.2.2.1.getD i Cr)).2.2 at_
theorem Km (at_:Int) (i:Nat) (g:AT) (k:Nat) (hg:JN g k) (hk:k<=10000) (h3:V3 g) (hi:i<g.2.2.1.length):D4 (i:Int) at_ g=some (HT g i at_):=Yb (by
 have hc:=hg.clen
 have hf:=hg.flen
 have h6:=hg.six
 have hmem:g.2.2.1.getD i Cr∈g.2.2.1:=by rw [AR hi]; exact List.getElem_mem _
 have hx:=hg.fly _ hmem
 have hv2:=h3.fly _ hmem
 unfold No HT
 rw [if_pos (by omega),if_pos (by omega),AO (by omega)]
 change ((Ba g.2.2.1 (i:Int) ((i+1:Nat):Int)).bind fun y1=>((Bp (g.2.2.1.getD i Cr).2.2.1 (g.1,g.2.1,y1,g.2.2.2)).bind _))=_
 rw [FZ (by omega) (by omega),X]
 have hto:=hx.to
 generalize hxx:g.2.2.1.getD i Cr=x at *
 obtain ⟨m1,m2⟩:=hg.mem (x.2.2.1-1).toNat (by omega)
 have hho:=N4 (x:=x) m1 hg.views
 have hil:=NG hx.items
 change ((Bp x.2.2.1 (Ec g i)).bind _)=_
 rw [Ep x.2.2.1 (Ec g i) (hg.less i) hto,X]
 change (if decide (x.2.2.1-1>=0)=true then (if 0<=x.2.2.1-1 then (if x.2.2.1-1<(g.2.1.length:Int) then ((Ld (BX g (x.2.2.1-1).toNat) g.1 (g.2.2.1.getD (i:Int).toNat Cr)).bind _) else none) else none) else _)=_
 rw [Int.toNat_natCast,hxx,if_pos (by simp; omega),if_pos (by omega),if_pos (by omega),eW _ _ _ m1 hg.views (by omega),X]
 have hhi:ZF (BX g (x.2.2.1-1).toNat) g.1 x=DO (BX g (x.2.2.1-1).toNat) g.1 x:=by
  unfold ZF
  rw [if_pos (ZU.2 hx),vh hv2.inst]
 rw [hhi]
 change (if 0<=x.2.2.1-1 then (if x.2.2.1-1<(g.2.1.length:Int) then _ else none) else none)=_
 rw [if_pos (by omega),if_pos (by omega)]
 dsimp only
 have htl:=hho.tlen
 have:=Ie (DO (BX g (x.2.2.1-1).toNat) g.1 x).2.1 (DO (BX g (x.2.2.1-1).toNat) g.1 x).2.2 at_
  ((Ec g i).1,(Ec g i).2.1.set (x.2.2.1-1).toNat (DO (BX g (x.2.2.1-1).toNat) g.1 x).1,(Ec g i).2.2.1,(Ec g i).2.2.2) (by
   have:(Ec g i).2.2.1.length<=g.2.2.1.length:=by simp only [Ec,List.length_append,List.length_take,List.length_drop]; omega
   show (Ec g i).2.2.1.length+_<=_; omega) (by show g.2.2.2.length<=_; omega) hho.said h3.calls
 rw [this,X]
 unfold BF
 rw [hho.id,m2,show (((x.2.2.1-1).toNat:Int)+1-1).toNat=(x.2.2.1-1).toNat by omega])
theorem XY (at_:Int) (e:D_) (g:AT) (k:Nat) (hg:JN g k) (hk:k<=1000) (h3:V3 g) (he:MS e=true):G8 e at_ g=some ((nH g at_ e).1==0,(nH g at_ e).2):=bA (by
 have hn:=eP he
 have h6:=hg.six
 have hf:=hg.flen
 unfold QQ nH
 by_cases h1:e.1=1
 ·rw [if_pos (by simpa using h1),if_pos h1,XW at_ e g k hg hk h3 (by omega)]; rfl
 rw [if_neg (by simpa using h1),if_neg h1]
 by_cases h5:e.1=5
 ·rw [if_pos (by simpa using h5),if_pos h5,XX at_ e g k hg hk h3 (by omega)]; rfl
 rw [if_neg (by simpa using h5),if_neg h5]
 by_cases h7:e.1=6
 ·obtain ⟨m1,m2⟩:=hg.mem (e.2.1-1).toNat (by omega)
  rw [if_pos (by simpa using h7),if_pos h7,Ep e.2.1 g hg (by omega),X]
  change (if 0<=e.2.1-1 then (if e.2.1-1<(g.2.1.length:Int) then ((Rd (BX g (e.2.1-1).toNat)).bind _) else none) else none)=_
  rw [if_pos (by omega),if_pos (by omega),oJ,X]
  change (if 0<=e.2.1-1 then (if e.2.1-1<(g.2.1.length:Int) then _ else none) else none)=_
  rw [if_pos (by omega),if_pos (by omega)]
  unfold BF
  have:((T_ (BX g (e.2.1-1).toNat)).1-1).toNat=(e.2.1-1).toNat:=by
   show ((BX g (e.2.1-1).toNat).1-1).toNat=_
   rw [m2]; omega
  rw [this,List.append_nil]
  rfl
 rw [if_neg (by simpa using h7),if_neg h7]
 have hm:IQ e at_ g=some ((bd g at_ e).1==0,(bd g at_ e).2):=Yg (by
  unfold Np bd
  by_cases h0:g.2.2.1=[]
  ·rw [if_pos (by rw [h0]; rfl),if_pos h0]; rfl
  have hl:0<g.2.2.1.length:=by
   cases hq:g.2.2.1 with
   | nil=>exact absurd hq h0
   | cons a l=>simp
  have hem:Int.tmod e.2.2.1 (g.2.2.1.length:Int)=e.2.2.1 % (g.2.2.1.length:Int):=Int.tmod_eq_emod_of_nonneg (by omega)
  have hlt:(e.2.2.1 % (g.2.2.1.length:Int)).toNat<g.2.2.1.length:=by
   have h1:=Int.emod_lt_of_pos e.2.2.1 (show (0:Int)<(g.2.2.1.length:Int) by omega)
   have h2:=Int.emod_nonneg e.2.2.1 (show (g.2.2.1.length:Int)≠0 by omega)
   omega
  obtain ⟨i,hi⟩:∃ i:Nat,e.2.2.1 % (g.2.2.1.length:Int)=(i:Int):=⟨(e.2.2.1 % (g.2.2.1.length:Int)).toNat,by
   have h2:=Int.emod_nonneg e.2.2.1 (show (g.2.2.1.length:Int)≠0 by omega)
   omega⟩
  rw [if_neg (by simp only [beq_iff_eq]; omega),if_neg (by omega),if_neg h0,hem,hi]
  rw [hi,Int.toNat_natCast] at hlt
  simp only [Int.toNat_natCast]
  by_cases k2:e.1=2
  ·rw [if_pos (by simpa using k2),if_neg (by omega),if_neg (by omega),Km at_ i g k hg (by omega) h3 hlt]
   rfl
  rw [if_neg (by simpa using k2)]
  by_cases k3:e.1=3
  ·rw [if_pos (by simpa using k3),if_neg (by omega),if_pos k3,AO (by omega),FZ (by omega) (by omega)]
   rfl
  have k4:e.1=4:=by omega
  have hmem:g.2.2.1.getD i Cr∈g.2.2.1:=by rw [AR hlt]; exact List.getElem_mem _
  have hil:=NG (hg.fly _ hmem).items
  rw [if_neg (by simpa using k3),if_pos (by simpa using k4),if_pos k4,if_pos (by omega),if_pos (by omega)]
  change ((Gf (g.2.2.1.getD i Cr)).bind _)=_
  rw [MO _ (by omega),X,if_pos (by simp; omega)]
  rfl)
 rw [hm]
 rfl)
theorem eY {views:List (List Int)} {events:List D_} (hv:Qg views) (hl:events.length<=70) (he:∀ e∈events,MS e=true) :
  OB views events=some ((Sc 0 events (Av views) []).1,(Sc 0 events (Av views) []).2,true):=i9 (by
 have hg:=UA hv
 obtain ⟨r1,r2,r3⟩:=qS events 0 (Av views) [] hg (by omega) he
 unfold WL
 rw [eX hv,X,if_pos (by rfl),if_neg (by simp; omega)]
 refine ay ?_
 unfold QD
 have codes:∀ (g:AT) (a:Int) (e:D_),MS e=true->(nH g a e).1=0\/(nH g a e).1=1:=by
  intro g a e he
  have hfa:∀ (m:AA) (nd:Int) (n:Nat) (ep:Int),(Ic g a m nd n ep).1=0\/(Ic g a m nd n ep).1=1:=by
   intro m nd n
   induction n with
   | zero=>intro ep; exact .inr rfl
   | succ n ih =>
    intro ep
    unfold Ic
    split
    ·exact ih _
    ·split
     ·exact .inl rfl
     ·exact .inr rfl
  unfold nH
  split
  ·unfold JO; split
   ·exact .inl rfl
   ·exact .inr rfl
  ·split
   ·exact hfa _ _ _ _
   ·split
    ·exact .inl rfl
    ·unfold bd
     split
     ·exact .inr rfl
     ·split
      ·exact .inl rfl
      ·split
       ·exact .inl rfl
       ·exact .inl rfl
 have L3:∀ a b c d,FF events (events.length:Int) ((0:Nat):Int) a b c d (Av views).2.1 (Av views).2.2.1 (Av views).2.2.2 (Av views).1 []=some ((Sc 0 events (Av views) []).1,(Sc 0 events (Av views) []).2,true):=by
  intro a b c d
  have key:=GJ (n:=events.length) (P:=fun i=>∀ (g:AT) (cs:List Int),JN g i->V3 g->cs.length=i->Sc i (events.drop i) g cs=Sc 0 events (Av views) []->FF events (events.length:Int) (i:Int) a b c d g.2.1 g.2.2.1 g.2.2.2 g.1 cs=some ((Sc 0 events (Av views) []).1,(Sc 0 events (Av views) []).2,true)) (fun g cs hgi h3 hcs hr=>QE (by
   unfold KB
   rw [if_neg (by simp)]
   change ((Cb g).bind _)=_
   rw [GS g events.length hgi (by omega),X]
   rw [List.drop_eq_nil_of_le (Nat.le_refl _)] at hr
   rw [<- hr]
   rfl)) (fun i hi ih g cs hgi h3 hcs hr=>QE (by
   unfold KB
   obtain ⟨d2,_⟩:=hgi.event (at_:=(i:Int)) (he _ (List.getElem_mem hi))
   have hz:events.getD i ((0:Int),(0:Int),(0:Int),(0:Int),ByteArray.empty,ByteArray.empty)=events[i]:=AR hi
   simp only [show ((i:Int)<(events.length:Int)) from by omega,decide_true,if_true,show (0:Int)<=(i:Int) from by omega,Int.toNat_natCast,hz,AO (show i<9223372036854775807 by omega)]
   change ((G8 events[i] (i:Int) g).bind _)=_
   rw [XY (i:Int) events[i] g i hgi (by omega) h3 (he _ (List.getElem_mem hi)),X]
   have hcode:SQ ((nH g (i:Int) events[i]).1==0)=some (nH g (i:Int) events[i]).1:=n6 (by
    unfold aB
    rcases codes g (i:Int) events[i] (he _ (List.getElem_mem hi)) with q | q<;>rw [q]<;>rfl)
   dsimp only
   rw [hcode,X,if_pos (by simp; omega)]
   refine ih _ _ d2 (h3.event hgi (by omega) (he _ (List.getElem_mem hi))) (by simp; omega) ?_
   rw [BZ hi] at hr
   exact hr)) 0 (by omega) (Av views) [] hg (V3.new hv) rfl rfl
  exact key
 have L1:∀ a b c d,FH events events (events.length:Int) ((0:Nat):Int) a b c d (Av views).2.1 (Av views).2.2.1 (Av views).2.2.2 (Av views).1=some ((Sc 0 events (Av views) []).1,(Sc 0 events (Av views) []).2,true):=by
  intro a b c d
  refine GJ (n:=events.length) (P:=fun i=>FH events events (events.length:Int) (i:Int) a b c d (Av views).2.1 (Av views).2.2.1 (Av views).2.2.2 (Av views).1=some ((Sc 0 events (Av views) []).1,(Sc 0 events (Av views) []).2,true)) (QF (by
   unfold KC
   rw [if_neg (by simp)]
   refine ax ?_
   unfold QC
   exact L3 _ _ _ _)) (fun i hi ih=>QF (by
   unfold KC
   have hz:events.getD i ((0:Int),(0:Int),(0:Int),(0:Int),ByteArray.empty,ByteArray.empty)=events[i]:=AR hi
   simp only [show ((i:Int)<(events.length:Int)) from by omega,decide_true,if_true,show (0:Int)<=(i:Int) from by omega,Int.toNat_natCast,hz,AO (show i<9223372036854775807 by omega)]
   rw [eI,he _ (List.getElem_mem hi),X,if_neg (by simp)]
   exact ih)) 0 (by omega)
 exact L1 _ _ _ _)

structure PM where
 ep:Int
 fell:Bool
 base:Bool
 leads:Bool
 serves:Bool
 waits:List Int
 items:List AM
 cnt:Int
 op:Int
 call:Int
 num:Int
 ti:AM
 left:List Int
structure PX where
 kind:Int
 frm:Int
 to:Int
 ep:Int
 num:Int
 items:List AM
structure PC where
 op:Int
 key:ByteArray
 val:ByteArray
 wen:Int
 done:Int
 ver:Int
 ep:Int
 num:Int
 got:ByteArray
structure PG where
 mem:Int->PM
 fly:List PX
 calls:List PC
def PG.set (g:PG) (i:Int) (m:PM) (T:List PX):PG:={ g with mem:=fun j=>if j=i then m else g.mem j,fly:=g.fly++T }
def CV (V:Int->List Int) (e:Int):Int:=(V e).getD 0 0
def PM.idle (m:PM) (e:Int) (b l:Bool) (its:List AM):PM:={ ep:=e,fell:=false,base:=b,leads:=l,serves:=false,waits:=[],items:=its,cnt:=0,op:=0,call:=0,num:=0,ti:=(ByteArray.empty,ByteArray.empty,0),left:=[] }
inductive CW (V:Int->List Int) (nv:Int) (g:PG) (i:Int):PM->List PX->Prop
 | closes (x:PX) (hx:x∈g.fly) (h1:x.ep=(g.mem i).ep+1) (h2:(g.mem i).base=true) (h3:x.ep<=nv):CW V nv g i ((g.mem i).idle x.ep false false (g.mem i).items) [⟨2,i,x.frm,x.ep,0,(g.mem i).items⟩]
 | stat (x:PX) (hx:x∈g.fly) (h1:x.kind=2) (h2:x.ep=(g.mem i).ep) (h3:(g.mem i).leads=true) (h4:(g.mem i).base=false) (W:List Int) (hw:∀ k,k∈W↔k∈V x.ep/\k≠i) (T:List PX) (hT:∀ y∈T,y.kind=3/\y.ep=x.ep/\y.items=x.items/\y.frm=i) :
   CW V nv g i { g.mem i with base:=true,items:=x.items,waits:=W,serves:=W.isEmpty } T
 | inst (x:PX) (hx:x∈g.fly) (h1:x.kind=3) (h2:(g.mem i).ep<x.ep\/(g.mem i).ep=x.ep/\(g.mem i).base=false/\(g.mem i).fell=false) (h3:i∈V x.ep) (h4:CV V x.ep≠i) (h5:x.ep<=nv) :
   CW V nv g i ((g.mem i).idle x.ep true false x.items) [⟨4,i,x.frm,x.ep,x.num,[]⟩]
 | again (x:PX) (hx:x∈g.fly) (h1:x.kind=3) (h2:(g.mem i).ep=x.ep) (h3:(g.mem i).base=true):CW V nv g i (g.mem i) [⟨4,i,x.frm,x.ep,x.num,[]⟩]
 | told (x:PX) (hx:x∈g.fly) (h1:x.kind=4) (h2:(g.mem i).ep=x.ep) (h3:(g.mem i).leads=true) :
   CW V nv g i { g.mem i with waits:=(g.mem i).waits.filter (· != x.frm),serves:=(g.mem i).base&&((g.mem i).waits.filter (· != x.frm)).isEmpty } []
 | store (x:PX) (hx:x∈g.fly) (h1:x.kind=5) (h2:(g.mem i).ep=x.ep) (h3:(g.mem i).base=true) (h4:i≠CV V x.ep) (a:AM) (h5:x.items=[a]) :
   CW V nv g i { g.mem i with items:=Aj (g.mem i).items a } [⟨6,i,x.frm,x.ep,x.num,[]⟩]
 | sure (x:PX) (hx:x∈g.fly) (h1:x.kind=7) (h2:(g.mem i).ep=x.ep) (h3:(g.mem i).base=true):CW V nv g i (g.mem i) [⟨8,i,x.frm,x.ep,x.num,[]⟩]
 | less (x:PX) (hx:x∈g.fly) (h1:(g.mem i).op=1/\x.kind=6\/(g.mem i).op=2/\x.kind=8) (h2:(g.mem i).ep=x.ep) (h3:(g.mem i).num=x.num):CW V nv g i { g.mem i with left:=(g.mem i).left.filter (· != x.frm) } []
 | had (e:Int) (h1:e=(g.mem i).ep+1) (h2:(g.mem i).base=true) (h3:CV V e=i) (h4:e<=nv) (W:List Int) (hw:∀ k,k∈W↔k∈V e/\k≠i) (T:List PX) (hT:∀ y∈T,y.kind=3/\y.ep=e/\y.items=(g.mem i).items/\y.frm=i) :
   CW V nv g i { (g.mem i).idle e true true (g.mem i).items with waits:=W,serves:=W.isEmpty } T
 | took (e:Int) (h1:(g.mem i).ep<e) (h3:CV V e=i) (h4:e<=nv) (T:List PX) (hT:∀ y∈T,y.kind=1/\y.ep=e/\y.items=[]):CW V nv g i ((g.mem i).idle e false true (g.mem i).items) T
 | fall:CW V nv g i { (g.mem i).idle (g.mem i).ep false false [] with fell:=true } []
def UC (g:PG) (k e:Int):Prop:=e<(g.mem k).ep\/((g.mem k).ep=e/\((g.mem k).base=true\/(g.mem k).fell=true))
theorem CW.ep {V nv g i m T} (h:CW V nv g i m T):(g.mem i).ep<=m.ep:=by
 cases h<;>simp_all [PM.idle]<;>grind
theorem UC.step {V nv g i m T k e} (h:CW V nv g i m T) (hb:UC g k e):UC (g.set i m T) k e:=by
 unfold UC PG.set at *
 cases h<;>simp_all [PM.idle]<;>grind
def CG (V:Int->List Int) (g:PG) (e:Int):Prop:=∀ d,1<=d->d<e->∃ j∈V d,d<(g.mem j).ep
theorem kL {V nv g i m T} (h:CW V nv g i m T) (j:Int):(g.mem j).ep<=((g.set i m T).mem j).ep:=by
 have:=h.ep
 simp only [PG.set]
 split
 ·rename_i e; subst e; exact this
 ·exact Int.le_refl _
theorem CG.mono {V g g' e} (h:CG V g e) (hm:∀ j,(g.mem j).ep<=(g'.mem j).ep):CG V g' e:=fun d h1 h2=>by
 obtain ⟨j,hj,h3⟩:=h d h1 h2
 exact ⟨j,hj,by have:=hm j; omega⟩
theorem CG.next {V g e j} (h:CG V g e) (hj:j∈V e) (hl:e<(g.mem j).ep):CG V g (e+1):=fun d h1 h2=>by
 by_cases q:d=e
 ·subst q; exact ⟨j,hj,hl⟩
 ·exact h d h1 (by omega)
structure IA (V:Int->List Int) (nv:Int) (g:PG):Prop where
 pos:∀ i,1<=(g.mem i).ep
 lead:∀ i,(g.mem i).leads=true->(g.mem i).ep<=nv/\CV V (g.mem i).ep=i
 view:∀ i,(g.mem i).base=true->(g.mem i).ep<=nv/\i∈V (g.mem i).ep
 serv:∀ i,(g.mem i).serves=true->(g.mem i).base=true/\(g.mem i).leads=true/\(g.mem i).waits=[]
 task:∀ i,(g.mem i).op≠0->(g.mem i).serves=true/\((g.mem i).op=1\/(g.mem i).op=2)/\(g.mem i).num=(g.mem i).cnt
 cnt:∀ i,0<=(g.mem i).cnt
 fell:∀ i,(g.mem i).fell=true->(g.mem i).base=false/\(g.mem i).leads=false
theorem IA.step {V nv g i m T} (h:IA V nv g) (hv:∀ e,1<=e->e<=nv->CV V e∈V e) (hs:CW V nv g i m T):IA V nv (g.set i m T):=by
 obtain ⟨a1,a2,a3,a4,a5,a6,a7⟩:=h
 have b1:=a1 i; have b2:=a2 i; have b3:=a3 i; have b4:=a4 i; have b5:=a5 i; have b6:=a6 i; have b7:=a7 i
 have key:1<=m.ep/\(m.leads=true->m.ep<=nv/\CV V m.ep=i)/\(m.base=true->m.ep<=nv/\i∈V m.ep)/\(m.serves=true->m.base=true/\m.leads=true/\m.waits=[])/\(m.op≠0->m.serves=true/\(m.op=1\/m.op=2)/\m.num=m.cnt)/\0<=m.cnt/\(m.fell=true->m.base=false/\m.leads=false):=by
  cases hs<;>simp_all [PM.idle]<;>grind
 refine ⟨fun j=>?_,fun j=>?_,fun j=>?_,fun j=>?_,fun j=>?_,fun j=>?_,fun j=>?_⟩<;>simp only [PG.set]<;>split<;>grind
structure IB (V:Int->List Int) (g:PG):Prop where
 mem:∀ i,(g.mem i).base=true->CG V g (g.mem i).ep
 fly:∀ x∈g.fly,x.kind=2\/x.kind=3->CG V g x.ep
theorem IB.step {V nv g i m T} (h:IB V g) (ha:IA V nv g) (hv:∀ e,1<=e->e<=nv->CV V e∈V e) (hs:CW V nv g i m T):IB V (g.set i m T):=by
 have hm:=kL hs
 have mono:∀ e,CG V g e->CG V (g.set i m T) e:=fun e h=>h.mono hm
 have next:∀ e,CG V g e->i∈V e->e<m.ep->CG V (g.set i m T) (e+1):=fun e h h1 h2=>(mono e h).next h1 (by simp [PG.set]; exact h2)
 have b:=h.mem i
 have v:=ha.view i
 have f:=h.fly
 have k1:m.base=true->CG V (g.set i m T) m.ep:=by
  generalize g.set i m T=g' at *
  cases hs<;>simp_all [PM.idle]<;>grind
 have k2:∀ y∈T,y.kind=2\/y.kind=3->CG V (g.set i m T) y.ep:=by
  generalize g.set i m T=g' at *
  cases hs<;>simp_all [PM.idle]<;>grind
 refine ⟨fun j=>?_,fun y hy hk=>?_⟩
 ·show ((if j=i then m else g.mem j).base=true->CG V _ (if j=i then m else g.mem j).ep)
  split
  ·exact k1
  ·exact fun hb=>mono _ (h.mem j hb)
 ·rcases List.mem_append.1 hy with e | e
  ·exact mono _ (h.fly y e hk)
  ·exact k2 y e hk
def I7 (g:PG) (i:Int):Prop:=∃ j∈(g.mem i).left,(g.mem i).ep<(g.mem j).ep/\∀ x∈g.fly,((g.mem i).op=1/\x.kind=6\/(g.mem i).op=2/\x.kind=8)->x.frm=j->x.ep=(g.mem i).ep->x.num≠(g.mem i).num
structure IT (V:Int->List Int) (g:PG) (vr:Nat->Int) (now:Int):Prop where
 st:∀ k,vr k≠0->∃ e n,vr k=1000*e+n/\1<=e/\1<=n/\n<=900/\e<=(g.mem (CV V e)).ep/\((g.mem (CV V e)).ep=e->(g.mem (CV V e)).leads=true->(g.mem (CV V e)).base=true/\n<=(g.mem (CV V e)).cnt)
 inj:∀ k l,vr k≠0->vr k=vr l->k=l
 out:∀ k,g.calls.length<=k->vr k=0
 act:∀ i,(g.mem i).op≠0->∃ (k:Nat) (c:PC),(g.mem i).call=(k:Int)/\g.calls[k]? = some c/\vr k=1000*(g.mem i).ep+(g.mem i).num/\c.done<0/\c.op=(g.mem i).op/\c.key=(g.mem i).ti.1/\c.val=(g.mem i).ti.2.1/\(g.mem i).ti.2.2=vr k/\1<=(g.mem i).num/\(g.mem i).num<=900
 dn:∀ (k:Nat) c,g.calls[k]? = some c->0<=c.done->vr k=1000*c.ep+c.num/\1<=c.ep/\1<=c.num/\c.num<=900/\CG V g c.ep/\c.done<=now/\c.wen<=c.done
 wn:∀ (k:Nat) c,g.calls[k]? = some c->c.wen<=now
 fl:∀ x∈g.fly,5<=x.kind->x.kind<=8->x.ep<=(g.mem (CV V x.ep)).ep/\((g.mem (CV V x.ep)).ep=x.ep->(g.mem (CV V x.ep)).leads=true->x.num<=(g.mem (CV V x.ep)).cnt)
 tm:∀ i,(g.mem i).op≠0->∀ (k l:Nat) c a,(g.mem i).call=(k:Int)->g.calls[k]? = some c->g.calls[l]? = some a->0<=a.done->a.done<c.wen->a.ep<=(g.mem i).ep\/I7 g i
 or:∀ (k l:Nat) a b,g.calls[k]? = some a->g.calls[l]? = some b->0<=a.done->0<=b.done->a.done<b.wen->vr k<vr l
theorem CW.task {V nv g i m T} (h:CW V nv g i m T):m.op≠0->m.ep=(g.mem i).ep/\m.op=(g.mem i).op/\m.call=(g.mem i).call/\m.num=(g.mem i).num/\m.ti=(g.mem i).ti/\m.cnt=(g.mem i).cnt:=by
 cases h<;>simp_all [PM.idle]
theorem CW.lead {V nv g i m T} (h:CW V nv g i m T):m.ep=(g.mem i).ep->m.leads=true->(g.mem i).leads=true/\m.cnt=(g.mem i).cnt/\((g.mem i).base=true->m.base=true):=by
 cases h<;>simp_all [PM.idle]<;>grind
theorem CW.new {V nv g i m T} (h:CW V nv g i m T):m.ep≠(g.mem i).ep->m.cnt=0/\m.op=0:=by
 cases h<;>simp_all [PM.idle]<;>grind
theorem CW.talk {V nv g i m T} (h:CW V nv g i m T):∀ y∈T,5<=y.kind->(y.kind=6\/y.kind=8)/\y.frm=i/\y.ep=(g.mem i).ep/\∃ x∈g.fly,5<=x.kind/\x.kind<=8/\x.ep=y.ep/\x.num=y.num:=by
 cases h<;>simp_all [PM.idle]<;>grind
theorem I7.step {V nv g i m T j} (h:CW V nv g i m T) (hb:I7 g j) (ho:((g.set i m T).mem j).op≠0):I7 (g.set i m T) j:=by
 obtain ⟨k,hk,h1,h2⟩:=hb
 have hm:=kL h
 have ht:=h.task
 have hta:=h.talk
 have hl:i=j->k∈m.left:=by
  intro e; subst e
  simp only [PG.set,if_true] at ho
  cases h<;>simp_all [PM.idle]<;>grind
 have hep:((g.set i m T).mem j).ep=(g.mem j).ep/\((g.set i m T).mem j).num=(g.mem j).num/\k∈((g.set i m T).mem j).left/\((g.set i m T).mem j).op=(g.mem j).op:=by
  simp only [PG.set] at ho ⊢
  grind
 refine ⟨k,hep.2.2.1,?_,fun x hx hk6 hf he=>?_⟩
 ·rw [hep.1]; have:=hm k; omega
 ·rw [hep.2.1]
  rw [hep.1] at he
  rw [hep.2.2.2] at hk6
  rcases List.mem_append.1 hx with e | e
  ·exact h2 x e hk6 hf he
  ·have:=hta x e (by omega)
   grind
theorem IT.mstep {V nv g i m T vr now} (h:IT V g vr now) (ha:IA V nv g) (hs:CW V nv g i m T):IT V (g.set i m T) vr now:=by
 have hm:=kL hs
 have ht:=hs.task
 have hl:=hs.lead
 have hn:=hs.new
 have hta:=hs.talk
 have hstk:=fun j=>I7.step (j:=j) hs
 have mono:∀ e,CG V g e->CG V (g.set i m T) e:=fun e h=>h.mono hm
 have hmem:∀ j,(g.set i m T).mem j=if j=i then m else g.mem j:=fun _=>rfl
 have hfly:(g.set i m T).fly=g.fly++T:=rfl
 have hc:(g.set i m T).calls=g.calls:=rfl
 have hep:=hs.ep
 generalize g.set i m T=g' at *
 obtain ⟨c1,c2,c3,c4,c5,c6,c7,c8,c9⟩:=h
 have hlead:=ha.lead
 refine ⟨?_,c2,by rw [hc]; exact c3,?_,?_,by rw [hc]; exact c6,?_,?_,by rw [hc]; exact c9⟩
 ·intro k hk
  obtain ⟨e,n,d⟩:=c1 k hk
  refine ⟨e,n,?_⟩
  simp only [hmem]
  grind
 ·simp only [hmem,hc]
  grind
 ·rw [hc]
  grind
 ·intro x hx h5 h8
  rw [hfly] at hx
  simp only [hmem]
  grind
 ·intro j ho k l c a
  have:=c8 j
  have:=hstk j
  simp only [hmem,hc] at *
  grind
theorem I7.less {g:PG} {f:List PX} {i:Int} (h:∀ x∈f,x∈g.fly) (hb:I7 g i):I7 { g with fly:=f } i:=by
 obtain ⟨j,h1,h2,h3⟩:=hb
 exact ⟨j,h1,h2,fun x hx=>h3 x (h x hx)⟩
theorem IT.later {V g vr n n'} (h:IT V g vr n) (hn:n<=n'):IT V g vr n':=by
 obtain ⟨c1,c2,c3,c4,c5,c6,c7,c8,c9⟩:=h
 exact ⟨c1,c2,c3,c4,by grind,by grind,c7,c8,c9⟩
theorem IT.drop {V g vr now f} (h:IT V g vr now) (hf:∀ x∈f,x∈g.fly):IT V { g with fly:=f } vr now:=by
 have hs:=fun i=>I7.less (i:=i) hf
 obtain ⟨c1,c2,c3,c4,c5,c6,c7,c8,c9⟩:=h
 refine ⟨c1,c2,c3,c4,c5,c6,fun x hx=>c7 x (hf x hx),?_,c9⟩
 intro i ho k l c a h1 h2 h3 h4 h5
 exact (c8 i ho k l c a h1 h2 h3 h4 h5).imp id (hs i)
theorem IT.call {V g vr now} {c:PC} (h:IT V g vr now) (h1:c.done=-1) (h2:c.wen=now):IT V { g with calls:=g.calls++[c] } vr now:=by
 obtain ⟨c1,c2,c3,c4,c5,c6,c7,c8,c9⟩:=h
 have hg:∀ (k:Nat) d,(g.calls++[c])[k]? = some d->g.calls[k]? = some d\/(k=g.calls.length/\d=c):=by grind
 have hg2:∀ (k:Nat) d,g.calls[k]? = some d->(g.calls++[c])[k]? = some d:=by grind
 have hst:∀ i,I7 g i->I7 { g with calls:=g.calls++[c] } i:=fun i h=>h
 refine ⟨c1,c2,?_,?_,?_,?_,c7,?_,?_⟩
 ·grind
 ·intro i ho
  obtain ⟨k,d,q1,q2,q3⟩:=c4 i ho
  exact ⟨k,d,q1,hg2 k d q2,q3⟩
 ·intro k d hk hd
  rcases hg k d hk with e | ⟨e,e2⟩
  ·exact c5 k d e hd
  ·subst e2; omega
 ·intro k d hk
  rcases hg k d hk with e | ⟨e,e2⟩
  ·exact c6 k d e
  ·subst e2; omega
 ·intro i ho k l d a q1 q2 q3 q4 q5
  obtain ⟨k',d',r1,r2,_⟩:=c4 i ho
  have:k'=k:=by simp only at q1; omega
  subst this
  have q2':=hg2 k' d' r2
  simp only at q2
  rw [q2'] at q2
  cases q2
  rcases hg l a q3 with e | ⟨e,e2⟩
  ·exact (c8 i ho _ l _ a q1 r2 e q4 q5).imp id (hst i)
  ·subst e2; omega
 ·intro k l a b q1 q2 q3 q4 q5
  rcases hg k a q1 with e | ⟨e,e2⟩
  ·rcases hg l b q2 with f | ⟨f,f2⟩
   ·exact c9 k l a b e f q3 q4 q5
   ·subst f2; omega
  ·subst e2; omega
def Og (g:PG) (i:Int) (c:PC) (L:List Int) (a:AM):PM:={ g.mem i with cnt:=(g.mem i).cnt+1,op:=c.op,call:=(g.calls.length:Int),num:=(g.mem i).cnt+1,ti:=a,left:=L }
theorem IT.start {V nv g vr now} {i:Int} {c:PC} {L:List Int} {a:AM} {T:List PX} (h:IT V g vr now) (hia:IA V nv g) (hib:IB V g) (h1:c.done=-1) (h2:c.wen=now) (h3:(g.mem i).serves=true) (h4:(g.mem i).op=0) (h5:c.op=1\/c.op=2) (h6:(g.mem i).cnt<900) (hL:∀ k,k∈L↔k∈V (g.mem i).ep/\k≠i) (hA:a=(c.key,c.val,1000*(g.mem i).ep+((g.mem i).cnt+1)))
  (hT:∀ y∈T,(y.kind=5/\c.op=1/\y.items=[a]\/y.kind=7/\c.op=2)/\y.ep=(g.mem i).ep/\y.num=(g.mem i).cnt+1/\y.frm=i) :
  IT V { (g.set i (Og g i c L a) T) with calls:=g.calls++[c] } (fun k=>if k=g.calls.length then 1000*(g.mem i).ep+((g.mem i).cnt+1) else vr k) now:=by
 obtain ⟨c1,c2,c3,c4,c5,c6,c7,c8,c9⟩:=h
 have hg:∀ (k:Nat) d,(g.calls++[c])[k]? = some d->g.calls[k]? = some d/\k<g.calls.length\/(k=g.calls.length/\d=c):=by grind
 have hg2:∀ (k:Nat) d,g.calls[k]? = some d->(g.calls++[c])[k]? = some d/\k<g.calls.length:=by grind
 obtain ⟨s1,s2,s3⟩:=hia.serv i h3
 obtain ⟨l1,l2⟩:=hia.lead i s2
 have hpos:=hia.pos i
 have hcnt:=hia.cnt i
 have hz:vr g.calls.length=0:=c3 _ (Nat.le_refl _)
 generalize hq:({ (g.set i (Og g i c L a) T) with calls:=g.calls++[c] }:PG)=g'
 have hmem:∀ j,g'.mem j=if j=i then Og g i c L a else g.mem j:=by subst hq; intro j; rfl
 have hfly:g'.fly=g.fly++T:=by subst hq; rfl
 have hcal:g'.calls=g.calls++[c]:=by subst hq; rfl
 have hep:∀ j,(g'.mem j).ep=(g.mem j).ep/\(g'.mem j).leads=(g.mem j).leads/\(g'.mem j).base=(g.mem j).base/\(g.mem j).cnt<=(g'.mem j).cnt:=by
  intro j; rw [hmem]; split
  ·rename_i e; subst e; exact ⟨rfl,rfl,rfl,by simp only [Og]; omega⟩
  ·exact ⟨rfl,rfl,rfl,Int.le_refl _⟩
 have hi:(g'.mem i).cnt=(g.mem i).cnt+1/\(g'.mem i).op=c.op/\(g'.mem i).call=(g.calls.length:Int)/\(g'.mem i).num=(g.mem i).cnt+1/\(g'.mem i).ti=a/\(g'.mem i).left=L:=by rw [hmem,if_pos rfl]; exact ⟨rfl,rfl,rfl,rfl,rfl,rfl⟩
 have hj:∀ j,j≠i->g'.mem j=g.mem j:=fun j e=>by rw [hmem,if_neg e]
 have rmono:∀ e,CG V g e->CG V g' e:=fun e h=>h.mono fun j=>by rw [(hep j).1]; exact Int.le_refl _
 have stuck:∀ e,CG V g e->(g.mem i).ep<e->I7 g' i:=fun e hr he=>by
  obtain ⟨j,hjv,hjl⟩:=hr (g.mem i).ep hpos he
  have hne:j≠i:=fun e=>by subst e; omega
  refine ⟨j,by rw [hi.2.2.2.2.2]; exact (hL j).2 ⟨hjv,hne⟩,by rw [(hep i).1,(hep j).1]; exact hjl,fun x hx hk hf hxe=>?_⟩
  rw [(hep i).1] at hxe
  rw [hi.2.2.2.1]
  rw [hfly] at hx
  rcases List.mem_append.1 hx with q | q
  ·have:=c7 x q (by omega) (by omega)
   rw [hxe,l2] at this
   have:=this.2 rfl s2
   omega
  ·have:=hT x q
   omega
 refine ⟨?_,?_,?_,?_,?_,?_,?_,?_,?_⟩
 ·intro k hk
  by_cases e:k=g.calls.length
  ·subst e
   simp only [if_true]
   refine ⟨(g.mem i).ep,(g.mem i).cnt+1,rfl,hpos,by omega,by omega,?_,fun _ _=>?_⟩
   ·rw [(hep _).1,l2]; exact Int.le_refl _
   ·rw [l2,hi.1,(hep i).2.2.1]; exact ⟨s1,Int.le_refl _⟩
  ·simp only [if_neg e] at hk ⊢
   obtain ⟨e,n,d1,d2,d3,d4,d5,d6⟩:=c1 k hk
   refine ⟨e,n,d1,d2,d3,d4,by rw [(hep _).1]; exact d5,fun q1 q2=>?_⟩
   obtain ⟨p1,p2,p3,p4⟩:=hep (CV V e)
   rw [p1] at q1; rw [p2] at q2
   have:=d6 q1 q2
   exact ⟨by rw [p3]; exact this.1,by omega⟩
 ·have hdist:∀ k,k≠g.calls.length->vr k≠1000*(g.mem i).ep+((g.mem i).cnt+1):=fun k hk e=>by
   obtain ⟨e',n,d1,d2,d3,d4,d5,d6⟩:=c1 k (by omega)
   have:e'=(g.mem i).ep:=by omega
   subst this
   rw [l2] at d6
   have:=d6 rfl s2
   omega
  intro k l hk hkl
  by_cases e:k=g.calls.length
  ·by_cases f:l=g.calls.length
   ·omega
   ·rw [if_pos e,if_neg f] at hkl
    exact absurd hkl.symm (hdist l f)
  ·rw [if_neg e] at hk hkl
   by_cases f:l=g.calls.length
   ·rw [if_pos f] at hkl
    exact absurd hkl (hdist k e)
   ·rw [if_neg f] at hkl
    exact c2 k l hk hkl
 ·intro k hk
  rw [hcal] at hk
  simp only [List.length_append,List.length_cons,List.length_nil] at hk
  rw [if_neg (by omega)]
  exact c3 k (by omega)
 ·intro j ho
  by_cases e:j=i
  ·subst e
   refine ⟨g.calls.length,c,hi.2.2.1,by rw [hcal]; simp,?_,by omega,hi.2.1.symm,?_⟩
   ·rw [if_pos rfl,(hep _).1,hi.2.2.2.1]
   ·rw [hi.2.2.2.2.1,hi.2.2.2.1,if_pos rfl,hA]
    exact ⟨rfl,rfl,rfl,by omega,by omega⟩
  ·rw [hj j e] at ho ⊢
   obtain ⟨k,d,q1,q2,q3⟩:=c4 j ho
   have:=hg2 k d q2
   exact ⟨k,d,q1,by rw [hcal]; exact this.1,by rw [if_neg (by omega)]; exact q3⟩
 ·intro k d hk hd
  rw [hcal] at hk
  rcases hg k d hk with ⟨e,e1⟩ | ⟨e,e2⟩
  ·obtain ⟨d1,d2,d3,d4,d5,d6,d7⟩:=c5 k d e hd
   exact ⟨by rw [if_neg (by omega)]; exact d1,d2,d3,d4,rmono _ d5,d6,d7⟩
  ·subst e2; omega
 ·intro k d hk
  rw [hcal] at hk
  rcases hg k d hk with ⟨e,e1⟩ | ⟨e,e2⟩
  ·exact c6 k d e
  ·subst e2; omega
 ·intro x hx h5 h8
  rw [hfly] at hx
  obtain ⟨p1,p2,p3,p4⟩:=hep (CV V x.ep)
  rcases List.mem_append.1 hx with q | q
  ·have:=c7 x q h5 h8
   rw [p1,p2]
   exact ⟨this.1,fun q1 q2=>Int.le_trans (this.2 q1 q2) p4⟩
  ·obtain ⟨_,q2,q3,_⟩:=hT x q
   rw [q2,l2,(hep i).1,q3,hi.1]
   exact ⟨Int.le_refl _,fun _ _=>Int.le_refl _⟩
 ·intro j ho k l d b q1 q2 q3 q4 q5
  rw [hcal] at q2 q3
  rcases hg l b q3 with ⟨e,e1⟩ | ⟨e,e2⟩
  ·by_cases hji:j=i
   ·subst hji
    rw [(hep j).1]
    by_cases hle:b.ep<=(g.mem j).ep
    ·exact .inl hle
    ·exact .inr (stuck b.ep (c5 l b e q4).2.2.2.2.1 (by omega))
   ·rw [hj j hji] at ho q1 ⊢
    obtain ⟨k',d',r1,r2,_⟩:=c4 j ho
    have:k'=k:=by omega
    subst this
    have:=hg2 k' d' r2
    rw [this.1] at q2
    cases q2
    rcases c8 j ho _ l _ b q1 r2 e q4 q5 with r | ⟨w,w1,w2,w3⟩
    ·exact .inl r
    ·right
     refine ⟨w,by rw [hj j hji]; exact w1,by rw [hj j hji,(hep w).1]; exact w2,fun x hx=>?_⟩
     rw [hj j hji]
     rw [hfly] at hx
     rcases List.mem_append.1 hx with q | q
     ·exact w3 x q
     ·have:=hT x q
      intro hk; omega
  ·subst e2; omega
 ·intro k l b d q1 q2 q3 q4 q5
  rw [hcal] at q1 q2
  rcases hg k b q1 with ⟨e,e1⟩ | ⟨e,e2⟩
  ·rcases hg l d q2 with ⟨f,f1⟩ | ⟨f,f2⟩
   ·rw [if_neg (by omega),if_neg (by omega)]
    exact c9 k l b d e f q3 q4 q5
   ·subst f2; omega
  ·subst e2; omega
def U6 (m:PM):PM:={ m with items:=if m.op=1 then Aj m.items m.ti else m.items,op:=0,call:=0,num:=0,ti:=(ByteArray.empty,ByteArray.empty,0),left:=[] }
def oK (m:PM):AM:=if m.op=1 then m.ti else BD m.items m.ti.1
def Pe (m:PM) (c:PC) (now:Int):PC:={ c with done:=now,ver:=(oK m).2.2,ep:=m.ep,num:=m.num,got:=if c.op=2 then (oK m).2.1 else c.got }
theorem IT.fin {V nv g vr now} {i:Int} {k:Nat} {c:PC} (h:IT V g vr now) (hia:IA V nv g) (hib:IB V g) (ho:(g.mem i).op≠0) (hl:(g.mem i).left=[]) (hc:(g.mem i).call=(k:Int)) (hk:g.calls[k]? = some c) :
  IT V { (g.set i (U6 (g.mem i)) []) with calls:=g.calls.set k (Pe (g.mem i) c now) } vr now:=by
 obtain ⟨c1,c2,c3,c4,c5,c6,c7,c8,c9⟩:=h
 obtain ⟨t1,t2,t3⟩:=hia.task i ho
 obtain ⟨s1,s2,s3⟩:=hia.serv i t1
 obtain ⟨l1,l2⟩:=hia.lead i s2
 have hpos:=hia.pos i
 obtain ⟨k0,d0,r1,r2,r3,r4,r5,r6,r7,r8,r9,r10⟩:=c4 i ho
 have hk0:k0=k:=by omega
 subst hk0
 rw [hk] at r2
 cases r2
 have hkl:k0<g.calls.length:=(List.getElem?_eq_some_iff.1 hk).1
 have hcal0:∀ (l:Nat) d,(g.calls.set k0 (Pe (g.mem i) c now))[l]? = some d->(l=k0/\d=Pe (g.mem i) c now)\/(l≠k0/\g.calls[l]? = some d):=by
  intro l d hd
  by_cases e:l=k0
  ·subst e
   rw [List.getElem?_set_self hkl] at hd
   exact .inl ⟨rfl,by cases hd; rfl⟩
  ·rw [List.getElem?_set_ne (Ne.symm e)] at hd
   exact .inr ⟨e,hd⟩
 have hcal1:∀ (l:Nat) d,l≠k0->g.calls[l]? = some d->(g.calls.set k0 (Pe (g.mem i) c now))[l]? = some d:=by
  intro l d hne hd
  rw [List.getElem?_set_ne (Ne.symm hne)]
  exact hd
 generalize hq:({ (g.set i (U6 (g.mem i)) []) with calls:=g.calls.set k0 (Pe (g.mem i) c now) }:PG)=g'
 have hmem:∀ j,g'.mem j=if j=i then U6 (g.mem i) else g.mem j:=by subst hq; intro j; rfl
 have hfly:g'.fly=g.fly:=by subst hq; exact List.append_nil _
 have hcal:g'.calls=g.calls.set k0 (Pe (g.mem i) c now):=by subst hq; rfl
 have hep:∀ j,(g'.mem j).ep=(g.mem j).ep/\(g'.mem j).leads=(g.mem j).leads/\(g'.mem j).base=(g.mem j).base/\(g.mem j).cnt=(g'.mem j).cnt:=by
  intro j; rw [hmem]; split
  ·rename_i e; subst e; exact ⟨rfl,rfl,rfl,rfl⟩
  ·exact ⟨rfl,rfl,rfl,rfl⟩
 have hj:∀ j,j≠i->g'.mem j=g.mem j:=fun j e=>by rw [hmem,if_neg e]
 have hi0:(g'.mem i).op=0:=by rw [hmem,if_pos rfl]; rfl
 have rmono:∀ e,CG V g e->CG V g' e:=fun e h=>h.mono fun j=>by rw [(hep j).1]; exact Int.le_refl _
 have hact:∀ j,j≠i->(g.mem j).op≠0->∀ (l:Nat),(g.mem j).call=(l:Int)->l≠k0:=fun j hji hoj l hl e=>by
  subst e
  obtain ⟨u1,u2,u3⟩:=hia.task j hoj
  obtain ⟨v1,v2,v3⟩:=hia.serv j u1
  obtain ⟨w1,w2⟩:=hia.lead j v2
  obtain ⟨k',d',q1,q2,q3,q4,q5,q6,q7,q8,q9,q10⟩:=c4 j hoj
  have:k'=l:=by omega
  subst this
  have:(g.mem j).ep=(g.mem i).ep:=by omega
  rw [this,l2] at w2
  exact hji w2.symm
 refine ⟨?_,c2,?_,?_,?_,?_,?_,?_,?_⟩
 ·intro l hl0
  obtain ⟨e,n,d1,d2,d3,d4,d5,d6⟩:=c1 l hl0
  obtain ⟨p1,p2,p3,p4⟩:=hep (CV V e)
  exact ⟨e,n,d1,d2,d3,d4,by rw [p1]; exact d5,fun q1 q2=>by rw [p3,<- p4]; exact d6 (by rw [<- p1]; exact q1) (by rw [<- p2]; exact q2)⟩
 ·intro l hl0
  rw [hcal,List.length_set] at hl0
  exact c3 l hl0
 ·intro j hoj
  by_cases e:j=i
  ·subst e; exact absurd hi0 hoj
  ·rw [hj j e] at hoj ⊢
   obtain ⟨k',d',q1,q2,q3⟩:=c4 j hoj
   exact ⟨k',d',q1,by rw [hcal]; exact hcal1 k' d' (hact j e hoj k' q1) q2,q3⟩
 ·intro l d hd hdn
  rw [hcal] at hd
  rcases hcal0 l d hd with ⟨e,e2⟩ | ⟨e,e2⟩
  ·subst e; subst e2
   exact ⟨r3,hpos,r9,r10,rmono _ (hib.mem i s1),Int.le_refl _,c6 l c hk⟩
  ·obtain ⟨d1,d2,d3,d4,d5,d6,d7⟩:=c5 l d e2 hdn
   exact ⟨d1,d2,d3,d4,rmono _ d5,d6,d7⟩
 ·intro l d hd
  rw [hcal] at hd
  rcases hcal0 l d hd with ⟨e,e2⟩ | ⟨e,e2⟩
  ·subst e; subst e2; exact c6 l c hk
  ·exact c6 l d e2
 ·intro x hx h5 h8
  rw [hfly] at hx
  obtain ⟨p1,p2,p3,p4⟩:=hep (CV V x.ep)
  have:=c7 x hx h5 h8
  rw [p1,p2,<- p4]
  exact this
 ·intro j hoj k1 l d b q1 q2 q3 q4 q5
  by_cases e:j=i
  ·subst e; exact absurd hi0 hoj
  ·rw [hj j e] at hoj q1 ⊢
   rw [hcal] at q2 q3
   have hne:=hact j e hoj k1 q1
   rcases hcal0 k1 d q2 with ⟨f,_⟩ | ⟨f,f2⟩
   ·exact absurd f hne
   ·rcases hcal0 l b q3 with ⟨u,u2⟩ | ⟨u,u2⟩
    ·subst u2
     have:=c6 k1 d f2
     simp only [Pe] at q5
     omega
    ·rcases c8 j hoj k1 l d b q1 f2 u2 q4 q5 with r | ⟨w,w1,w2,w3⟩
     ·exact .inl r
     ·exact .inr ⟨w,by rw [hj j e]; exact w1,by rw [hj j e,(hep w).1]; exact w2,by rw [hj j e,hfly]; exact w3⟩
 ·intro k1 l a b q1 q2 q3 q4 q5
  rw [hcal] at q1 q2
  rcases hcal0 k1 a q1 with ⟨e,e2⟩ | ⟨e,e2⟩
  ·subst e2
   have:b.wen<=now:=by
    rcases hcal0 l b q2 with ⟨f,f2⟩ | ⟨f,f2⟩
    ·subst f2; exact c6 k0 c hk
    ·exact c6 l b f2
   simp only [Pe] at q5
   omega
  ·rcases hcal0 l b q2 with ⟨f,f2⟩ | ⟨f,f2⟩
   ·subst f; subst f2
    have hlt:=q5
    simp only [Pe] at hlt
    have:=c8 i ho l k1 c a hc hk e2 q3 hlt
    rcases this with r | ⟨w,w1,_⟩
    ·obtain ⟨d1,d2,d3,d4,d5,d6,d7⟩:=c5 k1 a e2 q3
     obtain ⟨e',n,x1,x2,x3,x4,x5,x6⟩:=c1 k1 (by omega)
     have hee:e'=a.ep:=by omega
     subst hee
     by_cases heq:a.ep=(g.mem i).ep
     ·rw [heq,l2] at x6
      have x7:=x6 rfl s2
      have hne:vr k1≠vr l:=fun q=>e (c2 k1 l (by omega) q)
      omega
     ·omega
    ·rw [hl] at w1; cases w1
   ·exact c9 k1 l a b e2 f2 q3 q4 q5

structure IZ (V:Int->List Int) (g:PG) (vr:Nat->Int):Prop where
 w1:∀ i,(g.mem i).leads=true->(g.mem i).base=true->∀ k∈V (g.mem i).ep,k≠i->k∉(g.mem i).waits->UC g k (g.mem i).ep
 w2:∀ x∈g.fly,x.kind=4->UC g x.frm x.ep
 w3:∀ k e n,vr k≠0->vr k=1000*e+n->1<=n->n<=900->∀ j∈V e,j≠CV V e->UC g j e
 z1:∀ k,(g.mem k).base=true->(g.mem k).ep<=(g.mem (CV V (g.mem k).ep)).ep/\((g.mem (CV V (g.mem k).ep)).ep=(g.mem k).ep->(g.mem (CV V (g.mem k).ep)).leads=true->(g.mem (CV V (g.mem k).ep)).base=true)
 z2:∀ x∈g.fly,x.kind=3\/5<=x.kind->x.ep<=(g.mem (CV V x.ep)).ep/\((g.mem (CV V x.ep)).ep=x.ep->(g.mem (CV V x.ep)).leads=true->(g.mem (CV V x.ep)).base=true)
theorem IZ.mstep {V nv g i m T vr} (h:IZ V g vr) (ha:IA V nv g) (hs:CW V nv g i m T):IZ V (g.set i m T) vr:=by
 have hb:=fun k e=>UC.step (k:=k) (e:=e) hs
 have hm:=kL hs
 have hmem:∀ j,(g.set i m T).mem j=if j=i then m else g.mem j:=fun _=>rfl
 have hfly:(g.set i m T).fly=g.fly++T:=rfl
 have hep:=hs.ep
 have hlead:=ha.lead
 have li:=ha.lead i
 obtain ⟨w1,w2,w3,z1,z2⟩:=h
 have bi:m.base=true->UC (g.set i m T) i m.ep:=fun hb=>.inr ⟨by simp [PG.set],.inl (by simp [PG.set]; exact hb)⟩
 generalize hg':g.set i m T=g' at *
 refine ⟨?_,?_,fun k e n h1 h2 h3 h4 j h5 h6=>hb _ _ (w3 k e n h1 h2 h3 h4 j h5 h6),?_,?_⟩
 ·have key:m.leads=true->m.base=true->∀ k∈V m.ep,k≠i->k∉m.waits->UC g' k m.ep:=by
   have w1i:=w1 i
   clear hg' z1 z2 w1 w3 hm hmem hfly bi
   cases hs<;>simp_all [PM.idle]<;>grind
  intro j
  rw [hmem]
  split
  ·rename_i e; subst e; exact key
  ·exact fun h1 h2 k h3 h4 h5=>hb _ _ (w1 j h1 h2 k h3 h4 h5)
 ·have key:∀ y∈T,y.kind=4->UC g' y.frm y.ep:=by
   clear hg' z1 z2 w1 w3 hm hmem hfly
   cases hs<;>simp_all [PM.idle]<;>grind
  intro x hx hk
  rw [hfly] at hx
  rcases List.mem_append.1 hx with q | q
  ·exact hb _ _ (w2 x q hk)
  ·exact key x q hk
 ·have hl:=hs.lead
  have key:m.base=true->m.ep<=(g'.mem (CV V m.ep)).ep/\((g'.mem (CV V m.ep)).ep=m.ep->(g'.mem (CV V m.ep)).leads=true->(g'.mem (CV V m.ep)).base=true):=by
   have z1i:=z1 i
   simp only [hmem] at hm ⊢
   clear hg' w1 w2 w3 hfly bi hb z1 hmem
   cases hs<;>simp_all [PM.idle]<;>grind
  intro k
  rw [hmem k]
  split
  ·exact key
  ·have:=z1 k
   simp only [hmem] at hm ⊢
   grind
 ·have hl:=hs.lead
  have key:∀ y∈T,y.kind=3\/5<=y.kind->y.ep<=(g'.mem (CV V y.ep)).ep/\((g'.mem (CV V y.ep)).ep=y.ep->(g'.mem (CV V y.ep)).leads=true->(g'.mem (CV V y.ep)).base=true):=by
   simp only [hmem] at hm ⊢
   clear hg' w1 w2 w3 hfly bi hb hmem
   cases hs<;>simp_all [PM.idle]<;>grind
  intro x hx hk
  rw [hfly] at hx
  rcases List.mem_append.1 hx with q | q
  ·have:=z2 x q hk
   simp only [hmem] at hm ⊢
   grind
  ·exact key x q hk
def vl (s:List AM) (k:List UInt8):Int:=((s.find? fun a=>a.1.toList==k).getD (ByteArray.empty,ByteArray.empty,0)).2.2
theorem rd (s:List AM) (k:ByteArray):vl s k.toList=(BD s k).2.2:=rfl
theorem nS {s:List AM} (h:Ap s=true) (a:AM) (k:List UInt8):vl s k<=vl (Aj s a) k:=by
 unfold vl
 cases q:s.find? (fun b=>b.1.toList==k) with
 | none =>
  cases r:(Aj s a).find? (fun b=>b.1.toList==k) with
  | none=>exact Int.le_refl _
  | some b =>
   have:=(Cm.1 (Ib (a:=a) h)).1 b (List.mem_of_find?_eq_some r)
   unfold I1 at this
   simp only [Bool.and_eq_true,decide_eq_true_eq] at this
   show (0:Int)<=b.2.2
   omega
 | some b =>
  have hb:=List.mem_of_find?_eq_some q
  have hk:b.1.toList=k:=by simpa using List.find?_some q
  have:=xQ (a:=a) h hb
  subst hk
  exact this
theorem ZZ {s:List AM} {a:AM} (h:Ap s=true) (h1:1<=a.2.2) (hv:a.2.2<=vl s a.1.toList):Aj s a=s:=by
 have:=(uJ (Cm.1 h).2.1 h1).1 hv
 unfold Aj
 rw [if_pos this]
theorem oq {s:List AM} {a:AM} (h:Ap s=true) (h1:1<=a.2.2) (he:BD (Aj s a) a.1=a):Aj (Aj s a) a=Aj s a :=
 ZZ (Ib h) h1 (by rw [rd,he]; exact Int.le_refl _)
theorem tO {s:List AM} {a:AM} (h:Ap s=true) (ha:a∈s):1<=a.2.2:=by
 have:=(Cm.1 h).1 a ha
 unfold I1 at this
 simp only [Bool.and_eq_true,decide_eq_true_eq] at this
 omega
structure IE (V:Int->List Int) (g:PG):Prop where
 ok:∀ i,Ap (g.mem i).items=true
 okx:∀ x∈g.fly,Ap x.items=true
 e1:∀ i,(g.mem i).leads=true->(g.mem i).base=true->(g.mem i).serves=false->∀ x∈g.fly,x.kind=3->x.ep=(g.mem i).ep->x.items=(g.mem i).items
 e2:∀ i,(g.mem i).leads=true->(g.mem i).base=true->∀ j,(g.mem j).base=true->(g.mem j).ep=(g.mem i).ep->(g.mem j).items=(g.mem i).items\/((g.mem i).op=1/\(g.mem j).items=Aj (g.mem i).items (g.mem i).ti)
 e3:∀ i,(g.mem i).op=1->∀ j,j≠i->(g.mem j).base=true->(g.mem j).ep=(g.mem i).ep->(j∉(g.mem i).left\/∃ x∈g.fly,x.kind=6/\x.frm=j/\x.ep=(g.mem i).ep/\x.num=(g.mem i).num)->(g.mem j).items=Aj (g.mem i).items (g.mem i).ti
 e4:∀ x∈g.fly,x.kind=5->∀ a,x.items=[a]->(g.mem (CV V x.ep)).leads=true->(g.mem (CV V x.ep)).base=true->(g.mem (CV V x.ep)).ep=x.ep ->
  ((g.mem (CV V x.ep)).op=1->x.num=(g.mem (CV V x.ep)).num->a=(g.mem (CV V x.ep)).ti)/\(¬ ((g.mem (CV V x.ep)).op=1/\x.num=(g.mem (CV V x.ep)).num)->a.2.2<=vl (g.mem (CV V x.ep)).items a.1.toList)
 e5:∀ i,(g.mem i).op=1->BD (Aj (g.mem i).items (g.mem i).ti) (g.mem i).ti.1=(g.mem i).ti/\1<=(g.mem i).ti.2.2
set_option maxHeartbeats 1000000 in
theorem IE.mstep {V nv g i m T vr} (h:IE V g) (ha:IA V nv g) (hz:IZ V g vr) (hs:CW V nv g i m T):IE V (g.set i m T):=by
 have hmem:∀ j,(g.set i m T).mem j=if j=i then m else g.mem j:=fun _=>rfl
 have hfly:(g.set i m T).fly=g.fly++T:=rfl
 have hlead:=ha.lead
 have hserv:=ha.serv
 have htask:=ha.task
 obtain ⟨w1,w2,w3,z1,z2⟩:=hz
 obtain ⟨ok,okx,e1,e2,e3,e4,e5⟩:=h
 have hni:=Ph
 have fresh:∀ x:PX,((g.mem i).ep<x.ep\/(g.mem i).ep=x.ep/\(g.mem i).base=false/\(g.mem i).fell=false)->∀ f,(g.mem f).leads=true->(g.mem f).base=true->(g.mem f).ep=x.ep->i∈V x.ep->i≠f->(g.mem f).serves=false:=by
  intro x hx f h1 h2 h3 h4 h5
  cases q:(g.mem f).serves with
  | false=>rfl
  | true =>
   have hw:=(hserv f q).2.2
   have:=w1 f h1 h2 i (by rw [h3]; exact h4) h5 (by rw [hw]; simp)
   rw [h3] at this
   unfold UC at this
   grind
 have p1:=fun a=>Ib (a:=a) (ok i)
 have li:=hlead i
 have si:=hserv i
 have ti:=htask i
 have hok:Ap m.items=true:=by
  clear e1 e2 e3 e4 e5 w1 w2 w3 z1 z2 fresh hmem hfly hlead hserv htask
  cases hs<;>simp_all [PM.idle]
 have hokx:∀ x∈T,Ap x.items=true:=by
  clear e1 e2 e3 e4 e5 w1 w2 w3 z1 z2 fresh hmem hfly hlead hserv htask
  cases hs<;>simp_all [PM.idle]<;>grind
 have k1:m.leads=true->m.base=true->m.serves=false->∀ x∈g.fly++T,x.kind=3->x.ep=m.ep->x.items=m.items:=by
  have e1i:=e1 i
  clear e1 e2 e3 e4 e5 w1 w2 w3 z1 fresh hmem hfly hlead hserv htask okx p1 hok hokx
  cases hs<;>simp_all [PM.idle]<;>grind
 have k1b:∀ f,f≠i->(g.mem f).leads=true->∀ x∈T,x.kind=3->x.ep≠(g.mem f).ep:=by
  intro f hf hl
  have lf:=hlead f hl
  clear e1 e2 e3 e4 e5 w1 w2 w3 z1 z2 fresh hmem hfly hlead hserv htask okx p1 hok hokx k1
  cases hs<;>simp_all [PM.idle]<;>grind
 have k2a:m.leads=true->m.base=true->∀ j,j≠i->(g.mem j).base=true->(g.mem j).ep=m.ep->(g.mem j).items=m.items\/(m.op=1/\(g.mem j).items=Aj m.items m.ti):=by
  have e2i:=e2 i
  clear e1 e2 e3 e4 e5 w1 w2 w3 z2 fresh hmem hfly hlead hserv htask okx p1 hok hokx k1 k1b
  intro q1 q2 j hj q3 q4
  have z:=z1 j q3
  clear z1
  cases hs<;>(try dsimp only [PM.idle] at *)<;>grind
 have k2b:∀ f,f≠i->(g.mem f).leads=true->(g.mem f).base=true->m.base=true->m.ep=(g.mem f).ep->m.items=(g.mem f).items\/((g.mem f).op=1/\m.items=Aj (g.mem f).items (g.mem f).ti):=by
  intro f hf h1 h2 h3 h4
  have lf:=hlead f h1
  have e2f:=e2 f h1 h2 i
  have e5f:=e5 f
  have e1f:=e1 f h1 h2
  have fr:=fun (x:PX) hx=>fresh x hx f h1 h2
  have st:∀ a,1<=a.2.2->a.2.2<=vl (g.mem f).items a.1.toList->Aj (g.mem f).items a=(g.mem f).items:=fun a b c=>ZZ (ok f) b c
  have st2:∀ a,1<=a.2.2->a.2.2<=vl (g.mem f).items a.1.toList->Aj (Aj (g.mem f).items (g.mem f).ti) a=Aj (g.mem f).items (g.mem f).ti:=fun a b c=>ZZ (Ib (ok f)) b (Int.le_trans c (nS (ok f) _ _))
  have tw:=oq (a:=(g.mem f).ti) (ok f)
  have ov:∀ x∈g.fly,∀ a,x.items=[a]->1<=a.2.2:=fun x hx a e=>tO (okx x hx) (by rw [e]; simp)
  clear e1 e2 e3 e5 w1 w2 w3 z1 z2 fresh hmem hfly hlead hserv htask okx p1 hok hokx k1 k1b k2a
  cases hs<;>(try dsimp only [PM.idle] at *)<;>grind
 have k3a:m.op=1->∀ j,j≠i->(g.mem j).base=true->(g.mem j).ep=m.ep->(j∉m.left\/∃ x∈g.fly,x.kind=6/\x.frm=j/\x.ep=m.ep/\x.num=m.num)->(g.mem j).items=Aj m.items m.ti:=by
  have e3i:=e3 i
  clear e1 e2 e3 e4 e5 w1 w2 w3 z1 z2 fresh hmem hfly hlead hserv htask okx p1 hok hokx k1 k1b k2a k2b
  intro q1 j q2 q3 q4 q5
  have e3j:=fun a b=>e3i a j q2 q3 b
  clear e3i
  cases hs<;>(try dsimp only [PM.idle] at *)<;>grind
 have k3b:∀ f,f≠i->(g.mem f).op=1->m.base=true->m.ep=(g.mem f).ep->(i∉(g.mem f).left\/∃ x∈g.fly++T,x.kind=6/\x.frm=i/\x.ep=(g.mem f).ep/\x.num=(g.mem f).num)->m.items=Aj (g.mem f).items (g.mem f).ti:=by
  intro f hf ho h3 h4 h5
  have h0:=htask f (by omega)
  obtain ⟨h2,h1,h6⟩:=hserv f h0.1
  have lf:=hlead f h1
  have e2f:=e2 f h1 h2 i
  have e3f:=fun a b c=>e3 f ho i (Ne.symm hf) a b (.inl c)
  have e3g:(g.mem i).base=true->(g.mem i).ep=(g.mem f).ep->∀ x∈g.fly,x.kind=6->x.frm=i->x.ep=(g.mem f).ep->x.num=(g.mem f).num->(g.mem i).items=Aj (g.mem f).items (g.mem f).ti:=fun a b x hx c1 c2 c3 c4=>e3 f ho i (Ne.symm hf) a b (.inr ⟨x,hx,c1,c2,c3,c4⟩)
  have e5f:=e5 f ho
  have fr:=fun (x:PX) hx=>fresh x hx f h1 h2
  have st2:∀ a,1<=a.2.2->a.2.2<=vl (g.mem f).items a.1.toList->Aj (Aj (g.mem f).items (g.mem f).ti) a=Aj (g.mem f).items (g.mem f).ti:=fun a b c=>ZZ (Ib (ok f)) b (Int.le_trans c (nS (ok f) _ _))
  have tw:=oq (a:=(g.mem f).ti) (ok f) e5f.2 e5f.1
  have ov:∀ x∈g.fly,∀ a,x.items=[a]->1<=a.2.2:=fun x hx a e=>tO (okx x hx) (by rw [e]; simp)
  clear e1 e2 e3 e5 w1 w2 w3 z1 z2 fresh hmem hfly hlead hserv htask okx p1 hok hokx k1 k1b k2a k2b k3a
  cases hs<;>(try dsimp only [PM.idle] at *)<;>grind
 have k4:∀ x∈g.fly,x.kind=5->CV V x.ep=i->m.leads=true->m.base=true->m.ep=x.ep->(g.mem i).leads=true/\(g.mem i).base=true/\(g.mem i).ep=x.ep/\m.op=(g.mem i).op/\m.num=(g.mem i).num/\m.ti=(g.mem i).ti/\m.items=(g.mem i).items:=by
  intro x hx hk hf
  have z:=z2 x hx (.inr (by omega))
  rw [hf] at z
  clear e1 e2 e3 e4 e5 w1 w2 w3 z1 z2 fresh hmem hfly hlead hserv htask okx p1 hok hokx k1 k1b k2a k2b k3a k3b
  cases hs<;>simp_all [PM.idle]<;>grind
 have k5:m.op=1->m.items=(g.mem i).items/\m.ti=(g.mem i).ti/\(g.mem i).op=1:=by
  clear e1 e2 e3 e4 e5 w1 w2 w3 z1 z2 fresh hmem hfly hlead hserv htask okx p1 hok hokx k1 k1b k2a k2b k3a k3b k4
  cases hs<;>simp_all [PM.idle]<;>grind
 have kT:∀ x∈T,x.kind≠5:=by
  clear e1 e2 e3 e4 e5 w1 w2 w3 z1 z2 fresh hmem hfly hlead hserv htask okx p1 hok hokx k1 k1b k2a k2b k3a k3b k4 k5
  cases hs<;>simp_all [PM.idle]<;>grind
 have k6:∀ x∈T,x.kind=6->x.frm=i:=fun x hx hk=>(hs.talk x hx (by omega)).2.1
 clear hs
 generalize g.set i m T=g' at *
 refine ⟨?_,?_,?_,?_,?_,?_,?_⟩
 ·intro j; rw [hmem]; split
  ·exact hok
  ·exact ok j
 ·intro x hx
  rw [hfly] at hx
  rcases List.mem_append.1 hx with q | q
  ·exact okx x q
  ·exact hokx x q
 ·intro j; rw [hmem,hfly]; split
  ·exact k1
  ·intro h1 h2 h3 x hx hk he
   rcases List.mem_append.1 hx with q | q
   ·exact e1 j h1 h2 h3 x q hk he
   ·rename_i hne; exact absurd he (k1b j hne h1 x q hk)
 ·intro j h1 h2 l h3 h4
  rw [hmem] at h1 h2 h3 h4 ⊢
  rw [hmem]
  grind
 ·intro j h1 l hl h3 h4 h5
  rw [hfly] at h5
  rw [hmem] at h1 h3 h4 h5 ⊢
  rw [hmem] at h4 ⊢
  by_cases hji:j=i
  ·subst hji
   simp only [if_true] at *
   rw [if_neg hl] at *
   refine k3a h1 l hl h3 h4 (h5.imp id fun ⟨x,hx,q⟩=>⟨x,?_,q⟩)
   rcases List.mem_append.1 hx with r | r
   ·exact r
   ·exact absurd (k6 x r q.1) (by rw [q.2.1]; exact hl)
  ·rw [if_neg hji] at *
   by_cases hli:l=i
   ·subst hli
    simp only [if_true] at *
    exact k3b j hji h1 h3 h4 h5
   ·rw [if_neg hli] at *
    refine e3 j h1 l hl h3 h4 (h5.imp id fun ⟨x,hx,q⟩=>⟨x,?_,q⟩)
    rcases List.mem_append.1 hx with r | r
    ·exact r
    ·exact absurd (k6 x r q.1) (by rw [q.2.1]; exact hli)
 ·intro x hx hk a hxa h1 h2 h3
  rw [hfly] at hx
  rcases List.mem_append.1 hx with q | q
  ·rw [hmem] at h1 h2 h3 ⊢
   have:=e4 x q hk a hxa
   by_cases hf:CV V x.ep=i
   ·rw [if_pos hf] at *
    have:=k4 x q hk hf h1 h2 h3
    rw [hf] at *
    grind
   ·rw [if_neg hf] at *
    exact this h1 h2 h3
  ·exact absurd hk (kT x q)
 ·intro j h1
  rw [hmem] at h1 ⊢
  have:=e5 i
  grind

def U7 (m:PM):Int:=if m.op=1 then m.ti.2.2 else vl m.items m.ti.1.toList
def Z0 (g:PG) (vr:Nat->Int) (y:AM):Prop:=∃ (k:Nat) (c:PC),g.calls[k]? = some c/\c.op=1/\c.key=y.1/\c.val=y.2.1/\vr k=y.2.2/\1<=y.2.2
structure IF (V:Int->List Int) (g:PG) (vr:Nat->Int):Prop where
 f1:∀ (k:Nat) c,g.calls[k]? = some c->0<=c.done->∀ j,(g.mem j).base=true->c.ep<=(g.mem j).ep->c.ver<=vl (g.mem j).items c.key.toList
 f2:∀ (k:Nat) c,g.calls[k]? = some c->0<=c.done->∀ x∈g.fly,x.kind=2\/x.kind=3->c.ep<x.ep->c.ver<=vl x.items c.key.toList
 p1:∀ i,(g.mem i).op≠0->I7 g i\/((∀ j,(g.mem j).base=true->(g.mem i).ep<(g.mem j).ep->U7 (g.mem i)<=vl (g.mem j).items (g.mem i).ti.1.toList)/\(∀ x∈g.fly,x.kind=2\/x.kind=3->(g.mem i).ep<x.ep->U7 (g.mem i)<=vl x.items (g.mem i).ti.1.toList) /\
  (∀ (k:Nat) c,g.calls[k]? = some c->0<=c.done->c.op=2->(g.mem i).ep<c.ep->c.key.toList=(g.mem i).ti.1.toList->U7 (g.mem i)<=c.ver))
 fr:∀ (k l:Nat) c d,g.calls[k]? = some c->g.calls[l]? = some d->0<=c.done->0<=d.done->c.op=2->c.key.toList=d.key.toList->vr l<vr k->d.ver<=c.ver
 vs:∀ (k:Nat) c,g.calls[k]? = some c->0<=c.done->c.ver<=vr k/\(c.op=1->c.ver=vr k)
 pm:∀ i,∀ y∈(g.mem i).items,Z0 g vr y
 px:∀ x∈g.fly,∀ y∈x.items,Z0 g vr y
 pt:∀ i,(g.mem i).op=1->Z0 g vr (g.mem i).ti
 gt:∀ (k:Nat) c,g.calls[k]? = some c->0<=c.done->c.op=2->(c.ver=0/\c.got=ByteArray.empty)\/∃ y,Z0 g vr y/\y.1.toList=c.key.toList/\c.ver=y.2.2/\c.got=y.2.1
theorem IF.mstep {V nv g i m T vr now} (h:IF V g vr) (ha:IA V nv g) (ht:IT V g vr now) (hz:IZ V g vr) (he:IE V g) (hs:CW V nv g i m T):IF V (g.set i m T) vr:=by
 have hmem:∀ j,(g.set i m T).mem j=if j=i then m else g.mem j:=fun _=>rfl
 have hfly:(g.set i m T).fly=g.fly++T:=rfl
 have hcal:(g.set i m T).calls=g.calls:=rfl
 obtain ⟨f1,f2,p1,fr,vs,pm,px,pt,gt⟩:=h
 have hstk:=fun j=>I7.step (j:=j) hs
 have li:=ha.lead i
 have si:=ha.serv i
 have ti:=ha.task i
 have dn:∀ (k:Nat) c,g.calls[k]? = some c->0<=c.done->c.ep<=(g.mem (CV V c.ep)).ep/\((g.mem (CV V c.ep)).ep=c.ep->(g.mem (CV V c.ep)).leads=true->(g.mem (CV V c.ep)).base=true)/\(∀ j∈V c.ep,j≠CV V c.ep->UC g j c.ep):=by
  intro k c hk hd
  obtain ⟨d1,d2,d3,d4,d5,d6,d7⟩:=ht.dn k c hk hd
  obtain ⟨e,n,x1,x2,x3,x4,x5,x6⟩:=ht.st k (by omega)
  have:e=c.ep:=by omega
  subst this
  exact ⟨x5,fun q1 q2=>(x6 q1 q2).1,hz.w3 k c.ep c.num (by omega) d1 d3 d4⟩
 have q1:=fun a k=>nS (he.ok i) a k
 have k1:∀ (k:Nat) c,g.calls[k]? = some c->0<=c.done->m.base=true->c.ep<=m.ep->c.ver<=vl m.items c.key.toList:=by
  intro k c hk hd
  obtain ⟨d1,d2,d3⟩:=dn k c hk hd
  have g1:=f1 k c hk hd i
  have g2:=f2 k c hk hd
  have d3i:=d3 i
  have q1c:=fun a=>q1 a c.key.toList
  unfold UC at d3i
  clear dn f1 f2 p1 fr vs pm px pt gt hstk q1 d3 ha ht hz he hmem hfly hcal
  cases hs<;>simp_all [PM.idle]<;>grind
 have k2:∀ (k:Nat) c,g.calls[k]? = some c->0<=c.done->∀ x∈T,x.kind=2\/x.kind=3->c.ep<x.ep->c.ver<=vl x.items c.key.toList:=by
  intro k c hk hd
  have g1:=f1 k c hk hd i
  have g2:=f2 k c hk hd
  clear dn f1 f2 p1 fr vs pm px pt gt hstk q1 ha ht hz he hmem hfly hcal k1
  cases hs<;>simp_all [PM.idle]<;>grind
 have special:∀ j,j≠i->(g.mem j).op≠0->(g.mem i).base=true->(g.mem i).ep=(g.mem j).ep->(g.mem i).ep<m.ep->(∀ x∈T,x.kind≠6/\x.kind≠8)->I7 (g.set i m T) j\/U7 (g.mem j)<=vl (g.mem i).items (g.mem j).ti.1.toList:=by
  intro j hj ho hb hep hlt hT
  obtain ⟨t1,t2,t3⟩:=ha.task j ho
  obtain ⟨s1,s2,s3⟩:=ha.serv j t1
  rcases t2 with t2 | t2
  ·by_cases hr:i∉(g.mem j).left\/∃ x∈g.fly,x.kind=6/\x.frm=i/\x.ep=(g.mem j).ep/\x.num=(g.mem j).num
   ·have:=he.e3 j t2 i (Ne.symm hj) hb hep hr
    right
    unfold U7
    rw [if_pos t2,this,rd,(he.e5 j t2).1]
    exact Int.le_refl _
   ·left
    have hr1:i∈(g.mem j).left:=by
     by_cases q:i∈(g.mem j).left
     ·exact q
     ·exact absurd (.inl q) hr
    refine ⟨i,by rw [hmem,if_neg hj]; exact hr1,by rw [hmem,if_neg hj,hmem,if_pos rfl]; omega,fun x hx hk hf hxe hn=>?_⟩
    rw [hmem,if_neg hj] at hk hxe hn
    rw [hfly] at hx
    rcases List.mem_append.1 hx with q | q
    ·exact hr (.inr ⟨x,q,by omega,hf,hxe,hn⟩)
    ·have:=hT x q; omega
  ·right
   unfold U7
   rw [if_neg (by omega)]
   rcases he.e2 j s2 s1 i hb hep with q | q
   ·rw [q]; exact Int.le_refl _
   ·omega
 have kp:∀ j,j≠i->(g.mem j).op≠0->I7 g j\/I7 (g.set i m T) j\/((m.base=true->(g.mem j).ep<m.ep->U7 (g.mem j)<=vl m.items (g.mem j).ti.1.toList)/\(∀ x∈T,x.kind=2\/x.kind=3->(g.mem j).ep<x.ep->U7 (g.mem j)<=vl x.items (g.mem j).ti.1.toList)):=by
  intro j hj ho
  rcases p1 j ho with q | ⟨b1,b2,b3⟩
  ·exact .inl q
  ·have sp:=special j hj ho
   have b1i:=b1 i
   have q1c:=fun a=>q1 a (g.mem j).ti.1.toList
   generalize hA:I7 (g.set i m T) j=A at *
   generalize U7 (g.mem j)=tb at *
   right
   clear dn f1 f2 p1 fr vs pm px pt gt hstk q1 ha ht hz he hmem hfly hcal k1 k2 special hA b1 b3
   cases hs<;>simp_all [PM.idle]<;>grind
 have kt:m.op≠0->(g.mem i).op≠0/\m.op=(g.mem i).op/\m.ti=(g.mem i).ti/\m.items=(g.mem i).items/\m.ep=(g.mem i).ep/\(∀ x∈T,x.kind≠2/\x.kind≠3):=by
  clear dn f1 f2 p1 fr vs pm px pt gt hstk q1 ha ht hz he hmem hfly hcal k1 k2 special kp
  cases hs<;>simp_all [PM.idle]<;>grind
 have kb:m.op≠0->m.base=true:=fun ho=>by
  obtain ⟨t1,t2⟩:=kt ho
  have:=(si (ti t1).1).1
  clear dn f1 f2 p1 fr vs pm px pt gt hstk q1 ha ht hz he hmem hfly hcal k1 k2 special kp
  cases hs<;>simp_all [PM.idle]
 have kv:∀ y∈m.items,Z0 g vr y:=by
  have pmi:=pm i
  have ps:=fun (a b:AM) h=>ZA (x:=(g.mem i).items) (a:=a) (b:=b) h
  clear dn f1 f2 p1 fr vs pm pt gt hstk q1 ha ht hz he hmem hfly hcal k1 k2 special kp kt kb
  cases hs<;>simp_all [PM.idle]<;>grind
 have kw:∀ x∈T,∀ y∈x.items,Z0 g vr y:=by
  have pmi:=pm i
  clear dn f1 f2 p1 fr vs pm pt gt hstk q1 ha ht hz he hmem hfly hcal k1 k2 special kp kt kb kv
  cases hs<;>simp_all [PM.idle]<;>grind
 clear hs
 have hprov:∀ y,Z0 g vr y->Z0 (g.set i m T) vr y:=fun y h=>h
 refine ⟨?_,?_,?_,fr,vs,?_,?_,?_,fun k c h1 h2 h3=>gt k c h1 h2 h3⟩
 ·intro k c hk hd j
  rw [hmem]
  split
  ·exact k1 k c hk hd
  ·exact f1 k c hk hd j
 ·intro k c hk hd x hx
  rw [hfly] at hx
  rcases List.mem_append.1 hx with q | q
  ·exact f2 k c hk hd x q
  ·exact k2 k c hk hd x q
 ·intro j ho
  by_cases hj:j=i
  ·subst hj
   have ho2:m.op≠0:=by rw [hmem,if_pos rfl] at ho; exact ho
   obtain ⟨t1,t2,t3,t4,t5,t6⟩:=kt ho2
   have te:U7 m=U7 (g.mem j):=by unfold U7; rw [t2,t3,t4]
   rcases p1 j t1 with q | ⟨b1,b2,b3⟩
   ·exact .inl (hstk j q ho)
   ·right
    rw [hmem,if_pos rfl,te,t3,t5]
    refine ⟨fun l=>?_,fun x hx hk=>?_,b3⟩
    ·rw [hmem]
     split
     ·rename_i e; intro _ h; omega
     ·exact b1 l
    ·rw [hfly] at hx
     rcases List.mem_append.1 hx with r | r
     ·exact b2 x r hk
     ·have:=t6 x r; omega
  ·have ho2:(g.mem j).op≠0:=by rw [hmem,if_neg hj] at ho; exact ho
   rcases kp j hj ho2 with q | q | ⟨q1',q2'⟩
   ·exact .inl (hstk j q ho)
   ·exact .inl q
   ·rcases p1 j ho2 with q | ⟨b1,b2,b3⟩
    ·exact .inl (hstk j q ho)
    ·right
     rw [hmem,if_neg hj]
     refine ⟨fun l=>?_,fun x hx hk=>?_,b3⟩
     ·rw [hmem]
      split
      ·exact q1'
      ·exact b1 l
     ·rw [hfly] at hx
      rcases List.mem_append.1 hx with r | r
      ·exact b2 x r hk
      ·exact q2' x r hk
 ·intro j y hy
  rw [hmem] at hy
  split at hy
  ·exact kv y hy
  ·exact pm j y hy
 ·intro x hx
  rw [hfly] at hx
  rcases List.mem_append.1 hx with r | r
  ·exact px x r
  ·exact kw x r
 ·intro j ho
  by_cases hj:j=i
  ·subst hj
   rw [hmem,if_pos rfl] at ho ⊢
   obtain ⟨t1,t2,t3,t4,t5,t6⟩:=kt (by omega)
   rw [t3]
   exact pt j (by omega)
  ·rw [hmem,if_neg hj] at ho ⊢
   exact pt j ho
theorem IA.drop {V nv g f} (h:IA V nv g):IA V nv { g with fly:=f }:=⟨h.1,h.2,h.3,h.4,h.5,h.6,h.7⟩
theorem IB.drop {V g f} (h:IB V g) (hf:∀ x∈f,x∈g.fly):IB V { g with fly:=f }:=⟨h.mem,fun x hx=>h.fly x (hf x hx)⟩
theorem IZ.drop {V g vr f} (h:IZ V g vr) (hf:∀ x∈f,x∈g.fly):IZ V { g with fly:=f } vr:=⟨h.w1,fun x hx=>h.w2 x (hf x hx),h.w3,h.z1,fun x hx=>h.z2 x (hf x hx)⟩
theorem IE.drop {V g f} (h:IE V g) (hf:∀ x∈f,x∈g.fly):IE V { g with fly:=f } :=
 ⟨h.ok,fun x hx=>h.okx x (hf x hx),fun i a b c x hx=>h.e1 i a b c x (hf x hx),h.e2,fun i a j b c d e=>h.e3 i a j b c d (e.imp id fun ⟨x,hx,q⟩=>⟨x,hf x hx,q⟩),fun x hx=>h.e4 x (hf x hx),h.e5⟩
theorem IF.drop {V g vr f} (h:IF V g vr) (hf:∀ x∈f,x∈g.fly):IF V { g with fly:=f } vr :=
 ⟨h.f1,fun k c a b x hx=>h.f2 k c a b x (hf x hx),fun i a=>(h.p1 i a).imp (I7.less hf) fun ⟨x,y,z⟩=>⟨x,fun w hw=>y w (hf w hw),z⟩,h.fr,h.vs,h.pm,fun x hx=>h.px x (hf x hx),h.pt,h.gt⟩
theorem IF.call {V g vr} {c:PC} (h:IF V g vr) (h1:c.done=-1):IF V { g with calls:=g.calls++[c] } vr:=by
 obtain ⟨f1,f2,p1,fr,vs,pm,px,pt,gt⟩:=h
 have hg:∀ (k:Nat) d,(g.calls++[c])[k]? = some d->0<=d.done->g.calls[k]? = some d:=by
  intro k d hd h0
  have:g.calls[k]? = some d\/(k=g.calls.length/\d=c):=by grind
  rcases this with e | ⟨_,e⟩
  ·exact e
  ·subst e; omega
 have hp:∀ y,Z0 g vr y->Z0 { g with calls:=g.calls++[c] } vr y:=fun y ⟨k,d,q,r⟩=>⟨k,d,by grind,r⟩
 refine ⟨fun k d a b=>f1 k d (hg k d a b) b,fun k d a b=>f2 k d (hg k d a b) b,fun i a=>(p1 i a).imp id fun ⟨x,y,z⟩=>⟨x,y,fun k d q r=>z k d (hg k d q r) r⟩,fun k l d e q r s t=>fr k l d e (hg k d q s) (hg l e r t) s t,fun k d a b=>vs k d (hg k d a b) b,
  fun i y hy=>hp y (pm i y hy),fun x hx y hy=>hp y (px x hx y hy),fun i a=>hp _ (pt i a),fun k d a b e=>(gt k d (hg k d a b) b e).imp id fun ⟨y,q,r⟩=>⟨y,hp y q,r⟩⟩
section
variable {V:Int->List Int} {nv now:Int} {g:PG} {vr:Nat->Int} {i:Int} {c:PC} {L:List Int} {a:AM} {T:List PX}
def Bd (g:PG) (i:Int) (c:PC) (L:List Int) (a:AM) (T:List PX):PG:={ (g.set i (Og g i c L a) T) with calls:=g.calls++[c] }
def vv (g:PG) (i:Int) (vr:Nat->Int):Nat->Int:=fun k=>if k=g.calls.length then 1000*(g.mem i).ep+((g.mem i).cnt+1) else vr k
theorem IA.start (h:IA V nv g) (h3:(g.mem i).serves=true) (h5:c.op=1\/c.op=2):IA V nv (Bd g i c L a T):=by
 obtain ⟨a1,a2,a3,a4,a5,a6,a7⟩:=h
 have b6:=a6 i
 refine ⟨fun j=>?_,fun j=>?_,fun j=>?_,fun j=>?_,fun j=>?_,fun j=>?_,fun j=>?_⟩<;>simp only [Bd,PG.set,Og]<;>split<;>grind
theorem UD (j:Int):((Bd g i c L a T).mem j).ep=(g.mem j).ep/\((Bd g i c L a T).mem j).base=(g.mem j).base/\((Bd g i c L a T).mem j).leads=(g.mem j).leads/\((Bd g i c L a T).mem j).fell=(g.mem j).fell/\((Bd g i c L a T).mem j).items=(g.mem j).items/\((Bd g i c L a T).mem j).serves=(g.mem j).serves/\((Bd g i c L a T).mem j).waits=(g.mem j).waits:=by
 simp only [Bd,PG.set,Og]
 split
 ·rename_i e; subst e; exact ⟨rfl,rfl,rfl,rfl,rfl,rfl,rfl⟩
 ·exact ⟨rfl,rfl,rfl,rfl,rfl,rfl,rfl⟩
theorem IB.start (h:IB V g) (hT:∀ y∈T,y.kind=5\/y.kind=7):IB V (Bd g i c L a T):=by
 have mono:∀ e,CG V g e->CG V (Bd g i c L a T) e:=fun e h=>h.mono fun j=>by rw [(UD j).1]; exact Int.le_refl _
 refine ⟨fun j hb=>?_,fun x hx hk=>?_⟩
 ·obtain ⟨q1,q2,_⟩:=UD (g:=g) (i:=i) (c:=c) (L:=L) (a:=a) (T:=T) j
  rw [q1]; rw [q2] at hb; exact mono _ (h.mem j hb)
 ·rcases List.mem_append.1 hx with q | q
  ·exact mono _ (h.fly x q hk)
  ·have:=hT x q; omega
theorem IZ.start (h:IZ V g vr) (hia:IA V nv g) (hcl:∀ k,g.calls.length<=k->vr k=0) (h3:(g.mem i).serves=true) (hc9:(g.mem i).cnt<900) (hT:∀ y∈T,(y.kind=5\/y.kind=7)/\y.ep=(g.mem i).ep):IZ V (Bd g i c L a T) (vv g i vr):=by
 obtain ⟨s1,s2,s3⟩:=hia.serv i h3
 obtain ⟨l1,l2⟩:=hia.lead i s2
 have hcnt:=hia.cnt i
 have he:=UD (g:=g) (i:=i) (c:=c) (L:=L) (a:=a) (T:=T)
 have hb:∀ k e,UC g k e->UC (Bd g i c L a T) k e:=fun k e h=>by
  obtain ⟨q1,q2,q3,q4,_⟩:=he k
  unfold UC at *
  rw [q1,q2,q4]; exact h
 have hfly:(Bd g i c L a T).fly=g.fly++T:=rfl
 generalize Bd g i c L a T=g' at *
 obtain ⟨w1,w2,w3,z1,z2⟩:=h
 refine ⟨?_,?_,?_,?_,?_⟩
 ·intro j h1 h2 k h4 h5 h6
  obtain ⟨q1,q2,q3,q4,q5,q6,q7⟩:=he j
  rw [q3] at h1; rw [q2] at h2; rw [q1] at h4 ⊢; rw [q7] at h6
  exact hb _ _ (w1 j h1 h2 k h4 h5 h6)
 ·intro x hx hk
  rw [hfly] at hx
  rcases List.mem_append.1 hx with q | q
  ·exact hb _ _ (w2 x q hk)
  ·have:=hT x q; omega
 ·intro k e n h1 h2 h4 h5 j h6 h7
  unfold vv at h1 h2
  split at h1
  ·rename_i hk
   rw [if_pos hk] at h2
   have:e=(g.mem i).ep:=by omega
   subst this
   rw [l2] at h7
   exact hb _ _ (w1 i s2 s1 j h6 h7 (by rw [s3]; simp))
  ·rename_i hk
   rw [if_neg hk] at h2
   exact hb _ _ (w3 k e n h1 h2 h4 h5 j h6 h7)
 ·intro k hk
  obtain ⟨q1,q2,q3,q4,q5,q6,q7⟩:=he k
  rw [q2] at hk; rw [q1]
  obtain ⟨r1,r2,r3,_⟩:=he (CV V (g.mem k).ep)
  rw [r1,r2,r3]
  exact z1 k hk
 ·intro x hx hk
  obtain ⟨r1,r2,r3,_⟩:=he (CV V x.ep)
  rw [r1,r2,r3]
  rw [hfly] at hx
  rcases List.mem_append.1 hx with q | q
  ·exact z2 x q hk
  ·have:=(hT x q).2
   rw [this,l2]
   exact ⟨Int.le_refl _,fun _ _=>s1⟩
theorem IE.start (h:IE V g) (hia:IA V nv g) (hit:IT V g vr now) (h3:(g.mem i).serves=true) (h4:(g.mem i).op=0) (h5:c.op=1\/c.op=2) (hL:∀ k,k∈L↔k∈V (g.mem i).ep/\k≠i) (hA:a=(c.key,c.val,1000*(g.mem i).ep+((g.mem i).cnt+1))) (hp:c.op=1->BD (Aj (g.mem i).items a) a.1=a) (hone:Ap [a]=true)
  (hT:∀ y∈T,(y.kind=5/\c.op=1/\y.items=[a]\/y.kind=7/\c.op=2/\y.items=[])/\y.ep=(g.mem i).ep/\y.num=(g.mem i).cnt+1/\y.frm=i):IE V (Bd g i c L a T):=by
 obtain ⟨s1,s2,s3⟩:=hia.serv i h3
 obtain ⟨l1,l2⟩:=hia.lead i s2
 have hpos:=hia.pos i
 have hcnt:=hia.cnt i
 have hv1:1<=a.2.2:=by rw [hA]; show 1<=1000*(g.mem i).ep+((g.mem i).cnt+1); omega
 have he:=UD (g:=g) (i:=i) (c:=c) (L:=L) (a:=a) (T:=T)
 have hi:((Bd g i c L a T).mem i).op=c.op/\((Bd g i c L a T).mem i).num=(g.mem i).cnt+1/\((Bd g i c L a T).mem i).ti=a/\((Bd g i c L a T).mem i).left=L:=by
  simp [Bd,PG.set,Og]
 have hj:∀ j,j≠i->(Bd g i c L a T).mem j=g.mem j:=fun j e=>by simp only [Bd,PG.set]; rw [if_neg e]
 have hfly:(Bd g i c L a T).fly=g.fly++T:=rfl
 have hfl:=hit.fl
 generalize Bd g i c L a T=g' at *
 obtain ⟨ok,okx,e1,e2,e3,e4,e5⟩:=h
 refine ⟨?_,?_,?_,?_,?_,?_,?_⟩
 ·intro j; rw [(he j).2.2.2.2.1]; exact ok j
 ·intro x hx
  rw [hfly] at hx
  rcases List.mem_append.1 hx with q | q
  ·exact okx x q
  ·rcases (hT x q).1 with ⟨_,_,r⟩ | ⟨_,_,r⟩
   ·rw [r]; exact hone
   ·rw [r]; rfl
 ·intro j q1 q2 q3 x hx hk hxe
  obtain ⟨r1,r2,r3,r4,r5,r6,r7⟩:=he j
  rw [r3] at q1; rw [r2] at q2; rw [r6] at q3; rw [r1] at hxe; rw [r5]
  rw [hfly] at hx
  rcases List.mem_append.1 hx with q | q
  ·exact e1 j q1 q2 q3 x q hk hxe
  ·have:=hT x q; omega
 ·intro j q1 q2 l q3 q4
  obtain ⟨r1,r2,r3,r4,r5,r6,r7⟩:=he j
  obtain ⟨t1,t2,t3,t4,t5,t6,t7⟩:=he l
  rw [r3] at q1; rw [r2] at q2; rw [t2] at q3; rw [r1,t1] at q4; rw [r5,t5]
  have:=e2 j q1 q2 l q3 q4
  by_cases e:j=i
  ·subst e
   rcases this with q | q
   ·exact .inl q
   ·omega
  ·rw [hj j e]; exact this
 ·intro j q1 l hl q3 q4 q5
  obtain ⟨r1,r2,r3,r4,r5,r6,r7⟩:=he j
  obtain ⟨t1,t2,t3,t4,t5,t6,t7⟩:=he l
  rw [t2] at q3; rw [r1,t1] at q4; rw [r5,t5]
  rw [r1] at q5
  by_cases e:j=i
  ·subst e
   rw [hi.2.2.2,hi.2.1] at q5
   exfalso
   rcases q5 with q | ⟨x,hx,x1,x2,x3,x4⟩
   ·exact q ((hL l).2 ⟨by rw [<- q4]; exact (hia.view l q3).2,hl⟩)
   ·rw [hfly] at hx
    rcases List.mem_append.1 hx with q | q
    ·have:=hfl x q (by omega) (by omega)
     rw [x3,l2] at this
     have:=this.2 rfl s2
     omega
    ·have:=hT x q; omega
  ·rw [hj j e] at q1 q5 ⊢
   refine e3 j q1 l hl q3 q4 (q5.imp id fun ⟨x,hx,x1,q⟩=>⟨x,?_,x1,q⟩)
   rw [hfly] at hx
   rcases List.mem_append.1 hx with r | r
   ·exact r
   ·have:=hT x r; omega
 ·intro x hx hk b hxb q1 q2 q3
  obtain ⟨r1,r2,r3,r4,r5,r6,r7⟩:=he (CV V x.ep)
  rw [r3] at q1; rw [r2] at q2; rw [r1] at q3; rw [r5]
  rw [hfly] at hx
  rcases List.mem_append.1 hx with q | q
  ·have h6:=e4 x q hk b hxb q1 q2 q3
   by_cases e:CV V x.ep=i
   ·rw [e] at h6 q1 q2 q3 ⊢
    have h7:=hfl x q (by omega) (by omega)
    rw [e] at h7
    have h8:=h7.2 q3 q1
    refine ⟨fun _ hn=>?_,fun _=>h6.2 (fun h=>by omega)⟩
    rw [hi.2.1] at hn; omega
   ·rw [hj _ e]; exact h6
  ·obtain ⟨u1,u2,u3,u4⟩:=hT x q
   have hf:CV V x.ep=i:=by rw [u2]; exact l2
   rcases u1 with ⟨_,u6,u7⟩ | ⟨u5,_⟩
   ·rw [u7] at hxb
    cases hxb
    rw [hf]
    refine ⟨fun _ _=>hi.2.2.1.symm,fun h=>absurd ⟨by rw [hi.1]; exact u6,by rw [hi.2.1]; exact u3⟩ h⟩
   ·omega
 ·intro j q1
  obtain ⟨r1,r2,r3,r4,r5,r6,r7⟩:=he j
  rw [r5]
  by_cases e:j=i
  ·subst e
   rw [hi.2.2.1]
   exact ⟨hp (by rw [<- hi.1]; exact q1),hv1⟩
  ·rw [hj j e] at q1 ⊢; exact e5 j q1
end
section
variable {V:Int->List Int} {nv now:Int} {g:PG} {vr:Nat->Int} {i:Int} {k:Nat} {c:PC}
def MP (g:PG) (i:Int) (k:Nat) (c:PC) (now:Int):PG:={ (g.set i (U6 (g.mem i)) []) with calls:=g.calls.set k (Pe (g.mem i) c now) }
theorem eZ (j:Int):(MP g i k c now).mem j=if j=i then U6 (g.mem i) else g.mem j:=rfl
theorem nT (j:Int):((MP g i k c now).mem j).ep=(g.mem j).ep/\((MP g i k c now).mem j).base=(g.mem j).base/\((MP g i k c now).mem j).leads=(g.mem j).leads/\((MP g i k c now).mem j).fell=(g.mem j).fell/\((MP g i k c now).mem j).serves=(g.mem j).serves/\((MP g i k c now).mem j).waits=(g.mem j).waits/\((MP g i k c now).mem j).cnt=(g.mem j).cnt:=by
 rw [eZ]
 split
 ·rename_i e; subst e; exact ⟨rfl,rfl,rfl,rfl,rfl,rfl,rfl⟩
 ·exact ⟨rfl,rfl,rfl,rfl,rfl,rfl,rfl⟩
theorem ed:(MP g i k c now).fly=g.fly:=List.append_nil _
theorem IA.fin (h:IA V nv g):IA V nv (MP g i k c now):=by
 obtain ⟨a1,a2,a3,a4,a5,a6,a7⟩:=h
 have b:=nT (g:=g) (i:=i) (k:=k) (c:=c) (now:=now)
 refine ⟨fun j=>by rw [(b j).1]; exact a1 j,fun j=>?_,fun j=>?_,fun j=>?_,fun j ho=>?_,fun j=>?_,fun j=>?_⟩
 ·obtain ⟨q1,q2,q3,q4,q5,q6,q7⟩:=b j; rw [q1,q3]; exact a2 j
 ·obtain ⟨q1,q2,q3,q4,q5,q6,q7⟩:=b j; rw [q1,q2]; exact a3 j
 ·obtain ⟨q1,q2,q3,q4,q5,q6,q7⟩:=b j; rw [q2,q3,q5,q6]; exact a4 j
 ·rw [eZ] at ho ⊢
  split at ho
  ·exact absurd rfl ho
  ·rename_i e; rw [if_neg e]; exact a5 j ho
 ·rw [(b j).2.2.2.2.2.2]; exact a6 j
 ·obtain ⟨q1,q2,q3,q4,q5,q6,q7⟩:=b j; rw [q4,q2,q3]; exact a7 j
theorem IB.fin (h:IB V g):IB V (MP g i k c now):=by
 have b:=nT (g:=g) (i:=i) (k:=k) (c:=c) (now:=now)
 have mono:∀ e,CG V g e->CG V (MP g i k c now) e:=fun e h=>h.mono fun j=>by rw [(b j).1]; exact Int.le_refl _
 refine ⟨fun j hb=>?_,fun x hx hk=>?_⟩
 ·rw [(b j).1]; rw [(b j).2.1] at hb; exact mono _ (h.mem j hb)
 ·rw [ed] at hx; exact mono _ (h.fly x hx hk)
theorem IZ.fin (h:IZ V g vr):IZ V (MP g i k c now) vr:=by
 have b:=nT (g:=g) (i:=i) (k:=k) (c:=c) (now:=now)
 have hb:∀ l e,UC g l e->UC (MP g i k c now) l e:=fun l e h=>by
  obtain ⟨q1,q2,q3,q4,_⟩:=b l
  unfold UC at *
  rw [q1,q2,q4]; exact h
 have hfly:(MP g i k c now).fly=g.fly:=ed
 generalize MP g i k c now=g' at *
 obtain ⟨w1,w2,w3,z1,z2⟩:=h
 refine ⟨?_,fun x hx hk=>hb _ _ (w2 x (by rw [<- hfly]; exact hx) hk),fun k e n h1 h2 h4 h5 j h6 h7=>hb _ _ (w3 k e n h1 h2 h4 h5 j h6 h7),?_,?_⟩
 ·intro j h1 h2 l h4 h5 h6
  obtain ⟨q1,q2,q3,q4,q5,q6,q7⟩:=b j
  rw [q3] at h1; rw [q2] at h2; rw [q1] at h4 ⊢; rw [q6] at h6
  exact hb _ _ (w1 j h1 h2 l h4 h5 h6)
 ·intro l hl
  obtain ⟨q1,q2,q3,q4,q5,q6,q7⟩:=b l
  rw [q2] at hl; rw [q1]
  obtain ⟨r1,r2,r3,_⟩:=b (CV V (g.mem l).ep)
  rw [r1,r2,r3]
  exact z1 l hl
 ·intro x hx hk
  obtain ⟨r1,r2,r3,_⟩:=b (CV V x.ep)
  rw [r1,r2,r3]
  rw [hfly] at hx
  exact z2 x hx hk
theorem IE.fin (h:IE V g) (hia:IA V nv g) (ho:(g.mem i).op≠0) (hl:(g.mem i).left=[]):IE V (MP g i k c now):=by
 obtain ⟨t1,t2,t3⟩:=hia.task i ho
 obtain ⟨s1,s2,s3⟩:=hia.serv i t1
 obtain ⟨l1,l2⟩:=hia.lead i s2
 have b:=nT (g:=g) (i:=i) (k:=k) (c:=c) (now:=now)
 have hmem:=eZ (g:=g) (i:=i) (k:=k) (c:=c) (now:=now)
 have hfly:(MP g i k c now).fly=g.fly:=ed
 have hlead:=hia.lead
 obtain ⟨ok,okx,e1,e2,e3,e4,e5⟩:=h
 have hi0:(U6 (g.mem i)).op=0:=rfl
 have hii:(U6 (g.mem i)).items=if (g.mem i).op=1 then Aj (g.mem i).items (g.mem i).ti else (g.mem i).items:=rfl
 have all:∀ j,j≠i->(g.mem j).base=true->(g.mem j).ep=(g.mem i).ep->(g.mem j).items=(U6 (g.mem i)).items:=by
  intro j hj h1 h2
  rw [hii]
  split
  ·rename_i q
   exact e3 i q j hj h1 h2 (.inl (by rw [hl]; simp))
  ·rename_i q
   rcases e2 i s2 s1 j h1 h2 with r | r
   ·exact r
   ·exact absurd r.1 q
 have up:∀ kk,vl (g.mem i).items kk<=vl (U6 (g.mem i)).items kk:=by
  intro kk; rw [hii]; split
  ·exact nS (ok i) _ _
  ·exact Int.le_refl _
 generalize MP g i k c now=g' at *
 refine ⟨?_,by rw [hfly]; exact okx,?_,?_,?_,?_,?_⟩
 ·intro j; rw [hmem]; split
  ·rw [hii]; split
   ·exact Ib (ok i)
   ·exact ok i
  ·exact ok j
 ·intro j h1 h2 h3 x hx hk he
  obtain ⟨q1,q2,q3,q4,q5,q6,q7⟩:=b j
  rw [q3] at h1; rw [q2] at h2; rw [q5] at h3; rw [q1] at he; rw [hfly] at hx
  rw [hmem]
  split
  ·rename_i e; subst e; rw [t1] at h3; cases h3
  ·exact e1 j h1 h2 h3 x hx hk he
 ·intro j h1 h2 l h3 h4
  obtain ⟨q1,q2,q3,q4,q5,q6,q7⟩:=b j
  obtain ⟨r1,r2,r3,r4,r5,r6,r7⟩:=b l
  rw [q3] at h1; rw [q2] at h2; rw [r2] at h3; rw [r1,q1] at h4
  by_cases e:j=i
  ·subst e
   left
   rw [hmem,hmem,if_pos rfl]
   split
   ·rfl
   ·rename_i e2; exact all l e2 h3 h4
  ·rw [hmem l,hmem j,if_neg e]
   split
   ·rename_i e2
    subst e2
    exact absurd (by have:=(hlead j h1).2; rw [<- h4,l2] at this; exact this.symm) e
   ·exact e2 j h1 h2 l h3 h4
 ·intro j h1 l hl2 h3 h4 h5
  obtain ⟨q1,q2,q3,q4,q5,q6,q7⟩:=b j
  obtain ⟨r1,r2,r3,r4,r5,r6,r7⟩:=b l
  rw [r2] at h3; rw [r1,q1] at h4; rw [q1,hfly] at h5
  by_cases e:j=i
  ·subst e; rw [hmem,if_pos rfl,hi0] at h1; omega
  ·rw [hmem,if_neg e] at h1 h5
   rw [hmem l,hmem j,if_neg e]
   split
   ·rename_i e2
    subst e2
    have hj2:=hia.task j (by omega)
    have hj3:=hia.serv j hj2.1
    exact absurd (by have:=(hlead j hj3.2.1).2; rw [<- h4,l2] at this; exact this.symm) e
   ·exact e3 j h1 l hl2 h3 h4 h5
 ·intro x hx hk a hxa h1 h2 h3
  obtain ⟨q1,q2,q3,q4,q5,q6,q7⟩:=b (CV V x.ep)
  rw [q3] at h1; rw [q2] at h2; rw [q1] at h3; rw [hfly] at hx
  have h6:=e4 x hx hk a hxa h1 h2 h3
  rw [hmem]
  split
  ·rename_i e
   rw [e] at h6
   refine ⟨fun h=>by rw [hi0] at h; omega,fun _=>?_⟩
   by_cases q:(g.mem i).op=1/\x.num=(g.mem i).num
   ·have ha:=h6.1 q.1 q.2
    subst ha
    rw [hii,if_pos q.1,rd,(e5 i q.1).1]
    exact Int.le_refl _
   ·exact Int.le_trans (h6.2 q) (up _)
  ·exact h6
 ·intro j h1
  rw [hmem] at h1 ⊢
  split
  ·rename_i e; rw [if_pos e,hi0] at h1; omega
  ·rename_i e; rw [if_neg e] at h1; exact e5 j h1
end
section
variable {V:Int->List Int} {nv now:Int} {g:PG} {vr:Nat->Int} {i:Int} {c:PC} {L:List Int} {a:AM} {T:List PX}
theorem re (hia:IA V nv g) (hfl:∀ x∈g.fly,5<=x.kind->x.kind<=8->x.ep<=(g.mem (CV V x.ep)).ep/\((g.mem (CV V x.ep)).ep=x.ep->(g.mem (CV V x.ep)).leads=true->x.num<=(g.mem (CV V x.ep)).cnt)) (h3:(g.mem i).serves=true)
  (hL:∀ k,k∈L↔k∈V (g.mem i).ep/\k≠i) (hT:∀ y∈T,y.kind=5\/y.kind=7) {e:Int} (hr:CG V g e) (he:(g.mem i).ep<e):I7 (Bd g i c L a T) i:=by
 obtain ⟨s1,s2,s3⟩:=hia.serv i h3
 obtain ⟨l1,l2⟩:=hia.lead i s2
 obtain ⟨j,hjv,hjl⟩:=hr (g.mem i).ep (hia.pos i) he
 have hep:=fun j=>(UD (g:=g) (i:=i) (c:=c) (L:=L) (a:=a) (T:=T) j).1
 have hi:((Bd g i c L a T).mem i).num=(g.mem i).cnt+1/\((Bd g i c L a T).mem i).left=L:=by simp [Bd,PG.set,Og]
 have hne:j≠i:=fun e=>by subst e; omega
 refine ⟨j,by rw [hi.2]; exact (hL j).2 ⟨hjv,hne⟩,by rw [hep i,hep j]; exact hjl,fun x hx hk hf hxe=>?_⟩
 rw [hep i] at hxe
 rw [hi.1]
 rcases List.mem_append.1 hx with q | q
 ·have:=hfl x q (by omega) (by omega)
  rw [hxe,l2] at this
  have:=this.2 rfl s2
  omega
 ·have:=hT x q; omega
theorem IF.start (h:IF V g vr) (hia:IA V nv g) (hib:IB V g) (hit:IT V g vr now) (h1:c.done=-1) (h3:(g.mem i).serves=true) (h4:(g.mem i).op=0) (hL:∀ k,k∈L↔k∈V (g.mem i).ep/\k≠i) (hA:a=(c.key,c.val,1000*(g.mem i).ep+((g.mem i).cnt+1)))
  (hT:∀ y∈T,(y.kind=5/\c.op=1/\y.items=[a]\/y.kind=7/\c.op=2/\y.items=[])/\y.ep=(g.mem i).ep/\y.num=(g.mem i).cnt+1/\y.frm=i):IF V (Bd g i c L a T) (vv g i vr):=by
 have hep:=UD (g:=g) (i:=i) (c:=c) (L:=L) (a:=a) (T:=T)
 have hT5:∀ y∈T,y.kind=5\/y.kind=7:=fun y hy=>by have:=(hT y hy).1; omega
 have stuck:∀ e,CG V g e->(g.mem i).ep<e->I7 (Bd g i c L a T) i:=fun e hr he=>re hia hit.fl h3 hL hT5 hr he
 have hi:((Bd g i c L a T).mem i).op=c.op/\((Bd g i c L a T).mem i).ti=a:=by simp [Bd,PG.set,Og]
 have hj:∀ j,j≠i->(Bd g i c L a T).mem j=g.mem j:=fun j e=>by simp only [Bd,PG.set]; rw [if_neg e]
 have hfly:(Bd g i c L a T).fly=g.fly++T:=rfl
 have hcal:(Bd g i c L a T).calls=g.calls++[c]:=rfl
 have hg:∀ (k:Nat) d,(Bd g i c L a T).calls[k]? = some d->0<=d.done->g.calls[k]? = some d/\k<g.calls.length:=by
  intro k d hd h0
  rw [hcal] at hd
  have:(g.calls[k]? = some d/\k<g.calls.length)\/(k=g.calls.length/\d=c):=by grind
  rcases this with e | ⟨_,e⟩
  ·exact e
  ·subst e; omega
 have hvr:∀ k,k<g.calls.length->vv g i vr k=vr k:=fun k hk=>by unfold vv; rw [if_neg (by omega)]
 have hp:∀ y,Z0 g vr y->Z0 (Bd g i c L a T) (vv g i vr) y:=fun y ⟨k,d,q,q1,q2,q3,q4⟩=>by
  have hk:=(List.getElem?_eq_some_iff.1 q).1
  exact ⟨k,d,by rw [hcal]; grind,q1,q2,q3,by rw [hvr k hk]; exact q4⟩
 have hnew:c.op=1->Z0 (Bd g i c L a T) (vv g i vr) a:=fun ho=>⟨g.calls.length,c,by rw [hcal]; simp,ho,by rw [hA],by rw [hA],by unfold vv; rw [if_pos rfl,hA],by rw [hA]; have:=hia.pos i; have:=hia.cnt i; show 1<=1000*(g.mem i).ep+((g.mem i).cnt+1); omega⟩
 obtain ⟨f1,f2,p1,fr,vs,pm,px,pt,gt⟩:=h
 have hdn:=hit.dn
 generalize Bd g i c L a T=g' at *
 refine ⟨?_,?_,?_,?_,?_,?_,?_,?_,?_⟩
 ·intro k d hk hd j hb he
  obtain ⟨q1,q2,q3,q4,q5,q6,q7⟩:=hep j
  rw [q2] at hb; rw [q1] at he; rw [q5]
  exact f1 k d (hg k d hk hd).1 hd j hb he
 ·intro k d hk hd x hx hkd he
  rw [hfly] at hx
  rcases List.mem_append.1 hx with q | q
  ·exact f2 k d (hg k d hk hd).1 hd x q hkd he
  ·have:=hT5 x q; omega
 ·intro j ho
  obtain ⟨q1,q2,q3,q4,q5,q6,q7⟩:=hep j
  by_cases e:j=i
  ·subst e
   by_cases hE:∃ e,CG V g e/\(g.mem j).ep<e
   ·obtain ⟨e,r1,r2⟩:=hE
    exact .inl (stuck e r1 r2)
   ·right
    rw [q1]
    refine ⟨fun l hb hl=>?_,fun x hx hk hl=>?_,fun k d hk hd _ hl _=>?_⟩
    ·rw [(hep l).2.1] at hb; rw [(hep l).1] at hl
     exact absurd ⟨_,hib.mem l hb,hl⟩ hE
    ·rw [hfly] at hx
     rcases List.mem_append.1 hx with q | q
     ·exact absurd ⟨_,hib.fly x q hk,hl⟩ hE
     ·have:=hT5 x q; omega
    ·have:=(hdn k d (hg k d hk hd).1 hd).2.2.2.2.1
     exact absurd ⟨_,this,hl⟩ hE
  ·rw [hj j e] at ho ⊢
   rcases p1 j ho with ⟨w,w1,w2,w3⟩ | ⟨b1,b2,b3⟩
   ·left
    refine ⟨w,by rw [hj j e]; exact w1,by rw [hj j e,(hep w).1]; exact w2,fun x hx=>?_⟩
    rw [hj j e]
    rw [hfly] at hx
    rcases List.mem_append.1 hx with q | q
    ·exact w3 x q
    ·have:=hT5 x q
     intro hk; omega
   ·right
    refine ⟨fun l hb hl=>?_,fun x hx hk hl=>?_,fun k d hk hd h2 hl h5=>b3 k d (hg k d hk hd).1 hd h2 hl h5⟩
    ·obtain ⟨r1,r2,r3,r4,r5,r6,r7⟩:=hep l
     rw [r2] at hb; rw [r1] at hl; rw [r5]
     exact b1 l hb hl
    ·rw [hfly] at hx
     rcases List.mem_append.1 hx with q | q
     ·exact b2 x q hk hl
     ·have:=hT5 x q; omega
 ·intro k l d e hk hl h0 h1' h2 h5 hlt
  obtain ⟨u1,u2⟩:=hg k d hk h0
  obtain ⟨v1,v2⟩:=hg l e hl h1'
  rw [hvr k u2,hvr l v2] at hlt
  exact fr k l d e u1 v1 h0 h1' h2 h5 hlt
 ·intro k d hk h0
  obtain ⟨u1,u2⟩:=hg k d hk h0
  rw [hvr k u2]
  exact vs k d u1 h0
 ·intro j y hy
  rw [(hep j).2.2.2.2.1] at hy
  exact hp y (pm j y hy)
 ·intro x hx y hy
  rw [hfly] at hx
  rcases List.mem_append.1 hx with q | q
  ·exact hp y (px x q y hy)
  ·rcases (hT x q).1 with ⟨_,r2,r3⟩ | ⟨_,_,r3⟩
   ·rw [r3] at hy
    simp only [List.mem_singleton] at hy
    rw [hy]; exact hnew r2
   ·rw [r3] at hy; cases hy
 ·intro j ho
  by_cases e:j=i
  ·subst e
   rw [hi.1] at ho; rw [hi.2]
   exact hnew ho
  ·rw [hj j e] at ho ⊢
   exact hp _ (pt j ho)
 ·intro k d hk h0 h2
  exact (gt k d (hg k d hk h0).1 h0 h2).imp id fun ⟨y,q,r⟩=>⟨y,hp y q,r⟩
end
section
variable {V:Int->List Int} {nv now:Int} {g:PG} {vr:Nat->Int} {i:Int} {k:Nat} {c:PC}
theorem ee (s:List AM) (kk:ByteArray):BD s kk=(ByteArray.empty,ByteArray.empty,0)\/(BD s kk∈s/\(BD s kk).1.toList=kk.toList):=by
 cases h:Id s kk with
 | true=>exact .inr (nO h)
 | false=>exact .inl (ZG h)
theorem IF.fin (h:IF V g vr) (hia:IA V nv g) (hit:IT V g vr now) (hie:IE V g) (hn:0<=now) (ho:(g.mem i).op≠0) (hl:(g.mem i).left=[]) (hc:(g.mem i).call=(k:Int)) (hk:g.calls[k]? = some c)
  (hown:∀ y∈(g.mem i).items,y.2.2<=1000*(g.mem i).ep+(g.mem i).cnt):IF V (MP g i k c now) vr:=by
 obtain ⟨t1,t2,t3⟩:=hia.task i ho
 obtain ⟨s1,s2,s3⟩:=hia.serv i t1
 obtain ⟨l1,l2⟩:=hia.lead i s2
 obtain ⟨k0,d0,r1,r2,r3,r4,r5,r6,r7,r8,r9,r10⟩:=hit.act i ho
 have hk0:k0=k:=by omega
 subst hk0
 rw [hk] at r2
 cases r2
 have hkl:k0<g.calls.length:=(List.getElem?_eq_some_iff.1 hk).1
 have b:=nT (g:=g) (i:=i) (k:=k0) (c:=c) (now:=now)
 have hmem:=eZ (g:=g) (i:=i) (k:=k0) (c:=c) (now:=now)
 have hfly:(MP g i k0 c now).fly=g.fly:=ed
 have hcal:(MP g i k0 c now).calls=g.calls.set k0 (Pe (g.mem i) c now):=rfl
 have hset:∀ (l:Nat) d,(MP g i k0 c now).calls[l]? = some d->(l=k0/\d=Pe (g.mem i) c now)\/(l≠k0/\g.calls[l]? = some d):=by
  intro l d hd
  rw [hcal] at hd
  by_cases e:l=k0
  ·subst e
   rw [List.getElem?_set_self hkl] at hd
   exact .inl ⟨rfl,by cases hd; rfl⟩
  ·rw [List.getElem?_set_ne (Ne.symm e)] at hd
   exact .inr ⟨e,hd⟩
 have hset1:(MP g i k0 c now).calls[k0]? = some (Pe (g.mem i) c now):=by rw [hcal]; exact List.getElem?_set_self hkl
 have hset2:∀ (l:Nat),l≠k0->(MP g i k0 c now).calls[l]? = g.calls[l]? := fun l e=>by rw [hcal]; exact List.getElem?_set_ne (Ne.symm e)
 have hns:¬ I7 g i:=fun ⟨w,w1,_⟩=>by rw [hl] at w1; cases w1
 obtain ⟨f1,f2,p1,fr,vs,pm,px,pt,gt⟩:=h
 obtain ⟨b1,b2,b3⟩:=(p1 i ho).resolve_left hns
 have hii:(U6 (g.mem i)).items=if (g.mem i).op=1 then Aj (g.mem i).items (g.mem i).ti else (g.mem i).items:=rfl
 have hver:(Pe (g.mem i) c now).ver=U7 (g.mem i):=by
  unfold Pe oK U7
  dsimp only
  split
  ·rfl
  ·rfl
 have htobe:vl (U6 (g.mem i)).items (g.mem i).ti.1.toList=U7 (g.mem i):=by
  rw [hii]
  unfold U7
  split
  ·rename_i q
   rw [rd,(hie.e5 i q).1]
  ·rfl
 have all:∀ j,j≠i->(g.mem j).base=true->(g.mem j).ep=(g.mem i).ep->(g.mem j).items=(U6 (g.mem i)).items:=by
  intro j hj h1 h2
  rw [hii]
  split
  ·rename_i q
   exact hie.e3 i q j hj h1 h2 (.inl (by rw [hl]; simp))
  ·rename_i q
   rcases hie.e2 i s2 s1 j h1 h2 with r | r
   ·exact r
   ·exact absurd r.1 q
 have up:∀ kk,vl (g.mem i).items kk<=vl (U6 (g.mem i)).items kk:=by
  intro kk; rw [hii]; split
  ·exact nS (hie.ok i) _ _
  ·exact Int.le_refl _
 have hf:(Pe (g.mem i) c now).key=c.key/\(Pe (g.mem i) c now).op=c.op/\(Pe (g.mem i) c now).val=c.val/\(Pe (g.mem i) c now).ep=(g.mem i).ep:=⟨rfl,rfl,rfl,rfl⟩
 have hp:∀ y,Z0 g vr y->Z0 (MP g i k0 c now) vr y:=fun y ⟨l,d,q,q1,q2,q3,q4⟩=>by
  by_cases e:l=k0
  ·subst e
   rw [hk] at q
   cases q
   exact ⟨l,_,hset1,q1,q2,q3,q4⟩
  ·exact ⟨l,d,by rw [hset2 l e]; exact q,q1,q2,q3,q4⟩
 have hdn:=hit.dn
 have hst:=hit.st
 have hmp:∀ y∈(U6 (g.mem i)).items,Z0 g vr y:=by
  intro y hy
  rw [hii] at hy
  split at hy
  ·rename_i q
   rcases ZA hy with e | e
   ·rw [e]; exact pt i q
   ·exact pm i y e
  ·exact pm i y hy
 generalize hC:Pe (g.mem i) c now=c' at *
 generalize hG:MP g i k0 c now=g' at *
 refine ⟨?_,?_,?_,?_,?_,?_,?_,?_,?_⟩
 ·intro l d hd hd0 j hb he
  rw [(b j).2.1] at hb; rw [(b j).1] at he
  rw [hmem]
  rcases hset l d hd with ⟨e1,e2⟩ | ⟨e1,e2⟩
  ·subst e2
   rw [hver,hf.1,r6]
   rw [hf.2.2.2] at he
   split
   ·rw [htobe]; exact Int.le_refl _
   ·rename_i e
    by_cases heq:(g.mem j).ep=(g.mem i).ep
    ·rw [all j e hb heq,htobe]; exact Int.le_refl _
    ·exact b1 j hb (by omega)
  ·have:=f1 l d e2 hd0 j hb he
   split
   ·rename_i e; subst e; exact Int.le_trans this (up _)
   ·exact this
 ·intro l d hd hd0 x hx hkd he
  rw [hfly] at hx
  rcases hset l d hd with ⟨e1,e2⟩ | ⟨e1,e2⟩
  ·subst e2
   rw [hf.2.2.2] at he
   rw [hver,hf.1,r6]
   exact b2 x hx hkd he
  ·exact f2 l d e2 hd0 x hx hkd he
 ·intro j hoj
  by_cases e:j=i
  ·subst e
   rw [hmem,if_pos rfl] at hoj
   exact absurd rfl hoj
  ·have hjm:g'.mem j=g.mem j:=by rw [hmem,if_neg e]
   rw [hjm] at hoj ⊢
   rcases p1 j hoj with ⟨w,w1,w2,w3⟩ | ⟨a1,a2,a3⟩
   ·left
    exact ⟨w,by rw [hjm]; exact w1,by rw [hjm,(b w).1]; exact w2,by rw [hjm,hfly]; exact w3⟩
   ·right
    refine ⟨fun l hb hlt=>?_,fun x hx=>a2 x (by rw [<- hfly]; exact hx),fun l d hd hd0 h2 hlt h5=>?_⟩
    ·rw [(b l).2.1] at hb; rw [(b l).1] at hlt
     have:=a1 l hb hlt
     rw [hmem]
     split
     ·rename_i e; subst e; exact Int.le_trans this (up _)
     ·exact this
    ·rcases hset l d hd with ⟨e1,e2⟩ | ⟨e1,e2⟩
     ·subst e2
      rw [hf.2.2.2] at hlt
      rw [hf.1,r6] at h5
      have:=a1 i s1 hlt
      rw [hver]
      rw [hf.2.1,r5] at h2
      unfold U7
      rw [if_neg (show ¬ (g.mem i).op=1 by omega),h5]
      exact this
     ·exact a3 l d e2 hd0 h2 hlt h5
 ·intro l1 l2' d e hd he h0 h1 h2 h5 hlt
  rcases hset l1 d hd with ⟨u1,u2⟩ | ⟨u1,u2⟩
  ·subst u1; subst u2
   rcases hset l2' e he with ⟨v1,v2⟩ | ⟨v1,v2⟩
   ·subst v1; omega
   ·rw [hf.1,r6] at h5
    rw [hf.2.1,r5] at h2
    obtain ⟨d1,d2,d3,d4,d5,d6,d7⟩:=hdn l2' e v2 h1
    have:=f1 l2' e v2 h1 i s1 (by omega)
    rw [hver]
    unfold U7
    rw [if_neg (show ¬ (g.mem i).op=1 by omega),h5]
    exact this
  ·rcases hset l2' e he with ⟨v1,v2⟩ | ⟨v1,v2⟩
   ·subst v1; subst v2
    rw [hf.1,r6] at h5
    obtain ⟨d1,d2,d3,d4,d5,d6,d7⟩:=hdn l1 d u2 h0
    rw [hver]
    by_cases hlt2:(g.mem i).ep<d.ep
    ·exact b3 l1 d u2 h0 h2 hlt2 h5
    ·exfalso
     obtain ⟨e',n,x1,x2,x3,x4,x5,x6⟩:=hst l1 (by omega)
     have hee:e'=(g.mem i).ep:=by omega
     subst hee
     rw [l2] at x6
     have:=(x6 rfl s2).2
     omega
   ·exact fr l1 l2' d e u2 v2 h0 h1 h2 h5 hlt
 ·intro l d hd hd0
  rcases hset l d hd with ⟨u1,u2⟩ | ⟨u1,u2⟩
  ·subst u1; subst u2
   rw [hver,hf.2.1,r5]
   unfold U7
   split
   ·rename_i q
    rw [r8]; exact ⟨Int.le_refl _,fun _=>rfl⟩
   ·rename_i q
    refine ⟨?_,fun h=>absurd h q⟩
    rw [rd,r3,t3]
    have hcnt:=hia.cnt i
    have hpos:=hia.pos i
    rcases ee (g.mem i).items (g.mem i).ti.1 with z | z
    ·rw [z]; show (0:Int)<=_; omega
    ·exact hown _ z.1
  ·exact vs l d u2 hd0
 ·intro j y hy
  rw [hmem] at hy
  split at hy
  ·exact hp y (hmp y hy)
  ·exact hp y (pm j y hy)
 ·intro x hx y hy
  rw [hfly] at hx
  exact hp y (px x hx y hy)
 ·intro j hoj
  rw [hmem] at hoj ⊢
  split
  ·rename_i e; rw [if_pos e] at hoj; exact absurd hoj (by decide:¬ (0:Int)=1)
  ·rename_i e; rw [if_neg e] at hoj; exact hp _ (pt j hoj)
 ·intro l d hd hd0 h2
  rcases hset l d hd with ⟨u1,u2⟩ | ⟨u1,u2⟩
  ·subst u1; subst u2
   have hop:(g.mem i).op≠1:=by rw [hf.2.1,r5] at h2; omega
   have hgot:d.got=(BD (g.mem i).items (g.mem i).ti.1).2.1/\d.ver=(BD (g.mem i).items (g.mem i).ti.1).2.2:=by
    rw [<- hC]
    unfold Pe oK
    rw [hf.2.1] at h2
    dsimp only
    rw [if_pos h2,if_neg hop]
    exact ⟨rfl,rfl⟩
   rcases ee (g.mem i).items (g.mem i).ti.1 with z | z
   ·left
    rw [hgot.1,hgot.2,z]
    exact ⟨rfl,rfl⟩
   ·right
    exact ⟨_,hp _ (pm i _ z.1),by rw [hf.1,r6]; exact z.2,hgot.2,hgot.1⟩
  ·exact (gt l d u2 hd0 h2).imp id fun ⟨y,q,r⟩=>⟨y,hp y q,r⟩
end

theorem IA.call {V nv g} {c:PC} (h:IA V nv g):IA V nv { g with calls:=g.calls++[c] }:=⟨h.1,h.2,h.3,h.4,h.5,h.6,h.7⟩
theorem IB.call {V g} {c:PC} (h:IB V g):IB V { g with calls:=g.calls++[c] }:=⟨h.mem,h.fly⟩
theorem IZ.call {V g vr} {c:PC} (h:IZ V g vr):IZ V { g with calls:=g.calls++[c] } vr:=⟨h.w1,h.w2,h.w3,h.z1,h.z2⟩
theorem IE.call {V g} {c:PC} (h:IE V g):IE V { g with calls:=g.calls++[c] }:=⟨h.ok,h.okx,h.e1,h.e2,h.e3,h.e4,h.e5⟩
structure nX (V:Int->List Int) (nv:Int) (g:PG) (vr:Nat->Int) (now:Int):Prop where
 a:IA V nv g
 b:IB V g
 t:IT V g vr now
 z:IZ V g vr
 e:IE V g
 f:IF V g vr
theorem nX.mstep {V nv g i m T vr now} (h:nX V nv g vr now) (hv:∀ e,1<=e->e<=nv->CV V e∈V e) (hs:CW V nv g i m T):nX V nv (g.set i m T) vr now :=
 ⟨h.a.step hv hs,h.b.step h.a hv hs,h.t.mstep h.a hs,h.z.mstep h.a hs,h.e.mstep h.a h.z hs,h.f.mstep h.a h.t h.z h.e hs⟩
theorem nX.drop {V nv g vr now f} (h:nX V nv g vr now) (hf:∀ x∈f,x∈g.fly):nX V nv { g with fly:=f } vr now :=
 ⟨h.a.drop,h.b.drop hf,h.t.drop hf,h.z.drop hf,h.e.drop hf,h.f.drop hf⟩
theorem nX.later {V nv g vr now n} (h:nX V nv g vr now) (hn:now<=n):nX V nv g vr n:=⟨h.a,h.b,h.t.later hn,h.z,h.e,h.f⟩
theorem nX.call {V nv g vr now} {c:PC} (h:nX V nv g vr now) (h1:c.done=-1) (h2:c.wen=now):nX V nv { g with calls:=g.calls++[c] } vr now :=
 ⟨h.a.call,h.b.call,h.t.call h1 h2,h.z.call,h.e.call,h.f.call h1⟩
theorem nX.start {V nv g vr now i c L a T} (h:nX V nv g vr now) (h1:c.done=-1) (h2:c.wen=now) (h3:(g.mem i).serves=true) (h4:(g.mem i).op=0) (h5:c.op=1\/c.op=2) (h6:(g.mem i).cnt<900) (hL:∀ k,k∈L↔k∈V (g.mem i).ep/\k≠i) (hA:a=(c.key,c.val,1000*(g.mem i).ep+((g.mem i).cnt+1))) (hp:c.op=1->BD (Aj (g.mem i).items a) a.1=a) (hone:Ap [a]=true)
  (hT:∀ y∈T,(y.kind=5/\c.op=1/\y.items=[a]\/y.kind=7/\c.op=2/\y.items=[])/\y.ep=(g.mem i).ep/\y.num=(g.mem i).cnt+1/\y.frm=i):nX V nv (Bd g i c L a T) (vv g i vr) now :=
 ⟨h.a.start h3 h5,h.b.start fun y hy=>(by have:=(hT y hy).1; omega),h.t.start h.a h.b h1 h2 h3 h4 h5 h6 hL hA fun y hy=>(by
  obtain ⟨q1,q2,q3,q4⟩:=hT y hy
  exact ⟨q1.imp id fun q=>⟨q.1,q.2.1⟩,q2,q3,q4⟩),h.z.start h.a h.t.out h3 h6 fun y hy=>(by obtain ⟨q1,q2,q3,q4⟩:=hT y hy; exact ⟨by omega,q2⟩),
  h.e.start h.a h.t h3 h4 h5 hL hA hp hone hT,h.f.start h.a h.b h.t h1 h3 h4 hL hA hT⟩
theorem nX.fin {V nv g vr now i} (h:nX V nv g vr now) (hn:0<=now) (ho:(g.mem i).op≠0) (hl:(g.mem i).left=[]) (hown:∀ y∈(g.mem i).items,y.2.2<=1000*(g.mem i).ep+(g.mem i).cnt):∃ (k:Nat) (c:PC),(g.mem i).call=(k:Int)/\g.calls[k]? = some c/\c.done<0/\nX V nv (MP g i k c now) vr now:=by
 obtain ⟨k,c,q1,q2,q3,q4,q5⟩:=h.t.act i ho
 exact ⟨k,c,q1,q2,q4,h.a.fin,h.b.fin,h.t.fin h.a h.b ho hl q1 q2,h.z.fin,h.e.fin h.a ho hl,h.f.fin h.a h.t h.e hn ho hl q1 q2 hown⟩
def pm (m:AA):PM:=⟨m.2.1,m.2.2.1,m.2.2.2.1,m.2.2.2.2.1,m.2.2.2.2.2.1,m.2.2.2.2.2.2.1,m.2.2.2.2.2.2.2.1,m.2.2.2.2.2.2.2.2.1,m.2.2.2.2.2.2.2.2.2.1,m.2.2.2.2.2.2.2.2.2.2.1,m.2.2.2.2.2.2.2.2.2.2.2.1,m.2.2.2.2.2.2.2.2.2.2.2.2.1,m.2.2.2.2.2.2.2.2.2.2.2.2.2⟩
def px (x:BN):PX:=⟨x.1,x.2.1,x.2.2.1,x.2.2.2.1,x.2.2.2.2.1,x.2.2.2.2.2⟩
def pc (c:Kl):PC:=⟨c.1,c.2.1,c.2.2.1,c.2.2.2.1,c.2.2.2.2.1,c.2.2.2.2.2.1,c.2.2.2.2.2.2.1,c.2.2.2.2.2.2.2.1,c.2.2.2.2.2.2.2.2⟩
def hP:PM:=⟨1,false,false,false,false,[],[],0,0,0,0,(ByteArray.empty,ByteArray.empty,0),[]⟩
def pg (g:AT):PG:=⟨fun i=>if 1<=i/\i<=6 then pm (BX g (i-1).toNat) else hP,g.2.2.1.map px,g.2.2.2.map pc⟩
def vw (views:List (List Int)) (e:Int):List Int:=views.getD (e-1).toNat []
theorem qY (views:List (List Int)) (e:Int):CV (vw views) e=SK views e:=rfl
theorem vk {views:List (List Int)} (hv:Qg views):∀ e,1<=e->e<=(views.length:Int)->CV (vw views) e∈vw views e:=fun e h1 h2=>by
 have:=nI hv h1 h2 rfl
 rw [List.contains_iff_mem] at this
 exact this
theorem Se {g:AT} {i:Int} (h:1<=i/\i<=6):(pg g).mem i=pm (BX g (i-1).toNat):=if_pos h
theorem PG.same {a b:PG} (h1:∀ i,a.mem i=b.mem i) (h2:a.fly=b.fly) (h3:a.calls=b.calls):a=b:=by
 cases a; cases b
 simp only at h1 h2 h3
 rw [h2,h3,show _=_ from funext h1]
theorem hU {g:AT} {n:AA} {told:List BN} {said:List Cy} {at_:Int} {i:Int} (h6:g.2.1.length=6) (hi:1<=i/\i<=6) (hn:n.1=i) (j:Int):(pg (BF g n told said at_)).mem j=if j=i then pm n else (pg g).mem j:=by
 by_cases hj:1<=j/\j<=6
 ·rw [Se hj,nG h6 (show (j-1).toNat<6 by omega) (show n.1=(((i-1).toNat:Nat):Int)+1 by omega) (show (i-1).toNat<6 by omega)]
  by_cases e:j=i
  ·rw [if_pos (by omega),if_pos e]
  ·rw [if_neg (by omega),if_neg e,Se hj]
 ·rw [if_neg (by omega)]
  show (if _ then _ else _)=(if _ then _ else _)
  rw [if_neg hj,if_neg hj]
theorem kM {g:AT} {n:AA} {told:List BN} {at_:Int} {i:Int} (h6:g.2.1.length=6) (hi:1<=i/\i<=6) (hn:n.1=i):pg (BF g n told [] at_)=(pg g).set i (pm n) (told.map px) :=
 PG.same (hU h6 hi hn) (by show (g.2.2.1++told).map px=g.2.2.1.map px++told.map px; rw [List.map_append]) rfl
theorem vm {cs:List Kl} {k:Nat} {c:PC} (h:(cs.map pc)[k]? = some c):k<cs.length/\c=pc (cs.getD k ES):=by
 rw [List.getElem?_map] at h
 cases q:cs[k]? with
 | none=>rw [q] at h; cases h
 | some d =>
  rw [q] at h
  cases h
  obtain ⟨hk,e⟩:=List.getElem?_eq_some_iff.1 q
  exact ⟨hk,by rw [AR hk,e]⟩
theorem xR {at_:Int} {m:AA} {c:Kl} {s:Cy} (hs:s=(m.2.2.2.2.2.2.2.2.2.2.1,m.2.1,m.2.2.2.2.2.2.2.2.2.2.2.1,oK (pm m))):pc (Qe at_ s c)=Pe (pm m) (pc c) at_:=by
 subst hs
 have:(if (c.1==2)=true then (oK (pm m)).2.1 else c.2.2.2.2.2.2.2.2)=if c.1=2 then (oK (pm m)).2.1 else c.2.2.2.2.2.2.2.2:=by
  by_cases h:c.1=2
  ·rw [if_pos h,if_pos (by simpa using h)]
  ·rw [if_neg h,if_neg (by simpa using h)]
 unfold Qe pc Pe
 dsimp only
 rw [this]
 rfl
theorem nU (m:AA):(Bs m).1=[(m.2.2.2.2.2.2.2.2.2.2.1,m.2.1,m.2.2.2.2.2.2.2.2.2.2.2.1,oK (pm m))]/\pm (Bs m).2=U6 (pm m)/\(Bs m).2.1=m.1:=by
 unfold Bs
 by_cases h:m.2.2.2.2.2.2.2.2.2.1=1
 ·rw [if_pos (by simpa using h)]
  have h1:oK (pm m)=m.2.2.2.2.2.2.2.2.2.2.2.2.1:=if_pos h
  have h2:(U6 (pm m))=pm (NH m (Aj m.2.2.2.2.2.2.2.1 m.2.2.2.2.2.2.2.2.2.2.2.2.1)):=by
   unfold U6
   rw [if_pos (show (pm m).op=1 from h)]
   rfl
  rw [h1,h2]
  exact ⟨rfl,rfl,rfl⟩
 ·rw [if_neg (by simpa using h)]
  have h1:oK (pm m)=BD m.2.2.2.2.2.2.2.1 m.2.2.2.2.2.2.2.2.2.2.2.2.1.1:=if_neg h
  have h2:(U6 (pm m))=pm (NH m m.2.2.2.2.2.2.2.1):=by
   unfold U6
   rw [if_neg (show ¬ (pm m).op=1 from h)]
   rfl
  rw [h1,h2]
  exact ⟨rfl,rfl,rfl⟩
theorem yM {g:AT} {m:AA} {at_:Int} {i:Int} {k:Nat} {c:PC} (h6:g.2.1.length=6) (hi:1<=i/\i<=6) (hm:m.1=i) (hp:(pg g).mem i=pm m) (hc:(pm m).call=(k:Int)) (hk:(pg g).calls[k]? = some c) (hd:c.done<0) :
  pg (BF g (Bs m).2 [] (Bs m).1 at_)=MP (pg g) i k c at_:=by
 obtain ⟨f1,f2,f3⟩:=nU m
 obtain ⟨k1,k2⟩:=vm hk
 refine PG.same (fun j=>?_) ?_ ?_
 ·rw [hU h6 hi (by rw [f3,hm]),eZ,hp,f2]
 ·rw [ed]
  show (g.2.2.1++[]).map px=_
  rw [List.append_nil]; rfl
 ·show (((Bs m).1).foldl (ID at_) g.2.2.2).map pc=(g.2.2.2.map pc).set k (Pe ((pg g).mem i) c at_)
  have hc':m.2.2.2.2.2.2.2.2.2.2.1=(k:Int):=hc
  rw [f1,List.foldl_cons,List.foldl_nil,hp,k2,<- xR rfl,<- List.map_set]
  congr 1
  unfold ID
  dsimp only
  rw [hc',Int.toNat_natCast,if_neg]
  rw [k2] at hd
  change (g.2.2.2.getD k ES).2.2.2.2.1<0 at hd
  rw [Bool.or_eq_true,decide_eq_true_eq,decide_eq_true_eq]
  omega
theorem bg {view:List Int} {id:Int} (hv:uP view) (k:Int):k∈DN view id↔k∈view/\k≠id:=by
 rw [nK hv]
 unfold Bz
 rw [List.mem_filter]
 simp
theorem xS {α:Type} (l:List α):(((l.length:Int))==0)=l.isEmpty:=by
 cases l with
 | nil=>rfl
 | cons a l=>rw [List.isEmpty_cons,beq_eq_false_iff_ne,List.length_cons]; omega
inductive rf (V:Int->List Int) (nv:Int) (g:PG) (m:AA):AA×List BN×List Cy->Prop
 | none:rf V nv g m (m,[],[])
 | step (n:AA) (T:List BN) (h:CW V nv g m.1 (pm n) (T.map px)):rf V nv g m (n,T,[])
 | done (n:AA) (h:CW V nv g m.1 (pm n) []) (h1:n.1=m.1) (h2:n.2.2.2.2.2.2.2.2.2.1≠0) (h3:n.2.2.2.2.2.2.2.2.2.2.2.2.2=[]) (h4:n.2.2.2.2.2.2.2.1=m.2.2.2.2.2.2.2.1/\n.2.1=m.2.1/\n.2.2.2.2.2.2.2.2.1=m.2.2.2.2.2.2.2.2.1/\n.2.2.2.1=m.2.2.2.1/\n.2.2.2.2.1=m.2.2.2.2.1):rf V nv g m ((Bs n).2,[],(Bs n).1)
theorem vn {views:List (List Int)} {m:AA} {x:BN} {g:PG} (hv:Qg views) (hm:I2 m) (h:V1 views m) (hx:V2 views x) (hxo:uK x) (hlen:m.2.1<=(views.length:Int)) (ht:x.2.2.1=m.1) (he:x.2.2.2.1=m.2.1) (hp:g.mem m.1=pm m) (hin:px x∈g.fly) :
  rf (vw views) (views.length:Int) g m (Y8 m (views.getD (m.2.1-1).toNat []) x):=by
 have hw:=hv.wok (i:=(m.2.1-1).toNat) (by have:=hm.ep; omega)
 unfold Y8
 by_cases k2:x.1=2
 ·rw [if_pos k2]
  split
  ·rename_i hc
   simp only [Bool.and_eq_true,Bool.not_eq_true'] at hc
   refine .step _ _ ?_
   have:=CW.stat (V:=vw views) (nv:=(views.length:Int)) (g:=g) (i:=m.1) (px x) hin k2 (by rw [hp]; exact he) (by rw [hp]; exact hc.1) (by rw [hp]; exact hc.2) (DN (views.getD (m.2.1-1).toNat []) m.1) (fun k=>by
     rw [bg hw]
     show _↔k∈views.getD (x.2.2.2.1-1).toNat []/\_
     rw [he])
    (((Bz (views.getD (m.2.1-1).toNat []) m.1).map (fun v=>((3:Int),m.1,v,m.2.1,(0:Int),x.2.2.2.2.2))).map px) (fun y hy=>by
     obtain ⟨z,hz,rfl⟩:=List.mem_map.1 hy
     obtain ⟨v,_,rfl⟩:=List.mem_map.1 hz
     exact ⟨rfl,he.symm,rfl,rfl⟩)
   rw [hp] at this
   unfold Qm
   rw [xS]
   exact this
  ·exact .none
 rw [if_neg k2]
 by_cases k3:x.1=3
 ·rw [if_pos k3]
  split
  ·exact .none
  ·rename_i hc
   split
   ·exact .none
   ·rename_i hc2
    split
    ·rename_i hb
     refine .step _ _ ?_
     have:=CW.again (V:=vw views) (nv:=(views.length:Int)) (g:=g) (i:=m.1) (px x) hin k3 (by rw [hp]; exact he.symm) (by rw [hp]; exact hb)
     rw [hp] at this
     exact this
    ·rename_i hb
     have hb':m.2.2.2.1=false:=by simpa using hb
     have hf':m.2.2.1=false:=by
      rw [hb'] at hc2
      simpa using hc2
     have hcc:(views.getD (m.2.1-1).toNat []).contains m.1=true/\(views.getD (m.2.1-1).toNat []).getD 0 0≠m.1:=by
      cases q1:(views.getD (m.2.1-1).toNat []).contains m.1 with
      | false=>rw [q1] at hc; exact absurd rfl hc
      | true =>
       rw [q1] at hc
       exact ⟨rfl,fun e=>hc (by rw [e]; simp)⟩
     refine .step _ _ ?_
     have:=CW.inst (V:=vw views) (nv:=(views.length:Int)) (g:=g) (i:=m.1) (px x) hin k3 (.inr (by rw [hp]; exact ⟨he.symm,hb',hf'⟩))
      (by show _∈views.getD (x.2.2.2.1-1).toNat []; rw [he]; exact List.contains_iff_mem.1 hcc.1) (by rw [qY]; show SK views x.2.2.2.1≠_; rw [he]; exact hcc.2) (by show x.2.2.2.1<=_; omega)
     rw [hp] at this
     rw [<- he]
     exact this
 rw [if_neg k3]
 by_cases k4:x.1=4
 ·rw [if_pos k4]
  split
  ·rename_i hl
   refine .step _ _ ?_
   have:=CW.told (V:=vw views) (nv:=(views.length:Int)) (g:=g) (i:=m.1) (px x) hin k4 (by rw [hp]; exact he.symm) (by rw [hp]; exact hl)
   rw [hp] at this
   rw [xS]
   exact this
  ·exact .none
 rw [if_neg k4]
 by_cases k5:x.1=5
 ·rw [if_pos k5]
  split
  ·rename_i hb
   refine .step _ _ ?_
   obtain ⟨s1,s2⟩:=hx.store k5
   have hlen:x.2.2.2.2.2.length=1:=by
    have:=hxo.shape
    rw [if_neg (by omega),if_pos k5] at this
    exact this
   have:=CW.store (V:=vw views) (nv:=(views.length:Int)) (g:=g) (i:=m.1) (px x) hin k5 (by rw [hp]; exact he.symm) (by rw [hp]; exact hb) (by rw [qY,<- ht]; exact s1) (x.2.2.2.2.2.getD 0 (ByteArray.empty,ByteArray.empty,(0:Int))) (by
    show x.2.2.2.2.2=_
    match x.2.2.2.2.2,hlen with
    | [a],_=>rfl)
   rw [hp] at this
   exact this
  ·exact .none
 rw [if_neg k5]
 by_cases k7:x.1=7
 ·rw [if_pos k7]
  split
  ·rename_i hb
   refine .step _ _ ?_
   have:=CW.sure (V:=vw views) (nv:=(views.length:Int)) (g:=g) (i:=m.1) (px x) hin k7 (by rw [hp]; exact he.symm) (by rw [hp]; exact hb)
   rw [hp] at this
   exact this
  ·exact .none
 rw [if_neg k7]
 by_cases hc:(x.1=6\/x.1=8)/\m.2.2.2.2.2.2.2.2.2.1=(if x.1=8 then 2 else 1)/\m.2.2.2.2.2.2.2.2.2.2.2.1=x.2.2.2.2.1
 ·rw [if_pos hc]
  have hs:CW (vw views) (views.length:Int) g m.1 (pm (om m x.2.1)) []:=by
   have:=CW.less (V:=vw views) (nv:=(views.length:Int)) (g:=g) (i:=m.1) (px x) hin (by
    rw [hp]
    show (m.2.2.2.2.2.2.2.2.2.1=1/\x.1=6)\/(m.2.2.2.2.2.2.2.2.2.1=2/\x.1=8)
    have h2:=hc.2.1
    rcases hc.1 with q | q
    ·rw [if_neg (by omega)] at h2; exact .inl ⟨h2,q⟩
    ·rw [if_pos q] at h2; exact .inr ⟨h2,q⟩) (by rw [hp]; exact he.symm) (by rw [hp]; exact hc.2.2)
   rw [hp] at this
   exact this
  have h0:m.2.2.2.2.2.2.2.2.2.1≠0:=by have:=hc.2.1; split at this<;>omega
  unfold GA
  split
  ·rename_i hl
   rw [xS,List.isEmpty_iff] at hl
   exact .done _ hs rfl h0 hl ⟨rfl,rfl,rfl,rfl,rfl⟩
  ·exact .step _ _ hs
 ·rw [if_neg hc]
  exact .none
theorem uO {views:List (List Int)} {m:AA} {x:BN} {g:PG} (hv:Qg views) (hm:I2 m) (h:V1 views m) (hx:V2 views x) (hxo:uK x) (hp:g.mem m.1=pm m) (hin:px x∈g.fly) :
  rf (vw views) (views.length:Int) g m (DO m views x):=by
 unfold DO
 split
 ·rename_i hc
  simp only [Bool.and_eq_true,decide_eq_true_eq,beq_iff_eq] at hc
  obtain ⟨⟨⟨hmo,h1⟩,h2⟩,h3⟩:=hc
  split
  ·rename_i he
   exact vn hv hm h hx hxo (by omega) h1 he hp hin
  ·rename_i hne
   split
   ·rename_i hs
    simp only [Bool.and_eq_true,beq_iff_eq] at hs
    refine .step _ _ ?_
    have:=CW.closes (V:=vw views) (nv:=(views.length:Int)) (g:=g) (i:=m.1) (px x) hin (by rw [hp]; exact hs.1.1.2) (by rw [hp]; exact hs.1.2) h3
    rw [hp] at this
    exact this
   ·split
    ·rename_i hs
     simp only [Bool.and_eq_true,beq_iff_eq,bne_iff_ne] at hs
     refine .step _ _ ?_
     have:=CW.inst (V:=vw views) (nv:=(views.length:Int)) (g:=g) (i:=m.1) (px x) hin hs.1.1 (.inl (by rw [hp]; show m.2.1<x.2.2.2.1; omega)) (List.contains_iff_mem.1 hs.1.2) hs.2 h3
     rw [hp] at this
     exact this
    ·exact .none
 ·exact .none

def ET (g:AT) (now:Int):Prop:=∃ vr,nX (vw g.1) (g.1.length:Int) (pg g) vr now
theorem ET.later {g:AT} {n n':Int} (h:ET g n) (hn:n<=n'):ET g n':=by
 obtain ⟨vr,h⟩:=h
 exact ⟨vr,h.later hn⟩
theorem ot {g:AT} {i:Nat}:∀ x∈(Ec g i).2.2.1,x∈g.2.2.1:=fun x hx=>by
 rcases List.mem_append.1 hx with h1 | h1
 ·exact List.mem_of_mem_take h1
 ·exact List.mem_of_mem_drop h1
theorem xT {g:AT} {l:List BN}:pg (g.1,g.2.1,l,g.2.2.2)={ pg g with fly:=l.map px }:=rfl
theorem ET.sub {g:AT} {l:List BN} {now:Int} (h:ET g now) (hl:∀ x∈l,x∈g.2.2.1):ET (g.1,g.2.1,l,g.2.2.2) now:=by
 obtain ⟨vr,h⟩:=h
 refine ⟨vr,?_⟩
 rw [xT]
 refine h.drop fun x hx=>?_
 obtain ⟨y,hy,rfl⟩:=List.mem_map.1 hx
 exact List.mem_map.2 ⟨y,hl y hy,rfl⟩
theorem ET.member {g:AT} {n:AA} {told l:List BN} {at_:Int} {i:Int} (h6:g.2.1.length=6) (hi:1<=i/\i<=6) (hn:n.1=i) (h:ET (BF g n told [] at_) at_) (hl:∀ x∈l,x∈g.2.2.1):ET (BF (g.1,g.2.1,l,g.2.2.2) n told [] at_) at_:=by
 have:=ET.sub (l:=l++told) h (fun x hx=>by
  rcases List.mem_append.1 hx with q | q
  ·exact List.mem_append_left _ (hl x q)
  ·exact List.mem_append_right _ q)
 exact this
theorem ET.fin {g:AT} {m:AA} {at_:Int} {i:Int} {vr:Nat->Int} (h6:g.2.1.length=6) (hi:1<=i/\i<=6) (hn:0<=at_) (hm:m.1=i) (hp:(pg g).mem i=pm m) (h:nX (vw g.1) (g.1.length:Int) (pg g) vr at_)
  (ho:m.2.2.2.2.2.2.2.2.2.1≠0) (hl:m.2.2.2.2.2.2.2.2.2.2.2.2.2=[]) (hown:MN m.2.2.2.2.2.2.2.1 (1000*m.2.1+m.2.2.2.2.2.2.2.2.1)):ET (BF g (Bs m).2 [] (Bs m).1 at_) at_:=by
 obtain ⟨k,c,q1,q2,q3,q4⟩:=h.fin (i:=i) hn (by rw [hp]; exact ho) (by rw [hp]; exact hl) (by rw [hp]; exact hown)
 refine ⟨vr,?_⟩
 rw [yM h6 hi hm hp (by rw [<- hp]; exact q1) q2 q3]
 exact q4
theorem sX {g:AT} {m:AA} {i:Nat} {at_:Int} (h6:g.2.1.length=6) (hi:i<6) (hm:BX g i=m) (hid:m.1=(i:Int)+1):BF g m [] [] at_=g:=by
 unfold BF
 rw [hid,show ((i:Int)+1-1).toNat=i by omega,List.append_nil,List.foldl_nil]
 have:g.2.1.set i m=g.2.1:=by
  rw [<- hm]
  unfold BX
  rw [AR (show i<g.2.1.length by omega)]
  exact List.set_getElem_self _
 rw [this]
theorem ET.deliver {g:AT} {k:Nat} {at_:Int} {j:Nat} (hg:JN g k) (h3:V3 g) (h:ET g at_) (ha:0<=at_) (hj:j<g.2.2.1.length):ET (HT g j at_) at_:=by
 have hmem:g.2.2.1.getD j Cr∈g.2.2.1:=by rw [AR hj]; exact List.getElem_mem _
 have hx:=hg.fly _ hmem
 have hx2:=h3.fly _ hmem
 have hto:=hx.to
 unfold HT
 generalize g.2.2.1.getD j Cr=x at *
 obtain ⟨m1,m2⟩:=hg.mem (x.2.2.1-1).toNat (by omega)
 have hv1:=h3.mem (x.2.2.1-1).toNat (by omega)
 have hid:(BX g (x.2.2.1-1).toNat).1=x.2.2.1:=by rw [m2]; omega
 have hp:(pg g).mem (BX g (x.2.2.1-1).toNat).1=pm (BX g (x.2.2.1-1).toNat):=by rw [hid,Se hto]
 have hs:=uO (g:=pg g) hg.views m1 hv1 hx2 hx hp (List.mem_map.2 ⟨x,hmem,rfl⟩)
 have hids:(DO (BX g (x.2.2.1-1).toNat) g.1 x).1.1=x.2.2.1:=by rw [(N4 (x:=x) m1 hg.views).id,hid]
 have hvw:=vk hg.views
 have h6:=hg.six
 have hsub:=ot (g:=g) (i:=j)
 obtain ⟨vr,hall⟩:=h
 generalize hr:DO (BX g (x.2.2.1-1).toNat) g.1 x=r at *
 clear hr
 cases hs with
 | none =>
  refine ET.member (l:=(Ec g j).2.2.1) h6 hto hid ?_ hsub
  rw [sX h6 (show (x.2.2.1-1).toNat<6 by omega) rfl m2]
  exact ⟨vr,hall⟩
 | step n T hs =>
  refine ET.member (l:=(Ec g j).2.2.1) h6 hto hids ⟨vr,?_⟩ hsub
  rw [kM h6 hto hids]
  rw [hid] at hs
  exact hall.mstep hvw hs
 | done n hs h1 h2 h3' h4 =>
  have hn:n.1=x.2.2.1:=by rw [h1,hid]
  have hstep:ET (BF (Ec g j) n [] [] at_) at_:=ET.member (l:=(Ec g j).2.2.1) h6 hto hn ⟨vr,by
   rw [kM h6 hto hn]
   rw [hid] at hs
   exact hall.mstep hvw hs⟩ hsub
  obtain ⟨vr2,hall2⟩:=hstep
  have hlead:n.2.2.2.2.1=true/\n.2.2.2.1=true:=by
   have hp2:(pg (BF (Ec g j) n [] [] at_)).mem x.2.2.1=pm n:=by rw [hU (g:=Ec g j) (show (Ec g j).2.1.length=6 from h6) hto hn,if_pos rfl]
   have t:=hall2.a.task x.2.2.1 (by rw [hp2]; exact h2)
   have s:=hall2.a.serv x.2.2.1 t.1
   rw [hp2] at s
   exact ⟨s.2.1,s.1⟩
  have hfin:=ET.fin (g:=BF (Ec g j) n [] [] at_) (m:=n) (at_:=at_) (i:=x.2.2.1) (vr:=vr2) (by show (List.set _ _ _).length=6; rw [List.length_set]; exact h6) hto ha hn (by rw [hU (g:=Ec g j) (show (Ec g j).2.1.length=6 from h6) hto hn,if_pos rfl]) hall2 h2 h3' (by
   rw [h4.1,h4.2.1,h4.2.2.1]
   exact hv1.own (by rw [<- h4.2.2.2.2]; exact hlead.1) (by rw [<- h4.2.2.2.1]; exact hlead.2))
  have e:BF (BF (Ec g j) n [] [] at_) (Bs n).2 [] (Bs n).1 at_=BF (Ec g j) (Bs n).2 [] (Bs n).1 at_:=by
   unfold BF
   dsimp only
   rw [(nU n).2.2,List.set_set,List.append_nil,List.append_nil,List.foldl_nil]
  rw [<- e]
  exact hfin
theorem ET.adopt {g:AT} {k:Nat} {at_ node:Int} (hg:JN g k) (h:ET g at_) (hn:1<=node/\node<=6):∀ (n:Nat) (e:Int),ET (Ic g at_ (BX g (node-1).toNat) node n e).2 at_
 | 0,_=>h
 | n+1,e=>by
  unfold Ic
  split
  ·exact ET.adopt hg h hn n (e+1)
  ·split
   ·rename_i hb
    obtain ⟨m1,m2⟩:=hg.mem (node-1).toNat (by omega)
    have hid:(BX g (node-1).toNat).1=node:=by rw [m2]; omega
    have hids:(Eo (BX g (node-1).toNat) g.1 e).1.1=node:=by rw [(T9 (e:=e) m1 hg.views hb).2.1,hid]
    obtain ⟨vr,hall⟩:=h
    refine ⟨vr,?_⟩
    rw [kM hg.six hn hids]
    refine hall.mstep (vk hg.views) ?_
    have hp:(pg g).mem node=pm (BX g (node-1).toNat):=Se hn
    generalize BX g (node-1).toNat=m at *
    unfold Eo at hb ⊢
    split at hb
    ·rename_i hc
     rw [if_pos hc]
     have hw:=hg.views.wok (i:=(e-1).toNat) (by omega)
     split
     ·rename_i h2
      simp only [Bool.and_eq_true,beq_iff_eq] at h2
      have:=CW.had (V:=vw g.1) (nv:=(g.1.length:Int)) (g:=pg g) (i:=node) e (by rw [hp]; show e=m.2.1+1; omega) (by rw [hp]; exact h2.1.1) (by rw [qY,<- hid]; exact hc.2.2.2) hc.2.1 (DN (g.1.getD (e-1).toNat []) m.1) (fun k=>by rw [bg hw,hid]; exact Iff.rfl)
       (((Bz (g.1.getD (e-1).toNat []) m.1).map (fun v=>((3:Int),m.1,v,e,(0:Int),m.2.2.2.2.2.2.2.1))).map px) (fun y hy=>by
        obtain ⟨z,hz,rfl⟩:=List.mem_map.1 hy
        obtain ⟨v,_,rfl⟩:=List.mem_map.1 hz
        exact ⟨rfl,rfl,by rw [hp]; rfl,hid⟩)
      rw [hp] at this
      unfold Qm
      rw [xS]
      exact this
     ·have:=CW.took (V:=vw g.1) (nv:=(g.1.length:Int)) (g:=pg g) (i:=node) e (by rw [hp]; exact hc.2.2.1) (by rw [qY,<- hid]; exact hc.2.2.2) hc.2.1 (((Bz (g.1.getD (e-2).toNat []) m.1).map (fun v=>((1:Int),m.1,v,e,(0:Int),([]:List AM)))).map px) (fun y hy=>by
        obtain ⟨z,hz,rfl⟩:=List.mem_map.1 hy
        obtain ⟨v,_,rfl⟩:=List.mem_map.1 hz
        exact ⟨rfl,rfl,rfl⟩)
      rw [hp] at this
      exact this
    ·cases hb
   ·exact h
theorem ET.fall {g:AT} {k:Nat} {at_ node:Int} (hg:JN g k) (h:ET g at_) (hn:1<=node/\node<=6):ET (BF g (T_ (BX g (node-1).toNat)) [] [] at_) at_:=by
 obtain ⟨m1,m2⟩:=hg.mem (node-1).toNat (by omega)
 obtain ⟨vr,hall⟩:=h
 refine ⟨vr,?_⟩
 rw [kM hg.six hn (by show (BX g (node-1).toNat).1=node; rw [m2]; omega)]
 have:=CW.fall (V:=vw g.1) (nv:=(g.1.length:Int)) (g:=pg g) (i:=node)
 rw [Se hn] at this
 exact hall.mstep (vk hg.views) this
theorem ET.begin {g:AT} {k:Nat} {at_:Int} {e:D_} (hg:JN g k) (h3:V3 g) (h:ET g at_) (ha:0<=at_) (hn:1<=e.2.1/\e.2.1<=6):ET (JO g at_ e).2 at_:=by
 obtain ⟨vr,hall⟩:=h
 unfold JO
 split
 ·rename_i hb
  obtain ⟨m1,m2⟩:=hg.mem (e.2.1-1).toNat (by omega)
  have hv1:=h3.mem (e.2.1-1).toNat (by omega)
  have hid:(BX g (e.2.1-1).toNat).1=e.2.1:=by rw [m2]; omega
  have hp:(pg g).mem e.2.1=pm (BX g (e.2.1-1).toNat):=Se hn
  have h6:(Gy g at_ e).2.1.length=6:=hg.six
  generalize BX g (e.2.1-1).toNat=m at *
  unfold DP at hb ⊢
  split at hb
  case isFalse=>cases hb
  rename_i hmay
  rw [if_pos hmay]
  split at hb
  case isTrue=>cases hb
  rename_i hput
  rw [if_neg hput]
  obtain ⟨s1,s2,s3,s4,s5,s6,s7,s8,s9,s10⟩:=ZW hmay
  have hok:=nF (key:=e.2.2.2.2.1) (val:=e.2.2.2.2.2) m1 s3 s6 s7
  have hone:=(Cm.1 hok).1 _ (List.mem_singleton.2 rfl)
  have hser:=m1.serves s1
  have hown:=hv1.own hser.2.1 hser.1
  have hcnt:=m1.count
  have hep:=m1.ep
  have hw:=hg.views.wok (i:=(m.2.1-1).toNat) (by omega)
  have hL:∀ k,k∈DN (g.1.getD (m.2.1-1).toNat []) m.1↔k∈vw g.1 ((pg g).mem e.2.1).ep/\k≠e.2.1:=fun k=>by
   rw [bg hw,hp,hid]; exact Iff.rfl
  have hpp:e.2.2.2.1=1->BD (Aj ((pg g).mem e.2.1).items (GC m e.2.2.2.2.1 e.2.2.2.2.2)) (GC m e.2.2.2.2.1 e.2.2.2.2.2).1=GC m e.2.2.2.2.1 e.2.2.2.2.2:=fun ho=>by
   rw [hp]
   show BD (Aj m.2.2.2.2.2.2.2.1 _) _=_
   have hvl:MN m.2.2.2.2.2.2.2.1 ((GC m e.2.2.2.2.1 e.2.2.2.2.2).2.2-1):=hown.mono (by show _<=1000*m.2.1+(m.2.2.2.2.2.2.2.2.1+1)-1; omega)
   have hr:=nP m1.items hone hvl
   have hpn:=tN m1.items hone hvl
   rw [hpn]
   by_cases hf:m.2.2.2.2.2.2.2.1.length=12/\Id m.2.2.2.2.2.2.2.1 (GC m e.2.2.2.2.1 e.2.2.2.2.2).1=false
   ·exfalso
    refine hput ⟨ho,?_⟩
    rw [hf.2,decide_eq_true hf.1] at hr
    exact hr
   ·rw [if_neg hf]
    exact NF (bW _ (Cm.1 m1.items).2.1) nB
  have hst:∀ (T:List BN),(∀ y∈T.map px,(y.kind=5/\e.2.2.2.1=1/\y.items=[GC m e.2.2.2.2.1 e.2.2.2.2.2]\/y.kind=7/\e.2.2.2.1=2/\y.items=[])/\y.ep=((pg g).mem e.2.1).ep/\y.num=((pg g).mem e.2.1).cnt+1/\y.frm=e.2.1) ->
    ET (BF (Gy g at_ e) (GL m (g.1.getD (m.2.1-1).toNat []) e.2.2.2.1 (g.2.2.2.length:Int) e.2.2.2.2.1 e.2.2.2.2.2) T [] at_) at_:=fun T hT=>by
   have:=hall.start (i:=e.2.1) (c:=pc (e.2.2.2.1,e.2.2.2.2.1,e.2.2.2.2.2,at_,-1,0,0,0,ByteArray.empty)) (L:=DN (g.1.getD (m.2.1-1).toNat []) m.1) (a:=GC m e.2.2.2.2.1 e.2.2.2.2.2) (T:=T.map px) rfl rfl (by rw [hp]; exact s1) (by rw [hp]; exact s2) s4 (by rw [hp]; exact s3) hL (by rw [hp]; rfl) hpp hok hT
   refine ⟨vv (pg g) e.2.1 vr,?_⟩
   have e2:pg (BF (Gy g at_ e) (GL m (g.1.getD (m.2.1-1).toNat []) e.2.2.2.1 (g.2.2.2.length:Int) e.2.2.2.2.1 e.2.2.2.2.2) T [] at_)=Bd (pg g) e.2.1 (pc (e.2.2.2.1,e.2.2.2.2.1,e.2.2.2.2.2,at_,-1,0,0,0,ByteArray.empty)) (DN (g.1.getD (m.2.1-1).toNat []) m.1) (GC m e.2.2.2.2.1 e.2.2.2.2.2) (T.map px):=by
    refine PG.same (fun j=>?_) ?_ ?_
    ·rw [hU (g:=Gy g at_ e) h6 hn (show (GL m _ _ _ _ _).1=e.2.1 from hid)]
     show _=if j=e.2.1 then Og (pg g) e.2.1 _ _ _ else _
     unfold Og
     rw [hp]
     have:(pg g).calls.length=g.2.2.2.length:=List.length_map _
     rw [this]
     rfl
    ·show (g.2.2.1++T).map px=g.2.2.1.map px++T.map px
     rw [List.map_append]
    ·show (g.2.2.2++[_]).map pc=g.2.2.2.map pc++[_]
     rw [List.map_append]; rfl
   rw [e2]
   exact this
  unfold Qd
  split
  ·rename_i hoth
   obtain ⟨vr2,hall2⟩:=hst [] (fun y hy=>by cases hy)
   have hfin:=ET.fin (g:=BF (Gy g at_ e) (GL m (g.1.getD (m.2.1-1).toNat []) e.2.2.2.1 (g.2.2.2.length:Int) e.2.2.2.2.1 e.2.2.2.2.2) [] [] at_) (m:=GL m (g.1.getD (m.2.1-1).toNat []) e.2.2.2.1 (g.2.2.2.length:Int) e.2.2.2.2.1 e.2.2.2.2.2) (at_:=at_) (i:=e.2.1) (vr:=vr2) (by show (List.set _ _ _).length=6; rw [List.length_set]; exact h6) hn ha hid (by rw [hU (g:=Gy g at_ e) h6 hn (show (GL m _ _ _ _ _).1=e.2.1 from hid),if_pos rfl]) hall2 (by show e.2.2.2.1≠0; omega) hoth (hown.mono (by show _<=1000*m.2.1+(m.2.2.2.2.2.2.2.2.1+1); omega))
   have e3:∀ (n t:AA) (s:List Cy),n.1=t.1->BF (BF (Gy g at_ e) t [] [] at_) n [] s at_=BF (Gy g at_ e) n [] s at_:=fun n t s hnt=>by
    unfold BF
    dsimp only
    rw [hnt,List.set_set,List.append_nil,List.append_nil,List.foldl_nil]
   rw [e3 _ _ _ (nU _).2.2] at hfin
   exact hfin
  ·refine hst _ fun y hy=>?_
   obtain ⟨z,hz,rfl⟩:=List.mem_map.1 hy
   unfold nE at hz
   obtain ⟨v,_,rfl⟩:=List.mem_map.1 hz
   rw [hp]
   refine ⟨?_,rfl,rfl,hid⟩
   rcases s4 with q | q
   ·rw [if_pos q,if_pos q]; exact .inl ⟨rfl,q,rfl⟩
   ·rw [if_neg (by omega),if_neg (by omega)]; exact .inr ⟨rfl,q,rfl⟩
 ·refine ⟨vr,?_⟩
  have:=hall.call (c:=pc (e.2.2.2.1,e.2.2.2.2.1,e.2.2.2.2.2,at_,-1,0,0,0,ByteArray.empty)) rfl rfl
  have e2:pg (Gy g at_ e)={ pg g with calls:=(pg g).calls++[pc (e.2.2.2.1,e.2.2.2.2.1,e.2.2.2.2.2,at_,-1,0,0,0,ByteArray.empty)] }:=by
   refine PG.same (fun j=>rfl) rfl ?_
   show (g.2.2.2++[_]).map pc=g.2.2.2.map pc++[_]
   rw [List.map_append]; rfl
  exact e2▸this
theorem ET.event {g:AT} {k:Nat} (hg:JN g k) (h3:V3 g) {at_:Int} (h:ET g at_) (ha:0<=at_) {e:D_} (he:MS e=true):ET (nH g at_ e).2 at_:=by
 have hn:=eP he
 unfold nH
 split
 ·exact h.begin hg h3 ha (by omega)
 ·split
  ·exact ET.adopt hg h (by omega) _ _
  ·split
   ·exact h.fall hg (by omega)
   ·unfold bd
    split
    ·exact h
    ·rename_i hne
     have hl:0<g.2.2.1.length:=by
      cases hq:g.2.2.1 with
      | nil=>exact absurd hq hne
      | cons a l=>simp
     have hlt:(e.2.2.1 % (g.2.2.1.length:Int)).toNat<g.2.2.1.length:=by
      have h1:=Int.emod_lt_of_pos e.2.2.1 (show (0:Int)<(g.2.2.1.length:Int) by omega)
      have h2:=Int.emod_nonneg e.2.2.1 (show (g.2.2.1.length:Int)≠0 by omega)
      omega
     split
     ·refine ET.sub h fun x hx=>?_
      rcases List.mem_append.1 hx with h1 | h1
      ·exact h1
      ·simp only [List.mem_singleton] at h1
       rw [h1,AR hlt]
       exact List.getElem_mem _
     ·split
      ·exact ET.sub (l:=(Ec g _).2.2.1) h ot
      ·exact h.deliver hg h3 ha hlt
theorem ET.new {views:List (List Int)} (hv:Qg views):ET (Av views) 0:=by
 unfold ET
 have hvl:=hv.len
 have hm:∀ i,(1<=i/\i<=6/\(pg (Av views)).mem i=pm (D9 i views))\/(pg (Av views)).mem i=hP:=fun i=>by
  by_cases h:1<=i/\i<=6
  ·left
   refine ⟨h.1,h.2,?_⟩
   rw [Se h]
   have h5:i=1\/i=2\/i=3\/i=4\/i=5\/i=6:=by omega
   rcases h5 with rfl | rfl | rfl | rfl | rfl | rfl<;>rfl
  ·exact .inr (if_neg h)
 have hfirst:=nI hv (e:=1) (by omega) (by omega) rfl
 have key:∀ i,((pg (Av views)).mem i).ep=1/\((pg (Av views)).mem i).fell=false/\(((pg (Av views)).mem i).base=true↔1<=i/\i<=6/\(views.getD 0 []).contains i=true)/\(((pg (Av views)).mem i).leads=true->SK views 1=i/\((pg (Av views)).mem i).base=true)/\((pg (Av views)).mem i).serves=((pg (Av views)).mem i).leads/\((pg (Av views)).mem i).waits=[]/\((pg (Av views)).mem i).items=[]/\((pg (Av views)).mem i).cnt=0/\((pg (Av views)).mem i).op=0:=fun i=>by
  rcases hm i with ⟨h1,h2,h⟩ | h
  ·rw [h]
   refine ⟨rfl,rfl,⟨fun h=>⟨h1,h2,h⟩,fun h=>h.2.2⟩,fun hl=>?_,rfl,rfl,rfl,rfl,rfl⟩
   have:(views.getD 0 []).getD 0 0=i:=by
    have:((views.getD 0 []).getD 0 0==i)=true:=hl
    simpa using this
   refine ⟨this,?_⟩
   have hf:SK views 1=i:=this
   rw [hf] at hfirst
   exact hfirst
  ·rw [h]
   refine ⟨rfl,rfl,⟨fun h=>(by cases h),fun hh=>?_⟩,fun h=>(by cases h),rfl,rfl,rfl,rfl,rfl⟩
   have:=Se (g:=Av views) ⟨hh.1,hh.2.1⟩
   exfalso
   rcases hm i with ⟨q1,q2,q⟩ | q
   ·rw [h] at q
    have:hP.base=(pm (D9 i views)).base:=by rw [q]
    have h2:(pm (D9 i views)).base=true:=hh.2.2
    rw [h2] at this
    cases this
   ·have h5:i=1\/i=2\/i=3\/i=4\/i=5\/i=6:=by omega
    have h7:(pm (D9 i views))=hP:=by
     rw [<- q,Se ⟨hh.1,hh.2.1⟩]
     rcases h5 with rfl | rfl | rfl | rfl | rfl | rfl<;>rfl
    have:hP.base=(pm (D9 i views)).base:=by rw [h7]
    have h2:(pm (D9 i views)).base=true:=hh.2.2
    rw [h2] at this
    cases this
 have hfly:(pg (Av views)).fly=[]:=rfl
 have hcal:(pg (Av views)).calls=[]:=rfl
 have hview:∀ k∈views.getD 0 [],1<=k/\k<=6:=(hv.wok (i:=0) (by omega)).mem
 have hvw1:vw (Av views).1 1=views.getD 0 []:=rfl
 have hg1:(Av views).1=views:=rfl
 generalize pg (Av views)=g at *
 refine ⟨fun _=>0,⟨?_,?_,?_,?_,?_,?_⟩⟩
 ·refine ⟨fun i=>?_,fun i h=>?_,fun i h=>?_,fun i h=>?_,fun i h=>?_,fun i=>?_,fun i h=>?_⟩<;>obtain ⟨k1,k2,k3,k4,k5,k6,k7,k8,k9⟩:=key i
  ·omega
  ·rw [k1,hg1]; exact ⟨by omega,(k4 h).1⟩
  ·rw [k1,hg1]; exact ⟨by omega,List.contains_iff_mem.1 (k3.1 h).2.2⟩
  ·rw [k5] at h; exact ⟨(k4 h).2,h,k6⟩
  ·exact absurd k9 h
  ·omega
  ·rw [k2] at h; cases h
 ·refine ⟨fun i _ d h1 h2=>?_,fun x hx=>by rw [hfly] at hx; cases hx⟩
  rw [(key i).1] at h2; omega
 ·refine ⟨fun k h=>absurd rfl h,fun k l h=>absurd rfl h,fun _ _=>rfl,fun i h=>absurd (key i).2.2.2.2.2.2.2.2 h,?_,?_,?_,fun i h=>absurd (key i).2.2.2.2.2.2.2.2 h,?_⟩
  ·intro k c h; rw [hcal] at h; cases h
  ·intro k c h; rw [hcal] at h; cases h
  ·intro x h; rw [hfly] at h; cases h
  ·intro k l a b h; rw [hcal] at h; cases h
 ·refine ⟨fun i h1 h2 k hk h3 h4=>?_,fun x hx=>by rw [hfly] at hx; (cases hx),fun k e n h=>absurd rfl h,fun k hk=>?_,fun x hx=>by rw [hfly] at hx; (cases hx)⟩
  ·rw [(key i).1] at hk ⊢
   have:=hview k hk
   exact .inr ⟨(key k).1,.inl ((key k).2.2.1.2 ⟨this.1,this.2,List.contains_iff_mem.2 hk⟩)⟩
  ·rw [(key k).1,(key _).1]
   exact ⟨Int.le_refl _,fun _ h=>((key _).2.2.2.1 h).2⟩
 ·refine ⟨fun i=>by rw [(key i).2.2.2.2.2.2.1]; rfl,fun x hx=>by rw [hfly] at hx; (cases hx),fun i _ _ _ x hx=>by rw [hfly] at hx; (cases hx),fun i _ _ j _ _=>.inl (by rw [(key i).2.2.2.2.2.2.1,(key j).2.2.2.2.2.2.1]),fun i h=>?_,fun x hx=>by rw [hfly] at hx; (cases hx),fun i h=>?_⟩
  ·rw [(key i).2.2.2.2.2.2.2.2] at h; exact absurd h (by decide)
  ·rw [(key i).2.2.2.2.2.2.2.2] at h; exact absurd h (by decide)
 ·refine ⟨?_,?_,fun i h=>absurd (key i).2.2.2.2.2.2.2.2 h,?_,?_,?_,?_,?_,?_⟩
  ·intro k c h; rw [hcal] at h; cases h
  ·intro k c h; rw [hcal] at h; cases h
  ·intro k l a b h; rw [hcal] at h; cases h
  ·intro k c h; rw [hcal] at h; cases h
  ·intro i y hy; rw [(key i).2.2.2.2.2.2.1] at hy; cases hy
  ·intro x h; rw [hfly] at h; cases h
  ·intro i h; rw [(key i).2.2.2.2.2.2.2.2] at h; exact absurd h (by decide)
  ·intro k c h; rw [hcal] at h; cases h
theorem ET.run:∀ (es:List D_) (n:Nat) (g:AT) (cs:List Int),JN g n->V3 g->ET g (n:Int)->n+es.length<=70->(∀ e∈es,MS e=true)->ET (Sc n es g cs).1 70
 | [],n,g,cs,_,_,h,hn,_=>h.later (by simp only [List.length_nil] at hn; omega)
 | e::es,n,g,cs,hg,h3,h,hn,he=>by
  simp only [List.length_cons] at hn
  obtain ⟨h2,_⟩:=hg.event (at_:=(n:Int)) (he e (by simp))
  exact ET.run es (n+1) _ _ h2 (h3.event hg (by omega) (he e (by simp))) ((h.event hg h3 (by omega) (he e (by simp))).later (by omega)) (by omega) (fun x hx=>he x (by simp [hx]))

def ZH:Nat->AT->AT
 | 0,g=>g
 | n+1,g=>if 0<g.2.2.1.length then ZH n (HT g 0 70) else g
theorem UE (g:AT) (k:Nat) (hg:JN g k) (hk:k<=10000):IP g=some (true,g):=Ya (by
 have h6:=hg.six
 have hf:=hg.flen
 unfold Nn
 refine GJ (n:=g.2.1.length) (P:=fun i=>EE g.2.1 (g.2.1.length:Int) (i:Int) g=some (true,g)) (Kf ?_) (fun i hi ih=>Kf (by
  unfold Gj
  have hm:=(hg.mem i (by omega)).2
  rw [if_pos (by simpa using hi),if_pos (by omega),if_pos (by omega),AO (by omega),Int.toNat_natCast]
  change (if ((BX g i).1 != _)=true then _ else _)=_
  rw [hm,if_neg (by simp)]
  exact ih)) 0 (by omega)
 unfold Gj
 rw [if_neg (by simp)]
 refine TV ?_
 unfold Kc
 refine GJ (n:=g.2.2.1.length) (P:=fun i=>ED g.2.2.1 (g.2.2.1.length:Int) (i:Int) g=some (true,g)) (Ke ?_) (fun i hi ih=>Ke (by
  unfold Gi
  have hz:g.2.2.1.getD i ((0:Int),(0:Int),(0:Int),(0:Int),(0:Int),([]:List AM))=g.2.2.1[i]:=AR hi
  have hto:=(hg.fly _ (List.getElem_mem hi)).to
  simp only [show ((i:Int)<(g.2.2.1.length:Int)) from by omega,decide_true,if_true,show (0:Int)<=(i:Int) from by omega,Int.toNat_natCast,hz,AO (show i<9223372036854775807 by omega)]
  rw [E8,X,decide_eq_true hto.1,decide_eq_true hto.2,if_neg (by simp)]
  exact ih)) 0 (by omega)
 unfold Gi
 rw [if_neg (by simp)]
 refine TU ?_
 unfold Kb
 rw [if_pos (by rw [h6]; rfl),EJ hg.views,X])
theorem JN.deliver {g:AT} {k:Nat} (hg:JN g k) {j:Nat} (hj:j<g.2.2.1.length) (at_:Int):JN (HT g j at_) (k+1):=by
 have hmem:g.2.2.1.getD j Cr∈g.2.2.1:=by rw [AR hj]; exact List.getElem_mem _
 have hto:=(hg.fly _ hmem).to
 unfold HT
 generalize g.2.2.1.getD j Cr=x at *
 obtain ⟨m1,m2⟩:=hg.mem (x.2.2.1-1).toNat (by omega)
 have hh:=N4 (x:=x) m1 hg.views
 exact (hg.less j).member (i:=(x.2.2.1-1).toNat) (by omega) hh.mok (by rw [hh.id,m2]) (tF hh.told) hh.tlen
theorem V3.deliver {g:AT} {k:Nat} (h:V3 g) (hg:JN g k) {j:Nat} (hj:j<g.2.2.1.length) {at_:Int} (ha:0<=at_):V3 (HT g j at_):=by
 have hmem:g.2.2.1.getD j Cr∈g.2.2.1:=by rw [AR hj]; exact List.getElem_mem _
 have hto:=(hg.fly _ hmem).to
 have hx:=h.fly _ hmem
 unfold HT
 generalize g.2.2.1.getD j Cr=x at *
 obtain ⟨m1,m2⟩:=hg.mem (x.2.2.1-1).toNat (by omega)
 exact (h.less j).member (g:=Ec g j) hg.six (i:=(x.2.2.1-1).toNat) ha (by omega) (by rw [(N4 (x:=x) m1 hg.views).id,m2]) (vW hg.views m1 (h.mem _ (by omega)) hx)
theorem qZ {g:AT} {j:Nat} {at_:Int}:(HT g j at_).1=g.1/\(HT g j at_).2.2.2.length=g.2.2.2.length:=by
 unfold HT BF
 exact ⟨rfl,U4 _ _ _⟩
theorem rg:∀ (n:Nat) (g:AT) (k:Nat),JN g k->V3 g->ET g 70->JN (ZH n g) (k+n)/\V3 (ZH n g)/\ET (ZH n g) 70/\(ZH n g).1=g.1/\(ZH n g).2.2.2.length=g.2.2.2.length
 | 0,g,k,hg,h3,hp=>⟨hg,h3,hp,rfl,rfl⟩
 | n+1,g,k,hg,h3,hp=>by
  unfold ZH
  split
  ·rename_i hl
   obtain ⟨q1,q2,q3,q4,q5⟩:=rg n _ (k+1) (hg.deliver hl 70) (h3.deliver hg hl (by decide)) (hp.deliver hg h3 (by decide) hl)
   obtain ⟨d1,d2⟩:=qZ (g:=g) (j:=0) (at_:=70)
   exact ⟨by rw [show k+(n+1)=k+1+n by omega]; exact q1,q2,q3,q4.trans d1,q5.trans d2⟩
  ·refine ⟨⟨hg.views,hg.six,hg.mem,hg.fly,?_,?_⟩,h3,hp,rfl,rfl⟩
   ·have:=hg.flen; omega
   ·have:=hg.clen; omega
theorem oL (g:AT) (k:Nat) (hg:JN g k) (hk:k<=100) (h3:V3 g) (n:Nat) (hn:n<=1000):YK g (n:Int)=some (ZH n g):=rO (by
 unfold iR
 rw [GS g k hg (by omega),X,UE g k hg (by omega),X,if_neg (by simp),show min (n:Int) 1000=(n:Int) by omega]
 have key:∀ (n:Nat) (h:AT) (j:Nat),n<=1000->j+n<=1100->JN h j->V3 h->Lq (n:Int) g [] [] [] [] h.2.1 h.2.2.1 h.2.2.2 h.1=some (ZH n h):=by
  intro n
  induction n with
  | zero =>
   intro h j hn hj hg h3
   refine YN ?_
   unfold QH
   rw [if_neg (by simp)]
   change ((Cb h).bind _)=_
   rw [GS h j hg (by omega),X]
   rfl
  | succ n ih =>
   intro h j hn hj hg h3
   refine YN ?_
   unfold QH ZH
   rw [if_pos (decide_eq_true (by omega))]
   by_cases hl:0<h.2.2.1.length
   ·rw [if_pos (by simpa using hl),if_pos hl]
    change ((D4 ((0:Nat):Int) 70 h).bind _)=_
    rw [Km 70 0 h j hg (by omega) h3 hl,X,AZ (by omega),show ((n+1:Nat):Int)-1=(n:Int) by omega]
    exact ih _ (j+1) (by omega) (by omega) (hg.deliver hl 70) (h3.deliver hg hl (by decide))
   ·rw [if_neg (by simpa using hl),if_neg hl]
    change ((Cb h).bind _)=_
    rw [GS h j hg (by omega),X]
 exact key n g k hn (by omega) hg h3)

abbrev tP:Type:=Int×ByteArray×ByteArray×Int×Int×Int×Int×Int×ByteArray
theorem I3 x:GH x=some (decide (0<=x.2.2.2.2.1)):=n9 rfl

theorem bh (x:List Int) (hx:x.length<=1048576):∃ v es,OA x=some (v,es)/\Qg v/\es.length<=69/\∀ e∈es,MS e=true:=by
 obtain ⟨d,e0,k0⟩:=g7 x (by unfold maxLen; omega)
 obtain ⟨v,es,d1,e1,k1,hv,hl,he⟩:=eR x d hx k0
 refine ⟨v,es,i8 ?_,hv,hl,he⟩
 unfold WK
 rw [e0,X,e1,X]

theorem nV {g:AT} {n:Nat} {now:Int} {vr:Nat->Int} (hg:JN g n) (ha:nX (vw g.1) (g.1.length:Int) (pg g) vr now):(∀ k l,vr k≠0->vr k=vr l->k=l)/\(∀ k (hk:k<g.2.2.2.length),0<=(g.2.2.2[k]).2.2.2.2.1->vr k=Kk g.2.2.2[k]/\vr k≠0/\Kk g.2.2.2[k]=1000*(g.2.2.2[k]).2.2.2.2.2.2.1+(g.2.2.2[k]).2.2.2.2.2.2.2.1/\(g.2.2.2[k]).2.2.2.1<=(g.2.2.2[k]).2.2.2.2.1/\1<=(g.2.2.2[k]).2.2.2.2.2.2.1/\(g.2.2.2[k]).2.2.2.2.2.2.1<=9/\1<=(g.2.2.2[k]).2.2.2.2.2.2.2.1/\(g.2.2.2[k]).2.2.2.2.2.2.2.1<=900) /\
  (∀ k l (hk:k<g.2.2.2.length) (hl:l<g.2.2.2.length),0<=(g.2.2.2[k]).2.2.2.2.1->0<=(g.2.2.2[l]).2.2.2.2.1->(g.2.2.2[k]).2.2.2.2.1<(g.2.2.2[l]).2.2.2.1->vr k<vr l):=by
 have hget:∀ k (hk:k<g.2.2.2.length),(pg g).calls[k]? = some (pc g.2.2.2[k]):=fun k hk=>by
  show (g.2.2.2.map pc)[k]? = _
  rw [List.getElem?_map,List.getElem?_eq_getElem hk]; rfl
 have hep:∀ i,((pg g).mem i).ep<=9:=fun i=>by
  by_cases hi:1<=i/\i<=6
  ·rw [Se hi]; exact (hg.mem (i-1).toNat (by omega)).1.ep.2
  ·rw [show (pg g).mem i=hP from if_neg hi]; decide
 refine ⟨ha.t.inj,fun k hk hd=>?_,fun k l hk hl h1 h2 h3=>ha.t.or k l _ _ (hget k hk) (hget l hl) h1 h2 h3⟩
 obtain ⟨d1,d2,d3,d4,d5,d6,d7⟩:=ha.t.dn k _ (hget k hk) hd
 generalize g.2.2.2[k]=c at *
 change vr k=1000*c.2.2.2.2.2.2.1+c.2.2.2.2.2.2.2.1 at d1
 change 1<=c.2.2.2.2.2.2.1 at d2
 change 1<=c.2.2.2.2.2.2.2.1 at d3
 change c.2.2.2.2.2.2.2.1<=900 at d4
 change c.2.2.2.1<=c.2.2.2.2.1 at d7
 obtain ⟨e,n,x1,x2,x3,x4,x5,x6⟩:=ha.t.st k (by omega)
 have:=hep (CV (vw g.1) e)
 have hee:e=c.2.2.2.2.2.2.1:=by omega
 have hst:Kk c=1000*c.2.2.2.2.2.2.1+c.2.2.2.2.2.2.2.1:=by
  unfold Kk
  rw [if_pos (by simp only [Bool.and_eq_true,decide_eq_true_eq]; omega),AZ (show -9223372036854775808<=1000*c.2.2.2.2.2.2.1/\1000*c.2.2.2.2.2.2.1<=9223372036854775807 by omega),AZ (by omega)]
 exact ⟨by rw [hst]; exact d1,by omega,hst,d7,d2,by omega,d3,d4⟩

def UF (g x:tP):Bool:=(x.1==1)&&(x.2.1.toList==g.2.1.toList)&&(x.2.2.1.toList==g.2.2.2.2.2.2.2.2.toList)&&(decide (x.2.2.2.2.1<0)||(x.2.2.2.2.2.1==g.2.2.2.2.2.1))
theorem en x g:P8 x g=some (UF g x):=mg (by
 unfold Ym UF
 simp only [I3,X]
 by_cases a:x.1=1<;>by_cases b:x.2.1.toList=g.2.1.toList<;>by_cases c:x.2.2.1.toList=g.2.2.2.2.2.2.2.2.toList<;>by_cases d:0<=x.2.2.2.2.1<;>simp [a,b,c,d]<;>omega)
theorem hX g x:SS g x=some (UF g x):=n_ (by
 unfold aD UF
 by_cases a:x.1=1<;>by_cases b:x.2.1.toList=g.2.1.toList<;>by_cases c:x.2.2.1.toList=g.2.2.2.2.2.2.2.2.toList<;>by_cases d:x.2.2.2.2.1<0<;>simp [a,b,c,d])
theorem j6 (x:List tP) (g) (h:x.length<=maxLen):Uk x g=some (x.any (UF g)):=qG (by
 have hm:x.length<=9223372036854775807:=h
 have:∃ r,Aw x g (x.length:Int) ((0:Nat):Int)=some r/\decide (r>=0)=(x.drop 0).any (UF g) :=
  GJ (n:=x.length) (P:=fun i=>∃ r,Aw x g (x.length:Int) (i:Int)=some r/\decide (r>=0)=(x.drop i).any (UF g))
   ⟨-1,CF (by
    unfold BR
    rw [if_neg (by simp)]),by simp⟩
   (fun i hi ⟨r,hr,hd⟩=>by
    have e:=en x[i] g
    cases q:UF g x[i] with
    | true =>
     refine ⟨i,CF ?_,by rw [BZ hi,List.any_cons,q,Bool.true_or]; simp⟩
     unfold BR
     simp only [show ((i:Int)<(x.length:Int)) from by omega,decide_true,if_true,show (0:Int)<=(i:Int) from by omega,Int.toNat_natCast,AR hi,e,q,X]
    | false =>
     refine ⟨r,CF ?_,by rw [hd,BZ hi,List.any_cons,q,Bool.false_or]⟩
     unfold BR
     simp only [show ((i:Int)<(x.length:Int)) from by omega,decide_true,if_true,show (0:Int)<=(i:Int) from by omega,Int.toNat_natCast,AR hi,e,q,X,AO (show i<9223372036854775807 by omega),hr]
     simp) 0 (by omega)
 obtain ⟨r,hr,hd⟩:=this
 unfold dN
 have e1:CQ x g=some r:=IW (by unfold D7; exact hr)
 have e2:CE x g=some (decide (r>=0)):=HO (by
  unfold DW
  rw [e1]
  rfl)
 rw [e2,hd]
 rfl)
def Hl (x:List tP) (g:tP):Bool :=
 if g.1=2 then
  if 0<=g.2.2.2.2.1 then
   if g.2.2.2.2.2.1=0 then g.2.2.2.2.2.2.2.2.toList==(⟨#[]⟩:ByteArray).toList
   else x.any (UF g)&&!decide (g.2.2.2.2.2.1>Kk g)
  else true
 else true
theorem j7 (x) (h:x.length<=maxLen):Ug x=some (x.all (Hl x)):=qB (by
 have hm:x.length<=9223372036854775807:=h
 unfold dB
 have:=GJ (n:=x.length) (P:=fun i=>EM x (i:Int)=some ((x.drop i).all (Hl x))) (WU (by
  unfold OO
  rw [if_neg (by simp)]
  simp)) (fun i hi ih=>WU (by
  unfold OO
  simp only [show ((i:Int)<(x.length:Int)) from by omega,decide_true,if_true,show (0:Int)<=(i:Int) from by omega,Int.toNat_natCast,AR hi,AO (show i<9223372036854775807 by omega),ih]
  rw [BZ hi,List.all_cons]
  generalize hq:(x.drop (i+1)).all (Hl x)=q at *
  by_cases a:x[i].1=2
  ·by_cases b:x[i].2.2.2.2.1<0
   ·have:¬ 0<=x[i].2.2.2.2.1:=by omega
    simp [Hl,a,b,this]
   ·have b':0<=x[i].2.2.2.2.1:=by omega
    have J3:∀ f,OL x (i:Int) f x[i]=some ((f&&!decide (x[i].2.2.2.2.2.1>Kk x[i]))&&q):=fun f=>jC (by
     unfold WR
     simp only [XB,X,AO (show i<9223372036854775807 by omega),ih]
     cases f<;>by_cases c:x[i].2.2.2.2.2.1>Kk x[i]<;>simp [c])
    have L2:∀ f,Fh x (i:Int) f ((0:Nat):Int) x[i]=some (((f||(x.drop 0).any (UF x[i]))&&!decide (x[i].2.2.2.2.2.1>Kk x[i]))&&q) :=
     GJ (n:=x.length) (P:=fun j=>∀ f,Fh x (i:Int) f (j:Int) x[i]=some (((f||(x.drop j).any (UF x[i]))&&!decide (x[i].2.2.2.2.2.1>Kk x[i]))&&q)) (fun f=>WT (by
      unfold ON
      rw [if_neg (by simp),J3]
      simp)) (fun j hj ihj f=>WT (by
      unfold ON
      simp only [show ((j:Int)<(x.length:Int)) from by omega,decide_true,if_true,show (0:Int)<=(j:Int) from by omega,Int.toNat_natCast,AR hj,AO (show j<9223372036854775807 by omega),ihj,hX,X]
      rw [BZ hj,List.any_cons]
      cases f<;>simp)) 0 (by omega)
    have J1:∀ d,OM x (i:Int) d x[i]=some (Hl x x[i]&&q):=fun d=>jD (by
     unfold WS
     have l2:=L2 false
     simp only [Int.ofNat_zero,Int.natCast_zero] at l2
     simp only [AO (show i<9223372036854775807 by omega),ih,l2]
     by_cases c:x[i].2.2.2.2.2.1=0
     ·cases d:x[i].2.2.2.2.2.2.2.2.toList<;>simp [Hl,a,b',c,d]
     ·simp [Hl,a,b',c])
    simp [a,b,J1]
  ·simp [Hl,a])) 0 (by omega)
 simpa using this)
theorem j8 (x) (h:x.length<=maxLen):Uf x=some (x.all (Hl x)):=qA (by
 have hm:x.length<=9223372036854775807:=h
 unfold dA
 have:=GJ (n:=x.length) (P:=fun i=>EL x x (x.length:Int) (i:Int)=some ((x.drop i).all (Hl x))) (WP (by
  unfold OK
  rw [if_neg (by simp)]
  simp)) (fun i hi ih=>WP (by
  unfold OK
  simp only [show ((i:Int)<(x.length:Int)) from by omega,decide_true,if_true,show (0:Int)<=(i:Int) from by omega,Int.toNat_natCast,AR hi,AO (show i<9223372036854775807 by omega),ih,I3,X]
  rw [BZ hi,List.all_cons]
  generalize hq:(x.drop (i+1)).all (Hl x)=q at *
  have J1:∀ d,x[i].1=2->0<=x[i].2.2.2.2.1->OJ x x (x.length:Int) (i:Int) d x[i]=some (Hl x x[i]&&q):=fun d a b'=>jA (by
   unfold WO
   simp only [AO (show i<9223372036854775807 by omega),ih,j6 x _ h,XC,X]
   by_cases c:x[i].2.2.2.2.2.1=0
   ·cases d:x[i].2.2.2.2.2.2.2.2.toList<;>simp [Hl,a,b',c,d]
   ·cases e:x.any (UF x[i])<;>by_cases d:x[i].2.2.2.2.2.1>Kk x[i]<;>simp [Hl,a,b',c,d,e])
  by_cases a:x[i].1=2
  ·by_cases b:0<=x[i].2.2.2.2.1
   ·have:=J1 (!decide (0<=x[i].2.2.2.2.1)) a b
    simp [b] at this
    simp [a,b,this]
   ·simp [Hl,a,b]
  ·simp [Hl,a])) 0 (by omega)
 simpa using this)

def nW (a b:Kl):Bool:=decide (a.1=2)&&decide (0<=a.2.2.2.2.1)&&decide (0<=b.2.2.2.2.1)&&(b.2.1.toList==a.2.1.toList)&&decide (Kk b<Kk a)&&decide (a.2.2.2.2.2.1<b.2.2.2.2.2.1)
theorem hY {g:AT} {n:Nat} {now:Int} {vr:Nat->Int} (hg:JN g n) (ha:nX (vw g.1) (g.1.length:Int) (pg g) vr now) :
  (∀ k l (hk:k<g.2.2.2.length) (hl:l<g.2.2.2.length),(g.2.2.2[k]).1=2->0<=(g.2.2.2[k]).2.2.2.2.1->0<=(g.2.2.2[l]).2.2.2.2.1->(g.2.2.2[k]).2.1.toList=(g.2.2.2[l]).2.1.toList->vr l<vr k->(g.2.2.2[l]).2.2.2.2.2.1<=(g.2.2.2[k]).2.2.2.2.2.1) /\
  (∀ k (hk:k<g.2.2.2.length),0<=(g.2.2.2[k]).2.2.2.2.1->(g.2.2.2[k]).2.2.2.2.2.1<=vr k/\((g.2.2.2[k]).1=1->(g.2.2.2[k]).2.2.2.2.2.1=vr k)) /\
  (∀ k (hk:k<g.2.2.2.length),(g.2.2.2[k]).1=2->0<=(g.2.2.2[k]).2.2.2.2.1->((g.2.2.2[k]).2.2.2.2.2.1=0/\(g.2.2.2[k]).2.2.2.2.2.2.2.2=ByteArray.empty)\/∃ l,∃ hl:l<g.2.2.2.length,(g.2.2.2[l]).1=1/\(g.2.2.2[l]).2.1.toList=(g.2.2.2[k]).2.1.toList/\(g.2.2.2[l]).2.2.1=(g.2.2.2[k]).2.2.2.2.2.2.2.2/\vr l=(g.2.2.2[k]).2.2.2.2.2.1/\1<=vr l):=by
 have hget:∀ k (hk:k<g.2.2.2.length),(pg g).calls[k]? = some (pc g.2.2.2[k]):=fun k hk=>by
  show (g.2.2.2.map pc)[k]? = _
  rw [List.getElem?_map,List.getElem?_eq_getElem hk]; rfl
 refine ⟨fun k l hk hl h1 h2 h3 h4 h5=>ha.f.fr k l _ _ (hget k hk) (hget l hl) h2 h3 h1 h4 h5,fun k hk hd=>ha.f.vs k _ (hget k hk) hd,fun k hk h1 hd=>?_⟩
 rcases ha.f.gt k _ (hget k hk) hd h1 with q | ⟨y,⟨l,c,c1,c2,c3,c4,c5,c6⟩,y1,y2,y3⟩
 ·exact .inl q
 ·obtain ⟨hl,e⟩:=vm c1
  rw [AR hl] at e
  subst e
  refine .inr ⟨l,hl,c2,?_,?_,c5.trans y2.symm,by omega⟩
  ·have h1:(g.2.2.2[l]).2.1=y.1:=c3
   rw [h1]; exact y1
  ·exact c4.trans y3.symm
theorem sY {g:AT} {n:Nat} {now:Int} (hg:JN g n) (h:ET g now):g.2.2.2.all (Hl g.2.2.2)=true:=by
 obtain ⟨vr,ha⟩:=h
 obtain ⟨inj,dn,od⟩:=nV hg ha
 obtain ⟨fr,vs,gt⟩:=hY hg ha
 rw [List.all_eq_true]
 intro c hc
 obtain ⟨k,hk,rfl⟩:=List.getElem_of_mem hc
 unfold Hl
 split
 ·rename_i h1
  split
  ·rename_i hd
   rcases gt k hk h1 hd with ⟨q1,q2⟩ | ⟨l,hl,l1,l2,l3,l4,l5⟩
   ·rw [if_pos q1,q2]
    show (ByteArray.empty.toList==ByteArray.empty.toList)=true
    exact beq_self_eq_true _
   ·rw [if_neg (by omega)]
    obtain ⟨a1,a2,_⟩:=dn k hk hd
    have b1:=(vs k hk hd).1
    rw [Bool.and_eq_true]
    refine ⟨List.any_eq_true.2 ⟨g.2.2.2[l],List.getElem_mem hl,?_⟩,?_⟩
    ·unfold UF
     rw [l1,l2,l3]
     simp only [beq_self_eq_true,Bool.true_and,Bool.or_eq_true,decide_eq_true_eq,beq_iff_eq]
     by_cases hdl:0<=(g.2.2.2[l]).2.2.2.2.1
     ·right
      rw [(vs l hl hdl).2 l1,l4]
     ·left; omega
    ·rw [decide_eq_false (by omega)]; rfl
  ·rfl
 ·rfl
theorem rh {g:AT} {n:Nat} {now:Int} (hg:JN g n) (h:ET g now):∀ k l (hk:k<g.2.2.2.length) (hl:l<g.2.2.2.length),nW g.2.2.2[k] g.2.2.2[l]=false:=by
 obtain ⟨vr,ha⟩:=h
 obtain ⟨inj,dn,od⟩:=nV hg ha
 obtain ⟨fr,vs,gt⟩:=hY hg ha
 intro k l hk hl
 cases q:nW g.2.2.2[k] g.2.2.2[l] with
 | false=>rfl
 | true =>
  unfold nW at q
  simp only [Bool.and_eq_true,decide_eq_true_eq,beq_iff_eq] at q
  obtain ⟨⟨⟨⟨⟨q1,q2⟩,q3⟩,q4⟩,q5⟩,q6⟩:=q
  have:=fr k l hk hl q1 q2 q3 q4.symm (by rw [(dn k hk q2).1,(dn l hl q3).1]; exact q5)
  omega
theorem j9 (x:List Kl) (h:x.length<=maxLen) (hf:∀ k l (hk:k<x.length) (hl:l<x.length),nW x[k] x[l]=false):Ui x=some true:=qD (by
 have hm:x.length<=9223372036854775807:=h
 unfold dD
 exact GJ (n:=x.length) (P:=fun i=>Jn x (i:Int)=some true) (Wc (by
  unfold OS
  rw [if_neg (by simp)])) (fun i hi ih=>Wc (by
  unfold OS
  rw [if_pos (by simpa using hi)]
  exact GJ (n:=x.length) (P:=fun j=>Ct x (i:Int) (j:Int)=some true) (Wb (by
   unfold OR
   rw [if_neg (by simp),AO (show i<9223372036854775807 by omega)]
   exact ih)) (fun j hj ihj=>Wb (by
   unfold OR
   have hz:∀ k (hk:k<x.length),x.getD k ((0:Int),ByteArray.empty,ByteArray.empty,(0:Int),(0:Int),(0:Int),(0:Int),(0:Int),ByteArray.empty)=x[k]:=fun k hk=>AR hk
   have he:=hf i j hi hj
   simp only [show ((j:Int)<(x.length:Int)) from by omega,show ((i:Int)<(x.length:Int)) from by omega,decide_true,if_true,show (0:Int)<=(i:Int) from by omega,show (0:Int)<=(j:Int) from by omega,Int.toNat_natCast,hz i hi,hz j hj,AO (show j<9223372036854775807 by omega),XB,X,ihj]
   unfold nW at he
   generalize x[i]=a at *
   generalize x[j]=b at *
   by_cases c1:a.1=2<;>by_cases c2:0<=a.2.2.2.2.1<;>by_cases c3:0<=b.2.2.2.2.1<;>by_cases c4:b.2.1.toList=a.2.1.toList<;>by_cases c5:Kk b<Kk a<;>by_cases c6:a.2.2.2.2.2.1<b.2.2.2.2.2.1<;>simp [c1,c2,c3,c4,c5,c6] at he ⊢)) 0 (by omega))) 0 (by omega))
theorem j_ (x:List Kl) (h:x.length<=maxLen) (hf:∀ k l (hk:k<x.length) (hl:l<x.length),nW x[k] x[l]=false):Uh x=some true:=qC (by
 have hm:x.length<=9223372036854775807:=h
 unfold dC
 exact GJ (n:=x.length) (P:=fun i=>Fi x x (x.length:Int) (i:Int)=some true) (WZ (by
  unfold OQ
  rw [if_neg (by simp)])) (fun i hi ih=>WZ (by
  unfold OQ
  have hz:∀ k (hk:k<x.length),x.getD k ((0:Int),ByteArray.empty,ByteArray.empty,(0:Int),(0:Int),(0:Int),(0:Int),(0:Int),ByteArray.empty)=x[k]:=fun k hk=>AR hk
  simp only [show ((i:Int)<(x.length:Int)) from by omega,decide_true,if_true,show (0:Int)<=(i:Int) from by omega,Int.toNat_natCast,hz i hi,AO (show i<9223372036854775807 by omega),I3,X,ih]
  by_cases c1:x[i].1=2
  case neg=>rw [if_neg (by simpa using c1)]
  by_cases c2:0<=x[i].2.2.2.2.1
  case neg=>rw [if_pos (by simpa using c1),if_pos (by simp; omega)]
  rw [if_pos (by simpa using c1),if_neg (by simp; omega)]
  exact GJ (n:=x.length) (P:=fun j=>HN x x (x.length:Int) (i:Int) x (x.length:Int) (j:Int) x[i]=some true) (WY (by
   unfold OP
   rw [if_neg (by simp),AO (show i<9223372036854775807 by omega)]
   exact ih)) (fun j hj ihj=>WY (by
   have he:=hf i j hi hj
   have w2:∀ b,(b=true->x[i].2.2.2.2.2.1<x[j].2.2.2.2.2.1->False)->CU x b x (x.length:Int) (i:Int) x (x.length:Int) (j:Int) x[i] x[j]=some true:=fun b hb=>jF (by
    unfold WX
    rw [AO (show j<9223372036854775807 by omega),ihj]
    cases b with
    | false=>rfl
    | true=>rw [if_pos rfl,if_neg (by simpa using hb rfl)])
   unfold OP
   simp only [show ((j:Int)<(x.length:Int)) from by omega,decide_true,if_true,show (0:Int)<=(j:Int) from by omega,Int.toNat_natCast,hz j hj,I3,XC,X]
   unfold nW at he
   have wf:=w2 false (fun h=>by cases h)
   have wt:x[j].2.1.toList=x[i].2.1.toList->0<=x[j].2.2.2.2.1->CU x (decide (Kk x[j]<Kk x[i])) x (x.length:Int) (i:Int) x (x.length:Int) (j:Int) x[i] x[j]=some true:=fun c4 c3=>w2 _ (fun h5 h6=>by
    simp [c1,c2,c3,c4,of_decide_eq_true h5,h6] at he)
   generalize x[i]=a at *
   generalize x[j]=b at *
   by_cases d1:b.1=1<;>by_cases d2:b.1=2<;>by_cases c4:b.2.1.toList=a.2.1.toList<;>by_cases c3:0<=b.2.2.2.2.1<;>simp [d1,d2,c3,c4,wf,wt])) 0 (by omega))) 0 (by omega))
theorem rk (x) (hx:Kd.ok (.slice (.int .u8)) x):YJ x=some true:=l_ (by
 unfold YM
 rw [oI,X]
 by_cases hbig:x.length<=1048576
 case neg=>rw [if_pos (by simp; omega)]
 rw [if_neg (by simp; omega)]
 obtain ⟨v,es,e,hv,hl,he⟩:=bh x hbig
 rw [e,X]
 dsimp only
 rw [eY hv (by omega) he,X]
 obtain ⟨r1,r2,r3⟩:=qS es 0 (Av v) [] (UA hv) (by omega) he
 have h3:=V3.run es 0 (Av v) [] (UA hv) (V3.new hv) (by omega) he
 have hp:=ET.run es 0 (Av v) [] (UA hv) (V3.new hv) (ET.new hv) (by omega) he
 generalize (Sc 0 es (Av v) []).1=g at *
 generalize (Sc 0 es (Av v) []).2=cs at *
 have hgv:g.1=v:=r2
 rw [if_pos (by rfl),if_neg (by rw [hgv]; simp)]
 refine cr ?_
 unfold Ri
 have hR:=oL g _ r1 (by omega) h3 1000 (by omega)
 rw [show ((1000:Nat):Int)=1000 from rfl] at hR
 rw [hR,X]
 obtain ⟨q1,q2,q3,q4,q5⟩:=rg 1000 g _ r1 h3 hp
 generalize ZH 1000 g=r at *
 have hc:=q1.clen
 have hread:=sY q1 q3
 have hfr:=rh q1 q3
 obtain ⟨vr,ha⟩:=q3
 obtain ⟨inj,dn,od⟩:=nV q1 ha
 obtain ⟨fr,vs,gt⟩:=hY q1 ha
 have hz:∀ i (hi:i<r.2.2.2.length),r.2.2.2.getD i ((0:Int),ByteArray.empty,ByteArray.empty,(0:Int),(0:Int),(0:Int),(0:Int),(0:Int),ByteArray.empty)=r.2.2.2[i]:=fun i hi=>AR hi
 exact GJ (n:=r.2.2.2.length) (P:=fun i=>Hs (i:Int) g r=some true) (Rk (by
  unfold Lo
  rw [if_neg (by simp)]
  refine cq ?_
  unfold Rh
  rw [j8 _ (by unfold maxLen; omega),hread,X,if_pos rfl,j7 _ (by unfold maxLen; omega),hread,X,if_pos rfl,j_ _ (by unfold maxLen; omega) hfr,X,if_pos rfl,j9 _ (by unfold maxLen; omega) hfr,X,if_pos rfl,q5]
  simp)) (fun i hi ih=>Rk (by
  unfold Lo
  simp only [show ((i:Int)<(r.2.2.2.length:Int)) from by omega,decide_true,if_true,show (0:Int)<=(i:Int) from by omega,Int.toNat_natCast,hz i hi]
  exact GJ (n:=r.2.2.2.length) (P:=fun j=>Bi (i:Int) (j:Int) g r r.2.2.2[i]=some true) (Rj (by
   unfold Ln
   rw [if_neg (by simp),AO (show i<9223372036854775807 by omega)]
   exact ih)) (fun j hj ihj=>Rj (by
   unfold Ln
   simp only [show ((j:Int)<(r.2.2.2.length:Int)) from by omega,decide_true,if_true,show (0:Int)<=(j:Int) from by omega,Int.toNat_natCast,hz j hj,AO (show j<9223372036854775807 by omega),ihj]
   by_cases c1:r.2.2.2[i].1=2
   case neg=>rw [if_neg (by simpa using c1)]
   by_cases c2:0<=r.2.2.2[i].2.2.2.2.1
   case neg=>rw [if_pos (by simpa using c1),if_neg (by simpa using c2)]
   by_cases c3:r.2.2.2[j].1=1
   case neg=>rw [if_pos (by simpa using c1),if_pos (by simpa using c2),if_neg (by simpa using c3)]
   by_cases c4:0<=r.2.2.2[j].2.2.2.2.1
   case neg=>rw [if_pos (by simpa using c1),if_pos (by simpa using c2),if_pos (by simpa using c3),if_neg (by simpa using c4)]
   by_cases c5:r.2.2.2[j].2.1.toList=r.2.2.2[i].2.1.toList
   case neg=>rw [if_pos (by simpa using c1),if_pos (by simpa using c2),if_pos (by simpa using c3),if_pos (by simpa using c4),if_neg (by simpa using c5)]
   by_cases c6:r.2.2.2[j].2.2.2.2.1<r.2.2.2[i].2.2.2.1
   case neg=>rw [if_pos (by simpa using c1),if_pos (by simpa using c2),if_pos (by simpa using c3),if_pos (by simpa using c4),if_pos (by simpa using c5),if_neg (by simpa using c6)]
   have hlt:=od j i hj hi c4 c2 c6
   have hle:=fr i j hi hj c1 c2 c4 c5.symm hlt
   rw [if_pos (by simpa using c1),if_pos (by simpa using c2),if_pos (by simpa using c3),if_pos (by simpa using c4),if_pos (by simpa using c5),if_pos (by simpa using c6),if_pos (by simp; omega)]
   by_cases c7:r.2.2.2[i].2.2.2.2.2.1=r.2.2.2[j].2.2.2.2.2.1
   case neg=>rw [if_neg (by simpa using c7)]
   have hv1:=(vs j hj c4).2 c3
   obtain ⟨b1,b2,_⟩:=dn j hj c4
   rcases gt i hi c1 c2 with ⟨g1,g2⟩ | ⟨l,hl,l1,l2,l3,l4,l5⟩
   ·exact absurd (by omega:vr j=0) b2
   ·have hlj:l=j:=inj l j (by omega) (by omega)
    subst hlj
    rw [if_pos (by simpa using c7),l3,if_neg (by simp)])) 0 (by omega))) 0 (by omega))

theorem vo {P:Program} {c:List Char} {rest:List (List Char)} (h:behindMainWord (wordsSigns P.initOrder.toList)=c::rest) (h1:(c == "gc".toList||c == "spec".toList)=false) (h2:(c == "cut".toList||(c == "finals".toList&&rest.head? == some "cut".toList))=true):P.make=some .cut:=by
 unfold Program.make
 rw [h]
 simp only [h1,h2]
 rfl
theorem vp {P:Program} {c:List Char} {rest:List (List Char)} (h:behindMainWord (wordsSigns P.initOrder.toList)=c::rest) (h1:((stripLifts liftWords (c::rest)).2.head? == some "cut".toList)=true) (h2:(stripLifts liftWords (c::rest)).1=[])
  (h3:P.laysLater=false) (h4:P.bearsReflect=false) (h5:P.doorFits []=true):P.mayEnter=true:=by
 unfold Program.mayEnter
 rw [h]
 simp only [h1,h2,h3,h4,h5]
 simp
theorem vq {P:Program} {c:List Char} {rest:List (List Char)} (h:behindMainWord (wordsSigns P.initOrder.toList)=c::rest) (h1:(c == "carried".toList)=false) (h2:(stripLifts liftWords (c::rest)).1=[]):P.liftsFinal=false:=by
 have e:(some c==some "carried".toList)=false:=h1
 unfold Program.liftsFinal Program.headLifts
 rw [h]
 simp only [List.head?_cons,e,h2]
 simp
theorem KL {a b:Bool} (h:a=true) (g:b=true):(a&&b)=true:=by rw [h,g]; rfl
theorem vt {α:Type} [BEq α] [LawfulBEq α] {a b:α} (h:a=b):(a==b)=true:=by rw [h]; exact beq_self_eq_true b
end Go.Proofs.YtokiohnjegbnpaaGreat.Core

namespace Go.Proofs.YtokiohnjegbnpaaGreat.Core
open Go
set_option maxRecDepth 100000
def zF:List Nat:=[104,97,114,110,101,115,115,32,98,98,51,100,57,98,49,97,49,56,51,53,54,102,49,99,51,99,54,98,98,50,49,49,55,50,51,56,50,55,50,49,99,101,56,52,49,52,101,99,102,54,52,100,50,98,98,99,49,98,54,51,57,56,97,56,102,48,98,52,52,100,57,57,32,99,117,116,32,97,116,32,108,111,111,112,46,101,120,97,109,112,108,101,47,103,48,48,49,56,48,47,108,97,119,115,46,70,110,79,110,101,83,101,114,118,101,115,32,108,111,111,112,46,101,120,97,109,112,108,101,47,103,48,48,49,56,48,47,108,97,119,115,46,70,110,73,110,84,105,109,101,32,108,111,111,112,46,101,120,97,109,112,108,101,47,103,48,48,49,56,48,47,108,97,119,115,46,70,110,82,101,97,100,115,32,108,111,111,112,46,101,120,97,109,112,108,101,47,103,48,48,49,56,48,47,108,97,119,115,46,70,110,84,111,112,32,108,111,111,112,46,101,120,97,109,112,108,101,47,103,48,48,49,56,48,47,108,97,119,115,46,70,110,87,97,116,99,104,101,115,32,108,111,111,112,46,101,120,97,109,112,108,101,47,103,48,48,49,56,48,47,108,97,119,115,46,70,110,81,117,105,101,116,71,114,111,117,112]
def zG:List Nat:=[99,117,116]
def zH:List (List Nat):=[[97,116],[108,111,111,112,46,101,120,97,109,112,108,101,47,103,48,48,49,56,48,47,108,97,119,115,46,70,110,79,110,101,83,101,114,118,101,115],[108,111,111,112,46,101,120,97,109,112,108,101,47,103,48,48,49,56,48,47,108,97,119,115,46,70,110,73,110,84,105,109,101],[108,111,111,112,46,101,120,97,109,112,108,101,47,103,48,48,49,56,48,47,108,97,119,115,46,70,110,82,101,97,100,115],[108,111,111,112,46,101,120,97,109,112,108,101,47,103,48,48,49,56,48,47,108,97,119,115,46,70,110,84,111,112],[108,111,111,112,46,101,120,97,109,112,108,101,47,103,48,48,49,56,48,47,108,97,119,115,46,70,110,87,97,116,99,104,101,115],[108,111,111,112,46,101,120,97,109,112,108,101,47,103,48,48,49,56,48,47,108,97,119,115,46,70,110,81,117,105,101,116,71,114,111,117,112]]
theorem io:Tryz.prog.initOrder.toList=zF.map Char.ofNat:=(congrArg String.toList (show Tryz.prog.initOrder=String.ofList (zF.map Char.ofNat) from by kernel_rfl)).trans String.toList_ofList
theorem zC:behindMainWord (wordsSigns Tryz.prog.initOrder.toList)=zG.map Char.ofNat::zH.map fun w=>w.map Char.ofNat:=by
 rw [io]
 kernel_rfl
theorem zD:Tryz.prog.make=some .cut:=vo zC (by kernel_rfl) (by kernel_rfl)
theorem enters:Tryz.prog.mayEnter=true:=vp zC (by kernel_rfl) (by kernel_rfl) (by kernel_rfl) (by kernel_rfl) (by kernel_rfl)
theorem xU:Tryz.prog.liftsFinal=false:=vq zC (by kernel_rfl) (by kernel_rfl)
theorem rl:laidOutB Tryz.prog=true:=by kernel_rfl
theorem sZ:mapsRowed Tryz.prog=true:=by kernel_rfl
theorem yN:Tryz.prog.stopsHeard=true:=by kernel_rfl
end Go.Proofs.YtokiohnjegbnpaaGreat.Core
