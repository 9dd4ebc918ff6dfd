/- Texts of the proof, packed: part 5. -/
import Derived.Test.YtokiohnjegbnpaaGreatP3
import Derived.JoinedOf
import Derived.Test.YtokiohnjegbnpaaGreatRows
import Derived.ProofKit
set_option linter.unusedVariables false
set_option linter.unusedSimpArgs false
namespace Go.Proofs.YtokiohnjegbnpaaGreat.Core
open Go
def JG:AA:=((0:Int),(0:Int),false,false,false,false,([]:List Int),([]:List AL),(0:Int),(0:Int),(0:Int),(0:Int),(ByteArray.empty,ByteArray.empty,(0:Int)),([]:List Int))
def Um (m:AA) (views:List (List Int)) (op call:Int) (key val:ByteArray):Bool :=
 m.2.2.2.2.2.1&&(m.2.2.2.2.2.2.2.2.2.1==0)&&decide (m.2.2.2.2.2.2.2.2.1<900)&&(op==1||op==2)&&(decide (0<=call)&&decide (call<=1000))&&(decide (1<=(key.size:Int))&&decide ((key.size:Int)<=12))&&decide ((val.size:Int)<=20)&&(op==1||pE val)&&decide (m.2.1<=(views.length:Int))&&((views.getD (m.2.1-1).toNat []).getD 0 0==m.1)
def Fv (m:AA) (key val:ByteArray):AL:=(key,val,1000*m.2.1+(m.2.2.2.2.2.2.2.2.1+1))
def F4 (m:AA) (view:List Int) (op call:Int) (key val:ByteArray):AA :=
 (m.1,m.2.1,m.2.2.1,m.2.2.2.1,m.2.2.2.2.1,m.2.2.2.2.2.1,m.2.2.2.2.2.2.1,m.2.2.2.2.2.2.2.1,m.2.2.2.2.2.2.2.2.1+1,op,call,m.2.2.2.2.2.2.2.2.1+1,Fv m key val,DE view m.1)
def mQ (m:AA) (view:List Int) (op:Int) (key val:ByteArray):List BK :=
 (Bu view m.1).map fun v=>(if op=1 then 5 else 7,m.1,v,m.2.1,m.2.2.2.2.2.2.2.2.1+1,if op=1 then [Fv m key val] else [])
def QM (m:AA) (view:List Int) (op call:Int) (key val:ByteArray):AA×List BK×List Cn×Bool :=
 if DE view m.1=[] then ((Bm (F4 m view op call key val)).2,[],(Bm (F4 m view op call key val)).1,true) else (F4 m view op call key val,mQ m view op key val,[],true)
def DG (m:AA) (views:List (List Int)) (op call:Int) (key val:ByteArray):AA×List BK×List Cn×Bool :=
 if Um m views op call key val=true then
  (if op=1/\UA (.pair .str (.pair .str (.int .i64))) (BB (Ai m.2.2.2.2.2.2.2.1 (Fv m key val)) key) (Fv m key val)=false then (JG,[],[],false) else QM m (views.getD (m.2.1-1).toNat []) op call key val)
 else (JG,[],[],false)
theorem jf (m:AA) (views:List (List Int)) (op call:Int) (key val:ByteArray) (hm:Ih m) (hv:QK views):UY m views op call key val=some (DG m views op call key val):=pA (by
 have hvl:=hv.len
 have hep:=hm.ep
 have hl:=hm.lens
 have hcnt:=hm.count
 have wm:IntKind.i64.wrap (m.2.1-1)=m.2.1-1:=Aa (by omega)
 have wc:IntKind.i64.wrap (m.2.2.2.2.2.2.2.2.1+1)=m.2.2.2.2.2.2.2.2.1+1:=Aa (by omega)
 have w1:IntKind.i64.wrap (1000*m.2.1)=1000*m.2.1:=Aa (by omega)
 have w2:IntKind.i64.wrap (1000*m.2.1+(m.2.2.2.2.2.2.2.2.1+1))=1000*m.2.1+(m.2.2.2.2.2.2.2.2.1+1):=Aa (by omega)
 unfold cz
 rw [Jy hm,X,if_neg (by simp),Fu hv,X,if_neg (by simp)]
 have bad:Um m views op call key val=false->DG m views op call key val=(JG,[],[],false):=fun h=>by unfold DG; rw [h]; rfl
 by_cases c1:m.2.2.2.2.2.1=true
 case neg =>
  rw [if_pos (by simpa using c1),bad (by unfold Um; simp [c1])]
  rfl
 rw [if_neg (by simpa using c1)]
 by_cases c2:m.2.2.2.2.2.2.2.2.2.1=0
 case neg =>
  rw [if_pos (by simpa using c2),bad (by unfold Um; simp [c2])]
  rfl
 rw [if_neg (by simpa using c2)]
 by_cases c3:m.2.2.2.2.2.2.2.2.1<900
 case neg =>
  rw [if_pos (by simp; omega),bad (by unfold Um; simp [c3])]
  rfl
 rw [if_neg (by simp; omega)]
 have view:∀ (hep2:m.2.1<=(views.length:Int)),1<=(views.getD (m.2.1-1).toNat []).length/\(views.getD (m.2.1-1).toNat []).length<=4:=fun h=>hv.get (by omega)
 have L2:∀ (v:List Int) (hv:v.length<=4) (y:AA) (its:List AL),op=1->D7 op [] v 0 m y [] (F4 m v op call key val) (Fv m key val) its=some (F4 m v op call key val,mQ m v op key val,[],true):=by
  intro v hv y its ho
  have key':=GY (n:=v.length) (P:=fun i=>∀ acc:List BK,acc.length<=i->D7 op [] v (i:Int) m y acc (F4 m v op call key val) (Fv m key val) its=some (F4 m v op call key val,acc++((v.drop i).filter (· != m.1)).map (fun v=>((5:Int),m.1,v,m.2.1,m.2.2.2.2.2.2.2.2.1+1,[Fv m key val])),[],true)) (fun acc ha=>WF (by
   unfold N5
   rw [if_neg (by simp)]
   simp)) (fun i hi ih acc ha=>WF (by
   unfold N5
   simp only [show ((i:Int)<(v.length:Int)) from by omega,decide_true,if_true,show (0:Int)<=(i:Int) from by omega,Int.toNat_natCast,AU hi,AR (show i<9223372036854775807 by omega),ho,beq_self_eq_true]
   rw [ho] at ih
   rw [BU hi,List.filter_cons]
   by_cases hh:v[i]=m.1
   ·rw [if_pos (by simpa using hh),ih _ (by omega),if_neg (by simpa using hh)]
   ·rw [if_neg (by simpa using hh),if_pos (by simp; omega),ih _ (by simp; omega),if_pos (by simpa using hh),List.map_cons,List.append_assoc]
    rfl)) 0 (by omega) [] (by simp)
  unfold mQ
  rw [if_pos ho,if_pos ho]
  exact key'
 have L4:∀ (v:List Int) (hv:v.length<=4) (y:AA),op≠1->D8 op [] v 0 m y [] (F4 m v op call key val) (Fv m key val)=some (F4 m v op call key val,mQ m v op key val,[],true):=by
  intro v hv y ho
  have key':=GY (n:=v.length) (P:=fun i=>∀ acc:List BK,acc.length<=i->D8 op [] v (i:Int) m y acc (F4 m v op call key val) (Fv m key val)=some (F4 m v op call key val,acc++((v.drop i).filter (· != m.1)).map (fun v=>((7:Int),m.1,v,m.2.1,m.2.2.2.2.2.2.2.2.1+1,([]:List AL))),[],true)) (fun acc ha=>WG (by
   unfold N6
   rw [if_neg (by simp)]
   simp)) (fun i hi ih acc ha=>WG (by
   unfold N6
   have ho':¬ ((op==1)=true):=by simpa using ho
   simp only [show ((i:Int)<(v.length:Int)) from by omega,decide_true,if_true,show (0:Int)<=(i:Int) from by omega,Int.toNat_natCast,AU hi,AR (show i<9223372036854775807 by omega),if_neg ho']
   rw [BU hi,List.filter_cons]
   by_cases hh:v[i]=m.1
   ·rw [if_pos (by simpa using hh),ih _ (by omega),if_neg (by simpa using hh)]
   ·rw [if_neg (by simpa using hh),if_pos (by simp; omega),ih _ (by simp; omega),if_pos (by simpa using hh),List.map_cons,List.append_assoc]
    rfl)) 0 (by omega) [] (by simp)
  unfold mQ
  rw [if_neg ho,if_neg ho]
  exact key'
 have nil_iff:∀ l:List Int,((l.length:Int)==0)=true↔l=[]:=fun l=>by
  rw [beq_iff_eq]
  exact ⟨fun h=>List.length_eq_zero_iff.1 (by omega),fun h=>by rw [h]; rfl⟩
 have J1:∀ (b:Bool) (y:AA) (its:List AL),op=1->m.2.1<=(views.length:Int)->N3 views op call [] b m y [] (m.1,m.2.1,m.2.2.1,m.2.2.2.1,m.2.2.2.2.1,m.2.2.2.2.2.1,m.2.2.2.2.2.2.1,m.2.2.2.2.2.2.2.1,m.2.2.2.2.2.2.2.2.1+1,m.2.2.2.2.2.2.2.2.2) (Fv m key val) its=some (QM m (views.getD (m.2.1-1).toNat []) op call key val):=fun b y its ho he=>jD (by
  have:=view he
  unfold WC QM
  rw [wm,if_pos (by omega),if_pos (by omega),I0 _ _ (by unfold maxLen; omega),X]
  by_cases hz:DE (views.getD (m.2.1-1).toNat []) m.1=[]
  ·rw [if_pos ((nil_iff _).2 hz),if_pos hz]
   have:=I1 (F4 m (views.getD (m.2.1-1).toNat []) op call key val) (by show m.2.2.2.2.2.2.2.1.length<=_; omega)
   unfold F4 at this
   simp only
   rw [this]
   rfl
  ·rw [if_neg (fun h=>hz ((nil_iff _).1 h)),if_neg hz]
   exact L2 _ (by omega) y its ho)
 have J3:∀ (b:Bool) (y:AA),op≠1->m.2.1<=(views.length:Int)->N4 views op call [] b m y [] (m.1,m.2.1,m.2.2.1,m.2.2.2.1,m.2.2.2.2.1,m.2.2.2.2.2.1,m.2.2.2.2.2.2.1,m.2.2.2.2.2.2.2.1,m.2.2.2.2.2.2.2.2.1+1,m.2.2.2.2.2.2.2.2.2) (Fv m key val)=some (QM m (views.getD (m.2.1-1).toNat []) op call key val):=fun b y ho he=>jE (by
  have:=view he
  unfold WD QM
  rw [wm,if_pos (by omega),if_pos (by omega),I0 _ _ (by unfold maxLen; omega),X]
  by_cases hz:DE (views.getD (m.2.1-1).toNat []) m.1=[]
  ·rw [if_pos ((nil_iff _).2 hz),if_pos hz]
   have:=I1 (F4 m (views.getD (m.2.1-1).toNat []) op call key val) (by show m.2.2.2.2.2.2.2.1.length<=_; omega)
   unfold F4 at this
   simp only
   rw [this]
   rfl
  ·rw [if_neg (fun h=>hz ((nil_iff _).1 h)),if_neg hz]
   exact L4 _ (by omega) y ho)
 have J0:∀ (b:Bool) (y:AA),Um m views op call key val=true->m.2.1<=(views.length:Int)->Cj views op call key val [] b m y []=some (DG m views op call key val):=fun b y hmay he=>jF (by
  unfold WE DG
  rw [if_pos hmay,hm.copy,X,wc,w1,w2]
  by_cases ho:op=1
  ·rw [if_pos (by simpa using ho),Ln _ _ (by omega),X,Tt _ _ (by have:=qN m.2.2.2.2.2.2.2.1 (key,val,1000*m.2.1+(m.2.2.2.2.2.2.2.2.1+1)); unfold maxLen; omega),X]
   cases hq:UA (.pair .str (.pair .str (.int .i64))) (BB (Ai m.2.2.2.2.2.2.2.1 (Fv m key val)) key) (Fv m key val) with
   | false =>
    have hq':UA AC (BB (Ai m.2.2.2.2.2.2.2.1 (key,val,1000*m.2.1+(m.2.2.2.2.2.2.2.2.1+1))) key) (key,val,1000*m.2.1+(m.2.2.2.2.2.2.2.2.1+1))=false:=hq
    rw [hq',if_pos (show (true != false)=true from rfl),if_pos (show op=1/\false=false from ⟨ho,rfl⟩)]
    rfl
   | true =>
    have hq':UA AC (BB (Ai m.2.2.2.2.2.2.2.1 (key,val,1000*m.2.1+(m.2.2.2.2.2.2.2.2.1+1))) key) (key,val,1000*m.2.1+(m.2.2.2.2.2.2.2.2.1+1))=true:=hq
    rw [hq',if_neg (show ¬ (true != true)=true by simp),if_neg (show ¬ (op=1/\true=false) by rintro ⟨_,h⟩; cases h)]
    exact J1 _ y _ ho he
  ·rw [if_neg (by simpa using ho),if_neg (fun h=>ho h.1)]
   exact J3 _ y ho he)
 have tail:op=1\/op=2->((AS call 0 1000).bind fun y3=>(if (!y3)=true then (some (JG,([]:List BK),([]:List Cn),false)) else ((AS (key.size:Int) 1 12).bind fun y4=>(if (!y4)=true then (some (JG,([]:List BK),([]:List Cn),false)) else (if (decide ((val.size:Int)>20))=true then (some (JG,([]:List BK),([]:List Cn),false)) else (if (op==2)=true then (if (!(val.toList==(⟨#[]⟩:ByteArray).toList))=true then (some (JG,([]:List BK),([]:List Cn),false)) else (if (decide (m.2.1>(views.length:Int)))=true then (some (JG,([]:List BK),([]:List Cn),false)) else (if 0<=(IntKind.i64.wrap (m.2.1-1)) then (if (IntKind.i64.wrap (m.2.1-1))<(views.length:Int) then (if 0<=(0:Int) then (if (0:Int)<((views.getD (IntKind.i64.wrap (m.2.1-1)).toNat ([]:List Int)).length:Int) then (if (((views.getD (IntKind.i64.wrap (m.2.1-1)).toNat ([]:List Int)).getD (0:Int).toNat 0) != m.1)=true then (some (JG,([]:List BK),([]:List Cn),false)) else (Cj views op call key val ([]:List Cn) (((views.getD (IntKind.i64.wrap (m.2.1-1)).toNat ([]:List Int)).getD (0:Int).toNat 0) != m.1) m JG ([]:List BK))) else none) else none) else none) else none))) else (if (decide (m.2.1>(views.length:Int)))=true then (some (JG,([]:List BK),([]:List Cn),false)) else (if 0<=(IntKind.i64.wrap (m.2.1-1)) then (if (IntKind.i64.wrap (m.2.1-1))<(views.length:Int) then (if 0<=(0:Int) then (if (0:Int)<((views.getD (IntKind.i64.wrap (m.2.1-1)).toNat ([]:List Int)).length:Int) then (if (((views.getD (IntKind.i64.wrap (m.2.1-1)).toNat ([]:List Int)).getD (0:Int).toNat 0) != m.1)=true then (some (JG,([]:List BK),([]:List Cn),false)) else (Cj views op call key val ([]:List Cn) (((views.getD (IntKind.i64.wrap (m.2.1-1)).toNat ([]:List Int)).getD (0:Int).toNat 0) != m.1) m JG ([]:List BK))) else none) else none) else none) else none))))))))=some (DG m views op call key val):=by
  intro hop
  rw [At,X,At,X,wm]
  cases c5:(decide (0<=call)&&decide (call<=1000)) with
  | false=>rw [bad (by unfold Um; rw [c5]; simp)]; rfl
  | true =>
  rw [if_neg (by simp)]
  cases c6:(decide (1<=(key.size:Int))&&decide ((key.size:Int)<=12)) with
  | false=>rw [bad (by unfold Um; rw [c6]; simp)]; rfl
  | true =>
  rw [if_neg (by simp)]
  by_cases c7:(val.size:Int)<=20
  case neg=>rw [if_pos (by simp; omega),bad (by unfold Um; simp [c7])]
  rw [if_neg (by simp; omega)]
  have last:(op==1||pE val)=true->(if (decide (m.2.1>(views.length:Int)))=true then (some (JG,([]:List BK),([]:List Cn),false)) else (if 0<=m.2.1-1 then (if m.2.1-1<(views.length:Int) then (if 0<=(0:Int) then (if (0:Int)<((views.getD (m.2.1-1).toNat ([]:List Int)).length:Int) then (if (((views.getD (m.2.1-1).toNat ([]:List Int)).getD (0:Int).toNat 0) != m.1)=true then (some (JG,([]:List BK),([]:List Cn),false)) else (Cj views op call key val ([]:List Cn) (((views.getD (m.2.1-1).toNat ([]:List Int)).getD (0:Int).toNat 0) != m.1) m JG ([]:List BK))) else none) else none) else none) else none))=some (DG m views op call key val):=by
   intro c8
   by_cases c9:m.2.1<=(views.length:Int)
   case neg=>rw [if_pos (by simp; omega),bad (by unfold Um; simp [c9])]
   have:=view c9
   rw [if_neg (by simp; omega),if_pos (by omega),if_pos (by omega),if_pos (by omega),if_pos (by omega),show (views.getD (m.2.1-1).toNat ([]:List Int)).getD (0:Int).toNat 0=(views.getD (m.2.1-1).toNat []).getD 0 0 from rfl]
   by_cases c10:(views.getD (m.2.1-1).toNat []).getD 0 0=m.1
   case neg=>rw [if_pos (by simpa using c10),bad (by unfold Um; rw [show ((views.getD (m.2.1-1).toNat []).getD 0 0==m.1)=false from by simpa using c10,Bool.and_false])]
   rw [if_neg (by simpa using c10)]
   refine J0 _ _ ?_ c9
   unfold Um
   rw [c1,c5,c6,c8]
   simp only [c2,beq_self_eq_true,c3,c7,c9,c10,decide_true,Bool.and_true,Bool.true_and]
   rcases hop with h | h<;>simp [h]
  by_cases c8:op=2
  ·rw [if_pos (by simpa using c8)]
   cases ce:pE val with
   | false =>
    rw [if_pos (by rw [gL,ce]; rfl),bad (by unfold Um; rw [ce,show (op==1)=false from by simp [c8]]; simp)]
   | true =>
    rw [if_neg (by rw [gL,ce]; simp)]
    exact last (by rw [ce,Bool.or_true])
  ·rw [if_neg (by simpa using c8)]
   exact last (by rw [show (op==1)=true from by simp; omega]; rfl)
 by_cases c4:op=1
 ·rw [if_neg (by simpa using c4)]
  exact tail (.inl c4)
 ·rw [if_pos (by simpa using c4)]
  by_cases c4':op=2
  ·rw [if_neg (by simpa using c4')]
   exact tail (.inr c4')
  ·rw [if_pos (by simpa using c4'),bad (by unfold Um; rw [show (op==1||op==2)=false from by simp [c4,c4']]; simp)]
   rfl)
structure rc (m:AA) (r:AA×List BK×List Cn×Bool):Prop where
 mok:r.2.2.2=true->Ih r.1
 id:r.2.2.2=true->r.1.1=m.1
 ep:r.2.2.2=true->r.1.2.1=m.2.1
 told:r.2.2.2=true->af m r.1 r.2.1
 tlen:r.2.1.length<=4
 said:gO r.2.2.1
theorem nu {m:AA}:rc m (JG,[],[],false):=⟨fun h=>(by cases h),fun h=>(by cases h),fun h=>(by cases h),fun h=>(by cases h),by simp,E_⟩
theorem Yg {m:AA} {views:List (List Int)} {op call:Int} {key val:ByteArray} (h:Um m views op call key val=true) :
  m.2.2.2.2.2.1=true/\m.2.2.2.2.2.2.2.2.2.1=0/\m.2.2.2.2.2.2.2.2.1<900/\(op=1\/op=2)/\(0<=call/\call<=1000)/\(1<=(key.size:Int)/\(key.size:Int)<=12)/\(val.size:Int)<=20/\(op=1\/pE val=true)/\m.2.1<=(views.length:Int)/\(views.getD (m.2.1-1).toNat []).getD 0 0=m.1:=by
 unfold Um at h
 simp only [Bool.and_eq_true,Bool.or_eq_true,decide_eq_true_eq,beq_iff_eq] at h
 obtain ⟨⟨⟨⟨⟨⟨⟨⟨⟨h1,h2⟩,h3⟩,h4⟩,h5⟩,h6⟩,h7⟩,h8⟩,h9⟩,h10⟩:=h
 exact ⟨h1,h2,h3,h4,h5,h6,h7,h8,h9,h10⟩
theorem mR {m:AA} {key val:ByteArray} (h:Ih m) (h3:m.2.2.2.2.2.2.2.2.1<900) (h6:1<=(key.size:Int)/\(key.size:Int)<=12) (h7:(val.size:Int)<=20):Ap [Fv m key val]=true:=by
 refine Cd.2 ⟨fun b hb=>?_,?_,by simp⟩
 ·simp only [List.mem_singleton] at hb
  subst hb
  unfold Ig Fv
  have:=h.ep
  have:=h.count
  simp only [Bool.and_eq_true,decide_eq_true_eq]
  omega
 ·exact ns.2 (by simp)
theorem Ih.task1 {m:AA} {view:List Int} {op call:Int} {key val:ByteArray} (h:Ih m) (h1:m.2.2.2.2.2.1=true) (h3:m.2.2.2.2.2.2.2.2.1<900) (h4:op=1\/op=2) (h5:0<=call/\call<=1000):Ih (F4 m view op call key val):=by
 have hc:=h.count
 refine ⟨h.id,h.ep,h.serves,h.fell,h.waits,Ul _ _,h.items,?_,.inr ?_⟩
 ·show 0<=m.2.2.2.2.2.2.2.2.1+1/\m.2.2.2.2.2.2.2.2.1+1<=900
  omega
 ·unfold E9 F4
  rw [h1]
  simp only [Bool.and_eq_true,Bool.or_eq_true,decide_eq_true_eq,beq_iff_eq]
  exact ⟨⟨⟨h4,trivial⟩,h5⟩,by omega⟩
theorem Yh {m:AA} {views:List (List Int)} {op call:Int} {key val:ByteArray} (hm:Ih m) (hv:QK views):rc m (DG m views op call key val):=by
 unfold DG
 split
 ·rename_i hmay
  obtain ⟨h1,h2,h3,h4,h5,h6,h7,h8,h9,h10⟩:=Yg hmay
  split
  ·exact nu
  ·unfold QM
   have hep:=hm.ep
   have ht:=hm.task1 (view:=views.getD (m.2.1-1).toNat []) (key:=key) (val:=val) h1 h3 h4 h5
   have h0:(F4 m (views.getD (m.2.1-1).toNat []) op call key val).2.2.2.2.2.2.2.2.2.1≠0:=by show op≠0; omega
   have hw:=hv.wok (i:=(m.2.1-1).toNat) (by omega)
   split
   ·exact ⟨fun _=>ht.finish,fun _=>(by unfold Bm; split<;>rfl),fun _=>(by unfold Bm; split<;>rfl),fun _=>YJ,by simp,g_ ht h0⟩
   ·refine ⟨fun _=>ht,fun _=>rfl,fun _=>rfl,fun _=>?_,?_,E_⟩
    ·unfold mQ
     have hc:=hm.count
     have hi:=mR hm h3 h6 h7
     refine db (n:=F4 m (views.getD (m.2.1-1).toNat []) op call key val) hm.id hm.ep hw.mem (by split<;>omega) (by omega) ?_ ?_
     ·split
      ·exact hi
      ·exact O9
     ·by_cases ho:op=1
      ·rw [if_pos ho,if_pos ho,if_neg (by omega),if_pos rfl]; rfl
      ·rw [if_neg ho,if_neg ho,if_neg (by omega),if_neg (by omega)]
    ·unfold mQ
     simp only [List.length_map]
     have:=G3 (views.getD (m.2.1-1).toNat []) m.1
     have:=hw.len
     omega
 ·exact nu
def KT (m:AA) (e:Int):AA:=(m.1,e,false,false,true,false,([]:List Int),m.2.2.2.2.2.2.2.1,(0:Int),(0:Int),(0:Int),(0:Int),(ByteArray.empty,ByteArray.empty,(0:Int)),([]:List Int))
def EV (m:AA) (views:List (List Int)) (e:Int):AA×List BK×Bool :=
 if 2<=e/\e<=(views.length:Int)/\m.2.1<e/\(views.getD (e-1).toNat []).getD 0 0=m.1 then
  if (m.2.2.2.1&&(m.2.1==e-1)&&(views.getD (e-2).toNat []).contains m.1)=true then
   (QV (KT m e) (views.getD (e-1).toNat []) m.2.2.2.2.2.2.2.1,(Bu (views.getD (e-1).toNat []) m.1).map (fun v=>(3,m.1,v,e,0,m.2.2.2.2.2.2.2.1)),true)
  else (KT m e,(Bu (views.getD (e-2).toNat []) m.1).map (fun v=>(1,m.1,v,e,0,[])),true)
 else (JG,[],false)
theorem Ih.new1 {m:AA} (h:Ih m) {e:Int} (he:1<=e/\e<=9):Ih (KT m e) :=
 ⟨h.id,he,fun hs=>(by cases hs),fun hf=>(by cases hf),⟨by simp [KT],by simp [KT]⟩,⟨by simp [KT],by simp [KT]⟩,h.items,⟨by simp [KT],by simp [KT]⟩,.inl Yf⟩
theorem jg (m:AA) (views:List (List Int)) (e:Int) (hm:Ih m) (hv:QK views):UZ m views e=some (EV m views e):=pB (by
 have hvl:=hv.len
 have hep:=hm.ep
 have hl:=hm.lens
 unfold c_ EV
 rw [Jy hm,X,if_neg (by simp),Fu hv,X,if_neg (by simp),At,X]
 by_cases h1:2<=e/\e<=(views.length:Int)
 case neg =>
  rw [if_pos (by rw [<- Bool.decide_and,decide_eq_false h1]; rfl),if_neg (fun h=>h1 ⟨h.1,h.2.1⟩)]
  rfl
 have we:IntKind.i64.wrap (e-1)=e-1:=Aa (by omega)
 have we2:IntKind.i64.wrap (e-2)=e-2:=Aa (by omega)
 rw [if_neg (by rw [<- Bool.decide_and,decide_eq_true h1]; simp),we]
 by_cases h2:m.2.1<e
 case neg =>
  rw [if_pos (by simp; omega),if_neg (fun h=>h2 h.2.2.1)]
  rfl
 have g1:=hv.get (i:=(e-1).toNat) (by omega)
 have g2:=hv.get (i:=(e-2).toNat) (by omega)
 rw [if_neg (by simp; omega),if_pos (by omega),if_pos (by omega),if_pos (by omega),if_pos (by omega),show (views.getD (e-1).toNat ([]:List Int)).getD (0:Int).toNat 0=(views.getD (e-1).toNat []).getD 0 0 from rfl]
 by_cases h3:(views.getD (e-1).toNat []).getD 0 0=m.1
 case neg =>
  rw [if_pos (by simpa using h3),if_neg (fun h=>h3 h.2.2.2)]
  rfl
 rw [if_neg (by simpa using h3),if_pos ⟨h1.1,h1.2,h2,h3⟩]
 have L2:∀ y,FS views e 0 m y [] ([]++m.2.2.2.2.2.2.2.1) (KT m e)=some (KT m e,(Bu (views.getD (e-2).toNat []) m.1).map (fun v=>(1,m.1,v,e,0,[])),true):=by
  intro y
  have hcopy:=(hm.new1 (e:=e) (by omega)).copy
  have key':=GY (n:=(views.getD (e-2).toNat []).length) (P:=fun i=>∀ acc:List BK,acc.length<=i->FS views e (i:Int) m y acc ([]++m.2.2.2.2.2.2.2.1) (KT m e)=some (KT m e,acc++(((views.getD (e-2).toNat []).drop i).filter (· != m.1)).map (fun v=>((1:Int),m.1,v,e,(0:Int),([]:List AL))),true)) (fun acc ha=>WK (by
   unfold N7
   rw [we2,if_pos (by omega),if_pos (by omega),if_neg (by simp),hcopy]
   simp)) (fun i hi ih acc ha=>WK (by
   unfold N7
   rw [we2,if_pos (by omega),if_pos (by omega)]
   simp only [show ((i:Int)<((views.getD (e-2).toNat ([]:List Int)).length:Int)) from by omega,decide_true,if_true,show (0:Int)<=(i:Int) from by omega,Int.toNat_natCast,AR (show i<9223372036854775807 by omega),show (0:Int)<=e-2 from by omega,show e-2<(views.length:Int) from by omega]
   rw [AU hi,BU hi,List.filter_cons]
   by_cases hh:((views.getD (e-2).toNat ([]:List Int))[i] != m.1)=true
   ·rw [if_pos hh,if_pos (by simp; omega),ih _ (by simp; omega),if_pos hh,List.map_cons,List.append_assoc]
    rfl
   ·rw [if_neg hh,ih _ (by omega),if_neg hh])) 0 (by omega) [] (by simp)
  exact key'
 have J1:∀ (b:Bool) y,G6 views e b m y []=some (if b=true then (QV (KT m e) (views.getD (e-1).toNat []) m.2.2.2.2.2.2.2.1,(Bu (views.getD (e-1).toNat []) m.1).map (fun v=>(3,m.1,v,e,0,m.2.2.2.2.2.2.2.1)),true) else (KT m e,(Bu (views.getD (e-2).toNat []) m.1).map (fun v=>(1,m.1,v,e,0,[])),true)):=fun b y=>jH (by
  unfold WI
  rw [we,if_pos (by simp; omega)]
  cases b
  ·rw [if_neg (by simp)]
   exact L2 y
  ·rw [if_pos rfl,if_pos (by omega),if_pos (by omega)]
   have hh:=T1 (views.getD (e-1).toNat []) m.2.2.2.2.2.2.2.1 (KT m e) (by omega) (by omega)
   have hc:=((hm.new1 (e:=e) (by omega)).has (view:=views.getD (e-1).toNat []) (its:=m.2.2.2.2.2.2.2.1) rfl rfl hm.items).copy
   unfold KT at hh hc ⊢
   simp only [List.nil_append]
   rw [hh,X,hc]
   rfl)
 refine jI ?_
 unfold WJ
 rw [we,we2,Ck _ _ (by unfold maxLen; omega),X]
 simp only [J1]
 rw [if_pos (show (0:Int)<=e-2 by omega),if_pos (show e-2<(views.length:Int) by omega)]
 cases m.2.2.2.1<;>cases (m.2.1==e-1)<;>cases (views.getD (e-2).toNat ([]:List Int)).contains m.1<;>rfl)
theorem T3 {m:AA} {views:List (List Int)} {e:Int} (hm:Ih m) (hv:QK views):(EV m views e).2.2=true->Ih (EV m views e).1/\(EV m views e).1.1=m.1/\af m (EV m views e).1 (EV m views e).2.1/\(EV m views e).2.1.length<=4:=by
 intro h
 have hvl:=hv.len
 have hep:=hm.ep
 unfold EV at h ⊢
 split
 ·rename_i hc
  have he:1<=e/\e<=9:=by omega
  split
  ·have hw:=hv.wok (i:=(e-1).toNat) (by omega)
   refine ⟨(hm.new1 he).has rfl rfl hm.items,rfl,db (n:=QV (KT m e) (views.getD (e-1).toNat []) m.2.2.2.2.2.2.2.1) hm.id he hw.mem (by omega) (by omega) hm.items (by simp),?_⟩
   simp only [List.length_map]
   have:=G3 (views.getD (e-1).toNat []) m.1
   have:=hw.len
   omega
  ·have hw:=hv.wok (i:=(e-2).toNat) (by omega)
   refine ⟨hm.new1 he,rfl,db (n:=KT m e) hm.id he hw.mem (by omega) (by omega) O9 (by simp),?_⟩
   simp only [List.length_map]
   have:=G3 (views.getD (e-2).toNat []) m.1
   have:=hw.len
   omega
 ·rename_i hc
  rw [if_neg hc] at h
  cases h
def T4 (m:AA):AA:=(m.1,m.2.1,true,false,false,false,([]:List Int),([]:List AL),(0:Int),(0:Int),(0:Int),(0:Int),(ByteArray.empty,ByteArray.empty,(0:Int)),([]:List Int))
theorem nN (m:AA):Xb m=some (T4 m):=qI rfl
theorem Ih.fall1 {m:AA} (h:Ih m):Ih (T4 m) :=
 ⟨h.id,h.ep,fun hs=>(by cases hs),fun hf=>⟨rfl,rfl⟩,⟨by simp [T4],by simp [T4]⟩,⟨by simp [T4],by simp [T4]⟩,O9,⟨by simp [T4],by simp [T4]⟩,.inl Yf⟩
def Dy (id:Int) (views:List (List Int)):AA :=
 (id,(1:Int),false,(views.getD 0 []).contains id,((views.getD 0 []).getD 0 0==id),((views.getD 0 []).getD 0 0==id),([]:List Int),([]:List AL),(0:Int),(0:Int),(0:Int),(0:Int),(ByteArray.empty,ByteArray.empty,(0:Int)),([]:List Int))
theorem Y8 (id:Int) (views:List (List Int)) (hi:1<=id/\id<=6) (hv:QK views):MW id views=some (Dy id views,true):=fX (by
 have hvl:=hv.len
 have g:=hv.get (i:=0) (by omega)
 unfold TW
 rw [Fu hv,X,if_pos (by rfl),At,X,if_neg (by rw [<- Bool.decide_and,decide_eq_true hi]; simp)]
 refine Yy ?_
 unfold Ob
 rw [show views.getD (0:Int).toNat ([]:List Int)=views.getD 0 [] from rfl,Ck _ _ (by unfold maxLen; omega),X]
 repeat rw [if_pos (by omega)]
 rfl)
theorem Ih.first1 {id:Int} {views:List (List Int)} (hi:1<=id/\id<=6) (hv:QK views):Ih (Dy id views):=by
 have hvl:=hv.len
 have g:=hv.get (i:=0) (by omega)
 refine ⟨hi,by simp [Dy],fun hs=>⟨?_,hs,rfl⟩,fun hf=>(by cases hf),⟨by simp [Dy],by simp [Dy]⟩,⟨by simp [Dy],by simp [Dy]⟩,O9,⟨by simp [Dy],by simp [Dy]⟩,.inl Yf⟩
 simp only [Dy,beq_iff_eq] at hs ⊢
 rw [<- hs,List.contains_iff_mem,AU (show 0<(views.getD 0 []).length by omega)]
 exact List.getElem_mem _

abbrev H5:Type:=Int×ByteArray×ByteArray×Int×Int×Int×Int×Int×ByteArray
abbrev Ab:Type:=List (List Int)×List AA×List BK×List H5
abbrev Df:Type:=Int×Int×Int×Int×ByteArray×ByteArray
def EB:H5:=((0:Int),ByteArray.empty,ByteArray.empty,(0:Int),(0:Int),(0:Int),(0:Int),(0:Int),ByteArray.empty)
def DH:BK:=((0:Int),(0:Int),(0:Int),(0:Int),(0:Int),([]:List AL))
def BS (g:Ab) (i:Nat):AA:=g.2.1.getD i JG
theorem qz (g:Ab) (i:Nat):g.2.1.getD i ((0:Int),(0:Int),false,false,false,false,([]:List Int),([]:List AL),(0:Int),(0:Int),(0:Int),(0:Int),(ByteArray.empty,ByteArray.empty,(0:Int)),([]:List Int))=BS g i:=rfl
structure Lu (g:Ab) (n:Nat):Prop where
 views:QK g.1
 six:g.2.1.length=6
 mem:∀ i,i<6->Ih (BS g i)/\(BS g i).1=(i:Int)+1
 fly:∀ x∈g.2.2.1,sn x
 flen:g.2.2.1.length<=8*n
 clen:g.2.2.2.length<=n
def QN (at_:Int) (s:Cn) (c:H5):H5 :=
 (c.1,c.2.1,c.2.2.1,c.2.2.2.1,at_,s.2.2.2.2.2,s.2.1,s.2.2.1,if (c.1==2)=true then s.2.2.2.2.1 else c.2.2.2.2.2.2.2.2)
def Hj (at_:Int) (cs:List H5) (s:Cn):List H5 :=
 if (decide (s.1>=(cs.length:Int))||decide ((cs.getD s.1.toNat EB).2.2.2.2.1>=0))=true then cs else cs.set s.1.toNat (QN at_ s (cs.getD s.1.toNat EB))
def BG (g:Ab) (n:AA) (told:List BK) (said:List Cn) (at_:Int):Ab :=
 (g.1,g.2.1.set (n.1-1).toNat n,g.2.2.1++told,said.foldl (Hj at_) g.2.2.2)
theorem so (at_:Int) (cs:List H5) (s:Cn):(Hj at_ cs s).length=cs.length:=by unfold Hj; split<;>simp
theorem ag (at_:Int):∀ (said:List Cn) (cs:List H5),(said.foldl (Hj at_) cs).length=cs.length
 | [],cs=>rfl
 | s::l,cs=>by rw [List.foldl_cons,ag at_ l,so]
theorem pG {α:Type} {l:List α} {i:Nat} {a d:α} (h:i<l.length):(l.set i a).getD i d=a:=by simp [List.getD,h]
theorem GB (n:AA) (told:List BK) (said:List Cn) (at_:Int) (g:Ab) (hn:1<=n.1/\n.1<=6) (h6:g.2.1.length=6) (hf:g.2.2.1.length+told.length<=68719476736) (hc:g.2.2.2.length<=68719476736) (hs:gO said) :
  Eo n told said at_ g=some (BG g n told said at_):=fY (by
 have hsl:=hs.1
 unfold TX
 rw [Aa (show -9223372036854775808<=n.1-1/\n.1-1<=9223372036854775807 by omega)]
 simp only [List.nil_append,List.length_nil,Nat.zero_add]
 rw [if_pos (by omega),if_pos (by omega),if_pos (by omega),if_pos (by omega),if_pos (by omega)]
 have key:=GY (n:=said.length) (P:=fun i=>∀ (cs:List H5),cs.length<=68719476736->CX said at_ (i:Int) (g.1,g.2.1.set (n.1-1).toNat n,g.2.2.1++told,cs) n (g.2.1.set (n.1-1).toNat n) (g.2.2.1++told)=some (g.1,g.2.1.set (n.1-1).toNat n,g.2.2.1++told,(said.drop i).foldl (Hj at_) cs)) (fun cs hcs=>Of (by
  unfold Iv
  rw [if_neg (by simp)]
  simp)) (fun i hi ih cs hcs=>Of (by
  unfold Iv
  have hz:said.getD i ((0:Int),(0:Int),(0:Int),ByteArray.empty,ByteArray.empty,(0:Int))=said[i]:=AU hi
  have h0:=(hs.2 said[i] (List.getElem_mem hi)).1
  simp only [show ((i:Int)<(said.length:Int)) from by omega,decide_true,if_true,show (0:Int)<=(i:Int) from by omega,Int.toNat_natCast,hz,AR (show i<9223372036854775807 by omega)]
  have hz3:cs.getD said[i].1.toNat ((0:Int),ByteArray.empty,ByteArray.empty,(0:Int),(0:Int),(0:Int),(0:Int),(0:Int),ByteArray.empty)=cs.getD said[i].1.toNat EB:=rfl
  rw [BU hi,List.foldl_cons,hz3]
  by_cases c1:said[i].1>=(cs.length:Int)
  ·rw [if_pos (by simpa using c1),ih cs hcs]
   have:Hj at_ cs said[i]=cs:=by unfold Hj; rw [if_pos (by simp [c1])]
   rw [this]
  ·rw [if_neg (by simpa using c1),if_pos (by omega),if_pos (by omega)]
   by_cases c2:(cs.getD said[i].1.toNat EB).2.2.2.2.1>=0
   ·rw [if_pos (show decide ((cs.getD said[i].1.toNat EB).2.2.2.2.1>=0)=true from decide_eq_true c2),ih cs hcs]
    have:Hj at_ cs said[i]=cs:=by unfold Hj; rw [if_pos (by rw [decide_eq_true c2,Bool.or_true])]
    rw [this]
   ·rw [if_neg (show ¬ decide ((cs.getD said[i].1.toNat EB).2.2.2.2.1>=0)=true from fun h=>c2 (of_decide_eq_true h))]
    have hcl:said[i].1.toNat<cs.length:=by omega
    have e:Hj at_ cs said[i]=cs.set said[i].1.toNat (QN at_ said[i] (cs.getD said[i].1.toNat EB)):=by unfold Hj; rw [if_neg (by rw [decide_eq_false c1,decide_eq_false c2]; simp)]
    rw [e]
    refine Yz ?_
    unfold Oe
    have hz2:∀ (l:List H5),l.getD said[i].1.toNat ((0:Int),ByteArray.empty,ByteArray.empty,(0:Int),(0:Int),(0:Int),(0:Int),(0:Int),ByteArray.empty)=l.getD said[i].1.toNat EB:=fun l=>rfl
    simp only [List.nil_append,List.length_nil,Nat.zero_add,hz2,pG hcl,List.set_set,List.length_set]
    have hk:∀ r,(if cs.length<=68719476736 then r else (none:Option Ab))=r:=fun r=>if_pos hcs
    rw [if_pos (show cs.length<=68719476736 from hcs),if_pos (show (0:Int)<=said[i].1 from h0),if_pos (show said[i].1<(cs.length:Int) by omega),AR (show i<9223372036854775807 by omega)]
    unfold QN
    by_cases c3:(cs.getD said[i].1.toNat EB).1=2
    ·rw [if_pos (show ((cs.getD said[i].1.toNat EB).1==2)=true by simpa using c3),if_pos (show ((cs.getD said[i].1.toNat EB).1==2)=true by simpa using c3)]
     exact ih _ (by simpa using hcs)
    ·rw [if_neg (show ¬ ((cs.getD said[i].1.toNat EB).1==2)=true by simpa using c3),if_neg (show ¬ ((cs.getD said[i].1.toNat EB).1==2)=true by simpa using c3)]
     exact ih _ (by simpa using hcs))) 0 (by omega) g.2.2.2 hc
 exact key)
theorem mS {g:Ab} {n:AA} {told:List BK} {said:List Cn} {at_:Int} {i j:Nat} (h6:g.2.1.length=6) (hj:j<6) (hn:n.1=(i:Int)+1) (hi:i<6):BS (BG g n told said at_) j=if j=i then n else BS g j:=by
 unfold BS BG
 simp only [hn,show ((i:Int)+1-1).toNat=i from by omega]
 by_cases e:j=i
 ·subst e
  rw [if_pos rfl]
  exact pG (by omega)
 ·rw [if_neg e]
  simp [List.getD,List.getElem?_set,Ne.symm e]
theorem Lu.member {g:Ab} {k:Nat} (h:Lu g k) {n:AA} {told:List BK} {said:List Cn} {at_:Int} {i:Nat} (hi:i<6) (hn:Ih n) (hid:n.1=(i:Int)+1) (ht:∀ y∈told,sn y) (hl:told.length<=4):Lu (BG g n told said at_) (k+1):=by
 refine ⟨h.views,by simp [BG,h.six],fun j hj=>?_,fun x hx=>?_,?_,?_⟩
 ·rw [mS h.six hj hid hi]
  split
  ·rename_i e
   subst e
   exact ⟨hn,hid⟩
  ·exact h.mem j hj
 ·rcases List.mem_append.1 hx with h1 | h1
  ·exact h.fly x h1
  ·exact ht x h1
 ·have:=h.flen
  simp only [BG,List.length_append]
  omega
 ·have:=h.clen
  simp only [BG,ag]
  omega
def Gf (g:Ab) (at_:Int) (e:Df):Ab:=(g.1,g.2.1,g.2.2.1,g.2.2.2++[(e.2.2.2.1,e.2.2.2.2.1,e.2.2.2.2.2,at_,-1,0,0,0,ByteArray.empty)])
def I2 (g:Ab) (at_:Int) (e:Df):Int×Ab :=
 if (DG (BS g (e.2.1-1).toNat) g.1 e.2.2.2.1 (g.2.2.2.length:Int) e.2.2.2.2.1 e.2.2.2.2.2).2.2.2=true then
  (0,BG (Gf g at_ e) (DG (BS g (e.2.1-1).toNat) g.1 e.2.2.2.1 (g.2.2.2.length:Int) e.2.2.2.2.1 e.2.2.2.2.2).1 (DG (BS g (e.2.1-1).toNat) g.1 e.2.2.2.1 (g.2.2.2.length:Int) e.2.2.2.2.1 e.2.2.2.2.2).2.1 (DG (BS g (e.2.1-1).toNat) g.1 e.2.2.2.1 (g.2.2.2.length:Int) e.2.2.2.2.1 e.2.2.2.2.2).2.2.1 at_)
 else (1,Gf g at_ e)
theorem dd {e:Df} (h:Jx e=true):1<=e.1/\e.1<=6/\1<=e.2.1/\e.2.1<=6/\0<=e.2.2.1:=by
 unfold Jx at h
 simp only [Bool.and_eq_true,decide_eq_true_eq] at h
 omega
theorem uH {m n:AA} {l:List BK} (h:af m n l):∀ y∈l,sn y:=fun y hy=>(h y hy).1
theorem Lu.began {at_:Int} {e:Df} {g:Ab} {k:Nat} (hg:Lu g k) (hn:1<=e.2.1/\e.2.1<=6):Lu (I2 g at_ e).2 (k+1)/\(I2 g at_ e).2.1=g.1:=by
 have hc:=hg.clen
 obtain ⟨m1,m2⟩:=hg.mem (e.2.1-1).toNat (by omega)
 have hb:=Yh (op:=e.2.2.2.1) (call:=(g.2.2.2.length:Int)) (key:=e.2.2.2.2.1) (val:=e.2.2.2.2.2) m1 hg.views
 refine ⟨?_,?_⟩
 ·unfold I2
  split
  ·rename_i hq
   have hid:=hb.id hq
   have hm:=hg.member (said:=(DG (BS g (e.2.1-1).toNat) g.1 e.2.2.2.1 (g.2.2.2.length:Int) e.2.2.2.2.1 e.2.2.2.2.2).2.2.1) (at_:=at_) (i:=(e.2.1-1).toNat) (by omega) (hb.mok hq) (by rw [hid,m2]) (uH (hb.told hq)) hb.tlen
   exact ⟨hm.views,hm.six,hm.mem,hm.fly,hm.flen,by simp only [BG,ag,Gf,List.length_append,List.length_cons,List.length_nil]; omega⟩
  ·exact ⟨hg.views,hg.six,hg.mem,hg.fly,by have:=hg.flen; show g.2.2.1.length<=_; omega,by simp only [Gf,List.length_append,List.length_cons,List.length_nil]; omega⟩
 ·unfold I2; split<;>rfl
theorem ah (at_:Int) (e:Df) (g:Ab) (k:Nat) (hg:Lu g k) (hk:k<=1000) (hn:1<=e.2.1/\e.2.1<=6):Nr at_ e g=some (I2 g at_ e)/\Lu (I2 g at_ e).2 (k+1)/\(I2 g at_ e).2.1=g.1:=by
 have hc:=hg.clen
 have hf:=hg.flen
 have h6:=hg.six
 have wn:IntKind.i64.wrap (e.2.1-1)=e.2.1-1:=Aa (by omega)
 have wl:IntKind.i64.wrap (((g.2.2.2.length+1:Nat):Int)-1)=(g.2.2.2.length:Int):=by rw [Aa (by omega)]; omega
 obtain ⟨m1,m2⟩:=hg.mem (e.2.1-1).toNat (by omega)
 have hb:=Yh (op:=e.2.2.2.1) (call:=(g.2.2.2.length:Int)) (key:=e.2.2.2.2.1) (val:=e.2.2.2.2.2) m1 hg.views
 refine ⟨i6 ?_,hg.began hn⟩
 ·unfold V0 I2
  simp only [List.nil_append,List.length_nil,Nat.zero_add,List.length_append,List.length_cons]
  rw [if_pos (by omega),if_pos (by omega),wn,if_pos (by omega),if_pos (by omega),wl,
   qz g (e.2.1-1).toNat,
   jf _ _ _ _ _ _ m1 hg.views,X]
  cases hq:(DG (BS g (e.2.1-1).toNat) g.1 e.2.2.2.1 (g.2.2.2.length:Int) e.2.2.2.2.1 e.2.2.2.2.2).2.2.2 with
  | false=>rfl
  | true =>
   have hid:=hb.id hq
   have hmo:=hb.mok hq
   have htl:=hb.tlen
   rw [if_neg (by simp),if_pos rfl]
   have:=GB (DG (BS g (e.2.1-1).toNat) g.1 e.2.2.2.1 (g.2.2.2.length:Int) e.2.2.2.2.1 e.2.2.2.2.2).1 (DG (BS g (e.2.1-1).toNat) g.1 e.2.2.2.1 (g.2.2.2.length:Int) e.2.2.2.2.1 e.2.2.2.2.2).2.1 (DG (BS g (e.2.1-1).toNat) g.1 e.2.2.2.1 (g.2.2.2.length:Int) e.2.2.2.2.1 e.2.2.2.2.2).2.2.1 at_ (Gf g at_ e) hmo.id h6 (by show g.2.2.1.length+_<=_; omega) (by simp only [Gf,List.length_append,List.length_cons,List.length_nil]; omega) hb.said
   unfold Gf at this ⊢
   rw [this]
   rfl

def H6 (g:Ab) (at_:Int) (m:AA) (node:Int):Nat->Int->Int×Ab
 | 0,_=>(1,g)
 | k+1,e=>if ((g.1.getD (e-1).toNat []).getD 0 0 != node)=true then H6 g at_ m node k (e+1)
  else if (EV m g.1 e).2.2=true then (0,BG g (EV m g.1 e).1 (EV m g.1 e).2.1 [] at_) else (1,g)
def YK (g:Ab) (at_ node:Int):Int×Ab:=H6 g at_ (BS g (node-1).toNat) node ((g.1.length:Int)-(BS g (node-1).toNat).2.1).toNat ((BS g (node-1).toNat).2.1+1)
theorem Lu.up {g:Ab} {k:Nat} (h:Lu g k):Lu g (k+1):=⟨h.views,h.six,h.mem,h.fly,by have:=h.flen; omega,by have:=h.clen; omega⟩
theorem Lu.adopted {at_ node:Int} {g:Ab} {k:Nat} (hg:Lu g k) (hn:1<=node/\node<=6):∀ (j:Nat) (e:Int),Lu (H6 g at_ (BS g (node-1).toNat) node j e).2 (k+1)/\(H6 g at_ (BS g (node-1).toNat) node j e).2.1=g.1
 | 0,_=>⟨hg.up,rfl⟩
 | j+1,e=>by
  obtain ⟨m1,m2⟩:=hg.mem (node-1).toNat (by omega)
  unfold H6
  split
  ·exact Lu.adopted hg hn j (e+1)
  ·split
   ·rename_i hq
    obtain ⟨a1,a2,a3,a4⟩:=T3 (e:=e) m1 hg.views hq
    exact ⟨hg.member (i:=(node-1).toNat) (by omega) a1 (by rw [a2,m2]) (uH a3) a4,rfl⟩
   ·exact ⟨hg.up,rfl⟩
theorem ak (at_ node:Int) (g:Ab) (k:Nat) (hg:Lu g k) (hk:k<=1000) (hn:1<=node/\node<=6):Ns at_ node g=some (YK g at_ node)/\Lu (YK g at_ node).2 (k+1)/\(YK g at_ node).2.1=g.1:=by
 have hc:=hg.clen
 have hf:=hg.flen
 have h6:=hg.six
 have hvl:=hg.views.len
 have wn:IntKind.i64.wrap (node-1)=node-1:=Aa (by omega)
 obtain ⟨m1,m2⟩:=hg.mem (node-1).toNat (by omega)
 have hep:=m1.ep
 have wm:IntKind.i64.wrap ((BS g (node-1).toNat).2.1+1)=(BS g (node-1).toNat).2.1+1:=Aa (by omega)
 have key:∀ (j:Nat) (e:Int),e=(g.1.length:Int)+1-(j:Int)->2<=e->Gy at_ node e g (BS g (node-1).toNat)=some (H6 g at_ (BS g (node-1).toNat) node j e):=by
  intro j
  induction j with
  | zero =>
   intro e he h2
   refine Jv ?_
   unfold Gz
   rw [if_neg (by simp; omega)]
   rfl
  | succ j ih =>
   intro e he h2
   have we:IntKind.i64.wrap (e-1)=e-1:=Aa (by omega)
   have we2:IntKind.i64.wrap (e+1)=e+1:=Aa (by omega)
   have gv:=hg.views.get (i:=(e-1).toNat) (by omega)
   have ha:=T3 (e:=e) m1 hg.views
   have i1:=ih (e+1) (by omega) (by omega)
   unfold H6
   refine Jv ?_
   ·unfold Gz
    rw [if_pos (by simp; omega),we,we2,if_pos (by omega),if_pos (by omega),if_pos (by omega),if_pos (by omega),show (g.1.getD (e-1).toNat ([]:List Int)).getD (0:Int).toNat 0=(g.1.getD (e-1).toNat []).getD 0 0 from rfl]
    by_cases h3:((g.1.getD (e-1).toNat []).getD 0 0 != node)=true
    ·rw [if_pos h3,if_pos h3,i1]
    ·rw [if_neg h3,if_neg h3,jg _ _ _ m1 hg.views,X]
     cases hq:(EV (BS g (node-1).toNat) g.1 e).2.2 with
     | false=>rfl
     | true =>
      obtain ⟨a1,a2,a3,a4⟩:=ha hq
      rw [if_neg (by simp),if_pos rfl,GB _ _ _ _ _ a1.id h6 (by omega) (by omega) E_]
      rfl
 have hmain:=key ((g.1.length:Int)-(BS g (node-1).toNat).2.1).toNat ((BS g (node-1).toNat).2.1+1)
 by_cases hle:(BS g (node-1).toNat).2.1<=(g.1.length:Int)
 ·have k1:=hmain (by omega) (by omega)
  refine ⟨V5 ?_,hg.adopted hn _ _⟩
  unfold N2
  rw [wn,if_pos (by omega),if_pos (by omega),qz g (node-1).toNat,wm]
  exact k1
 ·have e0:((g.1.length:Int)-(BS g (node-1).toNat).2.1).toNat=0:=by omega
  unfold YK
  rw [e0]
  refine ⟨V5 ?_,hg.up,rfl⟩
  unfold N2
  rw [wn,if_pos (by omega),if_pos (by omega),qz g (node-1).toNat,wm]
  refine Jv ?_
  unfold Gz
  rw [if_neg (fun h=>hle (by have:=of_decide_eq_true h; omega))]
  rfl
def Ej (g:Ab) (i:Nat):Ab:=(g.1,g.2.1,g.2.2.1.take i++g.2.2.1.drop (i+1),g.2.2.2)
def am (g:Ab) (at_:Int) (e:Df):Int×Ab :=
 if g.2.2.1=[] then (1,g)
 else if e.1=4 then (0,(g.1,g.2.1,g.2.2.1++[g.2.2.1.getD (e.2.2.1 % (g.2.2.1.length:Int)).toNat DH],g.2.2.2))
 else if e.1=3 then (0,Ej g (e.2.2.1 % (g.2.2.1.length:Int)).toNat)
 else (0,BG (Ej g (e.2.2.1 % (g.2.2.1.length:Int)).toNat)
  (DF (BS g ((g.2.2.1.getD (e.2.2.1 % (g.2.2.1.length:Int)).toNat DH).2.2.1-1).toNat) g.1 (g.2.2.1.getD (e.2.2.1 % (g.2.2.1.length:Int)).toNat DH)).1
  (DF (BS g ((g.2.2.1.getD (e.2.2.1 % (g.2.2.1.length:Int)).toNat DH).2.2.1-1).toNat) g.1 (g.2.2.1.getD (e.2.2.1 % (g.2.2.1.length:Int)).toNat DH)).2.1
  (DF (BS g ((g.2.2.1.getD (e.2.2.1 % (g.2.2.1.length:Int)).toNat DH).2.2.1-1).toNat) g.1 (g.2.2.1.getD (e.2.2.1 % (g.2.2.1.length:Int)).toNat DH)).2.2 at_)
theorem Lu.less {g:Ab} {k:Nat} (h:Lu g k) (i:Nat):Lu (Ej g i) k:=by
 refine ⟨h.views,h.six,h.mem,fun x hx=>?_,?_,h.clen⟩
 ·rcases List.mem_append.1 hx with h1 | h1
  ·exact h.fly x (List.mem_of_mem_take h1)
  ·exact h.fly x (List.mem_of_mem_drop h1)
 ·have:=h.flen
  simp only [Ej,List.length_append,List.length_take,List.length_drop]
  omega
theorem Lu.flew {at_:Int} {e:Df} {g:Ab} {k:Nat} (hg:Lu g k):Lu (am g at_ e).2 (k+1)/\(am g at_ e).2.1=g.1:=by
 have hc:=hg.clen
 have hf:=hg.flen
 unfold am
 split
 ·exact ⟨hg.up,rfl⟩
 ·rename_i h0
  have hl:0<g.2.2.1.length:=List.length_pos_iff.2 h0
  have hr0:=Int.emod_nonneg e.2.2.1 (show (g.2.2.1.length:Int)≠0 by omega)
  have hr1:=Int.emod_lt_of_pos e.2.2.1 (show 0<(g.2.2.1.length:Int) by omega)
  generalize hq:e.2.2.1 % (g.2.2.1.length:Int)=q at hr0 hr1
  have hx:=hg.fly (g.2.2.1.getD q.toNat DH) (by rw [AU (show q.toNat<g.2.2.1.length by omega)]; exact List.getElem_mem _)
  have hto:=hx.to
  obtain ⟨m1,m2⟩:=hg.mem ((g.2.2.1.getD q.toNat DH).2.2.1-1).toNat (by omega)
  have hh:=T2 (x:=g.2.2.1.getD q.toNat DH) m1 hg.views
  have hless:=hg.less q.toNat
  split
  ·refine ⟨⟨hg.views,hg.six,hg.mem,fun x hx'=>?_,by simp only [List.length_append,List.length_cons,List.length_nil]; omega,by show g.2.2.2.length<=_; omega⟩,rfl⟩
   rcases List.mem_append.1 hx' with h1 | h1
   ·exact hg.fly x h1
   ·simp only [List.mem_singleton] at h1; subst h1; exact hx
  ·split
   ·exact ⟨hless.up,rfl⟩
   ·exact ⟨hless.member (i:=((g.2.2.1.getD q.toNat DH).2.2.1-1).toNat) (by omega) hh.mok (by rw [hh.id,m2]) (uH hh.told) hh.tlen,rfl⟩
theorem gP (at_:Int) (e:Df) (g:Ab) (k:Nat) (hg:Lu g k) (hk:k<=1000) (hn:0<=e.2.2.1):R8 at_ e g=some (am g at_ e)/\Lu (am g at_ e).2 (k+1)/\(am g at_ e).2.1=g.1:=by
 have hc:=hg.clen
 have hf:=hg.flen
 have h6:=hg.six
 have hvl:=hg.views.len
 refine ⟨nH ?_,hg.flew⟩
 by_cases h0:g.2.2.1=[]
 ·unfold am
  rw [if_pos h0]
  unfold R_
  rw [h0,if_pos (by rfl)]
 ·have hl:0<g.2.2.1.length:=List.length_pos_iff.2 h0
  have hm:Int.tmod e.2.2.1 (g.2.2.1.length:Int)=e.2.2.1 % (g.2.2.1.length:Int):=Int.tmod_eq_emod_of_nonneg hn
  have hr0:=Int.emod_nonneg e.2.2.1 (show (g.2.2.1.length:Int)≠0 by omega)
  have hr1:=Int.emod_lt_of_pos e.2.2.1 (show 0<(g.2.2.1.length:Int) by omega)
  generalize hq:e.2.2.1 % (g.2.2.1.length:Int)=q at hm hr0 hr1
  have hx:=hg.fly (g.2.2.1.getD q.toNat DH) (by rw [AU (show q.toNat<g.2.2.1.length by omega)]; exact List.getElem_mem _)
  have wq:IntKind.i64.wrap (q+1)=q+1:=Aa (by omega)
  have hto:=hx.to
  have wt:IntKind.i64.wrap ((g.2.2.1.getD q.toNat DH).2.2.1-1)=(g.2.2.1.getD q.toNat DH).2.2.1-1:=Aa (by omega)
  obtain ⟨m1,m2⟩:=hg.mem ((g.2.2.1.getD q.toNat DH).2.2.1-1).toNat (by omega)
  have hh:=T2 (x:=g.2.2.1.getD q.toNat DH) m1 hg.views
  have hless:=hg.less q.toNat
  have hxl:=KM hx.items
  have hz:g.2.2.1.getD q.toNat ((0:Int),(0:Int),(0:Int),(0:Int),(0:Int),([]:List AL))=g.2.2.1.getD q.toNat DH:=rfl
  have hz2:∀ i,g.2.1.getD i ((0:Int),(0:Int),false,false,false,false,([]:List Int),([]:List AL),(0:Int),(0:Int),(0:Int),(0:Int),(ByteArray.empty,ByteArray.empty,(0:Int)),([]:List Int))=BS g i:=fun i=>rfl
  have e1:(g.2.2.1.take q.toNat).drop (0:Int).toNat=g.2.2.1.take q.toNat:=rfl
  have e2:(g.2.2.1.take (g.2.2.1.length:Int).toNat).drop (q+1).toNat=g.2.2.1.drop (q.toNat+1):=by
   rw [show (g.2.2.1.length:Int).toNat=g.2.2.1.length from by omega,List.take_length,show (q+1).toNat=q.toNat+1 from by omega]
  unfold am
  rw [if_neg h0,hq]
  ·unfold R_
   rw [if_neg (by simp; exact h0),if_neg (by omega),hm,hz,wq,wt,hz2,e1,e2,if_pos hr0,if_pos hr1]
   simp only [List.nil_append,List.length_nil,Nat.zero_add]
   by_cases h4:e.1=4
   ·rw [if_pos (by simpa using h4),if_pos h4,if_pos (by omega),if_pos (by simp; omega)]
   ·rw [if_neg (by simpa using h4),if_neg h4,if_pos (by omega),if_pos hr0,if_pos (by omega),if_pos (by omega),if_pos (by omega),if_pos (by omega),if_pos (by simp; omega),if_pos (by simp; omega)]
    by_cases h3:e.1=3
    ·rw [if_pos (by simpa using h3),if_pos h3]
     rfl
    ·rw [if_neg (by simpa using h3),if_neg h3,if_pos (by omega),if_pos (by omega),da _ _ _ m1 hg.views (by omega),X]
     have htl:=hh.tlen
     have:=GB (DF (BS g ((g.2.2.1.getD q.toNat DH).2.2.1-1).toNat) g.1 (g.2.2.1.getD q.toNat DH)).1 (DF (BS g ((g.2.2.1.getD q.toNat DH).2.2.1-1).toNat) g.1 (g.2.2.1.getD q.toNat DH)).2.1 (DF (BS g ((g.2.2.1.getD q.toNat DH).2.2.1-1).toNat) g.1 (g.2.2.1.getD q.toNat DH)).2.2 at_ (Ej g q.toNat) hh.mok.id h6 (by have:=hless.flen; omega) (by have:=hless.clen; omega) hh.said
     unfold Ej at this ⊢
     rw [this]
     rfl
def mT (g:Ab) (at_:Int) (e:Df):Int×Ab :=
 if e.1=1 then I2 g at_ e else if e.1=5 then YK g at_ e.2.1
 else if e.1=6 then (0,BG g (T4 (BS g (e.2.1-1).toNat)) [] [] at_) else am g at_ e
theorem Lu.event {at_:Int} {e:Df} {g:Ab} {k:Nat} (hg:Lu g k) (he:Jx e=true):Lu (mT g at_ e).2 (k+1)/\(mT g at_ e).2.1=g.1:=by
 have hn:=dd he
 unfold mT
 split
 ·exact hg.began (by omega)
 ·split
  ·exact hg.adopted (by omega) _ _
  ·split
   ·obtain ⟨m1,m2⟩:=hg.mem (e.2.1-1).toNat (by omega)
    exact ⟨hg.member (i:=(e.2.1-1).toNat) (by omega) m1.fall1 m2 (fun y hy=>by cases hy) (by simp),rfl⟩
   ·exact hg.flew
theorem WW (at_:Int) (e:Df) (g:Ab) (k:Nat) (hg:Lu g k) (hk:k<=1000) (he:Jx e=true):O0 at_ e g=some (mT g at_ e)/\Lu (mT g at_ e).2 (k+1)/\(mT g at_ e).2.1=g.1:=by
 have hn:=dd he
 have h6:=hg.six
 have hc:=hg.clen
 have hf:=hg.flen
 refine ⟨o4 ?_,hg.event he⟩
 unfold mT
 by_cases h1:e.1=1
 ·have a:=(ah at_ e g k hg hk (by omega)).1
  rw [if_pos h1]
  unfold LL
  rw [if_pos (by simpa using h1),a]
  rfl
 ·rw [if_neg h1]
  by_cases h5:e.1=5
  ·have a:=(ak at_ e.2.1 g k hg hk (by omega)).1
   rw [if_pos h5]
   unfold LL
   rw [if_neg (by simpa using h1),if_pos (by simpa using h5),a]
   rfl
  ·rw [if_neg h5]
   by_cases h7:e.1=6
   ·obtain ⟨m1,m2⟩:=hg.mem (e.2.1-1).toNat (by omega)
    rw [if_pos h7]
    have wn:IntKind.i64.wrap (e.2.1-1)=e.2.1-1:=Aa (by omega)
    unfold LL
    rw [if_neg (by simpa using h1),if_neg (by simpa using h5),if_pos (by simpa using h7),wn,if_pos (by omega),if_pos (by omega),
     qz g (e.2.1-1).toNat,
     nN,X,GB _ _ _ _ _ m1.fall1.id h6 (by simp; omega) (by omega) E_]
    rfl
   ·have a:=(gP at_ e g k hg hk (by omega)).1
    rw [if_neg h7]
    unfold LL
    rw [if_neg (by simpa using h1),if_neg (by simpa using h5),if_neg (by simpa using h7),a]
    rfl

theorem Lo (x:List (List Int)) (h:x.length<=1000) (ho:∀ a∈x,a.length<=1000):F9 x=some x:=Yx (by
 unfold OZ
 have key:=GY (n:=x.length) (P:=fun i=>ET x (i:Int) (x.take i)=some x) (LY (by
  unfold Gx
  rw [if_neg (by simp),List.take_length])) (fun i hi ih=>LY (by
  unfold Gx
  have:=ho x[i] (List.getElem_mem hi)
  simp only [show ((i:Int)<(x.length:Int)) from by omega,decide_true,if_true,show (0:Int)<=(i:Int) from by omega,Int.toNat_natCast,AU hi,AR (show i<9223372036854775807 by omega),List.nil_append,List.length_nil,Nat.zero_add,List.length_cons,List.length_take]
  rw [if_pos (by omega),if_pos (by omega),List.take_append_getElem]
  exact ih)) 0 (by omega)
 exact key)
theorem Wp (x:List BK) (h:x.length<=100000) (ho:∀ a∈x,a.2.2.2.2.2.length<=1000):Jh x=some x:=aS (by
 unfold QF
 have key:=GY (n:=x.length) (P:=fun i=>DS x (i:Int) (x.take i)=some x) (MB (by
  unfold HJ
  rw [if_neg (by simp),List.take_length])) (fun i hi ih=>MB (by
  unfold HJ
  have:=ho x[i] (List.getElem_mem hi)
  simp only [show ((i:Int)<(x.length:Int)) from by omega,decide_true,if_true,show (0:Int)<=(i:Int) from by omega,Int.toNat_natCast,AU hi,AR (show i<9223372036854775807 by omega),List.nil_append,List.length_nil,Nat.zero_add,List.length_cons,List.length_take]
  rw [if_pos (by omega),if_pos (by omega)]
  change DS x _ (x.take i++[x[i]])=_
  rw [List.take_append_getElem]
  exact ih)) 0 (by omega)
 exact key)
theorem de (g:Ab) (k:Nat) (hg:Lu g k) (hk:k<=1000):Pk g=some g:=lX (by
 have hvl:=hg.views.len
 have hc:=hg.clen
 have hf:=hg.flen
 have h6:=hg.six
 unfold Xf
 rw [Lo g.1 (by omega) (fun a ha=>by have:=hg.views.view ha; omega),X,Wp g.2.2.1 (by omega) (fun a ha=>by have:=KM (hg.fly a ha).items; omega),X,if_pos (by simp; omega)]
 have key:∀ (a b c d e:_),Fi ((0:Nat):Int) g.1 g.2.1 g.2.2.1 g.2.2.2 a b c d e [] g.1 g.2.2.1 ([]++g.2.2.2)=some g:=by
  intro a b c d e
  have key':=GY (n:=g.2.1.length) (P:=fun i=>Fi (i:Int) g.1 g.2.1 g.2.2.1 g.2.2.2 a b c d e (g.2.1.take i) g.1 g.2.2.1 ([]++g.2.2.2)=some g) (RR (by
   unfold LN
   rw [if_neg (by simp),List.take_length]
   rfl)) (fun i hi ih=>RR (by
   unfold LN
   have hm:=(hg.mem i (by omega)).1
   unfold BS at hm
   rw [AU hi] at hm
   simp only [show ((i:Int)<(g.2.1.length:Int)) from by omega,decide_true,if_true,show (0:Int)<=(i:Int) from by omega,Int.toNat_natCast,AU hi,hm.copy,X,AR (show i<9223372036854775807 by omega),List.length_take,List.length_cons,List.length_nil]
   rw [if_pos (by omega),List.take_append_getElem]
   exact ih)) 0 (by omega)
  exact key'
 exact key _ _ _ _ _)
def Ae (views:List (List Int)):Ab:=(views,[Dy 1 views,Dy 2 views,Dy 3 views,Dy 4 views,Dy 5 views,Dy 6 views],[],[])
theorem T5 {views:List (List Int)} (hv:QK views):Lu (Ae views) 0:=by
 refine ⟨hv,rfl,fun i hi=>?_,fun x hx=>(by cases hx),(by simp [Ae]),(by simp [Ae])⟩
 have h5:i=0\/i=1\/i=2\/i=3\/i=4\/i=5:=by omega
 rcases h5 with rfl | rfl | rfl | rfl | rfl | rfl<;>exact ⟨Ih.first1 (by omega) hv,rfl⟩
theorem Lq {views:List (List Int)} (hv:QK views):JP views=some (Ae views,true):=iy (by
 have hvl:=hv.len
 unfold Vw
 rw [Fu hv,X,if_neg (by simp),Lo views (by omega) (fun a ha=>by have:=hv.view ha; omega),X]
 have step:∀ (i:Nat) (a:_) (b:_) (c:_) (d:_) (l:List AA) r,1<=i->i<=6->l.length<=6->E4 views ((i+1:Nat):Int) a b c d (l++[Dy (i:Int) views]) views=some r->E4 views (i:Int) a b c d l views=some r:=by
  intro i a b c d l r h1 h6 hl hr
  refine P9 ?_
  unfold Jt
  rw [if_pos (by simp; omega),Y8 _ _ (by omega) hv,X,if_pos (by simp; omega),AR (show i<9223372036854775807 by omega)]
  exact hr
 refine step 1 _ _ _ _ _ _ (by omega) (by omega) (by simp) ?_
 refine step 2 _ _ _ _ _ _ (by omega) (by omega) (by simp) ?_
 refine step 3 _ _ _ _ _ _ (by omega) (by omega) (by simp) ?_
 refine step 4 _ _ _ _ _ _ (by omega) (by omega) (by simp) ?_
 refine step 5 _ _ _ _ _ _ (by omega) (by omega) (by simp) ?_
 refine step 6 _ _ _ _ _ _ (by omega) (by omega) (by simp) ?_
 refine P9 ?_
 unfold Jt
 rw [if_neg (by decide)]
 rfl)
def H7:Nat->List Df->Ab->List Int->Ab×List Int
 | _,[],g,cs=>(g,cs)
 | n,e::es,g,cs=>H7 (n+1) es (mT g (n:Int) e).2 (cs++[(mT g (n:Int) e).1])
theorem jt:∀ (es:List Df) (n:Nat) (g:Ab) (cs:List Int),Lu g n->n+es.length<=70->(∀ e∈es,Jx e=true)->Lu (H7 n es g cs).1 (n+es.length)/\(H7 n es g cs).1.1=g.1/\(H7 n es g cs).2.length=cs.length+es.length
 | [],n,g,cs,hg,_,_=>⟨hg,rfl,rfl⟩
 | e::es,n,g,cs,hg,hn,he=>by
  simp only [List.length_cons] at hn
  obtain ⟨h2,h3⟩:=hg.event (at_:=(n:Int)) (he e (by simp))
  obtain ⟨h4,h5,h6⟩:=jt es (n+1) _ (cs++[(mT g (n:Int) e).1]) h2 (by omega) (fun x hx=>he x (by simp [hx]))
  refine ⟨?_,h5.trans h3,?_⟩
  ·have:n+(e::es).length=n+1+es.length:=by simp only [List.length_cons]; omega
   rw [this]
   exact h4
  ·simp only [H7,h6,List.length_append,List.length_cons,List.length_nil]
   omega
theorem df {views:List (List Int)} {events:List Df} (hv:QK views) (hl:events.length<=70) (he:∀ e∈events,Jx e=true) :
  No views events=some ((H7 0 events (Ae views) []).1,(H7 0 events (Ae views) []).2,true):=ia (by
 have hg:=T5 hv
 obtain ⟨r1,r2,r3⟩:=jt events 0 (Ae views) [] hg (by omega) he
 unfold Vo
 rw [Lq hv,X]
 have L3:∀ y,E2 events ((0:Nat):Int) y (Ae views) []=some ((H7 0 events (Ae views) []).1,(H7 0 events (Ae views) []).2,true):=by
  intro y
  have key:=GY (n:=events.length) (P:=fun i=>∀ (g:Ab) (cs:List Int),Lu g i->cs.length=i->H7 i (events.drop i) g cs=H7 0 events (Ae views) []->E2 events (i:Int) y g cs=some ((H7 0 events (Ae views) []).1,(H7 0 events (Ae views) []).2,true)) (fun g cs hgi hcs hr=>P3 (by
   unfold Jp
   rw [if_neg (by simp),de g events.length hgi (by omega),X]
   rw [List.drop_eq_nil_of_le (Nat.le_refl _)] at hr
   rw [<- hr]
   rfl)) (fun i hi ih g cs hgi hcs hr=>P3 (by
   unfold Jp
   obtain ⟨d1,d2,_⟩:=WW (i:Int) events[i] g i hgi (by omega) (he _ (List.getElem_mem hi))
   simp only [show ((i:Int)<(events.length:Int)) from by omega,decide_true,if_true,show (0:Int)<=(i:Int) from by omega,Int.toNat_natCast,AU hi,d1,X,AR (show i<9223372036854775807 by omega)]
   rw [if_pos (by simp; omega)]
   refine ih _ _ d2 (by simp; omega) ?_
   rw [BU hi] at hr
   exact hr)) 0 (by omega) (Ae views) [] hg rfl rfl
  exact key
 have L0:∀ y,Da events true ((0:Nat):Int) y (Ae views)=some ((H7 0 events (Ae views) []).1,(H7 0 events (Ae views) []).2,true):=by
  intro y
  have J2:Gu events true y (Ae views)=some ((H7 0 events (Ae views) []).1,(H7 0 events (Ae views) []).2,true):=Z8 (by
   unfold P2
   rw [if_neg (by simp)]
   exact L3 y)
  refine GY (n:=events.length) (P:=fun i=>Da events true (i:Int) y (Ae views)=some ((H7 0 events (Ae views) []).1,(H7 0 events (Ae views) []).2,true)) (P4 (by
   unfold Jq
   rw [if_neg (by simp)]
   exact J2)) (fun i hi ih=>P4 (by
   unfold Jq
   rw [if_pos (by simpa using hi),if_pos rfl]
   refine Z7 ?_
   unfold P1
   have hz:events.getD i ((0:Int),(0:Int),(0:Int),(0:Int),ByteArray.empty,ByteArray.empty)=events[i]:=AU hi
   rw [if_pos (by simp; omega),if_pos (by omega),if_pos (by omega),Int.toNat_natCast,hz,dV,he _ (List.getElem_mem hi),X,AR (show i<9223372036854775807 by omega)]
   exact ih)) 0 (by omega)
 exact L0 _)
theorem an (d:Nd) (h:WV d):∃ v d',Nq d=some (v,d')/\WV d'/\QK v:=by
 have inner:∀ (m j:Nat),j+m=3->∀ (i:Int) (d:Nd) (vs:List (List Int)) (v:List Int),WV d->0<=i->vs.length<=10->v.length<=j->(j=0\/1<=v.length)->(∀ a∈v,1<=a/\a<=6)->v.Nodup ->
   ∃ v' d',sv v'/\WV d'/\∀ r,E6 (IntKind.i64.wrap (i+1)) d' (vs++[v'])=some r->E5 i (j:Int) d vs v=some r:=by
  intro m
  induction m with
  | zero =>
   intro j hj i d vs v hd hi hvs hv h1 hm hnd
   obtain ⟨y,d1,e1,k1,y0,y1⟩:=Bd 3 d hd
   have y1:=y1 (by omega)
   refine ⟨v,d1,⟨by omega,hm,hnd⟩,k1,fun r hr=>Gw ?_⟩
   unfold E7
   have wy:IntKind.i64.wrap (1+y)=1+y:=Aa (by omega)
   rw [e1,X,wy,if_neg (by simp; omega),if_pos (by simp; omega)]
   exact hr
  | succ m ih =>
   intro j hj i d vs v hd hi hvs hv h1 hm hnd
   obtain ⟨y,d1,e1,k1,y0,y1⟩:=Bd 3 d hd
   have y1:=y1 (by omega)
   have wy:IntKind.i64.wrap (1+y)=1+y:=Aa (by omega)
   by_cases hlt:(j:Int)<1+y
   ·obtain ⟨z,d2,e2,k2,z0,z1⟩:=Bd 4 d1 k1
    have z1:=z1 (by omega)
    have wz:IntKind.i64.wrap (1+z)=1+z:=Aa (by omega)
    by_cases hc:v.contains (1+z)=true
    ·obtain ⟨v',d',w1,w2,w3⟩:=ih (j+1) (by omega) i d2 vs v k2 hi hvs (by omega) (.inr (by
      cases v with
      | nil=>simp at hc
      | cons a v=>simp)) hm hnd
     refine ⟨v',d',w1,w2,fun r hr=>Gw ?_⟩
     unfold E7
     rw [e1,X,wy,if_pos (by simpa using hlt),e2,X,wz,Ck v _ (by unfold maxLen; omega),X,hc,if_neg (by simp),AR (show j<9223372036854775807 by omega)]
     exact w3 r hr
    ·have hc':v.contains (1+z)=false:=by simpa using hc
     obtain ⟨v',d',w1,w2,w3⟩:=ih (j+1) (by omega) i d2 vs (v++[1+z]) k2 hi hvs (by simp; omega) (.inr (by simp)) (fun a ha=>by
      rcases List.mem_append.1 ha with h | h
      ·exact hm a h
      ·simp only [List.mem_singleton] at h; omega) (by
      rw [List.nodup_append]
      refine ⟨hnd,by simp,fun a ha b hb e=>?_⟩
      simp only [List.mem_singleton] at hb
      subst hb
      subst e
      rw [List.contains_iff_mem.2 ha] at hc'
      cases hc')
     refine ⟨v',d',w1,w2,fun r hr=>Gw ?_⟩
     unfold E7
     rw [e1,X,wy,if_pos (by simpa using hlt),e2,X,wz,Ck v _ (by unfold maxLen; omega),X,hc',if_pos (by rfl),if_pos (by simp; omega),AR (show j<9223372036854775807 by omega)]
     exact w3 r hr
   ·refine ⟨v,d1,⟨by omega,hm,hnd⟩,k1,fun r hr=>Gw ?_⟩
    unfold E7
    rw [e1,X,wy,if_neg (by simpa using hlt),if_pos (by simp; omega)]
    exact hr
 have outer:∀ (m i:Nat),i+m=5->∀ (d:Nd) (vs:List (List Int)),WV d->vs.length=i->(∀ v∈vs,sv v)->∃ v' d',E6 (i:Int) d vs=some (v',d')/\WV d'/\QK v':=by
  have fin:∀ (vs:List (List Int)),1<=vs.length->vs.length<=5->(∀ v∈vs,sv v)->QK vs:=fun vs h1 h2 h3=>⟨JF.2 ⟨fun v hv=>rZ.2 (h3 v hv),h1,by omega⟩⟩
  intro m
  induction m with
  | zero =>
   intro i hi d vs hd hl hv
   obtain ⟨y,d1,e1,k1,y0,y1⟩:=Bd 5 d hd
   have y1:=y1 (by omega)
   have wy:IntKind.i64.wrap (1+y)=1+y:=Aa (by omega)
   refine ⟨vs,d1,Ju ?_,k1,fin vs (by omega) (by omega) hv⟩
   unfold Gv
   rw [e1,X,wy,if_neg (by simp; omega)]
  | succ m ih =>
   intro i hi d vs hd hl hv
   obtain ⟨y,d1,e1,k1,y0,y1⟩:=Bd 5 d hd
   have y1:=y1 (by omega)
   have wy:IntKind.i64.wrap (1+y)=1+y:=Aa (by omega)
   by_cases hlt:(i:Int)<1+y
   ·obtain ⟨v',d2,w1,k2,w3⟩:=inner 3 0 (by omega) (i:Int) d1 vs [] k1 (by omega) (by omega) (by simp) (.inl rfl) (by simp) (by simp)
    obtain ⟨r1,d3,q1,q2,q3⟩:=ih (i+1) (by omega) d2 (vs++[v']) k2 (by simp; omega) (fun v hv'=>by
     rcases List.mem_append.1 hv' with h | h
     ·exact hv v h
     ·simp only [List.mem_singleton] at h; subst h; exact w1)
    refine ⟨r1,d3,Ju ?_,q2,q3⟩
    unfold Gv
    rw [e1,X,wy,if_pos (by simpa using hlt)]
    exact w3 _ (by rw [AR (show i<9223372036854775807 by omega)]; exact q1)
   ·have hi1:1<=i:=by omega
    refine ⟨vs,d1,Ju ?_,k1,fin vs (by omega) (by omega) hv⟩
    unfold Gv
    rw [e1,X,wy,if_neg (by simpa using hlt)]
 obtain ⟨v,d',e,k,hv⟩:=outer 5 0 (by omega) d [] h rfl (fun v hv=>by cases hv)
 exact ⟨v,d',i5 (by unfold Vy; exact e),k,hv⟩

theorem dg (d:Nd) (g:Ab) (k:Nat) (h:WV d) (hg:Lu g k):∃ e d',Pl d g=some (e,d',g)/\WV d'/\Jx e=true:=by
 have hvl:=hg.views.len
 have h6:=hg.six
 have ev:∀ (kd nd at_:Int),2<=kd/\kd<=6->1<=nd/\nd<=6->0<=at_->Jx (kd,nd,at_,0,ByteArray.empty,ByteArray.empty)=true:=by
  intro kd nd at_ h1 h2 h3
  unfold Jx
  simp only [show decide (1<=kd)=true from decide_eq_true (by omega),show decide (kd<=6)=true from decide_eq_true (by omega),show decide (1<=nd)=true from decide_eq_true (by omega),show decide (nd<=6)=true from decide_eq_true (by omega),show decide (0<=at_)=true from decide_eq_true h3,if_neg (show ¬ kd=1 by omega)]
  simp [pE]
 have ev1:∀ (nd at_ op:Int) (key val:ByteArray),1<=nd/\nd<=6->0<=at_->dS op key val=true->Jx (1,nd,at_,op,key,val)=true:=by
  intro nd at_ op key val h2 h3 h4
  unfold Jx
  simp only [show decide (1<=nd)=true from decide_eq_true (by omega),show decide (nd<=6)=true from decide_eq_true (by omega),show decide (0<=at_)=true from decide_eq_true h3,if_true,h4]
  rfl
 have L3:∀ (m i:Nat),i+m=6->∀ (d:Nd) (nd at_ op:Int) (key val:ByteArray) (a b c:_),WV d->1<=nd/\nd<=6->∃ nd' d',DB (i:Int) d g a (1,nd,at_,op,key,val) b c=some ((1,nd',at_,op,key,val),d',g)/\WV d'/\1<=nd'/\nd'<=6:=by
  intro m
  induction m with
  | zero =>
   intro i hi d nd at_ op key val a b c hd hn
   refine ⟨nd,d,HV ?_,hd,hn⟩
   unfold Fl
   rw [if_neg (by simp; omega)]
  | succ m ih =>
   intro i hi d nd at_ op key val a b c hd hn
   have ws:=AR (show i<9223372036854775807 by omega)
   by_cases hs:(BS g i).2.2.2.2.2.1=true
   ·obtain ⟨o,d1,e1,k1⟩:=Hi 4 d hd
    cases o
    ·obtain ⟨nd',d',e2,k2,n2⟩:=ih (i+1) (by omega) d1 ((i+1:Nat):Int) at_ op key val a b c k1 (by omega)
     refine ⟨nd',d',HV ?_,k2,n2⟩
     unfold Fl
     rw [if_pos (by simp; omega),if_pos (by omega),if_pos (by omega),Int.toNat_natCast,qz g i,if_pos hs,e1,X,if_pos (by rfl),ws]
     exact e2
    ·obtain ⟨nd',d',e2,k2,n2⟩:=ih (i+1) (by omega) d1 nd at_ op key val a b c k1 hn
     refine ⟨nd',d',HV ?_,k2,n2⟩
     unfold Fl
     rw [if_pos (by simp; omega),if_pos (by omega),if_pos (by omega),Int.toNat_natCast,qz g i,if_pos hs,e1,X,if_neg (by simp),ws]
     exact e2
   ·obtain ⟨nd',d',e2,k2,n2⟩:=ih (i+1) (by omega) d nd at_ op key val a b c hd hn
    refine ⟨nd',d',HV ?_,k2,n2⟩
    unfold Fl
    rw [if_pos (by simp; omega),if_pos (by omega),if_pos (by omega),Int.toNat_natCast,qz g i,if_neg hs,ws]
    exact e2
 have L4:∀ (m i:Nat),i+m=6->∀ (d:Nd) (kd nd at_:Int) (a:_),WV d->1<=nd/\nd<=6->∃ nd' d',DC (i:Int) d g a (kd,nd,at_,0,ByteArray.empty,ByteArray.empty)=some ((kd,nd',at_,0,ByteArray.empty,ByteArray.empty),d',g)/\WV d'/\1<=nd'/\nd'<=6:=by
  intro m
  induction m with
  | zero =>
   intro i hi d kd nd at_ a hd hn
   refine ⟨nd,d,Fn ?_,hd,hn⟩
   unfold D2
   rw [if_neg (by simp; omega)]
  | succ m ih =>
   intro i hi d kd nd at_ a hd hn
   have ws:=AR (show i<9223372036854775807 by omega)
   obtain ⟨m1,m2⟩:=hg.mem i (by omega)
   have hep:=m1.ep
   have hz:∀ j,g.2.1.getD j ((0:Int),(0:Int),false,false,false,false,([]:List Int),([]:List AL),(0:Int),(0:Int),(0:Int),(0:Int),(ByteArray.empty,ByteArray.empty,(0:Int)),([]:List Int))=BS g j:=fun j=>rfl
   obtain ⟨nd0,d0,e0,k0,n0⟩:=ih (i+1) (by omega) d kd nd at_ a hd hn
   by_cases h1:(BS g i).2.1<(g.1.length:Int)
   ·have gv:=hg.views.get (i:=(BS g i).2.1.toNat) (by omega)
    by_cases h2:((g.1.getD (BS g i).2.1.toNat ([]:List Int)).getD (0:Int).toNat 0==(BS g i).1)=true
    ·obtain ⟨o,d1,e1,k1⟩:=Hi 3 d hd
     cases o
     ·obtain ⟨nd',d',e2,k2,n2⟩:=ih (i+1) (by omega) d1 kd (BS g i).1 at_ a k1 (by omega)
      refine ⟨nd',d',Fn ?_,k2,n2⟩
      unfold D2
      rw [if_pos (by simp; omega),if_pos (by omega),if_pos (by omega),Int.toNat_natCast,hz,if_pos (by simpa using h1),if_pos (by omega),if_pos (by omega),if_pos (by omega),if_pos (by omega),if_pos h2,e1,X,if_pos (by rfl),ws]
      exact e2
     ·obtain ⟨nd',d',e2,k2,n2⟩:=ih (i+1) (by omega) d1 kd nd at_ a k1 hn
      refine ⟨nd',d',Fn ?_,k2,n2⟩
      unfold D2
      rw [if_pos (by simp; omega),if_pos (by omega),if_pos (by omega),Int.toNat_natCast,hz,if_pos (by simpa using h1),if_pos (by omega),if_pos (by omega),if_pos (by omega),if_pos (by omega),if_pos h2,e1,X,if_neg (by simp),ws]
      exact e2
    ·refine ⟨nd0,d0,Fn ?_,k0,n0⟩
     unfold D2
     rw [if_pos (by simp; omega),if_pos (by omega),if_pos (by omega),Int.toNat_natCast,hz,if_pos (by simpa using h1),if_pos (by omega),if_pos (by omega),if_pos (by omega),if_pos (by omega),if_neg h2,ws]
     exact e0
   ·refine ⟨nd0,d0,Fn ?_,k0,n0⟩
    unfold D2
    rw [if_pos (by simp; omega),if_pos (by omega),if_pos (by omega),Int.toNat_natCast,hz,if_neg (by simpa using h1),ws]
    exact e0
 have keyOk:∀ key∈([(⟨#[97]⟩:ByteArray),(⟨#[98]⟩:ByteArray),(⟨#[99]⟩:ByteArray)]:List ByteArray),key.size=1:=by
  intro key hk
  simp only [List.mem_cons,List.mem_nil_iff,or_false] at hk
  rcases hk with rfl | rfl | rfl<;>rfl
 have valOk:∀ v∈([(⟨#[118]⟩:ByteArray),(⟨#[119]⟩:ByteArray),(⟨#[120]⟩:ByteArray),(⟨#[121]⟩:ByteArray)]:List ByteArray),v.size=1:=by
  intro v hk
  simp only [List.mem_cons,List.mem_nil_iff,or_false] at hk
  rcases hk with rfl | rfl | rfl | rfl<;>rfl
 have J2:∀ (d:Nd) (a:_) (kd nd at_:Int),WV d->1<=kd/\kd<=6->1<=nd/\nd<=6->0<=at_->∃ e d',Fk d g a (kd,nd,at_,0,ByteArray.empty,ByteArray.empty)=some (e,d',g)/\WV d'/\Jx e=true:=by
  intro d a kd nd at_ hd hk hn ha
  by_cases h1:kd=1
  ·subst h1
   obtain ⟨op,d1,e1,k1,mem1⟩:=Nf [1,1,2] (by simp) d hd
   obtain ⟨key,d2,e2,k2,mem2⟩:=Ry [(⟨#[97]⟩:ByteArray),(⟨#[98]⟩:ByteArray),(⟨#[99]⟩:ByteArray)] (by simp) d1 k1
   have hkey:=keyOk key mem2
   by_cases ho:op=1
   ·obtain ⟨val,d3,e3,k3,mem3⟩:=Ry [(⟨#[118]⟩:ByteArray),(⟨#[119]⟩:ByteArray),(⟨#[120]⟩:ByteArray),(⟨#[121]⟩:ByteArray)] (by simp) d2 k2
    have hval:=valOk val mem3
    obtain ⟨nd',d',e4,k4,n4⟩:=L3 6 0 (by omega) d3 nd at_ op key val a _ _ k3 hn
    refine ⟨_,d',HW ?_,k4,ev1 nd' at_ op key val n4 ha (by unfold dS; simp [ho,hkey,hval])⟩
    unfold Fm
    rw [if_pos (by simp),e1,X,e2,X,if_pos (by simpa using ho),e3,X]
    exact e4
   ·have ho2:op=2:=by simp at mem1; omega
    obtain ⟨nd',d',e4,k4,n4⟩:=L3 6 0 (by omega) d2 nd at_ op key ByteArray.empty a _ _ k2 hn
    refine ⟨_,d',HW ?_,k4,ev1 nd' at_ op key ByteArray.empty n4 ha (by unfold dS; simp [ho2,hkey,pE])⟩
    unfold Fm
    rw [if_pos (by simp),e1,X,e2,X,if_neg (by simpa using ho)]
    exact e4
  ·by_cases h5:kd=5
   ·obtain ⟨nd',d',e4,k4,n4⟩:=L4 6 0 (by omega) d kd nd at_ a hd hn
    refine ⟨_,d',HW ?_,k4,ev kd nd' at_ (by omega) n4 ha⟩
    unfold Fm
    rw [if_neg (by simpa using h1),if_pos (by simpa using h5)]
    exact e4
   ·refine ⟨_,d,HW ?_,hd,ev kd nd at_ (by omega) hn ha⟩
    unfold Fm
    rw [if_neg (by simpa using h1),if_neg (by simpa using h5)]
 have J1:∀ (d:Nd) (a:_) (kd nd at_:Int),WV d->1<=kd/\kd<=6->1<=nd/\nd<=6->0<=at_->∃ e d',Aw d g a (kd,nd,at_,0,ByteArray.empty,ByteArray.empty)=some (e,d',g)/\WV d'/\Jx e=true:=by
  intro d a kd nd at_ hd hk hn ha
  by_cases h2:kd=2
  ·obtain ⟨o,d1,e1,k1⟩:=Hi 2 d hd
   cases o
   ·obtain ⟨e,d',e2,k2,v2⟩:=J2 d1 a kd nd at_ k1 hk hn ha
    refine ⟨e,d',LR ?_,k2,v2⟩
    unfold HT
    rw [if_pos (by simpa using h2),e1,X,if_neg (by simp)]
    exact e2
   ·obtain ⟨e,d',e2,k2,v2⟩:=J2 d1 a kd nd 0 k1 hk hn (by omega)
    refine ⟨e,d',LR ?_,k2,v2⟩
    unfold HT
    rw [if_pos (by simpa using h2),e1,X,if_pos (by rfl)]
    exact e2
  ·obtain ⟨e,d',e2,k2,v2⟩:=J2 d a kd nd at_ hd hk hn ha
   refine ⟨e,d',LR ?_,k2,v2⟩
   unfold HT
   rw [if_neg (by simpa using h2)]
   exact e2
 have six:∀ (d:Nd) (a:_) (kd nd at_:Int),WV d->1<=kd/\kd<=6->1<=nd/\nd<=6->0<=at_->∃ e d',(if (kd==6)=true then ((C9 4 d).bind fun y5=>(if (!y5.1)=true then (Aw y5.2 g a (1,nd,at_,0,ByteArray.empty,ByteArray.empty)) else (Aw y5.2 g a (kd,nd,at_,0,ByteArray.empty,ByteArray.empty)))) else (Aw d g a (kd,nd,at_,0,ByteArray.empty,ByteArray.empty)))=some (e,d',g)/\WV d'/\Jx e=true:=by
  intro d a kd nd at_ hd hk hn ha
  by_cases h2:kd=6
  ·obtain ⟨o,d1,e1,k1⟩:=Hi 4 d hd
   cases o
   ·obtain ⟨e,d',e2,k2,v2⟩:=J1 d1 a 1 nd at_ k1 (by omega) hn ha
    refine ⟨e,d',?_,k2,v2⟩
    rw [if_pos (by simpa using h2),e1,X,if_pos (by rfl)]
    exact e2
   ·obtain ⟨e,d',e2,k2,v2⟩:=J1 d1 a kd nd at_ k1 hk hn ha
    refine ⟨e,d',?_,k2,v2⟩
    rw [if_pos (by simpa using h2),e1,X,if_neg (by simp)]
    exact e2
  ·obtain ⟨e,d',e2,k2,v2⟩:=J1 d a kd nd at_ hd hk hn ha
   refine ⟨e,d',?_,k2,v2⟩
   rw [if_neg (by simpa using h2)]
   exact e2
 obtain ⟨kd,d1,e1,k1,mem1⟩:=Nf [1,1,1,2,2,2,2,2,2,2,2,3,4,5,6] (by simp) d h
 obtain ⟨nd,d2,e2,k2,n0,n1⟩:=Bd 4 d1 k1
 obtain ⟨at_,d3,e3,k3,a0,a1⟩:=Bd 20 d2 k2
 have n1:=n1 (by omega)
 have wn:IntKind.i64.wrap (1+nd)=1+nd:=Aa (by omega)
 have hkd:1<=kd/\kd<=6:=by
  simp only [List.mem_cons,List.mem_nil_iff,or_false] at mem1
  omega
 have fin:∃ e d',LQ d3 g ((0:Int),(0:Int),(0:Int),(0:Int),ByteArray.empty,ByteArray.empty) (kd,1+nd,at_,0,ByteArray.empty,ByteArray.empty)=some (e,d',g)/\WV d'/\Jx e=true:=by
  by_cases hf:((g.2.2.1.length:Int)==0)=true
  ·cases hin:(decide (2<=kd)&&decide (kd<=4)) with
   | true =>
    obtain ⟨e,d',e4,k4,v4⟩:=J1 d3 ((0:Int),(0:Int),(0:Int),(0:Int),ByteArray.empty,ByteArray.empty) 1 (1+nd) at_ k3 (by omega) (by omega) a0
    refine ⟨e,d',LT ?_,k4,v4⟩
    unfold HU
    rw [if_pos hf,At,X,if_pos hin,if_neg (show ¬ ((1:Int)==6)=true by decide)]
    exact e4
   | false =>
    obtain ⟨e,d',e4,k4,v4⟩:=six d3 ((0:Int),(0:Int),(0:Int),(0:Int),ByteArray.empty,ByteArray.empty) kd (1+nd) at_ k3 hkd (by omega) a0
    refine ⟨e,d',LT ?_,k4,v4⟩
    unfold HU
    rw [if_pos hf,At,X,if_neg (by rw [hin]; simp)]
    exact e4
  ·obtain ⟨e,d',e4,k4,v4⟩:=six d3 ((0:Int),(0:Int),(0:Int),(0:Int),ByteArray.empty,ByteArray.empty) kd (1+nd) at_ k3 hkd (by omega) a0
   refine ⟨e,d',LT ?_,k4,v4⟩
   unfold HU
   rw [if_neg hf]
   exact e4
 obtain ⟨e,d',e4,k4,v4⟩:=fin
 refine ⟨e,d',lg ?_,k4,v4⟩
 unfold Xm
 rw [e1,X,e2,X,e3,X,wn]
 exact e4

theorem dh (x:List Int) (d:Nd) (hx:x.length<=1048576) (h:WV d):∃ v es d',Ph x d=some ((v,es),d')/\WV d'/\QK v/\es.length<=69/\∀ e∈es,Jx e=true:=by
 obtain ⟨v,d1,e1,k1,hv⟩:=an d h
 have L:∀ (n:Nat),n<=69->∀ a b,∃ es d',D1 (n:Int) ((0:Nat):Int) d1 a b [] v (Ae v)=some ((v,es),d')/\WV d'/\es.length<=69/\∀ e∈es,Jx e=true:=by
  intro n hn a b
  refine GY (n:=n) (P:=fun i=>∀ (d:Nd) (es:List Df) (g:Ab),WV d->Lu g i->es.length=i->(∀ e∈es,Jx e=true)->∃ es' d',D1 (n:Int) (i:Int) d a b es v g=some ((v,es'),d')/\WV d'/\es'.length<=69/\∀ e∈es',Jx e=true) (fun d es g hd hg hl he=>?_) (fun i hi ih d es g hd hg hl he=>?_) 0 (by omega) d1 [] (Ae v) k1 (T5 hv) rfl (fun e he=>by cases he)
  ·refine ⟨es,d,RO ?_,hd,by omega,he⟩
   unfold LI
   rw [if_neg (by simp)]
  ·obtain ⟨e,d2,e2,k2,ke⟩:=dg d g i hd hg
   obtain ⟨q1,q2,q3⟩:=WW (i:Int) e g i hg (by omega) ke
   obtain ⟨es',d3,e3,k3⟩:=ih d2 (es++[e]) (mT g (i:Int) e).2 k2 q2 (by simp; omega) (fun y hy=>by
    rcases List.mem_append.1 hy with hy | hy
    ·exact he y hy
    ·rw [List.mem_singleton.1 hy]; exact ke)
   refine ⟨es',d3,RO ?_,k3⟩
   unfold LI
   rw [if_pos (by simpa using hi),e2,X]
   dsimp only
   rw [q1,X,if_pos (by simp; omega),AR (by omega)]
   exact e3
 have wq:IntKind.i64.wrap (Int.tdiv (x.length:Int) 4)=((x.length / 4:Nat):Int):=by
  rw [Int.tdiv_eq_ediv_of_nonneg (by omega),Aa (by omega)]
  omega
 have wn:IntKind.i64.wrap (20+((x.length / 4:Nat):Int))=((20+x.length / 4:Nat):Int):=by rw [Aa (by omega)]; omega
 by_cases hn:20+x.length / 4<=69
 ·obtain ⟨es,d',e,k,k2⟩:=L (20+x.length / 4) hn [] []
  refine ⟨v,es,d',Xc ?_,k,hv,k2⟩
  unfold P6
  rw [e1,X,Lq hv,X,if_neg (by omega),wq,wn,if_neg (by simp; omega)]
  exact e
 ·obtain ⟨es,d',e,k,k2⟩:=L 69 (by omega) [] []
  refine ⟨v,es,d',Xc ?_,k,hv,k2⟩
  unfold P6
  rw [e1,X,Lq hv,X,if_neg (by omega),wq,wn,if_pos (by simp; omega)]
  exact e

def R0 (views:List (List Int)) (e:Int):Int:=(views.getD (e-1).toNat []).getD 0 0
def Lr (l:List AL) (b:Int):Prop:=∀ y∈l,y.2.2<=b
theorem Lr.mono {l:List AL} {a b:Int} (h:Lr l a) (hab:a<=b):Lr l b:=fun y hy=>Int.le_trans (h y hy) hab
theorem gQ {b:Int}:Lr [] b:=fun y hy=>by cases hy
theorem YL {x:List AL} {a b:AL} (h:b∈Ai x a):b=a\/b∈x:=by
 unfold Ai at h
 split at h
 ·exact .inr h
 ·split at h
  ·split at h
   ·exact qL h
   ·exact .inr h
  ·exact .inr h
theorem Lr.put {l:List AL} {a:AL} {b:Int} (h:Lr l b) (ha:a.2.2<=b):Lr (Ai l a) b:=fun y hy=>by
 rcases YL hy with e | e
 ·rw [e]; exact ha
 ·exact h y e
structure V1 (views:List (List Int)) (m:AA):Prop where
 lead:m.2.2.2.2.1=true->m.2.1<=(views.length:Int)/\R0 views m.2.1=m.1
 ver:Lr m.2.2.2.2.2.2.2.1 (1000*m.2.1+900)
 own:m.2.2.2.2.1=true->m.2.2.2.1=true->Lr m.2.2.2.2.2.2.2.1 (1000*m.2.1+m.2.2.2.2.2.2.2.2.1)
 task:m.2.2.2.2.2.2.2.2.2.1≠0->m.2.2.2.2.2.2.2.2.2.2.2.2.1.2.2<=1000*m.2.1+m.2.2.2.2.2.2.2.2.1
 view:m.2.2.2.1=true->m.2.1<=(views.length:Int)/\(views.getD (m.2.1-1).toNat []).contains m.1=true
structure V2 (views:List (List Int)) (x:BK):Prop where
 inst:x.1=3->x.2.2.2.2.1=0
 old:x.1=2\/x.1=3->Lr x.2.2.2.2.2 (1000*x.2.2.2.1)
 store:x.1=5->x.2.2.1≠R0 views x.2.2.2.1/\Lr x.2.2.2.2.2 (1000*x.2.2.2.1+900)
theorem V2.plain {views:List (List Int)} {x:BK} (h2:x.1≠2) (h3:x.1≠3) (h5:x.1≠5):V2 views x:=⟨fun h=>absurd h h3,fun h=>by omega,fun h=>absurd h h5⟩
theorem V1.finish {views:List (List Int)} {m:AA} (h:V1 views m) (hc:m.2.2.2.2.2.2.2.2.1<=900) (h0:m.2.2.2.2.2.2.2.2.2.1≠0):V1 views (Bm m).2:=by
 have ht:=h.task h0
 unfold Bm
 split
 ·exact ⟨h.lead,h.ver.put (by omega),fun h1 h2=>(h.own h1 h2).put ht,fun h0=>absurd rfl h0,h.view⟩
 ·exact ⟨h.lead,h.ver,h.own,fun h0=>absurd rfl h0,h.view⟩
theorem V1.bare {views:List (List Int)} {m:AA} (h:V1 views m) {e:Int} (he:m.2.1<=e):V1 views (T0 m e) :=
 ⟨fun h=>(by cases h),h.ver.mono (by show _<=1000*e+900; omega),fun h=>(by cases h),fun h=>absurd rfl h,fun h=>(by cases h)⟩
theorem V1.inst {views:List (List Int)} {i e:Int} {its:List AL} (h:Lr its (1000*e)) (hv:e<=(views.length:Int)/\(views.getD (e-1).toNat []).contains i=true):V1 views (i,e,false,true,false,false,([]:List Int),its,(0:Int),(0:Int),(0:Int),(0:Int),(ByteArray.empty,ByteArray.empty,(0:Int)),([]:List Int)) :=
 ⟨fun h=>(by cases h),h.mono (by show _<=1000*e+900; omega),fun h=>(by cases h),fun h=>absurd rfl h,fun _=>hv⟩
theorem mU {views:List (List Int)} {i e:Int} (hv:QK views) (h1:1<=e) (he:e<=(views.length:Int)) (hf:R0 views e=i):(views.getD (e-1).toNat []).contains i=true:=by
 have g:=hv.get (i:=(e-1).toNat) (by omega)
 rw [<- hf,List.contains_iff_mem,R0,AU (show 0<(views.getD (e-1).toNat []).length by omega)]
 exact List.getElem_mem _
theorem V1.has {views:List (List Int)} {m:AA} {view:List Int} {its:List AL} (hv:QK views) (h1:1<=m.2.1) (hl:m.2.2.2.2.1=true) (h:V1 views m) (hc:0<=m.2.2.2.2.2.2.2.2.1) (hi:Lr its (1000*m.2.1)):V1 views (QV m view its) :=
 ⟨h.lead,hi.mono (by show _<=1000*m.2.1+900; omega),fun _ _=>hi.mono (by show _<=1000*m.2.1+m.2.2.2.2.2.2.2.2.1; omega),h.task,fun _=>⟨(h.lead hl).1,mU hv h1 (h.lead hl).1 (h.lead hl).2⟩⟩
theorem V2.insts {views:List (List Int)} {i e:Int} {l:List Int} {its:List AL} (h:Lr its (1000*e)):∀ y∈l.map (fun v=>((3:Int),i,v,e,(0:Int),its)),V2 views y:=by
 intro y hy
 obtain ⟨v,_,rfl⟩:=List.mem_map.1 hy
 exact ⟨fun _=>rfl,fun _=>h,fun h5=>absurd h5 (by decide:(3:Int)≠5)⟩
theorem V2.reply {views:List (List Int)} {m:AA} {x:BK} {k:Int} (hk:k=4\/k=6\/k=8):∀ y∈EA m x k,V2 views y:=by
 intro y hy
 simp only [EA,List.mem_singleton] at hy
 subst hy
 exact V2.plain (by show k≠2; omega) (by show k≠3; omega) (by show k≠5; omega)
theorem rd {views:List (List Int)}:∀ y∈([]:List BK),V2 views y:=fun y hy=>by cases hy
def V4 (views:List (List Int)) (n:AA) (told:List BK):Prop:=V1 views n/\∀ y∈told,V2 views y
theorem V4.same {views:List (List Int)} {m:AA} (h:V1 views m):V4 views m []:=⟨h,rd⟩
theorem uI {views:List (List Int)} {m:AA} (h:V1 views m) (hc:m.2.2.2.2.2.2.2.2.1<=900) (h0:m.2.2.2.2.2.2.2.2.2.1≠0) (f:Int):V4 views (Ft m f).1 (Ft m f).2.1:=by
 have hl:V1 views (nt m f):=⟨h.lead,h.ver,h.own,h.task,h.view⟩
 unfold Ft
 split
 ·exact ⟨hl.finish hc h0,rd⟩
 ·exact .same hl
theorem xU {views:List (List Int)} {m:AA} {x:BK} (hv:QK views) (hlen:m.2.1<=(views.length:Int)) (hm:Ih m) (h:V1 views m) (hx:V2 views x) (hxo:sn x) (ht:x.2.2.1=m.1) (he:x.2.2.2.1=m.2.1):V4 views (YI m (views.getD (m.2.1-1).toNat []) x).1 (YI m (views.getD (m.2.1-1).toNat []) x).2.1:=by
 have hcnt:=hm.count
 unfold YI
 by_cases k2:x.1=2
 ·rw [if_pos k2]
  split
  ·rename_i hc
   simp only [Bool.and_eq_true] at hc
   have:=hx.old (.inl k2)
   rw [he] at this
   exact ⟨V1.has hv hm.ep.1 hc.1 h hcnt.1 this,V2.insts this⟩
  ·exact .same h
 rw [if_neg k2]
 by_cases k3:x.1=3
 ·rw [if_pos k3]
  split
  ·exact .same h
  ·rename_i hc
   split
   ·exact .same h
   ·split
    ·exact ⟨h,V2.reply (.inl rfl)⟩
    ·have:=hx.old (.inr k3)
     rw [he] at this
     refine ⟨V1.inst this ⟨hlen,?_⟩,V2.reply (.inl rfl)⟩
     cases q:(views.getD (m.2.1-1).toNat []).contains m.1 with
     | true=>rfl
     | false=>rw [q] at hc; exact absurd rfl hc
 rw [if_neg k3]
 by_cases k4:x.1=4
 ·rw [if_pos k4]
  split
  ·exact .same ⟨h.lead,h.ver,h.own,h.task,h.view⟩
  ·exact .same h
 rw [if_neg k4]
 by_cases k5:x.1=5
 ·rw [if_pos k5]
  split
  ·obtain ⟨s1,s2⟩:=hx.store k5
   have hlen:x.2.2.2.2.2.length=1:=by
    have:=hxo.shape
    rw [if_neg (by omega),if_pos k5] at this
    exact this
   have hit:(x.2.2.2.2.2.getD 0 (ByteArray.empty,ByteArray.empty,(0:Int))).2.2<=1000*m.2.1+900:=by
    rw [AU (show 0<x.2.2.2.2.2.length by omega),<- he]
    exact s2 _ (List.getElem_mem _)
   refine ⟨⟨h.lead,h.ver.put hit,fun h1 h2=>?_,h.task,h.view⟩,V2.reply (.inr (.inl rfl))⟩
   exact absurd (h.lead h1).2 (by rw [<- he,<- ht]; exact Ne.symm s1)
  ·exact .same h
 rw [if_neg k5]
 by_cases k7:x.1=7
 ·rw [if_pos k7]
  split
  ·exact ⟨h,V2.reply (.inr (.inr rfl))⟩
  ·exact .same h
 rw [if_neg k7]
 by_cases hc:(x.1=6\/x.1=8)/\m.2.2.2.2.2.2.2.2.2.1=(if x.1=8 then 2 else 1)/\m.2.2.2.2.2.2.2.2.2.2.2.1=x.2.2.2.2.1
 ·rw [if_pos hc]
  exact uI h hcnt.2 (by have:=hc.2.1; split at this<;>omega) _
 ·rw [if_neg hc]
  exact .same h
theorem w7 {views:List (List Int)} {m:AA} {x:BK} (hv:QK views) (hm:Ih m) (h:V1 views m) (hx:V2 views x):V4 views (DF m views x).1 (DF m views x).2.1:=by
 unfold DF
 split
 ·rename_i hc
  simp only [Bool.and_eq_true,decide_eq_true_eq,beq_iff_eq] at hc
  obtain ⟨⟨⟨hmo,h1⟩,h2⟩,h3⟩:=hc
  split
  ·rename_i he
   exact xU hv (by omega) hm h hx (Ye.1 hmo) h1 he
  ·split
   ·rename_i hs
    simp only [Bool.and_eq_true,beq_iff_eq] at hs
    refine ⟨h.bare h2,fun y hy=>?_⟩
    simp only [List.mem_singleton] at hy
    subst hy
    refine ⟨fun h3=>absurd h3 (by decide:(2:Int)≠3),fun _=>h.ver.mono ?_,fun h5=>absurd h5 (by decide:(2:Int)≠5)⟩
    show _<=1000*x.2.2.2.1
    omega
   ·split
    ·rename_i hs
     simp only [Bool.and_eq_true,beq_iff_eq] at hs
     exact ⟨V1.inst (hx.old (.inr hs.1.1)) ⟨h3,hs.1.2⟩,V2.reply (.inl rfl)⟩
    ·exact .same h
 ·exact .same h
theorem vo {view:List Int} {i v:Int} (h:v∈Bu view i):v≠i:=by
 have:=(List.mem_filter.1 h).2
 simpa using this
theorem vp {views:List (List Int)} {m:AA} {op call:Int} {key val:ByteArray} (hm:Ih m) (h:V1 views m) (hb:(DG m views op call key val).2.2.2=true) :
  V4 views (DG m views op call key val).1 (DG m views op call key val).2.1:=by
 have hcnt:=hm.count
 unfold DG at hb ⊢
 split at hb
 ·rename_i hmay
  rw [if_pos hmay]
  obtain ⟨h1,h2,h3,h4,h5,h6,h7,h8,h9,h10⟩:=Yg hmay
  split at hb
  ·cases hb
  ·rename_i hn
   rw [if_neg hn]
   have ht:V1 views (F4 m (views.getD (m.2.1-1).toNat []) op call key val):=by
    refine ⟨h.lead,h.ver,fun a b=>(h.own a b).mono ?_,fun _=>?_,h.view⟩
    ·show _<=1000*m.2.1+(m.2.2.2.2.2.2.2.2.1+1); omega
    ·show 1000*m.2.1+(m.2.2.2.2.2.2.2.2.1+1)<=1000*m.2.1+(m.2.2.2.2.2.2.2.2.1+1); omega
   unfold QM
   split
   ·exact ⟨ht.finish (by show m.2.2.2.2.2.2.2.2.1+1<=900; omega) (by show op≠0; omega),rd⟩
   ·refine ⟨ht,fun y hy=>?_⟩
    obtain ⟨v,hv,rfl⟩:=List.mem_map.1 hy
    have hne:=vo hv
    by_cases ho:op=1
    ·rw [if_pos ho,if_pos ho]
     refine ⟨fun h3=>absurd h3 (by decide:(5:Int)≠3),fun h=>absurd h (by decide:¬ ((5:Int)=2\/(5:Int)=3)),fun _=>⟨fun e=>hne (e.trans ?_),fun z hz=>?_⟩⟩
     ·exact h10
     ·simp only [List.mem_singleton] at hz
      subst hz
      show 1000*m.2.1+(m.2.2.2.2.2.2.2.2.1+1)<=1000*m.2.1+900
      omega
    ·rw [if_neg ho,if_neg ho]
     exact V2.plain (by decide:(7:Int)≠2) (by decide:(7:Int)≠3) (by decide:(7:Int)≠5)
 ·cases hb
theorem vq {views:List (List Int)} {m:AA} {e:Int} (hvo:QK views) (h:V1 views m) (hb:(EV m views e).2.2=true):V4 views (EV m views e).1 (EV m views e).2.1:=by
 unfold EV at hb ⊢
 split at hb
 ·rename_i hc
  rw [if_pos hc]
  have hv:Lr m.2.2.2.2.2.2.2.1 (1000*e):=h.ver.mono (by omega)
  have hn:V1 views (KT m e):=⟨fun _=>⟨hc.2.1,hc.2.2.2⟩,hv.mono (by show _<=1000*e+900; omega),fun _ h=>(by cases h),fun h=>absurd rfl h,fun h=>(by cases h)⟩
  split
  ·exact ⟨V1.has hvo (by show 1<=e; omega) rfl hn (by show (0:Int)<=0; omega) hv,V2.insts hv⟩
  ·refine ⟨hn,fun y hy=>?_⟩
   obtain ⟨v,hv,rfl⟩:=List.mem_map.1 hy
   exact V2.plain (by decide:(1:Int)≠2) (by decide:(1:Int)≠3) (by decide:(1:Int)≠5)
 ·cases hb
theorem V1.fall {views:List (List Int)} {m:AA}:V1 views (T4 m):=⟨fun h=>(by cases h),gQ,fun h=>(by cases h),fun h=>absurd rfl h,fun h=>(by cases h)⟩
theorem V1.first {views:List (List Int)} {i:Int} (hv:QK views):V1 views (Dy i views):=by
 have:=hv.len
 refine ⟨fun h=>⟨by show (1:Int)<=_; omega,?_⟩,gQ,fun _ _=>gQ,fun h=>absurd rfl h,fun h=>⟨by show (1:Int)<=_; omega,h⟩⟩
 exact beq_iff_eq.1 h
structure V3 (g:Ab):Prop where
 mem:∀ i,i<6->V1 g.1 (BS g i)
 fly:∀ x∈g.2.2.1,V2 g.1 x
 calls:∀ c∈g.2.2.2,c.2.2.2.2.1=-1\/0<=c.2.2.2.2.1
theorem q_ {at_:Int} (ha:0<=at_) (s:Cn) {cs:List H5} (h:∀ c∈cs,c.2.2.2.2.1=-1\/0<=c.2.2.2.2.1):∀ c∈Hj at_ cs s,c.2.2.2.2.1=-1\/0<=c.2.2.2.2.1:=by
 unfold Hj
 split
 ·exact h
 ·intro c hc
  rcases List.mem_or_eq_of_mem_set hc with e | e
  ·exact h c e
  ·rw [e]; exact .inr ha
theorem hJ {at_:Int} (ha:0<=at_):∀ (said:List Cn) {cs:List H5},(∀ c∈cs,c.2.2.2.2.1=-1\/0<=c.2.2.2.2.1)->∀ c∈said.foldl (Hj at_) cs,c.2.2.2.2.1=-1\/0<=c.2.2.2.2.1
 | [],_,h=>h
 | s::l,_,h=>hJ ha l (q_ ha s h)
theorem V3.member {g:Ab} (h:V3 g) (h6:g.2.1.length=6) {n:AA} {told:List BK} {said:List Cn} {at_:Int} {i:Nat} (ha:0<=at_) (hi:i<6) (hid:n.1=(i:Int)+1) (hn:V4 g.1 n told):V3 (BG g n told said at_):=by
 refine ⟨fun j hj=>?_,fun x hx=>?_,hJ ha said h.calls⟩
 ·rw [mS h6 hj hid hi]
  split
  ·exact hn.1
  ·exact h.mem j hj
 ·rcases List.mem_append.1 hx with h1 | h1
  ·exact h.fly x h1
  ·exact hn.2 x h1
theorem V3.less {g:Ab} (h:V3 g) (i:Nat):V3 (Ej g i):=⟨h.mem,fun x hx=>by
 rcases List.mem_append.1 hx with h1 | h1
 ·exact h.fly x (List.mem_of_mem_take h1)
 ·exact h.fly x (List.mem_of_mem_drop h1),h.calls⟩
theorem V3.call {g:Ab} (h:V3 g) (at_:Int) (e:Df):V3 (Gf g at_ e):=⟨h.mem,h.fly,fun c hc=>by
 rcases List.mem_append.1 hc with h1 | h1
 ·exact h.calls c h1
 ·simp only [List.mem_singleton] at h1
  rw [h1]; exact .inl rfl⟩
theorem V3.adopt {g:Ab} {k:Nat} (h:V3 g) (hg:Lu g k) {at_ node:Int} (ha:0<=at_) (hn:1<=node/\node<=6):∀ (n:Nat) (e:Int),V3 (H6 g at_ (BS g (node-1).toNat) node n e).2
 | 0,_=>h
 | n+1,e=>by
  unfold H6
  split
  ·exact V3.adopt h hg ha hn n (e+1)
  ·split
   ·rename_i hb
    obtain ⟨m1,m2⟩:=hg.mem (node-1).toNat (by omega)
    have hao:=T3 (e:=e) m1 hg.views hb
    exact h.member hg.six (i:=(node-1).toNat) ha (by omega) (by rw [hao.2.1,m2]) (vq hg.views (h.mem _ (by omega)) hb)
   ·exact h
theorem V3.event {g:Ab} {k:Nat} (h:V3 g) (hg:Lu g k) {at_:Int} (ha:0<=at_) {e:Df} (he:Jx e=true):V3 (mT g at_ e).2:=by
 have hn:=dd he
 unfold mT
 split
 ·unfold I2
  split
  ·rename_i hb
   obtain ⟨m1,m2⟩:=hg.mem (e.2.1-1).toNat (by omega)
   have hbo:=Yh (op:=e.2.2.2.1) (call:=(g.2.2.2.length:Int)) (key:=e.2.2.2.2.1) (val:=e.2.2.2.2.2) m1 hg.views
   exact (h.call at_ e).member (g:=Gf g at_ e) hg.six (i:=(e.2.1-1).toNat) ha (by omega) (by rw [hbo.id hb,m2]) (vp m1 (h.mem _ (by omega)) hb)
  ·exact h.call at_ e
 ·split
  ·exact h.adopt hg ha (by omega) _ _
  ·split
   ·obtain ⟨m1,m2⟩:=hg.mem (e.2.1-1).toNat (by omega)
    exact h.member hg.six (i:=(e.2.1-1).toNat) ha (by omega) m2 ⟨V1.fall,rd⟩
   ·unfold am
    split
    ·exact h
    ·rename_i hne
     have hl:0<g.2.2.1.length:=by
      cases hq:g.2.2.1 with
      | nil=>exact absurd hq hne
      | cons a l=>simp
     have hlt:(e.2.2.1 % (g.2.2.1.length:Int)).toNat<g.2.2.1.length:=by
      have h1:=Int.emod_lt_of_pos e.2.2.1 (show (0:Int)<(g.2.2.1.length:Int) by omega)
      have h2:=Int.emod_nonneg e.2.2.1 (show (g.2.2.1.length:Int)≠0 by omega)
      omega
     have hmem:g.2.2.1.getD (e.2.2.1 % (g.2.2.1.length:Int)).toNat DH∈g.2.2.1:=by
      rw [AU hlt]
      exact List.getElem_mem _
     split
     ·refine ⟨h.mem,fun x hx=>?_,h.calls⟩
      rcases List.mem_append.1 hx with h1 | h1
      ·exact h.fly x h1
      ·simp only [List.mem_singleton] at h1
       rw [h1]
       exact h.fly _ hmem
     ·split
      ·exact h.less _
      ·have hto:=(hg.fly _ hmem).to
       generalize hx:g.2.2.1.getD (e.2.2.1 % (g.2.2.1.length:Int)).toNat DH=x at *
       obtain ⟨m1,m2⟩:=hg.mem (x.2.2.1-1).toNat (by omega)
       exact (h.less _).member (g:=Ej g (e.2.2.1 % (g.2.2.1.length:Int)).toNat) hg.six (i:=(x.2.2.1-1).toNat) ha (by omega) (by rw [(T2 (x:=x) m1 hg.views).id,m2]) (w7 hg.views m1 (h.mem _ (by omega)) (h.fly _ hmem))
theorem V3.new {views:List (List Int)} (hv:QK views):V3 (Ae views):=by
 refine ⟨fun i hi=>?_,(fun x hx=>by cases hx),fun x hx=>by cases hx⟩
 have h5:i=0\/i=1\/i=2\/i=3\/i=4\/i=5:=by omega
 rcases h5 with rfl | rfl | rfl | rfl | rfl | rfl<;>exact V1.first hv
theorem V3.run:∀ (es:List Df) (n:Nat) (g:Ab) (cs:List Int),Lu g n->V3 g->n+es.length<=70->(∀ e∈es,Jx e=true)->V3 (H7 n es g cs).1
 | [],n,g,cs,_,h,_,_=>h
 | e::es,n,g,cs,hg,h,hn,he=>by
  simp only [List.length_cons] at hn
  obtain ⟨h2,_⟩:=hg.event (at_:=(n:Int)) (he e (by simp))
  exact V3.run es (n+1) _ _ h2 (h.event hg (by omega) (he e (by simp))) (by omega) (fun x hx=>he x (by simp [hx]))

theorem di (a b:Int):LE a b=some (decide (a<b)):=mK (by
 have h:∀ a,JQ a=some false:=fun a=>ja (by unfold WS; simp)
 unfold YC
 rw [h,X,if_neg (by simp)])
def pH (l:List Int) (j:Nat):List Int:=(l.set (j+1) (l.getD j 0)).set j (l.getD (j+1) 0)
def uJ:Nat->List Int->List Int
 | 0,l=>l
 | j+1,l=>if l.getD (j+1) 0<l.getD j 0 then uJ j (pH l j) else l
def xD:Nat->Nat->List Int->List Int
 | 0,_,l=>l
 | k+1,i,l=>xD k (i+1) (uJ i l)
theorem dj (l:List Int) (j:Nat):(pH l j).length=l.length:=by simp [pH]
theorem ju:∀ (j:Nat) (l:List Int),(uJ j l).length=l.length
 | 0,l=>rfl
 | j+1,l=>by
  unfold uJ
  split
  ·rw [ju j,dj]
  ·rfl
theorem sq {l:List Int} {j:Nat} (h:j+1<l.length):(pH l j).Perm l:=by
 obtain ⟨p,a,b,q,rfl,rfl⟩:∃ p a b q,l=p++a::b::q/\p.length=j :=
  ⟨l.take j,l[j],l[j+1],l.drop (j+2),by rw [<- List.drop_eq_getElem_cons h,<- List.drop_eq_getElem_cons (show j<l.length by omega),List.take_append_drop],by rw [List.length_take]; omega⟩
 have e:pH (p++a::b::q) p.length=p++b::a::q:=by
  unfold pH
  have e1:(p++a::b::q).getD p.length 0=a:=by simp [List.getD]
  have e2:(p++a::b::q).getD (p.length+1) 0=b:=by simp [List.getD]
  rw [e1,e2,List.set_append_right _ _ (by omega),List.set_append_right _ _ (by omega)]
  simp
 rw [e]
 exact List.Perm.append_left p (List.Perm.swap a b q)
theorem qO:∀ (j:Nat) (l:List Int),j<l.length->(uJ j l).Perm l
 | 0,l,_=>List.Perm.refl l
 | j+1,l,h=>by
  unfold uJ
  split
  ·exact (qO j _ (by rw [dj]; omega)).trans (sq h)
  ·exact List.Perm.refl l
theorem mV:∀ (k i:Nat) (l:List Int),i+k=l.length->(xD k i l).Perm l
 | 0,_,l,_=>List.Perm.refl l
 | k+1,i,l,h=>(mV k (i+1) _ (by rw [ju]; omega)).trans (qO i l (by omega))
theorem re {l:List Int} {j:Nat} (h:j+1<l.length) (a:Nat):(pH l j).getD a 0=if a=j then l.getD (j+1) 0 else if a=j+1 then l.getD j 0 else l.getD a 0:=by
 unfold pH
 simp only [List.getD_eq_getElem?_getD,List.getElem?_set,List.length_set]
 by_cases h1:a=j
 ·subst h1
  rw [if_pos rfl,if_pos (by omega),if_pos rfl]
  simp
 ·rw [if_neg (fun e=>h1 e.symm),if_neg h1]
  by_cases h2:a=j+1
  ·subst h2
   rw [if_pos rfl,if_pos (by omega),if_pos rfl]
   simp
  ·rw [if_neg (fun e=>h2 e.symm),if_neg h2]
def w8 (i:Nat) (l:List Int):Prop:=∀ a b,a<b->b<=i->l.getD a 0<=l.getD b 0
theorem uK (i:Nat):∀ (j:Nat) (l:List Int),j<=i->i<l.length->(∀ a b,a<b->b<=i->b≠j->l.getD a 0<=l.getD b 0)->w8 i (uJ j l)
 | 0,l,_,_,h=>fun a b h1 h2=>h a b h1 h2 (by omega)
 | j+1,l,hj,hi,h=>by
  unfold uJ
  split
  ·rename_i hlt
   refine uK i j _ (by omega) (by rw [dj]; exact hi) fun a b h1 h2 h3=>?_
   rw [re (by omega),re (by omega)]
   rw [if_neg h3]
   by_cases hb:b=j+1
   ·subst hb
    rw [if_pos rfl]
    by_cases ha:a=j
    ·rw [if_pos ha]; omega
    ·rw [if_neg ha,if_neg (by omega)]
     exact h a j (by omega) (by omega) (by omega)
   ·rw [if_neg hb]
    by_cases ha:a=j
    ·rw [if_pos ha]; exact h (j+1) b (by omega) h2 hb
    ·rw [if_neg ha]
     by_cases ha2:a=j+1
     ·rw [if_pos ha2]; exact h j b (by omega) h2 hb
     ·rw [if_neg ha2]; exact h a b h1 h2 hb
  ·rename_i hlt
   intro a b h1 h2
   by_cases hb:b=j+1
   ·subst hb
    by_cases ha:a=j
    ·subst ha; omega
    ·have:=h a j (by omega) (by omega) (by omega)
     omega
   ·exact h a b h1 h2 hb
theorem uL:∀ (k i:Nat) (l:List Int),i+k=l.length->1<=i->w8 (i-1) l->w8 (l.length-1) (xD k i l)
 | 0,i,l,h,hi,hu=>by
  have:i-1=l.length-1:=by omega
  rw [<- this]; exact hu
 | k+1,i,l,h,hi,hu=>by
  have:=uL k (i+1) (uJ i l) (by rw [ju]; omega) (by omega) (by
   rw [Nat.add_sub_cancel]
   exact uK i i l (Nat.le_refl _) (by omega) fun a b h1 h2 h3=>hu a b h1 (by omega))
  rw [ju] at this
  exact this
theorem rf (n i:Nat) (hn:n<=12) (g:List Int->List Int) (K:∀ l:List Int,l.length=n->As 0 (n:Int) ((i:Int)+1) l=some (g l)) (hi:i<n) :
  ∀ (j:Nat) (l:List Int),j<n->l.length=n->Bk 0 (n:Int) (i:Int) (j:Int) l=some (g (uJ j l))
 | 0,l,hj,hl=>EJ (by
  unfold CY
  rw [if_neg (by simp),Aa (by omega)]
  exact K l hl)
 | j+1,l,hj,hl=>EJ (by
  unfold CY
  have e1:IntKind.i64.wrap (((j+1:Nat):Int)-1)=(j:Int):=by rw [Aa (by omega)]; omega
  have e2:((j+1:Nat):Int).toNat=j+1:=by omega
  have e3:((j:Nat):Int).toNat=j:=by omega
  rw [if_pos (by simp<;>omega),if_pos (by omega),if_pos (by omega),e1,if_pos (by omega),if_pos (by omega),di,X,e2,e3]
  unfold uJ
  by_cases h:l.getD (j+1) 0<l.getD j 0
  ·rw [if_pos (by simpa using h),if_pos h]
   refine Iy ?_
   unfold EI
   simp only [e1,e2,e3]
   rw [if_pos (by omega),if_pos (by omega),if_pos (by omega),if_pos (by omega),if_pos (by omega),if_pos (by omega),if_pos (by omega),if_pos (by rw [List.length_set]; omega)]
   exact rf n i hn g K hi j (pH l j) (by omega) (by rw [dj]; exact hl)
  ·rw [if_neg (by simpa using h),if_neg h,Aa (by omega)]
   exact K l hl)
theorem rg (n:Nat) (hn:n<=12):∀ (k i:Nat) (l:List Int),i+k=n->l.length=n->As 0 (n:Int) (i:Int) l=some (xD k i l)
 | 0,i,l,h,hl=>CZ (by
  unfold Bl
  rw [if_neg (by simp; omega)]
  rfl)
 | k+1,i,l,h,hl=>CZ (by
  unfold Bl
  rw [if_pos (by simp; omega)]
  exact rf n i hn (xD k (i+1)) (fun l hl=>by have:=rg n hn k (i+1) l (by omega) hl; rw [<- this]; congr 1) (by omega) i l (by omega) hl)
set_option maxRecDepth 100000 in
theorem w9 (n:Nat) (h:n<=12):∃ r,Nt (IntKind.u64.wrap (n:Int))=some r:=by
 have h1:∃ r,Fq (n:Int) 0=some r:=by
  have hs:IntKind.u8.wrap (n:Int)=(n:Int):=by
   have:n=0\/n=1\/n=2\/n=3\/n=4\/n=5\/n=6\/n=7\/n=8\/n=9\/n=10\/n=11\/n=12:=by omega
   rcases this with h | h | h | h | h | h | h | h | h | h | h | h | h<;>subst h<;>rfl
  have ht:∃ r,Hy (n:Int) 0=some r:=by
   unfold Hy
   rw [if_neg (by simp; omega),if_pos (by rw [hs]; omega),if_pos (by
    rw [hs]
    exact Int.lt_of_lt_of_le (show (n:Int)<13 by omega) (by decide))]
   exact ⟨_,rfl⟩
  obtain ⟨r,hr⟩:=ht
  exact ⟨r,YD hr⟩
 obtain ⟨r,hr⟩:=h1
 have h2:LF (n:Int)=some r:=dR (by
  unfold Rw
  rw [if_neg (by simp; omega)]
  exact YE (by
   unfold Nb
   rw [if_neg (by simp; omega)]
   exact hr))
 have hu:IntKind.u64.wrap (n:Int)=(n:Int):=by
  have:n=0\/n=1\/n=2\/n=3\/n=4\/n=5\/n=6\/n=7\/n=8\/n=9\/n=10\/n=11\/n=12:=by omega
  rcases this with h | h | h | h | h | h | h | h | h | h | h | h | h<;>subst h<;>rfl
 exact ⟨r,jX (by unfold WR; rw [hu,h2]; rfl)⟩
theorem rh (l:List Int) (h:l.length<=12):∃ r,Ce l=some r/\r.Perm l/\r.Pairwise (· <= ·):=by
 obtain ⟨b,hb⟩:=w9 l.length h
 have hins:∃ r,C2 0 (l.length:Int) l=some r/\r.Perm l/\r.Pairwise (· <= ·):=by
  by_cases h0:l.length=0
  ·have:l=[]:=List.length_eq_zero_iff.1 h0
   subst this
   refine ⟨[],FK ?_,List.Perm.refl _,List.Pairwise.nil⟩
   unfold C3
   refine CZ ?_
   unfold Bl
   rw [if_neg (by rw [Aa (by omega)]; simp)]
  ·refine ⟨xD (l.length-1) 1 l,FK ?_,mV _ _ _ (by omega),?_⟩
   ·unfold C3
    rw [Aa (by omega)]
    exact rg l.length h (l.length-1) 1 l (by omega) rfl
   ·have hu:=uL (l.length-1) 1 l (by omega) (Nat.le_refl _) (fun a b h1 h2=>by omega)
    have hp:=(mV (l.length-1) 1 l (by omega)).length_eq
    rw [List.pairwise_iff_getElem]
    intro i j hi hj hij
    have:=hu i j hij (by omega)
    rwa [AU hi,AU hj] at this
 obtain ⟨r,h1,h2,h3⟩:=hins
 refine ⟨r,Wl ?_,h2,h3⟩
 unfold MG
 have hq:CF 0 (l.length:Int) b l=some r:=O5 (by
  unfold Hd
  refine Ms ?_
  unfold GW
  rw [if_pos (by rw [Aa (by omega)]; simp; omega),h1]
  rfl)
 rw [hb,X,hq]
 rfl
theorem rk:∀ {a b:List Int},a.Pairwise (· < ·)->b.Pairwise (· < ·)->(∀ x,x∈a↔x∈b)->a=b
 | [],[],_,_,_=>rfl
 | [],y::b,_,_,h=>absurd ((h y).2 (by simp)) (by simp)
 | x::a,[],_,_,h=>absurd ((h x).1 (by simp)) (by simp)
 | x::a,y::b,ha,hb,h=>by
  rw [List.pairwise_cons] at ha hb
  have hxy:x=y:=by
   have h1:=(h x).1 (by simp)
   have h2:=(h y).2 (by simp)
   rcases List.mem_cons.1 h1 with e | h1
   ·exact e
   ·rcases List.mem_cons.1 h2 with e | h2
    ·exact e.symm
    ·have:=ha.1 y h2
     have:=hb.1 x h1
     omega
  subst hxy
  rw [rk ha.2 hb.2 fun z=>?_]
  constructor
  ·intro hz
   rcases List.mem_cons.1 ((h z).1 (by simp [hz])) with e | h
   ·subst e; have:=ha.1 z hz; omega
   ·exact h
  ·intro hz
   rcases List.mem_cons.1 ((h z).2 (by simp [hz])) with e | h
   ·subst e; have:=hb.1 z hz; omega
   ·exact h
theorem mW {view:List Int} {id x:Int} (hv:sv view):x∈DE view id↔x∈Bu view id:=by
 unfold DE Bu
 simp only [List.mem_filter,Bool.and_eq_true,List.contains_eq_mem,decide_eq_true_eq]
 constructor
 ·rintro ⟨_,h1,h2⟩; exact ⟨h2,h1⟩
 ·rintro ⟨h1,h2⟩
  have:=hv.mem x h1
  refine ⟨?_,h2,h1⟩
  have h5:x=1\/x=2\/x=3\/x=4\/x=5\/x=6:=by omega
  rcases h5 with h | h | h | h | h | h<;>simp [h]
theorem gR {view:List Int} (hv:sv view) (id:Int):Ce (Bu view id)=some (DE view id):=by
 have hl:=G3 view id
 have:=hv.len
 obtain ⟨r,h1,h2,h3⟩:=rh (Bu view id) (by omega)
 rw [h1]
 congr 1
 have hnd:r.Nodup:=h2.nodup_iff.2 (hv.nd.filter _)
 refine rk ?_ (Ul view id).2 fun x=>(h2.mem_iff).trans (mW hv).symm
 have:=h3.and (List.nodup_iff_pairwise_ne.1 hnd)
 exact this.imp fun {a b} h=>by have:=h.1; have:=h.2; omega
theorem hO {view:List Int} (hv:sv view) (id:Int):(DE view id).length=(Bu view id).length:=by
 obtain ⟨r,h1,h2,_⟩:=rh (Bu view id) (by have:=G3 view id; have:=hv.len; omega)
 rw [gR hv] at h1
 cases h1
 exact h2.length_eq

theorem YM (x:List Int) (n:Int) (h:x.length<=maxLen):CU x n=some (x.contains n):=QR (by
 have hm:x.length<=9223372036854775807:=h
 have key:=GY (n:=x.length) (P:=fun i=>∃ r,CV x n (x.length:Int) (i:Int)=some r/\(decide (r>=0)=(x.drop i).contains n)) ⟨-1,B1 (by
  unfold BX
  rw [if_neg (by simp)]),by simp⟩ (fun i hi ⟨r,hr,hc⟩=>by
  by_cases e:n=x[i]
  ·refine ⟨(i:Int),B1 ?_,?_⟩
   ·unfold BX
    simp only [show ((i:Int)<(x.length:Int)) from by omega,decide_true,if_true,show (0:Int)<=(i:Int) from by omega,Int.toNat_natCast,AU hi]
    rw [if_pos (by simpa using e)]
   ·rw [BU hi,List.contains_cons,e]
    simp only [beq_self_eq_true,Bool.true_or]
    exact decide_eq_true (by omega)
  ·refine ⟨r,B1 ?_,?_⟩
   ·unfold BX
    simp only [show ((i:Int)<(x.length:Int)) from by omega,decide_true,if_true,show (0:Int)<=(i:Int) from by omega,Int.toNat_natCast,AU hi,AR (show i<9223372036854775807 by omega)]
    rw [if_neg (by simpa using e)]
    exact hr
   ·rw [BU hi,hc,List.contains_cons]
    simp [e]) 0 (by omega)
 obtain ⟨r,hr,hc⟩:=key
 unfold Ii
 have:C8 x n=some r:=LZ hr
 rw [this,X,hc,List.drop_zero])
theorem YN (m:AA) (h1:m.2.2.2.2.2.2.1.length<=68719476736) (h2:m.2.2.2.2.2.2.2.1.length<=68719476736) (h3:m.2.2.2.2.2.2.2.2.2.2.2.2.2.length<=68719476736):Cc m=some m:=cg (by
 unfold Ra
 rw [CT h1,X,Ay h2,X,CT h3,X])
theorem Ih.icopy {m:AA} (h:Ih m):Cc m=some m:=by
 obtain ⟨h1,h2,h3⟩:=h.lens
 exact YN m (by omega) (by omega) (by omega)
theorem Ls (x:BK) (h:x.2.2.2.2.2.length<=68719476736):GN x=some x:=ln (by
 unfold Xr
 rw [Ay h,X])
theorem Mw (view:List Int) (m:AA) (h:view.length<=68719476736):By view m=some (Bu view m.1,m):=X4 (by
 unfold NX
 have key:=GY (n:=view.length) (P:=fun i=>∀ acc:List Int,acc.length<=i->C0 view (view.length:Int) (i:Int) m acc=some (acc++(view.drop i).filter (· != m.1),m)) (fun acc ha=>KI (by
  unfold GS
  rw [if_neg (by simp)]
  simp)) (fun i hi ih acc ha=>KI (by
  unfold GS
  simp only [show ((i:Int)<(view.length:Int)) from by omega,decide_true,if_true,show (0:Int)<=(i:Int) from by omega,Int.toNat_natCast,AU hi,AR (show i<9223372036854775807 by omega)]
  rw [BU hi,List.filter_cons]
  by_cases hh:(view[i] != m.1)=true
  ·rw [if_pos hh,if_pos (by simp; omega),ih _ (by simp; omega),if_pos hh,List.append_assoc]
   rfl
  ·rw [if_neg hh,ih _ (by omega),if_neg hh])) 0 (by omega) [] (by simp)
 exact key)
def rl (m:AA) (ids:List Int) (x:BK):List BK:=ids.map fun v=>(x.1,m.1,v,m.2.1,x.2.2.2.2)
theorem CH (ids:List Int) (x:BK) (m:AA) (h:ids.length<=68719476736) (hx:x.2.2.2.2.2.length<=68719476736):Ah ids x m=some (rl m ids x,m):=Wm (by
 unfold MI
 have key:=GY (n:=ids.length) (P:=fun i=>∀ acc:List BK,acc.length<=i->Dk ids (ids.length:Int) (i:Int) m x acc=some (acc++(ids.drop i).map (fun v=>(x.1,m.1,v,m.2.1,x.2.2.2.2)),m)) (fun acc ha=>I8 (by
  unfold F0
  rw [if_neg (by simp)]
  simp)) (fun i hi ih acc ha=>I8 (by
  unfold F0
  simp only [show ((i:Int)<(ids.length:Int)) from by omega,decide_true,if_true,show (0:Int)<=(i:Int) from by omega,Int.toNat_natCast,AU hi,AR (show i<9223372036854775807 by omega)]
  rw [Ls x hx,X,if_pos (by simp; omega),ih _ (by simp; omega),BU hi,List.map_cons,List.append_assoc]
  rfl)) 0 (by omega) [] (by simp)
 exact key)
def xn (m:AA):AA:=(m.1,m.2.1,m.2.2.1,m.2.2.2.1,false,false,([]:List Int),m.2.2.2.2.2.2.2.1,(0:Int),(0:Int),(0:Int),(0:Int),(ByteArray.empty,ByteArray.empty,(0:Int)),([]:List Int))
theorem SG (m:AA):Fg m=some (xn m):=dG rfl
theorem QO (view:List Int) (its:List AL) (m:AA) (hv:sv view) (hi:its.length<=68719476736) (hs:m.2.2.2.2.2.1=false) :
  C_ view its m=some ((Bu view m.1).map (fun v=>(3,m.1,v,m.2.1,0,its)),QV m view its):=Ui (by
 have hvl:=hv.len
 have hrl:=G3 view m.1
 unfold Ld
 rw [Mw view m (by omega),X,Ay hi,X,CT (by show (Bu view m.1).length<=_; omega),X,gR hv,X]
 have ho:=hO hv m.1
 unfold QV
 rw [ho]
 by_cases h0:(Bu view m.1).length=0
 ·rw [if_pos (by simpa using h0),CH _ _ _ (by show (Bu view m.1).length<=_; omega) hi,X,h0]
  rfl
 ·rw [if_neg (by simpa using h0),CH _ _ _ (by show (Bu view m.1).length<=_; omega) hi,X]
  have:(((Bu view m.1).length:Int)==0)=false:=by simpa using h0
  rw [this]
  show some (_,(m.1,m.2.1,m.2.2.1,true,m.2.2.2.2.1,m.2.2.2.2.2.1,_))=_
  rw [hs]
  rfl)
theorem R1 (v:List Int) (x:Int) (h:v.length<=68719476736):LC v x=some (v.filter (· != x)):=mH (by
 unfold X8
 rw [CT h,X,O4,X]
 rfl)
theorem YO (m:AA) (h:m.2.2.2.2.2.2.2.1.length<=34359738367):Gt m=some (Bm m):=aU (by
 unfold QH Bm
 rw [Rx _ _ h,Tu _ _ (by unfold maxLen; omega)]
 split
 ·rw [X]
  refine MH ?_
  unfold HL
  rfl
 ·rw [X]
  refine MH ?_
  unfold HL
  rfl)
def uM (m:AA) (views:List (List Int)) (x:BK):List BK×AA :=
 if (x.2.2.2.1==m.2.1+1&&m.2.2.2.1&&(views.getD (m.2.1-1).toNat []).contains m.1)=true then ([(2,m.1,x.2.1,x.2.2.2.1,0,m.2.2.2.2.2.2.2.1)],T0 m x.2.2.2.1) else ([],m)
theorem mX (m:AA) (views:List (List Int)) (x:BK) (hm:Ih m) (hv:QK views) (he:m.2.1<=views.length) :
  Jj views x m=some (uM m views x):=aY (by
 have hvl:=hv.len
 have hep:=hm.ep
 obtain ⟨l1,l2,l3⟩:=hm.lens
 have hf:m.2.2.2.1=true->m.2.2.1=false:=fun h=>by
  cases hh:m.2.2.1 with
  | false=>rfl
  | true=>rw [(hm.fell hh).1] at h; cases h
 unfold QJ uM
 rw [Aa (n:=m.2.1+1) (by omega),Aa (n:=m.2.1-1) (by omega)]
 by_cases c1:x.2.2.2.1=m.2.1+1
 case neg=>rw [if_pos (by simpa using c1),if_neg (by simp [c1])]
 rw [if_neg (by simpa using c1)]
 by_cases c2:m.2.2.2.1=true
 case neg=>rw [if_pos (by simpa using c2),if_neg (by simp [c2])]
 rw [if_neg (by simpa using c2),if_pos (by omega),if_pos (by omega),YM _ _ (by have:=(hv.get (i:=(m.2.1-1).toNat) (by omega)).2; unfold maxLen; omega),X]
 cases c3:(views.getD (m.2.1-1).toNat []).contains m.1 with
 | false=>rw [if_pos (by rfl),if_neg (by simp)]
 | true =>
  rw [if_neg (by simp),if_pos (by simp [c1,c2])]
  exact Wn (by
   unfold MK
   rw [SG,X,CH _ _ _ (by simp) (by show m.2.2.2.2.2.2.2.1.length<=_; omega),X]
   show some (_,(m.1,x.2.2.2.1,m.2.2.1,_))=_
   rw [hf c2]
   rfl))
def uN (m:AA) (e:Int) (its:List AL):AA:=(m.1,e,false,true,false,false,([]:List Int),its,(0:Int),(0:Int),(0:Int),(0:Int),(ByteArray.empty,ByteArray.empty,(0:Int)),([]:List Int))
def uO (m:AA) (view:List Int) (x:BK):List BK×AA :=
 if (!view.contains m.1||(view.getD 0 0==m.1))=true then ([],m)
 else if x.2.2.2.1>m.2.1\/(m.2.2.2.1=false/\m.2.2.1=false) then ([(4,m.1,x.2.1,x.2.2.2.1,0,([]:List AL))],uN m x.2.2.2.1 x.2.2.2.2.2)
 else if m.2.2.2.1=false then ([],m) else ([(4,m.1,x.2.1,m.2.1,0,([]:List AL))],m)
theorem dl (m:AA) (view:List Int) (x:BK) (hv:sv view) (hx:x.2.2.2.2.2.length<=68719476736) :
  HF view x m=some (uO m view x):=Wo (by
 have hvl:=hv.len
 unfold ML uO
 rw [YM _ _ (by unfold maxLen; omega),X]
 cases c3:view.contains m.1 with
 | false=>rw [if_pos (by rfl),if_pos (by rfl)]
 | true =>
  rw [if_neg (by simp),if_pos (by omega),if_pos (by omega)]
  by_cases c4:view.getD 0 0=m.1
  ·rw [if_pos (by simpa using c4),if_pos (by rw [c4]; simp)]
  ·rw [if_neg (by simpa using c4),if_neg (by have:(view.getD 0 0==m.1)=false:=(by simpa using c4); rw [this]; simp)]
   have J1:∀ b:Bool,Cg b m x=some (if b=true then ([(4,m.1,x.2.1,x.2.2.2.1,0,([]:List AL))],uN m x.2.2.2.1 x.2.2.2.2.2) else if m.2.2.2.1=false then ([],m) else ([(4,m.1,x.2.1,m.2.1,0,([]:List AL))],m)):=fun b=>SD (by
    unfold I_
    cases b with
    | true =>
     rw [if_pos rfl,if_pos rfl,Ay hx,X,SG,X,CH _ _ _ (by simp) (by simp),X]
     rfl
    | false =>
     simp only [Bool.false_eq_true,if_false]
     cases hb:m.2.2.2.1 with
     | false=>simp
     | true =>
      simp only [Bool.not_true,Bool.false_eq_true,if_false,Bool.true_eq_false]
      rw [CH _ _ _ (by simp) (by simp),X]
      rfl)
   refine SE ?_
   unfold JA
   rw [J1,J1,J1]
   by_cases c5:x.2.2.2.1>m.2.1
   ·rw [if_pos (by simpa using c5)]
    simp [c5]
   ·rw [if_neg (by simpa using c5)]
    cases hb:m.2.2.2.1<;>cases hf:m.2.2.1<;>simp [c5])
def pI (m:AA) (x:BK):List BK×AA :=
 if (x.2.2.2.1==m.2.1&&m.2.2.2.1)=true then
  (if x.1=7 then ([(8,m.1,x.2.1,m.2.1,x.2.2.2.2.1,([]:List AL))],m)
  else ([(6,m.1,x.2.1,m.2.1,x.2.2.2.2.1,([]:List AL))],(m.1,m.2.1,m.2.2.1,m.2.2.2.1,m.2.2.2.2.1,m.2.2.2.2.2.1,m.2.2.2.2.2.2.1,Ai m.2.2.2.2.2.2.2.1 (x.2.2.2.2.2.getD 0 (ByteArray.empty,ByteArray.empty,(0:Int))),m.2.2.2.2.2.2.2.2)))
 else ([],m)
theorem jh (m:AA) (x:BK) (hm:m.2.2.2.2.2.2.2.1.length<=12) (h5:x.1≠7->0<x.2.2.2.2.2.length) :
  Iq x m=some (pI m x):=Y4 (by
 unfold Oi pI
 by_cases c1:x.2.2.2.1=m.2.1
 case neg=>rw [if_pos (by simpa using c1),if_neg (by simp [c1])]
 rw [if_neg (by simpa using c1)]
 by_cases c2:m.2.2.2.1=true
 case neg=>rw [if_pos (by simpa using c2),if_neg (by simp [c2])]
 rw [if_neg (by simpa using c2),if_pos (by simp [c1,c2])]
 refine Uj ?_
 unfold Lj
 by_cases c7:x.1=7
 ·rw [if_pos (by simpa using c7),if_pos c7,CH _ _ _ (by simp) (by simp),X]
  rfl
 ·have:=h5 c7
  rw [if_neg (by simpa using c7),if_neg c7,if_pos (by omega),if_pos (by omega),Rx _ _ (by omega),X,CH _ _ _ (by simp) (by simp),X]
  rfl)
theorem T6 (m:AA) (op:Int) (x:BK) (hm:Ih m) :
  Fh op x m=some (if (x.2.2.2.1==m.2.1&&m.2.2.2.2.2.2.2.2.2.1==op&&m.2.2.2.2.2.2.2.2.2.2.2.1==x.2.2.2.2.1)=true then ((Ft m x.2.1).2.2,(Ft m x.2.1).1) else ([],m)):=X9 (by
 obtain ⟨l1,l2,l3⟩:=hm.lens
 unfold NY
 by_cases c1:x.2.2.2.1=m.2.1
 case neg=>rw [if_pos (by simpa using c1),if_neg (by simp [c1])]
 rw [if_neg (by simpa using c1)]
 by_cases c2:m.2.2.2.2.2.2.2.2.2.1=op
 case neg=>rw [if_pos (by simpa using c2),if_neg (by simp [c2])]
 rw [if_neg (by simpa using c2)]
 by_cases c3:m.2.2.2.2.2.2.2.2.2.2.2.1=x.2.2.2.2.1
 case neg=>rw [if_pos (by simpa using c3),if_neg (by simp [c3])]
 rw [if_neg (by simpa using c3),if_pos (by simp [c1,c2,c3])]
 refine Tp ?_
 unfold KL Ft
 rw [R1 _ _ (by omega),X]
 by_cases c4:(m.2.2.2.2.2.2.2.2.2.2.2.2.2.filter (· != x.2.1)).length=0
 ·rw [if_neg (by rw [c4]; decide),if_pos (by rw [c4]; decide),YO _ (by show m.2.2.2.2.2.2.2.1.length<=_; omega)]
  rfl
 ·rw [if_pos (decide_eq_true (by omega)),if_neg (by rw [beq_iff_eq]; omega)]
  rfl)

def nO (x:BK):BK:=if x.1=3 then (x.1,x.2.1,x.2.2.1,x.2.2.2.1,0,x.2.2.2.2.2) else x
def YP (m:AA) (views:List (List Int)) (x:BK):AA×List BK×List Cn:=if Tz x=true then DF m views (nO x) else (m,[],[])
theorem uP (x:BK):(nO x).2.2.1=x.2.2.1/\(nO x).2.2.2.1=x.2.2.2.1:=by unfold nO; split<;>exact ⟨rfl,rfl⟩
theorem Yi {m:AA} {views:List (List Int)} {x:BK} (h:¬ (x.2.2.1=m.1/\m.2.1<=x.2.2.2.1/\x.2.2.2.1<=(views.length:Int)/\Tz x=true)):YP m views x=(m,[],[]):=by
 unfold YP
 split
 ·rename_i hx
  unfold DF
  rw [if_neg (by
   rw [(uP x).1,(uP x).2]
   simp only [Bool.and_eq_true,beq_iff_eq,decide_eq_true_eq]
   exact fun g=>h ⟨g.1.1.2,g.1.2,g.2,hx⟩)]
 ·rfl
theorem pJ {x:BK} (h:x.1≠3):nO x=x:=if_neg h
theorem uQ {x:BK} (h:x.1=3->x.2.2.2.2.1=0):nO x=x:=by
 unfold nO
 split
 ·rename_i e
  obtain ⟨a,b,c,d,e,f⟩:=x
  have:=h ‹_›
  dsimp only at this
  rw [this]
 ·rfl
theorem qP {m:AA} {views:List (List Int)} {x:BK} (hx:sn x) (h1:x.2.2.1=m.1) (h2:m.2.1<=x.2.2.2.1) (h3:x.2.2.2.1<=(views.length:Int)):DF m views x =
  (if x.2.2.2.1=m.2.1 then YI m (views.getD (m.2.1-1).toNat []) x
  else if (x.1==1&&(x.2.2.2.1==m.2.1+1)&&m.2.2.2.1&&(views.getD (m.2.1-1).toNat []).contains m.1)=true then (T0 m x.2.2.2.1,[(2,m.1,x.2.1,x.2.2.2.1,0,m.2.2.2.2.2.2.2.1)],[])
  else if (x.1==3&&(views.getD (x.2.2.2.1-1).toNat []).contains m.1&&((views.getD (x.2.2.2.1-1).toNat []).getD 0 0 != m.1))=true then
   ((m.1,x.2.2.2.1,false,true,false,false,([]:List Int),x.2.2.2.2.2,(0:Int),(0:Int),(0:Int),(0:Int),(ByteArray.empty,ByteArray.empty,(0:Int)),([]:List Int)),EA m x 4,[])
  else (m,[],[])):=by
 unfold DF
 rw [if_pos (by rw [Ye.2 hx]; simp [h1,h2,h3])]
theorem dp {a:AA} {b:List BK} {c:List Cn} {r:AA×List BK×List Cn} (h:r=(a,b,c)):(b,c,a)=(r.2.1,r.2.2,r.1):=by rw [h]
theorem mY (m:AA) (views:List (List Int)) (x:BK) (hm:Ih m) (hv:QK views) (hx:sn x) (h1:x.2.2.1=m.1) (h2:m.2.1<=x.2.2.2.1) (h3:x.2.2.2.1<=(views.length:Int)) :
  Ji views x m=some ((YP m views x).2.1,(YP m views x).2.2,(YP m views x).1):=aT (by
 have hvl:=hv.len
 have hep:=hm.ep
 have hxe:=hx.ep
 have hxi:=KM hx.items
 obtain ⟨l1,l2,l3⟩:=hm.lens
 have hin:=qP hx h1 h2 h3
 unfold QG YP
 rw [if_pos (Ye.2 hx)]
 have hV:=hv.wok (i:=(m.2.1-1).toNat) (by omega)
 generalize hVe:views.getD (m.2.1-1).toNat []=V at hV hin
 have hk:=hx.kind
 by_cases k1:x.1=1
 ·rw [if_pos (by simpa using k1),mX m views x hm hv (by omega),X,pJ (by omega)]
  congr 1
  apply dp
  rw [hin]
  unfold uM
  rw [hVe]
  by_cases e:x.2.2.2.1=m.2.1
  ·rw [if_pos e,if_neg (by rw [e]; simp; omega)]
   unfold YI
   simp [k1]
  ·rw [if_neg e]
   cases hc:(x.2.2.2.1==m.2.1+1&&m.2.2.2.1&&V.contains m.1) with
   | true =>
    rw [if_pos (by rw [k1]; simpa using hc),if_pos rfl]
   | false =>
    rw [if_neg (by rw [k1]; simpa using hc),if_neg (by simp [k1]),if_neg (by simp)]
 rw [if_neg (by simpa using k1)]
 by_cases k2:x.1=2
 ·have J:∀ b:Bool,(b=true->m.2.2.2.1=false)->DU views b m x=some (if b=true then ((Bu V m.1).map (fun v=>(3,m.1,v,m.2.1,0,x.2.2.2.2.2)),[],QV m V x.2.2.2.2.2) else ([],[],m)):=fun b hb=>Wi (by
   unfold MD
   cases b with
   | false=>rw [if_neg (by simp),if_neg (by simp)]
   | true =>
    have hs:m.2.2.2.2.2.1=false:=by
     cases hh:m.2.2.2.2.2.1 with
     | false=>rfl
     | true=>have:=(hm.serves hh).1; rw [hb rfl] at this; cases this
    rw [if_pos rfl,if_pos rfl,Aa (by omega),if_pos (by omega),if_pos (by omega),hVe,QO V _ m hV (by omega) hs,X])
  rw [if_pos (by simpa using k2),pJ (by omega)]
  by_cases e:x.2.2.2.1=m.2.1
  ·rw [if_pos (by simpa using e)]
   have ho:DF m views x=(if (m.2.2.2.2.1&&!m.2.2.2.1)=true then (QV m V x.2.2.2.2.2,(Bu V m.1).map (fun v=>(3,m.1,v,m.2.1,0,x.2.2.2.2.2)),[]) else (m,[],[])):=by
    rw [hin,if_pos e]; unfold YI; rw [if_pos k2]
   rw [ho]
   cases hl:m.2.2.2.2.1 with
   | false=>rw [if_neg (by simp),J false (by simp),if_neg (by simp),if_neg (by simp)]
   | true =>
    rw [if_pos (by rfl),J _ (by simp)]
    cases hb:m.2.2.2.1 with
    | true=>rw [if_neg (by simp),if_neg (by simp)]
    | false=>rw [if_pos (by rfl),if_pos (by rfl)]
  ·rw [if_neg (by simpa using e),J false (by simp),if_neg (by simp)]
   congr 1
   apply dp
   rw [hin,if_neg e,if_neg (by simp [k2]),if_neg (by simp [k2])]
 rw [if_neg (by simpa using k2)]
 by_cases k3:x.1=3
 ·have hW:=hv.wok (i:=(x.2.2.2.1-1).toNat) (by omega)
  rw [if_pos (by simpa using k3),Aa (by omega),if_pos (by omega),if_pos (by omega)]
  have hx':sn (nO x):=by
   unfold nO
   rw [if_pos k3]
   exact ⟨hx.kind,hx.frm,hx.to,hx.ep,(show (0:Int)<=0/\(0:Int)<=1000000000 from by decide),hx.items,hx.shape⟩
  have hf:nO x=(x.1,x.2.1,x.2.2.1,x.2.2.2.1,0,x.2.2.2.2.2):=if_pos k3
  have hin2:=qP (m:=m) (views:=views) hx' (by rw [hf]; exact h1) (by rw [hf]; exact h2) (by rw [hf]; exact h3)
  rw [hVe] at hin2
  generalize hWe:views.getD (x.2.2.2.1-1).toNat []=Wv at hW
  rw [dl m Wv x hW (by omega),X]
  congr 1
  apply dp
  rw [hin2,hf]
  dsimp only
  rw [hWe]
  unfold uO
  by_cases e:x.2.2.2.1=m.2.1
  ·have hVW:Wv=V:=by rw [<- hWe,<- hVe,e]
   rw [if_pos e]
   unfold YI
   rw [if_neg (by rw [k3]; decide),if_pos k3,hVW]
   dsimp only
   cases hc:(!V.contains m.1||(V.getD 0 0==m.1)) with
   | true=>simp only [if_true]
   | false =>
    simp only [Bool.false_eq_true,if_false]
    cases hb:m.2.2.2.1<;>cases hf2:m.2.2.1<;>simp [e,EA,uN]
  ·rw [if_neg e,if_neg (by rw [k3]; simp)]
   cases hc:(!Wv.contains m.1||(Wv.getD 0 0==m.1)) with
   | true =>
    rw [if_neg (by
     intro h
     simp only [Bool.and_eq_true,bne_iff_ne,Bool.or_eq_true,Bool.not_eq_true',beq_iff_eq] at h hc
     rcases hc with hc | hc
     ·rw [hc] at h; exact absurd h.1.2 (by simp)
     ·exact h.2 hc),if_pos rfl]
   | false =>
    rw [if_pos (by
     simp only [Bool.or_eq_false_iff,Bool.not_eq_false'] at hc
     rw [k3,hc.1]
     simpa using hc.2),if_neg (by simp),if_pos (Or.inl (by omega))]
    rfl
 rw [if_neg (by simpa using k3),pJ k3]
 by_cases k4:x.1=4
 ·rw [if_pos (by simpa using k4)]
  have J:∀ b:Bool,FD b m x=some (if b=true then ([],[],(m.1,m.2.1,m.2.2.1,m.2.2.2.1,m.2.2.2.2.1,m.2.2.2.1&&(((m.2.2.2.2.2.2.1.filter (· != x.2.1)).length:Int)==0),m.2.2.2.2.2.2.1.filter (· != x.2.1),m.2.2.2.2.2.2.2)) else ([],[],m)):=fun b=>Wj (by
   unfold ME
   cases b with
   | false=>rw [if_neg (by simp),if_neg (by simp)]
   | true =>
    rw [if_pos rfl,if_pos rfl,R1 _ _ (by omega),X]
    cases hs:m.2.2.2.2.2.1 with
    | true =>
     obtain ⟨q1,q2,q3⟩:=hm.serves hs
     rw [if_neg (by simp),q3,q1]
     rfl
    | false =>
     rw [if_pos rfl]
     cases hq:(((m.2.2.2.2.2.2.1.filter (· != x.2.1)).length:Int)==0) with
     | true=>rw [if_pos rfl,Bool.and_true]
     | false=>rw [if_neg (by simp),Bool.and_false])
  by_cases e:x.2.2.2.1=m.2.1
  ·rw [if_pos (by simpa using e),J]
   have ho:DF m views x=(if m.2.2.2.2.1=true then
     ((m.1,m.2.1,m.2.2.1,m.2.2.2.1,m.2.2.2.2.1,m.2.2.2.1&&(((m.2.2.2.2.2.2.1.filter (· != x.2.1)).length:Int)==0),m.2.2.2.2.2.2.1.filter (· != x.2.1),m.2.2.2.2.2.2.2),[],[]) else (m,[],[])):=by
    rw [hin,if_pos e]; unfold YI; rw [if_neg k2,if_neg k3,if_pos k4]
   rw [ho]
   cases hl:m.2.2.2.2.1 with
   | false=>rw [if_neg (by simp),if_neg (by simp)]
   | true=>rw [if_pos rfl,if_pos rfl]
  ·rw [if_neg (by simpa using e),J,if_neg (by simp)]
   congr 1
   apply dp
   rw [hin,if_neg e,if_neg (by simp [k4]),if_neg (by simp [k4])]
 rw [if_neg (by simpa using k4)]
 have st:x.1=5\/x.1=7->pI m x=((DF m views x).2.1,(DF m views x).1)/\(DF m views x).2.2=[]:=fun hk=>by
  rw [hin]
  unfold pI
  by_cases e:x.2.2.2.1=m.2.1
  ·rw [if_pos e]
   unfold YI EA
   rw [if_neg k2,if_neg k3,if_neg k4,e]
   cases hb:m.2.2.2.1 with
   | true =>
    rcases hk with hk | hk
    ·rw [if_pos (by simp),if_neg (by omega),if_pos hk,if_pos rfl]
     exact ⟨rfl,rfl⟩
    ·rw [if_pos (by simp),if_pos hk,if_neg (by omega),if_pos hk,if_pos rfl]
     exact ⟨rfl,rfl⟩
   | false =>
    rcases hk with hk | hk
    ·rw [if_neg (by simp),if_pos hk,if_neg (by simp)]
     exact ⟨rfl,rfl⟩
    ·rw [if_neg (by simp),if_neg (by omega),if_pos hk,if_neg (by simp)]
     exact ⟨rfl,rfl⟩
  ·simp [e,k1,k3]
 have sd:∀ op,x.1=6/\op=1\/x.1=8/\op=2->(if (x.2.2.2.1==m.2.1&&m.2.2.2.2.2.2.2.2.2.1==op&&m.2.2.2.2.2.2.2.2.2.2.2.1==x.2.2.2.2.1)=true then ((Ft m x.2.1).2.2,(Ft m x.2.1).1) else ([],m))=((DF m views x).2.2,(DF m views x).1)/\(DF m views x).2.1=[]:=fun op hk=>by
  have ht:(Ft m x.2.1).2.1=[]:=by unfold Ft; split<;>rfl
  rw [hin]
  by_cases e:x.2.2.2.1=m.2.1
  ·rw [if_pos e]
   unfold YI
   rw [if_neg k2,if_neg k3,if_neg k4,if_neg (show ¬ x.1=5 by omega),if_neg (show ¬ x.1=7 by omega),e]
   have hop:(if x.1=8 then (2:Int) else 1)=op:=by
    rcases hk with ⟨h,h'⟩ | ⟨h,h'⟩
    ·rw [if_neg (by omega),h']
    ·rw [if_pos h,h']
   rw [hop]
   by_cases c1:m.2.2.2.2.2.2.2.2.2.1=op
   ·by_cases c2:m.2.2.2.2.2.2.2.2.2.2.2.1=x.2.2.2.2.1
    ·rw [if_pos (by simp [c1,c2]),if_pos ⟨by omega,c1,c2⟩]
     exact ⟨rfl,ht⟩
    ·simp [c2]
   ·simp [c1]
  ·simp [e,k1,k3]
 have h7:x.1≠7->x.1=5->0<x.2.2.2.2.2.length:=fun _ h5=>by
  have:=hx.shape
  rw [if_neg (by omega),if_pos h5] at this
  omega
 have J2:∀ b:Bool,(b=true↔x.1=5\/x.1=7)->FE x.1 b m x=some ((DF m views x).2.1,(DF m views x).2.2,(DF m views x).1):=fun b hb=>Wk (by
  unfold MF
  cases b with
  | true =>
   have hk5:=hb.1 rfl
   obtain ⟨q1,q2⟩:=st hk5
   rw [if_pos rfl,jh m x l2 (fun h=>h7 h (by omega)),X,q1,q2]
  | false =>
   have hn:¬ (x.1=5\/x.1=7):=fun h=>by have:=hb.2 h; cases this
   rw [if_neg (by simp)]
   by_cases k6:x.1=6
   ·obtain ⟨q1,q2⟩:=sd 1 (.inl ⟨k6,rfl⟩)
    rw [if_pos (by simpa using k6),T6 m 1 x hm,X,q1,q2]
   ·obtain ⟨q1,q2⟩:=sd 2 (.inr ⟨by omega,rfl⟩)
    rw [if_neg (by simpa using k6),if_pos (by rw [beq_iff_eq]; omega),T6 m 2 x hm,X,q1,q2])
 by_cases k5:x.1=5
 ·rw [if_pos (by simpa using k5),J2 _ (by simp [k5])]
 ·rw [if_neg (by simpa using k5),J2 _ (by simp [k5])])
theorem Jz {m:AA} (h:Ih m):FQ m=some true:=by
 obtain ⟨h1,h2,h3⟩:=h.lens
 rw [ae m (by unfold maxLen; omega) (by unfold maxLen; omega) (by unfold maxLen; omega),rY.2 h]
theorem Fw {views:List (List Int)} (h:QK views):Dv views=some true:=by
 have:=h.len
 rw [dY views (by unfold maxLen; omega) (fun a ha=>by have:=(h.view ha).2; unfold maxLen; omega),h.ok]
theorem dq (m:AA) (views:List (List Int)) (x:BK) (hm:Ih m) (hv:QK views) (hx:x.2.2.2.2.2.length<=68719476736) :
  K_ m views x=some (YP m views x):=lu (by
 have hxm:x.2.2.2.2.2.length<=maxLen:=by unfold maxLen; omega
 unfold Xw
 rw [hm.icopy,X]
 by_cases c1:x.2.2.1=m.1
 case neg=>rw [if_neg (by simpa using c1),Yi (fun h=>c1 h.1)]
 rw [if_pos (by simpa using c1)]
 by_cases c2:x.2.2.2.1<m.2.1
 ·rw [if_neg (by simpa using c2),Yi (fun h=>by omega)]
 rw [if_pos (by simpa using c2)]
 by_cases c3:x.2.2.2.1>(views.length:Int)
 ·rw [if_neg (by simpa using c3),Yi (fun h=>by omega)]
 rw [if_pos (by simpa using c3),Jz hm,X,if_pos (by rfl),Fw hv,X,if_pos (by rfl),je x hxm,X]
 cases hmo:Tz x with
 | false=>rw [if_pos (by rfl),Yi (fun h=>by rw [hmo] at h; cases h.2.2.2)]
 | true =>
  rw [if_neg (by simp)]
  have hx':=Ye.1 hmo
  refine cp ?_
  unfold Rd
  have hok:Ih (YP m views x).1:=by
   unfold YP
   rw [if_pos hmo]
   exact (T2 hm hv).mok
  rw [mY m views x hm hv hx' c1 (by omega) (by omega),X,hok.icopy,X])

theorem nP (x:List Int):Zy x=some (decide ((x.length:Int)>1048576)):=qv rfl
theorem nQ (m:AA):RM m=some (T4 m):=qG rfl



theorem pK (x:List AL) {k k2:ByteArray} (h:k.toList=k2.toList):BB x k=BB x k2:=by
 unfold BB
 rw [h]
theorem vt {x:List AL} {a b:AL} (hx:Ap x=true) (hb:b∈x):b.2.2<=(BB (Ai x a) b.1).2.2:=by
 have ho:=(Cd.1 hx).2.1
 have same:b.2.2<=(BB x b.1).2.2:=by rw [Mu ho hb]; exact Int.le_refl _
 unfold Ai
 split
 ·exact same
 ·rename_i hs
  try rw [if_pos hx]
  split
  ·rename_i hl
   have ho':=(Cd.1 hl).2.1
   cases hk:(b.1.toList==a.1.toList) with
   | false=>rw [Mu ho' (qy hb hk)]; exact Int.le_refl _
   | true =>
    rw [pK _ (beq_iff_eq.1 hk),Mu ho' mN]
    have:¬ (b.2.2>=a.2.2):=fun h=>hs (List.any_eq_true.2 ⟨b,hb,by rw [hk]; simpa using h⟩)
    omega
  ·exact same

def ZY (k:ByteArray) (b:AL):Bool:=b.1.toList==k.toList
theorem qQ (k:ByteArray):∀ x:List AL,(x.filter (SI k)).length+(x.filter (OA k)).length+(x.filter (ZY k)).length=x.length
 | []=>rfl
 | b::x=>by
  have ih:=qQ k x
  have hi:OA k b=!(SI k b||ZY k b):=rfl
  cases hl:SI k b with
  | true =>
   have hs:ZY k b=false:=by
    cases q:ZY k b with
    | false=>rfl
    | true =>
     have e:b.1.toList=k.toList:=by simpa [ZY] using q
     unfold SI at hl
     rw [e,Yd] at hl
     cases hl
   simp only [List.filter_cons,hi,hl,hs,Bool.true_or,Bool.not_true,if_true,Bool.false_eq_true,if_false,List.length_cons]
   omega
  | false =>
   cases hs:ZY k b with
   | true =>
    simp only [List.filter_cons,hi,hl,hs,Bool.false_or,Bool.not_true,if_true,Bool.false_eq_true,if_false,List.length_cons]
    omega
   | false =>
    simp only [List.filter_cons,hi,hl,hs,Bool.or_false,Bool.not_false,if_true,Bool.false_eq_true,if_false,List.length_cons]
    omega
def H8 (x:List AL) (k:ByteArray):Bool:=x.any (ZY k)
theorem mZ {x:List AL} {k:ByteArray}:H8 x k=true↔1<=(x.filter (ZY k)).length:=by
 unfold H8
 rw [List.any_eq_true]
 constructor
 ·rintro ⟨b,hb,hs⟩
  exact List.length_pos_of_mem (List.mem_filter.2 ⟨hb,hs⟩)
 ·intro h
  obtain ⟨b,hb⟩:=List.exists_mem_of_length_pos h
  exact ⟨b,(List.mem_filter.1 hb).1,(List.mem_filter.1 hb).2⟩
theorem YQ {x:List AL} {k:ByteArray} (h:H8 x k=false):BB x k=(ByteArray.empty,ByteArray.empty,0):=by
 unfold BB
 have:x.find? (fun a=>a.1.toList==k.toList)=none:=by
  rw [List.find?_eq_none]
  intro b hb hs
  have:H8 x k=true:=List.any_eq_true.2 ⟨b,hb,hs⟩
  rw [h] at this
  cases this
 rw [this]
 rfl
theorem ma {x:List AL} {k:ByteArray} (h:H8 x k=true):BB x k∈x/\(BB x k).1.toList=k.toList:=by
 obtain ⟨b,hb,hs⟩:=List.any_eq_true.1 h
 unfold BB
 cases q:x.find? (fun a=>a.1.toList==k.toList) with
 | none =>
  rw [List.find?_eq_none] at q
  exact absurd hs (q b hb)
 | some c=>exact ⟨List.mem_of_find?_eq_some q,by simpa using List.find?_some q⟩
theorem uR {x:List AL} {k:ByteArray} (hx:Ap x=true):UA (.pair .str (.pair .str (.int .i64))) (BB x k) (ByteArray.empty,ByteArray.empty,(0:Int))=!H8 x k:=by
 cases h:H8 x k with
 | false=>rw [YQ h]; exact qM _
 | true =>
  obtain ⟨h1,h2⟩:=ma h
  have h3:=(Cd.1 hx).1 _ h1
  unfold Ig at h3
  simp only [Bool.and_eq_true,decide_eq_true_eq] at h3
  have h4:((BB x k).2.2==(0:Int))=false:=by
   rw [beq_eq_false_iff_ne]
   omega
  show ((BB x k).1.toList==_&&((BB x k).2.1.toList==_&&((BB x k).2.2==(0:Int))))=false
  rw [h4,Bool.and_false,Bool.and_false]
theorem rm {x:List AL} {a:AL} (hx:Ap x=true) (ha:Ig a=true) (hv:Lr x (a.2.2-1)) :
  Ai x a=if x.length=12/\H8 x a.1=false then x else QU x a:=by
 obtain ⟨h1,h2,h3⟩:=Cd.1 hx
 have hs:WU x a=false:=by
  cases q:WU x a with
  | false=>rfl
  | true =>
   obtain ⟨b,hb,hc⟩:=List.any_eq_true.1 q
   simp only [Bool.and_eq_true,decide_eq_true_eq] at hc
   have:=hv b hb
   omega
 have hl:=qQ a.1 x
 have hlen:(QU x a).length=(x.filter (SI a.1)).length+1+(x.filter (OA a.1)).length:=by simp [QU]; omega
 unfold Ai
 rw [hs,if_neg (by simp),if_pos hx]
 have hk:Ap (QU x a)=true↔(QU x a).length<=12:=by
  rw [Cd]
  refine ⟨fun h=>h.2.2,fun h=>⟨fun b hb=>?_,aZ a h2,h⟩⟩
  rcases qL hb with e | e
  ·rw [e]; exact ha
  ·exact h1 b e
 cases hh:H8 x a.1 with
 | true =>
  have:=mZ.1 hh
  rw [if_pos (hk.2 (by omega)),if_neg (by simp)]
 | false =>
  have h0:(x.filter (ZY a.1)).length=0:=by
   rcases Nat.eq_zero_or_pos (x.filter (ZY a.1)).length with e | e
   ·exact e
   ·have:=mZ.2 e
    rw [hh] at this
    cases this
  by_cases h12:x.length=12
  ·rw [if_neg (fun h=>by have:=hk.1 h; omega),if_pos ⟨h12,rfl⟩]
  ·rw [if_pos (hk.2 (by omega)),if_neg (fun h=>h12 h.1)]
theorem mb {x:List AL} {a:AL} (hx:Ap x=true) (ha:Ig a=true) (hv:Lr x (a.2.2-1)) :
  UA (.pair .str (.pair .str (.int .i64))) (BB (Ai x a) a.1) a=!(decide (x.length=12)&&!H8 x a.1):=by
 obtain ⟨h1,h2,h3⟩:=Cd.1 hx
 have ha2:=ha
 unfold Ig at ha2
 simp only [Bool.and_eq_true,decide_eq_true_eq] at ha2
 rw [rm hx ha hv]
 by_cases h:x.length=12/\H8 x a.1=false
 ·rw [if_pos h,YQ h.2,h.2,decide_eq_true h.1]
  have h4:((0:Int)==a.2.2)=false:=by
   rw [beq_eq_false_iff_ne]
   omega
  show (_&&(_&&((0:Int)==a.2.2)))=false
  rw [h4,Bool.and_false,Bool.and_false]
 ·rw [if_neg h,Mu (aZ a h2) mN,qM]
  by_cases h12:x.length=12
  ·cases hh:H8 x a.1 with
   | true=>simp
   | false=>exact absurd ⟨h12,hh⟩ h
  ·simp [h12]
def xV (m:AA) (views:List (List Int)):Bool:=m.2.2.2.2.2.1&&(m.2.2.2.2.2.2.2.2.2.1==0)&&decide (m.2.2.2.2.2.2.2.2.1<900)&&decide (m.2.1<=(views.length:Int))&&((views.getD (m.2.1-1).toNat []).getD 0 0==m.1)
def xW (op call:Int) (key val:ByteArray):Bool:=(op==1||op==2)&&(decide (0<=call)&&decide (call<=1000))&&(decide (1<=(key.size:Int))&&decide ((key.size:Int)<=12))&&decide ((val.size:Int)<=20)&&(op==1||pE val)
theorem mc (m:AA) (views:List (List Int)) (op call:Int) (key val:ByteArray):Um m views op call key val=(xV m views&&xW op call key val):=by
 unfold Um xV xW
 ac_rfl
theorem aq (m:AA) (views:List (List Int)) (hm:Ih m) (hv:QK views):Gs views m=some (xV m views,m):=Uf (by
 have hvl:=hv.len
 have hep:=hm.ep
 have hcnt:=hm.count
 have wm:IntKind.i64.wrap (m.2.1-1)=m.2.1-1:=Aa (by omega)
 unfold Lc xV
 cases h1:m.2.2.2.2.2.1 with
 | false=>rfl
 | true =>
  rw [if_pos (by rfl)]
  by_cases h2:m.2.2.2.2.2.2.2.2.2.1=0
  ·rw [if_pos (by rw [h2]; rfl),h2]
   by_cases h3:m.2.2.2.2.2.2.2.2.1=900
   ·rw [if_neg (by rw [h3]; simp),h3]
    rfl
   ·rw [if_pos (by simpa using h3),decide_eq_true (show m.2.2.2.2.2.2.2.2.1<900 by omega)]
    by_cases h4:m.2.1>(views.length:Int)
    ·rw [if_pos (by simpa using h4),decide_eq_false (show ¬ m.2.1<=(views.length:Int) by omega)]
     rfl
    ·rw [if_neg (by simpa using h4),decide_eq_true (show m.2.1<=(views.length:Int) by omega)]
     refine QT ?_
     have g1:=hv.get (i:=(m.2.1-1).toNat) (by omega)
     unfold Ik
     rw [Fw hv,X,if_pos (by rfl),wm,if_pos (by omega),if_pos (by omega),if_pos (by omega),if_pos (by omega)]
     rfl
  ·rw [if_neg (by simpa using h2),show (m.2.2.2.2.2.2.2.2.2.1==(0:Int))=false by simpa using h2]
   rfl)
theorem md (op call:Int) (key val:ByteArray):K9 op call key val=some (xW op call key val):=cf (by
 have w:∀ b,JS op val b=some (op==1||pE val):=fun b=>Vz (by
  unfold N1
  rw [gL]
  by_cases h:op=1
  ·rw [if_neg (by simp [h]),h]; rfl
  ·rw [if_pos (by simpa using h),show (op==1)=false by simpa using h]; rfl)
 unfold Uc xW
 have sh:decide ((val.size:Int)>20)=!decide ((val.size:Int)<=20):=by
  by_cases h:(val.size:Int)<=20
  ·rw [decide_eq_true h,decide_eq_false (by omega)]; rfl
  ·rw [decide_eq_false h,decide_eq_true (by omega)]; rfl
 have h12:(op==1||op==2)=(decide (1<=op)&&decide (op<=2)):=by
  by_cases a:op=1
  ·subst a; rfl
  ·by_cases b:op=2
   ·subst b; rfl
   ·rw [show (op==1)=false by simpa using a,show (op==2)=false by simpa using b,<- Bool.decide_and,decide_eq_false (by omega)]; rfl
 rw [Ao,X,Ao,N_,h12]
 cases (decide (1<=op)&&decide (op<=2)) with
 | false=>rfl
 | true =>
  rw [if_pos (by rfl),X]
  cases (decide (0<=call)&&decide (call<=1000)) with
  | false=>rfl
  | true =>
   rw [if_pos (by rfl),X]
   cases (decide (1<=(key.size:Int))&&decide ((key.size:Int)<=12)) with
   | false=>rfl
   | true =>
    rw [if_pos (by rfl),sh,w]
    cases decide ((val.size:Int)<=20)<;>rfl)
theorem ji (m:AA) (views:List (List Int)) (op call:Int) (key val:ByteArray) (hm:Ih m) (hv:QK views) (h1:V1 views m):O2 m views op call key val=some (DG m views op call key val):=o9 (by
 have hvl:=hv.len
 have hep:=hm.ep
 have hcnt:=hm.count
 have hl:=hm.lens
 have wm:IntKind.i64.wrap (m.2.1-1)=m.2.1-1:=Aa (by omega)
 have wc:IntKind.i64.wrap (m.2.2.2.2.2.2.2.2.1+1)=m.2.2.2.2.2.2.2.2.1+1:=Aa (by omega)
 have wk:IntKind.i64.wrap (1000*m.2.1)=1000*m.2.1:=Aa (by omega)
 have wv:IntKind.i64.wrap (1000*m.2.1+(m.2.2.2.2.2.2.2.2.1+1))=1000*m.2.1+(m.2.2.2.2.2.2.2.2.1+1):=Aa (by omega)
 unfold ct DG
 rw [Jz hm,X,if_pos (by rfl),aq m views hm hv,X,md,mc]
 cases hb:xV m views with
 | false=>rfl
 | true =>
  dsimp only
  rw [if_pos (by rfl),X]
  cases ha:xW op call key val with
  | false=>rfl
  | true =>
   rw [if_neg (by simp),if_pos (by rfl)]
   have hmay:Um m views op call key val=true:=by rw [mc,hb,ha]; rfl
   obtain ⟨s1,s2,s3,s4,s5,s6,s7,s8,s9,s10⟩:=Yg hmay
   obtain ⟨b1,b2,_⟩:=hm.serves s1
   have hw:=hv.wok (i:=(m.2.1-1).toNat) (by omega)
   have hwl:=hw.len
   have hrl:=G3 (views.getD (m.2.1-1).toNat []) m.1
   have ho:=hO hw m.1
   have hone:Ig (Fv m key val)=true:=(Cd.1 (mR hm s3 s6 s7)).1 _ (by simp)
   have href:=mb (a:=Fv m key val) hm.items hone ((h1.own b2 b1).mono (by show _<=1000*m.2.1+(m.2.2.2.2.2.2.2.2.1+1)-1; omega))
   have hz:=uR (k:=key) hm.items
   have J1:∀ b z,G5 views op call b m z (m.1,m.2.1,m.2.2.1,m.2.2.2.1,m.2.2.2.2.1,m.2.2.2.2.2.1,m.2.2.2.2.2.2.1,m.2.2.2.2.2.2.2.1,m.2.2.2.2.2.2.2.2.1+1,m.2.2.2.2.2.2.2.2.2) (key,val,1000*m.2.1+(m.2.2.2.2.2.2.2.2.1+1))=some (QM m (views.getD (m.2.1-1).toNat []) op call key val):=fun b z=>i8 (by
    unfold V8
    rw [wm,if_pos (by omega),if_pos (by omega),Mw _ _ (by omega),X,CT (by show (Bu (views.getD (m.2.1-1).toNat []) m.1).length<=_; omega),X]
    have hsort:=gR hw m.1
    change ((Ce (Bu (views.getD (m.2.1-1).toNat []) m.1)).bind _)=_
    rw [hsort,X]
    have J2:∀ a c d e x,(∀ q:BK,q=x->q.2.2.2.2.2.length<=12)->(rl (F4 m (views.getD (m.2.1-1).toNat []) op call key val) (Bu (views.getD (m.2.1-1).toNat []) m.1) x=mQ m (views.getD (m.2.1-1).toNat []) op key val) ->
      JT (Bu (views.getD (m.2.1-1).toNat []) m.1) a c (F4 m (views.getD (m.2.1-1).toNat []) op call key val) d e x=some (QM m (views.getD (m.2.1-1).toNat []) op call key val):=fun a c d e x hx12 htell=>i7 (by
     have hx:=hx12 x rfl
     unfold V7 QM
     by_cases h0:(Bu (views.getD (m.2.1-1).toNat []) m.1).length=0
     ·rw [if_pos (by simpa using h0),if_pos (List.length_eq_zero_iff.1 (by rw [ho,h0])),YO _ (by show m.2.2.2.2.2.2.2.1.length<=_; omega),X]
     ·rw [if_neg (by simpa using h0),if_neg (fun e=>h0 (by rw [<- ho,e]; rfl)),CH _ _ _ (by omega) (by omega),X,htell]
      exact d8)
    by_cases hop:op=1
    ·rw [if_pos (by simpa using hop)]
     refine J2 _ _ _ _ _ (fun q e=>by subst e; simp) ?_
     unfold rl mQ
     simp only [hop,if_true]
     rfl
    ·rw [if_neg (by simpa using hop)]
     refine J2 _ _ _ _ _ (fun q e=>by subst e; simp) ?_
     unfold rl mQ
     simp only [hop,if_false]
     rfl)
   refine i9 ?_
   unfold V9
   rw [hm.icopy,X,wc,wk,wv]
   by_cases hop:op=1
   ·rw [if_pos (by simpa using hop)]
    by_cases h12:m.2.2.2.2.2.2.2.1.length=12
    ·rw [if_pos (by simp only [beq_iff_eq]; omega),Tu _ _ (by unfold maxLen; omega),X]
     change (if (false != UA (.pair .str (.pair .str (.int .i64))) (BB m.2.2.2.2.2.2.2.1 key) (ByteArray.empty,ByteArray.empty,(0:Int)))=true then _ else _)=_
     rw [hz]
     rw [h12] at href
     cases hh:H8 m.2.2.2.2.2.2.2.1 key with
     | false =>
      have hh2:H8 m.2.2.2.2.2.2.2.1 (Fv m key val).1=false:=hh
      rw [hh2] at href
      rw [if_pos (by rfl),if_pos ⟨hop,href⟩]
      rfl
     | true =>
      have hh2:H8 m.2.2.2.2.2.2.2.1 (Fv m key val).1=true:=hh
      rw [hh2] at href
      rw [if_neg (by simp),if_neg (fun h=>by have:=h.2; change UA (.pair .str (.pair .str (.int .i64))) (BB _ (Fv m key val).1) _=false at this; rw [href] at this; cases this)]
      exact J1 _ _
    ·rw [if_neg (by simp; omega),if_neg (fun h=>by
      have:=h.2
      change UA (.pair .str (.pair .str (.int .i64))) (BB _ (Fv m key val).1) _=false at this
      rw [href,decide_eq_false h12] at this
      cases this)]
     exact J1 _ _
   ·rw [if_neg (by simpa using hop),if_neg (fun h=>hop h.1)]
    exact J1 _ _)

def pL (m:AA) (views:List (List Int)) (e:Int):AA×List BK×Bool :=
 if 2<=e/\e<=(views.length:Int)/\m.2.1<e/\(views.getD (e-1).toNat []).getD 0 0=m.1 then
  if (m.2.2.2.1&&(m.2.1==e-1))=true then
   (QV (KT m e) (views.getD (e-1).toNat []) m.2.2.2.2.2.2.2.1,(Bu (views.getD (e-1).toNat []) m.1).map (fun v=>(3,m.1,v,e,0,m.2.2.2.2.2.2.2.1)),true)
  else (KT m e,(Bu (views.getD (e-2).toNat []) m.1).map (fun v=>(1,m.1,v,e,0,[])),true)
 else (JG,[],false)
theorem jj (m:AA) (views:List (List Int)) (e:Int) (hm:Ih m) (hv:QK views):O3 m views e=some (pL m views e):=o_ (by
 have hvl:=hv.len
 have hep:=hm.ep
 have hl:=hm.lens
 unfold cv pL
 rw [Jz hm,X,if_neg (by simp),Fw hv,X,if_neg (by simp),Ao,X]
 by_cases h1:2<=e/\e<=(views.length:Int)
 case neg =>
  rw [if_pos (by rw [<- Bool.decide_and,decide_eq_false h1]; rfl),if_neg (fun h=>h1 ⟨h.1,h.2.1⟩)]
  rfl
 have we:IntKind.i64.wrap (e-1)=e-1:=Aa (by omega)
 have we2:IntKind.i64.wrap (e-2)=e-2:=Aa (by omega)
 rw [if_neg (by rw [<- Bool.decide_and,decide_eq_true h1]; simp),we]
 by_cases h2:m.2.1<e
 case neg =>
  rw [if_pos (by simp; omega),if_neg (fun h=>h2 h.2.2.1)]
  rfl
 have g1:=hv.get (i:=(e-1).toNat) (by omega)
 have hw:=hv.wok (i:=(e-1).toNat) (by omega)
 have hw2:=hv.wok (i:=(e-2).toNat) (by omega)
 have hwl:=hw2.len
 rw [if_neg (by simp; omega),if_pos (by omega),if_pos (by omega),if_pos (by omega),if_pos (by omega)]
 by_cases h3:(views.getD (e-1).toNat []).getD 0 0=m.1
 case neg =>
  rw [if_pos (by simpa using h3),if_neg (fun h=>h3 h.2.2.2)]
  rfl
 rw [if_neg (by simpa using h3),if_pos ⟨h1.1,h1.2,h2,h3⟩]
 refine jA ?_
 unfold WB
 rw [hm.icopy,X,we]
 have J1:∀ b z,JU views e b m z m=some (if b=true then (QV (KT m e) (views.getD (e-1).toNat []) m.2.2.2.2.2.2.2.1,(Bu (views.getD (e-1).toNat []) m.1).map (fun v=>(3,m.1,v,e,0,m.2.2.2.2.2.2.2.1)),true)
   else (KT m e,(Bu (views.getD (e-2).toNat []) m.1).map (fun v=>(1,m.1,v,e,0,[])),true)):=fun b z=>i_ (by
  unfold WA
  rw [SG,X,we,we2]
  cases b with
  | true =>
   rw [if_pos rfl,if_pos (by omega),if_pos (by omega)]
   change ((C_ (views.getD (e-1).toNat []) m.2.2.2.2.2.2.2.1 (KT m e)).bind _)=_
   rw [QO _ _ (KT m e) hw (by omega) rfl,X]
   rfl
  | false =>
   rw [if_neg (by simp),if_pos (by omega),if_pos (by omega)]
   change pS ((By (views.getD (e-2).toNat []) (KT m e)).bind _) ((By (views.getD (e-2).toNat []) (KT m e)).bind _)=_
   have hrl:=G3 (views.getD (e-2).toNat []) m.1
   rw [Mw _ (KT m e) (by omega),X,X,CH _ _ (KT m e) (by show (Bu (views.getD (e-2).toNat []) m.1).length<=_; omega) (by simp),X,X,X,d8]
   exact d8)
 cases hb:m.2.2.2.1 with
 | true=>rw [if_pos rfl,J1,Bool.true_and]
 | false=>rw [if_neg (by simp),J1,Bool.false_and])
theorem Y9 (id:Int) (views:List (List Int)) (hi:1<=id/\id<=6) (hv:QK views):MV id views=some (Dy id views,true):=fU (by
 have hvl:=hv.len
 have g:=hv.get (i:=0) (by omega)
 unfold TV
 rw [GZ,X,if_pos (by rw [<- Bool.decide_and,decide_eq_true hi]; rfl),Fw hv,X,if_neg (by simp)]
 refine Yv ?_
 unfold OX
 rw [show views.getD (0:Int).toNat ([]:List Int)=views.getD 0 [] from rfl,YM _ _ (by unfold maxLen; omega),X]
 repeat rw [if_pos (by omega)]
 rfl)

theorem Ok (x:List (List Int)) (h:x.length<=1000) (ho:∀ a∈x,a.length<=1000):IS x=some x:=fT (by
 have key:=GY (n:=x.length) (P:=fun i=>GA x (x.length:Int) (i:Int) (x.take i)=some x) (OV (by
  unfold Iu
  rw [if_neg (by simp),List.take_length])) (fun i hi ih=>OV (by
  unfold Iu
  have hb:=ho x[i] (List.getElem_mem hi)
  simp only [show ((i:Int)<(x.length:Int)) from by omega,decide_true,if_true,show (0:Int)<=(i:Int) from by omega,Int.toNat_natCast,AU hi,AR (show i<9223372036854775807 by omega)]
  rw [CT (by omega),X,if_pos (by simp; omega),List.take_append_getElem]
  exact ih)) 0 (by omega)
 unfold TU
 exact key)
theorem Y_ (g:Ab) (k:Nat) (hg:Lu g k) (hk:k<=10000):IQ g=some g:=fI (by
 have hvl:=hg.views.len
 have hc:=hg.clen
 have hf:=hg.flen
 have h6:=hg.six
 unfold TN
 rw [Ok g.1 (by omega) (fun a ha=>by have:=hg.views.view ha; omega),X,Jl (by omega),X]
 have key2:∀ a b c d e f h k,ED g.2.2.1 (g.2.2.1.length:Int) ((0:Nat):Int) a b c d e f h k g.2.1 [] g.2.2.2 g.1=some g:=by
  intro a b c d e f h k
  have key':=GY (n:=g.2.2.1.length) (P:=fun i=>ED g.2.2.1 (g.2.2.1.length:Int) (i:Int) a b c d e f h k g.2.1 (g.2.2.1.take i) g.2.2.2 g.1=some g) (OT (by
   unfold Is
   rw [if_neg (by simp),List.take_length])) (fun i hi ih=>OT (by
   unfold Is
   have hm:=KM (hg.fly _ (List.getElem_mem hi)).items
   have hz:g.2.2.1.getD i ((0:Int),(0:Int),(0:Int),(0:Int),(0:Int),([]:List AL))=g.2.2.1[i]:=AU hi
   simp only [show ((i:Int)<(g.2.2.1.length:Int)) from by omega,decide_true,if_true,show (0:Int)<=(i:Int) from by omega,Int.toNat_natCast,hz,AR (show i<9223372036854775807 by omega)]
   rw [Ls _ (by omega),X,if_pos (by simp; omega),List.take_append_getElem]
   exact ih)) 0 (by omega)
  exact key'
 have key0:∀ a b c d e f h,EE g.2.1 (g.2.1.length:Int) ((0:Nat):Int) a b g.2.2.1 c d e f h [] [] g.2.2.2 g.1=some g:=by
  intro a b c d e f h
  have key':=GY (n:=g.2.1.length) (P:=fun i=>EE g.2.1 (g.2.1.length:Int) (i:Int) a b g.2.2.1 c d e f h (g.2.1.take i) [] g.2.2.2 g.1=some g) (OU (by
   unfold It
   rw [if_neg (by simp),List.take_length]
   refine Yt ?_
   unfold OS
   exact key2 _ _ _ _ _ _ _ _)) (fun i hi ih=>OU (by
   unfold It
   have hm:=(hg.mem i (by omega)).1
   unfold BS at hm
   rw [AU hi] at hm
   have hz:g.2.1.getD i ((0:Int),(0:Int),false,false,false,false,([]:List Int),([]:List AL),(0:Int),(0:Int),(0:Int),(0:Int),(ByteArray.empty,ByteArray.empty,(0:Int)),([]:List Int))=g.2.1[i]:=AU hi
   simp only [show ((i:Int)<(g.2.1.length:Int)) from by omega,decide_true,if_true,show (0:Int)<=(i:Int) from by omega,Int.toNat_natCast,hz,hm.icopy,X,AR (show i<9223372036854775807 by omega)]
   rw [if_pos (by simp; omega),List.take_append_getElem]
   exact ih)) 0 (by omega)
  exact key'
 exact key0 _ _ _ _ _ _ _)
theorem dr {views:List (List Int)} (hv:QK views):Np views=some (Ae views,true):=ix (by
 have hvl:=hv.len
 unfold Vv
 rw [Fw hv,X,if_neg (by simp),Ok views (by omega) (fun a ha=>by have:=hv.view ha; omega),X]
 have step:∀ (i:Nat) (a:_) (b:_) (c:_) (d:_) (l:List AA) r,1<=i->i<=6->l.length<=6->E3 views ((i+1:Nat):Int) a b c d (l++[Dy (i:Int) views]) [] [] views=some r->E3 views (i:Int) a b c d l [] [] views=some r:=by
  intro i a b c d l r h1 h6 hl hr
  refine P7 ?_
  unfold Js
  rw [if_pos (by simp; omega),Y9 _ _ (by omega) hv,X,if_pos (by simp; omega),AR (show i<9223372036854775807 by omega)]
  exact hr
 refine step 1 _ _ _ _ _ _ (by omega) (by omega) (by simp) ?_
 refine step 2 _ _ _ _ _ _ (by omega) (by omega) (by simp) ?_
 refine step 3 _ _ _ _ _ _ (by omega) (by omega) (by simp) ?_
 refine step 4 _ _ _ _ _ _ (by omega) (by omega) (by simp) ?_
 refine step 5 _ _ _ _ _ _ (by omega) (by omega) (by simp) ?_
 refine step 6 _ _ _ _ _ _ (by omega) (by omega) (by simp) ?_
 refine P7 ?_
 unfold Js
 rw [if_neg (by decide)]
 rfl)
theorem EW {k:Nat} (id:Int) (g:Ab) (ms:Lu g k) (hi:1<=id/\id<=6):Bj id g=some (id-1,g):=Yw (by
 have h6:=ms.six
 have step:∀ j (hj:j<6),HE (g.2.1.getD j ((0:Int),(0:Int),false,false,false,false,([]:List Int),([]:List AL),(0:Int),(0:Int),(0:Int),(0:Int),(ByteArray.empty,ByteArray.empty,(0:Int)),([]:List Int))) id=some ((j:Int)+1==id):=fun j hj=>Wh (by
  unfold MC
  have:=(ms.mem j hj).2
  unfold BS at this
  change some ((g.2.1.getD j JG).1==id)=_
  rw [this])
 have key:∀ (d j:Nat),j+d=5->(j:Int)+1<=id->BC g.2.1 id (g.2.1.length:Int) (j:Int)=some (id-1):=by
  intro d
  induction d with
  | zero =>
   intro j hj hle
   refine Cm ?_
   unfold Bf
   rw [if_pos (by simp; omega),if_pos (by omega),if_pos (by omega),Int.toNat_natCast,step j (by omega),X,if_pos (by simp; omega)]
   congr 1; omega
  | succ d ih =>
   intro j hj hle
   refine Cm ?_
   unfold Bf
   rw [if_pos (by simp; omega),if_pos (by omega),if_pos (by omega),Int.toNat_natCast,step j (by omega),X]
   by_cases e:(j:Int)+1=id
   ·rw [if_pos (by simpa using e)]
    congr 1; omega
   ·rw [if_neg (by simpa using e),AR (by omega)]
    exact ih (j+1) (by omega) (by omega)
 unfold OY
 rw [show B5 g.2.1 id=some (id-1) from G0 (by
  unfold DD
  exact key 5 0 rfl (by omega)),X])
theorem H9 (told:List BK) (said:List Cn) (at_:Int) (g:Ab) (hf:g.2.2.1.length+told.length<=68719476736) (hc:g.2.2.2.length<=68719476736) (hs:gO said) (hd:∀ c∈g.2.2.2,c.2.2.2.2.1=-1\/0<=c.2.2.2.2.1) :
  Ff told said at_ g=some (g.1,g.2.1,g.2.2.1++told,said.foldl (Hj at_) g.2.2.2):=cq (by
 have hsl:=hs.1
 unfold Re
 rw [if_pos hf]
 have fin:∀ (n:Nat) (cs:List H5),n=said.length->CL at_ said (said.length:Int) (n:Int) g.1 g.2.1 (g.2.2.1++told) cs=some (g.1,g.2.1,g.2.2.1++told,cs):=fun n cs hn=>NV (by
  unfold Ht
  rw [if_neg (by simp; omega)])
 match said,hs,hsl,fin with
 | [],_,_,fin=>exact fin 0 _ rfl
 | [s],hs,_,fin =>
  have h0:=(hs.2 s (by simp)).1
  refine NV ?_
  unfold Ht
  have wl:IntKind.i64.wrap ((g.2.2.2.length:Int)-1)=(g.2.2.2.length:Int)-1:=Aa (by omega)
  rw [if_pos (by simp),if_pos (by omega),if_pos (by simp)]
  change ((Af s.1 0 (IntKind.i64.wrap ((g.2.2.2.length:Int)-1))).bind _)=_
  rw [Ao,X,wl,Aa (show -9223372036854775808<=(0:Int)+1/\(0:Int)+1<=9223372036854775807 by omega)]
  show _=some (g.1,g.2.1,g.2.2.1++told,Hj at_ g.2.2.2 s)
  have f1:=fun cs=>fin 1 cs rfl
  by_cases c1:s.1>=(g.2.2.2.length:Int)
  ·rw [if_pos (by rw [<- Bool.decide_and,decide_eq_false (by omega)]; rfl)]
   have:Hj at_ g.2.2.2 s=g.2.2.2:=by unfold Hj; rw [if_pos (by simp [c1])]
   rw [this]
   exact f1 _
  ·rw [if_neg (by rw [<- Bool.decide_and,decide_eq_true (by omega)]; simp)]
   change (if 0<=s.1 then (if s.1<(g.2.2.2.length:Int) then (if ((g.2.2.2.getD s.1.toNat EB).2.2.2.2.1 != -1)=true then _ else _) else _) else _)=_
   rw [if_pos h0,if_pos (by omega)]
   have hcl:s.1.toNat<g.2.2.2.length:=by omega
   have hdd:=hd (g.2.2.2.getD s.1.toNat EB) (by rw [AU hcl]; exact List.getElem_mem _)
   by_cases c2:(g.2.2.2.getD s.1.toNat EB).2.2.2.2.1>=0
   ·rw [if_pos (by simp only [bne_iff_ne,ne_eq]; omega)]
    have:Hj at_ g.2.2.2 s=g.2.2.2:=by unfold Hj; rw [if_pos (by rw [decide_eq_true c2,Bool.or_true])]
    rw [this]
    exact f1 _
   ·rw [if_neg (by simp only [bne_iff_ne,ne_eq]; omega)]
    have e:Hj at_ g.2.2.2 s=g.2.2.2.set s.1.toNat (QN at_ s (g.2.2.2.getD s.1.toNat EB)):=by unfold Hj; rw [if_neg (by rw [decide_eq_false c1,decide_eq_false c2]; simp)]
    rw [e]
    refine Xx ?_
    unfold NU
    have hz2:∀ (l:List H5),l.getD s.1.toNat ((0:Int),ByteArray.empty,ByteArray.empty,(0:Int),(0:Int),(0:Int),(0:Int),(0:Int),ByteArray.empty)=l.getD s.1.toNat EB:=fun l=>rfl
    have hz3:([s]:List Cn).getD (0:Int).toNat ((0:Int),(0:Int),(0:Int),ByteArray.empty,ByteArray.empty,(0:Int))=s:=rfl
    simp only [hz3,hz2,pG hcl,List.set_set,List.length_set]
    rw [if_pos h0,if_pos (by omega),Aa (show -9223372036854775808<=(0:Int)+1/\(0:Int)+1<=9223372036854775807 by omega)]
    unfold QN
    by_cases c3:(g.2.2.2.getD s.1.toNat EB).1=2
    ·rw [if_pos (show ((g.2.2.2.getD s.1.toNat EB).1==2)=true by simpa using c3),if_pos (show ((g.2.2.2.getD s.1.toNat EB).1==2)=true by simpa using c3)]
     exact f1 _
    ·rw [if_neg (show ¬ ((g.2.2.2.getD s.1.toNat EB).1==2)=true by simpa using c3),if_neg (show ¬ ((g.2.2.2.getD s.1.toNat EB).1==2)=true by simpa using c3)]
     exact f1 _
 | _::_::_,_,hsl,_=>simp at hsl)

theorem Lu.call {g:Ab} {k:Nat} (h:Lu g k) (at_:Int) (e:Df):Lu (Gf g at_ e) (k+1) :=
 ⟨h.views,h.six,h.mem,h.fly,by have:=h.flen; show g.2.2.1.length<=_; omega,by have:=h.clen; simp only [Gf,List.length_append,List.length_cons,List.length_nil]; omega⟩
theorem Wq (at_:Int) (e:Df) (g:Ab) (k:Nat) (hg:Lu g k) (hk:k<=1000) (h3:V3 g) (hn:1<=e.2.1/\e.2.1<=6):Jf e at_ g=some ((I2 g at_ e).1==0,(I2 g at_ e).2):=aM (by
 have hc:=hg.clen
 have hf:=hg.flen
 have h6:=hg.six
 have hgc:=hg.call at_ e
 have h3c:=h3.call at_ e
 obtain ⟨m1,m2⟩:=hg.mem (e.2.1-1).toNat (by omega)
 have hb:=Yh (op:=e.2.2.2.1) (call:=(g.2.2.2.length:Int)) (key:=e.2.2.2.2.1) (val:=e.2.2.2.2.2) m1 hg.views
 unfold QC I2
 rw [if_pos (by simp; omega)]
 change ((Bj e.2.1 (Gf g at_ e)).bind _)=_
 rw [EW e.2.1 _ hgc hn,X]
 change (if 0<=e.2.1-1 then (if e.2.1-1<(g.2.1.length:Int) then ((O2 (BS g (e.2.1-1).toNat) g.1 e.2.2.2.1 (g.2.2.2.length:Int) e.2.2.2.2.1 e.2.2.2.2.2).bind _) else none) else none)=_
 rw [if_pos (by omega),if_pos (by omega),ji _ _ _ _ _ _ m1 hg.views (h3.mem _ (by omega)),X]
 cases hq:(DG (BS g (e.2.1-1).toNat) g.1 e.2.2.2.1 (g.2.2.2.length:Int) e.2.2.2.2.1 e.2.2.2.2.2).2.2.2 with
 | false=>rfl
 | true =>
  have hid:=hb.id hq
  have htl:=hb.tlen
  rw [if_neg (by simp),if_pos rfl]
  change (if 0<=e.2.1-1 then (if e.2.1-1<(g.2.1.length:Int) then _ else none) else none)=_
  rw [if_pos (by omega),if_pos (by omega)]
  dsimp only
  have:=H9 (DG (BS g (e.2.1-1).toNat) g.1 e.2.2.2.1 (g.2.2.2.length:Int) e.2.2.2.2.1 e.2.2.2.2.2).2.1 (DG (BS g (e.2.1-1).toNat) g.1 e.2.2.2.1 (g.2.2.2.length:Int) e.2.2.2.2.1 e.2.2.2.2.2).2.2.1 at_
   ((Gf g at_ e).1,(Gf g at_ e).2.1.set (e.2.1-1).toNat (DG (BS g (e.2.1-1).toNat) g.1 e.2.2.2.1 (g.2.2.2.length:Int) e.2.2.2.2.1 e.2.2.2.2.2).1,(Gf g at_ e).2.2.1,(Gf g at_ e).2.2.2) (by show g.2.2.1.length+_<=_; omega) (by simp only [Gf,List.length_append,List.length_cons,List.length_nil]; omega) hb.said h3c.calls
  rw [this,X]
  unfold BG
  rw [hid,m2,show (((e.2.1-1).toNat:Int)+1-1).toNat=(e.2.1-1).toNat by omega]
  rfl)
theorem ss {m:AA} {views:List (List Int)} {e:Int} (h:V1 views m):pL m views e=EV m views e:=by
 unfold pL EV
 split
 ·cases hb:m.2.2.2.1 with
  | false=>rfl
  | true =>
   have hv:=(h.view hb).2
   by_cases he:m.2.1=e-1
   ·rw [show (e-2).toNat=(m.2.1-1).toNat by omega,hv,show (m.2.1==e-1)=true by simpa using he]
    rfl
   ·rw [show (m.2.1==e-1)=false by simpa using he]
    rfl
 ·rfl
theorem Wr (at_:Int) (e:Df) (g:Ab) (k:Nat) (hg:Lu g k) (hk:k<=1000) (h3:V3 g) (hn:1<=e.2.1/\e.2.1<=6):Jg e at_ g=some ((YK g at_ e.2.1).1==0,(YK g at_ e.2.1).2):=aN (by
 have hc:=hg.clen
 have hf:=hg.flen
 have h6:=hg.six
 have hvl:=hg.views.len
 obtain ⟨m1,m2⟩:=hg.mem (e.2.1-1).toNat (by omega)
 have hep:=m1.ep
 have h1:=h3.mem (e.2.1-1).toNat (by omega)
 unfold QD YK
 rw [EW e.2.1 g hg hn,X]
 change (if 0<=e.2.1-1 then (if e.2.1-1<(g.2.1.length:Int) then DR at_ (e.2.1-1) (IntKind.i64.wrap ((BS g (e.2.1-1).toNat).2.1+1)) g.1 g.2.1 g.2.2.1 g.2.2.2 e else none) else none)=_
 rw [if_pos (by omega),if_pos (by omega),Aa (by omega)]
 have key:∀ (n:Nat) (ep:Int),1<=ep->ep+(n:Int)=(g.1.length:Int)+1->DR at_ (e.2.1-1) ep g.1 g.2.1 g.2.2.1 g.2.2.2 e=some ((H6 g at_ (BS g (e.2.1-1).toNat) e.2.1 n ep).1==0,(H6 g at_ (BS g (e.2.1-1).toNat) e.2.1 n ep).2):=by
  intro n
  induction n with
  | zero =>
   intro ep h1 h2
   refine HI ?_
   unfold FC
   rw [if_neg (by simp; omega)]
   rfl
  | succ n ih =>
   intro ep hp1 hp2
   refine HI ?_
   unfold FC H6
   have we:IntKind.i64.wrap (ep-1)=ep-1:=Aa (by omega)
   have g1:=hg.views.get (i:=(ep-1).toNat) (by omega)
   rw [if_pos (by simp; omega),we,if_pos (by omega),if_pos (by omega),if_pos (by omega),if_pos (by omega)]
   change (if ((g.1.getD (ep-1).toNat []).getD 0 0 != e.2.1)=true then _ else _)=_
   by_cases hq:((g.1.getD (ep-1).toNat []).getD 0 0 != e.2.1)=true
   ·rw [if_pos hq,if_pos hq,Aa (by omega)]
    exact ih (ep+1) (by omega) (by omega)
   ·rw [if_neg hq,if_neg hq,if_pos (by omega),if_pos (by omega)]
    change ((O3 (BS g (e.2.1-1).toNat) g.1 ep).bind _)=_
    rw [jj _ _ _ m1 hg.views,X,ss h1]
    cases hb:(EV (BS g (e.2.1-1).toNat) g.1 ep).2.2 with
    | false=>rfl
    | true =>
     have ha:=T3 (e:=ep) m1 hg.views hb
     have hal:=ha.2.2.2
     rw [if_pos rfl,if_pos rfl,if_pos (by omega),if_pos (by omega)]
     dsimp only
     have:=H9 (EV (BS g (e.2.1-1).toNat) g.1 ep).2.1 [] at_ (g.1,g.2.1.set (e.2.1-1).toNat (EV (BS g (e.2.1-1).toNat) g.1 ep).1,g.2.2.1,g.2.2.2) (by show g.2.2.1.length+_<=_; omega) (by show g.2.2.2.length<=_; omega) E_ h3.calls
     rw [this,X]
     unfold BG
     rw [ha.2.1,m2,show (((e.2.1-1).toNat:Int)+1-1).toNat=(e.2.1-1).toNat by omega]
     rfl
 by_cases hle:(BS g (e.2.1-1).toNat).2.1<=(g.1.length:Int)
 ·exact key _ _ (by omega) (by omega)
 ·have e0:((g.1.length:Int)-(BS g (e.2.1-1).toNat).2.1).toNat=0:=by omega
  rw [e0]
  refine HI ?_
  unfold FC
  rw [if_neg (fun h=>hle (by have:=of_decide_eq_true h; omega))]
  rfl)
def dt (g:Ab) (i:Nat) (at_:Int):Ab:=BG (Ej g i)
 (DF (BS g ((g.2.2.1.getD i DH).2.2.1-1).toNat) g.1 (g.2.2.1.getD i DH)).1 (DF (BS g ((g.2.2.1.getD i DH).2.2.1-1).toNat) g.1 (g.2.2.1.getD i DH)).2.1 (DF (BS g ((g.2.2.1.getD i DH).2.2.1-1).toNat) g.1 (g.2.2.1.getD i DH)).2.2 at_
theorem T7 (at_:Int) (i:Nat) (g:Ab) (k:Nat) (hg:Lu g k) (hk:k<=10000) (h3:V3 g) (hi:i<g.2.2.1.length):Hq (i:Int) at_ g=some (dt g i at_):=Xl (by
 have hc:=hg.clen
 have hf:=hg.flen
 have h6:=hg.six
 have hmem:g.2.2.1.getD i DH∈g.2.2.1:=by rw [AU hi]; exact List.getElem_mem _
 have hx:=hg.fly _ hmem
 have hv2:=h3.fly _ hmem
 unfold NQ dt
 rw [if_pos (by omega),if_pos (by omega),AR (by omega)]
 change ((BV g.2.2.1 (i:Int) ((i+1:Nat):Int)).bind fun y1=>((Bj (g.2.2.1.getD i DH).2.2.1 (g.1,g.2.1,y1,g.2.2.2)).bind _))=_
 rw [FJ (by omega) (by omega),X]
 have hto:=hx.to
 generalize hxx:g.2.2.1.getD i DH=x at *
 obtain ⟨m1,m2⟩:=hg.mem (x.2.2.1-1).toNat (by omega)
 have hho:=T2 (x:=x) m1 hg.views
 have hil:=KM hx.items
 change ((Bj x.2.2.1 (Ej g i)).bind _)=_
 rw [EW x.2.2.1 (Ej g i) (hg.less i) hto,X]
 change (if decide (x.2.2.1-1>=0)=true then (if 0<=x.2.2.1-1 then (if x.2.2.1-1<(g.2.1.length:Int) then ((K_ (BS g (x.2.2.1-1).toNat) g.1 (g.2.2.1.getD (i:Int).toNat DH)).bind _) else none) else none) else _)=_
 rw [Int.toNat_natCast,hxx,if_pos (by simp; omega),if_pos (by omega),if_pos (by omega),dq _ _ _ m1 hg.views (by omega),X]
 have hhi:YP (BS g (x.2.2.1-1).toNat) g.1 x=DF (BS g (x.2.2.1-1).toNat) g.1 x:=by
  unfold YP
  rw [if_pos (Ye.2 hx),uQ hv2.inst]
 rw [hhi]
 change (if 0<=x.2.2.1-1 then (if x.2.2.1-1<(g.2.1.length:Int) then _ else none) else none)=_
 rw [if_pos (by omega),if_pos (by omega)]
 dsimp only
 have htl:=hho.tlen
 have:=H9 (DF (BS g (x.2.2.1-1).toNat) g.1 x).2.1 (DF (BS g (x.2.2.1-1).toNat) g.1 x).2.2 at_
  ((Ej g i).1,(Ej g i).2.1.set (x.2.2.1-1).toNat (DF (BS g (x.2.2.1-1).toNat) g.1 x).1,(Ej g i).2.2.1,(Ej g i).2.2.2) (by
   have:(Ej g i).2.2.1.length<=g.2.2.1.length:=by simp only [Ej,List.length_append,List.length_take,List.length_drop]; omega
   show (Ej g i).2.2.1.length+_<=_; omega) (by show g.2.2.2.length<=_; omega) hho.said h3.calls
 rw [this,X]
 unfold BG
 rw [hho.id,m2,show (((x.2.2.1-1).toNat:Int)+1-1).toNat=(x.2.2.1-1).toNat by omega])
theorem Ws (at_:Int) (e:Df) (g:Ab) (k:Nat) (hg:Lu g k) (hk:k<=1000) (h3:V3 g) (he:Jx e=true):Gq e at_ g=some ((mT g at_ e).1==0,(mT g at_ e).2):=aC (by
 have hn:=dd he
 have h6:=hg.six
 have hf:=hg.flen
 unfold P8 mT
 by_cases h1:e.1=1
 ·rw [if_pos (by simpa using h1),if_pos h1,Wq at_ e g k hg hk h3 (by omega)]; rfl
 rw [if_neg (by simpa using h1),if_neg h1]
 by_cases h5:e.1=5
 ·rw [if_pos (by simpa using h5),if_pos h5,Wr at_ e g k hg hk h3 (by omega)]; rfl
 rw [if_neg (by simpa using h5),if_neg h5]
 by_cases h7:e.1=6
 ·obtain ⟨m1,m2⟩:=hg.mem (e.2.1-1).toNat (by omega)
  rw [if_pos (by simpa using h7),if_pos h7,EW e.2.1 g hg (by omega),X]
  change (if 0<=e.2.1-1 then (if e.2.1-1<(g.2.1.length:Int) then ((RM (BS g (e.2.1-1).toNat)).bind _) else none) else none)=_
  rw [if_pos (by omega),if_pos (by omega),nQ,X]
  change (if 0<=e.2.1-1 then (if e.2.1-1<(g.2.1.length:Int) then _ else none) else none)=_
  rw [if_pos (by omega),if_pos (by omega)]
  unfold BG
  have:((T4 (BS g (e.2.1-1).toNat)).1-1).toNat=(e.2.1-1).toNat:=by
   show ((BS g (e.2.1-1).toNat).1-1).toNat=_
   rw [m2]; omega
  rw [this,List.append_nil]
  rfl
 rw [if_neg (by simpa using h7),if_neg h7]
 have hm:Hr e at_ g=some ((am g at_ e).1==0,(am g at_ e).2):=Xq (by
  unfold NR am
  by_cases h0:g.2.2.1=[]
  ·rw [if_pos (by rw [h0]; rfl),if_pos h0]; rfl
  have hl:0<g.2.2.1.length:=by
   cases hq:g.2.2.1 with
   | nil=>exact absurd hq h0
   | cons a l=>simp
  have hem:Int.tmod e.2.2.1 (g.2.2.1.length:Int)=e.2.2.1 % (g.2.2.1.length:Int):=Int.tmod_eq_emod_of_nonneg (by omega)
  have hlt:(e.2.2.1 % (g.2.2.1.length:Int)).toNat<g.2.2.1.length:=by
   have h1:=Int.emod_lt_of_pos e.2.2.1 (show (0:Int)<(g.2.2.1.length:Int) by omega)
   have h2:=Int.emod_nonneg e.2.2.1 (show (g.2.2.1.length:Int)≠0 by omega)
   omega
  obtain ⟨i,hi⟩:∃ i:Nat,e.2.2.1 % (g.2.2.1.length:Int)=(i:Int):=⟨(e.2.2.1 % (g.2.2.1.length:Int)).toNat,by
   have h2:=Int.emod_nonneg e.2.2.1 (show (g.2.2.1.length:Int)≠0 by omega)
   omega⟩
  rw [if_neg (by simp only [beq_iff_eq]; omega),if_neg (by omega),if_neg h0,hem,hi]
  rw [hi,Int.toNat_natCast] at hlt
  simp only [Int.toNat_natCast]
  by_cases k2:e.1=2
  ·rw [if_pos (by simpa using k2),if_neg (by omega),if_neg (by omega),T7 at_ i g k hg (by omega) h3 hlt]
   rfl
  rw [if_neg (by simpa using k2)]
  by_cases k3:e.1=3
  ·rw [if_pos (by simpa using k3),if_neg (by omega),if_pos k3,AR (by omega),FJ (by omega) (by omega)]
   rfl
  have k4:e.1=4:=by omega
  have hmem:g.2.2.1.getD i DH∈g.2.2.1:=by rw [AU hlt]; exact List.getElem_mem _
  have hil:=KM (hg.fly _ hmem).items
  rw [if_neg (by simpa using k3),if_pos (by simpa using k4),if_pos k4,if_pos (by omega),if_pos (by omega)]
  change ((GN (g.2.2.1.getD i DH)).bind _)=_
  rw [Ls _ (by omega),X,if_pos (by simp; omega)]
  rfl)
 rw [hm]
 rfl)
theorem du {views:List (List Int)} {events:List Df} (hv:QK views) (hl:events.length<=70) (he:∀ e∈events,Jx e=true) :
  Nn views events=some ((H7 0 events (Ae views) []).1,(H7 0 events (Ae views) []).2,true):=iZ (by
 have hg:=T5 hv
 obtain ⟨r1,r2,r3⟩:=jt events 0 (Ae views) [] hg (by omega) he
 unfold Vn
 rw [dr hv,X,if_pos (by rfl),if_neg (by simp; omega)]
 refine Z5 ?_
 unfold Pw
 have codes:∀ (g:Ab) (a:Int) (e:Df),Jx e=true->(mT g a e).1=0\/(mT g a e).1=1:=by
  intro g a e he
  have hfa:∀ (m:AA) (nd:Int) (n:Nat) (ep:Int),(H6 g a m nd n ep).1=0\/(H6 g a m nd n ep).1=1:=by
   intro m nd n
   induction n with
   | zero=>intro ep; exact .inr rfl
   | succ n ih =>
    intro ep
    unfold H6
    split
    ·exact ih _
    ·split
     ·exact .inl rfl
     ·exact .inr rfl
  unfold mT
  split
  ·unfold I2; split
   ·exact .inl rfl
   ·exact .inr rfl
  ·split
   ·exact hfa _ _ _ _
   ·split
    ·exact .inl rfl
    ·unfold am
     split
     ·exact .inr rfl
     ·split
      ·exact .inl rfl
      ·split
       ·exact .inl rfl
       ·exact .inl rfl
 have L3:∀ a b c d,E0 events (events.length:Int) ((0:Nat):Int) a b c d (Ae views).2.1 (Ae views).2.2.1 (Ae views).2.2.2 (Ae views).1 []=some ((H7 0 events (Ae views) []).1,(H7 0 events (Ae views) []).2,true):=by
  intro a b c d
  have key:=GY (n:=events.length) (P:=fun i=>∀ (g:Ab) (cs:List Int),Lu g i->V3 g->cs.length=i->H7 i (events.drop i) g cs=H7 0 events (Ae views) []->E0 events (events.length:Int) (i:Int) a b c d g.2.1 g.2.2.1 g.2.2.2 g.1 cs=some ((H7 0 events (Ae views) []).1,(H7 0 events (Ae views) []).2,true)) (fun g cs hgi h3 hcs hr=>Px (by
   unfold Jn
   rw [if_neg (by simp)]
   change ((IQ g).bind _)=_
   rw [Y_ g events.length hgi (by omega),X]
   rw [List.drop_eq_nil_of_le (Nat.le_refl _)] at hr
   rw [<- hr]
   rfl)) (fun i hi ih g cs hgi h3 hcs hr=>Px (by
   unfold Jn
   obtain ⟨d2,_⟩:=hgi.event (at_:=(i:Int)) (he _ (List.getElem_mem hi))
   have hz:events.getD i ((0:Int),(0:Int),(0:Int),(0:Int),ByteArray.empty,ByteArray.empty)=events[i]:=AU hi
   simp only [show ((i:Int)<(events.length:Int)) from by omega,decide_true,if_true,show (0:Int)<=(i:Int) from by omega,Int.toNat_natCast,hz,AR (show i<9223372036854775807 by omega)]
   change ((Gq events[i] (i:Int) g).bind _)=_
   rw [Ws (i:Int) events[i] g i hgi (by omega) h3 (he _ (List.getElem_mem hi)),X]
   have hcode:R7 ((mT g (i:Int) events[i]).1==0)=some (mT g (i:Int) events[i]).1:=nD (by
    unfold ZQ
    rcases codes g (i:Int) events[i] (he _ (List.getElem_mem hi)) with q | q<;>rw [q]<;>rfl)
   dsimp only
   rw [hcode,X,if_pos (by simp; omega)]
   refine ih _ _ d2 (h3.event hgi (by omega) (he _ (List.getElem_mem hi))) (by simp; omega) ?_
   rw [BU hi] at hr
   exact hr)) 0 (by omega) (Ae views) [] hg (V3.new hv) rfl rfl
  exact key
 have L1:∀ a b c d,E1 events events (events.length:Int) ((0:Nat):Int) a b c d (Ae views).2.1 (Ae views).2.2.1 (Ae views).2.2.2 (Ae views).1=some ((H7 0 events (Ae views) []).1,(H7 0 events (Ae views) []).2,true):=by
  intro a b c d
  refine GY (n:=events.length) (P:=fun i=>E1 events events (events.length:Int) (i:Int) a b c d (Ae views).2.1 (Ae views).2.2.1 (Ae views).2.2.2 (Ae views).1=some ((H7 0 events (Ae views) []).1,(H7 0 events (Ae views) []).2,true)) (Py (by
   unfold Jo
   rw [if_neg (by simp)]
   refine Z4 ?_
   unfold Pv
   exact L3 _ _ _ _)) (fun i hi ih=>Py (by
   unfold Jo
   have hz:events.getD i ((0:Int),(0:Int),(0:Int),(0:Int),ByteArray.empty,ByteArray.empty)=events[i]:=AU hi
   simp only [show ((i:Int)<(events.length:Int)) from by omega,decide_true,if_true,show (0:Int)<=(i:Int) from by omega,Int.toNat_natCast,hz,AR (show i<9223372036854775807 by omega)]
   rw [dU,he _ (List.getElem_mem hi),X,if_neg (by simp)]
   exact ih)) 0 (by omega)
 exact L1 _ _ _ _)

structure PM where
 ep:Int
 fell:Bool
 base:Bool
 leads:Bool
 serves:Bool
 waits:List Int
 items:List AL
 cnt:Int
 op:Int
 call:Int
 num:Int
 ti:AL
 left:List Int
structure PX where
 kind:Int
 frm:Int
 to:Int
 ep:Int
 num:Int
 items:List AL
structure PC where
 op:Int
 key:ByteArray
 val:ByteArray
 wen:Int
 done:Int
 ver:Int
 ep:Int
 num:Int
 got:ByteArray
structure PG where
 mem:Int->PM
 fly:List PX
 calls:List PC
def PG.set (g:PG) (i:Int) (m:PM) (T:List PX):PG:={ g with mem:=fun j=>if j=i then m else g.mem j,fly:=g.fly++T }
def CO (V:Int->List Int) (e:Int):Int:=(V e).getD 0 0
def PM.idle (m:PM) (e:Int) (b l:Bool) (its:List AL):PM:={ ep:=e,fell:=false,base:=b,leads:=l,serves:=false,waits:=[],items:=its,cnt:=0,op:=0,call:=0,num:=0,ti:=(ByteArray.empty,ByteArray.empty,0),left:=[] }
inductive CP (V:Int->List Int) (nv:Int) (g:PG) (i:Int):PM->List PX->Prop
 | closes (x:PX) (hx:x∈g.fly) (h1:x.ep=(g.mem i).ep+1) (h2:(g.mem i).base=true) (h3:x.ep<=nv):CP V nv g i ((g.mem i).idle x.ep false false (g.mem i).items) [⟨2,i,x.frm,x.ep,0,(g.mem i).items⟩]
 | stat (x:PX) (hx:x∈g.fly) (h1:x.kind=2) (h2:x.ep=(g.mem i).ep) (h3:(g.mem i).leads=true) (h4:(g.mem i).base=false) (W:List Int) (hw:∀ k,k∈W↔k∈V x.ep/\k≠i) (T:List PX) (hT:∀ y∈T,y.kind=3/\y.ep=x.ep/\y.items=x.items/\y.frm=i) :
   CP V nv g i { g.mem i with base:=true,items:=x.items,waits:=W,serves:=W.isEmpty } T
 | inst (x:PX) (hx:x∈g.fly) (h1:x.kind=3) (h2:(g.mem i).ep<x.ep\/(g.mem i).ep=x.ep/\(g.mem i).base=false/\(g.mem i).fell=false) (h3:i∈V x.ep) (h4:CO V x.ep≠i) (h5:x.ep<=nv) :
   CP V nv g i ((g.mem i).idle x.ep true false x.items) [⟨4,i,x.frm,x.ep,x.num,[]⟩]
 | again (x:PX) (hx:x∈g.fly) (h1:x.kind=3) (h2:(g.mem i).ep=x.ep) (h3:(g.mem i).base=true):CP V nv g i (g.mem i) [⟨4,i,x.frm,x.ep,x.num,[]⟩]
 | told (x:PX) (hx:x∈g.fly) (h1:x.kind=4) (h2:(g.mem i).ep=x.ep) (h3:(g.mem i).leads=true) :
   CP V nv g i { g.mem i with waits:=(g.mem i).waits.filter (· != x.frm),serves:=(g.mem i).base&&((g.mem i).waits.filter (· != x.frm)).isEmpty } []
 | store (x:PX) (hx:x∈g.fly) (h1:x.kind=5) (h2:(g.mem i).ep=x.ep) (h3:(g.mem i).base=true) (h4:i≠CO V x.ep) (a:AL) (h5:x.items=[a]) :
   CP V nv g i { g.mem i with items:=Ai (g.mem i).items a } [⟨6,i,x.frm,x.ep,x.num,[]⟩]
 | sure (x:PX) (hx:x∈g.fly) (h1:x.kind=7) (h2:(g.mem i).ep=x.ep) (h3:(g.mem i).base=true):CP V nv g i (g.mem i) [⟨8,i,x.frm,x.ep,x.num,[]⟩]
 | less (x:PX) (hx:x∈g.fly) (h1:(g.mem i).op=1/\x.kind=6\/(g.mem i).op=2/\x.kind=8) (h2:(g.mem i).ep=x.ep) (h3:(g.mem i).num=x.num):CP V nv g i { g.mem i with left:=(g.mem i).left.filter (· != x.frm) } []
 | had (e:Int) (h1:e=(g.mem i).ep+1) (h2:(g.mem i).base=true) (h3:CO V e=i) (h4:e<=nv) (W:List Int) (hw:∀ k,k∈W↔k∈V e/\k≠i) (T:List PX) (hT:∀ y∈T,y.kind=3/\y.ep=e/\y.items=(g.mem i).items/\y.frm=i) :
   CP V nv g i { (g.mem i).idle e true true (g.mem i).items with waits:=W,serves:=W.isEmpty } T
 | took (e:Int) (h1:(g.mem i).ep<e) (h3:CO V e=i) (h4:e<=nv) (T:List PX) (hT:∀ y∈T,y.kind=1/\y.ep=e/\y.items=[]):CP V nv g i ((g.mem i).idle e false true (g.mem i).items) T
 | fall:CP V nv g i { (g.mem i).idle (g.mem i).ep false false [] with fell:=true } []
def T8 (g:PG) (k e:Int):Prop:=e<(g.mem k).ep\/((g.mem k).ep=e/\((g.mem k).base=true\/(g.mem k).fell=true))
theorem CP.ep {V nv g i m T} (h:CP V nv g i m T):(g.mem i).ep<=m.ep:=by
 cases h<;>simp_all [PM.idle]<;>grind
theorem T8.step {V nv g i m T k e} (h:CP V nv g i m T) (hb:T8 g k e):T8 (g.set i m T) k e:=by
 unfold T8 PG.set at *
 cases h<;>simp_all [PM.idle]<;>grind
def B_ (V:Int->List Int) (g:PG) (e:Int):Prop:=∀ d,1<=d->d<e->∃ j∈V d,d<(g.mem j).ep
theorem jv {V nv g i m T} (h:CP V nv g i m T) (j:Int):(g.mem j).ep<=((g.set i m T).mem j).ep:=by
 have:=h.ep
 simp only [PG.set]
 split
 ·rename_i e; subst e; exact this
 ·exact Int.le_refl _
theorem B_.mono {V g g' e} (h:B_ V g e) (hm:∀ j,(g.mem j).ep<=(g'.mem j).ep):B_ V g' e:=fun d h1 h2=>by
 obtain ⟨j,hj,h3⟩:=h d h1 h2
 exact ⟨j,hj,by have:=hm j; omega⟩
theorem B_.next {V g e j} (h:B_ V g e) (hj:j∈V e) (hl:e<(g.mem j).ep):B_ V g (e+1):=fun d h1 h2=>by
 by_cases q:d=e
 ·subst q; exact ⟨j,hj,hl⟩
 ·exact h d h1 (by omega)
structure IA (V:Int->List Int) (nv:Int) (g:PG):Prop where
 pos:∀ i,1<=(g.mem i).ep
 lead:∀ i,(g.mem i).leads=true->(g.mem i).ep<=nv/\CO V (g.mem i).ep=i
 view:∀ i,(g.mem i).base=true->(g.mem i).ep<=nv/\i∈V (g.mem i).ep
 serv:∀ i,(g.mem i).serves=true->(g.mem i).base=true/\(g.mem i).leads=true/\(g.mem i).waits=[]
 task:∀ i,(g.mem i).op≠0->(g.mem i).serves=true/\((g.mem i).op=1\/(g.mem i).op=2)/\(g.mem i).num=(g.mem i).cnt
 cnt:∀ i,0<=(g.mem i).cnt
 fell:∀ i,(g.mem i).fell=true->(g.mem i).base=false/\(g.mem i).leads=false
theorem IA.step {V nv g i m T} (h:IA V nv g) (hv:∀ e,1<=e->e<=nv->CO V e∈V e) (hs:CP V nv g i m T):IA V nv (g.set i m T):=by
 obtain ⟨a1,a2,a3,a4,a5,a6,a7⟩:=h
 have b1:=a1 i; have b2:=a2 i; have b3:=a3 i; have b4:=a4 i; have b5:=a5 i; have b6:=a6 i; have b7:=a7 i
 have key:1<=m.ep/\(m.leads=true->m.ep<=nv/\CO V m.ep=i)/\(m.base=true->m.ep<=nv/\i∈V m.ep)/\(m.serves=true->m.base=true/\m.leads=true/\m.waits=[])/\(m.op≠0->m.serves=true/\(m.op=1\/m.op=2)/\m.num=m.cnt)/\0<=m.cnt/\(m.fell=true->m.base=false/\m.leads=false):=by
  cases hs<;>simp_all [PM.idle]<;>grind
 refine ⟨fun j=>?_,fun j=>?_,fun j=>?_,fun j=>?_,fun j=>?_,fun j=>?_,fun j=>?_⟩<;>simp only [PG.set]<;>split<;>grind
structure IB (V:Int->List Int) (g:PG):Prop where
 mem:∀ i,(g.mem i).base=true->B_ V g (g.mem i).ep
 fly:∀ x∈g.fly,x.kind=2\/x.kind=3->B_ V g x.ep
theorem IB.step {V nv g i m T} (h:IB V g) (ha:IA V nv g) (hv:∀ e,1<=e->e<=nv->CO V e∈V e) (hs:CP V nv g i m T):IB V (g.set i m T):=by
 have hm:=jv hs
 have mono:∀ e,B_ V g e->B_ V (g.set i m T) e:=fun e h=>h.mono hm
 have next:∀ e,B_ V g e->i∈V e->e<m.ep->B_ V (g.set i m T) (e+1):=fun e h h1 h2=>(mono e h).next h1 (by simp [PG.set]; exact h2)
 have b:=h.mem i
 have v:=ha.view i
 have f:=h.fly
 have k1:m.base=true->B_ V (g.set i m T) m.ep:=by
  generalize g.set i m T=g' at *
  cases hs<;>simp_all [PM.idle]<;>grind
 have k2:∀ y∈T,y.kind=2\/y.kind=3->B_ V (g.set i m T) y.ep:=by
  generalize g.set i m T=g' at *
  cases hs<;>simp_all [PM.idle]<;>grind
 refine ⟨fun j=>?_,fun y hy hk=>?_⟩
 ·show ((if j=i then m else g.mem j).base=true->B_ V _ (if j=i then m else g.mem j).ep)
  split
  ·exact k1
  ·exact fun hb=>mono _ (h.mem j hb)
 ·rcases List.mem_append.1 hy with e | e
  ·exact mono _ (h.fly y e hk)
  ·exact k2 y e hk
def Il (g:PG) (i:Int):Prop:=∃ j∈(g.mem i).left,(g.mem i).ep<(g.mem j).ep/\∀ x∈g.fly,((g.mem i).op=1/\x.kind=6\/(g.mem i).op=2/\x.kind=8)->x.frm=j->x.ep=(g.mem i).ep->x.num≠(g.mem i).num
structure IT (V:Int->List Int) (g:PG) (vr:Nat->Int) (now:Int):Prop where
 st:∀ k,vr k≠0->∃ e n,vr k=1000*e+n/\1<=e/\1<=n/\n<=900/\e<=(g.mem (CO V e)).ep/\((g.mem (CO V e)).ep=e->(g.mem (CO V e)).leads=true->(g.mem (CO V e)).base=true/\n<=(g.mem (CO V e)).cnt)
 inj:∀ k l,vr k≠0->vr k=vr l->k=l
 out:∀ k,g.calls.length<=k->vr k=0
 act:∀ i,(g.mem i).op≠0->∃ (k:Nat) (c:PC),(g.mem i).call=(k:Int)/\g.calls[k]? = some c/\vr k=1000*(g.mem i).ep+(g.mem i).num/\c.done<0/\c.op=(g.mem i).op/\c.key=(g.mem i).ti.1/\c.val=(g.mem i).ti.2.1/\(g.mem i).ti.2.2=vr k/\1<=(g.mem i).num/\(g.mem i).num<=900
 dn:∀ (k:Nat) c,g.calls[k]? = some c->0<=c.done->vr k=1000*c.ep+c.num/\1<=c.ep/\1<=c.num/\c.num<=900/\B_ V g c.ep/\c.done<=now/\c.wen<=c.done
 wn:∀ (k:Nat) c,g.calls[k]? = some c->c.wen<=now
 fl:∀ x∈g.fly,5<=x.kind->x.kind<=8->x.ep<=(g.mem (CO V x.ep)).ep/\((g.mem (CO V x.ep)).ep=x.ep->(g.mem (CO V x.ep)).leads=true->x.num<=(g.mem (CO V x.ep)).cnt)
 tm:∀ i,(g.mem i).op≠0->∀ (k l:Nat) c a,(g.mem i).call=(k:Int)->g.calls[k]? = some c->g.calls[l]? = some a->0<=a.done->a.done<c.wen->a.ep<=(g.mem i).ep\/Il g i
 or:∀ (k l:Nat) a b,g.calls[k]? = some a->g.calls[l]? = some b->0<=a.done->0<=b.done->a.done<b.wen->vr k<vr l
theorem CP.task {V nv g i m T} (h:CP V nv g i m T):m.op≠0->m.ep=(g.mem i).ep/\m.op=(g.mem i).op/\m.call=(g.mem i).call/\m.num=(g.mem i).num/\m.ti=(g.mem i).ti/\m.cnt=(g.mem i).cnt:=by
 cases h<;>simp_all [PM.idle]
theorem CP.lead {V nv g i m T} (h:CP V nv g i m T):m.ep=(g.mem i).ep->m.leads=true->(g.mem i).leads=true/\m.cnt=(g.mem i).cnt/\((g.mem i).base=true->m.base=true):=by
 cases h<;>simp_all [PM.idle]<;>grind
theorem CP.new {V nv g i m T} (h:CP V nv g i m T):m.ep≠(g.mem i).ep->m.cnt=0/\m.op=0:=by
 cases h<;>simp_all [PM.idle]<;>grind
theorem CP.talk {V nv g i m T} (h:CP V nv g i m T):∀ y∈T,5<=y.kind->(y.kind=6\/y.kind=8)/\y.frm=i/\y.ep=(g.mem i).ep/\∃ x∈g.fly,5<=x.kind/\x.kind<=8/\x.ep=y.ep/\x.num=y.num:=by
 cases h<;>simp_all [PM.idle]<;>grind
theorem Il.step {V nv g i m T j} (h:CP V nv g i m T) (hb:Il g j) (ho:((g.set i m T).mem j).op≠0):Il (g.set i m T) j:=by
 obtain ⟨k,hk,h1,h2⟩:=hb
 have hm:=jv h
 have ht:=h.task
 have hta:=h.talk
 have hl:i=j->k∈m.left:=by
  intro e; subst e
  simp only [PG.set,if_true] at ho
  cases h<;>simp_all [PM.idle]<;>grind
 have hep:((g.set i m T).mem j).ep=(g.mem j).ep/\((g.set i m T).mem j).num=(g.mem j).num/\k∈((g.set i m T).mem j).left/\((g.set i m T).mem j).op=(g.mem j).op:=by
  simp only [PG.set] at ho ⊢
  grind
 refine ⟨k,hep.2.2.1,?_,fun x hx hk6 hf he=>?_⟩
 ·rw [hep.1]; have:=hm k; omega
 ·rw [hep.2.1]
  rw [hep.1] at he
  rw [hep.2.2.2] at hk6
  rcases List.mem_append.1 hx with e | e
  ·exact h2 x e hk6 hf he
  ·have:=hta x e (by omega)
   grind
theorem IT.mstep {V nv g i m T vr now} (h:IT V g vr now) (ha:IA V nv g) (hs:CP V nv g i m T):IT V (g.set i m T) vr now:=by
 have hm:=jv hs
 have ht:=hs.task
 have hl:=hs.lead
 have hn:=hs.new
 have hta:=hs.talk
 have hstk:=fun j=>Il.step (j:=j) hs
 have mono:∀ e,B_ V g e->B_ V (g.set i m T) e:=fun e h=>h.mono hm
 have hmem:∀ j,(g.set i m T).mem j=if j=i then m else g.mem j:=fun _=>rfl
 have hfly:(g.set i m T).fly=g.fly++T:=rfl
 have hc:(g.set i m T).calls=g.calls:=rfl
 have hep:=hs.ep
 generalize g.set i m T=g' at *
 obtain ⟨c1,c2,c3,c4,c5,c6,c7,c8,c9⟩:=h
 have hlead:=ha.lead
 refine ⟨?_,c2,by rw [hc]; exact c3,?_,?_,by rw [hc]; exact c6,?_,?_,by rw [hc]; exact c9⟩
 ·intro k hk
  obtain ⟨e,n,d⟩:=c1 k hk
  refine ⟨e,n,?_⟩
  simp only [hmem]
  grind
 ·simp only [hmem,hc]
  grind
 ·rw [hc]
  grind
 ·intro x hx h5 h8
  rw [hfly] at hx
  simp only [hmem]
  grind
 ·intro j ho k l c a
  have:=c8 j
  have:=hstk j
  simp only [hmem,hc] at *
  grind
theorem Il.less {g:PG} {f:List PX} {i:Int} (h:∀ x∈f,x∈g.fly) (hb:Il g i):Il { g with fly:=f } i:=by
 obtain ⟨j,h1,h2,h3⟩:=hb
 exact ⟨j,h1,h2,fun x hx=>h3 x (h x hx)⟩
theorem IT.later {V g vr n n'} (h:IT V g vr n) (hn:n<=n'):IT V g vr n':=by
 obtain ⟨c1,c2,c3,c4,c5,c6,c7,c8,c9⟩:=h
 exact ⟨c1,c2,c3,c4,by grind,by grind,c7,c8,c9⟩
theorem IT.drop {V g vr now f} (h:IT V g vr now) (hf:∀ x∈f,x∈g.fly):IT V { g with fly:=f } vr now:=by
 have hs:=fun i=>Il.less (i:=i) hf
 obtain ⟨c1,c2,c3,c4,c5,c6,c7,c8,c9⟩:=h
 refine ⟨c1,c2,c3,c4,c5,c6,fun x hx=>c7 x (hf x hx),?_,c9⟩
 intro i ho k l c a h1 h2 h3 h4 h5
 exact (c8 i ho k l c a h1 h2 h3 h4 h5).imp id (hs i)
theorem IT.call {V g vr now} {c:PC} (h:IT V g vr now) (h1:c.done=-1) (h2:c.wen=now):IT V { g with calls:=g.calls++[c] } vr now:=by
 obtain ⟨c1,c2,c3,c4,c5,c6,c7,c8,c9⟩:=h
 have hg:∀ (k:Nat) d,(g.calls++[c])[k]? = some d->g.calls[k]? = some d\/(k=g.calls.length/\d=c):=by grind
 have hg2:∀ (k:Nat) d,g.calls[k]? = some d->(g.calls++[c])[k]? = some d:=by grind
 have hst:∀ i,Il g i->Il { g with calls:=g.calls++[c] } i:=fun i h=>h
 refine ⟨c1,c2,?_,?_,?_,?_,c7,?_,?_⟩
 ·grind
 ·intro i ho
  obtain ⟨k,d,q1,q2,q3⟩:=c4 i ho
  exact ⟨k,d,q1,hg2 k d q2,q3⟩
 ·intro k d hk hd
  rcases hg k d hk with e | ⟨e,e2⟩
  ·exact c5 k d e hd
  ·subst e2; omega
 ·intro k d hk
  rcases hg k d hk with e | ⟨e,e2⟩
  ·exact c6 k d e
  ·subst e2; omega
 ·intro i ho k l d a q1 q2 q3 q4 q5
  obtain ⟨k',d',r1,r2,_⟩:=c4 i ho
  have:k'=k:=by simp only at q1; omega
  subst this
  have q2':=hg2 k' d' r2
  simp only at q2
  rw [q2'] at q2
  cases q2
  rcases hg l a q3 with e | ⟨e,e2⟩
  ·exact (c8 i ho _ l _ a q1 r2 e q4 q5).imp id (hst i)
  ·subst e2; omega
 ·intro k l a b q1 q2 q3 q4 q5
  rcases hg k a q1 with e | ⟨e,e2⟩
  ·rcases hg l b q2 with f | ⟨f,f2⟩
   ·exact c9 k l a b e f q3 q4 q5
   ·subst f2; omega
  ·subst e2; omega
def OB (g:PG) (i:Int) (c:PC) (L:List Int) (a:AL):PM:={ g.mem i with cnt:=(g.mem i).cnt+1,op:=c.op,call:=(g.calls.length:Int),num:=(g.mem i).cnt+1,ti:=a,left:=L }
theorem IT.start {V nv g vr now} {i:Int} {c:PC} {L:List Int} {a:AL} {T:List PX} (h:IT V g vr now) (hia:IA V nv g) (hib:IB V g) (h1:c.done=-1) (h2:c.wen=now) (h3:(g.mem i).serves=true) (h4:(g.mem i).op=0) (h5:c.op=1\/c.op=2) (h6:(g.mem i).cnt<900) (hL:∀ k,k∈L↔k∈V (g.mem i).ep/\k≠i) (hA:a=(c.key,c.val,1000*(g.mem i).ep+((g.mem i).cnt+1)))
  (hT:∀ y∈T,(y.kind=5/\c.op=1/\y.items=[a]\/y.kind=7/\c.op=2)/\y.ep=(g.mem i).ep/\y.num=(g.mem i).cnt+1/\y.frm=i) :
  IT V { (g.set i (OB g i c L a) T) with calls:=g.calls++[c] } (fun k=>if k=g.calls.length then 1000*(g.mem i).ep+((g.mem i).cnt+1) else vr k) now:=by
 obtain ⟨c1,c2,c3,c4,c5,c6,c7,c8,c9⟩:=h
 have hg:∀ (k:Nat) d,(g.calls++[c])[k]? = some d->g.calls[k]? = some d/\k<g.calls.length\/(k=g.calls.length/\d=c):=by grind
 have hg2:∀ (k:Nat) d,g.calls[k]? = some d->(g.calls++[c])[k]? = some d/\k<g.calls.length:=by grind
 obtain ⟨s1,s2,s3⟩:=hia.serv i h3
 obtain ⟨l1,l2⟩:=hia.lead i s2
 have hpos:=hia.pos i
 have hcnt:=hia.cnt i
 have hz:vr g.calls.length=0:=c3 _ (Nat.le_refl _)
 generalize hq:({ (g.set i (OB g i c L a) T) with calls:=g.calls++[c] }:PG)=g'
 have hmem:∀ j,g'.mem j=if j=i then OB g i c L a else g.mem j:=by subst hq; intro j; rfl
 have hfly:g'.fly=g.fly++T:=by subst hq; rfl
 have hcal:g'.calls=g.calls++[c]:=by subst hq; rfl
 have hep:∀ j,(g'.mem j).ep=(g.mem j).ep/\(g'.mem j).leads=(g.mem j).leads/\(g'.mem j).base=(g.mem j).base/\(g.mem j).cnt<=(g'.mem j).cnt:=by
  intro j; rw [hmem]; split
  ·rename_i e; subst e; exact ⟨rfl,rfl,rfl,by simp only [OB]; omega⟩
  ·exact ⟨rfl,rfl,rfl,Int.le_refl _⟩
 have hi:(g'.mem i).cnt=(g.mem i).cnt+1/\(g'.mem i).op=c.op/\(g'.mem i).call=(g.calls.length:Int)/\(g'.mem i).num=(g.mem i).cnt+1/\(g'.mem i).ti=a/\(g'.mem i).left=L:=by rw [hmem,if_pos rfl]; exact ⟨rfl,rfl,rfl,rfl,rfl,rfl⟩
 have hj:∀ j,j≠i->g'.mem j=g.mem j:=fun j e=>by rw [hmem,if_neg e]
 have rmono:∀ e,B_ V g e->B_ V g' e:=fun e h=>h.mono fun j=>by rw [(hep j).1]; exact Int.le_refl _
 have stuck:∀ e,B_ V g e->(g.mem i).ep<e->Il g' i:=fun e hr he=>by
  obtain ⟨j,hjv,hjl⟩:=hr (g.mem i).ep hpos he
  have hne:j≠i:=fun e=>by subst e; omega
  refine ⟨j,by rw [hi.2.2.2.2.2]; exact (hL j).2 ⟨hjv,hne⟩,by rw [(hep i).1,(hep j).1]; exact hjl,fun x hx hk hf hxe=>?_⟩
  rw [(hep i).1] at hxe
  rw [hi.2.2.2.1]
  rw [hfly] at hx
  rcases List.mem_append.1 hx with q | q
  ·have:=c7 x q (by omega) (by omega)
   rw [hxe,l2] at this
   have:=this.2 rfl s2
   omega
  ·have:=hT x q
   omega
 refine ⟨?_,?_,?_,?_,?_,?_,?_,?_,?_⟩
 ·intro k hk
  by_cases e:k=g.calls.length
  ·subst e
   simp only [if_true]
   refine ⟨(g.mem i).ep,(g.mem i).cnt+1,rfl,hpos,by omega,by omega,?_,fun _ _=>?_⟩
   ·rw [(hep _).1,l2]; exact Int.le_refl _
   ·rw [l2,hi.1,(hep i).2.2.1]; exact ⟨s1,Int.le_refl _⟩
  ·simp only [if_neg e] at hk ⊢
   obtain ⟨e,n,d1,d2,d3,d4,d5,d6⟩:=c1 k hk
   refine ⟨e,n,d1,d2,d3,d4,by rw [(hep _).1]; exact d5,fun q1 q2=>?_⟩
   obtain ⟨p1,p2,p3,p4⟩:=hep (CO V e)
   rw [p1] at q1; rw [p2] at q2
   have:=d6 q1 q2
   exact ⟨by rw [p3]; exact this.1,by omega⟩
 ·have hdist:∀ k,k≠g.calls.length->vr k≠1000*(g.mem i).ep+((g.mem i).cnt+1):=fun k hk e=>by
   obtain ⟨e',n,d1,d2,d3,d4,d5,d6⟩:=c1 k (by omega)
   have:e'=(g.mem i).ep:=by omega
   subst this
   rw [l2] at d6
   have:=d6 rfl s2
   omega
  intro k l hk hkl
  by_cases e:k=g.calls.length
  ·by_cases f:l=g.calls.length
   ·omega
   ·rw [if_pos e,if_neg f] at hkl
    exact absurd hkl.symm (hdist l f)
  ·rw [if_neg e] at hk hkl
   by_cases f:l=g.calls.length
   ·rw [if_pos f] at hkl
    exact absurd hkl (hdist k e)
   ·rw [if_neg f] at hkl
    exact c2 k l hk hkl
 ·intro k hk
  rw [hcal] at hk
  simp only [List.length_append,List.length_cons,List.length_nil] at hk
  rw [if_neg (by omega)]
  exact c3 k (by omega)
 ·intro j ho
  by_cases e:j=i
  ·subst e
   refine ⟨g.calls.length,c,hi.2.2.1,by rw [hcal]; simp,?_,by omega,hi.2.1.symm,?_⟩
   ·rw [if_pos rfl,(hep _).1,hi.2.2.2.1]
   ·rw [hi.2.2.2.2.1,hi.2.2.2.1,if_pos rfl,hA]
    exact ⟨rfl,rfl,rfl,by omega,by omega⟩
  ·rw [hj j e] at ho ⊢
   obtain ⟨k,d,q1,q2,q3⟩:=c4 j ho
   have:=hg2 k d q2
   exact ⟨k,d,q1,by rw [hcal]; exact this.1,by rw [if_neg (by omega)]; exact q3⟩
 ·intro k d hk hd
  rw [hcal] at hk
  rcases hg k d hk with ⟨e,e1⟩ | ⟨e,e2⟩
  ·obtain ⟨d1,d2,d3,d4,d5,d6,d7⟩:=c5 k d e hd
   exact ⟨by rw [if_neg (by omega)]; exact d1,d2,d3,d4,rmono _ d5,d6,d7⟩
  ·subst e2; omega
 ·intro k d hk
  rw [hcal] at hk
  rcases hg k d hk with ⟨e,e1⟩ | ⟨e,e2⟩
  ·exact c6 k d e
  ·subst e2; omega
 ·intro x hx h5 h8
  rw [hfly] at hx
  obtain ⟨p1,p2,p3,p4⟩:=hep (CO V x.ep)
  rcases List.mem_append.1 hx with q | q
  ·have:=c7 x q h5 h8
   rw [p1,p2]
   exact ⟨this.1,fun q1 q2=>Int.le_trans (this.2 q1 q2) p4⟩
  ·obtain ⟨_,q2,q3,_⟩:=hT x q
   rw [q2,l2,(hep i).1,q3,hi.1]
   exact ⟨Int.le_refl _,fun _ _=>Int.le_refl _⟩
 ·intro j ho k l d b q1 q2 q3 q4 q5
  rw [hcal] at q2 q3
  rcases hg l b q3 with ⟨e,e1⟩ | ⟨e,e2⟩
  ·by_cases hji:j=i
   ·subst hji
    rw [(hep j).1]
    by_cases hle:b.ep<=(g.mem j).ep
    ·exact .inl hle
    ·exact .inr (stuck b.ep (c5 l b e q4).2.2.2.2.1 (by omega))
   ·rw [hj j hji] at ho q1 ⊢
    obtain ⟨k',d',r1,r2,_⟩:=c4 j ho
    have:k'=k:=by omega
    subst this
    have:=hg2 k' d' r2
    rw [this.1] at q2
    cases q2
    rcases c8 j ho _ l _ b q1 r2 e q4 q5 with r | ⟨w,w1,w2,w3⟩
    ·exact .inl r
    ·right
     refine ⟨w,by rw [hj j hji]; exact w1,by rw [hj j hji,(hep w).1]; exact w2,fun x hx=>?_⟩
     rw [hj j hji]
     rw [hfly] at hx
     rcases List.mem_append.1 hx with q | q
     ·exact w3 x q
     ·have:=hT x q
      intro hk; omega
  ·subst e2; omega
 ·intro k l b d q1 q2 q3 q4 q5
  rw [hcal] at q1 q2
  rcases hg k b q1 with ⟨e,e1⟩ | ⟨e,e2⟩
  ·rcases hg l d q2 with ⟨f,f1⟩ | ⟨f,f2⟩
   ·rw [if_neg (by omega),if_neg (by omega)]
    exact c9 k l b d e f q3 q4 q5
   ·subst f2; omega
  ·subst e2; omega
def Un (m:PM):PM:={ m with items:=if m.op=1 then Ai m.items m.ti else m.items,op:=0,call:=0,num:=0,ti:=(ByteArray.empty,ByteArray.empty,0),left:=[] }
def nR (m:PM):AL:=if m.op=1 then m.ti else BB m.items m.ti.1
def O6 (m:PM) (c:PC) (now:Int):PC:={ c with done:=now,ver:=(nR m).2.2,ep:=m.ep,num:=m.num,got:=if c.op=2 then (nR m).2.1 else c.got }
theorem IT.fin {V nv g vr now} {i:Int} {k:Nat} {c:PC} (h:IT V g vr now) (hia:IA V nv g) (hib:IB V g) (ho:(g.mem i).op≠0) (hl:(g.mem i).left=[]) (hc:(g.mem i).call=(k:Int)) (hk:g.calls[k]? = some c) :
  IT V { (g.set i (Un (g.mem i)) []) with calls:=g.calls.set k (O6 (g.mem i) c now) } vr now:=by
 obtain ⟨c1,c2,c3,c4,c5,c6,c7,c8,c9⟩:=h
 obtain ⟨t1,t2,t3⟩:=hia.task i ho
 obtain ⟨s1,s2,s3⟩:=hia.serv i t1
 obtain ⟨l1,l2⟩:=hia.lead i s2
 have hpos:=hia.pos i
 obtain ⟨k0,d0,r1,r2,r3,r4,r5,r6,r7,r8,r9,r10⟩:=c4 i ho
 have hk0:k0=k:=by omega
 subst hk0
 rw [hk] at r2
 cases r2
 have hkl:k0<g.calls.length:=(List.getElem?_eq_some_iff.1 hk).1
 have hcal0:∀ (l:Nat) d,(g.calls.set k0 (O6 (g.mem i) c now))[l]? = some d->(l=k0/\d=O6 (g.mem i) c now)\/(l≠k0/\g.calls[l]? = some d):=by
  intro l d hd
  by_cases e:l=k0
  ·subst e
   rw [List.getElem?_set_self hkl] at hd
   exact .inl ⟨rfl,by cases hd; rfl⟩
  ·rw [List.getElem?_set_ne (Ne.symm e)] at hd
   exact .inr ⟨e,hd⟩
 have hcal1:∀ (l:Nat) d,l≠k0->g.calls[l]? = some d->(g.calls.set k0 (O6 (g.mem i) c now))[l]? = some d:=by
  intro l d hne hd
  rw [List.getElem?_set_ne (Ne.symm hne)]
  exact hd
 generalize hq:({ (g.set i (Un (g.mem i)) []) with calls:=g.calls.set k0 (O6 (g.mem i) c now) }:PG)=g'
 have hmem:∀ j,g'.mem j=if j=i then Un (g.mem i) else g.mem j:=by subst hq; intro j; rfl
 have hfly:g'.fly=g.fly:=by subst hq; exact List.append_nil _
 have hcal:g'.calls=g.calls.set k0 (O6 (g.mem i) c now):=by subst hq; rfl
 have hep:∀ j,(g'.mem j).ep=(g.mem j).ep/\(g'.mem j).leads=(g.mem j).leads/\(g'.mem j).base=(g.mem j).base/\(g.mem j).cnt=(g'.mem j).cnt:=by
  intro j; rw [hmem]; split
  ·rename_i e; subst e; exact ⟨rfl,rfl,rfl,rfl⟩
  ·exact ⟨rfl,rfl,rfl,rfl⟩
 have hj:∀ j,j≠i->g'.mem j=g.mem j:=fun j e=>by rw [hmem,if_neg e]
 have hi0:(g'.mem i).op=0:=by rw [hmem,if_pos rfl]; rfl
 have rmono:∀ e,B_ V g e->B_ V g' e:=fun e h=>h.mono fun j=>by rw [(hep j).1]; exact Int.le_refl _
 have hact:∀ j,j≠i->(g.mem j).op≠0->∀ (l:Nat),(g.mem j).call=(l:Int)->l≠k0:=fun j hji hoj l hl e=>by
  subst e
  obtain ⟨u1,u2,u3⟩:=hia.task j hoj
  obtain ⟨v1,v2,v3⟩:=hia.serv j u1
  obtain ⟨w1,w2⟩:=hia.lead j v2
  obtain ⟨k',d',q1,q2,q3,q4,q5,q6,q7,q8,q9,q10⟩:=c4 j hoj
  have:k'=l:=by omega
  subst this
  have:(g.mem j).ep=(g.mem i).ep:=by omega
  rw [this,l2] at w2
  exact hji w2.symm
 refine ⟨?_,c2,?_,?_,?_,?_,?_,?_,?_⟩
 ·intro l hl0
  obtain ⟨e,n,d1,d2,d3,d4,d5,d6⟩:=c1 l hl0
  obtain ⟨p1,p2,p3,p4⟩:=hep (CO V e)
  exact ⟨e,n,d1,d2,d3,d4,by rw [p1]; exact d5,fun q1 q2=>by rw [p3,<- p4]; exact d6 (by rw [<- p1]; exact q1) (by rw [<- p2]; exact q2)⟩
 ·intro l hl0
  rw [hcal,List.length_set] at hl0
  exact c3 l hl0
 ·intro j hoj
  by_cases e:j=i
  ·subst e; exact absurd hi0 hoj
  ·rw [hj j e] at hoj ⊢
   obtain ⟨k',d',q1,q2,q3⟩:=c4 j hoj
   exact ⟨k',d',q1,by rw [hcal]; exact hcal1 k' d' (hact j e hoj k' q1) q2,q3⟩
 ·intro l d hd hdn
  rw [hcal] at hd
  rcases hcal0 l d hd with ⟨e,e2⟩ | ⟨e,e2⟩
  ·subst e; subst e2
   exact ⟨r3,hpos,r9,r10,rmono _ (hib.mem i s1),Int.le_refl _,c6 l c hk⟩
  ·obtain ⟨d1,d2,d3,d4,d5,d6,d7⟩:=c5 l d e2 hdn
   exact ⟨d1,d2,d3,d4,rmono _ d5,d6,d7⟩
 ·intro l d hd
  rw [hcal] at hd
  rcases hcal0 l d hd with ⟨e,e2⟩ | ⟨e,e2⟩
  ·subst e; subst e2; exact c6 l c hk
  ·exact c6 l d e2
 ·intro x hx h5 h8
  rw [hfly] at hx
  obtain ⟨p1,p2,p3,p4⟩:=hep (CO V x.ep)
  have:=c7 x hx h5 h8
  rw [p1,p2,<- p4]
  exact this
 ·intro j hoj k1 l d b q1 q2 q3 q4 q5
  by_cases e:j=i
  ·subst e; exact absurd hi0 hoj
  ·rw [hj j e] at hoj q1 ⊢
   rw [hcal] at q2 q3
   have hne:=hact j e hoj k1 q1
   rcases hcal0 k1 d q2 with ⟨f,_⟩ | ⟨f,f2⟩
   ·exact absurd f hne
   ·rcases hcal0 l b q3 with ⟨u,u2⟩ | ⟨u,u2⟩
    ·subst u2
     have:=c6 k1 d f2
     simp only [O6] at q5
     omega
    ·rcases c8 j hoj k1 l d b q1 f2 u2 q4 q5 with r | ⟨w,w1,w2,w3⟩
     ·exact .inl r
     ·exact .inr ⟨w,by rw [hj j e]; exact w1,by rw [hj j e,(hep w).1]; exact w2,by rw [hj j e,hfly]; exact w3⟩
 ·intro k1 l a b q1 q2 q3 q4 q5
  rw [hcal] at q1 q2
  rcases hcal0 k1 a q1 with ⟨e,e2⟩ | ⟨e,e2⟩
  ·subst e2
   have:b.wen<=now:=by
    rcases hcal0 l b q2 with ⟨f,f2⟩ | ⟨f,f2⟩
    ·subst f2; exact c6 k0 c hk
    ·exact c6 l b f2
   simp only [O6] at q5
   omega
  ·rcases hcal0 l b q2 with ⟨f,f2⟩ | ⟨f,f2⟩
   ·subst f; subst f2
    have hlt:=q5
    simp only [O6] at hlt
    have:=c8 i ho l k1 c a hc hk e2 q3 hlt
    rcases this with r | ⟨w,w1,_⟩
    ·obtain ⟨d1,d2,d3,d4,d5,d6,d7⟩:=c5 k1 a e2 q3
     obtain ⟨e',n,x1,x2,x3,x4,x5,x6⟩:=c1 k1 (by omega)
     have hee:e'=a.ep:=by omega
     subst hee
     by_cases heq:a.ep=(g.mem i).ep
     ·rw [heq,l2] at x6
      have x7:=x6 rfl s2
      have hne:vr k1≠vr l:=fun q=>e (c2 k1 l (by omega) q)
      omega
     ·omega
    ·rw [hl] at w1; cases w1
   ·exact c9 k1 l a b e2 f2 q3 q4 q5

structure IZ (V:Int->List Int) (g:PG) (vr:Nat->Int):Prop where
 w1:∀ i,(g.mem i).leads=true->(g.mem i).base=true->∀ k∈V (g.mem i).ep,k≠i->k∉(g.mem i).waits->T8 g k (g.mem i).ep
 w2:∀ x∈g.fly,x.kind=4->T8 g x.frm x.ep
 w3:∀ k e n,vr k≠0->vr k=1000*e+n->1<=n->n<=900->∀ j∈V e,j≠CO V e->T8 g j e
 z1:∀ k,(g.mem k).base=true->(g.mem k).ep<=(g.mem (CO V (g.mem k).ep)).ep/\((g.mem (CO V (g.mem k).ep)).ep=(g.mem k).ep->(g.mem (CO V (g.mem k).ep)).leads=true->(g.mem (CO V (g.mem k).ep)).base=true)
 z2:∀ x∈g.fly,x.kind=3\/5<=x.kind->x.ep<=(g.mem (CO V x.ep)).ep/\((g.mem (CO V x.ep)).ep=x.ep->(g.mem (CO V x.ep)).leads=true->(g.mem (CO V x.ep)).base=true)
theorem IZ.mstep {V nv g i m T vr} (h:IZ V g vr) (ha:IA V nv g) (hs:CP V nv g i m T):IZ V (g.set i m T) vr:=by
 have hb:=fun k e=>T8.step (k:=k) (e:=e) hs
 have hm:=jv hs
 have hmem:∀ j,(g.set i m T).mem j=if j=i then m else g.mem j:=fun _=>rfl
 have hfly:(g.set i m T).fly=g.fly++T:=rfl
 have hep:=hs.ep
 have hlead:=ha.lead
 have li:=ha.lead i
 obtain ⟨w1,w2,w3,z1,z2⟩:=h
 have bi:m.base=true->T8 (g.set i m T) i m.ep:=fun hb=>.inr ⟨by simp [PG.set],.inl (by simp [PG.set]; exact hb)⟩
 generalize hg':g.set i m T=g' at *
 refine ⟨?_,?_,fun k e n h1 h2 h3 h4 j h5 h6=>hb _ _ (w3 k e n h1 h2 h3 h4 j h5 h6),?_,?_⟩
 ·have key:m.leads=true->m.base=true->∀ k∈V m.ep,k≠i->k∉m.waits->T8 g' k m.ep:=by
   have w1i:=w1 i
   clear hg' z1 z2 w1 w3 hm hmem hfly bi
   cases hs<;>simp_all [PM.idle]<;>grind
  intro j
  rw [hmem]
  split
  ·rename_i e; subst e; exact key
  ·exact fun h1 h2 k h3 h4 h5=>hb _ _ (w1 j h1 h2 k h3 h4 h5)
 ·have key:∀ y∈T,y.kind=4->T8 g' y.frm y.ep:=by
   clear hg' z1 z2 w1 w3 hm hmem hfly
   cases hs<;>simp_all [PM.idle]<;>grind
  intro x hx hk
  rw [hfly] at hx
  rcases List.mem_append.1 hx with q | q
  ·exact hb _ _ (w2 x q hk)
  ·exact key x q hk
 ·have hl:=hs.lead
  have key:m.base=true->m.ep<=(g'.mem (CO V m.ep)).ep/\((g'.mem (CO V m.ep)).ep=m.ep->(g'.mem (CO V m.ep)).leads=true->(g'.mem (CO V m.ep)).base=true):=by
   have z1i:=z1 i
   simp only [hmem] at hm ⊢
   clear hg' w1 w2 w3 hfly bi hb z1 hmem
   cases hs<;>simp_all [PM.idle]<;>grind
  intro k
  rw [hmem k]
  split
  ·exact key
  ·have:=z1 k
   simp only [hmem] at hm ⊢
   grind
 ·have hl:=hs.lead
  have key:∀ y∈T,y.kind=3\/5<=y.kind->y.ep<=(g'.mem (CO V y.ep)).ep/\((g'.mem (CO V y.ep)).ep=y.ep->(g'.mem (CO V y.ep)).leads=true->(g'.mem (CO V y.ep)).base=true):=by
   simp only [hmem] at hm ⊢
   clear hg' w1 w2 w3 hfly bi hb hmem
   cases hs<;>simp_all [PM.idle]<;>grind
  intro x hx hk
  rw [hfly] at hx
  rcases List.mem_append.1 hx with q | q
  ·have:=z2 x q hk
   simp only [hmem] at hm ⊢
   grind
  ·exact key x q hk
def vl (s:List AL) (k:List UInt8):Int:=((s.find? fun a=>a.1.toList==k).getD (ByteArray.empty,ByteArray.empty,0)).2.2
theorem qR (s:List AL) (k:ByteArray):vl s k.toList=(BB s k).2.2:=rfl
theorem me {s:List AL} (h:Ap s=true) (a:AL) (k:List UInt8):vl s k<=vl (Ai s a) k:=by
 unfold vl
 cases q:s.find? (fun b=>b.1.toList==k) with
 | none =>
  cases r:(Ai s a).find? (fun b=>b.1.toList==k) with
  | none=>exact Int.le_refl _
  | some b =>
   have:=(Cd.1 (Hz (a:=a) h)).1 b (List.mem_of_find?_eq_some r)
   unfold Ig at this
   simp only [Bool.and_eq_true,decide_eq_true_eq] at this
   show (0:Int)<=b.2.2
   omega
 | some b =>
  have hb:=List.mem_of_find?_eq_some q
  have hk:b.1.toList=k:=by simpa using List.find?_some q
  have:=vt (a:=a) h hb
  subst hk
  exact this
theorem Yj {s:List AL} {a:AL} (h:Ap s=true) (h1:1<=a.2.2) (hv:a.2.2<=vl s a.1.toList):Ai s a=s:=by
 have:=(sm (Cd.1 h).2.1 h1).1 hv
 unfold Ai
 rw [if_pos this]
theorem nw {s:List AL} {a:AL} (h:Ap s=true) (h1:1<=a.2.2) (he:BB (Ai s a) a.1=a):Ai (Ai s a) a=Ai s a :=
 Yj (Hz h) h1 (by rw [qR,he]; exact Int.le_refl _)
theorem rn {s:List AL} {a:AL} (h:Ap s=true) (ha:a∈s):1<=a.2.2:=by
 have:=(Cd.1 h).1 a ha
 unfold Ig at this
 simp only [Bool.and_eq_true,decide_eq_true_eq] at this
 omega
structure IE (V:Int->List Int) (g:PG):Prop where
 ok:∀ i,Ap (g.mem i).items=true
 okx:∀ x∈g.fly,Ap x.items=true
 e1:∀ i,(g.mem i).leads=true->(g.mem i).base=true->(g.mem i).serves=false->∀ x∈g.fly,x.kind=3->x.ep=(g.mem i).ep->x.items=(g.mem i).items
 e2:∀ i,(g.mem i).leads=true->(g.mem i).base=true->∀ j,(g.mem j).base=true->(g.mem j).ep=(g.mem i).ep->(g.mem j).items=(g.mem i).items\/((g.mem i).op=1/\(g.mem j).items=Ai (g.mem i).items (g.mem i).ti)
 e3:∀ i,(g.mem i).op=1->∀ j,j≠i->(g.mem j).base=true->(g.mem j).ep=(g.mem i).ep->(j∉(g.mem i).left\/∃ x∈g.fly,x.kind=6/\x.frm=j/\x.ep=(g.mem i).ep/\x.num=(g.mem i).num)->(g.mem j).items=Ai (g.mem i).items (g.mem i).ti
 e4:∀ x∈g.fly,x.kind=5->∀ a,x.items=[a]->(g.mem (CO V x.ep)).leads=true->(g.mem (CO V x.ep)).base=true->(g.mem (CO V x.ep)).ep=x.ep ->
  ((g.mem (CO V x.ep)).op=1->x.num=(g.mem (CO V x.ep)).num->a=(g.mem (CO V x.ep)).ti)/\(¬ ((g.mem (CO V x.ep)).op=1/\x.num=(g.mem (CO V x.ep)).num)->a.2.2<=vl (g.mem (CO V x.ep)).items a.1.toList)
 e5:∀ i,(g.mem i).op=1->BB (Ai (g.mem i).items (g.mem i).ti) (g.mem i).ti.1=(g.mem i).ti/\1<=(g.mem i).ti.2.2
set_option maxHeartbeats 1000000 in
theorem IE.mstep {V nv g i m T vr} (h:IE V g) (ha:IA V nv g) (hz:IZ V g vr) (hs:CP V nv g i m T):IE V (g.set i m T):=by
 have hmem:∀ j,(g.set i m T).mem j=if j=i then m else g.mem j:=fun _=>rfl
 have hfly:(g.set i m T).fly=g.fly++T:=rfl
 have hlead:=ha.lead
 have hserv:=ha.serv
 have htask:=ha.task
 obtain ⟨w1,w2,w3,z1,z2⟩:=hz
 obtain ⟨ok,okx,e1,e2,e3,e4,e5⟩:=h
 have hni:=O9
 have fresh:∀ x:PX,((g.mem i).ep<x.ep\/(g.mem i).ep=x.ep/\(g.mem i).base=false/\(g.mem i).fell=false)->∀ f,(g.mem f).leads=true->(g.mem f).base=true->(g.mem f).ep=x.ep->i∈V x.ep->i≠f->(g.mem f).serves=false:=by
  intro x hx f h1 h2 h3 h4 h5
  cases q:(g.mem f).serves with
  | false=>rfl
  | true =>
   have hw:=(hserv f q).2.2
   have:=w1 f h1 h2 i (by rw [h3]; exact h4) h5 (by rw [hw]; simp)
   rw [h3] at this
   unfold T8 at this
   grind
 have p1:=fun a=>Hz (a:=a) (ok i)
 have li:=hlead i
 have si:=hserv i
 have ti:=htask i
 have hok:Ap m.items=true:=by
  clear e1 e2 e3 e4 e5 w1 w2 w3 z1 z2 fresh hmem hfly hlead hserv htask
  cases hs<;>simp_all [PM.idle]
 have hokx:∀ x∈T,Ap x.items=true:=by
  clear e1 e2 e3 e4 e5 w1 w2 w3 z1 z2 fresh hmem hfly hlead hserv htask
  cases hs<;>simp_all [PM.idle]<;>grind
 have k1:m.leads=true->m.base=true->m.serves=false->∀ x∈g.fly++T,x.kind=3->x.ep=m.ep->x.items=m.items:=by
  have e1i:=e1 i
  clear e1 e2 e3 e4 e5 w1 w2 w3 z1 fresh hmem hfly hlead hserv htask okx p1 hok hokx
  cases hs<;>simp_all [PM.idle]<;>grind
 have k1b:∀ f,f≠i->(g.mem f).leads=true->∀ x∈T,x.kind=3->x.ep≠(g.mem f).ep:=by
  intro f hf hl
  have lf:=hlead f hl
  clear e1 e2 e3 e4 e5 w1 w2 w3 z1 z2 fresh hmem hfly hlead hserv htask okx p1 hok hokx k1
  cases hs<;>simp_all [PM.idle]<;>grind
 have k2a:m.leads=true->m.base=true->∀ j,j≠i->(g.mem j).base=true->(g.mem j).ep=m.ep->(g.mem j).items=m.items\/(m.op=1/\(g.mem j).items=Ai m.items m.ti):=by
  have e2i:=e2 i
  clear e1 e2 e3 e4 e5 w1 w2 w3 z2 fresh hmem hfly hlead hserv htask okx p1 hok hokx k1 k1b
  intro q1 q2 j hj q3 q4
  have z:=z1 j q3
  clear z1
  cases hs<;>(try dsimp only [PM.idle] at *)<;>grind
 have k2b:∀ f,f≠i->(g.mem f).leads=true->(g.mem f).base=true->m.base=true->m.ep=(g.mem f).ep->m.items=(g.mem f).items\/((g.mem f).op=1/\m.items=Ai (g.mem f).items (g.mem f).ti):=by
  intro f hf h1 h2 h3 h4
  have lf:=hlead f h1
  have e2f:=e2 f h1 h2 i
  have e5f:=e5 f
  have e1f:=e1 f h1 h2
  have fr:=fun (x:PX) hx=>fresh x hx f h1 h2
  have st:∀ a,1<=a.2.2->a.2.2<=vl (g.mem f).items a.1.toList->Ai (g.mem f).items a=(g.mem f).items:=fun a b c=>Yj (ok f) b c
  have st2:∀ a,1<=a.2.2->a.2.2<=vl (g.mem f).items a.1.toList->Ai (Ai (g.mem f).items (g.mem f).ti) a=Ai (g.mem f).items (g.mem f).ti:=fun a b c=>Yj (Hz (ok f)) b (Int.le_trans c (me (ok f) _ _))
  have tw:=nw (a:=(g.mem f).ti) (ok f)
  have ov:∀ x∈g.fly,∀ a,x.items=[a]->1<=a.2.2:=fun x hx a e=>rn (okx x hx) (by rw [e]; simp)
  clear e1 e2 e3 e5 w1 w2 w3 z1 z2 fresh hmem hfly hlead hserv htask okx p1 hok hokx k1 k1b k2a
  cases hs<;>(try dsimp only [PM.idle] at *)<;>grind
 have k3a:m.op=1->∀ j,j≠i->(g.mem j).base=true->(g.mem j).ep=m.ep->(j∉m.left\/∃ x∈g.fly,x.kind=6/\x.frm=j/\x.ep=m.ep/\x.num=m.num)->(g.mem j).items=Ai m.items m.ti:=by
  have e3i:=e3 i
  clear e1 e2 e3 e4 e5 w1 w2 w3 z1 z2 fresh hmem hfly hlead hserv htask okx p1 hok hokx k1 k1b k2a k2b
  intro q1 j q2 q3 q4 q5
  have e3j:=fun a b=>e3i a j q2 q3 b
  clear e3i
  cases hs<;>(try dsimp only [PM.idle] at *)<;>grind
 have k3b:∀ f,f≠i->(g.mem f).op=1->m.base=true->m.ep=(g.mem f).ep->(i∉(g.mem f).left\/∃ x∈g.fly++T,x.kind=6/\x.frm=i/\x.ep=(g.mem f).ep/\x.num=(g.mem f).num)->m.items=Ai (g.mem f).items (g.mem f).ti:=by
  intro f hf ho h3 h4 h5
  have h0:=htask f (by omega)
  obtain ⟨h2,h1,h6⟩:=hserv f h0.1
  have lf:=hlead f h1
  have e2f:=e2 f h1 h2 i
  have e3f:=fun a b c=>e3 f ho i (Ne.symm hf) a b (.inl c)
  have e3g:(g.mem i).base=true->(g.mem i).ep=(g.mem f).ep->∀ x∈g.fly,x.kind=6->x.frm=i->x.ep=(g.mem f).ep->x.num=(g.mem f).num->(g.mem i).items=Ai (g.mem f).items (g.mem f).ti:=fun a b x hx c1 c2 c3 c4=>e3 f ho i (Ne.symm hf) a b (.inr ⟨x,hx,c1,c2,c3,c4⟩)
  have e5f:=e5 f ho
  have fr:=fun (x:PX) hx=>fresh x hx f h1 h2
  have st2:∀ a,1<=a.2.2->a.2.2<=vl (g.mem f).items a.1.toList->Ai (Ai (g.mem f).items (g.mem f).ti) a=Ai (g.mem f).items (g.mem f).ti:=fun a b c=>Yj (Hz (ok f)) b (Int.le_trans c (me (ok f) _ _))
  have tw:=nw (a:=(g.mem f).ti) (ok f) e5f.2 e5f.1
  have ov:∀ x∈g.fly,∀ a,x.items=[a]->1<=a.2.2:=fun x hx a e=>rn (okx x hx) (by rw [e]; simp)
  clear e1 e2 e3 e5 w1 w2 w3 z1 z2 fresh hmem hfly hlead hserv htask okx p1 hok hokx k1 k1b k2a k2b k3a
  cases hs<;>(try dsimp only [PM.idle] at *)<;>grind
 have k4:∀ x∈g.fly,x.kind=5->CO V x.ep=i->m.leads=true->m.base=true->m.ep=x.ep->(g.mem i).leads=true/\(g.mem i).base=true/\(g.mem i).ep=x.ep/\m.op=(g.mem i).op/\m.num=(g.mem i).num/\m.ti=(g.mem i).ti/\m.items=(g.mem i).items:=by
  intro x hx hk hf
  have z:=z2 x hx (.inr (by omega))
  rw [hf] at z
  clear e1 e2 e3 e4 e5 w1 w2 w3 z1 z2 fresh hmem hfly hlead hserv htask okx p1 hok hokx k1 k1b k2a k2b k3a k3b
  cases hs<;>simp_all [PM.idle]<;>grind
 have k5:m.op=1->m.items=(g.mem i).items/\m.ti=(g.mem i).ti/\(g.mem i).op=1:=by
  clear e1 e2 e3 e4 e5 w1 w2 w3 z1 z2 fresh hmem hfly hlead hserv htask okx p1 hok hokx k1 k1b k2a k2b k3a k3b k4
  cases hs<;>simp_all [PM.idle]<;>grind
 have kT:∀ x∈T,x.kind≠5:=by
  clear e1 e2 e3 e4 e5 w1 w2 w3 z1 z2 fresh hmem hfly hlead hserv htask okx p1 hok hokx k1 k1b k2a k2b k3a k3b k4 k5
  cases hs<;>simp_all [PM.idle]<;>grind
 have k6:∀ x∈T,x.kind=6->x.frm=i:=fun x hx hk=>(hs.talk x hx (by omega)).2.1
 clear hs
 generalize g.set i m T=g' at *
 refine ⟨?_,?_,?_,?_,?_,?_,?_⟩
 ·intro j; rw [hmem]; split
  ·exact hok
  ·exact ok j
 ·intro x hx
  rw [hfly] at hx
  rcases List.mem_append.1 hx with q | q
  ·exact okx x q
  ·exact hokx x q
 ·intro j; rw [hmem,hfly]; split
  ·exact k1
  ·intro h1 h2 h3 x hx hk he
   rcases List.mem_append.1 hx with q | q
   ·exact e1 j h1 h2 h3 x q hk he
   ·rename_i hne; exact absurd he (k1b j hne h1 x q hk)
 ·intro j h1 h2 l h3 h4
  rw [hmem] at h1 h2 h3 h4 ⊢
  rw [hmem]
  grind
 ·intro j h1 l hl h3 h4 h5
  rw [hfly] at h5
  rw [hmem] at h1 h3 h4 h5 ⊢
  rw [hmem] at h4 ⊢
  by_cases hji:j=i
  ·subst hji
   simp only [if_true] at *
   rw [if_neg hl] at *
   refine k3a h1 l hl h3 h4 (h5.imp id fun ⟨x,hx,q⟩=>⟨x,?_,q⟩)
   rcases List.mem_append.1 hx with r | r
   ·exact r
   ·exact absurd (k6 x r q.1) (by rw [q.2.1]; exact hl)
  ·rw [if_neg hji] at *
   by_cases hli:l=i
   ·subst hli
    simp only [if_true] at *
    exact k3b j hji h1 h3 h4 h5
   ·rw [if_neg hli] at *
    refine e3 j h1 l hl h3 h4 (h5.imp id fun ⟨x,hx,q⟩=>⟨x,?_,q⟩)
    rcases List.mem_append.1 hx with r | r
    ·exact r
    ·exact absurd (k6 x r q.1) (by rw [q.2.1]; exact hli)
 ·intro x hx hk a hxa h1 h2 h3
  rw [hfly] at hx
  rcases List.mem_append.1 hx with q | q
  ·rw [hmem] at h1 h2 h3 ⊢
   have:=e4 x q hk a hxa
   by_cases hf:CO V x.ep=i
   ·rw [if_pos hf] at *
    have:=k4 x q hk hf h1 h2 h3
    rw [hf] at *
    grind
   ·rw [if_neg hf] at *
    exact this h1 h2 h3
  ·exact absurd hk (kT x q)
 ·intro j h1
  rw [hmem] at h1 ⊢
  have:=e5 i
  grind

def Uo (m:PM):Int:=if m.op=1 then m.ti.2.2 else vl m.items m.ti.1.toList
def ZA (g:PG) (vr:Nat->Int) (y:AL):Prop:=∃ (k:Nat) (c:PC),g.calls[k]? = some c/\c.op=1/\c.key=y.1/\c.val=y.2.1/\vr k=y.2.2/\1<=y.2.2
structure IF (V:Int->List Int) (g:PG) (vr:Nat->Int):Prop where
 f1:∀ (k:Nat) c,g.calls[k]? = some c->0<=c.done->∀ j,(g.mem j).base=true->c.ep<=(g.mem j).ep->c.ver<=vl (g.mem j).items c.key.toList
 f2:∀ (k:Nat) c,g.calls[k]? = some c->0<=c.done->∀ x∈g.fly,x.kind=2\/x.kind=3->c.ep<x.ep->c.ver<=vl x.items c.key.toList
 p1:∀ i,(g.mem i).op≠0->Il g i\/((∀ j,(g.mem j).base=true->(g.mem i).ep<(g.mem j).ep->Uo (g.mem i)<=vl (g.mem j).items (g.mem i).ti.1.toList)/\(∀ x∈g.fly,x.kind=2\/x.kind=3->(g.mem i).ep<x.ep->Uo (g.mem i)<=vl x.items (g.mem i).ti.1.toList) /\
  (∀ (k:Nat) c,g.calls[k]? = some c->0<=c.done->c.op=2->(g.mem i).ep<c.ep->c.key.toList=(g.mem i).ti.1.toList->Uo (g.mem i)<=c.ver))
 fr:∀ (k l:Nat) c d,g.calls[k]? = some c->g.calls[l]? = some d->0<=c.done->0<=d.done->c.op=2->c.key.toList=d.key.toList->vr l<vr k->d.ver<=c.ver
 vs:∀ (k:Nat) c,g.calls[k]? = some c->0<=c.done->c.ver<=vr k/\(c.op=1->c.ver=vr k)
 pm:∀ i,∀ y∈(g.mem i).items,ZA g vr y
 px:∀ x∈g.fly,∀ y∈x.items,ZA g vr y
 pt:∀ i,(g.mem i).op=1->ZA g vr (g.mem i).ti
 gt:∀ (k:Nat) c,g.calls[k]? = some c->0<=c.done->c.op=2->(c.ver=0/\c.got=ByteArray.empty)\/∃ y,ZA g vr y/\y.1.toList=c.key.toList/\c.ver=y.2.2/\c.got=y.2.1
theorem IF.mstep {V nv g i m T vr now} (h:IF V g vr) (ha:IA V nv g) (ht:IT V g vr now) (hz:IZ V g vr) (he:IE V g) (hs:CP V nv g i m T):IF V (g.set i m T) vr:=by
 have hmem:∀ j,(g.set i m T).mem j=if j=i then m else g.mem j:=fun _=>rfl
 have hfly:(g.set i m T).fly=g.fly++T:=rfl
 have hcal:(g.set i m T).calls=g.calls:=rfl
 obtain ⟨f1,f2,p1,fr,vs,pm,px,pt,gt⟩:=h
 have hstk:=fun j=>Il.step (j:=j) hs
 have li:=ha.lead i
 have si:=ha.serv i
 have ti:=ha.task i
 have dn:∀ (k:Nat) c,g.calls[k]? = some c->0<=c.done->c.ep<=(g.mem (CO V c.ep)).ep/\((g.mem (CO V c.ep)).ep=c.ep->(g.mem (CO V c.ep)).leads=true->(g.mem (CO V c.ep)).base=true)/\(∀ j∈V c.ep,j≠CO V c.ep->T8 g j c.ep):=by
  intro k c hk hd
  obtain ⟨d1,d2,d3,d4,d5,d6,d7⟩:=ht.dn k c hk hd
  obtain ⟨e,n,x1,x2,x3,x4,x5,x6⟩:=ht.st k (by omega)
  have:e=c.ep:=by omega
  subst this
  exact ⟨x5,fun q1 q2=>(x6 q1 q2).1,hz.w3 k c.ep c.num (by omega) d1 d3 d4⟩
 have q1:=fun a k=>me (he.ok i) a k
 have k1:∀ (k:Nat) c,g.calls[k]? = some c->0<=c.done->m.base=true->c.ep<=m.ep->c.ver<=vl m.items c.key.toList:=by
  intro k c hk hd
  obtain ⟨d1,d2,d3⟩:=dn k c hk hd
  have g1:=f1 k c hk hd i
  have g2:=f2 k c hk hd
  have d3i:=d3 i
  have q1c:=fun a=>q1 a c.key.toList
  unfold T8 at d3i
  clear dn f1 f2 p1 fr vs pm px pt gt hstk q1 d3 ha ht hz he hmem hfly hcal
  cases hs<;>simp_all [PM.idle]<;>grind
 have k2:∀ (k:Nat) c,g.calls[k]? = some c->0<=c.done->∀ x∈T,x.kind=2\/x.kind=3->c.ep<x.ep->c.ver<=vl x.items c.key.toList:=by
  intro k c hk hd
  have g1:=f1 k c hk hd i
  have g2:=f2 k c hk hd
  clear dn f1 f2 p1 fr vs pm px pt gt hstk q1 ha ht hz he hmem hfly hcal k1
  cases hs<;>simp_all [PM.idle]<;>grind
 have special:∀ j,j≠i->(g.mem j).op≠0->(g.mem i).base=true->(g.mem i).ep=(g.mem j).ep->(g.mem i).ep<m.ep->(∀ x∈T,x.kind≠6/\x.kind≠8)->Il (g.set i m T) j\/Uo (g.mem j)<=vl (g.mem i).items (g.mem j).ti.1.toList:=by
  intro j hj ho hb hep hlt hT
  obtain ⟨t1,t2,t3⟩:=ha.task j ho
  obtain ⟨s1,s2,s3⟩:=ha.serv j t1
  rcases t2 with t2 | t2
  ·by_cases hr:i∉(g.mem j).left\/∃ x∈g.fly,x.kind=6/\x.frm=i/\x.ep=(g.mem j).ep/\x.num=(g.mem j).num
   ·have:=he.e3 j t2 i (Ne.symm hj) hb hep hr
    right
    unfold Uo
    rw [if_pos t2,this,qR,(he.e5 j t2).1]
    exact Int.le_refl _
   ·left
    have hr1:i∈(g.mem j).left:=by
     by_cases q:i∈(g.mem j).left
     ·exact q
     ·exact absurd (.inl q) hr
    refine ⟨i,by rw [hmem,if_neg hj]; exact hr1,by rw [hmem,if_neg hj,hmem,if_pos rfl]; omega,fun x hx hk hf hxe hn=>?_⟩
    rw [hmem,if_neg hj] at hk hxe hn
    rw [hfly] at hx
    rcases List.mem_append.1 hx with q | q
    ·exact hr (.inr ⟨x,q,by omega,hf,hxe,hn⟩)
    ·have:=hT x q; omega
  ·right
   unfold Uo
   rw [if_neg (by omega)]
   rcases he.e2 j s2 s1 i hb hep with q | q
   ·rw [q]; exact Int.le_refl _
   ·omega
 have kp:∀ j,j≠i->(g.mem j).op≠0->Il g j\/Il (g.set i m T) j\/((m.base=true->(g.mem j).ep<m.ep->Uo (g.mem j)<=vl m.items (g.mem j).ti.1.toList)/\(∀ x∈T,x.kind=2\/x.kind=3->(g.mem j).ep<x.ep->Uo (g.mem j)<=vl x.items (g.mem j).ti.1.toList)):=by
  intro j hj ho
  rcases p1 j ho with q | ⟨b1,b2,b3⟩
  ·exact .inl q
  ·have sp:=special j hj ho
   have b1i:=b1 i
   have q1c:=fun a=>q1 a (g.mem j).ti.1.toList
   generalize hA:Il (g.set i m T) j=A at *
   generalize Uo (g.mem j)=tb at *
   right
   clear dn f1 f2 p1 fr vs pm px pt gt hstk q1 ha ht hz he hmem hfly hcal k1 k2 special hA b1 b3
   cases hs<;>simp_all [PM.idle]<;>grind
 have kt:m.op≠0->(g.mem i).op≠0/\m.op=(g.mem i).op/\m.ti=(g.mem i).ti/\m.items=(g.mem i).items/\m.ep=(g.mem i).ep/\(∀ x∈T,x.kind≠2/\x.kind≠3):=by
  clear dn f1 f2 p1 fr vs pm px pt gt hstk q1 ha ht hz he hmem hfly hcal k1 k2 special kp
  cases hs<;>simp_all [PM.idle]<;>grind
 have kb:m.op≠0->m.base=true:=fun ho=>by
  obtain ⟨t1,t2⟩:=kt ho
  have:=(si (ti t1).1).1
  clear dn f1 f2 p1 fr vs pm px pt gt hstk q1 ha ht hz he hmem hfly hcal k1 k2 special kp
  cases hs<;>simp_all [PM.idle]
 have kv:∀ y∈m.items,ZA g vr y:=by
  have pmi:=pm i
  have ps:=fun (a b:AL) h=>YL (x:=(g.mem i).items) (a:=a) (b:=b) h
  clear dn f1 f2 p1 fr vs pm pt gt hstk q1 ha ht hz he hmem hfly hcal k1 k2 special kp kt kb
  cases hs<;>simp_all [PM.idle]<;>grind
 have kw:∀ x∈T,∀ y∈x.items,ZA g vr y:=by
  have pmi:=pm i
  clear dn f1 f2 p1 fr vs pm pt gt hstk q1 ha ht hz he hmem hfly hcal k1 k2 special kp kt kb kv
  cases hs<;>simp_all [PM.idle]<;>grind
 clear hs
 have hprov:∀ y,ZA g vr y->ZA (g.set i m T) vr y:=fun y h=>h
 refine ⟨?_,?_,?_,fr,vs,?_,?_,?_,fun k c h1 h2 h3=>gt k c h1 h2 h3⟩
 ·intro k c hk hd j
  rw [hmem]
  split
  ·exact k1 k c hk hd
  ·exact f1 k c hk hd j
 ·intro k c hk hd x hx
  rw [hfly] at hx
  rcases List.mem_append.1 hx with q | q
  ·exact f2 k c hk hd x q
  ·exact k2 k c hk hd x q
 ·intro j ho
  by_cases hj:j=i
  ·subst hj
   have ho2:m.op≠0:=by rw [hmem,if_pos rfl] at ho; exact ho
   obtain ⟨t1,t2,t3,t4,t5,t6⟩:=kt ho2
   have te:Uo m=Uo (g.mem j):=by unfold Uo; rw [t2,t3,t4]
   rcases p1 j t1 with q | ⟨b1,b2,b3⟩
   ·exact .inl (hstk j q ho)
   ·right
    rw [hmem,if_pos rfl,te,t3,t5]
    refine ⟨fun l=>?_,fun x hx hk=>?_,b3⟩
    ·rw [hmem]
     split
     ·rename_i e; intro _ h; omega
     ·exact b1 l
    ·rw [hfly] at hx
     rcases List.mem_append.1 hx with r | r
     ·exact b2 x r hk
     ·have:=t6 x r; omega
  ·have ho2:(g.mem j).op≠0:=by rw [hmem,if_neg hj] at ho; exact ho
   rcases kp j hj ho2 with q | q | ⟨q1',q2'⟩
   ·exact .inl (hstk j q ho)
   ·exact .inl q
   ·rcases p1 j ho2 with q | ⟨b1,b2,b3⟩
    ·exact .inl (hstk j q ho)
    ·right
     rw [hmem,if_neg hj]
     refine ⟨fun l=>?_,fun x hx hk=>?_,b3⟩
     ·rw [hmem]
      split
      ·exact q1'
      ·exact b1 l
     ·rw [hfly] at hx
      rcases List.mem_append.1 hx with r | r
      ·exact b2 x r hk
      ·exact q2' x r hk
 ·intro j y hy
  rw [hmem] at hy
  split at hy
  ·exact kv y hy
  ·exact pm j y hy
 ·intro x hx
  rw [hfly] at hx
  rcases List.mem_append.1 hx with r | r
  ·exact px x r
  ·exact kw x r
 ·intro j ho
  by_cases hj:j=i
  ·subst hj
   rw [hmem,if_pos rfl] at ho ⊢
   obtain ⟨t1,t2,t3,t4,t5,t6⟩:=kt (by omega)
   rw [t3]
   exact pt j (by omega)
  ·rw [hmem,if_neg hj] at ho ⊢
   exact pt j ho
theorem IA.drop {V nv g f} (h:IA V nv g):IA V nv { g with fly:=f }:=⟨h.1,h.2,h.3,h.4,h.5,h.6,h.7⟩
theorem IB.drop {V g f} (h:IB V g) (hf:∀ x∈f,x∈g.fly):IB V { g with fly:=f }:=⟨h.mem,fun x hx=>h.fly x (hf x hx)⟩
theorem IZ.drop {V g vr f} (h:IZ V g vr) (hf:∀ x∈f,x∈g.fly):IZ V { g with fly:=f } vr:=⟨h.w1,fun x hx=>h.w2 x (hf x hx),h.w3,h.z1,fun x hx=>h.z2 x (hf x hx)⟩
theorem IE.drop {V g f} (h:IE V g) (hf:∀ x∈f,x∈g.fly):IE V { g with fly:=f } :=
 ⟨h.ok,fun x hx=>h.okx x (hf x hx),fun i a b c x hx=>h.e1 i a b c x (hf x hx),h.e2,fun i a j b c d e=>h.e3 i a j b c d (e.imp id fun ⟨x,hx,q⟩=>⟨x,hf x hx,q⟩),fun x hx=>h.e4 x (hf x hx),h.e5⟩
theorem IF.drop {V g vr f} (h:IF V g vr) (hf:∀ x∈f,x∈g.fly):IF V { g with fly:=f } vr :=
 ⟨h.f1,fun k c a b x hx=>h.f2 k c a b x (hf x hx),fun i a=>(h.p1 i a).imp (Il.less hf) fun ⟨x,y,z⟩=>⟨x,fun w hw=>y w (hf w hw),z⟩,h.fr,h.vs,h.pm,fun x hx=>h.px x (hf x hx),h.pt,h.gt⟩
theorem IF.call {V g vr} {c:PC} (h:IF V g vr) (h1:c.done=-1):IF V { g with calls:=g.calls++[c] } vr:=by
 obtain ⟨f1,f2,p1,fr,vs,pm,px,pt,gt⟩:=h
 have hg:∀ (k:Nat) d,(g.calls++[c])[k]? = some d->0<=d.done->g.calls[k]? = some d:=by
  intro k d hd h0
  have:g.calls[k]? = some d\/(k=g.calls.length/\d=c):=by grind
  rcases this with e | ⟨_,e⟩
  ·exact e
  ·subst e; omega
 have hp:∀ y,ZA g vr y->ZA { g with calls:=g.calls++[c] } vr y:=fun y ⟨k,d,q,r⟩=>⟨k,d,by grind,r⟩
 refine ⟨fun k d a b=>f1 k d (hg k d a b) b,fun k d a b=>f2 k d (hg k d a b) b,fun i a=>(p1 i a).imp id fun ⟨x,y,z⟩=>⟨x,y,fun k d q r=>z k d (hg k d q r) r⟩,fun k l d e q r s t=>fr k l d e (hg k d q s) (hg l e r t) s t,fun k d a b=>vs k d (hg k d a b) b,
  fun i y hy=>hp y (pm i y hy),fun x hx y hy=>hp y (px x hx y hy),fun i a=>hp _ (pt i a),fun k d a b e=>(gt k d (hg k d a b) b e).imp id fun ⟨y,q,r⟩=>⟨y,hp y q,r⟩⟩
section
variable {V:Int->List Int} {nv now:Int} {g:PG} {vr:Nat->Int} {i:Int} {c:PC} {L:List Int} {a:AL} {T:List PX}
def BY (g:PG) (i:Int) (c:PC) (L:List Int) (a:AL) (T:List PX):PG:={ (g.set i (OB g i c L a) T) with calls:=g.calls++[c] }
def ua (g:PG) (i:Int) (vr:Nat->Int):Nat->Int:=fun k=>if k=g.calls.length then 1000*(g.mem i).ep+((g.mem i).cnt+1) else vr k
theorem IA.start (h:IA V nv g) (h3:(g.mem i).serves=true) (h5:c.op=1\/c.op=2):IA V nv (BY g i c L a T):=by
 obtain ⟨a1,a2,a3,a4,a5,a6,a7⟩:=h
 have b6:=a6 i
 refine ⟨fun j=>?_,fun j=>?_,fun j=>?_,fun j=>?_,fun j=>?_,fun j=>?_,fun j=>?_⟩<;>simp only [BY,PG.set,OB]<;>split<;>grind
theorem T9 (j:Int):((BY g i c L a T).mem j).ep=(g.mem j).ep/\((BY g i c L a T).mem j).base=(g.mem j).base/\((BY g i c L a T).mem j).leads=(g.mem j).leads/\((BY g i c L a T).mem j).fell=(g.mem j).fell/\((BY g i c L a T).mem j).items=(g.mem j).items/\((BY g i c L a T).mem j).serves=(g.mem j).serves/\((BY g i c L a T).mem j).waits=(g.mem j).waits:=by
 simp only [BY,PG.set,OB]
 split
 ·rename_i e; subst e; exact ⟨rfl,rfl,rfl,rfl,rfl,rfl,rfl⟩
 ·exact ⟨rfl,rfl,rfl,rfl,rfl,rfl,rfl⟩
theorem IB.start (h:IB V g) (hT:∀ y∈T,y.kind=5\/y.kind=7):IB V (BY g i c L a T):=by
 have mono:∀ e,B_ V g e->B_ V (BY g i c L a T) e:=fun e h=>h.mono fun j=>by rw [(T9 j).1]; exact Int.le_refl _
 refine ⟨fun j hb=>?_,fun x hx hk=>?_⟩
 ·obtain ⟨q1,q2,_⟩:=T9 (g:=g) (i:=i) (c:=c) (L:=L) (a:=a) (T:=T) j
  rw [q1]; rw [q2] at hb; exact mono _ (h.mem j hb)
 ·rcases List.mem_append.1 hx with q | q
  ·exact mono _ (h.fly x q hk)
  ·have:=hT x q; omega
theorem IZ.start (h:IZ V g vr) (hia:IA V nv g) (hcl:∀ k,g.calls.length<=k->vr k=0) (h3:(g.mem i).serves=true) (hc9:(g.mem i).cnt<900) (hT:∀ y∈T,(y.kind=5\/y.kind=7)/\y.ep=(g.mem i).ep):IZ V (BY g i c L a T) (ua g i vr):=by
 obtain ⟨s1,s2,s3⟩:=hia.serv i h3
 obtain ⟨l1,l2⟩:=hia.lead i s2
 have hcnt:=hia.cnt i
 have he:=T9 (g:=g) (i:=i) (c:=c) (L:=L) (a:=a) (T:=T)
 have hb:∀ k e,T8 g k e->T8 (BY g i c L a T) k e:=fun k e h=>by
  obtain ⟨q1,q2,q3,q4,_⟩:=he k
  unfold T8 at *
  rw [q1,q2,q4]; exact h
 have hfly:(BY g i c L a T).fly=g.fly++T:=rfl
 generalize BY g i c L a T=g' at *
 obtain ⟨w1,w2,w3,z1,z2⟩:=h
 refine ⟨?_,?_,?_,?_,?_⟩
 ·intro j h1 h2 k h4 h5 h6
  obtain ⟨q1,q2,q3,q4,q5,q6,q7⟩:=he j
  rw [q3] at h1; rw [q2] at h2; rw [q1] at h4 ⊢; rw [q7] at h6
  exact hb _ _ (w1 j h1 h2 k h4 h5 h6)
 ·intro x hx hk
  rw [hfly] at hx
  rcases List.mem_append.1 hx with q | q
  ·exact hb _ _ (w2 x q hk)
  ·have:=hT x q; omega
 ·intro k e n h1 h2 h4 h5 j h6 h7
  unfold ua at h1 h2
  split at h1
  ·rename_i hk
   rw [if_pos hk] at h2
   have:e=(g.mem i).ep:=by omega
   subst this
   rw [l2] at h7
   exact hb _ _ (w1 i s2 s1 j h6 h7 (by rw [s3]; simp))
  ·rename_i hk
   rw [if_neg hk] at h2
   exact hb _ _ (w3 k e n h1 h2 h4 h5 j h6 h7)
 ·intro k hk
  obtain ⟨q1,q2,q3,q4,q5,q6,q7⟩:=he k
  rw [q2] at hk; rw [q1]
  obtain ⟨r1,r2,r3,_⟩:=he (CO V (g.mem k).ep)
  rw [r1,r2,r3]
  exact z1 k hk
 ·intro x hx hk
  obtain ⟨r1,r2,r3,_⟩:=he (CO V x.ep)
  rw [r1,r2,r3]
  rw [hfly] at hx
  rcases List.mem_append.1 hx with q | q
  ·exact z2 x q hk
  ·have:=(hT x q).2
   rw [this,l2]
   exact ⟨Int.le_refl _,fun _ _=>s1⟩
theorem IE.start (h:IE V g) (hia:IA V nv g) (hit:IT V g vr now) (h3:(g.mem i).serves=true) (h4:(g.mem i).op=0) (h5:c.op=1\/c.op=2) (hL:∀ k,k∈L↔k∈V (g.mem i).ep/\k≠i) (hA:a=(c.key,c.val,1000*(g.mem i).ep+((g.mem i).cnt+1))) (hp:c.op=1->BB (Ai (g.mem i).items a) a.1=a) (hone:Ap [a]=true)
  (hT:∀ y∈T,(y.kind=5/\c.op=1/\y.items=[a]\/y.kind=7/\c.op=2/\y.items=[])/\y.ep=(g.mem i).ep/\y.num=(g.mem i).cnt+1/\y.frm=i):IE V (BY g i c L a T):=by
 obtain ⟨s1,s2,s3⟩:=hia.serv i h3
 obtain ⟨l1,l2⟩:=hia.lead i s2
 have hpos:=hia.pos i
 have hcnt:=hia.cnt i
 have hv1:1<=a.2.2:=by rw [hA]; show 1<=1000*(g.mem i).ep+((g.mem i).cnt+1); omega
 have he:=T9 (g:=g) (i:=i) (c:=c) (L:=L) (a:=a) (T:=T)
 have hi:((BY g i c L a T).mem i).op=c.op/\((BY g i c L a T).mem i).num=(g.mem i).cnt+1/\((BY g i c L a T).mem i).ti=a/\((BY g i c L a T).mem i).left=L:=by
  simp [BY,PG.set,OB]
 have hj:∀ j,j≠i->(BY g i c L a T).mem j=g.mem j:=fun j e=>by simp only [BY,PG.set]; rw [if_neg e]
 have hfly:(BY g i c L a T).fly=g.fly++T:=rfl
 have hfl:=hit.fl
 generalize BY g i c L a T=g' at *
 obtain ⟨ok,okx,e1,e2,e3,e4,e5⟩:=h
 refine ⟨?_,?_,?_,?_,?_,?_,?_⟩
 ·intro j; rw [(he j).2.2.2.2.1]; exact ok j
 ·intro x hx
  rw [hfly] at hx
  rcases List.mem_append.1 hx with q | q
  ·exact okx x q
  ·rcases (hT x q).1 with ⟨_,_,r⟩ | ⟨_,_,r⟩
   ·rw [r]; exact hone
   ·rw [r]; rfl
 ·intro j q1 q2 q3 x hx hk hxe
  obtain ⟨r1,r2,r3,r4,r5,r6,r7⟩:=he j
  rw [r3] at q1; rw [r2] at q2; rw [r6] at q3; rw [r1] at hxe; rw [r5]
  rw [hfly] at hx
  rcases List.mem_append.1 hx with q | q
  ·exact e1 j q1 q2 q3 x q hk hxe
  ·have:=hT x q; omega
 ·intro j q1 q2 l q3 q4
  obtain ⟨r1,r2,r3,r4,r5,r6,r7⟩:=he j
  obtain ⟨t1,t2,t3,t4,t5,t6,t7⟩:=he l
  rw [r3] at q1; rw [r2] at q2; rw [t2] at q3; rw [r1,t1] at q4; rw [r5,t5]
  have:=e2 j q1 q2 l q3 q4
  by_cases e:j=i
  ·subst e
   rcases this with q | q
   ·exact .inl q
   ·omega
  ·rw [hj j e]; exact this
 ·intro j q1 l hl q3 q4 q5
  obtain ⟨r1,r2,r3,r4,r5,r6,r7⟩:=he j
  obtain ⟨t1,t2,t3,t4,t5,t6,t7⟩:=he l
  rw [t2] at q3; rw [r1,t1] at q4; rw [r5,t5]
  rw [r1] at q5
  by_cases e:j=i
  ·subst e
   rw [hi.2.2.2,hi.2.1] at q5
   exfalso
   rcases q5 with q | ⟨x,hx,x1,x2,x3,x4⟩
   ·exact q ((hL l).2 ⟨by rw [<- q4]; exact (hia.view l q3).2,hl⟩)
   ·rw [hfly] at hx
    rcases List.mem_append.1 hx with q | q
    ·have:=hfl x q (by omega) (by omega)
     rw [x3,l2] at this
     have:=this.2 rfl s2
     omega
    ·have:=hT x q; omega
  ·rw [hj j e] at q1 q5 ⊢
   refine e3 j q1 l hl q3 q4 (q5.imp id fun ⟨x,hx,x1,q⟩=>⟨x,?_,x1,q⟩)
   rw [hfly] at hx
   rcases List.mem_append.1 hx with r | r
   ·exact r
   ·have:=hT x r; omega
 ·intro x hx hk b hxb q1 q2 q3
  obtain ⟨r1,r2,r3,r4,r5,r6,r7⟩:=he (CO V x.ep)
  rw [r3] at q1; rw [r2] at q2; rw [r1] at q3; rw [r5]
  rw [hfly] at hx
  rcases List.mem_append.1 hx with q | q
  ·have h6:=e4 x q hk b hxb q1 q2 q3
   by_cases e:CO V x.ep=i
   ·rw [e] at h6 q1 q2 q3 ⊢
    have h7:=hfl x q (by omega) (by omega)
    rw [e] at h7
    have h8:=h7.2 q3 q1
    refine ⟨fun _ hn=>?_,fun _=>h6.2 (fun h=>by omega)⟩
    rw [hi.2.1] at hn; omega
   ·rw [hj _ e]; exact h6
  ·obtain ⟨u1,u2,u3,u4⟩:=hT x q
   have hf:CO V x.ep=i:=by rw [u2]; exact l2
   rcases u1 with ⟨_,u6,u7⟩ | ⟨u5,_⟩
   ·rw [u7] at hxb
    cases hxb
    rw [hf]
    refine ⟨fun _ _=>hi.2.2.1.symm,fun h=>absurd ⟨by rw [hi.1]; exact u6,by rw [hi.2.1]; exact u3⟩ h⟩
   ·omega
 ·intro j q1
  obtain ⟨r1,r2,r3,r4,r5,r6,r7⟩:=he j
  rw [r5]
  by_cases e:j=i
  ·subst e
   rw [hi.2.2.1]
   exact ⟨hp (by rw [<- hi.1]; exact q1),hv1⟩
  ·rw [hj j e] at q1 ⊢; exact e5 j q1
end
section
variable {V:Int->List Int} {nv now:Int} {g:PG} {vr:Nat->Int} {i:Int} {k:Nat} {c:PC}
def Lt (g:PG) (i:Int) (k:Nat) (c:PC) (now:Int):PG:={ (g.set i (Un (g.mem i)) []) with calls:=g.calls.set k (O6 (g.mem i) c now) }
theorem dv (j:Int):(Lt g i k c now).mem j=if j=i then Un (g.mem i) else g.mem j:=rfl
theorem mf (j:Int):((Lt g i k c now).mem j).ep=(g.mem j).ep/\((Lt g i k c now).mem j).base=(g.mem j).base/\((Lt g i k c now).mem j).leads=(g.mem j).leads/\((Lt g i k c now).mem j).fell=(g.mem j).fell/\((Lt g i k c now).mem j).serves=(g.mem j).serves/\((Lt g i k c now).mem j).waits=(g.mem j).waits/\((Lt g i k c now).mem j).cnt=(g.mem j).cnt:=by
 rw [dv]
 split
 ·rename_i e; subst e; exact ⟨rfl,rfl,rfl,rfl,rfl,rfl,rfl⟩
 ·exact ⟨rfl,rfl,rfl,rfl,rfl,rfl,rfl⟩
theorem dw:(Lt g i k c now).fly=g.fly:=List.append_nil _
theorem IA.fin (h:IA V nv g):IA V nv (Lt g i k c now):=by
 obtain ⟨a1,a2,a3,a4,a5,a6,a7⟩:=h
 have b:=mf (g:=g) (i:=i) (k:=k) (c:=c) (now:=now)
 refine ⟨fun j=>by rw [(b j).1]; exact a1 j,fun j=>?_,fun j=>?_,fun j=>?_,fun j ho=>?_,fun j=>?_,fun j=>?_⟩
 ·obtain ⟨q1,q2,q3,q4,q5,q6,q7⟩:=b j; rw [q1,q3]; exact a2 j
 ·obtain ⟨q1,q2,q3,q4,q5,q6,q7⟩:=b j; rw [q1,q2]; exact a3 j
 ·obtain ⟨q1,q2,q3,q4,q5,q6,q7⟩:=b j; rw [q2,q3,q5,q6]; exact a4 j
 ·rw [dv] at ho ⊢
  split at ho
  ·exact absurd rfl ho
  ·rename_i e; rw [if_neg e]; exact a5 j ho
 ·rw [(b j).2.2.2.2.2.2]; exact a6 j
 ·obtain ⟨q1,q2,q3,q4,q5,q6,q7⟩:=b j; rw [q4,q2,q3]; exact a7 j
theorem IB.fin (h:IB V g):IB V (Lt g i k c now):=by
 have b:=mf (g:=g) (i:=i) (k:=k) (c:=c) (now:=now)
 have mono:∀ e,B_ V g e->B_ V (Lt g i k c now) e:=fun e h=>h.mono fun j=>by rw [(b j).1]; exact Int.le_refl _
 refine ⟨fun j hb=>?_,fun x hx hk=>?_⟩
 ·rw [(b j).1]; rw [(b j).2.1] at hb; exact mono _ (h.mem j hb)
 ·rw [dw] at hx; exact mono _ (h.fly x hx hk)
theorem IZ.fin (h:IZ V g vr):IZ V (Lt g i k c now) vr:=by
 have b:=mf (g:=g) (i:=i) (k:=k) (c:=c) (now:=now)
 have hb:∀ l e,T8 g l e->T8 (Lt g i k c now) l e:=fun l e h=>by
  obtain ⟨q1,q2,q3,q4,_⟩:=b l
  unfold T8 at *
  rw [q1,q2,q4]; exact h
 have hfly:(Lt g i k c now).fly=g.fly:=dw
 generalize Lt g i k c now=g' at *
 obtain ⟨w1,w2,w3,z1,z2⟩:=h
 refine ⟨?_,fun x hx hk=>hb _ _ (w2 x (by rw [<- hfly]; exact hx) hk),fun k e n h1 h2 h4 h5 j h6 h7=>hb _ _ (w3 k e n h1 h2 h4 h5 j h6 h7),?_,?_⟩
 ·intro j h1 h2 l h4 h5 h6
  obtain ⟨q1,q2,q3,q4,q5,q6,q7⟩:=b j
  rw [q3] at h1; rw [q2] at h2; rw [q1] at h4 ⊢; rw [q6] at h6
  exact hb _ _ (w1 j h1 h2 l h4 h5 h6)
 ·intro l hl
  obtain ⟨q1,q2,q3,q4,q5,q6,q7⟩:=b l
  rw [q2] at hl; rw [q1]
  obtain ⟨r1,r2,r3,_⟩:=b (CO V (g.mem l).ep)
  rw [r1,r2,r3]
  exact z1 l hl
 ·intro x hx hk
  obtain ⟨r1,r2,r3,_⟩:=b (CO V x.ep)
  rw [r1,r2,r3]
  rw [hfly] at hx
  exact z2 x hx hk
theorem IE.fin (h:IE V g) (hia:IA V nv g) (ho:(g.mem i).op≠0) (hl:(g.mem i).left=[]):IE V (Lt g i k c now):=by
 obtain ⟨t1,t2,t3⟩:=hia.task i ho
 obtain ⟨s1,s2,s3⟩:=hia.serv i t1
 obtain ⟨l1,l2⟩:=hia.lead i s2
 have b:=mf (g:=g) (i:=i) (k:=k) (c:=c) (now:=now)
 have hmem:=dv (g:=g) (i:=i) (k:=k) (c:=c) (now:=now)
 have hfly:(Lt g i k c now).fly=g.fly:=dw
 have hlead:=hia.lead
 obtain ⟨ok,okx,e1,e2,e3,e4,e5⟩:=h
 have hi0:(Un (g.mem i)).op=0:=rfl
 have hii:(Un (g.mem i)).items=if (g.mem i).op=1 then Ai (g.mem i).items (g.mem i).ti else (g.mem i).items:=rfl
 have all:∀ j,j≠i->(g.mem j).base=true->(g.mem j).ep=(g.mem i).ep->(g.mem j).items=(Un (g.mem i)).items:=by
  intro j hj h1 h2
  rw [hii]
  split
  ·rename_i q
   exact e3 i q j hj h1 h2 (.inl (by rw [hl]; simp))
  ·rename_i q
   rcases e2 i s2 s1 j h1 h2 with r | r
   ·exact r
   ·exact absurd r.1 q
 have up:∀ kk,vl (g.mem i).items kk<=vl (Un (g.mem i)).items kk:=by
  intro kk; rw [hii]; split
  ·exact me (ok i) _ _
  ·exact Int.le_refl _
 generalize Lt g i k c now=g' at *
 refine ⟨?_,by rw [hfly]; exact okx,?_,?_,?_,?_,?_⟩
 ·intro j; rw [hmem]; split
  ·rw [hii]; split
   ·exact Hz (ok i)
   ·exact ok i
  ·exact ok j
 ·intro j h1 h2 h3 x hx hk he
  obtain ⟨q1,q2,q3,q4,q5,q6,q7⟩:=b j
  rw [q3] at h1; rw [q2] at h2; rw [q5] at h3; rw [q1] at he; rw [hfly] at hx
  rw [hmem]
  split
  ·rename_i e; subst e; rw [t1] at h3; cases h3
  ·exact e1 j h1 h2 h3 x hx hk he
 ·intro j h1 h2 l h3 h4
  obtain ⟨q1,q2,q3,q4,q5,q6,q7⟩:=b j
  obtain ⟨r1,r2,r3,r4,r5,r6,r7⟩:=b l
  rw [q3] at h1; rw [q2] at h2; rw [r2] at h3; rw [r1,q1] at h4
  by_cases e:j=i
  ·subst e
   left
   rw [hmem,hmem,if_pos rfl]
   split
   ·rfl
   ·rename_i e2; exact all l e2 h3 h4
  ·rw [hmem l,hmem j,if_neg e]
   split
   ·rename_i e2
    subst e2
    exact absurd (by have:=(hlead j h1).2; rw [<- h4,l2] at this; exact this.symm) e
   ·exact e2 j h1 h2 l h3 h4
 ·intro j h1 l hl2 h3 h4 h5
  obtain ⟨q1,q2,q3,q4,q5,q6,q7⟩:=b j
  obtain ⟨r1,r2,r3,r4,r5,r6,r7⟩:=b l
  rw [r2] at h3; rw [r1,q1] at h4; rw [q1,hfly] at h5
  by_cases e:j=i
  ·subst e; rw [hmem,if_pos rfl,hi0] at h1; omega
  ·rw [hmem,if_neg e] at h1 h5
   rw [hmem l,hmem j,if_neg e]
   split
   ·rename_i e2
    subst e2
    have hj2:=hia.task j (by omega)
    have hj3:=hia.serv j hj2.1
    exact absurd (by have:=(hlead j hj3.2.1).2; rw [<- h4,l2] at this; exact this.symm) e
   ·exact e3 j h1 l hl2 h3 h4 h5
 ·intro x hx hk a hxa h1 h2 h3
  obtain ⟨q1,q2,q3,q4,q5,q6,q7⟩:=b (CO V x.ep)
  rw [q3] at h1; rw [q2] at h2; rw [q1] at h3; rw [hfly] at hx
  have h6:=e4 x hx hk a hxa h1 h2 h3
  rw [hmem]
  split
  ·rename_i e
   rw [e] at h6
   refine ⟨fun h=>by rw [hi0] at h; omega,fun _=>?_⟩
   by_cases q:(g.mem i).op=1/\x.num=(g.mem i).num
   ·have ha:=h6.1 q.1 q.2
    subst ha
    rw [hii,if_pos q.1,qR,(e5 i q.1).1]
    exact Int.le_refl _
   ·exact Int.le_trans (h6.2 q) (up _)
  ·exact h6
 ·intro j h1
  rw [hmem] at h1 ⊢
  split
  ·rename_i e; rw [if_pos e,hi0] at h1; omega
  ·rename_i e; rw [if_neg e] at h1; exact e5 j h1
end
section
variable {V:Int->List Int} {nv now:Int} {g:PG} {vr:Nat->Int} {i:Int} {c:PC} {L:List Int} {a:AL} {T:List PX}
theorem qS (hia:IA V nv g) (hfl:∀ x∈g.fly,5<=x.kind->x.kind<=8->x.ep<=(g.mem (CO V x.ep)).ep/\((g.mem (CO V x.ep)).ep=x.ep->(g.mem (CO V x.ep)).leads=true->x.num<=(g.mem (CO V x.ep)).cnt)) (h3:(g.mem i).serves=true)
  (hL:∀ k,k∈L↔k∈V (g.mem i).ep/\k≠i) (hT:∀ y∈T,y.kind=5\/y.kind=7) {e:Int} (hr:B_ V g e) (he:(g.mem i).ep<e):Il (BY g i c L a T) i:=by
 obtain ⟨s1,s2,s3⟩:=hia.serv i h3
 obtain ⟨l1,l2⟩:=hia.lead i s2
 obtain ⟨j,hjv,hjl⟩:=hr (g.mem i).ep (hia.pos i) he
 have hep:=fun j=>(T9 (g:=g) (i:=i) (c:=c) (L:=L) (a:=a) (T:=T) j).1
 have hi:((BY g i c L a T).mem i).num=(g.mem i).cnt+1/\((BY g i c L a T).mem i).left=L:=by simp [BY,PG.set,OB]
 have hne:j≠i:=fun e=>by subst e; omega
 refine ⟨j,by rw [hi.2]; exact (hL j).2 ⟨hjv,hne⟩,by rw [hep i,hep j]; exact hjl,fun x hx hk hf hxe=>?_⟩
 rw [hep i] at hxe
 rw [hi.1]
 rcases List.mem_append.1 hx with q | q
 ·have:=hfl x q (by omega) (by omega)
  rw [hxe,l2] at this
  have:=this.2 rfl s2
  omega
 ·have:=hT x q; omega
theorem IF.start (h:IF V g vr) (hia:IA V nv g) (hib:IB V g) (hit:IT V g vr now) (h1:c.done=-1) (h3:(g.mem i).serves=true) (h4:(g.mem i).op=0) (hL:∀ k,k∈L↔k∈V (g.mem i).ep/\k≠i) (hA:a=(c.key,c.val,1000*(g.mem i).ep+((g.mem i).cnt+1)))
  (hT:∀ y∈T,(y.kind=5/\c.op=1/\y.items=[a]\/y.kind=7/\c.op=2/\y.items=[])/\y.ep=(g.mem i).ep/\y.num=(g.mem i).cnt+1/\y.frm=i):IF V (BY g i c L a T) (ua g i vr):=by
 have hep:=T9 (g:=g) (i:=i) (c:=c) (L:=L) (a:=a) (T:=T)
 have hT5:∀ y∈T,y.kind=5\/y.kind=7:=fun y hy=>by have:=(hT y hy).1; omega
 have stuck:∀ e,B_ V g e->(g.mem i).ep<e->Il (BY g i c L a T) i:=fun e hr he=>qS hia hit.fl h3 hL hT5 hr he
 have hi:((BY g i c L a T).mem i).op=c.op/\((BY g i c L a T).mem i).ti=a:=by simp [BY,PG.set,OB]
 have hj:∀ j,j≠i->(BY g i c L a T).mem j=g.mem j:=fun j e=>by simp only [BY,PG.set]; rw [if_neg e]
 have hfly:(BY g i c L a T).fly=g.fly++T:=rfl
 have hcal:(BY g i c L a T).calls=g.calls++[c]:=rfl
 have hg:∀ (k:Nat) d,(BY g i c L a T).calls[k]? = some d->0<=d.done->g.calls[k]? = some d/\k<g.calls.length:=by
  intro k d hd h0
  rw [hcal] at hd
  have:(g.calls[k]? = some d/\k<g.calls.length)\/(k=g.calls.length/\d=c):=by grind
  rcases this with e | ⟨_,e⟩
  ·exact e
  ·subst e; omega
 have hvr:∀ k,k<g.calls.length->ua g i vr k=vr k:=fun k hk=>by unfold ua; rw [if_neg (by omega)]
 have hp:∀ y,ZA g vr y->ZA (BY g i c L a T) (ua g i vr) y:=fun y ⟨k,d,q,q1,q2,q3,q4⟩=>by
  have hk:=(List.getElem?_eq_some_iff.1 q).1
  exact ⟨k,d,by rw [hcal]; grind,q1,q2,q3,by rw [hvr k hk]; exact q4⟩
 have hnew:c.op=1->ZA (BY g i c L a T) (ua g i vr) a:=fun ho=>⟨g.calls.length,c,by rw [hcal]; simp,ho,by rw [hA],by rw [hA],by unfold ua; rw [if_pos rfl,hA],by rw [hA]; have:=hia.pos i; have:=hia.cnt i; show 1<=1000*(g.mem i).ep+((g.mem i).cnt+1); omega⟩
 obtain ⟨f1,f2,p1,fr,vs,pm,px,pt,gt⟩:=h
 have hdn:=hit.dn
 generalize BY g i c L a T=g' at *
 refine ⟨?_,?_,?_,?_,?_,?_,?_,?_,?_⟩
 ·intro k d hk hd j hb he
  obtain ⟨q1,q2,q3,q4,q5,q6,q7⟩:=hep j
  rw [q2] at hb; rw [q1] at he; rw [q5]
  exact f1 k d (hg k d hk hd).1 hd j hb he
 ·intro k d hk hd x hx hkd he
  rw [hfly] at hx
  rcases List.mem_append.1 hx with q | q
  ·exact f2 k d (hg k d hk hd).1 hd x q hkd he
  ·have:=hT5 x q; omega
 ·intro j ho
  obtain ⟨q1,q2,q3,q4,q5,q6,q7⟩:=hep j
  by_cases e:j=i
  ·subst e
   by_cases hE:∃ e,B_ V g e/\(g.mem j).ep<e
   ·obtain ⟨e,r1,r2⟩:=hE
    exact .inl (stuck e r1 r2)
   ·right
    rw [q1]
    refine ⟨fun l hb hl=>?_,fun x hx hk hl=>?_,fun k d hk hd _ hl _=>?_⟩
    ·rw [(hep l).2.1] at hb; rw [(hep l).1] at hl
     exact absurd ⟨_,hib.mem l hb,hl⟩ hE
    ·rw [hfly] at hx
     rcases List.mem_append.1 hx with q | q
     ·exact absurd ⟨_,hib.fly x q hk,hl⟩ hE
     ·have:=hT5 x q; omega
    ·have:=(hdn k d (hg k d hk hd).1 hd).2.2.2.2.1
     exact absurd ⟨_,this,hl⟩ hE
  ·rw [hj j e] at ho ⊢
   rcases p1 j ho with ⟨w,w1,w2,w3⟩ | ⟨b1,b2,b3⟩
   ·left
    refine ⟨w,by rw [hj j e]; exact w1,by rw [hj j e,(hep w).1]; exact w2,fun x hx=>?_⟩
    rw [hj j e]
    rw [hfly] at hx
    rcases List.mem_append.1 hx with q | q
    ·exact w3 x q
    ·have:=hT5 x q
     intro hk; omega
   ·right
    refine ⟨fun l hb hl=>?_,fun x hx hk hl=>?_,fun k d hk hd h2 hl h5=>b3 k d (hg k d hk hd).1 hd h2 hl h5⟩
    ·obtain ⟨r1,r2,r3,r4,r5,r6,r7⟩:=hep l
     rw [r2] at hb; rw [r1] at hl; rw [r5]
     exact b1 l hb hl
    ·rw [hfly] at hx
     rcases List.mem_append.1 hx with q | q
     ·exact b2 x q hk hl
     ·have:=hT5 x q; omega
 ·intro k l d e hk hl h0 h1' h2 h5 hlt
  obtain ⟨u1,u2⟩:=hg k d hk h0
  obtain ⟨v1,v2⟩:=hg l e hl h1'
  rw [hvr k u2,hvr l v2] at hlt
  exact fr k l d e u1 v1 h0 h1' h2 h5 hlt
 ·intro k d hk h0
  obtain ⟨u1,u2⟩:=hg k d hk h0
  rw [hvr k u2]
  exact vs k d u1 h0
 ·intro j y hy
  rw [(hep j).2.2.2.2.1] at hy
  exact hp y (pm j y hy)
 ·intro x hx y hy
  rw [hfly] at hx
  rcases List.mem_append.1 hx with q | q
  ·exact hp y (px x q y hy)
  ·rcases (hT x q).1 with ⟨_,r2,r3⟩ | ⟨_,_,r3⟩
   ·rw [r3] at hy
    simp only [List.mem_singleton] at hy
    rw [hy]; exact hnew r2
   ·rw [r3] at hy; cases hy
 ·intro j ho
  by_cases e:j=i
  ·subst e
   rw [hi.1] at ho; rw [hi.2]
   exact hnew ho
  ·rw [hj j e] at ho ⊢
   exact hp _ (pt j ho)
 ·intro k d hk h0 h2
  exact (gt k d (hg k d hk h0).1 h0 h2).imp id fun ⟨y,q,r⟩=>⟨y,hp y q,r⟩
end
section
variable {V:Int->List Int} {nv now:Int} {g:PG} {vr:Nat->Int} {i:Int} {k:Nat} {c:PC}
theorem dx (s:List AL) (kk:ByteArray):BB s kk=(ByteArray.empty,ByteArray.empty,0)\/(BB s kk∈s/\(BB s kk).1.toList=kk.toList):=by
 cases h:H8 s kk with
 | true=>exact .inr (ma h)
 | false=>exact .inl (YQ h)
theorem IF.fin (h:IF V g vr) (hia:IA V nv g) (hit:IT V g vr now) (hie:IE V g) (hn:0<=now) (ho:(g.mem i).op≠0) (hl:(g.mem i).left=[]) (hc:(g.mem i).call=(k:Int)) (hk:g.calls[k]? = some c)
  (hown:∀ y∈(g.mem i).items,y.2.2<=1000*(g.mem i).ep+(g.mem i).cnt):IF V (Lt g i k c now) vr:=by
 obtain ⟨t1,t2,t3⟩:=hia.task i ho
 obtain ⟨s1,s2,s3⟩:=hia.serv i t1
 obtain ⟨l1,l2⟩:=hia.lead i s2
 obtain ⟨k0,d0,r1,r2,r3,r4,r5,r6,r7,r8,r9,r10⟩:=hit.act i ho
 have hk0:k0=k:=by omega
 subst hk0
 rw [hk] at r2
 cases r2
 have hkl:k0<g.calls.length:=(List.getElem?_eq_some_iff.1 hk).1
 have b:=mf (g:=g) (i:=i) (k:=k0) (c:=c) (now:=now)
 have hmem:=dv (g:=g) (i:=i) (k:=k0) (c:=c) (now:=now)
 have hfly:(Lt g i k0 c now).fly=g.fly:=dw
 have hcal:(Lt g i k0 c now).calls=g.calls.set k0 (O6 (g.mem i) c now):=rfl
 have hset:∀ (l:Nat) d,(Lt g i k0 c now).calls[l]? = some d->(l=k0/\d=O6 (g.mem i) c now)\/(l≠k0/\g.calls[l]? = some d):=by
  intro l d hd
  rw [hcal] at hd
  by_cases e:l=k0
  ·subst e
   rw [List.getElem?_set_self hkl] at hd
   exact .inl ⟨rfl,by cases hd; rfl⟩
  ·rw [List.getElem?_set_ne (Ne.symm e)] at hd
   exact .inr ⟨e,hd⟩
 have hset1:(Lt g i k0 c now).calls[k0]? = some (O6 (g.mem i) c now):=by rw [hcal]; exact List.getElem?_set_self hkl
 have hset2:∀ (l:Nat),l≠k0->(Lt g i k0 c now).calls[l]? = g.calls[l]? := fun l e=>by rw [hcal]; exact List.getElem?_set_ne (Ne.symm e)
 have hns:¬ Il g i:=fun ⟨w,w1,_⟩=>by rw [hl] at w1; cases w1
 obtain ⟨f1,f2,p1,fr,vs,pm,px,pt,gt⟩:=h
 obtain ⟨b1,b2,b3⟩:=(p1 i ho).resolve_left hns
 have hii:(Un (g.mem i)).items=if (g.mem i).op=1 then Ai (g.mem i).items (g.mem i).ti else (g.mem i).items:=rfl
 have hver:(O6 (g.mem i) c now).ver=Uo (g.mem i):=by
  unfold O6 nR Uo
  dsimp only
  split
  ·rfl
  ·rfl
 have htobe:vl (Un (g.mem i)).items (g.mem i).ti.1.toList=Uo (g.mem i):=by
  rw [hii]
  unfold Uo
  split
  ·rename_i q
   rw [qR,(hie.e5 i q).1]
  ·rfl
 have all:∀ j,j≠i->(g.mem j).base=true->(g.mem j).ep=(g.mem i).ep->(g.mem j).items=(Un (g.mem i)).items:=by
  intro j hj h1 h2
  rw [hii]
  split
  ·rename_i q
   exact hie.e3 i q j hj h1 h2 (.inl (by rw [hl]; simp))
  ·rename_i q
   rcases hie.e2 i s2 s1 j h1 h2 with r | r
   ·exact r
   ·exact absurd r.1 q
 have up:∀ kk,vl (g.mem i).items kk<=vl (Un (g.mem i)).items kk:=by
  intro kk; rw [hii]; split
  ·exact me (hie.ok i) _ _
  ·exact Int.le_refl _
 have hf:(O6 (g.mem i) c now).key=c.key/\(O6 (g.mem i) c now).op=c.op/\(O6 (g.mem i) c now).val=c.val/\(O6 (g.mem i) c now).ep=(g.mem i).ep:=⟨rfl,rfl,rfl,rfl⟩
 have hp:∀ y,ZA g vr y->ZA (Lt g i k0 c now) vr y:=fun y ⟨l,d,q,q1,q2,q3,q4⟩=>by
  by_cases e:l=k0
  ·subst e
   rw [hk] at q
   cases q
   exact ⟨l,_,hset1,q1,q2,q3,q4⟩
  ·exact ⟨l,d,by rw [hset2 l e]; exact q,q1,q2,q3,q4⟩
 have hdn:=hit.dn
 have hst:=hit.st
 have hmp:∀ y∈(Un (g.mem i)).items,ZA g vr y:=by
  intro y hy
  rw [hii] at hy
  split at hy
  ·rename_i q
   rcases YL hy with e | e
   ·rw [e]; exact pt i q
   ·exact pm i y e
  ·exact pm i y hy
 generalize hC:O6 (g.mem i) c now=c' at *
 generalize hG:Lt g i k0 c now=g' at *
 refine ⟨?_,?_,?_,?_,?_,?_,?_,?_,?_⟩
 ·intro l d hd hd0 j hb he
  rw [(b j).2.1] at hb; rw [(b j).1] at he
  rw [hmem]
  rcases hset l d hd with ⟨e1,e2⟩ | ⟨e1,e2⟩
  ·subst e2
   rw [hver,hf.1,r6]
   rw [hf.2.2.2] at he
   split
   ·rw [htobe]; exact Int.le_refl _
   ·rename_i e
    by_cases heq:(g.mem j).ep=(g.mem i).ep
    ·rw [all j e hb heq,htobe]; exact Int.le_refl _
    ·exact b1 j hb (by omega)
  ·have:=f1 l d e2 hd0 j hb he
   split
   ·rename_i e; subst e; exact Int.le_trans this (up _)
   ·exact this
 ·intro l d hd hd0 x hx hkd he
  rw [hfly] at hx
  rcases hset l d hd with ⟨e1,e2⟩ | ⟨e1,e2⟩
  ·subst e2
   rw [hf.2.2.2] at he
   rw [hver,hf.1,r6]
   exact b2 x hx hkd he
  ·exact f2 l d e2 hd0 x hx hkd he
 ·intro j hoj
  by_cases e:j=i
  ·subst e
   rw [hmem,if_pos rfl] at hoj
   exact absurd rfl hoj
  ·have hjm:g'.mem j=g.mem j:=by rw [hmem,if_neg e]
   rw [hjm] at hoj ⊢
   rcases p1 j hoj with ⟨w,w1,w2,w3⟩ | ⟨a1,a2,a3⟩
   ·left
    exact ⟨w,by rw [hjm]; exact w1,by rw [hjm,(b w).1]; exact w2,by rw [hjm,hfly]; exact w3⟩
   ·right
    refine ⟨fun l hb hlt=>?_,fun x hx=>a2 x (by rw [<- hfly]; exact hx),fun l d hd hd0 h2 hlt h5=>?_⟩
    ·rw [(b l).2.1] at hb; rw [(b l).1] at hlt
     have:=a1 l hb hlt
     rw [hmem]
     split
     ·rename_i e; subst e; exact Int.le_trans this (up _)
     ·exact this
    ·rcases hset l d hd with ⟨e1,e2⟩ | ⟨e1,e2⟩
     ·subst e2
      rw [hf.2.2.2] at hlt
      rw [hf.1,r6] at h5
      have:=a1 i s1 hlt
      rw [hver]
      rw [hf.2.1,r5] at h2
      unfold Uo
      rw [if_neg (show ¬ (g.mem i).op=1 by omega),h5]
      exact this
     ·exact a3 l d e2 hd0 h2 hlt h5
 ·intro l1 l2' d e hd he h0 h1 h2 h5 hlt
  rcases hset l1 d hd with ⟨u1,u2⟩ | ⟨u1,u2⟩
  ·subst u1; subst u2
   rcases hset l2' e he with ⟨v1,v2⟩ | ⟨v1,v2⟩
   ·subst v1; omega
   ·rw [hf.1,r6] at h5
    rw [hf.2.1,r5] at h2
    obtain ⟨d1,d2,d3,d4,d5,d6,d7⟩:=hdn l2' e v2 h1
    have:=f1 l2' e v2 h1 i s1 (by omega)
    rw [hver]
    unfold Uo
    rw [if_neg (show ¬ (g.mem i).op=1 by omega),h5]
    exact this
  ·rcases hset l2' e he with ⟨v1,v2⟩ | ⟨v1,v2⟩
   ·subst v1; subst v2
    rw [hf.1,r6] at h5
    obtain ⟨d1,d2,d3,d4,d5,d6,d7⟩:=hdn l1 d u2 h0
    rw [hver]
    by_cases hlt2:(g.mem i).ep<d.ep
    ·exact b3 l1 d u2 h0 h2 hlt2 h5
    ·exfalso
     obtain ⟨e',n,x1,x2,x3,x4,x5,x6⟩:=hst l1 (by omega)
     have hee:e'=(g.mem i).ep:=by omega
     subst hee
     rw [l2] at x6
     have:=(x6 rfl s2).2
     omega
   ·exact fr l1 l2' d e u2 v2 h0 h1 h2 h5 hlt
 ·intro l d hd hd0
  rcases hset l d hd with ⟨u1,u2⟩ | ⟨u1,u2⟩
  ·subst u1; subst u2
   rw [hver,hf.2.1,r5]
   unfold Uo
   split
   ·rename_i q
    rw [r8]; exact ⟨Int.le_refl _,fun _=>rfl⟩
   ·rename_i q
    refine ⟨?_,fun h=>absurd h q⟩
    rw [qR,r3,t3]
    have hcnt:=hia.cnt i
    have hpos:=hia.pos i
    rcases dx (g.mem i).items (g.mem i).ti.1 with z | z
    ·rw [z]; show (0:Int)<=_; omega
    ·exact hown _ z.1
  ·exact vs l d u2 hd0
 ·intro j y hy
  rw [hmem] at hy
  split at hy
  ·exact hp y (hmp y hy)
  ·exact hp y (pm j y hy)
 ·intro x hx y hy
  rw [hfly] at hx
  exact hp y (px x hx y hy)
 ·intro j hoj
  rw [hmem] at hoj ⊢
  split
  ·rename_i e; rw [if_pos e] at hoj; exact absurd hoj (by decide:¬ (0:Int)=1)
  ·rename_i e; rw [if_neg e] at hoj; exact hp _ (pt j hoj)
 ·intro l d hd hd0 h2
  rcases hset l d hd with ⟨u1,u2⟩ | ⟨u1,u2⟩
  ·subst u1; subst u2
   have hop:(g.mem i).op≠1:=by rw [hf.2.1,r5] at h2; omega
   have hgot:d.got=(BB (g.mem i).items (g.mem i).ti.1).2.1/\d.ver=(BB (g.mem i).items (g.mem i).ti.1).2.2:=by
    rw [<- hC]
    unfold O6 nR
    rw [hf.2.1] at h2
    dsimp only
    rw [if_pos h2,if_neg hop]
    exact ⟨rfl,rfl⟩
   rcases dx (g.mem i).items (g.mem i).ti.1 with z | z
   ·left
    rw [hgot.1,hgot.2,z]
    exact ⟨rfl,rfl⟩
   ·right
    exact ⟨_,hp _ (pm i _ z.1),by rw [hf.1,r6]; exact z.2,hgot.2,hgot.1⟩
  ·exact (gt l d u2 hd0 h2).imp id fun ⟨y,q,r⟩=>⟨y,hp y q,r⟩
end

theorem IA.call {V nv g} {c:PC} (h:IA V nv g):IA V nv { g with calls:=g.calls++[c] }:=⟨h.1,h.2,h.3,h.4,h.5,h.6,h.7⟩
theorem IB.call {V g} {c:PC} (h:IB V g):IB V { g with calls:=g.calls++[c] }:=⟨h.mem,h.fly⟩
theorem IZ.call {V g vr} {c:PC} (h:IZ V g vr):IZ V { g with calls:=g.calls++[c] } vr:=⟨h.w1,h.w2,h.w3,h.z1,h.z2⟩
theorem IE.call {V g} {c:PC} (h:IE V g):IE V { g with calls:=g.calls++[c] }:=⟨h.ok,h.okx,h.e1,h.e2,h.e3,h.e4,h.e5⟩
structure nS (V:Int->List Int) (nv:Int) (g:PG) (vr:Nat->Int) (now:Int):Prop where
 a:IA V nv g
 b:IB V g
 t:IT V g vr now
 z:IZ V g vr
 e:IE V g
 f:IF V g vr
theorem nS.mstep {V nv g i m T vr now} (h:nS V nv g vr now) (hv:∀ e,1<=e->e<=nv->CO V e∈V e) (hs:CP V nv g i m T):nS V nv (g.set i m T) vr now :=
 ⟨h.a.step hv hs,h.b.step h.a hv hs,h.t.mstep h.a hs,h.z.mstep h.a hs,h.e.mstep h.a h.z hs,h.f.mstep h.a h.t h.z h.e hs⟩
theorem nS.drop {V nv g vr now f} (h:nS V nv g vr now) (hf:∀ x∈f,x∈g.fly):nS V nv { g with fly:=f } vr now :=
 ⟨h.a.drop,h.b.drop hf,h.t.drop hf,h.z.drop hf,h.e.drop hf,h.f.drop hf⟩
theorem nS.later {V nv g vr now n} (h:nS V nv g vr now) (hn:now<=n):nS V nv g vr n:=⟨h.a,h.b,h.t.later hn,h.z,h.e,h.f⟩
theorem nS.call {V nv g vr now} {c:PC} (h:nS V nv g vr now) (h1:c.done=-1) (h2:c.wen=now):nS V nv { g with calls:=g.calls++[c] } vr now :=
 ⟨h.a.call,h.b.call,h.t.call h1 h2,h.z.call,h.e.call,h.f.call h1⟩
theorem nS.start {V nv g vr now i c L a T} (h:nS V nv g vr now) (h1:c.done=-1) (h2:c.wen=now) (h3:(g.mem i).serves=true) (h4:(g.mem i).op=0) (h5:c.op=1\/c.op=2) (h6:(g.mem i).cnt<900) (hL:∀ k,k∈L↔k∈V (g.mem i).ep/\k≠i) (hA:a=(c.key,c.val,1000*(g.mem i).ep+((g.mem i).cnt+1))) (hp:c.op=1->BB (Ai (g.mem i).items a) a.1=a) (hone:Ap [a]=true)
  (hT:∀ y∈T,(y.kind=5/\c.op=1/\y.items=[a]\/y.kind=7/\c.op=2/\y.items=[])/\y.ep=(g.mem i).ep/\y.num=(g.mem i).cnt+1/\y.frm=i):nS V nv (BY g i c L a T) (ua g i vr) now :=
 ⟨h.a.start h3 h5,h.b.start fun y hy=>(by have:=(hT y hy).1; omega),h.t.start h.a h.b h1 h2 h3 h4 h5 h6 hL hA fun y hy=>(by
  obtain ⟨q1,q2,q3,q4⟩:=hT y hy
  exact ⟨q1.imp id fun q=>⟨q.1,q.2.1⟩,q2,q3,q4⟩),h.z.start h.a h.t.out h3 h6 fun y hy=>(by obtain ⟨q1,q2,q3,q4⟩:=hT y hy; exact ⟨by omega,q2⟩),
  h.e.start h.a h.t h3 h4 h5 hL hA hp hone hT,h.f.start h.a h.b h.t h1 h3 h4 hL hA hT⟩
theorem nS.fin {V nv g vr now i} (h:nS V nv g vr now) (hn:0<=now) (ho:(g.mem i).op≠0) (hl:(g.mem i).left=[]) (hown:∀ y∈(g.mem i).items,y.2.2<=1000*(g.mem i).ep+(g.mem i).cnt):∃ (k:Nat) (c:PC),(g.mem i).call=(k:Int)/\g.calls[k]? = some c/\c.done<0/\nS V nv (Lt g i k c now) vr now:=by
 obtain ⟨k,c,q1,q2,q3,q4,q5⟩:=h.t.act i ho
 exact ⟨k,c,q1,q2,q4,h.a.fin,h.b.fin,h.t.fin h.a h.b ho hl q1 q2,h.z.fin,h.e.fin h.a ho hl,h.f.fin h.a h.t h.e hn ho hl q1 q2 hown⟩
def pm (m:AA):PM:=⟨m.2.1,m.2.2.1,m.2.2.2.1,m.2.2.2.2.1,m.2.2.2.2.2.1,m.2.2.2.2.2.2.1,m.2.2.2.2.2.2.2.1,m.2.2.2.2.2.2.2.2.1,m.2.2.2.2.2.2.2.2.2.1,m.2.2.2.2.2.2.2.2.2.2.1,m.2.2.2.2.2.2.2.2.2.2.2.1,m.2.2.2.2.2.2.2.2.2.2.2.2.1,m.2.2.2.2.2.2.2.2.2.2.2.2.2⟩
def px (x:BK):PX:=⟨x.1,x.2.1,x.2.2.1,x.2.2.2.1,x.2.2.2.2.1,x.2.2.2.2.2⟩
def pc (c:H5):PC:=⟨c.1,c.2.1,c.2.2.1,c.2.2.2.1,c.2.2.2.2.1,c.2.2.2.2.2.1,c.2.2.2.2.2.2.1,c.2.2.2.2.2.2.2.1,c.2.2.2.2.2.2.2.2⟩
def gS:PM:=⟨1,false,false,false,false,[],[],0,0,0,0,(ByteArray.empty,ByteArray.empty,0),[]⟩
def pg (g:Ab):PG:=⟨fun i=>if 1<=i/\i<=6 then pm (BS g (i-1).toNat) else gS,g.2.2.1.map px,g.2.2.2.map pc⟩
def vw (views:List (List Int)) (e:Int):List Int:=views.getD (e-1).toNat []
theorem pM (views:List (List Int)) (e:Int):CO (vw views) e=R0 views e:=rfl
theorem uS {views:List (List Int)} (hv:QK views):∀ e,1<=e->e<=(views.length:Int)->CO (vw views) e∈vw views e:=fun e h1 h2=>by
 have:=mU hv h1 h2 rfl
 rw [List.contains_iff_mem] at this
 exact this
theorem SH {g:Ab} {i:Int} (h:1<=i/\i<=6):(pg g).mem i=pm (BS g (i-1).toNat):=if_pos h
theorem PG.same {a b:PG} (h1:∀ i,a.mem i=b.mem i) (h2:a.fly=b.fly) (h3:a.calls=b.calls):a=b:=by
 cases a; cases b
 simp only at h1 h2 h3
 rw [h2,h3,show _=_ from funext h1]
theorem gT {g:Ab} {n:AA} {told:List BK} {said:List Cn} {at_:Int} {i:Int} (h6:g.2.1.length=6) (hi:1<=i/\i<=6) (hn:n.1=i) (j:Int):(pg (BG g n told said at_)).mem j=if j=i then pm n else (pg g).mem j:=by
 by_cases hj:1<=j/\j<=6
 ·rw [SH hj,mS h6 (show (j-1).toNat<6 by omega) (show n.1=(((i-1).toNat:Nat):Int)+1 by omega) (show (i-1).toNat<6 by omega)]
  by_cases e:j=i
  ·rw [if_pos (by omega),if_pos e]
  ·rw [if_neg (by omega),if_neg e,SH hj]
 ·rw [if_neg (by omega)]
  show (if _ then _ else _)=(if _ then _ else _)
  rw [if_neg hj,if_neg hj]
theorem jw {g:Ab} {n:AA} {told:List BK} {at_:Int} {i:Int} (h6:g.2.1.length=6) (hi:1<=i/\i<=6) (hn:n.1=i):pg (BG g n told [] at_)=(pg g).set i (pm n) (told.map px) :=
 PG.same (gT h6 hi hn) (by show (g.2.2.1++told).map px=g.2.2.1.map px++told.map px; rw [List.map_append]) rfl
theorem w_ {cs:List H5} {k:Nat} {c:PC} (h:(cs.map pc)[k]? = some c):k<cs.length/\c=pc (cs.getD k EB):=by
 rw [List.getElem?_map] at h
 cases q:cs[k]? with
 | none=>rw [q] at h; cases h
 | some d =>
  rw [q] at h
  cases h
  obtain ⟨hk,e⟩:=List.getElem?_eq_some_iff.1 q
  exact ⟨hk,by rw [AU hk,e]⟩
theorem vu {at_:Int} {m:AA} {c:H5} {s:Cn} (hs:s=(m.2.2.2.2.2.2.2.2.2.2.1,m.2.1,m.2.2.2.2.2.2.2.2.2.2.2.1,nR (pm m))):pc (QN at_ s c)=O6 (pm m) (pc c) at_:=by
 subst hs
 have:(if (c.1==2)=true then (nR (pm m)).2.1 else c.2.2.2.2.2.2.2.2)=if c.1=2 then (nR (pm m)).2.1 else c.2.2.2.2.2.2.2.2:=by
  by_cases h:c.1=2
  ·rw [if_pos h,if_pos (by simpa using h)]
  ·rw [if_neg h,if_neg (by simpa using h)]
 unfold QN pc O6
 dsimp only
 rw [this]
 rfl
theorem mg (m:AA):(Bm m).1=[(m.2.2.2.2.2.2.2.2.2.2.1,m.2.1,m.2.2.2.2.2.2.2.2.2.2.2.1,nR (pm m))]/\pm (Bm m).2=Un (pm m)/\(Bm m).2.1=m.1:=by
 unfold Bm
 by_cases h:m.2.2.2.2.2.2.2.2.2.1=1
 ·rw [if_pos (by simpa using h)]
  have h1:nR (pm m)=m.2.2.2.2.2.2.2.2.2.2.2.2.1:=if_pos h
  have h2:(Un (pm m))=pm (Mv m (Ai m.2.2.2.2.2.2.2.1 m.2.2.2.2.2.2.2.2.2.2.2.2.1)):=by
   unfold Un
   rw [if_pos (show (pm m).op=1 from h)]
   rfl
  rw [h1,h2]
  exact ⟨rfl,rfl,rfl⟩
 ·rw [if_neg (by simpa using h)]
  have h1:nR (pm m)=BB m.2.2.2.2.2.2.2.1 m.2.2.2.2.2.2.2.2.2.2.2.2.1.1:=if_neg h
  have h2:(Un (pm m))=pm (Mv m m.2.2.2.2.2.2.2.1):=by
   unfold Un
   rw [if_neg (show ¬ (pm m).op=1 from h)]
   rfl
  rw [h1,h2]
  exact ⟨rfl,rfl,rfl⟩
theorem xA {g:Ab} {m:AA} {at_:Int} {i:Int} {k:Nat} {c:PC} (h6:g.2.1.length=6) (hi:1<=i/\i<=6) (hm:m.1=i) (hp:(pg g).mem i=pm m) (hc:(pm m).call=(k:Int)) (hk:(pg g).calls[k]? = some c) (hd:c.done<0) :
  pg (BG g (Bm m).2 [] (Bm m).1 at_)=Lt (pg g) i k c at_:=by
 obtain ⟨f1,f2,f3⟩:=mg m
 obtain ⟨k1,k2⟩:=w_ hk
 refine PG.same (fun j=>?_) ?_ ?_
 ·rw [gT h6 hi (by rw [f3,hm]),dv,hp,f2]
 ·rw [dw]
  show (g.2.2.1++[]).map px=_
  rw [List.append_nil]; rfl
 ·show (((Bm m).1).foldl (Hj at_) g.2.2.2).map pc=(g.2.2.2.map pc).set k (O6 ((pg g).mem i) c at_)
  have hc':m.2.2.2.2.2.2.2.2.2.2.1=(k:Int):=hc
  rw [f1,List.foldl_cons,List.foldl_nil,hp,k2,<- vu rfl,<- List.map_set]
  congr 1
  unfold Hj
  dsimp only
  rw [hc',Int.toNat_natCast,if_neg]
  rw [k2] at hd
  change (g.2.2.2.getD k EB).2.2.2.2.1<0 at hd
  rw [Bool.or_eq_true,decide_eq_true_eq,decide_eq_true_eq]
  omega
theorem ar {view:List Int} {id:Int} (hv:sv view) (k:Int):k∈DE view id↔k∈view/\k≠id:=by
 rw [mW hv]
 unfold Bu
 rw [List.mem_filter]
 simp
theorem vv {α:Type} (l:List α):(((l.length:Int))==0)=l.isEmpty:=by
 cases l with
 | nil=>rfl
 | cons a l=>rw [List.isEmpty_cons,beq_eq_false_iff_ne,List.length_cons]; omega
inductive qT (V:Int->List Int) (nv:Int) (g:PG) (m:AA):AA×List BK×List Cn->Prop
 | none:qT V nv g m (m,[],[])
 | step (n:AA) (T:List BK) (h:CP V nv g m.1 (pm n) (T.map px)):qT V nv g m (n,T,[])
 | done (n:AA) (h:CP V nv g m.1 (pm n) []) (h1:n.1=m.1) (h2:n.2.2.2.2.2.2.2.2.2.1≠0) (h3:n.2.2.2.2.2.2.2.2.2.2.2.2.2=[]) (h4:n.2.2.2.2.2.2.2.1=m.2.2.2.2.2.2.2.1/\n.2.1=m.2.1/\n.2.2.2.2.2.2.2.2.1=m.2.2.2.2.2.2.2.2.1/\n.2.2.2.1=m.2.2.2.1/\n.2.2.2.2.1=m.2.2.2.2.1):qT V nv g m ((Bm n).2,[],(Bm n).1)
theorem uT {views:List (List Int)} {m:AA} {x:BK} {g:PG} (hv:QK views) (hm:Ih m) (h:V1 views m) (hx:V2 views x) (hxo:sn x) (hlen:m.2.1<=(views.length:Int)) (ht:x.2.2.1=m.1) (he:x.2.2.2.1=m.2.1) (hp:g.mem m.1=pm m) (hin:px x∈g.fly) :
  qT (vw views) (views.length:Int) g m (YI m (views.getD (m.2.1-1).toNat []) x):=by
 have hw:=hv.wok (i:=(m.2.1-1).toNat) (by have:=hm.ep; omega)
 unfold YI
 by_cases k2:x.1=2
 ·rw [if_pos k2]
  split
  ·rename_i hc
   simp only [Bool.and_eq_true,Bool.not_eq_true'] at hc
   refine .step _ _ ?_
   have:=CP.stat (V:=vw views) (nv:=(views.length:Int)) (g:=g) (i:=m.1) (px x) hin k2 (by rw [hp]; exact he) (by rw [hp]; exact hc.1) (by rw [hp]; exact hc.2) (DE (views.getD (m.2.1-1).toNat []) m.1) (fun k=>by
     rw [ar hw]
     show _↔k∈views.getD (x.2.2.2.1-1).toNat []/\_
     rw [he])
    (((Bu (views.getD (m.2.1-1).toNat []) m.1).map (fun v=>((3:Int),m.1,v,m.2.1,(0:Int),x.2.2.2.2.2))).map px) (fun y hy=>by
     obtain ⟨z,hz,rfl⟩:=List.mem_map.1 hy
     obtain ⟨v,_,rfl⟩:=List.mem_map.1 hz
     exact ⟨rfl,he.symm,rfl,rfl⟩)
   rw [hp] at this
   unfold QV
   rw [vv]
   exact this
  ·exact .none
 rw [if_neg k2]
 by_cases k3:x.1=3
 ·rw [if_pos k3]
  split
  ·exact .none
  ·rename_i hc
   split
   ·exact .none
   ·rename_i hc2
    split
    ·rename_i hb
     refine .step _ _ ?_
     have:=CP.again (V:=vw views) (nv:=(views.length:Int)) (g:=g) (i:=m.1) (px x) hin k3 (by rw [hp]; exact he.symm) (by rw [hp]; exact hb)
     rw [hp] at this
     exact this
    ·rename_i hb
     have hb':m.2.2.2.1=false:=by simpa using hb
     have hf':m.2.2.1=false:=by
      rw [hb'] at hc2
      simpa using hc2
     have hcc:(views.getD (m.2.1-1).toNat []).contains m.1=true/\(views.getD (m.2.1-1).toNat []).getD 0 0≠m.1:=by
      cases q1:(views.getD (m.2.1-1).toNat []).contains m.1 with
      | false=>rw [q1] at hc; exact absurd rfl hc
      | true =>
       rw [q1] at hc
       exact ⟨rfl,fun e=>hc (by rw [e]; simp)⟩
     refine .step _ _ ?_
     have:=CP.inst (V:=vw views) (nv:=(views.length:Int)) (g:=g) (i:=m.1) (px x) hin k3 (.inr (by rw [hp]; exact ⟨he.symm,hb',hf'⟩))
      (by show _∈views.getD (x.2.2.2.1-1).toNat []; rw [he]; exact List.contains_iff_mem.1 hcc.1) (by rw [pM]; show R0 views x.2.2.2.1≠_; rw [he]; exact hcc.2) (by show x.2.2.2.1<=_; omega)
     rw [hp] at this
     rw [<- he]
     exact this
 rw [if_neg k3]
 by_cases k4:x.1=4
 ·rw [if_pos k4]
  split
  ·rename_i hl
   refine .step _ _ ?_
   have:=CP.told (V:=vw views) (nv:=(views.length:Int)) (g:=g) (i:=m.1) (px x) hin k4 (by rw [hp]; exact he.symm) (by rw [hp]; exact hl)
   rw [hp] at this
   rw [vv]
   exact this
  ·exact .none
 rw [if_neg k4]
 by_cases k5:x.1=5
 ·rw [if_pos k5]
  split
  ·rename_i hb
   refine .step _ _ ?_
   obtain ⟨s1,s2⟩:=hx.store k5
   have hlen:x.2.2.2.2.2.length=1:=by
    have:=hxo.shape
    rw [if_neg (by omega),if_pos k5] at this
    exact this
   have:=CP.store (V:=vw views) (nv:=(views.length:Int)) (g:=g) (i:=m.1) (px x) hin k5 (by rw [hp]; exact he.symm) (by rw [hp]; exact hb) (by rw [pM,<- ht]; exact s1) (x.2.2.2.2.2.getD 0 (ByteArray.empty,ByteArray.empty,(0:Int))) (by
    show x.2.2.2.2.2=_
    match x.2.2.2.2.2,hlen with
    | [a],_=>rfl)
   rw [hp] at this
   exact this
  ·exact .none
 rw [if_neg k5]
 by_cases k7:x.1=7
 ·rw [if_pos k7]
  split
  ·rename_i hb
   refine .step _ _ ?_
   have:=CP.sure (V:=vw views) (nv:=(views.length:Int)) (g:=g) (i:=m.1) (px x) hin k7 (by rw [hp]; exact he.symm) (by rw [hp]; exact hb)
   rw [hp] at this
   exact this
  ·exact .none
 rw [if_neg k7]
 by_cases hc:(x.1=6\/x.1=8)/\m.2.2.2.2.2.2.2.2.2.1=(if x.1=8 then 2 else 1)/\m.2.2.2.2.2.2.2.2.2.2.2.1=x.2.2.2.2.1
 ·rw [if_pos hc]
  have hs:CP (vw views) (views.length:Int) g m.1 (pm (nt m x.2.1)) []:=by
   have:=CP.less (V:=vw views) (nv:=(views.length:Int)) (g:=g) (i:=m.1) (px x) hin (by
    rw [hp]
    show (m.2.2.2.2.2.2.2.2.2.1=1/\x.1=6)\/(m.2.2.2.2.2.2.2.2.2.1=2/\x.1=8)
    have h2:=hc.2.1
    rcases hc.1 with q | q
    ·rw [if_neg (by omega)] at h2; exact .inl ⟨h2,q⟩
    ·rw [if_pos q] at h2; exact .inr ⟨h2,q⟩) (by rw [hp]; exact he.symm) (by rw [hp]; exact hc.2.2)
   rw [hp] at this
   exact this
  have h0:m.2.2.2.2.2.2.2.2.2.1≠0:=by have:=hc.2.1; split at this<;>omega
  unfold Ft
  split
  ·rename_i hl
   rw [vv,List.isEmpty_iff] at hl
   exact .done _ hs rfl h0 hl ⟨rfl,rfl,rfl,rfl,rfl⟩
  ·exact .step _ _ hs
 ·rw [if_neg hc]
  exact .none
theorem su {views:List (List Int)} {m:AA} {x:BK} {g:PG} (hv:QK views) (hm:Ih m) (h:V1 views m) (hx:V2 views x) (hxo:sn x) (hp:g.mem m.1=pm m) (hin:px x∈g.fly) :
  qT (vw views) (views.length:Int) g m (DF m views x):=by
 unfold DF
 split
 ·rename_i hc
  simp only [Bool.and_eq_true,decide_eq_true_eq,beq_iff_eq] at hc
  obtain ⟨⟨⟨hmo,h1⟩,h2⟩,h3⟩:=hc
  split
  ·rename_i he
   exact uT hv hm h hx hxo (by omega) h1 he hp hin
  ·rename_i hne
   split
   ·rename_i hs
    simp only [Bool.and_eq_true,beq_iff_eq] at hs
    refine .step _ _ ?_
    have:=CP.closes (V:=vw views) (nv:=(views.length:Int)) (g:=g) (i:=m.1) (px x) hin (by rw [hp]; exact hs.1.1.2) (by rw [hp]; exact hs.1.2) h3
    rw [hp] at this
    exact this
   ·split
    ·rename_i hs
     simp only [Bool.and_eq_true,beq_iff_eq,bne_iff_ne] at hs
     refine .step _ _ ?_
     have:=CP.inst (V:=vw views) (nv:=(views.length:Int)) (g:=g) (i:=m.1) (px x) hin hs.1.1 (.inl (by rw [hp]; show m.2.1<x.2.2.2.1; omega)) (List.contains_iff_mem.1 hs.1.2) hs.2 h3
     rw [hp] at this
     exact this
    ·exact .none
 ·exact .none

def Er (g:Ab) (now:Int):Prop:=∃ vr,nS (vw g.1) (g.1.length:Int) (pg g) vr now
theorem Er.later {g:Ab} {n n':Int} (h:Er g n) (hn:n<=n'):Er g n':=by
 obtain ⟨vr,h⟩:=h
 exact ⟨vr,h.later hn⟩
theorem nx {g:Ab} {i:Nat}:∀ x∈(Ej g i).2.2.1,x∈g.2.2.1:=fun x hx=>by
 rcases List.mem_append.1 hx with h1 | h1
 ·exact List.mem_of_mem_take h1
 ·exact List.mem_of_mem_drop h1
theorem vz {g:Ab} {l:List BK}:pg (g.1,g.2.1,l,g.2.2.2)={ pg g with fly:=l.map px }:=rfl
theorem Er.sub {g:Ab} {l:List BK} {now:Int} (h:Er g now) (hl:∀ x∈l,x∈g.2.2.1):Er (g.1,g.2.1,l,g.2.2.2) now:=by
 obtain ⟨vr,h⟩:=h
 refine ⟨vr,?_⟩
 rw [vz]
 refine h.drop fun x hx=>?_
 obtain ⟨y,hy,rfl⟩:=List.mem_map.1 hx
 exact List.mem_map.2 ⟨y,hl y hy,rfl⟩
theorem Er.member {g:Ab} {n:AA} {told l:List BK} {at_:Int} {i:Int} (h6:g.2.1.length=6) (hi:1<=i/\i<=6) (hn:n.1=i) (h:Er (BG g n told [] at_) at_) (hl:∀ x∈l,x∈g.2.2.1):Er (BG (g.1,g.2.1,l,g.2.2.2) n told [] at_) at_:=by
 have:=Er.sub (l:=l++told) h (fun x hx=>by
  rcases List.mem_append.1 hx with q | q
  ·exact List.mem_append_left _ (hl x q)
  ·exact List.mem_append_right _ q)
 exact this
theorem Er.fin {g:Ab} {m:AA} {at_:Int} {i:Int} {vr:Nat->Int} (h6:g.2.1.length=6) (hi:1<=i/\i<=6) (hn:0<=at_) (hm:m.1=i) (hp:(pg g).mem i=pm m) (h:nS (vw g.1) (g.1.length:Int) (pg g) vr at_)
  (ho:m.2.2.2.2.2.2.2.2.2.1≠0) (hl:m.2.2.2.2.2.2.2.2.2.2.2.2.2=[]) (hown:Lr m.2.2.2.2.2.2.2.1 (1000*m.2.1+m.2.2.2.2.2.2.2.2.1)):Er (BG g (Bm m).2 [] (Bm m).1 at_) at_:=by
 obtain ⟨k,c,q1,q2,q3,q4⟩:=h.fin (i:=i) hn (by rw [hp]; exact ho) (by rw [hp]; exact hl) (by rw [hp]; exact hown)
 refine ⟨vr,?_⟩
 rw [xA h6 hi hm hp (by rw [<- hp]; exact q1) q2 q3]
 exact q4
theorem rA {g:Ab} {m:AA} {i:Nat} {at_:Int} (h6:g.2.1.length=6) (hi:i<6) (hm:BS g i=m) (hid:m.1=(i:Int)+1):BG g m [] [] at_=g:=by
 unfold BG
 rw [hid,show ((i:Int)+1-1).toNat=i by omega,List.append_nil,List.foldl_nil]
 have:g.2.1.set i m=g.2.1:=by
  rw [<- hm]
  unfold BS
  rw [AU (show i<g.2.1.length by omega)]
  exact List.set_getElem_self _
 rw [this]
theorem Er.deliver {g:Ab} {k:Nat} {at_:Int} {j:Nat} (hg:Lu g k) (h3:V3 g) (h:Er g at_) (ha:0<=at_) (hj:j<g.2.2.1.length):Er (dt g j at_) at_:=by
 have hmem:g.2.2.1.getD j DH∈g.2.2.1:=by rw [AU hj]; exact List.getElem_mem _
 have hx:=hg.fly _ hmem
 have hx2:=h3.fly _ hmem
 have hto:=hx.to
 unfold dt
 generalize g.2.2.1.getD j DH=x at *
 obtain ⟨m1,m2⟩:=hg.mem (x.2.2.1-1).toNat (by omega)
 have hv1:=h3.mem (x.2.2.1-1).toNat (by omega)
 have hid:(BS g (x.2.2.1-1).toNat).1=x.2.2.1:=by rw [m2]; omega
 have hp:(pg g).mem (BS g (x.2.2.1-1).toNat).1=pm (BS g (x.2.2.1-1).toNat):=by rw [hid,SH hto]
 have hs:=su (g:=pg g) hg.views m1 hv1 hx2 hx hp (List.mem_map.2 ⟨x,hmem,rfl⟩)
 have hids:(DF (BS g (x.2.2.1-1).toNat) g.1 x).1.1=x.2.2.1:=by rw [(T2 (x:=x) m1 hg.views).id,hid]
 have hvw:=uS hg.views
 have h6:=hg.six
 have hsub:=nx (g:=g) (i:=j)
 obtain ⟨vr,hall⟩:=h
 generalize hr:DF (BS g (x.2.2.1-1).toNat) g.1 x=r at *
 clear hr
 cases hs with
 | none =>
  refine Er.member (l:=(Ej g j).2.2.1) h6 hto hid ?_ hsub
  rw [rA h6 (show (x.2.2.1-1).toNat<6 by omega) rfl m2]
  exact ⟨vr,hall⟩
 | step n T hs =>
  refine Er.member (l:=(Ej g j).2.2.1) h6 hto hids ⟨vr,?_⟩ hsub
  rw [jw h6 hto hids]
  rw [hid] at hs
  exact hall.mstep hvw hs
 | done n hs h1 h2 h3' h4 =>
  have hn:n.1=x.2.2.1:=by rw [h1,hid]
  have hstep:Er (BG (Ej g j) n [] [] at_) at_:=Er.member (l:=(Ej g j).2.2.1) h6 hto hn ⟨vr,by
   rw [jw h6 hto hn]
   rw [hid] at hs
   exact hall.mstep hvw hs⟩ hsub
  obtain ⟨vr2,hall2⟩:=hstep
  have hlead:n.2.2.2.2.1=true/\n.2.2.2.1=true:=by
   have hp2:(pg (BG (Ej g j) n [] [] at_)).mem x.2.2.1=pm n:=by rw [gT (g:=Ej g j) (show (Ej g j).2.1.length=6 from h6) hto hn,if_pos rfl]
   have t:=hall2.a.task x.2.2.1 (by rw [hp2]; exact h2)
   have s:=hall2.a.serv x.2.2.1 t.1
   rw [hp2] at s
   exact ⟨s.2.1,s.1⟩
  have hfin:=Er.fin (g:=BG (Ej g j) n [] [] at_) (m:=n) (at_:=at_) (i:=x.2.2.1) (vr:=vr2) (by show (List.set _ _ _).length=6; rw [List.length_set]; exact h6) hto ha hn (by rw [gT (g:=Ej g j) (show (Ej g j).2.1.length=6 from h6) hto hn,if_pos rfl]) hall2 h2 h3' (by
   rw [h4.1,h4.2.1,h4.2.2.1]
   exact hv1.own (by rw [<- h4.2.2.2.2]; exact hlead.1) (by rw [<- h4.2.2.2.1]; exact hlead.2))
  have e:BG (BG (Ej g j) n [] [] at_) (Bm n).2 [] (Bm n).1 at_=BG (Ej g j) (Bm n).2 [] (Bm n).1 at_:=by
   unfold BG
   dsimp only
   rw [(mg n).2.2,List.set_set,List.append_nil,List.append_nil,List.foldl_nil]
  rw [<- e]
  exact hfin
theorem Er.adopt {g:Ab} {k:Nat} {at_ node:Int} (hg:Lu g k) (h:Er g at_) (hn:1<=node/\node<=6):∀ (n:Nat) (e:Int),Er (H6 g at_ (BS g (node-1).toNat) node n e).2 at_
 | 0,_=>h
 | n+1,e=>by
  unfold H6
  split
  ·exact Er.adopt hg h hn n (e+1)
  ·split
   ·rename_i hb
    obtain ⟨m1,m2⟩:=hg.mem (node-1).toNat (by omega)
    have hid:(BS g (node-1).toNat).1=node:=by rw [m2]; omega
    have hids:(EV (BS g (node-1).toNat) g.1 e).1.1=node:=by rw [(T3 (e:=e) m1 hg.views hb).2.1,hid]
    obtain ⟨vr,hall⟩:=h
    refine ⟨vr,?_⟩
    rw [jw hg.six hn hids]
    refine hall.mstep (uS hg.views) ?_
    have hp:(pg g).mem node=pm (BS g (node-1).toNat):=SH hn
    generalize BS g (node-1).toNat=m at *
    unfold EV at hb ⊢
    split at hb
    ·rename_i hc
     rw [if_pos hc]
     have hw:=hg.views.wok (i:=(e-1).toNat) (by omega)
     split
     ·rename_i h2
      simp only [Bool.and_eq_true,beq_iff_eq] at h2
      have:=CP.had (V:=vw g.1) (nv:=(g.1.length:Int)) (g:=pg g) (i:=node) e (by rw [hp]; show e=m.2.1+1; omega) (by rw [hp]; exact h2.1.1) (by rw [pM,<- hid]; exact hc.2.2.2) hc.2.1 (DE (g.1.getD (e-1).toNat []) m.1) (fun k=>by rw [ar hw,hid]; exact Iff.rfl)
       (((Bu (g.1.getD (e-1).toNat []) m.1).map (fun v=>((3:Int),m.1,v,e,(0:Int),m.2.2.2.2.2.2.2.1))).map px) (fun y hy=>by
        obtain ⟨z,hz,rfl⟩:=List.mem_map.1 hy
        obtain ⟨v,_,rfl⟩:=List.mem_map.1 hz
        exact ⟨rfl,rfl,by rw [hp]; rfl,hid⟩)
      rw [hp] at this
      unfold QV
      rw [vv]
      exact this
     ·have:=CP.took (V:=vw g.1) (nv:=(g.1.length:Int)) (g:=pg g) (i:=node) e (by rw [hp]; exact hc.2.2.1) (by rw [pM,<- hid]; exact hc.2.2.2) hc.2.1 (((Bu (g.1.getD (e-2).toNat []) m.1).map (fun v=>((1:Int),m.1,v,e,(0:Int),([]:List AL)))).map px) (fun y hy=>by
        obtain ⟨z,hz,rfl⟩:=List.mem_map.1 hy
        obtain ⟨v,_,rfl⟩:=List.mem_map.1 hz
        exact ⟨rfl,rfl,rfl⟩)
      rw [hp] at this
      exact this
    ·cases hb
   ·exact h
theorem Er.fall {g:Ab} {k:Nat} {at_ node:Int} (hg:Lu g k) (h:Er g at_) (hn:1<=node/\node<=6):Er (BG g (T4 (BS g (node-1).toNat)) [] [] at_) at_:=by
 obtain ⟨m1,m2⟩:=hg.mem (node-1).toNat (by omega)
 obtain ⟨vr,hall⟩:=h
 refine ⟨vr,?_⟩
 rw [jw hg.six hn (by show (BS g (node-1).toNat).1=node; rw [m2]; omega)]
 have:=CP.fall (V:=vw g.1) (nv:=(g.1.length:Int)) (g:=pg g) (i:=node)
 rw [SH hn] at this
 exact hall.mstep (uS hg.views) this
theorem Er.begin {g:Ab} {k:Nat} {at_:Int} {e:Df} (hg:Lu g k) (h3:V3 g) (h:Er g at_) (ha:0<=at_) (hn:1<=e.2.1/\e.2.1<=6):Er (I2 g at_ e).2 at_:=by
 obtain ⟨vr,hall⟩:=h
 unfold I2
 split
 ·rename_i hb
  obtain ⟨m1,m2⟩:=hg.mem (e.2.1-1).toNat (by omega)
  have hv1:=h3.mem (e.2.1-1).toNat (by omega)
  have hid:(BS g (e.2.1-1).toNat).1=e.2.1:=by rw [m2]; omega
  have hp:(pg g).mem e.2.1=pm (BS g (e.2.1-1).toNat):=SH hn
  have h6:(Gf g at_ e).2.1.length=6:=hg.six
  generalize BS g (e.2.1-1).toNat=m at *
  unfold DG at hb ⊢
  split at hb
  case isFalse=>cases hb
  rename_i hmay
  rw [if_pos hmay]
  split at hb
  case isTrue=>cases hb
  rename_i hput
  rw [if_neg hput]
  obtain ⟨s1,s2,s3,s4,s5,s6,s7,s8,s9,s10⟩:=Yg hmay
  have hok:=mR (key:=e.2.2.2.2.1) (val:=e.2.2.2.2.2) m1 s3 s6 s7
  have hone:=(Cd.1 hok).1 _ (List.mem_singleton.2 rfl)
  have hser:=m1.serves s1
  have hown:=hv1.own hser.2.1 hser.1
  have hcnt:=m1.count
  have hep:=m1.ep
  have hw:=hg.views.wok (i:=(m.2.1-1).toNat) (by omega)
  have hL:∀ k,k∈DE (g.1.getD (m.2.1-1).toNat []) m.1↔k∈vw g.1 ((pg g).mem e.2.1).ep/\k≠e.2.1:=fun k=>by
   rw [ar hw,hp,hid]; exact Iff.rfl
  have hpp:e.2.2.2.1=1->BB (Ai ((pg g).mem e.2.1).items (Fv m e.2.2.2.2.1 e.2.2.2.2.2)) (Fv m e.2.2.2.2.1 e.2.2.2.2.2).1=Fv m e.2.2.2.2.1 e.2.2.2.2.2:=fun ho=>by
   rw [hp]
   show BB (Ai m.2.2.2.2.2.2.2.1 _) _=_
   have hvl:Lr m.2.2.2.2.2.2.2.1 ((Fv m e.2.2.2.2.1 e.2.2.2.2.2).2.2-1):=hown.mono (by show _<=1000*m.2.1+(m.2.2.2.2.2.2.2.2.1+1)-1; omega)
   have hr:=mb m1.items hone hvl
   have hpn:=rm m1.items hone hvl
   rw [hpn]
   by_cases hf:m.2.2.2.2.2.2.2.1.length=12/\H8 m.2.2.2.2.2.2.2.1 (Fv m e.2.2.2.2.1 e.2.2.2.2.2).1=false
   ·exfalso
    refine hput ⟨ho,?_⟩
    rw [hf.2,decide_eq_true hf.1] at hr
    exact hr
   ·rw [if_neg hf]
    exact Mu (aZ _ (Cd.1 m1.items).2.1) mN
  have hst:∀ (T:List BK),(∀ y∈T.map px,(y.kind=5/\e.2.2.2.1=1/\y.items=[Fv m e.2.2.2.2.1 e.2.2.2.2.2]\/y.kind=7/\e.2.2.2.1=2/\y.items=[])/\y.ep=((pg g).mem e.2.1).ep/\y.num=((pg g).mem e.2.1).cnt+1/\y.frm=e.2.1) ->
    Er (BG (Gf g at_ e) (F4 m (g.1.getD (m.2.1-1).toNat []) e.2.2.2.1 (g.2.2.2.length:Int) e.2.2.2.2.1 e.2.2.2.2.2) T [] at_) at_:=fun T hT=>by
   have:=hall.start (i:=e.2.1) (c:=pc (e.2.2.2.1,e.2.2.2.2.1,e.2.2.2.2.2,at_,-1,0,0,0,ByteArray.empty)) (L:=DE (g.1.getD (m.2.1-1).toNat []) m.1) (a:=Fv m e.2.2.2.2.1 e.2.2.2.2.2) (T:=T.map px) rfl rfl (by rw [hp]; exact s1) (by rw [hp]; exact s2) s4 (by rw [hp]; exact s3) hL (by rw [hp]; rfl) hpp hok hT
   refine ⟨ua (pg g) e.2.1 vr,?_⟩
   have e2:pg (BG (Gf g at_ e) (F4 m (g.1.getD (m.2.1-1).toNat []) e.2.2.2.1 (g.2.2.2.length:Int) e.2.2.2.2.1 e.2.2.2.2.2) T [] at_)=BY (pg g) e.2.1 (pc (e.2.2.2.1,e.2.2.2.2.1,e.2.2.2.2.2,at_,-1,0,0,0,ByteArray.empty)) (DE (g.1.getD (m.2.1-1).toNat []) m.1) (Fv m e.2.2.2.2.1 e.2.2.2.2.2) (T.map px):=by
    refine PG.same (fun j=>?_) ?_ ?_
    ·rw [gT (g:=Gf g at_ e) h6 hn (show (F4 m _ _ _ _ _).1=e.2.1 from hid)]
     show _=if j=e.2.1 then OB (pg g) e.2.1 _ _ _ else _
     unfold OB
     rw [hp]
     have:(pg g).calls.length=g.2.2.2.length:=List.length_map _
     rw [this]
     rfl
    ·show (g.2.2.1++T).map px=g.2.2.1.map px++T.map px
     rw [List.map_append]
    ·show (g.2.2.2++[_]).map pc=g.2.2.2.map pc++[_]
     rw [List.map_append]; rfl
   rw [e2]
   exact this
  unfold QM
  split
  ·rename_i hoth
   obtain ⟨vr2,hall2⟩:=hst [] (fun y hy=>by cases hy)
   have hfin:=Er.fin (g:=BG (Gf g at_ e) (F4 m (g.1.getD (m.2.1-1).toNat []) e.2.2.2.1 (g.2.2.2.length:Int) e.2.2.2.2.1 e.2.2.2.2.2) [] [] at_) (m:=F4 m (g.1.getD (m.2.1-1).toNat []) e.2.2.2.1 (g.2.2.2.length:Int) e.2.2.2.2.1 e.2.2.2.2.2) (at_:=at_) (i:=e.2.1) (vr:=vr2) (by show (List.set _ _ _).length=6; rw [List.length_set]; exact h6) hn ha hid (by rw [gT (g:=Gf g at_ e) h6 hn (show (F4 m _ _ _ _ _).1=e.2.1 from hid),if_pos rfl]) hall2 (by show e.2.2.2.1≠0; omega) hoth (hown.mono (by show _<=1000*m.2.1+(m.2.2.2.2.2.2.2.2.1+1); omega))
   have e3:∀ (n t:AA) (s:List Cn),n.1=t.1->BG (BG (Gf g at_ e) t [] [] at_) n [] s at_=BG (Gf g at_ e) n [] s at_:=fun n t s hnt=>by
    unfold BG
    dsimp only
    rw [hnt,List.set_set,List.append_nil,List.append_nil,List.foldl_nil]
   rw [e3 _ _ _ (mg _).2.2] at hfin
   exact hfin
  ·refine hst _ fun y hy=>?_
   obtain ⟨z,hz,rfl⟩:=List.mem_map.1 hy
   unfold mQ at hz
   obtain ⟨v,_,rfl⟩:=List.mem_map.1 hz
   rw [hp]
   refine ⟨?_,rfl,rfl,hid⟩
   rcases s4 with q | q
   ·rw [if_pos q,if_pos q]; exact .inl ⟨rfl,q,rfl⟩
   ·rw [if_neg (by omega),if_neg (by omega)]; exact .inr ⟨rfl,q,rfl⟩
 ·refine ⟨vr,?_⟩
  have:=hall.call (c:=pc (e.2.2.2.1,e.2.2.2.2.1,e.2.2.2.2.2,at_,-1,0,0,0,ByteArray.empty)) rfl rfl
  have e2:pg (Gf g at_ e)={ pg g with calls:=(pg g).calls++[pc (e.2.2.2.1,e.2.2.2.2.1,e.2.2.2.2.2,at_,-1,0,0,0,ByteArray.empty)] }:=by
   refine PG.same (fun j=>rfl) rfl ?_
   show (g.2.2.2++[_]).map pc=g.2.2.2.map pc++[_]
   rw [List.map_append]; rfl
  exact e2▸this
theorem Er.event {g:Ab} {k:Nat} (hg:Lu g k) (h3:V3 g) {at_:Int} (h:Er g at_) (ha:0<=at_) {e:Df} (he:Jx e=true):Er (mT g at_ e).2 at_:=by
 have hn:=dd he
 unfold mT
 split
 ·exact h.begin hg h3 ha (by omega)
 ·split
  ·exact Er.adopt hg h (by omega) _ _
  ·split
   ·exact h.fall hg (by omega)
   ·unfold am
    split
    ·exact h
    ·rename_i hne
     have hl:0<g.2.2.1.length:=by
      cases hq:g.2.2.1 with
      | nil=>exact absurd hq hne
      | cons a l=>simp
     have hlt:(e.2.2.1 % (g.2.2.1.length:Int)).toNat<g.2.2.1.length:=by
      have h1:=Int.emod_lt_of_pos e.2.2.1 (show (0:Int)<(g.2.2.1.length:Int) by omega)
      have h2:=Int.emod_nonneg e.2.2.1 (show (g.2.2.1.length:Int)≠0 by omega)
      omega
     split
     ·refine Er.sub h fun x hx=>?_
      rcases List.mem_append.1 hx with h1 | h1
      ·exact h1
      ·simp only [List.mem_singleton] at h1
       rw [h1,AU hlt]
       exact List.getElem_mem _
     ·split
      ·exact Er.sub (l:=(Ej g _).2.2.1) h nx
      ·exact h.deliver hg h3 ha hlt
theorem Er.new {views:List (List Int)} (hv:QK views):Er (Ae views) 0:=by
 unfold Er
 have hvl:=hv.len
 have hm:∀ i,(1<=i/\i<=6/\(pg (Ae views)).mem i=pm (Dy i views))\/(pg (Ae views)).mem i=gS:=fun i=>by
  by_cases h:1<=i/\i<=6
  ·left
   refine ⟨h.1,h.2,?_⟩
   rw [SH h]
   have h5:i=1\/i=2\/i=3\/i=4\/i=5\/i=6:=by omega
   rcases h5 with rfl | rfl | rfl | rfl | rfl | rfl<;>rfl
  ·exact .inr (if_neg h)
 have hfirst:=mU hv (e:=1) (by omega) (by omega) rfl
 have key:∀ i,((pg (Ae views)).mem i).ep=1/\((pg (Ae views)).mem i).fell=false/\(((pg (Ae views)).mem i).base=true↔1<=i/\i<=6/\(views.getD 0 []).contains i=true)/\(((pg (Ae views)).mem i).leads=true->R0 views 1=i/\((pg (Ae views)).mem i).base=true)/\((pg (Ae views)).mem i).serves=((pg (Ae views)).mem i).leads/\((pg (Ae views)).mem i).waits=[]/\((pg (Ae views)).mem i).items=[]/\((pg (Ae views)).mem i).cnt=0/\((pg (Ae views)).mem i).op=0:=fun i=>by
  rcases hm i with ⟨h1,h2,h⟩ | h
  ·rw [h]
   refine ⟨rfl,rfl,⟨fun h=>⟨h1,h2,h⟩,fun h=>h.2.2⟩,fun hl=>?_,rfl,rfl,rfl,rfl,rfl⟩
   have:(views.getD 0 []).getD 0 0=i:=by
    have:((views.getD 0 []).getD 0 0==i)=true:=hl
    simpa using this
   refine ⟨this,?_⟩
   have hf:R0 views 1=i:=this
   rw [hf] at hfirst
   exact hfirst
  ·rw [h]
   refine ⟨rfl,rfl,⟨fun h=>(by cases h),fun hh=>?_⟩,fun h=>(by cases h),rfl,rfl,rfl,rfl,rfl⟩
   have:=SH (g:=Ae views) ⟨hh.1,hh.2.1⟩
   exfalso
   rcases hm i with ⟨q1,q2,q⟩ | q
   ·rw [h] at q
    have:gS.base=(pm (Dy i views)).base:=by rw [q]
    have h2:(pm (Dy i views)).base=true:=hh.2.2
    rw [h2] at this
    cases this
   ·have h5:i=1\/i=2\/i=3\/i=4\/i=5\/i=6:=by omega
    have h7:(pm (Dy i views))=gS:=by
     rw [<- q,SH ⟨hh.1,hh.2.1⟩]
     rcases h5 with rfl | rfl | rfl | rfl | rfl | rfl<;>rfl
    have:gS.base=(pm (Dy i views)).base:=by rw [h7]
    have h2:(pm (Dy i views)).base=true:=hh.2.2
    rw [h2] at this
    cases this
 have hfly:(pg (Ae views)).fly=[]:=rfl
 have hcal:(pg (Ae views)).calls=[]:=rfl
 have hview:∀ k∈views.getD 0 [],1<=k/\k<=6:=(hv.wok (i:=0) (by omega)).mem
 have hvw1:vw (Ae views).1 1=views.getD 0 []:=rfl
 have hg1:(Ae views).1=views:=rfl
 generalize pg (Ae views)=g at *
 refine ⟨fun _=>0,⟨?_,?_,?_,?_,?_,?_⟩⟩
 ·refine ⟨fun i=>?_,fun i h=>?_,fun i h=>?_,fun i h=>?_,fun i h=>?_,fun i=>?_,fun i h=>?_⟩<;>obtain ⟨k1,k2,k3,k4,k5,k6,k7,k8,k9⟩:=key i
  ·omega
  ·rw [k1,hg1]; exact ⟨by omega,(k4 h).1⟩
  ·rw [k1,hg1]; exact ⟨by omega,List.contains_iff_mem.1 (k3.1 h).2.2⟩
  ·rw [k5] at h; exact ⟨(k4 h).2,h,k6⟩
  ·exact absurd k9 h
  ·omega
  ·rw [k2] at h; cases h
 ·refine ⟨fun i _ d h1 h2=>?_,fun x hx=>by rw [hfly] at hx; cases hx⟩
  rw [(key i).1] at h2; omega
 ·refine ⟨fun k h=>absurd rfl h,fun k l h=>absurd rfl h,fun _ _=>rfl,fun i h=>absurd (key i).2.2.2.2.2.2.2.2 h,?_,?_,?_,fun i h=>absurd (key i).2.2.2.2.2.2.2.2 h,?_⟩
  ·intro k c h; rw [hcal] at h; cases h
  ·intro k c h; rw [hcal] at h; cases h
  ·intro x h; rw [hfly] at h; cases h
  ·intro k l a b h; rw [hcal] at h; cases h
 ·refine ⟨fun i h1 h2 k hk h3 h4=>?_,fun x hx=>by rw [hfly] at hx; (cases hx),fun k e n h=>absurd rfl h,fun k hk=>?_,fun x hx=>by rw [hfly] at hx; (cases hx)⟩
  ·rw [(key i).1] at hk ⊢
   have:=hview k hk
   exact .inr ⟨(key k).1,.inl ((key k).2.2.1.2 ⟨this.1,this.2,List.contains_iff_mem.2 hk⟩)⟩
  ·rw [(key k).1,(key _).1]
   exact ⟨Int.le_refl _,fun _ h=>((key _).2.2.2.1 h).2⟩
 ·refine ⟨fun i=>by rw [(key i).2.2.2.2.2.2.1]; rfl,fun x hx=>by rw [hfly] at hx; (cases hx),fun i _ _ _ x hx=>by rw [hfly] at hx; (cases hx),fun i _ _ j _ _=>.inl (by rw [(key i).2.2.2.2.2.2.1,(key j).2.2.2.2.2.2.1]),fun i h=>?_,fun x hx=>by rw [hfly] at hx; (cases hx),fun i h=>?_⟩
  ·rw [(key i).2.2.2.2.2.2.2.2] at h; exact absurd h (by decide)
  ·rw [(key i).2.2.2.2.2.2.2.2] at h; exact absurd h (by decide)
 ·refine ⟨?_,?_,fun i h=>absurd (key i).2.2.2.2.2.2.2.2 h,?_,?_,?_,?_,?_,?_⟩
  ·intro k c h; rw [hcal] at h; cases h
  ·intro k c h; rw [hcal] at h; cases h
  ·intro k l a b h; rw [hcal] at h; cases h
  ·intro k c h; rw [hcal] at h; cases h
  ·intro i y hy; rw [(key i).2.2.2.2.2.2.1] at hy; cases hy
  ·intro x h; rw [hfly] at h; cases h
  ·intro i h; rw [(key i).2.2.2.2.2.2.2.2] at h; exact absurd h (by decide)
  ·intro k c h; rw [hcal] at h; cases h
theorem Er.run:∀ (es:List Df) (n:Nat) (g:Ab) (cs:List Int),Lu g n->V3 g->Er g (n:Int)->n+es.length<=70->(∀ e∈es,Jx e=true)->Er (H7 n es g cs).1 70
 | [],n,g,cs,_,_,h,hn,_=>h.later (by simp only [List.length_nil] at hn; omega)
 | e::es,n,g,cs,hg,h3,h,hn,he=>by
  simp only [List.length_cons] at hn
  obtain ⟨h2,_⟩:=hg.event (at_:=(n:Int)) (he e (by simp))
  exact Er.run es (n+1) _ _ h2 (h3.event hg (by omega) (he e (by simp))) ((h.event hg h3 (by omega) (he e (by simp))).later (by omega)) (by omega) (fun x hx=>he x (by simp [hx]))

abbrev qU:Type:=Int×ByteArray×ByteArray×Int×Int×Int×Int×Int×ByteArray
theorem gU x:M4 x=some (decide (0<=x.2.2.2.2.1)):=nG rfl
def YR (a b:qU):Bool:=decide (0<=a.2.2.2.2.1)&&decide (0<=b.2.2.2.2.1)&&(decide (Hg a=Hg b)||(decide (a.2.2.2.2.1<b.2.2.2.1)&&decide (Hg b<=Hg a)))
def ZB (a:qU) (i:Nat):Nat->List qU->Bool
 | _,[]=>true
 | j,b::r=>(decide (i=j)||!YR a b)&&ZB a i (j+1) r
def jk (x:List qU):Nat->List qU->Bool
 | _,[]=>true
 | i,a::r=>ZB a i 0 x&&jk x (i+1) r
theorem gV (x) (h:x.length<=maxLen):R5 x=some (jk x 0 x):=nA (by
 have hm:x.length<=9223372036854775807:=h
 unfold ZP
 exact GY (n:=x.length) (P:=fun i=>IW x (i:Int)=some (jk x i (x.drop i))) (TJ (by
  unfold Md
  rw [if_neg (by simp),List.drop_length]
  rfl)) (fun i hi ih=>TJ (by
  unfold Md
  simp only [show ((i:Int)<(x.length:Int)) from by omega,decide_true,if_true]
  rw [BU hi]
  have:=GY (n:=x.length) (P:=fun j=>Cz x (i:Int) (j:Int)=some (ZB x[i] i j (x.drop j)&&jk x (i+1) (x.drop (i+1)))) (TI (by
   unfold Mc
   rw [if_neg (by simp),List.drop_length,AR (show i<9223372036854775807 by omega),ih]
   rfl)) (fun j hj ihj=>TI (by
   have w2:∀ b,decide (0<=x[i].2.2.2.2.1)=true->decide (0<=x[j].2.2.2.2.1)=true->Mb x (i:Int) (j:Int) b x[i] x[j]=some (!YR x[i] x[j]&&(ZB x[i] i (j+1) (x.drop (j+1))&&jk x (i+1) (x.drop (i+1)))):=fun b g1 g2=>fE (by
    unfold TH YR
    simp only [jb,X,AR (show j<9223372036854775807 by omega),ihj,g1,g2,Bool.true_and]
    by_cases e1:Hg x[i]=Hg x[j]
    ·simp [e1]
    ·by_cases e2:x[i].2.2.2.2.1<x[j].2.2.2.1<;>by_cases e3:Hg x[j]<=Hg x[i]<;>simp [e1,e2,e3])
   unfold Mc
   simp only [show ((i:Int)<(x.length:Int)) from by omega,show ((j:Int)<(x.length:Int)) from by omega,decide_true,if_true,show (0:Int)<=(i:Int) from by omega,show (0:Int)<=(j:Int) from by omega,Int.toNat_natCast,AU hi,AU hj,AR (show j<9223372036854775807 by omega),ihj]
   rw [BU hj]
   by_cases g1:x[i].2.2.2.2.1<0
   ·have:YR x[i] x[j]=false:=by unfold YR; simp [show ¬ 0<=x[i].2.2.2.2.1 by omega]
    simp [g1,ZB,this]
   ·by_cases g2:x[j].2.2.2.2.1<0
    ·have:YR x[i] x[j]=false:=by unfold YR; simp [show ¬ 0<=x[j].2.2.2.2.1 by omega]
     simp [g1,g2,ZB,this]
    ·by_cases e:i=j
     ·subst e
      simp [g1,ZB]
     ·have:=w2 ((i:Int)==(j:Int)) (by simpa using g1) (by simpa using g2)
      have ne:((i:Int)==(j:Int))=false:=by simp; omega
      rw [ne] at this
      simp [g1,g2,ZB,e,ne,this,Bool.and_assoc])) 0 (by omega)
  exact this)) 0 (by omega))
theorem T_ (x) (h:x.length<=maxLen):M3 x=some (jk x 0 x):=m_ (by
 have hm:x.length<=9223372036854775807:=h
 unfold ZO
 exact GY (n:=x.length) (P:=fun i=>IV x x (x.length:Int) (i:Int)=some (jk x i (x.drop i))) (TE (by
  unfold Ma
  rw [if_neg (by simp),List.drop_length]
  rfl)) (fun i hi ih=>TE (by
  unfold Ma
  simp only [show ((i:Int)<(x.length:Int)) from by omega,decide_true,if_true,show (0:Int)<=(i:Int) from by omega,Int.toNat_natCast,AU hi]
  rw [BU hi]
  have:=GY (n:=x.length) (P:=fun j=>Cy x (i:Int) x (x.length:Int) (i:Int) x (x.length:Int) (j:Int) x[i]=some (ZB x[i] i j (x.drop j)&&jk x (i+1) (x.drop (i+1)))) (TD (by
   unfold MZ
   rw [if_neg (by simp),List.drop_length,AR (show i<9223372036854775807 by omega),ih]
   rfl)) (fun j hj ihj=>TD (by
   have w2:∀ b,decide (0<=x[i].2.2.2.2.1)=true->decide (0<=x[j].2.2.2.2.1)=true->MY x (i:Int) x (x.length:Int) (i:Int) x (x.length:Int) (j:Int) b x[i] x[j]=some (!YR x[i] x[j]&&(ZB x[i] i (j+1) (x.drop (j+1))&&jk x (i+1) (x.drop (i+1)))):=fun b g1 g2=>fC (by
    unfold TC YR
    simp only [WT,X,AR (show j<9223372036854775807 by omega),ihj,g1,g2,Bool.true_and]
    by_cases e1:Hg x[i]=Hg x[j]
    ·simp [e1]
    ·by_cases e2:x[i].2.2.2.2.1<x[j].2.2.2.1<;>by_cases e3:Hg x[j]<Hg x[i]<;>simp [e1,e2,e3]<;>intro h<;>omega)
   unfold MZ
   simp only [show ((j:Int)<(x.length:Int)) from by omega,decide_true,if_true,show (0:Int)<=(j:Int) from by omega,Int.toNat_natCast,AU hj,AR (show j<9223372036854775807 by omega),ihj,gU,X]
   rw [BU hj]
   by_cases e:i=j
   ·subst e
    simp [ZB]
   ·have ne:((i:Int)==(j:Int))=false:=by simp; omega
    by_cases g1:0<=x[i].2.2.2.2.1
    ·by_cases g2:0<=x[j].2.2.2.2.1
     ·have:=w2 false (by simpa using g1) (by simpa using g2)
      simp [g1,g2,ZB,e,ne,this,Bool.and_assoc]
     ·have:YR x[i] x[j]=false:=by unfold YR; simp [g2]
      simp [g1,g2,ZB,this,ne]
    ·have:YR x[i] x[j]=false:=by unfold YR; simp [g1]
     simp [g1,ZB,this,ne])) 0 (by omega)
  exact this)) 0 (by omega))

theorem au (x:List Int) (hx:x.length<=1048576):∃ v es,Nm x=some (v,es)/\QK v/\es.length<=69/\∀ e∈es,Jx e=true:=by
 obtain ⟨d,e0,k0⟩:=gM x (by unfold maxLen; omega)
 obtain ⟨v,es,d1,e1,k1,hv,hl,he⟩:=dh x d hx k0
 refine ⟨v,es,iY ?_,hv,hl,he⟩
 unfold Vm
 rw [e0,X,e1,X]

theorem uU (a:H5):UA AN a a=true:=by simp [UA]
theorem Wt (x:List H5) (h:x.length<=68719476736):MU x x=some true:=fA (by
 unfold S_
 rw [if_neg (by simp)]
 exact GY (n:=x.length) (P:=fun i=>F_ x x (i:Int)=some true) (OQ (by
  unfold Ir
  rw [if_neg (by simp)])) (fun i hi ih=>OQ (by
  unfold Ir
  rw [if_pos (by simpa using hi),if_pos (by omega),if_pos (by omega),if_pos (by omega),if_pos (by omega),uU,if_neg (by simp),AR (by omega)]
  exact ih)) 0 (by omega))
theorem ny (a:H5) (i:Nat):∀ (y:List H5) (j:Nat),(∀ k (h:k<y.length),i≠j+k->YR a y[k]=false)->ZB a i j y=true
 | [],_,_=>rfl
 | b::y,j,h=>by
  unfold ZB
  rw [ny a i y (j+1) (fun k hk hne=>by have:=h (k+1) (by simp; omega) (by omega); simpa using this),Bool.and_true]
  by_cases e:i=j
  ·simp [e]
  ·have:=h 0 (by simp) (by omega)
   rw [show YR a b=false from this]
   simp
theorem nz (x:List H5):∀ (y:List H5) (i:Nat),(∀ k (h:k<y.length),∀ j (hj:j<x.length),i+k≠j->YR y[k] x[j]=false)->jk x i y=true
 | [],_,_=>rfl
 | a::y,i,h=>by
  unfold jk
  rw [nz x y (i+1) (fun k hk j hj hne=>by have:=h (k+1) (by simp; omega) j hj (by omega); simpa using this),Bool.and_true]
  exact ny a i x 0 fun k hk hne=>by have:=h 0 (by simp) k hk (by omega); simpa using this
theorem qV {g:Ab} {n:Nat} {now:Int} {vr:Nat->Int} (hg:Lu g n) (ha:nS (vw g.1) (g.1.length:Int) (pg g) vr now):(∀ k l,vr k≠0->vr k=vr l->k=l)/\(∀ k (hk:k<g.2.2.2.length),0<=(g.2.2.2[k]).2.2.2.2.1->vr k=Hg g.2.2.2[k]/\vr k≠0/\Hg g.2.2.2[k]=1000*(g.2.2.2[k]).2.2.2.2.2.2.1+(g.2.2.2[k]).2.2.2.2.2.2.2.1/\(g.2.2.2[k]).2.2.2.1<=(g.2.2.2[k]).2.2.2.2.1/\1<=(g.2.2.2[k]).2.2.2.2.2.2.1/\(g.2.2.2[k]).2.2.2.2.2.2.1<=9/\1<=(g.2.2.2[k]).2.2.2.2.2.2.2.1/\(g.2.2.2[k]).2.2.2.2.2.2.2.1<=900) /\
  (∀ k l (hk:k<g.2.2.2.length) (hl:l<g.2.2.2.length),0<=(g.2.2.2[k]).2.2.2.2.1->0<=(g.2.2.2[l]).2.2.2.2.1->(g.2.2.2[k]).2.2.2.2.1<(g.2.2.2[l]).2.2.2.1->vr k<vr l):=by
 have hget:∀ k (hk:k<g.2.2.2.length),(pg g).calls[k]? = some (pc g.2.2.2[k]):=fun k hk=>by
  show (g.2.2.2.map pc)[k]? = _
  rw [List.getElem?_map,List.getElem?_eq_getElem hk]; rfl
 have hep:∀ i,((pg g).mem i).ep<=9:=fun i=>by
  by_cases hi:1<=i/\i<=6
  ·rw [SH hi]; exact (hg.mem (i-1).toNat (by omega)).1.ep.2
  ·rw [show (pg g).mem i=gS from if_neg hi]; decide
 refine ⟨ha.t.inj,fun k hk hd=>?_,fun k l hk hl h1 h2 h3=>ha.t.or k l _ _ (hget k hk) (hget l hl) h1 h2 h3⟩
 obtain ⟨d1,d2,d3,d4,d5,d6,d7⟩:=ha.t.dn k _ (hget k hk) hd
 generalize g.2.2.2[k]=c at *
 change vr k=1000*c.2.2.2.2.2.2.1+c.2.2.2.2.2.2.2.1 at d1
 change 1<=c.2.2.2.2.2.2.1 at d2
 change 1<=c.2.2.2.2.2.2.2.1 at d3
 change c.2.2.2.2.2.2.2.1<=900 at d4
 change c.2.2.2.1<=c.2.2.2.2.1 at d7
 obtain ⟨e,n,x1,x2,x3,x4,x5,x6⟩:=ha.t.st k (by omega)
 have:=hep (CO (vw g.1) e)
 have hee:e=c.2.2.2.2.2.2.1:=by omega
 have hst:Hg c=1000*c.2.2.2.2.2.2.1+c.2.2.2.2.2.2.2.1:=by
  unfold Hg
  rw [if_pos (by simp only [Bool.and_eq_true,decide_eq_true_eq]; omega),Aa (show -9223372036854775808<=1000*c.2.2.2.2.2.2.1/\1000*c.2.2.2.2.2.2.1<=9223372036854775807 by omega),Aa (by omega)]
 exact ⟨by rw [hst]; exact d1,by omega,hst,d7,d2,by omega,d3,d4⟩
theorem rB {g:Ab} {n:Nat} {now:Int} (hg:Lu g n) (h:Er g now):jk g.2.2.2 0 g.2.2.2=true:=by
 obtain ⟨vr,ha⟩:=h
 obtain ⟨inj,dn,od⟩:=qV hg ha
 refine nz _ _ 0 fun k hk j hj hne=>?_
 rw [Nat.zero_add] at hne
 unfold YR
 by_cases h1:0<=(g.2.2.2[k]).2.2.2.2.1
 ·by_cases h2:0<=(g.2.2.2[j]).2.2.2.2.1
  ·obtain ⟨a1,a2,_⟩:=dn k hk h1
   obtain ⟨b1,b2,_⟩:=dn j hj h2
   have hs:¬ Hg g.2.2.2[k]=Hg g.2.2.2[j]:=fun e=>hne (inj k j a2 (by rw [a1,b1,e]))
   rw [decide_eq_false hs,Bool.false_or]
   by_cases h3:(g.2.2.2[k]).2.2.2.2.1<(g.2.2.2[j]).2.2.2.1
   ·have:=od k j hk hj h1 h2 h3
    rw [decide_eq_false (show ¬ Hg g.2.2.2[j]<=Hg g.2.2.2[k] by omega),Bool.and_false,Bool.and_false]
   ·rw [decide_eq_false h3,Bool.false_and,Bool.and_false]
  ·rw [decide_eq_false h2,Bool.and_false,Bool.false_and]
 ·rw [decide_eq_false h1,Bool.false_and,Bool.false_and]
theorem pN (x) (hx:Kd.ok (.slice (.int .u8)) x):Vk x=some true:=iX (by
 unfold Vl
 rw [nP,X]
 by_cases hbig:x.length<=1048576
 case neg=>rw [if_pos (by simp; omega)]
 rw [if_neg (by simp; omega)]
 obtain ⟨v,es,e,hv,hl,he⟩:=au x hbig
 rw [e,X]
 dsimp only
 rw [du hv (by omega) he,X,df hv (by omega) he,X]
 obtain ⟨r1,r2,r3⟩:=jt es 0 (Ae v) [] (T5 hv) (by omega) he
 have hp:=Er.run es 0 (Ae v) [] (T5 hv) (V3.new hv) (Er.new hv) (by omega) he
 generalize (H7 0 es (Ae v) []).1=g at *
 generalize (H7 0 es (Ae v) []).2=cs at *
 have hc:=r1.clen
 have hall:=rB r1 hp
 obtain ⟨vr,ha⟩:=hp
 obtain ⟨inj,dn,od⟩:=qV r1 ha
 rw [if_pos (by rfl),Wt _ (by omega),X,if_pos (by rfl),T_ _ (by unfold maxLen; omega),hall,X,if_pos (by rfl),gV _ (by unfold maxLen; omega),hall,X,if_neg (by simp)]
 refine Z1 ?_
 unfold Pr
 exact GY (n:=g.2.2.2.length) (P:=fun i=>Ez (i:Int) g g=some true) (Ps (by
  unfold Jm
  rw [if_neg (by simp)]
  refine Z0 ?_
  unfold Pq
  rw [T_ _ (by unfold maxLen; simp),X]
  rfl)) (fun i hi ih=>Ps (by
  unfold Jm
  have hz:g.2.2.2.getD i ((0:Int),ByteArray.empty,ByteArray.empty,(0:Int),(0:Int),(0:Int),(0:Int),(0:Int),ByteArray.empty)=g.2.2.2[i]:=AU hi
  simp only [show ((i:Int)<(g.2.2.2.length:Int)) from by omega,decide_true,if_true,show (0:Int)<=(i:Int) from by omega,Int.toNat_natCast,hz,AR (show i<9223372036854775807 by omega)]
  by_cases hd:0<=(g.2.2.2[i]).2.2.2.2.1
  ·obtain ⟨a1,a2,a3,a4,a5,a6,a7,a8⟩:=dn i hi hd
   rw [if_pos (by simpa using hd),if_neg (by simp; omega),WT,X,a3,Aa (show -9223372036854775808<=1000*(g.2.2.2[i]).2.2.2.2.2.2.1/\1000*(g.2.2.2[i]).2.2.2.2.2.2.1<=9223372036854775807 by omega),Aa (by omega),if_neg (by simp)]
   exact ih
  ·rw [if_neg (by simpa using hd)]
   exact ih)) 0 (by omega))

theorem uV {P:Program} {c:List Char} {rest:List (List Char)} (h:behindMainWord (wordsSigns P.initOrder.toList)=c::rest) (h1:(c == "gc".toList||c == "spec".toList)=false) (h2:(c == "cut".toList||(c == "finals".toList&&rest.head? == some "cut".toList))=true):P.make=some .cut:=by
 unfold Program.make
 rw [h]
 simp only [h1,h2]
 rfl
theorem uW {P:Program} {c:List Char} {rest:List (List Char)} (h:behindMainWord (wordsSigns P.initOrder.toList)=c::rest) (h1:((stripLifts liftWords (c::rest)).2.head? == some "cut".toList)=true) (h2:(stripLifts liftWords (c::rest)).1=[])
  (h3:P.laysLater=false) (h4:P.bearsReflect=false) (h5:P.doorFits []=true):P.mayEnter=true:=by
 unfold Program.mayEnter
 rw [h]
 simp only [h1,h2,h3,h4,h5]
 simp
theorem uX {P:Program} {c:List Char} {rest:List (List Char)} (h:behindMainWord (wordsSigns P.initOrder.toList)=c::rest) (h1:(c == "carried".toList)=false) (h2:(stripLifts liftWords (c::rest)).1=[]):P.liftsFinal=false:=by
 have e:(some c==some "carried".toList)=false:=h1
 unfold Program.liftsFinal Program.headLifts
 rw [h]
 simp only [List.head?_cons,e,h2]
 simp
theorem J6 {a b:Bool} (h:a=true) (g:b=true):(a&&b)=true:=by rw [h,g]; rfl
theorem uY {α:Type} [BEq α] [LawfulBEq α] {a b:α} (h:a=b):(a==b)=true:=by rw [h]; exact beq_self_eq_true b
end Go.Proofs.YtokiohnjegbnpaaGreat.Core

namespace Go.Proofs.YtokiohnjegbnpaaGreat.Core
open Go
set_option maxRecDepth 100000
def xr:List Nat:=[104,97,114,110,101,115,115,32,98,98,51,100,57,98,49,97,49,56,51,53,54,102,49,99,51,99,54,98,98,50,49,49,55,50,51,56,50,55,50,49,99,101,56,52,49,52,101,99,102,54,52,100,50,98,98,99,49,98,54,51,57,56,97,56,102,48,98,52,52,100,57,57,32,99,117,116,32,97,116,32,108,111,111,112,46,101,120,97,109,112,108,101,47,103,48,48,49,56,48,47,108,97,119,115,46,70,110,79,110,101,83,101,114,118,101,115,32,108,111,111,112,46,101,120,97,109,112,108,101,47,103,48,48,49,56,48,47,108,97,119,115,46,70,110,73,110,84,105,109,101,32,108,111,111,112,46,101,120,97,109,112,108,101,47,103,48,48,49,56,48,47,108,97,119,115,46,70,110,82,101,97,100,115,32,108,111,111,112,46,101,120,97,109,112,108,101,47,103,48,48,49,56,48,47,108,97,119,115,46,70,110,84,111,112,32,108,111,111,112,46,101,120,97,109,112,108,101,47,103,48,48,49,56,48,47,108,97,119,115,46,70,110,87,97,116,99,104,101,115,32,108,111,111,112,46,101,120,97,109,112,108,101,47,103,48,48,49,56,48,47,108,97,119,115,46,70,110,81,117,105,101,116,71,114,111,117,112]
def xt:List Nat:=[99,117,116]
def xu:List (List Nat):=[[97,116],[108,111,111,112,46,101,120,97,109,112,108,101,47,103,48,48,49,56,48,47,108,97,119,115,46,70,110,79,110,101,83,101,114,118,101,115],[108,111,111,112,46,101,120,97,109,112,108,101,47,103,48,48,49,56,48,47,108,97,119,115,46,70,110,73,110,84,105,109,101],[108,111,111,112,46,101,120,97,109,112,108,101,47,103,48,48,49,56,48,47,108,97,119,115,46,70,110,82,101,97,100,115],[108,111,111,112,46,101,120,97,109,112,108,101,47,103,48,48,49,56,48,47,108,97,119,115,46,70,110,84,111,112],[108,111,111,112,46,101,120,97,109,112,108,101,47,103,48,48,49,56,48,47,108,97,119,115,46,70,110,87,97,116,99,104,101,115],[108,111,111,112,46,101,120,97,109,112,108,101,47,103,48,48,49,56,48,47,108,97,119,115,46,70,110,81,117,105,101,116,71,114,111,117,112]]
theorem io:Tryz.prog.initOrder.toList=xr.map Char.ofNat:=(congrArg String.toList (show Tryz.prog.initOrder=String.ofList (xr.map Char.ofNat) from by kernel_rfl)).trans String.toList_ofList
theorem xo:behindMainWord (wordsSigns Tryz.prog.initOrder.toList)=xt.map Char.ofNat::xu.map fun w=>w.map Char.ofNat:=by
 rw [io]
 kernel_rfl
theorem xp:Tryz.prog.make=some .cut:=uV xo (by kernel_rfl) (by kernel_rfl)
theorem enters:Tryz.prog.mayEnter=true:=uW xo (by kernel_rfl) (by kernel_rfl) (by kernel_rfl) (by kernel_rfl) (by kernel_rfl)
theorem v5:Tryz.prog.liftsFinal=false:=uX xo (by kernel_rfl) (by kernel_rfl)
theorem qW:laidOutB Tryz.prog=true:=by kernel_rfl
theorem rC:mapsRowed Tryz.prog=true:=by kernel_rfl
theorem xB:Tryz.prog.stopsHeard=true:=by kernel_rfl
end Go.Proofs.YtokiohnjegbnpaaGreat.Core
