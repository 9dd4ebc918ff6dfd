/- Texts of the proof, packed: part 3. -/
import Derived.Test.YtffahmnodgnohaaP1
import Derived.OrdersHeld
import Derived.ChangeArms
import Derived.Below
import Derived.Test.YtffahmnodgnohaaProg
import Derived.Shelf.SlLaysE0
import Derived.Shelf.RegionOpenPlain
import Derived.WalkKit
import Derived.Deep.LoopGhost
import Derived.Lib.Walk
import Derived.Lib.SliceRun
import Derived.Shelf.Lays2
import Derived.Lib.JoinLaws
import Derived.Lib.AppendZeros
import Derived.Lib.Overlaps
import Derived.Laws.Externs
import Derived.Laws.IdiomCopy
import Derived.Laws.CopyRow
import Derived.Maps.AppendAt
import Derived.Shelf.Small.Strs
import Derived.Shelf.Spec.SlicesInsert
import Derived.Shelf.SlicesE.DeleteFunc
set_option linter.unusedVariables false
set_option linter.unusedSimpArgs false
namespace Go.Proofs.Ytffahmnodgnohaa.Core
open Go
variable {P:Program}
abbrev PR:=List (Nat×(World->Prop))
def IN (anc:List Nat):PR->PR
 | []=>[]
 | p::r=>if Ak anc p.1=true then IN anc r else p::IN anc r
theorem C_ {anc:List Nat}:∀ {T:PR},∀ p∈IN anc T,p∈T/\Ak anc p.1=false
 | [],p,h=>by cases h
 | q::r,p,h=>by
  simp only [IN] at h
  split at h
  ·obtain ⟨h1,h2⟩:=C_ p h
   exact ⟨by simp [h1],h2⟩
  ·rename_i hq
   rcases AL.1 h with rfl | h
   ·exact ⟨by simp,by simpa using hq⟩
   ·obtain ⟨h1,h2⟩:=C_ p h
    exact ⟨by simp [h1],h2⟩
theorem QT {anc:List Nat}:∀ {T:PR} {p},p∈T->Ak anc p.1=false->p∈IN anc T
 | [],p,h,_=>by cases h
 | q::r,p,h,hn=>by
  simp only [IN]
  rcases AL.1 h with rfl | h
  ·rw [if_neg (by rw [hn]; simp)]; simp
  ·split
   ·exact QT h hn
   ·exact List.mem_cons_of_mem _ (QT h hn)
theorem Uk {anc:List Nat} {i:Nat} {C:World->Prop} {T:PR} (h:Ak anc i=false):IN anc ((i,C)::T)=(i,C)::IN anc T:=by
 show (if Ak anc i=true then IN anc T else (i,C)::IN anc T)=_
 rw [h]
 rfl
def La (P:Program) (ops:Array Oper) (Q:Exit->Act->World->Prop) (anc:Nat->List Nat):Nat->PR->Array Bool->Act->World->Prop
 | 0,_,listed,a,w=>Region.ready .any ops listed=[]/\Q .normal a w
 | fuel+1,T,listed,a,w =>
  (Region.ready .any ops listed=[]->Q .normal a w) /\
  ∀ i∈Region.ready .any ops listed,wpOp P ops Q i (fun a' w'=>(∀ p∈IN (anc i) T,p.2 w')/\La P ops Q anc fuel (IN (anc i) T) (listed.setIfInBounds i true) a' w') a w
theorem QU {ops:Array Oper} {Q:Exit->Act->World->Prop} {anc:Nat->List Nat}:∀ (fuel:Nat) (T:PR) (listed:Array Bool) (a:Act) (w:World),La P ops Q anc fuel T listed a w->wpAny P .any ops Q fuel listed a w
 | 0,_,_,_,_,h=>h
 | fuel+1,_,_,_,_,h=>⟨h.1,fun i hi=>wpOp_mono (fun a' w' h'=>QU fuel _ _ a' w' h'.2) (h.2 i hi)⟩
theorem LI {ops:Array Oper} {Q:Exit->Act->World->Prop} {anc:Nat->List Nat}:∀ (fuel:Nat) {T T':PR} (listed:Array Bool) (a:Act) (w:World),(∀ p∈T',p∈T)->La P ops Q anc fuel T listed a w->La P ops Q anc fuel T' listed a w
 | 0,_,_,_,_,_,_,h=>h
 | fuel+1,T,T',_,_,_,hs,h=>⟨h.1,fun i hi=>wpOp_mono (fun a' w' h'=>by
   have hsub:∀ p∈IN (anc i) T',p∈IN (anc i) T:=fun p hp=>by
    obtain ⟨h1,h2⟩:=C_ p hp
    exact QT (hs p h1) h2
   exact ⟨fun p hp=>h'.1 p (hsub p hp),LI fuel _ a' w' hsub h'.2⟩) (h.2 i hi)⟩
def RF (ops:Array Oper) (listed:Array Bool):Prop:=∀ k o,listed.getD k false=true->ops[k]? = some o->∀ e∈o.after,Region.binds .any e=true->listed.getD e.on false=true
def QV (ops:Array Oper) (i:Nat):List Nat:=match ops[i]? with
 | some o=>(o.after.filter fun e=>Region.binds .any e).toList.map (·.on)
 | none=>[]
def Td (ops:Array Oper) (anc:List (List Nat)):Bool :=
 (List.range ops.size).all fun i=>(QV ops i).all (fun p=>decide (p<i))&&(anc.getD i []).all fun j=>(QV ops i).any (fun p=>p==j)||(QV ops i).any fun p=>Ak (anc.getD p []) j
theorem G6 {ops:Array Oper} {anc:List (List Nat)} (hA:Td ops anc=true) {listed:Array Bool} (hs:RF ops listed):∀ (i:Nat),(∀ p∈QV ops i,listed.getD p false=true)->i<ops.size->∀ j∈anc.getD i [],listed.getD j false=true:=by
 intro i
 induction i using Nat.strongRecOn with
 | _ i ih =>
  intro hp hi j hj
  have h1:=Am.1 hA i (List.mem_range.2 hi)
  simp only [U,Am,List.any_eq_true,EZ,beq_iff_eq,decide_eq_true_eq] at h1
  rcases h1.2 j hj with ⟨p,hpm,rfl⟩ | ⟨p,hpm,hpj⟩
  ·exact hp p hpm
  ·have hlt:=h1.1 p hpm
   refine ih p hlt (fun q hq=>?_) (by omega) j (Bc.1 hpj)
   unfold QV at hq
   split at hq
   ·rename_i o ho
    simp only [List.mem_map,Array.mem_toList_iff,Array.mem_filter] at hq
    obtain ⟨e,⟨he,hb⟩,rfl⟩:=hq
    exact hs p o (hp p hpm) ho e he hb
   ·cases hq
theorem By {ops:Array Oper} {listed:Array Bool} {i:Nat} (h:i∈Region.ready .any ops listed):(∀ p∈QV ops i,listed.getD p false=true)/\i<ops.size:=by
 obtain ⟨_,o,ho,hall⟩:=mem_ready.1 h
 refine ⟨fun p hp=>?_,(Array.getElem?_eq_some_iff.1 ho).1⟩
 unfold QV at hp
 rw [ho] at hp
 simp only [List.mem_map,Array.mem_toList_iff,Array.mem_filter] at hp
 obtain ⟨e,⟨he,hb⟩,rfl⟩:=hp
 exact hall e he hb
theorem RF.set {ops:Array Oper} {listed:Array Bool} (hs:RF ops listed) {i:Nat} (h:i∈Region.ready .any ops listed):RF ops (listed.setIfInBounds i true):=by
 intro k o hk ho e he hb
 by_cases hik:i=k
 ·subst hik
  obtain ⟨_,o',ho',hall⟩:=mem_ready.1 h
  rw [ho] at ho'
  cases ho'
  exact getD_set_true (hall e he hb)
 ·rw [getD_set_ne false hik] at hk
  exact getD_set_true (hs k o hk ho e he hb)
theorem Cb {ops:Array Oper} {listed:Array Bool} {i:Nat} (h:i∈Region.ready .any ops listed):listed.getD i false=false:=by
 have h0:=(mem_ready.1 h).1
 rcases At i listed.size with h' | h'
 ·simp [h'] at h0 ⊢; exact h0
 ·simp [Array.getElem?_eq_none h']
theorem Mj {ops:Array Oper} {Q:Exit->Act->World->Prop} {anc:List (List Nat)} (hA:Td ops anc=true) {i:Nat} {oi:Oper} {v:Value} {C:World->Prop} (hi:ops[i]? = some oi)
  (hsel:∀ (j:Nat) (o:Oper) cs b,ops[j]? = some o->o.op≠.select cs b) (hQ:∀ c a w,Q (.panic c) (a.put oi.dst v) w->Q (.panic c) a w) :
  ∀ (fuel:Nat) (T:PR) (listed:Array Bool) (a:Act) (w:World),RF ops listed ->
   (∀ j oj,ops[j]? = some oj->j≠i->listed.getD j true=false->(∀ e∈oj.after,Region.binds .any e=true->e.on≠i)->oi.apart ops oj=true) ->
   i∈Region.ready .any ops listed->YieldsIf P ops C oi v a->C w->(∀ p∈T,p.2 w) ->
   La P ops Q (fun i=>anc.getD i []) fuel ((i,C)::T) (listed.setIfInBounds i true) (a.put oi.dst v) w->La P ops Q (fun i=>anc.getD i []) (fuel+1) T listed a w:=by
 intro fuel
 induction fuel with
 | zero =>
  intro T listed a w hsh _ hr hy hC hT H
  refine ⟨fun h=>(by rw [h] at hr; cases hr),fun j hj=>?_⟩
  by_cases hji:j=i
  ·subst hji; exact hy.wpOp hi hC ⟨fun p hp=>hT p (C_ p hp).1,H⟩
  ·have:=ready_mono hj hji
   rw [H.1] at this
   cases this
 | succ fuel ih =>
  intro T listed a w hsh hfree hr hy hC hT H
  refine ⟨fun h=>(by rw [h] at hr; cases hr),fun j hj=>?_⟩
  by_cases hji:j=i
  ·subst hji
   refine hy.wpOp hi hC ⟨fun p hp=>hT p (C_ p hp).1,LI _ _ _ _ (fun p hp=>?_) H⟩
   exact List.mem_cons_of_mem _ (C_ p hp).1
  ·have h1:=H.2 j (ready_mono hj hji)
   obtain ⟨hjun,oj,hoj,hall⟩:=mem_ready.1 hj
   have hnot:∀ e∈oj.after,Region.binds .any e=true->e.on≠i:=fun e he hb heq=>by
    have h1:=hall e he hb
    have h0:=Cb hr
    rw [heq] at h1
    rw [h0] at h1
    cases h1
   have hnanc:Ak (anc.getD j []) i=false:=by
    rw [AW]
    intro hm
    have:=G6 hA hsh j (By hj).1 (By hj).2 i hm
    rw [Cb hr] at this
    cases this
   have hcut:IN (anc.getD j []) ((i,C)::T)=(i,C)::IN (anc.getD j []) T:=Uk hnanc
   simp only [hcut] at h1
   have h2:=wpOp_putIf hoj (hfree j oj hoj hji hjun hnot) (fun cs b=>hsel i oi cs b hi) (fun cs b=>hsel j oj cs b hoj) hQ hy h1
   have hfree':∀ k ok,ops[k]? = some ok->k≠i->(listed.setIfInBounds j true).getD k true=false ->
     (∀ e∈ok.after,Region.binds .any e=true->e.on≠i)->oi.apart ops ok=true:=fun k ok hk hki hun hno=>by
    refine hfree k ok hk hki ?_ hno
    by_cases hjk:j=k
    ·subst hjk; exact hjun
    ·rw [getD_set_ne true hjk] at hun; exact hun
   refine wpOp_mono (fun a' w' h3=>?_) h2
   obtain ⟨hy',hp',hG⟩:=h3
   have hC':C w':=hp' (i,C) (by simp)
   have hT':∀ p∈IN (anc.getD j []) T,p.2 w':=fun p hp=>hp' p (List.mem_cons_of_mem _ hp)
   refine ⟨hT',ih _ (listed.setIfInBounds j true) a' w' (hsh.set hj) hfree' (ready_mono hr (Ne.symm hji)) hy' hC' hT' ?_⟩
   rw [Array.setIfInBounds_comm _ _ hji]
   exact hG
theorem Wh {o:Oper} {a:Act} {w:World} {I:Prop} (h:o.wp P a w (fun _ _=>I) (fun _ _ _=>I)):I:=by
 unfold Oper.wp at h
 generalize (execOp a.eval o).run P w=r at h
 cases r with
 | ok n w' =>
  cases n<;>simp only [Oper.upon] at h<;>try exact h
  case enter f args =>
   obtain ⟨e,w2,fr,hr,_⟩:=h []
   cases e with
   | returned v=>exact hr
   | panicked c=>exact hr
   | outgrown=>exact hr.elim fun _ h=>h.elim fun _ h=>h
  case row row args =>
   obtain ⟨v,w2,hr,_⟩:=h default []
   exact hr
 | halt x w' =>
  cases x<;>simp only [Oper.upon] at h
  case panic v=>exact h
def gB (ops:Array Oper) (o:Oper):Option (Nat×Bool)->Bool
 | none=>o.guard.isNone
 | some g=>match o.guard with
  | some (j,want)=>want==g.2&&PQ ops j==some g.1
  | none=>false
def Ul (L:Array Bool) (fl:List Nat):Array Bool:=fl.foldl (fun L i=>L.setIfInBounds i true) L
def Vc (ops:Array Oper) (i:Nat) (js:List Nat):Bool :=
 js.all fun j=>match ops[i]?,ops[j]? with
  | some a,some b=>a.apart ops b&&b.apart ops a
  | _,_=>false
def Ik (ops:Array Oper):List Nat->Bool
 | []=>true
 | i::r=>!Ak r i&&Vc ops i r&&Ik ops r
def Te (P:Program) (n:Nat) (ops:Array Oper) (L:Array Bool) (f:Nat×CF):Bool :=
 (Region.ready .any ops L).contains f.1&&f.2.isFloat&&(match ops[f.1]? with
  | some o=>P1 P n o f.2&&decide (o.dst.toList=f.2.dsts)&&o.guard.isNone&&(match o.dst with
   | some d=>!(o.looksAt ops).contains d&&decide (d<n)
   | none=>false)
  | none=>false)
def P2 (P:Program) (n:Nat) (ops:Array Oper):DT->Array Bool->List Nat->Bool
 | .done,L,F=>(Region.ready .any ops L).isEmpty&&F.isEmpty
 | .take i g ao r,L,F=>(Region.ready .any ops L).contains i&&Region.free .any ops L i&&!Ak F i&&ao.isVal&&(match ops[i]? with
   | some o=>gB ops o g&&P1 P n o ao&&decide (o.dst.toList=ao.dsts)
   | none=>false)&&P2 P n ops r (L.setIfInBounds i true) F
 | .skip i g d r,L,F=>(Region.ready .any ops L).contains i&&Region.free .any ops L i&&!Ak F i&&(match ops[i]? with
   | some o=>gB ops o (some g)&&decide (o.dst=d)&&(match d with | some d=>decide (d<n) | none=>true)
   | none=>false)&&P2 P n ops r (L.setIfInBounds i true) F
 | .only i g ao e fl r,L,F=>(Region.ready .any ops L).contains i&&(Region.ready .any ops (Ul L (fl.map (·.1)))).all (· == i)&&F.all (fun f=>f==i||Ak (fl.map (·.1)) f)&&(!Ak F i||(e&&ao.isFloat))
   && fl.all (Te P n ops L)&&Ik ops (i::fl.map (·.1))&&(match ops[i]? with
   | some o=>gB ops o g&&P1 P n o ao&&decide (o.dst.toList=ao.dsts)
   | none=>false)&&P2 P n ops r (L.setIfInBounds i true) (fl.map (·.1))
 | .test _ a b,L,F=>P2 P n ops a L F&&P2 P n ops b L F
 | .fork i ai ri j aj rj,L,F=>F.isEmpty&&(Region.ready .any ops L).contains i&&(Region.ready .any ops L).all (fun k=>k==i||k==j)
   && (match ops[i]? with
   | some o=>gB ops o none&&P1 P n o ai&&decide (o.dst.toList=ai.dsts)
   | none=>false)&&(match ops[j]? with
   | some o=>gB ops o none&&P1 P n o aj&&decide (o.dst.toList=aj.dsts)
   | none=>false)&&P2 P n ops ri (L.setIfInBounds i true) []&&P2 P n ops rj (L.setIfInBounds j true) []
def UC (P:Program) (n:Nat) (ops:Array Oper) (anc:List (List Nat)) (t:DT):Bool :=
 P.follows .mixedOrders&&Region.noSelect ops&&Td ops anc&&P2 P n ops t (Array.replicate ops.size false) []
theorem Sx {H:HP} {φ:As} {s:St} {act:Act} (hf:B9 H φ s.st s.fr act.tmps) {c:Nat} {t:Bool} (h:CB s.fr c=.bool t):act.tmps[c]? = some (.bool t):=by
 have hfc:=hf c
 rw [h] at hfc
 have hfc:act.tmps.getD c undef=.bool t:=hfc
 rw [Array.getD_eq_getD_getElem?] at hfc
 cases hq:act.tmps[c]? with
 | none=>rw [hq] at hfc; cases hfc
 | some v=>rw [hq] at hfc; simpa using hfc
theorem JP {H:HP} {φ:As} {s:St} {act:Act} {ops:Array Oper} {o:Oper} {g:Option (Nat×Bool)} (hf:B9 H φ s.st s.fr act.tmps) (h:Xr s g=true) (hb:gB ops o g=true):Region.wanted o (yielded ops act.tmps)=true:=by
 cases g with
 | none =>
  simp only [gB,Option.isNone_iff_eq_none] at hb
  exact G5 hb trivial
 | some g =>
  simp only [gB] at hb
  split at hb
  ·rename_i j want hg
   simp only [U,beq_iff_eq] at hb
   obtain ⟨rfl,hb2⟩:=hb
   simp only [Xr] at h
   split at h
   ·rename_i t ht
    simp only [beq_iff_eq] at h
    subst h
    exact G5 hg ⟨g.1,hb2,Sx hf ht⟩
   ·cases h
  ·cases hb
theorem Sy {H:HP} {φ:As} {s:St} {act:Act} {ops:Array Oper} {o:Oper} {g:Nat×Bool} (hf:B9 H φ s.st s.fr act.tmps) (h:W6 s g=true) (hb:gB ops o (some g)=true):Region.wanted o (yielded ops act.tmps)=false:=by
 simp only [gB] at hb
 split at hb
 ·rename_i j want hg
  simp only [U,beq_iff_eq] at hb
  obtain ⟨rfl,hb2⟩:=hb
  refine LY hg hb2 ?_
  unfold W6 at h
  split at h
  ·rename_i t ht
   rw [Sx hf ht]
   intro e
   cases e
   simp at h
  ·rename_i ht
   have hv:=hf g.1
   rw [ht] at hv
   have hv:act.tmps.getD g.1 undef=undef:=hv
   intro e
   rw [Array.getD_eq_getD_getElem?,e] at hv
   cases hv
  ·cases h
 ·cases hb
def PF (act:Act) (w:World) (T:List (Nat×Nat)) (TT:PR):Prop :=
 ∀ p∈TT,p.2 w/\((∀ w2,p.2 w2)\/∃ x,(p.1,x)∈T/\∃ w0:World,p.2=fun w2=>∀ b,A_ (act.tmps.getD x undef) b->w2.heap[b]? = w0.heap[b]?)
theorem Gx {ds:List Nat}:∀ {T:List (Nat×Nat)},Da ds T=true->∀ p∈T,p.2∉ds
 | [],_,p,hp=>by cases hp
 | q::r,h,p,hp=>by
  simp only [Da,U,Co] at h
  rcases AL.1 hp with rfl | hp
  ·exact AW.1 h.1
  ·exact Gx h.2 p hp
theorem GB {act:Act} {dst:Option Tmp} {v:Value} {t:Nat} (h:dst≠some t):(act.put dst v).tmps.getD t undef=act.tmps.getD t undef:=by
 rw [Array.getD_eq_getD_getElem?,Array.getD_eq_getD_getElem?,Es h]
theorem PF.put {act:Act} {w:World} {T:List (Nat×Nat)} {TT:PR} (h:PF act w T TT) {dst:Option Tmp} {v:Value} (hf:Da dst.toList T=true):PF (act.put dst v) w T TT:=by
 intro p hp
 obtain ⟨h1,h2⟩:=h p hp
 refine ⟨h1,?_⟩
 rcases h2 with h2 | ⟨x,hx,w0,e⟩
 ·exact .inl h2
 ·refine .inr ⟨x,hx,w0,?_⟩
  have:=Gx hf _ hx
  rw [GB (fun e=>this (by rw [e]; simp))]
  exact e
theorem Et {anc:List Nat}:∀ {T:List (Nat×Nat)} {p},p∈T->Ak anc p.1=false->p∈DG anc T
 | [],p,h,_=>by cases h
 | q::r,p,h,hn=>by
  simp only [DG]
  rcases AL.1 h with rfl | h
  ·rw [if_neg (by rw [hn]; simp)]; simp
  ·split
   ·exact Et h hn
   ·exact List.mem_cons_of_mem _ (Et h hn)
theorem Il {anc tch:List Nat} {s:St}:∀ {T:List (Nat×Nat)},JH anc tch s T=true->∀ p∈T,Ak anc p.1=false->(CB s.fr p.2).clear tch=true
 | [],_,p,hp,_=>by cases hp
 | q::r,h,p,hp,hn=>by
  simp only [JH,U,EZ] at h
  rcases AL.1 hp with rfl | hp
  ·rcases h.1 with h1 | h1
   ·rw [hn] at h1; cases h1
   ·exact h1
  ·exact Il h.2 p hp hn
theorem Kk {H H':HP} {φ φ':As} {s:St} {st':List AC} {w w':World} {v:Value} {a:AV} {tch:List Nat} (hs:SR H φ s.st w) (hst:AG H φ s.st w H' φ' st' w') (hm:Pw tch φ s.st w w') (hv:VA H φ s.st a v)
  (h:a.clear tch=true):∀ b,A_ v b->w'.heap[b]? = w.heap[b]? := by
 intro b hb
 have keepH:∀ o,H b=some o->w'.heap[b]? = w.heap[b]? := fun o ho=>by rw [hst.sr.hp b o (hst.le b o ho),hs.hp b o ho]
 cases a with
 | ptr id off =>
  obtain ⟨hva,b0,e1,e2⟩:=hv
  rw [e2] at hb
  cases hb
  unfold AJ at hva
  split at hva
  ·rename_i cs hid
   exact hm id _ hid rfl (AW.1 (by simpa [AV.clear] using h)) b0 (MQ (by rw [e1]; rfl))
  ·cases hva
 | eptr id i off =>
  obtain ⟨b0,n,cap,K,hk,hi,e1,e2⟩:=hv
  rw [e2] at hb
  cases hb
  unfold AA at hk
  split at hk
  ·rename_i t K' xs hid
   exact hm id _ hid rfl (AW.1 (by simpa [AV.clear] using h)) b0 (MQ (by rw [e1]; rfl))
  ·rename_i K' xs hid
   cases hk
   obtain ⟨⟨sl,cap',e3,_,hr⟩,_⟩:=hs.box id _ hid
   rcases hr with rfl | ⟨b1,o1,c,el,fz,e4,e5,_⟩
   ·simp at hi
   ·rw [e1] at e3
    simp only [Value.slice.injEq] at e3
    rw [e4] at e3
    obtain ⟨e6,_⟩:=e3
    simp only [AS,Addr.mk.injEq] at e6
    obtain ⟨rfl,_⟩:=e6
    exact keepH _ e5
  ·rename_i t K' xs hid
   exact hm id _ hid rfl (AW.1 (by simpa [AV.clear] using h)) b0 (MQ (by rw [e1]; rfl))
  ·rename_i t xs hid
   cases hk
   exact hm id _ hid rfl (AW.1 (by simpa [AV.clear] using h)) b0 (MQ (by rw [e1]; rfl))
  ·rename_i m t K' xs i' q hid
   exact hm id _ hid rfl (AW.1 (by simpa [AV.clear] using h)) b0 (MQ (by rw [e1]; rfl))
  ·cases hk
 | fptr cs off =>
  obtain ⟨b0,o,c,el,fz,e,hb0,_⟩:=hv
  rw [e] at hb
  cases hb
  exact keepH _ hb0
 | _=>cases h
theorem Vd {n:Nat} {o:Oper} {d x:Nat} {m:Option Nat} (h:QC P n o d (.t x) m=true):∃ t,o.op=.load t (.tmp x):=by
 simp only [QC,U] at h
 have h2:=h.2
 split at h2
 ·rename_i t y ho
  simp only [U] at h2
  have:=h2.1
  cases y<;>simp [BZ] at this
  subst this
  exact ⟨t,ho⟩
 ·cases h2
theorem Um {n:Nat} {o:Oper} {ao:CF} {t:TypeId} {y:Operand} {ρ:Type} {kn:St->Option ρ} {r:ρ} {cal:Cg} {s:St} (hb:P1 P n o ao=true) (hop:o.op=.load t y) (hv:ao.isVal=true) (hk:Bs cal kn s ao=some r) :
  ∃ d x m,ao=.load d (.t x) m:=by
 cases ao<;>first | cases hv | skip
 case load d x m =>
  cases x with
  | t x=>exact ⟨d,x,m,rfl⟩
  | c a =>
   exfalso
   simp only [P1,QC,hop,U] at hb
   simp only [Bs,St.opd] at hk
   have h2:=hb.2.1
   cases y with
   | const v =>
    have h3:a=.undef\/Ng v a=true:=by cases a<;>first | exact .inl rfl | exact .inr h2
    rcases h3 with rfl | h3
    ·simp [St.behind] at hk
    ·have:=Ke (H:=fun _=>none) (v:=v) (a:=a) h3
     cases a<;>first | exact this.elim | (simp [St.behind] at hk)
   | func f =>
    cases a<;>first | (simp [BZ] at h2; done) | (simp [St.behind] at hk)
   | tmp t=>simp [BZ] at h2
   | global g=>simp [BZ] at h2
 all_goals (exfalso; simp [P1,Xs,PA,T1,WM,WN,Xt,WK,WJ,SF,WR,T4,T5,Xv,Xu,Wb,Wd,WO,WL,SI,hop] at hb)
def LS (M L:Array Bool) (S:List Nat):Prop:=M.size=L.size/\∀ k,M.getD k true=(L.getD k true||Ak S k)
theorem LS.refl (L:Array Bool):LS L L []:=⟨rfl,fun k=>by simp [Ak]⟩
theorem Lb {M:Array Bool} {k:Nat}:M.getD k false=(M.getD k true&&decide (k<M.size)):=by
 rw [Array.getD_eq_getD_getElem?,Array.getD_eq_getD_getElem?]
 by_cases h:k<M.size
 ·simp [h]
 ·simp [h]
theorem LS.getF {M L:Array Bool} {S:List Nat} (h:LS M L S) (k:Nat):M.getD k false=(L.getD k false||(Ak S k&&decide (k<L.size))):=by
 rw [Lb,Lb,h.2,h.1]
 cases L.getD k true<;>cases Ak S k<;>simp
theorem Im {M:Array Bool} {i k:Nat}:(M.setIfInBounds i true).getD k true=(M.getD k true||(i==k)):=by
 by_cases h:i=k
 ·subst h
  rw [Array.getD_eq_getD_getElem?]
  by_cases h2:i<M.size
  ·simp [h2]
  ·simp [h2]
 ·rw [getD_set_ne true h]
  simp [h]
theorem LS.set {M L:Array Bool} {S:List Nat} (h:LS M L S) (i:Nat):LS (M.setIfInBounds i true) (L.setIfInBounds i true) S:=by
 refine ⟨by simp [h.1],fun k=>?_⟩
 rw [Im,Im,h.2]
 cases L.getD k true<;>cases Ak S k<;>cases (i==k)<;>rfl
theorem LS.early {M L:Array Bool} {S:List Nat} (h:LS M L S) (f:Nat):LS (M.setIfInBounds f true) L (f::S):=by
 refine ⟨by simp [h.1],fun k=>?_⟩
 rw [Im,h.2]
 simp only [Ak]
 by_cases e:f=k<;>simp [e]
theorem LS.adopt {M L:Array Bool} {a b:List Nat} {i:Nat} (h:LS M L (a++i::b)):LS M (L.setIfInBounds i true) (a++b):=by
 refine ⟨by simp [h.1],fun k=>?_⟩
 rw [Im,h.2,Ho,Ho]
 simp only [Ak]
 by_cases e:i=k
 ·simp [e]
 ·have:(i==k)=false:=by simpa using e
  rw [this]
  cases L.getD k true<;>cases Ak a k<;>cases Ak b k<;>simp [e]
theorem Wi (L:Array Bool):∀ (fl:List Nat),(Ul L fl).size=L.size/\∀ k,(Ul L fl).getD k true=(L.getD k true||Ak fl k):=by
 intro fl
 unfold Ul
 induction fl generalizing L with
 | nil=>exact ⟨rfl,fun k=>by simp [Ak]⟩
 | cons f fl ih =>
  obtain ⟨h1,h2⟩:=ih (L.setIfInBounds f true)
  refine ⟨by simpa using h1,fun k=>?_⟩
  rw [List.foldl_cons,h2,Im]
  simp only [Ak]
  by_cases e:f=k
  ·simp [e]
  ·have:(f==k)=false:=by simpa using e
   rw [this,if_neg e,Bool.or_false]
def RG:List Bool->Nat
 | []=>0
 | b::r=>(if b=true then 0 else 1)+RG r
theorem Sz:∀ (l:List Bool) (i:Nat),l[i]? = some false->RG (l.set i true)+1=RG l
 | [],i,h=>by simp at h
 | b::l,0,h=>by simp at h; subst h; simp [RG]; omega
 | b::l,i+1,h=>by
  have:=Sz l i (by simpa using h)
  simp only [List.set_cons_succ,RG]
  omega
theorem Kl {M:Array Bool} {i:Nat} (h:M.getD i true=false):RG (M.setIfInBounds i true).toList+1=RG M.toList:=by
 rw [Array.toList_setIfInBounds]
 apply Sz
 rw [Array.getD_eq_getD_getElem?] at h
 cases hq:M[i]? with
 | none=>rw [hq] at h; cases h
 | some b=>rw [hq] at h; simp at h; subst h; simpa using hq
theorem Wj (n:Nat):RG (List.replicate n false)=n:=by
 induction n with
 | zero=>rfl
 | succ n ih=>rw [List.replicate_succ]; simp [RG,ih]; omega
def UD (P:Program) (ops:Array Oper) (wb:World) (H:HP) (φ:As) (st:List AC) (act:Act) (w:World) (f b:Nat):Prop :=
 ∃ o d obj,ops[f]? = some o/\o.dst=some d/\d<act.tmps.size/\Wf P o act obj/\act.tmps.getD d undef=PB o.op b/\LZ H φ st w b obj/\wb.heap.size<=b
theorem UD.put {ops:Array Oper} {wb:World} {H H':HP} {φ φ':As} {st st':List AC} {act:Act} {w w':World} {f b:Nat} (h:UD P ops wb H φ st act w f b) {oi:Oper} {v:Value}
  (hsel:∀ (j:Nat) (o:Oper) cs b,ops[j]? = some o->o.op≠.select cs b) (hap:∀ o,ops[f]? = some o->oi.apart ops o=true) (hl:∀ obj,LZ H φ st w b obj->LZ H' φ' st' w' b obj):UD P ops wb H' φ' st' (act.put oi.dst v) w' f b:=by
 obtain ⟨o,d,obj,h1,h2,h3,h4,h5,h6,h7⟩:=h
 obtain ⟨a1,a2,_⟩:=Oper.apart_spec (hap o h1)
 refine ⟨o,d,obj,h1,h2,by rw [DU]; exact h3,fun w2=>?_,?_,hl obj h6,h7⟩
 ·rw [execOp_put o (fun cs b=>hsel f o cs b h1) act oi.dst v a1]
  exact h4 w2
 ·rw [GB (fun e=>a2 d e h2)]
  exact h5
theorem Rs {ops:Array Oper} {i:Nat} {js:List Nat} (h:Vc ops i js=true) {j:Nat} (hj:j∈js):∃ a b,ops[i]? = some a/\ops[j]? = some b/\a.apart ops b=true/\b.apart ops a=true:=by
 have:=Am.1 h j hj
 split at this
 ·rename_i a b ha hb
  simp only [U] at this
  exact ⟨a,b,ha,hb,this.1,this.2⟩
 ·cases this
theorem KC {ops:Array Oper}:∀ {l:List Nat},Ik ops l=true->∀ i∈l,∀ j∈l,i≠j->∃ a b,ops[i]? = some a/\ops[j]? = some b/\a.apart ops b=true
 | [],_,i,hi,_,_,_=>by cases hi
 | x::l,h,i,hi,j,hj,hne=>by
  simp only [Ik,U] at h
  rcases AL.1 hi with e1 | hi
  ·subst e1
   rcases AL.1 hj with e2 | hj
   ·exact absurd e2.symm hne
   ·obtain ⟨a,b,h1,h2,h3,_⟩:=Rs h.1.2 hj
    exact ⟨a,b,h1,h2,h3⟩
  ·rcases AL.1 hj with e2 | hj
   ·rw [e2]
    obtain ⟨a,b,h1,h2,_,h4⟩:=Rs h.1.2 hi
    exact ⟨b,a,h2,h1,h4⟩
   ·exact KC h.2 i hi j hj hne
theorem Mk {s:St} {T:List (Nat×Nat)}:∀ {fl:List (Nat×CF)},MM s T fl=true->∀ f∈fl,f.2.floatOk s=true/\ML s f.2.dsts=true/\Da f.2.dsts T=true
 | [],_,f,hf=>by cases hf
 | g::fl,h,f,hf=>by
  simp only [MM,U] at h
  rcases AL.1 hf with rfl | hf
  ·exact ⟨h.1.1.1,h.1.1.2,h.1.2⟩
  ·exact Mk h.2 f hf
theorem Xl {n:Nat} {ops:Array Oper} {anc:List (List Nat)} {cal:Cg} (hcal:DK P cal) (hA:Td ops anc=true) (hsel:Region.noSelect ops=true) {ρ:Type} {kn:St->Option ρ} {r:ρ} {N:Act->World->Prop}
  {Hb:HP} {φb:As} {stb:List AC} {wb:World} {ab:Act}
  (hN:∀ s' act' w' H' φ',kn s'=some r->AG Hb φb stb wb H' φ' s'.st w'->B9 H' φ' s'.st s'.fr act'.tmps->act'.tmps.size=n->act'.defers=ab.defers->N act' w') :
  ∀ (t:DT) (fuel:Nat) (F S:List Nat) (B:Nat->Nat) (T:List (Nat×Nat)) (TT:PR) (L M:Array Bool) (s:St) (act:Act) (w:World) (H:HP) (φ:As),P2 P n ops t L F=true->LS M L S->(∀ f∈S,Ak F f=true/\f∈Region.ready .any ops L) ->
   S.Nodup->(∀ f∈S,∀ g∈S,f≠g->B f≠B g)->RG M.toList<=fuel->RF ops L->RF ops M ->
   AG Hb φb stb wb H φ s.st w->B9 H φ s.st s.fr act.tmps->act.tmps.size=n->act.defers=ab.defers->PF act w T TT->(∀ f∈S,∀ p∈TT,Ak (anc.getD f []) p.1=false)->(∀ f∈S,UD P ops wb H φ s.st act w f (B f))->dK cal anc kn t T s=some r ->
   La P ops (fun e a w=>match e with | .normal=>N a w | _=>False) (fun i=>anc.getD i []) fuel TT M act w:=by
 have hsnd:=Region.noSelect_spec hsel
 intro t
 induction t with
 | done =>
  intro fuel F S B T TT L M s act w H φ hb hls hS _ _ hfu _ _ hB hf hn hde _ _ _ hk
  simp only [P2,U,List.isEmpty_iff] at hb
  have hS0:S=[]:=by
   cases S with
   | nil=>rfl
   | cons f S =>
    have:=(hS f (by simp)).2
    rw [hb.1] at this
    cases this
  subst hS0
  have hM:Region.ready .any ops M=[]:=by
   rw [List.eq_nil_iff_forall_not_mem]
   intro j hj
   obtain ⟨h1,o,h2,h3⟩:=mem_ready.1 hj
   have:j∈Region.ready .any ops L:=mem_ready.2 ⟨by have:=hls.2 j; simp only [Ak,Bool.or_false] at this; rw [<- this]; exact h1,o,h2,fun e he hbi=>by have:=hls.getF e.on; simp only [Ak,Bool.false_and,Bool.or_false] at this; rw [<- this]; exact h3 e he hbi⟩
   rw [hb.1] at this
   cases this
  have hq:=hN s act w H φ hk hB hf hn hde
  cases fuel with
  | zero=>exact ⟨hM,hq⟩
  | succ fuel=>exact ⟨fun _=>hq,fun i hi=>by rw [hM] at hi; cases hi⟩
 | test c a b iha ihb =>
  intro fuel F S B T TT L M s act w H φ hb hls hS hnd hBd hfu hsh hshM hB hf hn hde hp hAn hpf hk
  simp only [P2,U] at hb
  simp only [dK] at hk
  split at hk
  ·rename_i t ht
   have hfc:∀ t',t=t'->B9 H φ (s.put c (.bool t')).st (s.put c (.bool t')).fr act.tmps:=by
    intro t' e q
    subst e
    simp only [St.put,CB]
    split
    ·rename_i e; subst e; have:=hf c; rw [ht] at this; exact this
    ·exact hf q
   split at hk
   ·rename_i e
    exact iha fuel F S B T TT L M (s.put c (.bool true)) act w H φ hb.1 hls hS hnd hBd hfu hsh hshM hB (hfc true e) hn hde hp hAn hpf hk
   ·rename_i e
    exact ihb fuel F S B T TT L M (s.put c (.bool false)) act w H φ hb.2 hls hS hnd hBd hfu hsh hshM hB (hfc false (by simpa using e)) hn hde hp hAn hpf hk
  ·cases hk
 | fork i ai ri j aj rj ihi ihj =>
  intro fuel F S B T TT L M s act w H φ hb hls hS hnd hBd hfu hsh hshM hB hf hn hde hp hAn hpf hk
  simp only [P2,U,List.isEmpty_iff] at hb
  obtain ⟨⟨⟨⟨⟨⟨hF,hri⟩,hall⟩,hoi⟩,hoj⟩,hbi⟩,hbj⟩:=hb
  have hS0:S=[]:=by
   cases S with
   | nil=>rfl
   | cons f S =>
    have:=(hS f (by simp)).1
    rw [hF] at this
    cases this
  subst hS0
  simp only [dK] at hk
  obtain ⟨hki,hkj⟩:=NW.1 hk
  have hq:∀ k∈Region.ready .any ops M,k∈Region.ready .any ops L:=fun k hk=>by
   obtain ⟨h1,o,h2,h3⟩:=mem_ready.1 hk
   exact mem_ready.2 ⟨by have:=hls.2 k; simp only [Ak,Bool.or_false] at this; rw [<- this]; exact h1,o,h2,fun e he hbi=>by have:=hls.getF e.on; simp only [Ak,Bool.false_and,Bool.or_false] at this; rw [<- this]; exact h3 e he hbi⟩
  have hqL:∀ k∈Region.ready .any ops L,k∈Region.ready .any ops M:=fun k hk=>by
   obtain ⟨h1,o,h2,h3⟩:=mem_ready.1 hk
   exact mem_ready.2 ⟨by rw [hls.2,h1]; rfl,o,h2,fun e he hbi=>by rw [hls.getF,h3 e he hbi]; rfl⟩
  obtain ⟨i0,hi0⟩:∃ k,k∈Region.ready .any ops L:=⟨i,by simpa using hri⟩
  obtain ⟨fuel,rfl⟩:∃ k,fuel=k+1:=⟨fuel-1,by
   have:=Kl (mem_ready.1 (hqL i0 hi0)).1
   omega⟩
  refine ⟨fun h=>(by have:=hqL i0 hi0; rw [h] at this; cases this),fun k hkM=>?_⟩
  have hcnt:=Kl (mem_ready.1 hkM).1
  have hkL:=hq k hkM
  have hkk:=Am.1 hall k hkL
  simp only [EZ,beq_iff_eq] at hkk
  rcases hkk with e | e
  ·subst e
   split at hoi
   case h_2=>cases hoi
   rename_i o hoi
   simp only [U,decide_eq_true_eq] at hoi
   obtain ⟨⟨hg,hob⟩,hds⟩:=hoi
   split at hki
   case isFalse=>cases hki
   rename_i hc
   simp only [U] at hc
   obtain ⟨hc2,hc3⟩:=hc
   have hfr:Da o.dst.toList T=true:=by rw [hds]; exact hc2
   unfold wpOp
   simp only [hoi,JP (g:=none) hf rfl hg,if_true]
   refine .inl (QP hcal hob ρ (fun s'=>dK cal anc kn ri (DG (anc.getD k []) T) s') r s act w H φ _ _ hB.sr hf hn hki fun s' v w' H' φ' h1 h2 h3 h4=>?_)
   have hpend:PF (act.put o.dst v) w' (DG (anc.getD k []) T) (IN (anc.getD k []) TT):=by
    intro p hp'
    obtain ⟨hp1,hp2⟩:=C_ p hp'
    obtain ⟨q1,q2⟩:=hp p hp1
    rcases q2 with q2 | ⟨x,hx,w0,e⟩
    ·exact ⟨q2 w',.inl q2⟩
    ·have hxf:=Gx hfr _ hx
     have hgd:(act.put o.dst v).tmps.getD x undef=act.tmps.getD x undef:=GB (fun e=>hxf (by rw [e]; simp))
     refine ⟨?_,.inr ⟨x,Et hx hp2,w0,by rw [hgd]; exact e⟩⟩
     have hun:=Kk hB.sr h2 h4.mem (hf x) (Il hc3 _ hx hp2)
     rw [e] at q1 ⊢
     intro b hb'
     rw [hun b hb']
     exact q1 b hb'
   exact ⟨fun p hp'=>(hpend p hp').1,ihi fuel [] [] B _ _ (L.setIfInBounds k true) _ s' _ w' H' φ' hbi (hls.set k) (fun f hf'=>by cases hf') List.nodup_nil (fun f hf'=>by cases hf') (by omega) (hsh.set hkL) (hshM.set hkM) (hB.trans h2) h3 (DU.trans hn) (Cw.trans hde) hpend (fun f hf'=>by cases hf') (fun f hf'=>by cases hf') h1⟩
  ·subst e
   split at hoj
   case h_2=>cases hoj
   rename_i o hoi
   simp only [U,decide_eq_true_eq] at hoj
   obtain ⟨⟨hg,hob⟩,hds⟩:=hoj
   split at hkj
   case isFalse=>cases hkj
   rename_i hc
   simp only [U] at hc
   obtain ⟨hc2,hc3⟩:=hc
   have hfr:Da o.dst.toList T=true:=by rw [hds]; exact hc2
   unfold wpOp
   simp only [hoi,JP (g:=none) hf rfl hg,if_true]
   refine .inl (QP hcal hob ρ (fun s'=>dK cal anc kn rj (DG (anc.getD k []) T) s') r s act w H φ _ _ hB.sr hf hn hkj fun s' v w' H' φ' h1 h2 h3 h4=>?_)
   have hpend:PF (act.put o.dst v) w' (DG (anc.getD k []) T) (IN (anc.getD k []) TT):=by
    intro p hp'
    obtain ⟨hp1,hp2⟩:=C_ p hp'
    obtain ⟨q1,q2⟩:=hp p hp1
    rcases q2 with q2 | ⟨x,hx,w0,e⟩
    ·exact ⟨q2 w',.inl q2⟩
    ·have hxf:=Gx hfr _ hx
     have hgd:(act.put o.dst v).tmps.getD x undef=act.tmps.getD x undef:=GB (fun e=>hxf (by rw [e]; simp))
     refine ⟨?_,.inr ⟨x,Et hx hp2,w0,by rw [hgd]; exact e⟩⟩
     have hun:=Kk hB.sr h2 h4.mem (hf x) (Il hc3 _ hx hp2)
     rw [e] at q1 ⊢
     intro b hb'
     rw [hun b hb']
     exact q1 b hb'
   exact ⟨fun p hp'=>(hpend p hp').1,ihj fuel [] [] B _ _ (L.setIfInBounds k true) _ s' _ w' H' φ' hbj (hls.set k) (fun f hf'=>by cases hf') List.nodup_nil (fun f hf'=>by cases hf') (by omega) (hsh.set hkL) (hshM.set hkM) (hB.trans h2) h3 (DU.trans hn) (Cw.trans hde) hpend (fun f hf'=>by cases hf') (fun f hf'=>by cases hf') h1⟩
 | skip i g d rt ih =>
  intro fuel F S B T TT L M s act w H φ hb hls hS hnd hBd hfu hsh hshM hB hf hn hde hp hAn hpf hk
  simp only [P2,U,Co] at hb
  obtain ⟨⟨⟨⟨hr,hfree⟩,hiF⟩,ho⟩,hb⟩:=hb
  split at ho
  case h_2=>cases ho
  rename_i o hoi
  simp only [U,decide_eq_true_eq] at ho
  obtain ⟨⟨hg,rfl⟩,hdn⟩:=ho
  simp only [dK] at hk
  split at hk
  case isFalse=>cases hk
  rename_i hc
  simp only [U] at hc
  have hri:i∈Region.ready .any ops L:=by simpa using hr
  have hiS:i∉S:=fun h=>by have:=(hS i h).1; rw [hiF] at this; cases this
  have hriM:i∈Region.ready .any ops M:=by
   obtain ⟨h1,o',h2,h3⟩:=mem_ready.1 hri
   exact mem_ready.2 ⟨by rw [hls.2,h1,AW.2 hiS]; rfl,o',h2,fun e he hbi=>by rw [hls.getF,h3 e he hbi]; rfl⟩
  have hfreeL:=Region.free_spec hoi hfree
  have hfreeM:∀ j oj,ops[j]? = some oj->j≠i->M.getD j true=false->(∀ e∈oj.after,Region.binds .any e=true->e.on≠i)->o.apart ops oj=true:=fun j oj h1 h2 h3 h4 =>
   hfreeL j oj h1 h2 (by rw [hls.2] at h3; simp only [Bool.or_eq_false_iff] at h3; exact h3.1) h4
  have hcnt:=Kl (mem_ready.1 hriM).1
  obtain ⟨fuel,rfl⟩:∃ k,fuel=k+1:=⟨fuel-1,by omega⟩
  refine Mj hA (C:=fun _=>True) hoi hsnd (fun c a w h=>h) fuel TT M act w hshM hfreeM hriM (.inr ⟨Sy hf hc.1 hg,rfl⟩) trivial (fun p hp'=>(hp p hp').1) ?_
  have hf2:B9 H φ s.st (Sc o.dst .void s.fr) (act.put o.dst undef).tmps:=by
   cases hdst:o.dst with
   | none=>exact hf
   | some d =>
    rw [hdst] at hdn
    simp only [decide_eq_true_eq] at hdn
    exact hf.put (a:=.void) (v:=undef) (by omega) rfl
  have hAn':∀ (C:World->Prop),∀ f∈S,∀ p∈(i,C)::TT,Ak (anc.getD f []) p.1=false:=fun C f hf' p hp'=>by
   rcases AL.1 hp' with rfl | hp'
   ·rw [AW]
    intro hm
    have:=G6 hA hsh f (By (hS f hf').2).1 (By (hS f hf').2).2 _ hm
    rw [Cb hri] at this
    cases this
   ·exact hAn f hf' p hp'
  refine ih fuel F S B T _ (L.setIfInBounds i true) _ ⟨Sc o.dst .void s.fr,s.st⟩ _ w H φ hb (hls.set i) (fun f hf'=>⟨(hS f hf').1,ready_mono (hS f hf').2 (fun e=>hiS (e▸hf'))⟩) hnd hBd (by omega) (hsh.set hri) (hshM.set hriM) hB hf2 (DU.trans hn) (Cw.trans hde) ?_ (hAn' _) (fun f hf'=>?_) hk
  ·intro p hp'
   rcases AL.1 hp' with rfl | hp'
   ·exact ⟨trivial,.inl fun _=>trivial⟩
   ·exact (hp.put hc.2) p hp'
  ·refine (hpf f hf').put hsnd (fun of hof=>hfreeL f of hof (fun e=>hiS (e▸hf')) (mem_ready.1 (hS f hf').2).1 (fun e he hbi heq=>?_)) (fun _ h=>h)
   obtain ⟨_,o',h2,h3⟩:=mem_ready.1 (hS f hf').2
   rw [hof] at h2
   cases h2
   have:=h3 e he hbi
   rw [heq,Cb hri] at this
   cases this
 | take i g ao rt ih =>
  intro fuel F S B T TT L M s act w H φ hb hls hS hnd hBd hfu hsh hshM hB hf hn hde hp hAn hpf hk
  simp only [P2,U,Co] at hb
  obtain ⟨⟨⟨⟨⟨hr,hfree⟩,hiF⟩,hval⟩,ho⟩,hb⟩:=hb
  split at ho
  case h_2=>cases ho
  rename_i o hoi
  simp only [U,decide_eq_true_eq] at ho
  obtain ⟨⟨hg,hob⟩,hds⟩:=ho
  simp only [dK] at hk
  split at hk
  case isFalse=>cases hk
  rename_i hc
  simp only [U] at hc
  obtain ⟨hc,hns⟩:=hc
  have hri:i∈Region.ready .any ops L:=by simpa using hr
  have hiS:i∉S:=fun h=>by have:=(hS i h).1; rw [hiF] at this; cases this
  have hriM:i∈Region.ready .any ops M:=by
   obtain ⟨h1,o',h2,h3⟩:=mem_ready.1 hri
   exact mem_ready.2 ⟨by rw [hls.2,h1,AW.2 hiS]; rfl,o',h2,fun e he hbi=>by rw [hls.getF,h3 e he hbi]; rfl⟩
  have hfreeL:=Region.free_spec hoi hfree
  have hfreeM:∀ j oj,ops[j]? = some oj->j≠i->M.getD j true=false->(∀ e∈oj.after,Region.binds .any e=true->e.on≠i)->o.apart ops oj=true:=fun j oj h1 h2 h3 h4 =>
   hfreeL j oj h1 h2 (by rw [hls.2] at h3; simp only [Bool.or_eq_false_iff] at h3; exact h3.1) h4
  have hcnt:=Kl (mem_ready.1 hriM).1
  obtain ⟨fuel,rfl⟩:∃ k,fuel=k+1:=⟨fuel-1,by omega⟩
  have info:∃ s' v H' φ',dK cal anc kn rt (MK i ao T) s'=some r/\AG H φ s.st w H' φ' s'.st w/\B9 H' φ' s'.st s'.fr (act.put o.dst v).tmps/\∀ w2,Br o act w w2->(execOp act.eval o).run P w2=.ok (.value v) w2:=by
   refine Wh (P:=P) (o:=o) (a:=act) (w:=w) (QP hcal hob ρ (fun s'=>dK cal anc kn rt (MK i ao T) s') r s act w H φ _ _ hB.sr hf hn hk fun s' v w' H' φ' h1 h2 h3 h4=>?_)
   obtain ⟨e,h5⟩:=h4.val hval
   subst e
   exact ⟨s',v,H',φ',h1,h2,h3,h5⟩
  obtain ⟨s',v,H',φ',hk',hst,hf',hrun⟩:=info
  refine Mj hA (C:=Br o act w) hoi hsnd (fun c a w h=>h) fuel TT M act w hshM hfreeM hriM (.inl ⟨JP hf hc.1 hg,hrun⟩) (Br.refl o act w) (fun p hp'=>(hp p hp').1) ?_
  have hfr:Da o.dst.toList T=true:=by rw [hds]; exact hc.2
  have hAn':∀ (C:World->Prop),∀ f∈S,∀ p∈(i,C)::TT,Ak (anc.getD f []) p.1=false:=fun C f hf' p hp'=>by
   rcases AL.1 hp' with rfl | hp'
   ·rw [AW]
    intro hm
    have:=G6 hA hsh f (By (hS f hf').2).1 (By (hS f hf').2).2 _ hm
    rw [Cb hri] at this
    cases this
   ·exact hAn f hf' p hp'
  refine ih fuel F S B _ _ (L.setIfInBounds i true) _ s' _ w H' φ' hb (hls.set i) (fun f hf'=>⟨(hS f hf').1,ready_mono (hS f hf').2 (fun e=>hiS (e▸hf'))⟩) hnd hBd (by omega) (hsh.set hri) (hshM.set hriM) (hB.trans hst) hf' (DU.trans hn) (Cw.trans hde) ?_ (hAn' _) (fun f hfS=>?_) hk'
  ·intro p hp'
   rcases AL.1 hp' with rfl | hp'
   ·refine ⟨Br.refl o act w,?_⟩
    by_cases hload:∃ d x m,ao=.load d (.t x) m
    ·obtain ⟨d,x,m,rfl⟩:=hload
     simp only [P1] at hob
     obtain ⟨t,ht⟩:=Vd hob
     right
     have hxd:o.dst≠some x:=by
      have hd1:o.dst=some d:=by
       simp only [QC,U] at hob
       exact (Ap hob.1).1
      rw [hd1]
      intro e
      cases e
      simp [CF.notSelf] at hns
     refine ⟨x,by simp [MK],w,?_⟩
     funext w2
     simp only [Br,ht,Act.eval]
     rw [GB hxd]
    ·left
     intro w2
     unfold Br
     split
     ·rename_i t y hop
      exfalso
      apply hload
      exact Um hob hop hval hk
     ·trivial
   ·obtain ⟨h1,h2⟩:=(hp.put hfr) p hp'
    refine ⟨h1,?_⟩
    rcases h2 with h2 | ⟨x,hx,w0,e⟩
    ·exact .inl h2
    ·refine .inr ⟨x,?_,w0,e⟩
     unfold MK
     split
     ·exact List.mem_cons_of_mem _ hx
     ·exact hx
  ·refine (hpf f hfS).put hsnd (fun of hof=>hfreeL f of hof (fun e=>hiS (e▸hfS)) (mem_ready.1 (hS f hfS).2).1 (fun e he hbi heq=>?_)) (fun _ h=>h.step hst)
   obtain ⟨_,o',h2,h3⟩:=mem_ready.1 (hS f hfS).2
   rw [hof] at h2
   cases h2
   have:=h3 e he hbi
   rw [heq,Cb hri] at this
   cases this
 | only i g ao e fl rt ih =>
  intro fuel
  induction fuel using Nat.strongRecOn with
  | _ fuel ihf =>
  intro F S B T TT L M s act w H φ hb hls hS hnd hBd hfu hsh hshM hB hf hn hde hp hAn hpf hk
  have hb0:=hb
  have hk0:=hk
  simp only [P2,U] at hb
  obtain ⟨⟨⟨⟨⟨⟨⟨hr,hrF⟩,hFs⟩,hFi⟩,hfl⟩,hap⟩,ho⟩,hb⟩:=hb
  split at ho
  case h_2=>cases ho
  rename_i o hoi
  simp only [U,decide_eq_true_eq] at ho
  obtain ⟨⟨hg,hob⟩,hds⟩:=ho
  simp only [dK] at hk
  split at hk
  case isFalse=>cases hk
  rename_i hc
  simp only [U] at hc
  obtain ⟨⟨⟨⟨⟨hc1,hc2⟩,hc3⟩,hc4⟩,hc6⟩,hc5⟩:=hc
  have hri:i∈Region.ready .any ops L:=by simpa using hr
  have hfr:Da o.dst.toList T=true:=by rw [hds]; exact hc2
  have hanc:∀ k∈anc.getD i [],k≠i:=fun k hk e=>by
   have:=G6 hA hsh i (By hri).1 (By hri).2 k hk
   rw [e,Cb hri] at this
   cases this
  have hFsub:∀ f∈S,f=i\/f∈fl.map (·.1):=fun f hfS=>by
   have h1:=(hS f hfS).1
   have h2:=Am.1 hFs f (Bc.1 h1)
   simp only [EZ,beq_iff_eq] at h2
   exact h2.imp id Bc.1
  by_cases hiS:i∈S
  ·-- it came up before: now the boxes are told
   obtain ⟨oa,d,obj,q1,q2,q3,q4,q5,q6,q7⟩:=hpf i hiS
   rw [hoi] at q1
   cases q1
   have hfi:ao.isFloat=true:=by
    have h1:=(hS i hiS).1
    rw [h1] at hFi
    simp only [Bool.not_true,Bool.false_or,U] at hFi
    exact hFi.2
   have hfk:ao.floatOk s=true:=by
    have h1:=(hS i hiS).1
    rw [h1] at hFi
    simp only [Bool.not_true,Bool.false_or,U] at hFi
    rw [hFi.1] at hc5
    simpa using hc5
   obtain ⟨s',H',φ',hk',hst',hf',hoth⟩:=Vb hob hfi hfk hB hf hk q4 (fun d' hd'=>by rw [q2] at hd'; cases hd'; exact q5) q6 q7
   obtain ⟨S1,S2,rfl⟩:=List.append_of_mem hiS
   have hnd2:i∉S1++S2/\(S1++S2).Nodup:=by
    rw [List.nodup_append] at hnd
    obtain ⟨n1,n2,n3⟩:=hnd
    rw [List.nodup_cons] at n2
    refine ⟨fun h=>?_,?_⟩
    ·rcases BN.1 h with h | h
     ·exact n3 i h i (by simp) rfl
     ·exact n2.1 h
    ·rw [List.nodup_append]
     exact ⟨n1,n2.2,fun a ha b hb=>n3 a ha b (by simp [hb])⟩
   have hsub:∀ f∈S1++S2,f∈S1++i::S2:=fun f h=>by
    rcases BN.1 h with h | h
    ·simp [h]
    ·simp [h]
   refine ih fuel (fl.map (·.1)) (S1++S2) B _ _ (L.setIfInBounds i true) M s' act w H' φ' hb hls.adopt (fun f hf'=>?_) hnd2.2 (fun f hf' g hg'=>hBd f (hsub f hf') g (hsub g hg')) hfu (hsh.set hri) hshM hst' hf' hn hde ?_ (fun f hf'=>hAn f (hsub f hf')) (fun f hf'=>?_) hk'
   ·have hne:f≠i:=fun e=>hnd2.1 (e▸hf')
    refine ⟨Bc.2 ((hFsub f (hsub f hf')).resolve_left hne),ready_mono (hS f (hsub f hf')).2 hne⟩
   ·intro p hp'
    obtain ⟨h1,h2⟩:=hp p hp'
    refine ⟨h1,?_⟩
    rcases h2 with h2 | ⟨x,hx,w0,e⟩
    ·exact .inl h2
    ·exact .inr ⟨x,Et hx (hAn i hiS p hp'),w0,e⟩
   ·obtain ⟨o2,d2,obj2,p1,p2,p3,p4,p5,p6,p7⟩:=hpf f (hsub f hf')
    have hne:f≠i:=fun e=>hnd2.1 (e▸hf')
    exact ⟨o2,d2,obj2,p1,p2,p3,p4,p5,hoth _ _ (hBd f (hsub f hf') i hiS hne) p6,p7⟩
  ·have hriM:i∈Region.ready .any ops M:=by
    obtain ⟨h1,o',h2,h3⟩:=mem_ready.1 hri
    exact mem_ready.2 ⟨by rw [hls.2,h1,AW.2 hiS]; rfl,o',h2,fun e he hbi=>by rw [hls.getF,h3 e he hbi]; rfl⟩
   have hcnt:=Kl (mem_ready.1 hriM).1
   obtain ⟨fuel,rfl⟩:∃ k,fuel=k+1:=⟨fuel-1,by omega⟩
   have hSfl:∀ f∈S,f∈fl.map (·.1):=fun f hf'=>(hFsub f hf').resolve_left (fun e=>hiS (e▸hf'))
   refine ⟨fun h=>(by rw [h] at hriM; cases hriM),fun j hj=>?_⟩
   have hcj:=Kl (mem_ready.1 hj).1
   by_cases hji:j=i
   ·subst hji
    unfold wpOp
    simp only [hoi,JP hf hc1 hg,if_true]
    refine .inl (QP hcal hob ρ (fun s'=>dK cal anc kn rt (DG (anc.getD j []) T) s') r s act w H φ _ _ hB.sr hf hn hk fun s' v w' H' φ' h1 h2 h3 h4=>?_)
    have hpend:PF (act.put o.dst v) w' (DG (anc.getD j []) T) (IN (anc.getD j []) TT):=by
     intro p hp'
     obtain ⟨hp1,hp2⟩:=C_ p hp'
     obtain ⟨q1,q2⟩:=hp p hp1
     rcases q2 with q2 | ⟨x,hx,w0,e⟩
     ·exact ⟨q2 w',.inl q2⟩
     ·have hxf:=Gx hfr _ hx
      have hgd:(act.put o.dst v).tmps.getD x undef=act.tmps.getD x undef:=GB (fun e=>hxf (by rw [e]; simp))
      refine ⟨?_,.inr ⟨x,Et hx hp2,w0,by rw [hgd]; exact e⟩⟩
      have hun:=Kk hB.sr h2 h4.mem (hf x) (Il hc3 _ hx hp2)
      rw [e] at q1 ⊢
      intro b hb'
      rw [hun b hb']
      exact q1 b hb'
    refine ⟨fun p hp'=>(hpend p hp').1,ih fuel (fl.map (·.1)) S B _ _ (L.setIfInBounds j true) _ s' _ w' H' φ' hb (hls.set j) (fun f hf'=>⟨Bc.2 (hSfl f hf'),ready_mono (hS f hf').2 (fun e=>hiS (e▸hf'))⟩) hnd hBd (by omega) (hsh.set hri) (hshM.set hj) (hB.trans h2) h3 (DU.trans hn) (Cw.trans hde) hpend (fun f hf' p hp'=>hAn f hf' p (C_ p hp').1) (fun f hf'=>?_) h1⟩
    obtain ⟨a,b,k1,k2,k3⟩:=KC hap j (by simp) f (List.mem_cons_of_mem _ (hSfl f hf')) (fun e=>hiS (e▸hf'))
    rw [hoi] at k1
    cases k1
    exact (hpf f hf').put hsnd (fun of hof=>by rw [k2] at hof; cases hof; exact k3) (fun _ h=>h.step h2)
   ·-- one that comes up ahead of its turn
    have hjS:j∉S:=fun h=>by
     have h1:=(mem_ready.1 hj).1
     rw [hls.2,Bc.2 h] at h1
     simp at h1
    have hjfl:j∈fl.map (·.1):=by
     rcases Classical.em (j∈fl.map (·.1)) with h | h
     ·exact h
     ·exfalso
      obtain ⟨h1,o',h2,h3⟩:=mem_ready.1 hj
      have hLF:=Wi L (fl.map (·.1))
      have hrd:j∈Region.ready .any ops (Ul L (fl.map (·.1))):=by
       refine mem_ready.2 ⟨?_,o',h2,fun e he hbi=>?_⟩
       ·rw [hLF.2,AW.2 h]
        rw [hls.2] at h1
        simp only [Bool.or_eq_false_iff] at h1
        rw [h1.1]
        rfl
       ·have:=h3 e he hbi
        rw [Lb] at this ⊢
        simp only [U,decide_eq_true_eq] at this ⊢
        refine ⟨?_,by rw [hLF.1,<- hls.1]; exact this.2⟩
        rw [hLF.2]
        have h4:=this.1
        rw [hls.2] at h4
        simp only [EZ] at h4 ⊢
        exact h4.imp id fun h5=>Bc.2 (hSfl _ (Bc.1 h5))
      have:=Am.1 hrF j hrd
      simp only [beq_iff_eq] at this
      exact hji this
    obtain ⟨⟨j',aj⟩,hjm,hje⟩:=List.mem_map.1 hjfl
    simp only at hje
    subst hje
    have hfb:=Am.1 hfl _ hjm
    obtain ⟨k1,k2,k3⟩:=Mk hc4 _ hjm
    have hpk:=Am.1 hc6 _ hjm
    simp only [Te,U] at hfb
    obtain ⟨⟨hjr,hjfl2⟩,hfb⟩:=hfb
    split at hfb
    case h_2=>cases hfb
    rename_i oj hoj
    simp only [U,decide_eq_true_eq] at hfb
    obtain ⟨⟨⟨hjob,hjds⟩,hjg⟩,hjd⟩:=hfb
    split at hjd
    case h_2=>cases hjd
    rename_i d hdd
    simp only [U,Co,decide_eq_true_eq] at hjd
    have hjL:j'∈Region.ready .any ops L:=by simpa using hjr
    obtain ⟨obj,hborn⟩:=Wg hjob hjfl2 k1 hB.sr hf
    have hst:AG H φ s.st w H φ s.st (w.alloc obj):=AG.grow hB.sr (World.grownBy_alloc w obj none)
    have hfrj:Da oj.dst.toList T=true:=by rw [hjds]; exact k3
    have hund:CB s.fr d=.undef:=by
     rw [<- hjds,hdd] at k2
     simp only [Option.toList_some,ML,Bool.and_true] at k2
     split at k2
     ·rename_i h; exact h
     ·cases k2
    have hf2:B9 H φ s.st s.fr (act.put oj.dst (PB oj.op w.heap.size)).tmps:=by
     intro t
     by_cases ht:t=d
     ·subst ht
      rw [hund]
      trivial
     ·rw [GB (fun e=>ht (by rw [hdd] at e; cases e; rfl))]
      exact hf t
    have hpend:PF (act.put oj.dst (PB oj.op w.heap.size)) (w.alloc obj) T (IN (anc.getD j' []) TT):=by
     intro p hp'
     obtain ⟨hp1,hp2⟩:=C_ p hp'
     obtain ⟨q1,q2⟩:=hp p hp1
     rcases q2 with q2 | ⟨x,hx,w0,e⟩
     ·exact ⟨q2 _,.inl q2⟩
     ·have hxf:=Gx hfrj _ hx
      have hgd:(act.put oj.dst (PB oj.op w.heap.size)).tmps.getD x undef=act.tmps.getD x undef:=GB (fun e=>hxf (by rw [e]; simp))
      refine ⟨?_,.inr ⟨x,hx,w0,by rw [hgd]; exact e⟩⟩
      have hun:=Kk hB.sr hst (Pw.grown (W:=[]) hB.sr (World.grownBy_alloc w obj none)) (hf x) (Il hpk _ hx hp2)
      rw [e] at q1 ⊢
      intro b hb'
      rw [hun b hb']
      exact q1 b hb'
    have hiff:∀ f∈S,f≠j':=fun f hf' e=>hjS (e▸hf')
    unfold wpOp
    simp only [hoj,G5 (o:=oj) (Option.isNone_iff_eq_none.1 hjg) trivial,if_true]
    refine .inl (J7 (hborn w) ⟨fun p hp'=>(hpend p hp').1,?_⟩)
    have hbF:P2 P n ops (.only i g ao e fl rt) L (fl.map (·.1))=true:=by
     have hni:Ak (fl.map (·.1)) i=false:=by
      have:=hap
      simp only [Ik,U,Co] at this
      exact this.1.1
     simp only [P2,U] at hb0 ⊢
     obtain ⟨⟨⟨⟨⟨⟨⟨z1,z2⟩,_⟩,_⟩,z5⟩,z6⟩,z7⟩,z8⟩:=hb0
     exact ⟨⟨⟨⟨⟨⟨⟨z1,z2⟩,Am.2 fun f hf'=>by simp [Bc.2 hf']⟩,by rw [hni]; rfl⟩,z5⟩,z6⟩,z7⟩,z8⟩
    refine ihf fuel (by omega) (fl.map (·.1)) (j'::S) (fun f=>if f=j' then w.heap.size else B f) T _ L _ s _ (w.alloc obj) H φ hbF (hls.early j') ?_ (List.nodup_cons.2 ⟨hjS,hnd⟩) ?_ (by omega) hsh (hshM.set hj) (hB.trans hst) hf2 (DU.trans hn) (Cw.trans hde) hpend ?_ ?_ hk0
    ·intro f hf'
     rcases AL.1 hf' with rfl | hf'
     ·exact ⟨Bc.2 hjfl,hjL⟩
     ·exact ⟨Bc.2 (hSfl f hf'),(hS f hf').2⟩
    ·have hlt:∀ f∈S,B f<w.heap.size:=fun f hf'=>by
      obtain ⟨_,_,_,_,_,_,_,_,h6,_⟩:=hpf f hf'
      exact h6.lt
     intro f hf' g hg' hne
     rcases AL.1 hf' with e1 | hf'
     ·rcases AL.1 hg' with e2 | hg'
      ·exact absurd (e1.trans e2.symm) hne
      ·rw [if_pos e1,if_neg (hiff g hg')]
       have:=hlt g hg'
       omega
     ·rcases AL.1 hg' with e2 | hg'
      ·rw [if_pos e2,if_neg (hiff f hf')]
       have:=hlt f hf'
       omega
      ·rw [if_neg (hiff f hf'),if_neg (hiff g hg')]
       exact hBd f hf' g hg' hne
    ·intro f hf' p hp'
     rcases AL.1 hf' with rfl | hf'
     ·exact (C_ p hp').2
     ·exact hAn f hf' p (C_ p hp').1
    ·intro f hf'
     rcases AL.1 hf' with e1 | hf'
     ·subst e1
      rw [if_pos rfl]
      refine ⟨oj,d,obj,hoj,hdd,by rw [DU,hn]; exact hjd.2,fun w2=>?_,?_,LZ.alloc hB.sr obj,hB.size⟩
      ·rw [execOp_put oj (fun cs b=>hsnd f oj cs b hoj) act oj.dst _ (ops:=ops) (fun d' hd'=>by
        rw [hdd] at hd'
        cases hd'
        intro hm
        have:=hjd.1
        rw [List.contains_eq_mem,decide_eq_true hm] at this
        cases this)]
       exact hborn w2
      ·rw [G2 hdd,Array.getD_eq_getD_getElem?]
       simp [hn,hjd.2]
     ·rw [if_neg (hiff f hf')]
      obtain ⟨a,b,q1,q2,q3⟩:=KC hap j' (List.mem_cons_of_mem _ hjfl) f (List.mem_cons_of_mem _ (hSfl f hf')) (fun e=>hiff f hf' e.symm)
      rw [hoj] at q1
      cases q1
      exact (hpf f hf').put hsnd (fun of hof=>by rw [q2] at hof; cases hof; exact q3) (fun _ h=>h.step hst)
theorem Wk {n:Nat} {id:Nat} {ops:Array Oper} {anc:List (List Nat)} {t:DT} {cal:Cg} (hcal:DK P cal) (h:UC P n ops anc t=true) {ρ:Type} {kn:St->Option ρ} {r:ρ} {s:St} {act:Act} {w:World} {H:HP} {φ:As} {Q:Exit->Act->World->Prop}
  (hs:SR H φ s.st w) (hf:B9 H φ s.st s.fr act.tmps) (hn:act.tmps.size=n) (hk:dK cal anc kn t [] s=some r)
  (hN:∀ s' act' w' H' φ',kn s'=some r->AG H φ s.st w H' φ' s'.st w'->B9 H' φ' s'.st s'.fr act'.tmps->act'.tmps.size=n->act'.defers=act.defers->Q .normal act' w'):(Code.region id ops true).wp P Q act w:=by
 simp only [UC,U] at h
 obtain ⟨⟨⟨hm,hsel⟩,hA⟩,hb⟩:=h
 have hst:AG H φ s.st w H φ s.st { w with drawn:=w.drawn+1 }:=AG.grow hs ⟨rfl,rfl,rfl,Nat.le_refl _,fun _ _ _=>rfl⟩
 refine wp_mono (wp_region_any hm (Q:=fun e a w=>match e with | .normal=>Q .normal a w | _=>False) (QU (anc:=fun i=>anc.getD i []) ops.size [] _ act _ ?_)) fun e a w h=>by cases e<;>first | exact h | exact h.elim
 have hsh:RF ops (Array.replicate ops.size false):=by
  intro k o hk' _ _ _ _
  simp [Array.getElem?_replicate] at hk'
  split at hk'<;>simp at hk'
 exact Xl (ab:=act) (N:=fun a w=>Q .normal a w) hcal hA hsel (fun s' act' w' H' φ' h1 h2 h3 h4 h5=>hN s' act' w' H' φ' h1 h2 h3 h4 h5) t ops.size [] [] (fun _=>0) [] [] (Array.replicate ops.size false) _ s act _ H φ hb (LS.refl _)
  (fun f hf=>by cases hf) List.nodup_nil (fun f hf=>by cases hf) (by simp [Wj]) hsh hsh hst hf hn rfl (fun p hp=>by cases hp) (fun f hf=>by cases hf) (fun f hf=>by cases hf) hk
def Jg:List Nat->Nat
 | []=>0
 | i::r=>Nat.lor (Nat.shiftLeft 1 i) (Jg r)
def Ve (ops:Array Oper):List Nat:=ops.toList.map fun o=>Jg ((o.after.filter fun e=>Region.binds .any e).toList.map (·.on))
def XT (m i:Nat):Bool:=Nat.beq (Nat.land (Nat.shiftRight m i) 1) 1
def GF (pm:List Nat) (m i:Nat):Bool :=
 match pm[i]? with
 | some p=>!XT m i&&Nat.beq (Nat.land p m) p
 | none=>false
def UE (ops:Array Oper) (anc:List (List Nat)) (i:Nat):Bool :=
 match ops[i]? with
 | none=>false
 | some oi=>(List.range ops.size).all fun j=>j==i||Ak (anc.getD i []) j||match ops[j]? with
   | some oj=>oj.after.any (fun e=>Region.binds .any e&&e.on==i)||oi.apart ops oj
   | none=>true
def Tf (P:Program) (n:Nat) (ops:Array Oper) (pm:List Nat) (m:Nat) (f:Nat×CF):Bool :=
 GF pm m f.1&&f.2.isFloat&&(match ops[f.1]? with
  | some o=>P1 P n o f.2&&decide (o.dst.toList=f.2.dsts)&&o.guard.isNone&&(match o.dst with
   | some d=>!(o.looksAt ops).contains d&&decide (d<n)
   | none=>false)
  | none=>false)
def Tg (P:Program) (n:Nat) (ops:Array Oper) (anc:List (List Nat)) (pm:List Nat):DT->Array Bool->Nat->List Nat->Bool
 | .done,_,m,F=>(List.range ops.size).all (fun i=>!GF pm m i)&&F.isEmpty
 | .take i g ao r,L,m,F=>GF pm m i&&(UE ops anc i||Region.free .any ops L i)&&!Ak F i&&ao.isVal&&(match ops[i]? with
   | some o=>gB ops o g&&P1 P n o ao&&decide (o.dst.toList=ao.dsts)
   | none=>false)&&Tg P n ops anc pm r (L.setIfInBounds i true) (Nat.lor m (Nat.shiftLeft 1 i)) F
 | .skip i g d r,L,m,F=>GF pm m i&&(UE ops anc i||Region.free .any ops L i)&&!Ak F i&&(match ops[i]? with
   | some o=>gB ops o (some g)&&decide (o.dst=d)&&(match d with | some d=>decide (d<n) | none=>true)
   | none=>false)&&Tg P n ops anc pm r (L.setIfInBounds i true) (Nat.lor m (Nat.shiftLeft 1 i)) F
 | .only i g ao e fl r,L,m,F=>GF pm m i&&(List.range ops.size).all (fun k=>k==i||!GF pm (Nat.lor m (Jg (fl.map (·.1)))) k)&&F.all (fun f=>f==i||Ak (fl.map (·.1)) f)&&(!Ak F i||(e&&ao.isFloat))
   && fl.all (Tf P n ops pm m)&&Ik ops (i::fl.map (·.1))&&(match ops[i]? with
   | some o=>gB ops o g&&P1 P n o ao&&decide (o.dst.toList=ao.dsts)
   | none=>false)&&Tg P n ops anc pm r (L.setIfInBounds i true) (Nat.lor m (Nat.shiftLeft 1 i)) (fl.map (·.1))
 | .test _ a b,L,m,F=>Tg P n ops anc pm a L m F&&Tg P n ops anc pm b L m F
 | .fork i ai ri j aj rj,L,m,F=>F.isEmpty&&(GF pm m i&&GF pm m j)&&(List.range ops.size).all (fun k=>(k==i||k==j)||!GF pm m k)
   && (match ops[i]? with
   | some o=>gB ops o none&&P1 P n o ai&&decide (o.dst.toList=ai.dsts)
   | none=>false)&&(match ops[j]? with
   | some o=>gB ops o none&&P1 P n o aj&&decide (o.dst.toList=aj.dsts)
   | none=>false)&&Tg P n ops anc pm ri (L.setIfInBounds i true) (Nat.lor m (Nat.shiftLeft 1 i)) []&&Tg P n ops anc pm rj (L.setIfInBounds j true) (Nat.lor m (Nat.shiftLeft 1 j)) []
def Vf (P:Program) (n:Nat) (ops:Array Oper) (anc:List (List Nat)) (t:DT):Bool :=
 P.follows .mixedOrders&&Region.noSelect ops&&Td ops anc&&Tg P n ops anc (Ve ops) t (Array.replicate ops.size false) 0 []
theorem Wl (m i:Nat):XT m i=m.testBit i:=by
 have h:Nat.land (Nat.shiftRight m i) 1=(m >>> i) &&& 1:=rfl
 unfold XT
 rw [h,Nat.testBit,Nat.and_comm,Nat.one_and_eq_mod_two]
 have:=Nat.mod_two_eq_zero_or_one (m >>> i)
 rcases this with e | e<;>rw [e]<;>rfl
theorem Wm (m i j:Nat):(Nat.lor m (Nat.shiftLeft 1 i)).testBit j=(m.testBit j||decide (i=j)):=by
 have h:Nat.lor m (Nat.shiftLeft 1 i)=m ||| (1 <<< i):=rfl
 rw [h,Nat.testBit_or,Nat.one_shiftLeft,Nat.testBit_two_pow]
theorem Rt (j:Nat):∀ l:List Nat,(Jg l).testBit j=decide (j∈l)
 | []=>by simp [Jg]
 | i::r=>by
  have h:Jg (i::r)=(1 <<< i) ||| Jg r:=rfl
  rw [h,Nat.testBit_or,Nat.one_shiftLeft,Nat.testBit_two_pow,Rt j r]
  by_cases e:i=j
  ·subst e; simp
  ·simp [e,Ne.symm e]
theorem Vg (p m:Nat):Nat.beq (Nat.land p m) p=true↔∀ j,p.testBit j=true->m.testBit j=true:=by
 have h:Nat.land p m=p &&& m:=rfl
 rw [Nat.beq_eq,h]
 constructor
 ·intro e j hj
  have:=congrArg (fun x=>Nat.testBit x j) e
  simp only [Nat.testBit_and,hj,Bool.true_and] at this
  exact this
 ·intro e
  refine Nat.eq_of_testBit_eq fun j=>?_
  rw [Nat.testBit_and]
  cases hj:p.testBit j with
  | false=>rfl
  | true=>rw [e j hj]; rfl
def LM (ops:Array Oper) (L:Array Bool) (m:Nat):Prop:=L.size=ops.size/\∀ j,L.getD j false=m.testBit j
theorem Cx {ops:Array Oper} {L:Array Bool} {m:Nat} (h:LM ops L m) (i:Nat):GF (Ve ops) m i=true↔i∈Region.ready .any ops L:=by
 unfold GF Ve
 rw [mem_ready,BC,Array.getElem?_toList]
 cases ho:ops[i]? with
 | none=>simp
 | some o =>
  have hi:i<ops.size:=(Array.getElem?_eq_some_iff.1 ho).1
  have h0:L.getD i true=L.getD i false:=by simp [Array.getD,h.1,hi]
  simp only [Option.map_some,U,Co,Vg,Rt,decide_eq_true_eq,List.mem_map,Array.mem_toList_iff,Array.mem_filter,AS,exists_eq_left',Wl,h0,h.2]
  constructor
  ·rintro ⟨a,b⟩
   exact ⟨a,fun e he hb=>b e.on ⟨e,⟨he,hb⟩,rfl⟩⟩
  ·rintro ⟨a,b⟩
   refine ⟨a,?_⟩
   rintro j ⟨e,⟨he,hb⟩,rfl⟩
   exact b e he hb
theorem LM.set {ops:Array Oper} {L:Array Bool} {m i:Nat} (h:LM ops L m) (hi:i<ops.size):LM ops (L.setIfInBounds i true) (Nat.lor m (Nat.shiftLeft 1 i)):=by
 refine ⟨by rw [Array.size_setIfInBounds]; exact h.1,fun j=>?_⟩
 rw [Wm,<- h.2 j]
 by_cases e:i=j
 ·subst e
  simp [Array.getD,h.1,hi]
 ·rw [getD_set_ne false e]; simp [e]
theorem LM.add {ops:Array Oper}:∀ (fl:List Nat) {L:Array Bool} {m:Nat},LM ops L m->(∀ f∈fl,f<ops.size)->LM ops (Ul L fl) (Nat.lor m (Jg fl))
 | [],L,m,h,_=>by
  have e:Nat.lor m (Jg [])=m ||| 0:=rfl
  rw [e,Nat.or_zero]
  exact h
 | i::r,L,m,h,hl=>by
  have:=LM.add r (h.set (hl i (by simp))) fun f hf=>hl f (List.mem_cons_of_mem _ hf)
  have e:Nat.lor m (Jg (i::r))=Nat.lor (Nat.lor m (Nat.shiftLeft 1 i)) (Jg r):=(Nat.or_assoc m (1 <<< i) (Jg r)).symm
  rw [e]
  exact this
theorem E2 {ops:Array Oper} {L:Array Bool} {i:Nat} (h:i∈Region.ready .any ops L):i<ops.size:=(By h).2
theorem UF {ops:Array Oper} {anc:List (List Nat)} (hA:Td ops anc=true) {L:Array Bool} (hs:RF ops L) {i:Nat} (hr:i∈Region.ready .any ops L) (h:UE ops anc i=true):Region.free .any ops L i=true:=by
 unfold UE at h
 unfold Region.free
 split at h
 ·cases h
 ·rename_i oi hi
  rw [hi]
  simp only
  rw [Am] at h ⊢
  intro j hj
  have h1:=h j hj
  simp only [EZ] at h1 ⊢
  rcases h1 with (h1 | h1) | h1
  ·exact .inl (.inl h1)
  ·have:=G6 hA hs i (By hr).1 (By hr).2 j (Bc.1 h1)
   exact .inl (.inr (by
    have hl:j<L.size:=by
     rcases At j L.size with q | q
     ·exact q
     ·simp [Array.getD,Nat.not_lt.2 q] at this
    simp [Array.getD,hl] at this ⊢
    exact this))
  ·exact .inr h1
theorem Xm {P:Program} {n:Nat} {ops:Array Oper} {anc:List (List Nat)} (hA:Td ops anc=true):∀ (t:DT) (L:Array Bool) (m:Nat) (F:List Nat),LM ops L m->RF ops L->Tg P n ops anc (Ve ops) t L m F=true->P2 P n ops t L F=true:=by
 intro t
 induction t with
 | done =>
  intro L m F hL _ h
  simp only [Tg,P2,U,List.isEmpty_iff] at h ⊢
  refine ⟨?_,h.2⟩
  rw [List.eq_nil_iff_forall_not_mem]
  intro j hj
  have:=Am.1 h.1 j (List.mem_range.2 (E2 hj))
  rw [(Cx hL j).2 hj] at this
  cases this
 | test c a b iha ihb =>
  intro L m F hL hs h
  simp only [Tg,P2,U] at h ⊢
  exact ⟨iha _ _ _ hL hs h.1,ihb _ _ _ hL hs h.2⟩
 | take i g ao r ih =>
  intro L m F hL hs h
  simp only [Tg,P2,U] at h ⊢
  obtain ⟨⟨⟨⟨⟨h1,h2⟩,h3⟩,h4⟩,h5⟩,h6⟩:=h
  have hr:=(Cx hL i).1 h1
  refine ⟨⟨⟨⟨⟨by simpa using hr,?_⟩,h3⟩,h4⟩,h5⟩,ih _ _ _ (hL.set (E2 hr)) (hs.set hr) h6⟩
  rcases EZ _ _▸h2 with q | q
  ·exact UF hA hs hr q
  ·exact q
 | skip i g d r ih =>
  intro L m F hL hs h
  simp only [Tg,P2,U] at h ⊢
  obtain ⟨⟨⟨⟨h1,h2⟩,h3⟩,h5⟩,h6⟩:=h
  have hr:=(Cx hL i).1 h1
  refine ⟨⟨⟨⟨by simpa using hr,?_⟩,h3⟩,h5⟩,ih _ _ _ (hL.set (E2 hr)) (hs.set hr) h6⟩
  rcases EZ _ _▸h2 with q | q
  ·exact UF hA hs hr q
  ·exact q
 | only i g ao e fl r ih =>
  intro L m F hL hs h
  simp only [Tg,P2,U] at h ⊢
  obtain ⟨⟨⟨⟨⟨⟨⟨h1,h2⟩,h3⟩,h4⟩,h5⟩,h6⟩,h7⟩,h8⟩:=h
  have hr:=(Cx hL i).1 h1
  have hfl:∀ f∈fl,GF (Ve ops) m f.1=true:=fun f hf=>by
   have:=Am.1 h5 f hf
   simp only [Tf,U] at this
   exact this.1.1
  have hL2:=LM.add (fl.map (·.1)) hL fun f hf=>by
   obtain ⟨g,hg,rfl⟩:=List.mem_map.1 hf
   exact E2 ((Cx hL g.1).1 (hfl g hg))
  refine ⟨⟨⟨⟨⟨⟨⟨by simpa using hr,?_⟩,h3⟩,h4⟩,?_⟩,h6⟩,h7⟩,ih _ _ _ (hL.set (E2 hr)) (hs.set hr) h8⟩
  ·rw [Am]
   intro k hk
   have:=Am.1 h2 k (List.mem_range.2 (E2 hk))
   rw [(Cx hL2 k).2 hk] at this
   simpa using this
  ·rw [Am]
   intro f hf
   have h9:=Am.1 h5 f hf
   unfold Tf at h9
   unfold Te
   rw [hfl f hf] at h9
   have h10:(Region.ready .any ops L).contains f.1=true:=by simpa using (Cx hL f.1).1 (hfl f hf)
   rw [h10]
   exact h9
 | fork i ai ri j aj rj ihi ihj =>
  intro L m F hL hs h
  simp only [Tg,P2,U] at h ⊢
  obtain ⟨⟨⟨⟨⟨⟨h0,h1⟩,h2⟩,h3⟩,h4⟩,h5⟩,h6⟩:=h
  have hr:=(Cx hL i).1 h1.1
  have hr2:=(Cx hL j).1 h1.2
  have hall:(Region.ready .any ops L).all (fun k=>k==i||k==j)=true:=by
   rw [Am]
   intro k hk
   have:=Am.1 h2 k (List.mem_range.2 (E2 hk))
   rw [(Cx hL k).2 hk] at this
   simpa using this
  exact ⟨⟨⟨⟨⟨⟨h0,by simpa using hr⟩,hall⟩,h3⟩,h4⟩,ihi _ _ _ (hL.set (E2 hr)) (hs.set hr) h5⟩,ihj _ _ _ (hL.set (E2 hr2)) (hs.set hr2) h6⟩
theorem Vh {P:Program} {n:Nat} {ops:Array Oper} {anc:List (List Nat)} {t:DT} (h:Vf P n ops anc t=true):UC P n ops anc t=true:=by
 simp only [Vf,UC,U] at h ⊢
 refine ⟨h.1,Xm h.1.2 t _ 0 [] ⟨by simp,fun j=>?_⟩ ?_ h.2⟩
 ·rw [Nat.zero_testBit]
  simp [Array.getD]
 ·intro k o hk' _ _ _ _
  simp [Array.getElem?_replicate] at hk'
  split at hk'<;>simp at hk'

theorem Un {st:List AC} {N k:Nat} {cs:List AV} (h:(st.map (AC.older N))[k]? = some (.var cs)) {o i:Nat} (ho:cs[o]? = some (.row i)):i<N:=by
 rw [BC] at h
 cases hb:st[k]? with
 | none=>rw [hb] at h; cases h
 | some b =>
  rw [hb] at h
  cases b with
  | var cs0 =>
   cases h
   rw [BC] at ho
   cases hc:cs0[o]? with
   | none=>rw [hc] at ho; cases ho
   | some c =>
    rw [hc] at ho
    simp only [Option.map_some,AS] at ho
    cases c<;>simp only [AV.olderC] at ho<;>try cases ho
    split at ho
    ·rename_i hn
     cases ho
     exact hn
    ·cases ho
  | _=>cases h
theorem SR.cut {H:HP} {φ:As} {st:List AC} {w:World} (h:SR H φ st w) (N:Nat):SR H φ ((st.take N).map (AC.older N)) w:=by
 have h2:=h.older N
 rw [List.map_take]
 have get:∀ (i:Nat) (b:AC),((st.map (AC.older N)).take N)[i]? = some b->(st.map (AC.older N))[i]? = some b:=by
  intro i b hi
  rw [Av] at hi
  split at hi
  ·exact hi
  ·cases hi
 refine ⟨h2.hp,fun i b hi=>h2.box i b (get i b hi),fun i j bi bj hi hj=>h2.sep i j bi bj (get i bi hi) (get j bj hj),fun i bi hi=>h2.out i bi (get i bi hi),fun id cs hid o i ho=>?_,h2.tb⟩
 obtain ⟨h3,h4⟩:=h2.cell id cs (get id _ hid) o i ho
 have hi:=Un (get id _ hid) ho
 refine ⟨?_,h4⟩
 unfold AA at h3 ⊢
 rw [Av,if_pos hi]
 exact h3
theorem AG.cut {H H':HP} {φ φ':As} {st st':List AC} {w w':World} (h:AG H φ st w H' φ' st' w') {N:Nat} (hN:st.length<=N):AG H φ st w H' φ' ((st'.take N).map (AC.older N)) w':=by
 refine ⟨h.le,h.sr.cut N,fun mv m0 H0 φ0 w0 f=>?_⟩
 have f2:=h.fr mv m0 H0 φ0 w0 f
 refine { f2 with new:=fun i bi hbi hl b hb=>?_,vars:=fun j hj=>?_ }
 ·rw [BC,Av] at hbi
  split at hbi
  ·cases hb0:st'[i]? with
   | none=>rw [hb0] at hbi; cases hbi
   | some b0 =>
    rw [hb0] at hbi
    cases hbi
    exact f2.new i b0 hb0 (by cases b0<;>exact hl) b hb
  ·cases hbi
 ·have h1:=FY (f.vars j hj)
  have h2:=f2.vars j hj
  rw [CY (GE N)]
  unfold AE at h2 ⊢
  rw [Av,if_pos (by omega)]
  exact h2
theorem B9.cut {H:HP} {φ:As} {st:List AC} {fr:List (Nat×AV)} {tmps:Array Value} (h:B9 H φ st fr tmps) (live:List Nat) (N:Nat) :
  B9 H φ ((st.take N).map (AC.older N)) (live.map fun t=>(t,(CB fr t).older N)) tmps:=by
 intro t
 rcases Rg fr (fun a=>a.older N) live t with e | e
 ·rw [e]; trivial
 ·rw [e]; exact (h t).older N
theorem S0 {s s':St} {i:Nat} {v a:AV} {ids:List Nat} (h:s.intoRow i v=some (a,s',ids)):s'.st.length=s.st.length:=by
 unfold St.intoRow at h
 split at h
 ·split at h
  ·cases h; rfl
  ·split at h
   ·split at h
    ·cases h; simp
    ·cases h
   ·cases h
 ·split at h
  ·cases h; simp
  ·cases h
 ·cases h
theorem Wn {H:HP} {φ:As} {s:St} {w:World} {tmps:Array Value} (hs:SR H φ s.st w) (hf:B9 H φ s.st s.fr tmps) (n t i:Nat) :
  ∃ φ',AG H φ s.st w H φ' (s.home n t i).st w/\B9 H φ' (s.home n t i).st (s.home n t i).fr tmps/\(s.home n t i).st.length=s.st.length:=by
 have same:∃ φ',AG H φ s.st w H φ' s.st w/\B9 H φ' s.st s.fr tmps/\s.st.length=s.st.length:=⟨φ,AG.refl hs,hf,rfl⟩
 unfold St.home
 split
 ·rename_i k hk
  split
  ·split
   ·rename_i x hx
    have hv:=hf t
    rw [hk] at hv
    obtain ⟨a,s1,ids⟩:=x
    obtain ⟨φ',h1,_,_,h4,h5,h6⟩:=MT hs (v:=.row k) (u:=tmps.getD t undef) hv hx
    exact ⟨φ',h1,B9.cons (h6 tmps hf) ⟨h5,h4⟩,(S0 hx:s1.st.length=s.st.length)⟩
   ·exact same
  ·exact same
 ·exact same
theorem S3 {w:World} {tmps:Array Value} {n:Nat}:∀ (hs:List (Nat×Nat)) {H:HP} {φ:As} {s:St},SR H φ s.st w->B9 H φ s.st s.fr tmps ->
  ∃ φ',AG H φ s.st w H φ' (St.homes n hs s).st w/\B9 H φ' (St.homes n hs s).st (St.homes n hs s).fr tmps/\(St.homes n hs s).st.length=s.st.length
 | [],H,φ,s,h,hf=>⟨φ,AG.refl h,hf,rfl⟩
 | p::r,H,φ,s,h,hf=>by
  obtain ⟨φ1,a1,a2,a3⟩:=Wn h hf n p.1 p.2
  obtain ⟨φ2,b1,b2,b3⟩:=S3 r a1.sr a2
  exact ⟨φ2,a1.trans b1,b2,b3.trans a3⟩
theorem SN {H H':HP} {φ φ':As} {st:List AC} {s':St} {w w':World} {tmps:Array Value} (h:AG H φ st w H' φ' s'.st w') (hf:B9 H' φ' s'.st s'.fr tmps) (hs:List (Nat×Nat)) (live:List Nat) {N:Nat} (hN:st.length<=N) :
  ∃ φ2,AG H φ st w H' φ2 (s'.cutH hs live N).st w'/\B9 H' φ2 (s'.cutH hs live N).st (s'.cutH hs live N).fr tmps:=by
 obtain ⟨φ2,a1,a2,_⟩:=S3 (n:=N) hs h.sr hf
 exact ⟨φ2,(h.trans a1).cut hN,a2.cut live N⟩
def Lc (P:Program) (c:Code) (Q:Exit->Act->World->Prop) (a:Act) (w:World):Prop :=
 ∀ (b:Frame) (k:List Item) (cs:List Frame),∃ e a' w',Q e a' w'/\Arrives P (lone (b.at a (.code c::.inLoop c::k)) cs w) b k cs e a' w'
theorem Lc.wp {c:Code} {Q:Exit->Act->World->Prop} {a:Act} {w:World} (h:Lc P c Q a w):(Code.loop c).wp P Q a w:=by
 intro b k cs
 obtain ⟨e,a',w',hq,harr⟩:=h b k cs
 exact ⟨e,a',w',hq,.of_steps (.one step_loop) harr⟩
theorem Lc.round {c:Code} {Q:Exit->Act->World->Prop} {a:Act} {w:World} (h:c.wp P (Exit.then (Lc P c Q) Q) a w):Lc P c Q a w:=by
 intro b k cs
 obtain ⟨e,a₁,w₁,hq,harr⟩:=h b (.inLoop c::k) cs
 cases e with
 | normal =>
  obtain ⟨e₂,a₂,w₂,hq₂,harr₂⟩:=hq b k cs
  exact ⟨e₂,a₂,w₂,hq₂,.of_steps (Steps.trans harr (.one step_inLoop)) harr₂⟩
 | exit id=>exact ⟨_,a₁,w₁,hq,.pass (x:=.inLoop c) rfl (fun _ _=>.inl (by simp)) harr⟩
 | goto l=>exact ⟨_,a₁,w₁,hq,.pass (x:=.inLoop c) rfl (fun _ _=>.inl (by simp)) harr⟩
 | ret=>exact ⟨_,a₁,w₁,hq,.pass (x:=.inLoop c) rfl (fun _ _=>.inl (by simp)) harr⟩
 | panic ch=>exact ⟨_,a₁,w₁,hq,.pass (x:=.inLoop c) rfl (fun _ _=>.inl (by simp)) harr⟩
 | outgrown=>exact ⟨_,a₁,w₁,hq,.pass (x:=.inLoop c) rfl (fun _ _=>.inl (by simp)) harr⟩
def Ck (P:Program) (n:Nat):Code->AI->Bool
 | .skip,.skip=>true
 | .region _ ops false,.region aos _=>decide (Kn P n ops none [] 0 aos=some ops.size)
 | .region _ ops true,.draw anc t _=>Vf P n ops anc t
 | .seq x y,.seq a b=>Ck P n x a&&Ck P n y b
 | .seq x y,.seqc _ a b=>Ck P n x a&&Ck P n y b
 | .cond c x y,.cond c' a b=>BZ c c'&&Ck P n x a&&Ck P n y b
 | .block id x,.block id' _ a=>id==id'&&Ck P n x a
 | .loop x,.loop _ a=>Ck P n x a
 | .exit id,.exit id'=>id==id'
 | .ret,.ret=>true
 | _,_=>false
def PG {ρ:Type} (n:Nat) (q:St->Option ρ) (r:ρ) (s:St) (act:Act) (w:World) (H:HP) (φ:As) (N:Act->World->Prop):Prop :=
 ∀ s' act' w' H' φ',q s'=some r->AG H φ s.st w H' φ' s'.st w'->B9 H' φ' s'.st s'.fr act'.tmps->act'.tmps.size=n->act'.defers=act.defers->N act' w'
def Vi (P:Program) (n:Nat) (cal:Cg) (k:Nat) (c:Code) (ac:AI):Prop :=
 ∀ (ρ:Type) (kn kr:St->Option ρ) (ke:Nat->St->Option ρ) (r:ρ) (s:St) (act:Act) (w:World) (H:HP) (φ:As) (Q:Exit->Act->World->Prop),
  SR H φ s.st w->B9 H φ s.st s.fr act.tmps->act.tmps.size=n->DC cal k ac kn kr ke s=some r ->
  PG n kn r s act w H φ (Q .normal)->PG n kr r s act w H φ (Q .ret)->(∀ i,PG n (ke i) r s act w H φ (Q (.exit i)))->c.wp P Q act w
theorem PG.step {ρ:Type} {n:Nat} {q:St->Option ρ} {r:ρ} {s s1:St} {act act1:Act} {w w1:World} {H H1:HP} {φ φ1:As} {N:Act->World->Prop}
  (h:PG n q r s act w H φ N) (hst:AG H φ s.st w H1 φ1 s1.st w1) (hd:act1.defers=act.defers):PG n q r s1 act1 w1 H1 φ1 N :=
 fun s' act' w' H' φ' hq hs hf hn hd'=>h s' act' w' H' φ' hq (hst.trans hs) hf hn (hd'.trans hd)
theorem S4 {n:Nat} {cal:Cg} {k:Nat} (hcal:DK P cal) {id:Nat} {ops:Array Oper} {aos:List CF} {live:List Nat} (h:Kn P n ops none [] 0 aos=some ops.size) :
  Vi P n cal k (.region id ops false) (.region aos live):=by
 intro ρ kn kr ke r s act w H φ Q hs hf hn hk hnorm _ _
 simp only [DC] at hk
 refine Uj hcal h hs hf hn hk fun s' act' w' H' φ' hk' hst hf' hn' hd'=>?_
 exact hnorm _ act' w' H' φ' hk' hst (hf'.live live) hn' hd'
theorem Wo {n:Nat} {cal:Cg} {k:Nat} (hcal:DK P cal):∀ (ac:AI) (c:Code),Ck P n c ac=true->Vi P n cal k c ac:=by
 intro ac
 induction ac with
 | skip =>
  intro c h
  cases c<;>first | (simp [Ck] at h; done) | skip
  intro ρ kn kr ke r s act w H φ Q hs hf hn hk h1 _ _
  exact wp_skip (h1 s act w H φ hk (AG.refl hs) hf hn rfl)
 | ret =>
  intro c h
  cases c<;>first | (simp [Ck] at h; done) | skip
  intro ρ kn kr ke r s act w H φ Q hs hf hn hk _ h2 _
  exact wp_ret (h2 s act w H φ hk (AG.refl hs) hf hn rfl)
 | exit id =>
  intro c h
  cases c<;>first | (simp [Ck] at h; done) | skip
  rename_i id'
  simp only [Ck,beq_iff_eq] at h
  subst h
  intro ρ kn kr ke r s act w H φ Q hs hf hn hk _ _ h3
  exact wp_exit (h3 id' s act w H φ hk (AG.refl hs) hf hn rfl)
 | region aos live =>
  intro c h
  cases c<;>first | (simp [Ck] at h; done) | skip
  rename_i id ops draw
  cases draw
  ·simp only [Ck,decide_eq_true_eq] at h
   exact S4 hcal h
  ·simp [Ck] at h
 | draw anc t live =>
  intro c h
  cases c<;>first | (simp [Ck] at h; done) | skip
  rename_i id ops draw
  cases draw
  ·simp [Ck] at h
  ·simp only [Ck] at h
   intro ρ kn kr ke r s act w H φ Q hs hf hn hk hnorm _ _
   simp only [DC] at hk
   exact Wk hcal (Vh h) hs hf hn hk fun s' act' w' H' φ' hk' hst hf' hn' hd'=>hnorm _ act' w' H' φ' hk' hst (hf'.live live) hn' hd'
 | seq a b iha ihb =>
  intro c h
  cases c<;>first | (simp [Ck] at h; done) | skip
  rename_i x y
  simp only [Ck,U] at h
  intro ρ kn kr ke r s act w H φ Q hs hf hn hk h1 h2 h3
  simp only [DC] at hk
  refine wp_seq (iha x h.1 ρ (fun s'=>DC cal k b kn kr ke s') kr ke r s act w H φ _ hs hf hn hk (fun s' act' w' H' φ' hk' hst hf' hn' hd'=>?_) h2 h3)
  exact ihb y h.2 ρ kn kr ke r s' act' w' H' φ' Q hst.sr hf' hn' hk' (h1.step hst hd') (h2.step hst hd') fun i=>(h3 i).step hst hd'
 | seqc live a b iha ihb =>
  intro c h
  cases c<;>first | (simp [Ck] at h; done) | skip
  rename_i x y
  simp only [Ck,U] at h
  intro ρ kn kr ke r s act w H φ Q hs hf hn hk h1 h2 h3
  simp only [DC] at hk
  refine wp_seq (iha x h.1 ρ (fun s'=>DC cal k b kn kr ke (s'.cutH (Bo s live) live s.st.length)) kr ke r s act w H φ _ hs hf hn hk (fun s' act' w' H' φ' hk' hst hf' hn' hd'=>?_) h2 h3)
  obtain ⟨φ2,hst',hf2⟩:=SN hst hf' (Bo s live) live (Nat.le_refl _)
  exact ihb y h.2 ρ kn kr ke r (s'.cutH (Bo s live) live s.st.length) act' w' H' φ2 Q hst'.sr hf2 hn' hk' (h1.step hst' hd') (h2.step hst' hd') fun i=>(h3 i).step hst' hd'
 | cond c' a b iha ihb =>
  intro c h
  cases c<;>first | (simp [Ck] at h; done) | skip
  rename_i co x y
  simp only [Ck,U] at h
  obtain ⟨⟨hc,ha⟩,hb⟩:=h
  intro ρ kn kr ke r s act w H φ Q hs hf hn hk h1 h2 h3
  simp only [DC] at hk
  cases ht:s.opd c' with
  | bool t =>
   rw [ht] at hk
   simp only at hk
   have hv:=(Aa hf hc).bool ht
   cases t with
   | true=>exact wp_cond_true hv (iha x ha ρ kn kr ke r s act w H φ Q hs hf hn (by simpa using hk) h1 h2 h3)
   | false=>exact wp_cond_false hv (ihb y hb ρ kn kr ke r s act w H φ Q hs hf hn (by simpa using hk) h1 h2 h3)
  | _=>rw [ht] at hk; cases hk
 | block id live a iha =>
  intro c h
  cases c<;>first | (simp [Ck] at h; done) | skip
  rename_i id' x
  simp only [Ck,U,beq_iff_eq] at h
  obtain ⟨rfl,h⟩:=h
  intro ρ kn kr ke r s act w H φ Q hs hf hn hk h1 h2 h3
  simp only [DC] at hk
  have cutOk:PG n (fun s'=>kn (s'.cutH (Bo s live) live s.st.length)) r s act w H φ (Q .normal):=fun s' act' w' H' φ' hk' hst hf' hn' hd'=>by
   obtain ⟨φ2,hst',hf2⟩:=SN hst hf' (Bo s live) live (Nat.le_refl _)
   exact h1 _ act' w' H' φ2 hk' hst' hf2 hn' hd'
  refine wp_block (iha x h ρ (fun s'=>kn (s'.cutH (Bo s live) live s.st.length)) kr (fun i s'=>if i=id' then kn (s'.cutH (Bo s live) live s.st.length) else ke i s') r s act w H φ _ hs hf hn hk cutOk h2 fun i=>?_)
  intro s' act' w' H' φ' hk' hst hf' hn' hd'
  simp only at hk'
  simp only [Exit.inBlock]
  by_cases e:i=id'
  ·rw [if_pos e] at hk' ⊢
   exact cutOk s' act' w' H' φ' hk' hst hf' hn' hd'
  ·rw [if_neg e] at hk' ⊢
   exact h3 i s' act' w' H' φ' hk' hst hf' hn' hd'
 | loop live a iha =>
  intro c h
  cases c<;>first | (simp [Ck] at h; done) | skip
  rename_i x
  simp only [Ck] at h
  intro ρ kn kr ke r s act w H φ Q hs hf hn hk _ h2 h3
  simp only [DC] at hk
  have key:∀ (j:Nat) (s1:St) (act1:Act) (w1:World) (H1:HP) (φ1:As),s1.st.length<=s.st.length->AG H φ s.st w H1 φ1 s1.st w1->B9 H1 φ1 s1.st s1.fr act1.tmps->act1.tmps.size=n->act1.defers=act.defers ->
    F7 j (fun go s'=>DC cal k a (fun s''=>go (s''.cutH (Bo s live) live s.st.length)) kr ke s') s1=some r->Lc P x Q act1 w1:=by
   intro j
   induction j with
   | zero=>intro s1 act1 w1 H1 φ1 _ _ _ _ _ hk; cases hk
   | succ j ihj =>
    intro s1 act1 w1 H1 φ1 hl hst hf1 hn1 hd1 hk
    simp only [F7] at hk
    refine Lc.round (iha x h ρ _ kr ke r s1 act1 w1 H1 φ1 _ hst.sr hf1 hn1 hk (fun s' act' w' H' φ' hk' hst' hf' hn' hd'=>?_) (h2.step hst hd1) fun i=>(h3 i).step hst hd1)
    obtain ⟨φ2,hst2,hf2⟩:=SN hst' hf' (Bo s live) live hl
    exact ihj (s'.cutH (Bo s live) live s.st.length) act' w' H' φ2 (by simp [St.cutH,St.cut]; omega) (hst.trans hst2) hf2 hn' (hd'.trans hd1) hk'
  refine (key k (s.cut live s.st.length) act w H φ (by simp [St.cut]) ((AG.refl hs).cut (Nat.le_refl _)) (hf.cut live _) hn rfl hk).wp
end Go.Proofs.Ytffahmnodgnohaa.Core

namespace Go.Proofs.Ytffahmnodgnohaa.Core
open Go
variable {H:HP} {φ:As} {st:List AC} {w:World} {P:Program}
def Ru (st:List AC) (i:Nat) (b:AC):Prop :=
 (∃ (t:TypeId) (e:Kd),∃ xs:List (Kd.T e),st[i]? = some (AC.rows t e xs)/\b=AC.rows t e xs) \/
 (∃ cs ecs:List AV,st[i]? = some (AC.var cs)/\b=AC.var ecs/\ecs.length=cs.length/\∀ (o:Nat) (a:AV),ecs[o]? = some a->∃ c,cs[o]? = some c/\a.solid=true/\c.solid=true/\∀ (H:HP) (u:Value),VF H c u->VF H a u)
theorem QW:∀ {ks:List Kd} {cs cs':List AV},Fs ks cs=some cs'->cs'.length=cs.length/\(cs'.all fun c=>c.solid&&(match c with | .nil=>false | _=>true))=true /\
  ∀ (o:Nat) (a:AV),cs'[o]? = some a->∃ c,cs[o]? = some c/\a.solid=true/\c.solid=true/\∀ (H:HP) (u:Value),VF H c u->VF H a u
 | [],[],cs',h=>by cases h; exact ⟨rfl,rfl,fun o a h=>by simp at h⟩
 | [],_::_,cs',h=>by simp [Fs] at h
 | _::_,[],cs',h=>by simp [Fs] at h
 | k::ks,v::vs,cs',h=>by
  simp only [Fs] at h
  cases h1:v.norm k with
  | none=>rw [h1] at h; cases h
  | some a =>
   rw [h1] at h
   simp only [Z] at h
   cases h2:Fs ks vs with
   | none=>rw [h2] at h; cases h
   | some r =>
    rw [h2] at h
    cases h
    obtain ⟨n1,n2,n3,n4⟩:=Me h1
    obtain ⟨l1,l2,l3⟩:=QW h2
    refine ⟨by simp [l1],?_,fun o b hb=>?_⟩
    ·simp only [List.all_cons,l2,n2,Bool.true_and,Bool.and_true]
     cases a<;>first | rfl | cases n1
    ·cases o with
     | zero=>simp at hb; subst hb; exact ⟨v,rfl,n2,n3,n4⟩
     | succ o=>simpa using l3 o b (by simpa using hb)
theorem Th {s s':St} {a a':AV} (h:s.keep a=some (a',s')) {i:Nat} (hi:a≠.row i):s'.st[i]? = s.st[i]? := by
 cases a with
 | row id =>
  simp only [St.keep] at h
  split at h
  ·split at h
   case isFalse=>cases h
   cases h
   simp only [AM]
   rw [if_neg (fun e=>hi (by rw [e]))]
  ·cases h; rfl
  ·cases h
 | fn f caps=>cases caps<;>first | (cases h; rfl) | cases h
 | _=>first | (cases h; rfl) | cases h
theorem Vj {s s':St} {a a':AV} (h:s.keep a=some (a',s')) {i:Nat} (hi:AE s.st i=true):s'.st[i]? = s.st[i]? := by
 cases a with
 | row id =>
  simp only [St.keep] at h
  split at h
  ·rename_i t K xs hb
   split at h
   case isFalse=>cases h
   cases h
   simp only [AM]
   rw [if_neg (fun e=>by subst e; simp only [AE,hb] at hi; cases hi)]
  ·cases h; rfl
  ·cases h
 | fn f caps=>cases caps<;>first | (cases h; rfl) | cases h
 | _=>first | (cases h; rfl) | cases h
theorem Ti {s s':St} {i:Nat} {a':AV} (h:s.keep (.row i)=some (a',s')):a'.nilFree=true/\a'.solid=true:=by
 simp only [St.keep] at h
 split at h
 ·split at h
  ·cases h; exact ⟨rfl,rfl⟩
  ·cases h
 ·cases h; exact ⟨rfl,rfl⟩
 ·cases h
structure CN (H:HP) (φ:As) (w:World) (s s':St) (tk tk':List Nat) (us:List Value) (cl:List AV) (H':HP) (ids:List Nat):Prop where
 step:AG H φ s.st w H' φ s'.st w
 keeps:Al φ s.st φ s'.st none
 fr:s'.fr=s.fr
 nf:cl.all AV.nilFree=true
 cnt:AB cl=ids.length
 tks:tk'=ids.reverse++tk
 nd:tk.Nodup->tk'.Nodup
 held:∀ i∈tk,s'.st[i]? = s.st[i]?
 vars:∀ i,AE s.st i=true->s'.st[i]? = s.st[i]?
 boxes:∀ (m:Nat) (b:AC),(AR cl)[m]? = some b->∃ i,ids[m]? = some i/\Ru s'.st i b
 vals:∀ (k:Nat) (f:Nat->Nat),(∀ m i,ids[m]? = some i->f (k+m)=i) ->
  AN (fun a u=>VC H' φ s'.st (a.ren f) u/\(a.solid=true\/∃ m,m<ids.length/\((∃ t e,∃ xs:List (Kd.T e),a=.row (k+m)/\(AR cl)[m]? = some (AC.rows t e xs))\/(∃ ecs,a=.ptr (k+m) 0/\(AR cl)[m]? = some (AC.var ecs))))) (Af k cl) us
theorem Nq {a:AV} (h:a.solid=true) (f:Nat->Nat):a.ren f=a:=by cases a<;>first | rfl | cases h
theorem CN.plain {H:HP} {φ:As} {s s1 s':St} {tk tk':List Nat} {u:Value} {us:List Value} {cl:List AV} {H1 H':HP} {ids:List Nat} {a:AV} (F:CN H1 φ w s1 s' tk tk' us cl H' ids)
  (hst:AG H φ s.st w H1 φ s1.st w) (hk:Al φ s.st φ s1.st none) (hfr:s1.fr=s.fr) (hheld:∀ i∈tk,s1.st[i]? = s.st[i]?) (hvars:∀ i,AE s.st i=true->s1.st[i]? = s.st[i]?)
  (hn:a.nilFree=true) (hs:a.solid=true) (hv:VF H1 a u):CN H φ w s s' tk tk' (u::us) (a::cl) H' ids:=by
 have o1:∀ k,Af k (a::cl)=a::Af k cl:=fun k=>by cases a<;>first | rfl | cases hs
 have o2:AR (a::cl)=AR cl:=by cases a<;>first | rfl | cases hs
 have o3:AB (a::cl)=AB cl:=by cases a<;>first | rfl | cases hs
 refine ⟨hst.trans F.step,hk.trans F.keeps,F.fr.trans hfr,by simp [hn,F.nf],by rw [o3]; exact F.cnt,F.tks,F.nd,fun i hi=>(F.held i hi).trans (hheld i hi),fun i hi=>?_,by rw [o2]; exact F.boxes,fun k f hf=>?_⟩
 ·have h1:=hvars i hi
  rw [F.vars i (by unfold AE at hi ⊢; rw [h1]; exact hi),h1]
 ·rw [o1,o2]
  exact ⟨u,us,rfl,⟨by rw [Nq hs]; exact VC.of_VF (hv.mono F.step.le),.inl hs⟩,F.vals k f hf⟩
theorem G7:∀ {ks:List Kd} {vs cl:List AV} {tk tk':List Nat} {s s':St} {H:HP} {us:List Value},SR H φ s.st w->AN (VC H φ s.st) vs us->s.shutAll tk ks vs=some (cl,tk',s') ->
  ∃ H' ids,CN H φ w s s' tk tk' us cl H' ids
 | [],[],cl,tk,tk',s,s',H,us,hs,hv,h=>by
  cases h
  cases hv
  exact ⟨H,[],AG.refl hs,Al.refl _ _ _,rfl,rfl,rfl,rfl,fun h=>h,fun _ _=>rfl,fun _ _=>rfl,fun m b h=>by simp [AR] at h,fun k f _=>rfl⟩
 | [],_::_,cl,tk,tk',s,s',H,us,hs,hv,h=>by simp [St.shutAll] at h
 | _::_,[],cl,tk,tk',s,s',H,us,hs,hv,h=>by simp [St.shutAll] at h
 | k0::ks,v::vs,cl,tk,tk',s,s',H,us,hs,hv,h=>by
  obtain ⟨u,us,rfl,hu,hr⟩:=hv
  have norm:((v.norm k0).bind fun a=>(s.shutAll tk ks vs).bind fun y=>some (a::y.1,y.2))=some (cl,tk',s')->∃ H' ids,CN H φ w s s' tk tk' (u::us) cl H' ids:=by
   intro h
   cases hq:v.norm k0 with
   | none=>rw [hq] at h; cases h
   | some a =>
    rw [hq] at h
    simp only [Z] at h
    cases hc:s.shutAll tk ks vs with
    | none=>rw [hc] at h; cases h
    | some y =>
     obtain ⟨y1,y2,y3⟩:=y
     rw [hc] at h
     cases h
     obtain ⟨n1,n2,n3,n4⟩:=Me hq
     obtain ⟨H',ids,F⟩:=G7 hs hr hc
     exact ⟨H',ids,F.plain (AG.refl hs) (Al.refl _ _ _) rfl (fun _ _=>rfl) (fun _ _=>rfl) n1 n2 (n4 H u (hu.solid n3))⟩
  have away:∀ (i:Nat) (a:AV) (b:AC) (y:List AV×List Nat×St),Ak tk i=false->s.shutAll (i::tk) ks vs=some y->(cl,tk',s')=(a::y.1,y.2) ->
    Ru s.st i b->a.nilFree=true->(∀ k r,Af k (a::r)=(match b with | .var _=>AV.ptr k 0 | _=>AV.row k)::Af (k+1) r)->(∀ r,AR (a::r)=b::AR r)->(∀ r,AB (a::r)=AB r+1) ->
    (∀ cs,b=.var cs->v=.ptr i 0)->((∀ cs,b≠.var cs)->v=.row i)->((∀ cs,b≠.var cs)->∃ (t:TypeId) (e:Kd),∃ xs:List (Kd.T e),b=AC.rows t e xs)->∃ H' ids,CN H φ w s s' tk tk' (u::us) cl H' ids:=by
   intro i a b y hn hy e hb hnf o1 o2 o3 e1 e2 e3
   obtain ⟨y1,y2,y3⟩:=y
   cases e
   obtain ⟨H',ids,F⟩:=G7 hs hr hy
   refine ⟨H',i::ids,F.step,F.keeps,F.fr,by simp [hnf,F.nf],by rw [o3,F.cnt]; rfl,by rw [F.tks]; simp,fun hnd=>F.nd (List.nodup_cons.2 ⟨AW.1 hn,hnd⟩),fun j hj=>F.held j (by simp [hj]),F.vars,fun m b' hb'=>?_,fun k f hf=>?_⟩
   ·rw [o2] at hb'
    cases m with
    | zero =>
     simp at hb'
     subst hb'
     refine ⟨i,rfl,?_⟩
     have hh:=F.held i (by simp)
     unfold Ru at hb ⊢
     rw [hh]
     exact hb
    | succ m=>simpa using F.boxes m b' (by simpa using hb')
   ·rw [o1,o2]
    have f0:f k=i:=by simpa using hf 0 i rfl
    refine ⟨u,us,rfl,⟨?_,.inr ⟨0,by simp,?_⟩⟩,?_⟩
    ·have hu':=VC.mono F.step.le F.keeps hu
     cases b with
     | var cs =>
      simp only [AV.ren,f0]
      rw [e1 cs rfl] at hu'
      exact hu'
     | _ =>
      simp only [AV.ren,f0]
      rw [e2 (by simp)] at hu'
      exact hu'
    ·cases b with
     | var cs=>exact .inr ⟨cs,rfl,rfl⟩
     | rows t e xs=>exact .inl ⟨t,e,xs,rfl,rfl⟩
     | _=>obtain ⟨_,_,_,e⟩:=e3 (by simp); cases e
    ·have:=F.vals (k+1) f fun m j hj=>by rw [Nat.add_assoc,Nat.add_comm 1 m]; exact hf (m+1) j (by simpa using hj)
     refine this.imp fun a' u' ⟨g1,g2⟩=>⟨g1,?_⟩
     rcases g2 with g2 | ⟨m,hm,g2⟩
     ·exact .inl g2
     ·refine .inr ⟨m+1,by simp; omega,?_⟩
      rw [show k+(m+1)=k+1+m by omega]
      simpa using g2
  cases v with
  | row i =>
   simp only [St.shutAll] at h
   split at h
   ·cases h
   ·rename_i hn
    have hn:Ak tk i=false:=by simpa using hn
    have kept:((s.keep (.row i)).bind fun x=>(x.2.shutAll tk ks vs).bind fun y=>some (x.1::y.1,y.2))=some (cl,tk',s')->∃ H' ids,CN H φ w s s' tk tk' (u::us) cl H' ids:=by
     intro h
     cases hk:s.keep (.row i) with
     | none=>rw [hk] at h; cases h
     | some x =>
      obtain ⟨a1,s1⟩:=x
      rw [hk] at h
      simp only [Z] at h
      cases hc:s1.shutAll tk ks vs with
      | none=>rw [hc] at h; cases h
      | some y =>
       obtain ⟨y1,y2,y3⟩:=y
       rw [hc] at h
       cases h
       obtain ⟨H1,g1,k1,f1,r1,_⟩:=Gu hs hu hk
       obtain ⟨H',ids,F⟩:=G7 g1.sr (hr.imp fun _ _ h=>h.mono g1.le k1) hc
       obtain ⟨n1,n2⟩:=Ti hk
       refine ⟨H',ids,F.plain g1 k1 r1 (fun j hj=>Th hk fun e=>?_) (fun j hj=>Vj hk hj) n1 n2 f1⟩
       cases e
       exact AW.1 hn hj
    split at h
    ·split at h
     ·rename_i t e xs hi
      cases hc:s.shutAll (i::tk) ks vs with
      | none=>rw [hc] at h; cases h
      | some y =>
       rw [hc] at h
       simp only [Z,AS] at h
       exact away i (.new t e xs) (.rows t e xs) y hn hc h.symm (.inl ⟨t,e,xs,hi,rfl⟩) rfl (fun k r=>rfl) (fun r=>rfl) (fun r=>by simp [AB,AV.isNew]) (fun cs e=>by cases e) (fun _=>rfl) (fun _=>⟨t,e,xs,rfl⟩)
     ·cases h
    ·exact kept h
  | ptr i o =>
   cases o with
   | zero =>
    simp only [St.shutAll] at h
    split at h
    ·cases h
    ·rename_i hn
     have hn:Ak tk i=false:=by simpa using hn
     split at h
     ·split at h
      ·rename_i K x0 cs hi
       cases hq:Fs K.leaves cs with
       | none=>rw [hq] at h; cases h
       | some cs' =>
        rw [hq] at h
        simp only [Z] at h
        cases hc:s.shutAll (i::tk) ks vs with
        | none=>rw [hc] at h; cases h
        | some y =>
         rw [hc] at h
         simp only [Z,AS] at h
         obtain ⟨l1,l2,l3⟩:=QW hq
         exact away i (.ref cs') (.var cs') y hn hc h.symm (.inr ⟨cs,cs',hi,rfl,l1,l3⟩) l2 (fun k r=>rfl) (fun r=>rfl) (fun r=>by simp [AB,AV.isNew]) (fun _ _=>rfl) (fun h=>absurd rfl (h cs')) (fun h=>absurd rfl (h cs'))
      ·cases h
     ·cases h
   | succ o=>exact norm h
  | _=>exact norm h
end Go.Proofs.Ytffahmnodgnohaa.Core

namespace Go.Proofs.Ytffahmnodgnohaa.Core
open Go
variable {P:Program}
theorem CN.append {H H1 H2:HP} {φ:As} {w:World} {s s1 s2:St} {tk t1 t2:List Nat} {us1 us2:List Value} {c1 c2:List AV} {i1 i2:List Nat}
  (F1:CN H φ w s s1 tk t1 us1 c1 H1 i1) (F2:CN H1 φ w s1 s2 t1 t2 us2 c2 H2 i2):CN H φ w s s2 tk t2 (us1++us2) (c1++c2) H2 (i1++i2):=by
 have hl:(AR c1).length=i1.length:=by rw [Bv,F1.cnt]
 refine ⟨F1.step.trans F2.step,F1.keeps.trans F2.keeps,F2.fr.trans F1.fr,by rw [List.all_append,F1.nf,F2.nf]; rfl,by rw [Ag,F1.cnt,F2.cnt,List.length_append],by rw [F2.tks,F1.tks]; simp,fun h=>F2.nd (F1.nd h),fun i hi=>?_,fun i hi=>?_,fun m b hb=>?_,fun k f hf=>?_⟩
 ·rw [F2.held i (by rw [F1.tks]; simp [hi]),F1.held i hi]
 ·have h1:=F1.vars i hi
  rw [F2.vars i (by unfold AE at hi ⊢; rw [h1]; exact hi),h1]
 ·rw [Aq] at hb
  rcases At m (AR c1).length with h | h
  ·rw [AO h] at hb
   obtain ⟨i,g1,g2⟩:=F1.boxes m b hb
   refine ⟨i,by rw [AO (by omega)]; exact g1,?_⟩
   have hh:=F2.held i (by rw [F1.tks]; simp [List.mem_of_getElem? g1])
   unfold Ru at g2 ⊢
   rw [hh]
   exact g2
  ·rw [Au h] at hb
   obtain ⟨i,g1,g2⟩:=F2.boxes _ b hb
   exact ⟨i,by rw [Au (by omega)]; rw [hl] at g1; exact g1,g2⟩
 ·rw [JM,Aq]
  refine AN.append ((F1.vals k f fun m i hm=>hf m i (by rw [AO (AK.1 hm).1]; exact hm)).imp fun a u ⟨g1,g2⟩=>⟨g1.mono F2.step.le F2.keeps,?_⟩)
   ((F2.vals (k+AB c1) f fun m i hm=>by
    rw [Nat.add_assoc]
    exact hf _ i (by rw [F1.cnt,Au (by omega),Nat.add_sub_cancel_left]; exact hm)).imp fun a u ⟨g1,g2⟩=>⟨g1,?_⟩)
  ·rcases g2 with g2 | ⟨m,hm,g2⟩
   ·exact .inl g2
   ·refine .inr ⟨m,by simp; omega,?_⟩
    rw [AO (by omega)]
    exact g2
  ·rcases g2 with g2 | ⟨m,hm,g2⟩
   ·exact .inl g2
   ·refine .inr ⟨i1.length+m,by simp; omega,?_⟩
    rw [Au (by omega),hl,Nat.add_sub_cancel_left,<- Nat.add_assoc]
    rw [F1.cnt] at g2
    exact g2
theorem Uo {H:HP} {φ:As} {st:List AC} {w:World} (hs:SR H φ st w) {id:Nat} {cs:List AV} (hb:st[id]? = some (.var cs)) :
  ∃ b c el,φ id=.pointer (some ⟨b,0,none⟩)/\w.heap[b]? = some (.cells c el (0,0))/\AN (VC H φ st) cs c.toList:=by
 obtain ⟨b,c,el,e3,hh,hc⟩:=hs.box id _ hb
 refine ⟨b,c,el,e3,hh,Hn hc.length fun j a u ha hu=>?_⟩
 have hw:=hc.at ha hu
 cases a with
 | row i =>
  obtain ⟨g1,b2,g2,g3⟩:=hs.cell id _ hb j i ha
  rw [e3] at g2
  cases g2
  simp only [World.cell?,hh] at g3
  rw [Array.getElem?_toList] at hu
  simp only [Option.isSome_none,Bool.false_eq_true,if_false] at g3
  rw [hu] at g3
  cases g3
  exact ⟨rfl,g1⟩
 | was i=>trivial
 | self T=>trivial
 | undef=>trivial
 | _=>exact VC.of_VF hw
def Wp (P:Program):ResultVar->WD->Bool
 | .tmp t,r=>!r.cell&&r.t==t
 | .cell a t,r=>r.cell&&r.t==a&&Mb P t (J8 r.K)
def QX (P:Program):List ResultVar->List WD->Bool
 | [],[]=>true
 | v::vs,r::rs=>Wp P v r&&QX P vs rs
 | _,_=>false
def JQ (tmps:Array Value):ResultVar->Sem Value
 | .tmp t=>pure (tmps.getD t undef)
 | .cell a t=>do loadVar t (<- asAddr (tmps.getD a undef))
def Wq (K:Kd) (v:Value):Prop:=match K with
 | .pair _ _=>∃ arr,v=.agg arr
 | _=>v.cells=#[v]
theorem Vk {H:HP} {φ:As} {w:World} {s:St} {K:Kd} {a:AV} {v:Value} {ds:List AV} {off:Nat} {t:TypeId} (hs:SR H φ s.st w) (hv:VC H φ s.st a v) (hbh:s.behind a=some (ds,off)) (hl2:off+K.sz<=ds.length) (hp:Mb P t (J8 K)=true) :
  ∃ u,(Instr.loadAt t v).run P w=.ok u w/\VA H φ s.st (part ds off (J8 K)) u:=by
 cases K with
 | pair a b=>exact O7 hs hv hbh (n:=some _) hl2 hp
 | _=>exact O7 hs hv hbh (n:=none) hl2 hp
theorem S5 {H:HP} {φ:As} {w:World} {s:St} {r:WD} {rv:ResultVar} {cs:List AV} {tmps:Array Value} (hs:SR H φ s.st w) (hf:B9 H φ s.st s.fr tmps) (h:s.resCells r=some cs) (hb:Wp P rv r=true)
  (hne:∀ c∈cs,c.full=true) (hlen:cs.length=r.K.sz) :
  ∃ v,(JQ tmps rv).run P w=.ok v w/\AN (VC H φ s.st) cs v.cells.toList/\Wq r.K v:=by
 unfold St.resCells at h
 cases rv with
 | tmp t =>
  simp only [Wp,U,Co,beq_iff_eq] at hb
  obtain ⟨hc,rfl⟩:=hb
  rw [if_neg (by rw [hc]; simp)] at h
  split at h
  ·rename_i hfit
   cases h
   simp only [U] at hfit
   have hv:=hf r.t
   refine ⟨tmps.getD r.t undef,by simp [JQ],QH hs hv hfit.2,?_⟩
   rcases hv.cases with ⟨ds,arr,ea,ev,_⟩ | ⟨vs,arr,ea,_,_⟩ | hvc
   ·rw [ea] at hfit
    unfold Wq
    cases hK:r.K with
    | pair a b=>exact ⟨arr,ev⟩
    | _=>rw [hK] at hfit; cases hfit.1
   ·rw [ea] at hfit; cases hfit.2
   ·have h1:=QG hs hvc hfit.2
    unfold Wq
    cases hK:r.K with
    | pair a b =>
     rw [hK,Ih hvc] at hlen
     have p1:=Kd.sz_pos a
     have p2:=Kd.sz_pos b
     simp [Kd.sz] at hlen
     omega
    | _=>exact h1
  ·cases h
 | cell a t =>
  simp only [Wp,U,beq_iff_eq] at hb
  obtain ⟨⟨hc,rfl⟩,hp⟩:=hb
  rw [if_pos hc] at h
  cases hbh:s.behind (CB s.fr r.t) with
  | none=>rw [hbh] at h; cases h
  | some y =>
   obtain ⟨ds,off⟩:=y
   rw [hbh] at h
   simp only [Z,AS] at h
   subst h
   have hv:=(hf r.t).behind hbh
   have hl2:off+r.K.sz<=ds.length:=by
    have:=Kd.sz_pos r.K
    simp only [List.length_take,List.length_drop] at hlen
    omega
   obtain ⟨b,o,vs,ev,_,_⟩:=Ka hs hv hbh
   obtain ⟨u,hrun,hu⟩:=Vk (P:=P) (t:=t) hs hv hbh hl2 hp
   have hrun2:(JQ tmps (.cell r.t t)).run P w=.ok u w:=by
    rw [ev] at hrun
    simp only [Instr.loadAt,Instr.sureAddr,Sem.run_bind,Sem.run_pure,Result.andThen_ok] at hrun
    simp only [JQ,Sem.run_bind]
    rw [ev]
    simp only [asAddr,Sem.run_pure,Result.andThen_ok]
    exact hrun
   refine ⟨u,hrun2,?_⟩
   have single:r.K.sz=1->J8 r.K=none->AN (VC H φ s.st) ((ds.drop off).take r.K.sz) u.cells.toList/\u.cells=#[u]:=by
    intro h1 h2
    rw [h1] at hl2 hne ⊢
    rw [h2] at hu
    have hlt:off<ds.length:=by omega
    have hc1:(ds.drop off).take 1=[ds[off]]:=by rw [List.drop_eq_getElem_cons hlt]; rfl
    have hpart:part ds off none=ds[off]:=by simp only [part,List.headD_eq_head?_getD]; rw [List.drop_eq_getElem_cons hlt]; rfl
    rw [hpart] at hu
    have hfc:ds[off].full=true:=hne _ (by rw [hc1]; simp)
    have hvc:VC H φ s.st ds[off] u:=by
     rcases hu.cases with ⟨e1,arr,ea,_,_⟩ | ⟨e1,arr,ea,_,_⟩ | hvc
     ·obtain ⟨b',o',vs',_,hall,_⟩:=Ka hs hv hbh
      obtain ⟨u2,_,hu2⟩:=hall.get off ds[off] (by simp)
      rw [ea] at hu2
      exact hu2.elim
     ·rw [ea] at hfc; cases hfc
     ·exact hvc
    have hone:=QG hs hvc hfc
    rw [hc1,hone]
    exact ⟨⟨u,[],rfl,hvc,rfl⟩,rfl⟩
   cases hK:r.K with
   | pair a b =>
    rw [hK] at hu
    obtain ⟨arr,e,hc⟩:=hu
    subst e
    exact ⟨hc,arr,rfl⟩
   | _=>rw [hK] at single; exact single rfl rfl
theorem E3:∀ {ks:List Kd} {vs cl:List AV} {tk tk':List Nat} {s s':St},s.shutAll tk ks vs=some (cl,tk',s')->∀ v∈vs,v.full=true
 | [],[],cl,tk,tk',s,s',h,v,hv=>by cases hv
 | [],_::_,cl,tk,tk',s,s',h,v,hv=>by simp [St.shutAll] at h
 | _::_,[],cl,tk,tk',s,s',h,v,hv=>by cases hv
 | k::ks,a::vs,cl,tk,tk',s,s',h,v,hv=>by
  have norm:((a.norm k).bind fun x=>(s.shutAll tk ks vs).bind fun y=>some (x::y.1,y.2))=some (cl,tk',s')->v.full=true:=by
   intro h
   cases hq:a.norm k with
   | none=>rw [hq] at h; cases h
   | some x =>
    rw [hq] at h
    simp only [Z] at h
    cases hc:s.shutAll tk ks vs with
    | none=>rw [hc] at h; cases h
    | some y =>
     obtain ⟨y1,y2,y3⟩:=y
     rcases AL.1 hv with rfl | hv
     ·have:=(Me hq).2.2.1
      cases v<;>first | rfl | cases this
     ·exact E3 hc v hv
  cases a with
  | row i =>
   rcases AL.1 hv with rfl | hv
   ·rfl
   ·simp only [St.shutAll] at h
    split at h
    ·cases h
    ·split at h
     ·split at h
      ·cases hc:s.shutAll (i::tk) ks vs with
       | none=>rw [hc] at h; cases h
       | some y=>obtain ⟨y1,y2,y3⟩:=y; exact E3 hc v hv
      ·cases h
     ·cases hk:s.keep (.row i) with
      | none=>rw [hk] at h; cases h
      | some x =>
       rw [hk] at h
       simp only [Z] at h
       cases hc:x.2.shutAll tk ks vs with
       | none=>rw [hc] at h; cases h
       | some y=>obtain ⟨y1,y2,y3⟩:=y; exact E3 hc v hv
  | ptr i o =>
   rcases AL.1 hv with rfl | hv'
   ·rfl
   ·cases o with
    | zero =>
     simp only [St.shutAll] at h
     split at h
     ·cases h
     ·split at h
      ·split at h
       ·rename_i K x0 cs hi
        cases hq:Fs K.leaves cs with
        | none=>rw [hq] at h; cases h
        | some cs' =>
         rw [hq] at h
         simp only [Z] at h
         cases hc:s.shutAll (i::tk) ks vs with
         | none=>rw [hc] at h; cases h
         | some y=>obtain ⟨y1,y2,y3⟩:=y; exact E3 hc v hv'
       ·cases h
      ·cases h
    | succ o=>exact norm h
  | _=>exact norm h
theorem GC:∀ {ks:List Kd} {vs cl:List AV} {tk tk':List Nat} {s s':St},s.shutAll tk ks vs=some (cl,tk',s')->vs.length=ks.length
 | [],[],cl,tk,tk',s,s',h=>rfl
 | [],_::_,cl,tk,tk',s,s',h=>by simp [St.shutAll] at h
 | _::_,[],cl,tk,tk',s,s',h=>by simp [St.shutAll] at h
 | k::ks,a::vs,cl,tk,tk',s,s',h=>by
  have norm:((a.norm k).bind fun x=>(s.shutAll tk ks vs).bind fun y=>some (x::y.1,y.2))=some (cl,tk',s')->(a::vs).length=(k::ks).length:=by
   intro h
   cases hq:a.norm k with
   | none=>rw [hq] at h; cases h
   | some x =>
    rw [hq] at h
    simp only [Z] at h
    cases hc:s.shutAll tk ks vs with
    | none=>rw [hc] at h; cases h
    | some y=>obtain ⟨y1,y2,y3⟩:=y; simp [GC hc]
  cases a with
  | row i =>
   simp only [St.shutAll] at h
   split at h
   ·cases h
   ·split at h
    ·split at h
     ·cases hc:s.shutAll (i::tk) ks vs with
      | none=>rw [hc] at h; cases h
      | some y=>obtain ⟨y1,y2,y3⟩:=y; simp [GC hc]
     ·cases h
    ·cases hk:s.keep (.row i) with
     | none=>rw [hk] at h; cases h
     | some x =>
      rw [hk] at h
      simp only [Z] at h
      cases hc:x.2.shutAll tk ks vs with
      | none=>rw [hc] at h; cases h
      | some y=>obtain ⟨y1,y2,y3⟩:=y; simp [GC hc]
  | ptr i o =>
   cases o with
   | zero =>
    simp only [St.shutAll] at h
    split at h
    ·cases h
    ·split at h
     ·split at h
      ·rename_i K x0 cs hi
       cases hq:Fs K.leaves cs with
       | none=>rw [hq] at h; cases h
       | some cs' =>
        rw [hq] at h
        simp only [Z] at h
        cases hc:s.shutAll (i::tk) ks vs with
        | none=>rw [hc] at h; cases h
        | some y=>obtain ⟨y1,y2,y3⟩:=y; simp [GC hc]
      ·cases h
     ·cases h
   | succ o=>exact norm h
  | _=>exact norm h
theorem Ld:∀ K:Kd,K.leaves.length=K.sz
 | .int _=>rfl
 | .bool=>rfl
 | .str=>rfl
 | .slice _=>rfl
 | .pair a b=>by simp [Kd.leaves,Kd.sz,Ld a,Ld b]
 | .own _ _=>rfl
 | .ref _=>rfl
 | .fun _=>rfl
 | .clo _ _=>rfl
theorem Rv {w:World} {φ:As} {tmps:Array Value}:∀ {rs:List WD} {rvs:List ResultVar} {aw:List AV} {tk tk':List Nat} {s s':St} {H:HP},SR H φ s.st w->B9 H φ s.st s.fr tmps->s.result tk rs=some (aw,tk',s')->QX P rvs rs=true ->
  ∃ H' ids vs,CN H φ w s s' tk tk' (vs.flatMap fun v=>v.cells.toList) (cellsOf aw) H' ids/\(rvs.mapM (JQ tmps)).run P w=.ok vs w/\AN (fun a v=>∃ K,∃ x:Kd.T K,a=Kd.av K x/\Wq K v/\a.cells.length=v.cells.toList.length) aw vs
 | [],[],aw,tk,tk',s,s',H,hs,hf,h,hb=>by
  cases h
  exact ⟨H,[],[],⟨AG.refl hs,Al.refl _ _ _,rfl,rfl,rfl,rfl,fun h=>h,fun _ _=>rfl,fun _ _=>rfl,fun m b h=>by simp [cellsOf,AR] at h,fun k f _=>rfl⟩,by simp,rfl⟩
 | [],_::_,aw,tk,tk',s,s',H,hs,hf,h,hb=>by simp [QX] at hb
 | _::_,[],aw,tk,tk',s,s',H,hs,hf,h,hb=>by simp [QX] at hb
 | r::rs,rv::rvs,aw,tk,tk',s,s',H,hs,hf,h,hb=>by
  simp only [QX,U] at hb
  simp only [St.result] at h
  cases h1:s.resCells r with
  | none=>rw [h1] at h; cases h
  | some cs =>
   rw [h1] at h
   simp only [Z] at h
   cases h2:s.shutAll tk r.K.leaves cs with
   | none=>rw [h2] at h; cases h
   | some y =>
    obtain ⟨cl,t1,s1⟩:=y
    rw [h2] at h
    simp only [Z] at h
    cases h3:r.K.ofCells cl with
    | none=>rw [h3] at h; cases h
    | some x =>
     rw [h3] at h
     simp only [Z] at h
     cases h4:s1.result t1 rs with
     | none=>rw [h4] at h; cases h
     | some z =>
      obtain ⟨aw',t2,s2⟩:=z
      rw [h4] at h
      cases h
      obtain ⟨v,hrun,hv,hfit⟩:=S5 hs hf h1 hb.1 (E3 h2) ((GC h2).trans (Ld _))
      obtain ⟨H1,i1,F1⟩:=G7 hs hv h2
      have ecl:cl=r.K.enc x:=by
       have:=Py r.K cl [] x F1.nf (Cp h3)
       simpa using this
      have hf1:B9 H1 φ s1.st s1.fr tmps:=by rw [F1.fr]; exact hf.mono F1.step.le F1.keeps
      obtain ⟨H2,i2,vs,F2,hrun2,hall⟩:=Rv F1.step.sr hf1 h4 hb.2
      have hcells:(r.K.av x).cells=cl:=by rw [J_,ecl]
      refine ⟨H2,i1++i2,v::vs,?_,?_,⟨v,vs,rfl,⟨r.K,x,rfl,hfit,?_⟩,hall⟩⟩
      ·have:=F1.append F2
       simp only [cellsOf,List.flatMap_cons,hcells] at this ⊢
       exact this
      ·rw [List.mapM_cons]
       simp [Sem.run_bind,hrun,hrun2]
      ·have:=(F1.vals 0 (fun m=>i1.getD m 0) fun m i hm=>by simp [List.getD,hm]).length
       rw [hcells]
       rw [D3] at this
       exact this.symm
theorem JR {w:World} {φ:As}:∀ {bs:List (Nat×Kd)} {aw:List AV} {tk tk':List Nat} {s s':St} {H:HP},SR H φ s.st w->s.shutBoxes tk bs=some (aw,tk',s') ->
  ∃ (H':HP) (ids:List Nat) (us:List (List Value)),CN H φ w s s' tk tk' us.flatten (Aj aw) H' ids/\AN (fun a u=>a.cellsO.length=u.length) aw us/\aw.length=bs.length/\(∀ (j:Nat) (v:AV),aw[j]? = some v->∃ p,bs[j]? = some p/\p.2.noRef=true/\∃ x:Kd.T p.2,v=Kd.av p.2 x) /\
   ∀ (j:Nat) (p:Nat×Kd),bs[j]? = some p->(p.2.isOwn=false/\AJ s'.st p.1=true/\∃ (b:Nat) (c:Array Value) (el:TypeId),φ p.1=.pointer (some ⟨b,0,none⟩)/\w.heap[b]? = some (.cells c el (0,0))/\us[j]? = some c.toList) \/
    (∃ (t:TypeId) (e:Kd),∃ xs:List (Kd.T e),p.2=.own t e/\s'.st[p.1]? = some (AC.mrow t e xs)/\aw[j]? = some (.new t e xs))
 | [],aw,tk,tk',s,s',H,hs,h=>by
  cases h
  exact ⟨H,[],[],⟨AG.refl hs,Al.refl _ _ _,rfl,rfl,rfl,rfl,fun h=>h,fun _ _=>rfl,fun _ _=>rfl,fun m b h=>by simp [Aj,AR] at h,fun k f _=>rfl⟩,rfl,rfl,fun j v h=>by simp at h,fun j p h=>by simp at h⟩
 | (b,K)::bs,aw,tk,tk',s,s',H,hs,h=>by
  simp only [St.shutBoxes] at h
  split at h
  ·rename_i t e xs hm
   split at h
   ·rename_i hK
    subst hK
    cases h4:s.shutBoxes tk bs with
    | none=>rw [h4] at h; cases h
    | some z =>
     obtain ⟨aw',t2,s2⟩:=z
     rw [h4] at h
     cases h
     obtain ⟨H2,i2,us,F2,hl,hn,hk,hb⟩:=JR hs h4
     refine ⟨H2,i2,[]::us,F2,⟨[],us,rfl,rfl,hl⟩,by simp [hn],fun j v hj=>?_,fun j p hj=>?_⟩
     ·cases j with
      | zero=>simp at hj; subst hj; exact ⟨(b,.own t e),rfl,rfl,xs,rfl⟩
      | succ j=>simpa using hk j v (by simpa using hj)
     ·cases j with
      | zero =>
       simp at hj
       subst hj
       exact .inr ⟨t,e,xs,rfl,by rw [F2.vars b (by simp only [AE,hm]; rfl)]; exact hm,rfl⟩
      | succ j=>simpa using hb j p (by simpa using hj)
   ·cases h
  ·rename_i cs hcs
   split at h
   case isFalse=>cases h
   rename_i hnr2
   simp only [U,Co] at hnr2
   obtain ⟨hnr,hno⟩:=hnr2
   cases h2:s.shutAll tk K.leaves cs with
   | none=>rw [h2] at h; cases h
   | some y =>
    obtain ⟨cl,t1,s1⟩:=y
    rw [h2] at h
    simp only [Z] at h
    cases h3:K.ofCells cl with
    | none=>rw [h3] at h; cases h
    | some x =>
     rw [h3] at h
     simp only [Z] at h
     cases h4:s1.shutBoxes t1 bs with
     | none=>rw [h4] at h; cases h
     | some z =>
      obtain ⟨aw',t2,s2⟩:=z
      rw [h4] at h
      cases h
      obtain ⟨b0,c,el,e1,e2,e3⟩:=Uo hs hcs
      obtain ⟨H1,i1,F1⟩:=G7 hs e3 h2
      have ecl:cl=K.enc x:=by
       have:=Py K cl [] x F1.nf (Cp h3)
       simpa using this
      obtain ⟨H2,i2,us,F2,hl,hn,hk,hb⟩:=JR F1.step.sr h4
      have hcells:(K.av x).cellsO=cl:=by rw [(D5 x hno).1,ecl]
      have hlen:cl.length=c.toList.length:=by
       have:=(F1.vals 0 (fun m=>i1.getD m 0) fun m i hm=>by simp [List.getD,hm]).length
       rw [D3] at this
       exact this.symm
      refine ⟨H2,i1++i2,c.toList::us,?_,⟨c.toList,us,rfl,by simp only [hcells]; exact hlen,hl⟩,by simp [hn],fun j v hj=>?_,fun j p hj=>?_⟩
      ·have:=F1.append F2
       simp only [Aj,List.flatMap_cons,hcells,List.flatten_cons] at this ⊢
       exact this
      ·cases j with
       | zero=>simp at hj; subst hj; exact ⟨(b,K),rfl,hnr,x,rfl⟩
       | succ j=>simpa using hk j v (by simpa using hj)
      ·cases j with
       | zero =>
        simp at hj
        subst hj
        refine .inl ⟨hno,?_,b0,c,el,e1,e2,rfl⟩
        have v0:AJ s.st b=true:=by simp only [AJ,hcs]
        have g1:=F1.vars b (JI v0)
        have v1:AJ s1.st b=true:=by unfold AJ at v0 ⊢; rw [g1]; exact v0
        have g2:=F2.vars b (JI v1)
        unfold AJ at v1 ⊢; rw [g2]; exact v1
       | succ j=>simpa using hb j p (by simpa using hj)
  ·cases h
theorem Le {R:AV->Value->Prop} (c:AV->List AV):∀ {aw:List AV} {us:List (List Value)} {k:Nat},AN (fun a u=>(c a).length=u.length) aw us->AN R (Af k (aw.flatMap c)) us.flatten ->
  ∀ (j:Nat) (a:AV) (u:List Value),aw[j]? = some a->us[j]? = some u->AN R (Af (k+AB ((aw.take j).flatMap c)) (c a)) u
 | [],us,k,hl,h,j,a,u,ha,hu=>by simp at ha
 | a0::aw,us,k,⟨u0,us',e,l0,hl⟩,h,j,a,u,ha,hu=>by
  subst e
  simp only [List.flatMap_cons,List.flatten_cons] at h
  rw [JM] at h
  have hlen:(Af k (c a0)).length=u0.length:=by rw [D3]; exact l0
  have h1:AN R (Af k (c a0)) u0:=by
   have:=h.take (Af k (c a0)).length
   rw [List.take_left,hlen,List.take_left] at this
   exact this
  have h2:AN R (Af (k+AB (c a0)) (aw.flatMap c)) us'.flatten:=by
   have:=h.drop (Af k (c a0)).length
   rw [List.drop_left,hlen,List.drop_left] at this
   exact this
  cases j with
  | zero =>
   simp at ha hu
   subst ha hu
   simpa [AB] using h1
  | succ j =>
   have:=Le c hl h2 j a u (by simpa using ha) (by simpa using hu)
   simpa [Ag,Nat.add_assoc] using this
def AV.isPtr:AV->Bool
 | .ptr _ _=>true
 | .ref _=>true
 | _=>false
theorem Nr:∀ (K:Kd) (x:K.T),K.noRef=true->∀ c∈K.enc x,c.isPtr=false
 | .int _,_,_,c,h=>by simp [Kd.enc] at h; subst h; rfl
 | .bool,_,_,c,h=>by simp [Kd.enc] at h; subst h; rfl
 | .str,_,_,c,h=>by simp [Kd.enc] at h; subst h; rfl
 | .slice _,_,_,c,h=>by simp [Kd.enc] at h; subst h; rfl
 | .pair a b,x,hn,c,h=>by
  simp only [Kd.noRef,U] at hn
  simp only [Kd.enc,BN] at h
  rcases h with h | h
  ·exact Nr a x.1 hn.1 c h
  ·exact Nr b x.2 hn.2 c h
 | .own _ _,_,_,c,h=>by simp [Kd.enc] at h; subst h; rfl
 | .ref _,_,hn,_,_=>by cases hn
 | .fun _,_,_,c,h=>by simp [Kd.enc] at h; subst h; rfl
 | .clo _ _,_,_,c,h=>by simp [Kd.enc] at h; subst h; rfl
theorem PH:∀ (cs:List AV) (k:Nat),(∀ c∈cs,c.isPtr=false)->∀ a∈Af k cs,a.isPtr=false
 | [],k,_,a,h=>by simp [Af] at h
 | c::cs,k,hn,a,h=>by
  have h1:=hn c (by simp)
  have ih:=fun k=>PH cs k fun c hc=>hn c (by simp [hc])
  have key:∀ (d:AV) (k':Nat),d.isPtr=false->(a=d\/a∈Af k' cs)->a.isPtr=false:=fun d k' hd h=>by
   rcases h with rfl | h
   ·exact hd
   ·exact ih k' a h
  cases c<;>simp only [Af,AL] at h<;>first | exact key _ _ rfl h | exact absurd h1 (by simp [AV.isPtr])
theorem Ft:∀ (vs:List AV) (k:Nat),(BO k vs).length=vs.length
 | [],_=>rfl
 | v::r,k=>by simp [BO,Ft r]
theorem QY:∀ (vs:List AV) (k j:Nat) (v:AV),vs[j]? = some v->(BO k vs)[j]? = some (MI (k+AB (cellsOf (vs.take j))) v)
 | [],k,j,v,h=>by simp at h
 | u::r,k,0,v,h=>by simp at h; subst h; simp [BO,cellsOf,AB]
 | u::r,k,j+1,v,h=>by
  simp only [BO,List.getElem?_cons_succ]
  rw [QY r _ j v (by simpa using h)]
  simp [cellsOf,Ag,Nat.add_assoc]
theorem XU {H0 H:HP} {φ0 φ:As} {w0 w:World} {s s1 s2:St} {args bs:List AV} {ids:List (Nat×Kd)} {rsv outs:List AV} {t1 t2:List Nat} {fn:Func} {ress:List WD} {tmps:Array Value}
  (hs:SR H φ s.st w) (hf:B9 H φ s.st s.fr tmps) (hfr:Fr bs.length (Aw bs args).length H0 φ0 w0 H φ s.st w) (hle:H0.le H)
  (hids:∀ (j:Nat) (p:Nat×Kd),ids[j]? = some p->p.1=j) (hbl:bs.length=ids.length)
  (hres:s.result (List.range ids.length) ress=some (rsv,t1,s1)) (hbox:s1.shutBoxes t1 ids=some (outs,t2,s2)) (hrb:QX P fn.results.toList ress=true) :
  (∀ r∈rsv++outs,r.cells.all AV.nilFree=true)/\∃ v,(results fn tmps).run P w=.ok v w/\Hq H0 φ0 w0 args bs outs rsv v w:=by
 obtain ⟨H1,i1,vs,F1,hrun,hall⟩:=Rv (P:=P) hs hf hres hrb
 obtain ⟨H2,i2,us,F2,hul,hol,hok,hob⟩:=JR F1.step.sr hbox
 have hnv:outs.length=bs.length:=by rw [hol,hbl]
 let nv:=bs.length
 let μ:Nat->Nat:=fun k=>if k<nv then k else (i2++i1).getD (k-nv) 0
 have μv:∀ k,k<nv->μ k=k:=fun k h=>by simp only [μ,h,if_true]
 have μb:∀ m i,i2[m]? = some i->μ (nv+m)=i:=fun m i hm=>by
  have hl:=(AK.1 hm).1
  simp only [μ,show ¬ nv+m<nv by omega,if_false,Nat.add_sub_cancel_left]
  simp [List.getD,AO hl,hm]
 have μr:∀ m i,i1[m]? = some i->μ (nv+i2.length+m)=i:=fun m i hm=>by
  simp only [μ,show ¬ nv+i2.length+m<nv by omega,if_false]
  rw [show nv+i2.length+m-nv=i2.length+m by omega]
  simp [List.getD,Au,hm]
 have hnd:(t2).Nodup:=F2.nd (F1.nd List.nodup_range)
 have ht2:t2=i2.reverse++(i1.reverse++List.range ids.length):=by rw [F2.tks,F1.tks]
 let est:=Aw outs rsv
 let φ2:As:=fun k=>φ (μ k)
 have hc2:AB (Aj outs)=i2.length:=F2.cnt
 have hc1:AB (cellsOf rsv)=i1.length:=F1.cnt
 have elen:est.length=nv+i2.length+i1.length:=by
  show (Aw outs rsv).length=_
  rw [IM,hnv,hc2,hc1]
 have evar:∀ k,k<nv->(∃ (b:Nat) (c:Array Value) (el:TypeId) (a:AV),φ k=.pointer (some ⟨b,0,none⟩)/\w.heap[b]? = some (.cells c el (0,0))/\outs[k]? = some a/\AJ s2.st k=true /\
   est[k]? = some (.var (Af (nv+AB (Aj (outs.take k))) a.cellsO)) /\
   AN (fun a u=>VC H2 φ s2.st (a.ren μ) u/\(a.solid=true\/∃ m,m<i2.length/\((∃ t e,∃ xs:List (Kd.T e),a=.row (nv+m)/\(AR (Aj outs))[m]? = some (AC.rows t e xs))\/(∃ ecs,a=.ptr (nv+m) 0/\(AR (Aj outs))[m]? = some (AC.var ecs)))))
    (Af (nv+AB (Aj (outs.take k))) a.cellsO) c.toList)\/(∃ (t:TypeId) (e:Kd),∃ xs:List (Kd.T e),s2.st[k]? = some (AC.mrow t e xs)/\est[k]? = some (AC.mrow t e xs)):=by
  intro k hk
  have hk2:k<ids.length:=by omega
  have hp:ids[k]? = some ids[k]:=by simp
  have hk3:k<outs.length:=by omega
  have ha:outs[k]? = some outs[k]:=by simp
  have hget:est[k]? = some (Sa (nv+AB (Aj (outs.take k))) outs[k]):=by
   show (Aw outs rsv)[k]? = _
   rw [D4,AO (by rw [Ah]; exact hk3),E1 outs _ k _ ha,hnv]
  rcases hob k _ hp with ⟨hno,g1,b,c,el,e1,e2,e3⟩ | ⟨t,e,xs,hK,g1,g2⟩
  ·rw [hids k _ hp] at g1 e1
   refine .inl ⟨b,c,el,outs[k],e1,e2,ha,g1,?_,Le AV.cellsO hul (F2.vals nv μ μb) k _ _ ha e3⟩
   rw [hget]
   obtain ⟨p,hp2,_,x,hx⟩:=hok k _ ha
   rw [hp] at hp2
   cases hp2
   rw [hx,(D5 x hno).2,(D5 x hno).1]
  ·rw [hids k _ hp] at g1
   rw [ha] at g2
   refine .inr ⟨t,e,xs,g1,?_⟩
   rw [hget,Option.some.inj g2]
   rfl
 have erow:∀ k b,nv<=k->est[k]? = some b->Ru s2.st (μ k) b/\(i2++i1)[k-nv]? = some (μ k):=by
  intro k b hk hb
  have hb:(Aw outs rsv)[k]? = some b:=hb
  rw [D4,Au (by rw [Ah,hnv]; exact hk),Ah,hnv,Aq] at hb
  rcases At (k-bs.length) (AR (Aj outs)).length with h | h
  ·rw [AO h] at hb
   obtain ⟨i,g1,g2⟩:=F2.boxes _ b hb
   have e:=μb _ i g1
   rw [show nv+(k-bs.length)=k by omega] at e
   rw [e]
   exact ⟨g2,by rw [AO (AK.1 g1).1]; exact g1⟩
  ·rw [Au h] at hb
   obtain ⟨i,g1,g2⟩:=F1.boxes _ b hb
   rw [Bv,hc2] at h g1
   have e:=μr _ i g1
   rw [show nv+i2.length+(k-bs.length-i2.length)=k by omega] at e
   rw [e]
   refine ⟨?_,by rw [Au h]; exact g1⟩
   have hh:=F2.held i (by rw [F1.tks]; simp [List.mem_of_getElem? g1])
   unfold Ru at g2 ⊢
   rw [hh]
   exact g2
 have rowsE:∀ m t e (xs:List (Kd.T e)),(AR (Aj outs))[m]? = some (AC.rows t e xs)->est[nv+m]? = some (AC.rows t e xs):=by
  intro m t e xs h
  show (Aw outs rsv)[nv+m]? = _
  have hl:=(AK.1 h).1
  rw [D4,Au (by rw [Ah,hnv]; exact Nat.le_add_right _ _),Ah,hnv,Aq,show nv+m-bs.length=m by simp only [nv]; omega,AO hl]
  exact h
 have restE:∀ m b,(AR (cellsOf rsv))[m]? = some b->est[nv+i2.length+m]? = some b:=by
  intro m b h
  show (Aw outs rsv)[nv+i2.length+m]? = _
  rw [D4,Au (by rw [Ah,hnv]; simp only [nv]; omega),Ah,hnv,Aq,Au (by rw [Bv,hc2]; simp only [nv]; omega),Bv,hc2,
   show nv+i2.length+m-bs.length-i2.length=m by simp only [nv]; omega]
  exact h
 have hs2:=F2.step.sr
 have μt:∀ k,k<est.length->(k<nv/\μ k=k)\/(nv<=k/\(i2++i1)[k-nv]? = some (μ k)):=by
  intro k hk
  rcases At k nv with h | h
  ·exact .inl ⟨h,μv k h⟩
  ·exact .inr ⟨h,(erow k est[k] h (by simp)).2⟩
 have μinj:∀ k k',k<est.length->k'<est.length->μ k=μ k'->k=k':=by
  intro k k' hk hk' e
  have hndl:(i2++i1).Nodup/\∀ i∈i2++i1,¬ i<ids.length:=by
   rw [ht2,<- Ba] at hnd
   have h1:=List.nodup_append.1 hnd
   constructor
   ·have h2:=List.nodup_append.1 h1.1
    exact List.nodup_append.2 ⟨(List.reverse_perm i2).nodup_iff.1 h2.1,(List.reverse_perm i1).nodup_iff.1 h2.2.1,fun a ha b hb=>h2.2.2 a (by simpa using ha) b (by simpa using hb)⟩
   ·intro i hi hlt
    exact h1.2.2 i (by simpa using hi) i (List.mem_range.2 hlt) rfl
  rcases μt k hk with ⟨h1,e1⟩ | ⟨h1,e1⟩<;>rcases μt k' hk' with ⟨h2,e2⟩ | ⟨h2,e2⟩
  ·omega
  ·exact absurd (show μ k'<ids.length by rw [<- e,e1]; omega) (hndl.2 _ (List.mem_of_getElem? e2))
  ·exact absurd (show μ k<ids.length by rw [e,e2]; omega) (hndl.2 _ (List.mem_of_getElem? e1))
  ·rw [<- e] at e2
   have:=(List.getElem?_inj (AK.1 e1).1 hndl.1).1 (e1.trans e2.symm)
   omega
 have vcE:∀ a u,VC H2 φ s2.st (a.ren μ) u->(a.solid=true\/(∃ k t e,∃ xs:List (Kd.T e),a=.row k/\est[k]? = some (AC.rows t e xs))\/∃ k ecs,a=.ptr k 0/\est[k]? = some (AC.var ecs))->VC H2 φ2 est a u:=by
  intro a u hv hc
  rcases hc with h | ⟨k,t,e,xs,rfl,hk⟩ | ⟨k,ecs,rfl,hk⟩
  ·rw [Nq h] at hv
   exact VC.of_VF (hv.solid h)
  ·obtain ⟨e1,_⟩:=hv
   exact ⟨e1,by simp only [AA,hk]; rfl⟩
  ·obtain ⟨_,b,e1,e2⟩:=hv
   exact ⟨by simp only [AJ,hk],b,e1,e2⟩
 have hbox2:∀ k b,est[k]? = some b->Dr H2 w (φ2 k) b:=by
  intro k b hk
  rcases At k nv with h | h
  ·rcases evar k h with ⟨b0,c,el,a,e1,e2,e3,_,e4,e5⟩ | ⟨t,e,xs,e1,e2⟩
   rotate_left
   ·rw [hk] at e2
    cases e2
    rw [show φ2 k=φ k by simp only [φ2,μv k h]]
    exact hs2.box k _ e1
   rw [hk] at e4
   cases e4
   obtain ⟨p,hp,hnr,x,hx⟩:=hok k a e3
   refine ⟨b0,c,el,by simp only [φ2,μv k h]; exact e1,e2,e5.impM fun a' ha' u ⟨g1,g2⟩=>?_⟩
   have hnp:=PH _ _ (by
    intro c hc
    rw [hx] at hc
    by_cases ho:p.2.isOwn=true
    ·revert x
     obtain ⟨t,e,ho⟩:=QK ho
     rw [ho]
     intro x _ hc
     simp [QL x] at hc
    ·rw [(D5 x (by simpa using ho)).1] at hc
     exact Nr _ _ hnr c hc) a' ha'
   rcases g2 with g2 | ⟨m,_,⟨t,e,xs,rfl,_⟩ | ⟨ecs,rfl,g3⟩⟩
   ·rw [Nq g2] at g1
    exact VW.of_VF (g1.solid g2)
   ·trivial
   ·cases hnp
  ·obtain ⟨g1,_⟩:=erow k b h hk
   rcases g1 with ⟨t,e,xs,g2,rfl⟩ | ⟨cs,ecs,g2,rfl,g3,g4⟩
   ·exact hs2.box _ _ g2
   ·obtain ⟨b0,c,el,e1,e2,e3⟩:=hs2.box _ _ g2
    refine ⟨b0,c,el,e1,e2,Hn (by rw [e3.length,g3]) fun o a u ha hu=>?_⟩
    obtain ⟨c0,c1,c2,c3,c4⟩:=g4 o a ha
    have hw:=e3.at c1 hu
    have hf:VF H2 c0 u:=by cases c0<;>first | exact hw | cases c3
    exact VW.of_VF (c4 H2 u hf)
 have hlive:∀ (k:Nat) (b2:AC),est[k]? = some b2->b2.live=true->(∀ b,¬A_ (φ2 k) b)\/∃ b,s2.st[μ k]? = some b/\b.live=true/\φ2 k=φ (μ k):=by
  intro k b hk _
  right
  rcases At k nv with h | h
  ·rw [μv k h]
   rcases evar k h with ⟨_,_,_,_,_,_,_,e3,_⟩ | ⟨t,e,xs,e1,_⟩
   ·unfold AJ at e3
    split at e3
    ·rename_i cs e; exact ⟨_,e,rfl,by simp only [φ2,μv k h]⟩
    ·cases e3
   ·exact ⟨_,e1,rfl,by simp only [φ2,μv k h]⟩
  ·obtain ⟨g1,_⟩:=erow k b h hk
   rcases g1 with ⟨t,e,xs,g2,_⟩ | ⟨cs,ecs,g2,_⟩
   ·exact ⟨_,g2,rfl,rfl⟩
   ·exact ⟨_,g2,rfl,rfl⟩
 have hsr:SR H2 φ2 est w:=by
  refine AG.pick hs2 μ hbox2 hlive (fun k k' b b' hk hk' _ _ _ _ e=>μinj k k' (AK.1 hk).1 (AK.1 hk').1 e) (fun k cs hk o i ho=>?_)
  rcases At k nv with h | h
  ·rcases evar k h with ⟨b0,c,el,a,e1,e2,e3,_,e4,e5⟩ | ⟨t,e,xs,_,e2⟩
   rotate_left
   ·rw [hk] at e2; cases e2
   rw [hk] at e4
   cases e4
   obtain ⟨u,hu,g1,g2⟩:=e5.get o _ ho
   rcases g2 with g2 | ⟨m,_,⟨t,e,xs,g3,g4⟩ | ⟨ecs,g3,_⟩⟩
   ·cases g2
   ·cases g3
    refine ⟨by simp only [AA,rowsE m t e xs g4]; rfl,b0,by simp only [φ2,μv k h]; exact e1,?_⟩
    obtain ⟨g5,_⟩:=g1
    simp only [World.cell?,e2]
    rw [Array.getElem?_toList] at hu
    simp only [Option.isSome_none,Bool.false_eq_true,if_false,hu]
    rw [g5]
   ·cases g3
  ·obtain ⟨g1,_⟩:=erow k _ h hk
   rcases g1 with ⟨t,e,xs,_,g3⟩ | ⟨cs0,ecs,g2,g3,_,g4⟩
   ·cases g3
   ·cases g3
    obtain ⟨_,_,g5,_⟩:=g4 o _ ho
    cases g5
 have hfr2:Fr bs.length (Aw bs args).length H0 φ0 w0 H2 φ2 est w:=by
  have f2:=F2.step.fr _ _ _ _ _ (F1.step.fr _ _ _ _ _ hfr)
  refine ⟨f2.os,f2.tape,f2.output,f2.size,f2.old,fun j hj=>?_,fun i bi hi hl b hb=>?_,fun j hj=>?_,f2.frz⟩
  ·have:=f2.same j hj
   simp only [φ2,μv j hj]
   exact this
  ·rcases hlive i bi hi hl with e | ⟨b1,g1,g2,g3⟩
   ·exact (e _ hb).elim
   ·rw [g3] at hb
    exact f2.new _ b1 g1 g2 b hb
  ·rcases evar j hj with ⟨_,_,_,_,_,_,_,_,e4,_⟩ | ⟨t,e,xs,_,e4⟩
   ·simp only [AE,e4]; rfl
   ·simp only [AE,e4]; rfl
 have hhan:CU outs=nv+i2.length:=by rw [Nj,hnv,hc2]
 have hvals:AN (VB H2 φ2 est) (BO (CU outs) rsv) vs:=by
  rw [hhan]
  have h1:=F1.vals (nv+i2.length) μ μr
  have h2:AN (VC H2 φ2 est) (Af (nv+i2.length) (cellsOf rsv)) (vs.map fun v=>v.cells.toList).flatten:=by
   rw [<- List.flatMap_def]
   refine h1.imp fun a u ⟨g1,g2⟩=>vcE a u (g1.mono F2.step.le F2.keeps) ?_
   rcases g2 with g2 | ⟨m,_,⟨t,e,xs,g3,g4⟩ | ⟨ecs,g3,g4⟩⟩
   ·exact .inl g2
   ·exact .inr (.inl ⟨_,t,e,xs,g3,restE m _ g4⟩)
   ·exact .inr (.inr ⟨_,ecs,g3,restE m _ g4⟩)
  have h3:AN (fun a u=>a.cells.length=u.length) rsv (vs.map fun v=>v.cells.toList):=by
   refine Hn (by rw [List.length_map,hall.length]) fun j a u ha hu=>?_
   rw [BC] at hu
   obtain ⟨v,hv,_,_,_,_,hl⟩:=hall.get j a ha
   rw [hv] at hu
   cases hu
   exact hl
  refine Hn (by rw [Ft,hall.length]) fun j a v ha hv=>?_
  have hj:j<rsv.length:=by rw [<- Ft rsv (nv+i2.length)]; exact (AK.1 ha).1
  have hr:rsv[j]? = some rsv[j]:=by simp
  rw [QY rsv _ j _ hr] at ha
  cases ha
  have h4:=Le AV.cells h3 h2 j rsv[j] v.cells.toList hr (by rw [BC,hv]; rfl)
  obtain ⟨v',hv',K,x,hK,hfit,_⟩:=hall.get j _ hr
  rw [hv] at hv'
  cases hv'
  rw [hK] at h4 ⊢
  change AN _ (Af (nv+i2.length+AB (cellsOf (List.take j rsv))) _) _ at h4
  generalize nv+i2.length+AB (cellsOf (List.take j rsv))=kk at h4 ⊢
  have single:(K.av x).cells=[K.av x]->v.cells=#[v]->MI kk (K.av x)=(Af kk [K.av x]).headD .undef->VB H2 φ2 est (MI kk (K.av x)) v:=by
   intro e1 e2 e3
   rw [e1,e2] at h4
   rw [e3]
   cases hq:Af kk [K.av x] with
   | nil=>rw [hq] at h4; simp [AN] at h4
   | cons c r =>
    rw [hq] at h4
    obtain ⟨v',r',e,h5,_⟩:=h4
    cases e
    exact VB.of_VC h5
  cases K with
  | pair k l =>
   obtain ⟨arr,rfl⟩:=hfit
   exact ⟨arr,rfl,h4⟩
  | _=>exact single rfl hfit rfl
 have nfs:∀ {l:List AV},(cellsOf l).all AV.nilFree=true->∀ r∈l,r.cells.all AV.nilFree=true:=by
  intro l h r hr
  refine Am.2 fun c hc=>Am.1 h c ?_
  exact List.mem_flatMap.2 ⟨r,hr,hc⟩
 refine ⟨fun r hr=>?_,match vs with | [v]=>v | vs=>.tuple vs.toArray,?_,H2,φ2,HP.le_trans hle (HP.le_trans F1.step.le F2.step.le),hsr,hfr2,?_⟩
 ·rcases BN.1 hr with h | h
  ·exact nfs F1.nf r h
  ·obtain ⟨j,hj⟩:=List.mem_iff_getElem?.1 h
   obtain ⟨p,_,_,x,hx⟩:=hok j r hj
   by_cases ho:p.2.isOwn=true
   ·subst hx
    revert x
    obtain ⟨t,e,ho⟩:=QK ho
    rw [ho]
    intro x
    intros
    rfl
   ·refine Am.2 fun c hc=>Am.1 F2.nf c (List.mem_flatMap.2 ⟨r,h,?_⟩)
    subst hx
    rw [(D5 x (by simpa using ho)).1]
    rw [J_] at hc
    exact hc
 ·have hm:(fn.results.mapM (JQ tmps)).run P w=.ok vs.toArray w:=by
   rw [Array.mapM_eq_mapM_toList,<- bind_pure_comp,Sem.run_bind,hrun]
   rfl
  have hr:results fn tmps=(fn.results.mapM (JQ tmps)) >>= fun vs=>pure (if h:vs.size=1 then vs[0] else .tuple vs):=by
   unfold results
   first | rfl | (congr 1; done) | (congr 1; congr 1; done) | (congr 1; congr 1; funext rv; cases rv<;>rfl)
  rw [hr,Sem.run_bind,hm]
  cases vs with
  | nil=>rfl
  | cons v vs =>
   cases vs with
   | nil=>rfl
   | cons v2 vs=>rfl
 ·cases vs with
  | nil =>
   have:rsv=[]:=by
    have:=hall.length
    exact Cn.1 (by simpa using this.symm)
   subst this
   exact ⟨_,rfl,rfl⟩
  | cons v vs =>
   cases vs with
   | nil =>
    have h1:rsv.length=1:=by have:=hall.length; simpa using this.symm
    obtain ⟨a,rfl⟩:=List.length_eq_one_iff.1 h1
    obtain ⟨v',r,e,h2,_⟩:=hvals
    cases e
    exact h2
   | cons v2 vs =>
    have h1:rsv.length=vs.length+2:=by have:=hall.length; simpa using this.symm
    obtain ⟨a,b,r,rfl⟩:∃ a b r,rsv=a::b::r:=by
     match rsv,h1 with
     | a::b::r,_=>exact ⟨a,b,r,rfl⟩
    exact ⟨_,rfl,hvals⟩
def Kd.sol:Kd->Bool
 | .pair a b=>a.sol&&b.sol
 | .own _ _ | .ref _=>false
 | _=>true
def Kd.okOut:Kd->Bool
 | .pair a b=>a.okOut&&b.okOut
 | .ref K=>K.sol
 | _=>true
theorem SO:∀ (K:Kd) (x:K.T),K.sol=true->(K.enc x).all (fun c=>c.solid&&(match c with | .nil=>false | _=>true))=true
 | .int _,_,_=>rfl
 | .bool,_,_=>rfl
 | .str,_,_=>rfl
 | .slice _,_,_=>rfl
 | .pair a b,x,h=>by
  simp only [Kd.sol,U] at h
  simp only [Kd.enc,List.all_append,SO a x.1 h.1,SO b x.2 h.2,Bool.and_self]
 | .own _ _,_,h=>by cases h
 | .ref _,_,h=>by cases h
 | .fun _,_,_=>rfl
 | .clo _ _,_,_=>rfl
theorem Ns:∀ (K:Kd) (x:K.T),K.okOut=true->(K.enc x).all AV.nilFree=true
 | .int _,_,_=>rfl
 | .bool,_,_=>rfl
 | .str,_,_=>rfl
 | .slice _,_,_=>rfl
 | .pair a b,x,h=>by
  simp only [Kd.okOut,U] at h
  simp only [Kd.enc,List.all_append,Ns a x.1 h.1,Ns b x.2 h.2,Bool.and_self]
 | .own _ _,_,_=>rfl
 | .fun _,_,_=>rfl
 | .clo _ _,_,_=>rfl
 | .ref K,x,h=>by
  simp only [Kd.enc,List.all_cons,List.all_nil,Bool.and_true,AV.nilFree]
  exact SO K x h
def Vl (P:Program) (f:Nat) (a:Bq):Bool :=
 match P.funcs[f]? with
 | some fn=>(match fn.body with
  | some c=>!(fn.name == "runtime.NumGoroutine")&&Ck P fn.ntmps c a.body&&QX P fn.results.toList a.res&&decide (a.params.length≤fn.ntmps)&&a.outs.all Kd.okOut
  | none=>false)
 | none=>false
theorem Rw:∀ (ks:List Kd) (j0:Nat),(O4 ks j0).length=ks.length/\∀ (j:Nat) (p:Nat×Kd),(O4 ks j0)[j]? = some p->p.1=j0+j
 | [],j0=>⟨rfl,fun j p h=>by simp [O4] at h⟩
 | k::ks,j0=>by
  obtain ⟨h1,h2⟩:=Rw ks (j0+1)
  refine ⟨by simp [O4,h1],fun j p h=>?_⟩
  simp only [O4] at h
  cases j with
  | zero=>simp at h; subst h; rfl
  | succ j=>have:=h2 j p (by simpa using h); omega
theorem Bw:∀ (ps:List PK) (j0 j:Nat) (p:Nat×Kd),(Bx ps j0)[j]? = some p->p.1=j0+j
 | [],j0,j,p,h=>by simp [Bx] at h
 | .val _::r,j0,j,p,h=>Bw r j0 j p h
 | .bor _::r,j0,j,p,h=>Bw r j0 j p h
 | .mov _::r,j0,j,p,h=>Bw r j0 j p h
 | .movS _::r,j0,j,p,h=>Bw r j0 j p h
 | .ept::r,j0,j,p,h=>Bw r j0 j p h
 | .cap _ _::r,j0,j,p,h=>Bw r j0 j p h
 | .cap0 _::r,j0,j,p,h=>Bw r j0 j p h
 | .ptr K::r,j0,j,p,h=>by
  simp only [Bx] at h
  cases j with
  | zero=>simp at h; subst h; rfl
  | succ j=>have:=Bw r (j0+1) j p (by simpa using h); omega
 | .mut K::r,j0,j,p,h=>by
  simp only [Bx] at h
  obtain ⟨hl,hm⟩:=Rw K.owns j0
  rcases At j (O4 K.owns j0).length with h1 | h1
  ·rw [AO h1] at h; exact hm j p h
  ·rw [Au h1,hl] at h
   rw [hl] at h1
   have:=Bw r _ _ p h
   omega
theorem PI:∀ (vs:List AV) (i t:Nat),CB (Gj i vs) t=if i<=t/\t<i+vs.length then vs.getD (t-i) .undef else .undef
 | [],i,t=>by simp [Gj,CB]
 | v::vs,i,t=>by
  simp only [Gj,CB]
  by_cases h:i=t
  ·subst h
   rw [if_pos rfl,if_pos ⟨Nat.le_refl _,by simp⟩]
   simp
  ·rw [if_neg h,PI vs (i+1) t]
   by_cases h1:i+1<=t/\t<i+1+vs.length
   ·rw [if_pos h1,if_pos ⟨by omega,by simp; omega⟩,show t-i=(t-(i+1))+1 by omega]
    simp
   ·rw [if_neg h1,if_neg (by simp; omega)]
theorem Rx:∀ {rs:List WD} {aw:List AV} {tk tk':List Nat} {s s':St},s.result tk rs=some (aw,tk',s')->aw.length=rs.length
 | [],aw,tk,tk',s,s',h=>by cases h; rfl
 | r::rs,aw,tk,tk',s,s',h=>by
  simp only [St.result] at h
  cases h1:s.resCells r with
  | none=>rw [h1] at h; cases h
  | some cs =>
   rw [h1] at h
   simp only [Z] at h
   cases h2:s.shutAll tk r.K.leaves cs with
   | none=>rw [h2] at h; cases h
   | some y =>
    rw [h2] at h
    simp only [Z] at h
    cases h3:r.K.ofCells y.1 with
    | none=>rw [h3] at h; cases h
    | some x =>
     rw [h3] at h
     simp only [Z] at h
     cases h4:y.2.2.result y.2.1 rs with
     | none=>rw [h4] at h; cases h
     | some z =>
      obtain ⟨aw',t2,s2⟩:=z
      rw [h4] at h
      cases h
      simp [Rx h4]
theorem Wr {cal:Cg} {k f:Nat} {a:Bq} {args bs rs:List AV} (hcal:DK P cal) (hb:Vl P f a=true) (hl:args.length=a.params.length/\bs.length=(Bx a.params 0).length)
  (h:(Tu cal k a args bs).map (Bm a.outs)=some rs):QM P f/\(∀ r∈rs,r.cells.all AV.nilFree=true)/\∃ n,n+bs.length=rs.length /\
  ∀ (H:HP) (φ:As) (w:World) (cargs:List Value),SR H φ (Aw bs args) w->AN (VB H φ (Aw bs args)) (BO (CU bs) args) cargs ->
   Calls P f cargs.toArray w fun out w'=>match out with
    | .returned v=>Hq H φ w args bs (rs.drop n) (rs.take n) v w'
    | _=>False:=by
 unfold Vl at hb
 split at hb
 case h_2=>cases hb
 rename_i fn hfn
 split at hb
 case h_2=>cases hb
 rename_i c hc
 simp only [U,Co,decide_eq_true_eq] at hb
 obtain ⟨⟨⟨⟨hname,hcode⟩,hress⟩,hlen⟩,hout⟩:=hb
 cases hr:Tu cal k a args bs with
 | none=>rw [hr] at h; cases h
 | some r =>
 rw [hr] at h
 simp only [Option.map_some,AS] at h
 subst h
 have hol:a.outs.length=a.res.length+bs.length:=by rw [hl.2]; simp [Bq.outs]
 have el:(Bm a.outs r).length=a.outs.length:=by
  have:∀ (Ks:List Kd) (y:RT Ks),(Bm Ks y).length=Ks.length:=by
   intro Ks
   induction Ks with
   | nil=>intro y; rfl
   | cons K Ks ih =>
    intro y
    cases Ks with
    | nil=>rfl
    | cons L Ks=>simp only [Bm,List.length_cons] at ih ⊢; rw [ih y.2]
  exact this _ _
 refine ⟨⟨fn,c,hfn,hname,hc⟩,fun q hq=>?_,a.res.length,by rw [el,hol],fun H φ w cargs hs hargs=>?_⟩
 ·obtain ⟨j,hj⟩:=List.mem_iff_getElem?.1 hq
  have hjl:j<a.outs.length:=by rw [<- el]; exact (AK.1 hj).1
  obtain ⟨x,hx⟩:=Nl a.outs r j a.outs[j] (by simp)
  rw [hx] at hj
  cases hj
  rw [J_]
  exact Ns _ _ (Am.1 hout _ (Ex hjl))
 ·have hcl:cargs.length=args.length:=by rw [hargs.length,Ft]
  have hsz:(cargs.toArray++Array.replicate (fn.ntmps-cargs.toArray.size) undef).size=fn.ntmps:=by
   simp only [Array.size_append,List.size_toArray,Array.size_replicate]
   omega
  have hf0:B9 H φ (Aw bs args) (Gj 0 (BO (CU bs) args)) (cargs.toArray++Array.replicate (fn.ntmps-cargs.toArray.size) undef):=by
   intro t
   rw [PI]
   split
   ·rename_i ht
    have ht2:t<(BO (CU bs) args).length:=by omega
    have h1:(BO (CU bs) args)[t]? = some (BO (CU bs) args)[t]:=by simp
    obtain ⟨v,hv,hvb⟩:=hargs.get t _ h1
    have e1:(BO (CU bs) args).getD (t-0) .undef=(BO (CU bs) args)[t]:=by simp [List.getD,ht2]
    have ht3:t<cargs.length:=(AK.1 hv).1
    have e2:(cargs.toArray++Array.replicate (fn.ntmps-cargs.toArray.size) undef).getD t undef=v:=by
     rw [Array.getD_eq_getD_getElem?,Array.getElem?_append_left (by simpa using ht3)]
     simp only [List.getElem?_toArray,hv,Option.getD_some]
    rw [e1,e2]
    exact VA.of_VB hvb
   ·trivial
  have fr0:Fr bs.length (Aw bs args).length H φ w H φ (Aw bs args) w:=by
   refine ⟨rfl,rfl,rfl,Nat.le_refl _,fun _ _ _=>rfl,fun _ _=>rfl,fun i bi hi _ b hb=>.inr ⟨i,(AK.1 hi).1,hb⟩,fun j hj=>?_,fun _ _ _=>rfl⟩
   have hv:bs[j]? = some bs[j]:=by simp
   unfold AE
   rw [D4,AO (by rw [Ah]; exact hj),E1 bs _ j _ hv]
   generalize bs[j]=v
   cases v<;>rfl
  have fin:PG fn.ntmps (AT a) r ⟨Gj 0 (BO (CU bs) args),Aw bs args⟩ { tmps:=cargs.toArray++Array.replicate (fn.ntmps-cargs.toArray.size) undef,defers:=[] } w H φ
    (fun act' w'=>act'.defers=[]/\∃ v,(results fn act'.tmps).run P w'=.ok v w'/\Hq H φ w args bs ((Bm a.outs r).drop a.res.length) ((Bm a.outs r).take a.res.length) v w'):=by
   intro s' act' w' H' φ' hk hst hf' hn' hd'
   refine ⟨hd',?_⟩
   unfold AT at hk
   cases h1:s'.result (List.range (Bx a.params 0).length) a.res with
   | none=>rw [h1] at hk; cases hk
   | some y =>
    obtain ⟨rsv,t1,s1⟩:=y
    rw [h1] at hk
    simp only [Z] at hk
    cases h2:s1.shutBoxes t1 (Bx a.params 0) with
    | none=>rw [h2] at hk; cases hk
    | some z =>
     obtain ⟨outs,t2,s2⟩:=z
     rw [h2] at hk
     simp only [Z] at hk
     obtain ⟨nf,v,hv,hend⟩:=XU (P:=P) (args:=args) hst.sr hf' (hst.fr _ _ _ _ _ fr0) hst.le (fun j p hp=>by have:=Bw a.params 0 j p hp; omega) hl.2 h1 h2 hress
     have henc:=Rq _ _ r hk nf
     have hrl:=Rx h1
     rw [henc,<- hrl,List.drop_left,List.take_left]
     exact ⟨v,hv,hend⟩
  have hwp:=Wo (P:=P) (n:=fn.ntmps) (k:=k) hcal a.body c hcode (RT a.outs) (AT a) (AT a) (fun _ _=>none) r ⟨Gj 0 (BO (CU bs) args),Aw bs args⟩
   { tmps:=cargs.toArray++Array.replicate (fn.ntmps-cargs.toArray.size) undef,defers:=[] } w H φ
   (bodyPost P fn fun out w'=>match out with
    | .returned v=>Hq H φ w args bs ((Bm a.outs r).drop a.res.length) ((Bm a.outs r).take a.res.length) v w'
    | _=>False) hs hf0 hsz hr fin fin (fun i s' act' w' H' φ' hk=>by cases hk)
  exact calls_of_wp hfn hc hwp
def B_ (P:Program) (f:Nat) (a:Bq):Bool:=(decide (f<Bn)||decide (2*Bn<=f))&&Vl P (f % Bn) a
def Vm (P:Program) (Kq:Nat->Option Bq):Prop:=∀ f a,Kq f=some a->B_ P f a=true
theorem S6 {Kq:Nat->Option Bq} {Cs:Cg} (ht:Vm P Kq) (hp:DK P Cs):∀ k,DK P (MN Kq Cs k)
 | 0=>⟨fun f k t T _ h=>(by cases h),fun f args bs rs _ h=>by cases h⟩
 | k+1=>⟨fun f q t T hf h=>(by
  simp only [MN] at h
  split at h
  ·rename_i a ha
   have:=ht _ a ha
   simp only [B_,U,EZ,decide_eq_true_eq] at this
   omega
  ·exact hp.1 f q t T hf h),fun f args bs rs hlt h=>by
  simp only [MN] at h
  split at h
  ·rename_i a ha
   split at h
   ·rename_i hl
    exact Wr (S6 ht hp k) (by have:=ht f a ha; simp only [B_,U] at this; exact this.2) hl h
   ·cases h
  ·exact hp.2 f args bs rs hlt h⟩
end Go.Proofs.Ytffahmnodgnohaa.Core

namespace Go.Proofs.Ytffahmnodgnohaa.Core
open Go
def Kd.ok:(K:Kd)->K.T->Prop
 | .int k,n=>k.min<=n/\n<=k.max
 | .bool,_=>True
 | .str,s=>s.size<=maxLen
 | .slice e,xs=>xs.length<=maxLen/\∀ x∈xs,Kd.ok e x
 | .pair a b,x=>a.ok x.1/\b.ok x.2
 | .own _ _,_=>False
 | .ref _,_=>False
 | .fun _,_=>False
 | .clo _ _,_=>False
mutual
def LJ (P:Program):Nat->TypeId->Kd->Bool
 | 0,_,_=>false
 | D+1,t,K=>match P.underlying t with
  | some (.int k)=>(match K with | .int k'=>decide (k=k') | _=>false)
  | some .bool=>(match K with | .bool=>true | _=>false)
  | some .string=>(match K with | .str=>true | _=>false)
  | some (.slice te)=>(match K with | .slice e=>P.cellsOf te==e.sz&&LJ P D te e | _=>false)
  | some (.struct fs)=>P.cellsOf t==K.sz&&(match K with | .pair _ _=>true | _=>false)&&JS P D fs.toList 0 K
  | _=>false
def JS (P:Program):Nat->List Field->Nat->Kd->Bool
 | 0,_,_,_=>false
 | _+1,[],_,_=>false
 | D+1,[f],off,K=>f.offset==off&&P.cellsOf f.type==K.sz&&LJ P D f.type K
 | D+1,f::g::fs,off,K=>match K with
  | .pair a b=>f.offset==off&&P.cellsOf f.type==a.sz&&LJ P D f.type a&&JS P D (g::fs) (off+a.sz) b
  | _=>false
end
def In (w:World):HP:=fun b=>w.heap[b]?
theorem QZ {w:World} {base:Nat} {a:Addr} {n:Nat} {cs:List Value} (h:w.cells? base a n=some cs):cs.length=n/\∀ i,i<n->w.cell? (a.add i)=cs[i]? := by
 unfold World.cells? at h
 split at h
 ·exact ⟨by simpa using mapM_some_length h,fun i hi=>mapM_some_get h i i (by simp [hi])⟩
 ·cases h
theorem Ry (a:Addr):a.add 0=a:=by unfold Addr.add; split<;>simp_all
theorem Rz {w:World} {a:Addr} {u:Value} (h:w.cell? a=some u):a=⟨a.block,a.off,none⟩/\∃ c el fz,w.heap[a.block]? = some (.cells c el fz)/\c[a.off]? = some u:=by
 obtain ⟨b,o,sp⟩:=a
 simp only [World.cell?] at h
 split at h
 ·rename_i c el fz hc
  cases sp with
  | some sp=>simp at h
  | none =>
   simp only [Option.isSome_none,Bool.false_eq_true,if_false] at h
   exact ⟨rfl,c,el,fz,hc,h⟩
 ·cases h
mutual
theorem P3 {H:Type} {enc:TypeId×Value->H} {P:Program} {w:World} {base:Nat} {spare:Nat->Bool} {held:Bool}:∀ (D:Nat) (t:TypeId) (K:Kd) (fuel:Nat) (cs:List Value) (x:DataW H×List MemPlace),LJ P D t K=true ->
  DataW.trod enc P w base spare held fuel t cs=some x->∃ y:K.T,CW (In w) K y cs/\Kd.ok K y
 | 0,t,K,fuel,cs,x,h,_=>by simp [LJ] at h
 | D+1,t,K,fuel,cs,x,h,hd=>by
  unfold LJ at h
  split at h
  ·rename_i k hu
   cases K<;>first | cases h | skip
   simp only [decide_eq_true_eq] at h
   subst h
   obtain ⟨n,rfl,_,hw⟩:=DataW.trod_int hu hd
   simp only [Lit.wf,U,decide_eq_true_eq] at hw
   exact ⟨n,rfl,hw⟩
  ·rename_i hu
   cases K<;>first | cases h | skip
   obtain ⟨b,rfl,_⟩:=DataW.trod_bool hu hd
   exact ⟨b,rfl,trivial⟩
  ·rename_i hu
   cases K<;>first | cases h | skip
   obtain ⟨s,rfl,_,hs⟩:=DataW.trod_string hu hd
   exact ⟨s,rfl,hs⟩
  ·rename_i te hu
   cases K<;>first | cases h | skip
   rename_i e
   simp only [U,beq_iff_eq] at h
   rcases DataW.trod_slice hu hd with ⟨rfl,_⟩ | ⟨a,len,cap,elems,rest,n,_,rfl,_,_,hl,hm,hlen,hel,_⟩
   ·exact ⟨[],⟨_,rfl,Ez⟩,by simp [Kd.ok]⟩
   ·have each:∀ i,i<len->∃ y:e.T,∃ cs',w.cells? base (a.add (i*e.sz)) e.sz=some cs'/\CW (In w) e y cs'/\Kd.ok e y:=by
     intro i hi
     have h1:=hel i hi
     rw [h.1] at h1
     have h2:elems[i]? = some (elems[i]'(by omega)):=by simp
     rw [h2] at h1
     cases hq:w.cells? base (a.add (i*e.sz)) e.sz with
     | none=>rw [hq] at h1; cases h1
     | some cs' =>
      rw [hq] at h1
      simp only [Z] at h1
      obtain ⟨y,h3,h4⟩:=P3 D te e n cs' _ h.2 h1
      exact ⟨y,cs',rfl,h3,h4⟩
    have all:∀ m,m<=len->∃ ys:List e.T,ys.length=m/\∀ i y,ys[i]? = some y->∃ cs',w.cells? base (a.add (i*e.sz)) e.sz=some cs'/\CW (In w) e y cs'/\Kd.ok e y:=by
     intro m
     induction m with
     | zero=>intro _; exact ⟨[],rfl,fun i y h=>by simp at h⟩
     | succ m ih =>
      intro hm
      obtain ⟨ys,l,hy⟩:=ih (by omega)
      obtain ⟨y,cs',g1,g2,g3⟩:=each m (by omega)
      refine ⟨ys++[y],by simp [l],fun i z hz=>?_⟩
      rcases At i ys.length with hi | hi
      ·rw [AO hi] at hz
       exact hy i z hz
      ·rw [Au hi] at hz
       have hi0:i-ys.length=0:=by
        have:=(AK.1 hz).1
        simp at this
        omega
       rw [hi0] at hz
       simp at hz
       subst hz
       have:i=m:=by omega
       subst this
       exact ⟨cs',g1,g2,g3⟩
    obtain ⟨ys,l,hy⟩:=all len (Nat.le_refl _)
    have hok:ys.length<=maxLen/\∀ y∈ys,Kd.ok e y:=by
     refine ⟨by omega,fun y hm=>?_⟩
     obtain ⟨i,hi⟩:=List.mem_iff_getElem?.1 hm
     obtain ⟨_,_,_,g⟩:=hy i y hi
     exact g
    refine ⟨ys,⟨_,rfl,some a,cap,by rw [l],by omega,?_⟩,hok⟩
    cases hys:ys with
    | nil=>exact .inl rfl
    | cons y0 yr =>
     right
     have hsz:=Kd.sz_pos e
     obtain ⟨cs0,g1,g2,_⟩:=hy 0 y0 (by rw [hys]; rfl)
     obtain ⟨l0,c0⟩:=QZ g1
     have hc0:=c0 0 hsz
     have hcs0:cs0[0]? = some (cs0[0]'(by omega)):=by simp
     rw [hcs0,Nat.zero_mul,Ry,Ry] at hc0
     obtain ⟨ea,c,el,fz,hb,_⟩:=Rz hc0
     have addadd:∀ x y:Nat,(a.add x).add y=⟨a.block,a.off+(x+y),none⟩:=by
      intro x y
      rw [ea,Addr.add_none,Addr.add_none,Nat.add_assoc]
     refine ⟨a.block,a.off,c,el,fz,by rw [<- ea],hb,fun j y hj=>?_⟩
     obtain ⟨cs',g3,g4,_⟩:=hy j y (by rw [hys]; exact hj)
     obtain ⟨l1,c1⟩:=QZ g3
     refine ⟨cs',g4,l1,fun i u hu=>?_⟩
     have hi:i<e.sz:=by rw [<- l1]; exact (AK.1 hu).1
     have h3:=c1 i hi
     rw [hu,addadd] at h3
     obtain ⟨_,c2,el2,fz2,hb2,h4⟩:=Rz h3
     rw [hb] at hb2
     cases hb2
     rw [Nat.add_assoc]
     exact h4
  ·rename_i fs hu
   simp only [U,beq_iff_eq] at h
   obtain ⟨⟨hc,_⟩,h⟩:=h
   obtain ⟨xs,n,_,_,hl,_,hf⟩:=DataW.trod_struct hu hd
   have:=PJ (w:=w) (P:=P) D fs.toList 0 K n cs xs h (fun i f hi=>hf i f (by simpa using hi)) (by
    have:xs.length=fs.size:=by assumption
    simpa using this)
   obtain ⟨y,h1,h2⟩:=this
   refine ⟨y,?_,h2⟩
   rw [hc] at hl
   rw [List.drop_zero,List.take_of_length_le (by omega)] at h1
   exact h1
  ·cases h
theorem PJ {H:Type} {enc:TypeId×Value->H} {P:Program} {w:World} {base:Nat} {spare:Nat->Bool} {held:Bool}:∀ (D:Nat) (fs:List Field) (off:Nat) (K:Kd) (fuel:Nat) (cs:List Value) (xs:List (DataW H×List MemPlace)),JS P D fs off K=true ->
  (∀ (i:Nat) (f:Field),fs[i]? = some f->DataW.trod enc P w base spare held fuel f.type ((cs.drop f.offset).take (P.cellsOf f.type))=xs[i]?)->xs.length=fs.length->∃ y:K.T,CW (In w) K y ((cs.drop off).take K.sz)/\Kd.ok K y
 | 0,fs,off,K,fuel,cs,xs,h,_,_=>by simp [JS] at h
 | D+1,[],off,K,fuel,cs,xs,h,_,_=>by simp [JS] at h
 | D+1,[f],off,K,fuel,cs,xs,h,hf,hl=>by
  simp only [JS,U,beq_iff_eq] at h
  obtain ⟨⟨rfl,hc⟩,ht⟩:=h
  have h1:=hf 0 f rfl
  rw [hc] at h1
  have h2:xs[0]? = some (xs[0]'(by simp at hl; omega)):=by simp
  rw [h2] at h1
  exact P3 D f.type K fuel _ _ ht h1
 | D+1,f::g::fs,off,K,fuel,cs,xs,h,hf,hl=>by
  simp only [JS] at h
  cases K with
  | pair a b =>
   simp only [U,beq_iff_eq] at h
   obtain ⟨⟨⟨rfl,hc⟩,ht⟩,hr⟩:=h
   have h1:=hf 0 f rfl
   rw [hc] at h1
   have h2:xs[0]? = some (xs[0]'(by simp at hl; omega)):=by simp
   rw [h2] at h1
   obtain ⟨y1,r1,o1⟩:=P3 D f.type a fuel _ _ ht h1
   obtain ⟨y2,r2,o2⟩:=PJ (w:=w) (P:=P) D (g::fs) (f.offset+a.sz) b fuel cs (xs.drop 1) hr (fun i q hi=>by
    have:=hf (i+1) q (by simpa using hi)
    rw [this,BG,Nat.add_comm]) (by simp at hl ⊢; omega)
   refine ⟨(y1,y2),⟨_,_,?_,r1,r2⟩,o1,o2⟩
   apply List.ext_getElem?
   intro i
   have l1:=r1.length
   have l2:=r2.length
   simp only [Kd.sz]
   rcases At i a.sz with hi | hi
   ·rw [AO (by omega)]
    simp only [Av,BG]
    rw [if_pos (by omega),if_pos hi]
   ·rw [Au (by omega),l1]
    simp only [Av,BG]
    by_cases h3:i<a.sz+b.sz
    ·rw [if_pos h3,if_pos (by omega)]
     congr 1
     omega
    ·rw [if_neg h3,if_neg (by omega)]
  | _=>cases h
end
theorem Vn {H:Type} {enc:TypeId×Value->H} {P:Program} {w:World} {base:Nat} {spare:Nat->Bool} {held:Bool} {t:TypeId} {K:Kd} {v:Value} {d:DataW H} {p:List MemPlace} (h:LJ P 40 t K=true) (hf:F9 K v)
  (hd:DataW.Trod enc P w base spare held t v d p):∃ x:K.T,VE (In w) (K.av x) v/\Kd.ok K x:=by
 obtain ⟨fuel,hd⟩:=hd
 obtain ⟨x,h1,h2⟩:=P3 40 t K fuel _ _ h hd
 exact ⟨x,VT h1 hf,h2⟩
theorem Ws {P:Program} {W:World} {r:Reach} {base:Nat} {t:TypeId} {K:Kd} {v:Value} (h:LJ P 40 t K=true) (hv:Value.okWide P W r base t v):F9 K v:=by
 unfold LJ at h
 split at h
 ·rename_i k hu
  obtain ⟨n,rfl⟩:=WideShapes.okWide_int hu hv
  cases K<;>first | cases h | rfl
 ·rename_i hu
  obtain ⟨n,rfl⟩:=WideShapes.okWide_bool hu hv
  cases K<;>first | rfl | cases h
 ·rename_i hu
  obtain ⟨n,rfl⟩:=WideShapes.okWide_string hu hv
  cases K<;>first | rfl | cases h
 ·rename_i te hu
  obtain ⟨a,l,c,rfl⟩:=WideShapes.okWide_slice hu hv
  cases K<;>first | cases h | rfl
 ·rename_i fs hu
  obtain ⟨cs,rfl,_⟩:=WideShapes.okWide_struct hu hv
  simp only [U] at h
  cases K<;>first | exact ⟨_,rfl⟩ | cases h.1.2
 ·cases h
theorem Vo (w:World) (φ:As) (ht:Sf (In w)):SR (In w) φ [] w:=by
 refine ⟨fun b o h=>h,fun id bx h=>by simp at h,fun i j bi bj h=>by simp at h,fun i bi h=>by simp at h,fun id cs h=>by simp at h,ht⟩
theorem Up {P:Program} {Kq:Nat->Option Bq} {Cs:Cg} (ht:Vm P Kq) (hp:DK P Cs) {k f:Nat} {args:List AV} (h:MN Kq Cs k f args []=some [.bool true]) {W:World} {cargs:List Value}
  (ha:AN (VE (In W)) args cargs) (hlt:f<Bn:=by decide) (htab:Sf (In W):=by exact fun p h=>by cases h):Calls P f cargs.toArray W fun e W'=>e=.returned (.bool true)/\RowKit.Below W.heap.size W W':=by
 obtain ⟨_,_,n,hn,hc⟩:=(S6 ht hp k).2 f args [] _ (.inl hlt) h
 rw [Nat.mod_eq_of_lt hlt] at hc
 have hn:n=1:=by simpa using hn
 subst hn
 have opens:∀ {aw:List AV} {vs:List Value} (k:Nat),AN (VE (In W)) aw vs->BO k aw=aw/\AR (cellsOf aw)=[]:=by
  intro aw
  induction aw with
  | nil=>intro vs k _; exact ⟨rfl,rfl⟩
  | cons a aw ih =>
   intro vs k h
   obtain ⟨v,r,rfl,h1,h2⟩:=h
   obtain ⟨o1,o2,o3⟩:=h1.opens k
   obtain ⟨i1,i2⟩:=ih (k+AB a.cells) h2
   refine ⟨by simp only [BO,o1,i1],?_⟩
   simp only [cellsOf,List.flatMap_cons] at i2 ⊢
   rw [Aq,o3,i2]
   rfl
 have hst:Aw [] args=[]:=by
  rw [D4,Aq,(opens 0 ha).2]
  rfl
 have:=hc (In W) (fun _=>.nilIface) W cargs (by rw [hst]; exact Vo W _ htab) (by rw [(opens _ ha).1,hst]; exact ha.imp fun _ _ h=>VB.of_VE h)
 refine this.mono fun e W' he=>?_
 cases e with
 | returned v =>
  obtain ⟨H',φ',_,_,f,hr⟩:=he
  have hv:v=.bool true:=hr
  subst hv
  rw [hst] at f
  exact ⟨rfl,f.os,f.tape,f.output,f.size,fun k hk=>f.old k hk fun j hj=>by simp at hj⟩
 | panicked c=>exact he.elim
 | outgrown=>exact he.elim

def Ev (p:Nat->Prop):Prop:=∃ m,∀ k,m<=k->p k
theorem Ev.mono {p q:Nat->Prop} (h:Ev p) (f:∀ k,p k->q k):Ev q:=h.elim fun m hm=>⟨m,fun k hk=>f k (hm k hk)⟩
theorem Ev.const {p:Prop} (h:p):Ev fun _=>p:=⟨0,fun _ _=>h⟩
theorem Ev.all {p:Nat->Prop} (h:∀ k,p k):Ev p:=⟨0,fun k _=>h k⟩
theorem Ev.and {p q:Nat->Prop} (h:Ev p) (g:Ev q):Ev fun k=>p k/\q k:=by
 obtain ⟨m,hm⟩:=h
 obtain ⟨n,hn⟩:=g
 exact ⟨max m n,fun k hk=>⟨hm k (by omega),hn k (by omega)⟩⟩
noncomputable def Lm {ρ:Type} (u:Nat->Option ρ):Option ρ :=
 @dite _ (∃ r,Ev fun k=>u k=some r) (Classical.propDecidable _) (fun h=>some (Classical.choose h)) (fun _=>none)
theorem S7 {ρ:Type} {u:Nat->Option ρ} {r:ρ} (h:Lm u=some r):Ev fun k=>u k=some r:=by
 unfold Lm at h
 split at h
 ·rename_i hx
  cases h
  exact Classical.choose_spec hx
 ·cases h
theorem Vp {ρ:Type} {u:Nat->Option ρ} {r:ρ} (h:Ev fun k=>u k=some r):Lm u=some r:=by
 have hx:∃ r,Ev fun k=>u k=some r:=⟨r,h⟩
 unfold Lm
 rw [dif_pos hx]
 obtain ⟨m,hm⟩:=(Classical.choose_spec hx).and h
 obtain ⟨a,b⟩:=hm m (Nat.le_refl _)
 rw [<- b,a]
def Conv {ρ:Type} (kn:Nat->St->Option ρ) (kl:St->Option ρ):Prop:=∀ s r,kl s=some r->Ev fun j=>kn j s=some r
theorem Conv.refl {ρ:Type} (kl:St->Option ρ):Conv (fun _=>kl) kl:=fun _ _ h=>.const h
def IP (cal:Nat->Cg) (c:Cg):Prop:=∀ f a b r,c f a b=some r->Ev fun j=>cal j f a b=some r
theorem IP.refl (c:Cg):IP (fun _=>c) c:=fun _ _ _ _ h=>.const h
abbrev Lp (ρ:Type):Type:=((St->Option ρ)->St->Option ρ)->St->Option ρ
def Vq {ρ:Type} (F:Nat->(St->Option ρ)->St->Option ρ) (FL:(St->Option ρ)->St->Option ρ):Prop :=
 ∀ (go:Nat->St->Option ρ) (gl:St->Option ρ),Conv go gl->Conv (fun j=>F j (go j)) (FL gl)
def Vr {ρ:Type} (lp:Nat->Lp ρ) (ll:Lp ρ):Prop:=∀ (F:Nat->(St->Option ρ)->St->Option ρ) (FL:(St->Option ρ)->St->Option ρ),Vq F FL->(∀ j,Vq (fun _=>F j) (F j))->Conv (fun j=>lp j (F j)) (ll FL)
noncomputable def Eu {ρ:Type}:Lp ρ:=fun F s=>Lm fun n=>F7 n F s
theorem Vs {ρ:Type}:Vr (ρ:=ρ) F7 Eu:=by
 intro F FL hF _ s r h
 have h:=S7 h
 obtain ⟨m,hm⟩:=h
 have key:∀ n,∀ g:Nat->Nat,(∀ j,n<=g j)->Conv (fun j=>F7 (g j) (F j)) (F7 n FL):=by
  intro n
  induction n with
  | zero=>intro g _ s r h; cases h
  | succ n ih =>
   intro g hg s r h
   refine (hF (fun j=>F7 (g j-1) (F j)) (F7 n FL) (ih (fun j=>g j-1) fun j=>by have:=hg j; omega) s r h).mono fun j hj=>?_
   have e:g j=(g j-1)+1:=by have:=hg j; omega
   show F7 (g j) (F j) s=some r
   rw [e]
   exact hj
 obtain ⟨k,hk⟩:=key m (fun j=>max j m) (fun j=>by omega) s r (hm m (Nat.le_refl _))
 refine ⟨max k m,fun j hj=>?_⟩
 have:=hk j (by omega)
 simp only [show max j m=j by omega] at this
 exact this
theorem S8 {ρ:Type} (k:Nat):Vr (ρ:=ρ) (fun _=>F7 k) (F7 k):=by
 intro F FL hF _
 induction k with
 | zero=>intro s r h; cases h
 | succ k ih=>exact hF _ _ ih
theorem Qa {ρ:Type} {F:(St->Option ρ)->St->Option ρ} (hF:Vq (fun _=>F) F) {s:St} {r:ρ} (h:F (Eu F) s=some r):Eu F s=some r:=by
 obtain ⟨m,hm⟩:=hF (fun j=>F7 j F) (Eu F) (fun s r h=>S7 h) s r h
 exact Vp ⟨m+1,fun k hk=>by
  cases k with
  | zero=>omega
  | succ k=>exact hm k (by omega)⟩
theorem S9 {ρ:Type}:Vr (ρ:=ρ) (fun _=>Eu) Eu:=by
 intro F FL hF hs s r h
 obtain ⟨m,hm⟩:=S7 h
 have key:∀ n,Conv (fun j=>Eu (F j)) (F7 n FL):=by
  intro n
  induction n with
  | zero=>intro s r h; cases h
  | succ n ih=>intro s r h; exact (hF _ _ ih s r h).mono fun j hj=>Qa (hs j) hj
 exact key m s r (hm m (Nat.le_refl _))
theorem Ay {α β:Type} {x:Option α} {f:Nat->α->Option β} {g:α->Option β} (h:∀ a r,g a=some r->Ev fun j=>f j a=some r) (r:β) (hx:x.bind g=some r):Ev fun j=>x.bind (f j)=some r:=by
 cases x with
 | none=>cases hx
 | some a=>exact h a r hx
theorem Qb {ρ:Type} {s:St} {v:AV} {K:Kd} {kn:Nat->List K.T->Option ρ} {kl:List K.T->Option ρ} (hk:∀ a r,kl a=some r->Ev fun j=>kn j a=some r) (r:ρ) (h:s.list v K kl=some r):Ev fun j=>s.list v K (kn j)=some r:=by
 unfold St.list at h ⊢
 split at h
 ·exact hk _ _ h
 ·split at h
  ·rename_i e
   simp only [dif_pos e]
   exact hk _ _ h
  ·cases h
 ·split at h
  ·rename_i e0
   split at h
   ·rename_i e
    split at h
    ·rename_i ep
     simp only [e0,dif_pos e,if_pos ep]
     exact hk _ _ h
    ·cases h
   ·cases h
  ·rename_i e0
   split at h
   ·rename_i e
    simp only [e0,dif_pos e]
    exact hk _ _ h
   ·cases h
  ·rename_i e0
   split at h
   ·rename_i e
    split at h
    ·rename_i ep
     simp only [e0,dif_pos e,if_pos ep]
     exact hk _ _ h
    ·cases h
   ·cases h
  ·rename_i e0
   split at h
   ·rename_i e
    simp only [e0,dif_pos e]
    exact hk _ _ h
   ·cases h
  ·cases h
 ·cases h
theorem S_ {ρ:Type} {s:St} {d id:Nat} {e:TypeId} {K:Kd} {b:AV} {kn:Nat->St->Option ρ} {kl:St->Option ρ} (hk:Conv kn kl) (r:ρ) (h:s.appR d e K id b kl=some r):Ev fun j=>s.appR d e K id b (kn j)=some r:=by
 unfold St.appR at h ⊢
 split at h
 ·rename_i e1
  split at h
  ·rename_i e2
   split at h
   ·rename_i e3
    split at h
    ·rename_i e4
     simp only [e1,dif_pos e2,if_pos e3,if_pos e4]
     refine Qb (fun a r h=>?_) r h
     split at h
     ·rename_i e5
      simp only [if_pos e5]
      exact hk _ _ h
     ·cases h
    ·rename_i e4
     split at h
     ·rename_i j
      split at h
      ·cases h
      ·rename_i e5
       split at h
       ·rename_i e6
        split at h
        ·rename_i e7
         split at h
         ·rename_i e8
          simp only [e1,dif_pos e2,if_pos e3,if_neg e4,if_neg e5,e6,dif_pos e7,if_pos e8]
          exact hk _ _ h
         ·cases h
        ·cases h
       ·cases h
     ·cases h
   ·cases h
  ·cases h
 ·cases h
theorem Uq {ρ:Type} {op:BinOp} {x y:AV} {kn:Nat->AV->Option ρ} {kl:AV->Option ρ} (hk:∀ a r,kl a=some r->Ev fun j=>kn j a=some r) (r:ρ) (h:O3 op x y kl=some r):Ev fun j=>O3 op x y (kn j)=some r:=by
 have e:∀ k:AV->Option ρ,O3 op x y k=(O3 op x y some).bind k:=by
  intro k
  unfold O3
  repeat' split
  all_goals rfl
 rw [e] at h
 simp only [e (kn _)]
 exact Ay hk r h
theorem Vt {ρ:Type} {op:UnOp} {x:AV} {kn:Nat->AV->Option ρ} {kl:AV->Option ρ} (hk:∀ a r,kl a=some r->Ev fun j=>kn j a=some r) (r:ρ) (h:UM op x kl=some r):Ev fun j=>UM op x (kn j)=some r:=by
 unfold UM at h ⊢
 split at h<;>first | exact hk _ _ h | cases h
theorem TA {α β:Type} {x:Nat->Option α} {xl:Option α} {f:Nat->α->Option β} {g:α->Option β} (hx:∀ a,xl=some a->Ev fun j=>x j=some a) (h:∀ a r,g a=some r->Ev fun j=>f j a=some r) (r:β) (hr:xl.bind g=some r):Ev fun j=>(x j).bind (f j)=some r:=by
 cases xl with
 | none=>cases hr
 | some a=>exact ((hx a rfl).and (h a r hr)).mono fun j hj=>by rw [hj.1]; exact hj.2
theorem XV {ρ:Type} {cal:Nat->Cg} {c:Cg} {d z:Nat} {x:BB} {lo hi:Option BB} {kn:Nat->St->Option ρ} {kl:St->Option ρ} (hk:Conv kn kl) (s:St) (r:ρ) (h:Bs c kl s (.sl d z x lo hi)=some r):Ev fun j=>Bs (cal j) (kn j) s (.sl d z x lo hi)=some r:=by
 simp only [Bs] at h ⊢
 split at h
 ·split at h
  ·rename_i ez
   split at h
   ·split at h
    ·rename_i g1
     split at h
     ·rename_i g2
      split at h
      ·rename_i g3
       simp only [if_pos ez,if_pos g1,if_pos g2,if_pos g3]
       exact hk _ _ h
      ·cases h
     ·cases h
    ·cases h
   ·cases h
  ·cases h
 ·split at h
  ·rename_i ez
   split at h
   ·split at h
    ·rename_i g1
     split at h
     ·rename_i g2
      split at h
      ·rename_i g3
       simp only [if_pos ez,if_pos g1,if_pos g2,if_pos g3]
       exact hk _ _ h
      ·cases h
     ·cases h
    ·cases h
   ·cases h
  ·cases h
 ·cases h
theorem R0 {ρ:Type} {cal:Nat->Cg} {c:Cg} (hc:IP cal c) {d:Option Nat} {f:Nat} {args:List (BB×PK)} {res:List Kd} {kn:Nat->St->Option ρ} {kl:St->Option ρ} (hk:Conv kn kl) (s:St) (r:ρ) (h:P6 c kl s d f args res=some r):Ev fun j=>P6 (cal j) (kn j) s d f args res=some r:=by
 simp only [P6] at h ⊢
 refine Ay (fun q r h=>Ay (fun bx r h=>?_) r h) r h
 split at h
 ·rename_i e
  simp only [if_pos e]
  refine TA (fun a ha=>?_) (fun y r h=>?_) r h
  ·exact TA (f:=fun _=>CS _) (g:=CS _) (fun a ha=>hc _ _ _ _ ha) (fun y r h=>.const h) a ha
  ·split at h
   ·rename_i e
    simp only [if_pos e]
    exact hk _ _ h
   ·cases h
 ·cases h
mutual
theorem Qc {ρ:Type} {cal:Nat->Cg} {c:Cg} (hc:IP cal c):∀ (ao:CF) {kn:Nat->St->Option ρ} {kl:St->Option ρ},Conv kn kl->∀ s r,Bs c kl s ao=some r->Ev fun j=>Bs (cal j) (kn j) s ao=some r
 | .mv d x,kn,kl,hk,s,r,h=>hk _ _ h
 | .nilrow d t K,kn,kl,hk,s,r,h=>hk _ _ h
 | .pick d c a b,kn,kl,hk,s,r,h=>by
  simp only [Bs] at h ⊢
  split at h
  ·split at h<;>rename_i e<;>simp only [e,if_true,if_false,Bool.false_eq_true]<;>exact hk _ _ h
  ·cases h
 | .sc c want ops d a b,kn,kl,hk,s,r,h=>by
  simp only [Bs] at h ⊢
  split at h
  ·split at h
   ·rename_i e
    simp only [e,if_true]
    exact SP hc ops (kn:=fun j s'=>kn j (s'.put d (if want then s'.opd a else s'.opd b))) (kl:=fun s'=>kl (s'.put d (if want then s'.opd a else s'.opd b))) (fun s r h=>hk _ _ h) s r h
   ·rename_i e
    simp only [if_neg e]
    exact hk _ _ h
  ·cases h
 | .alloc d cs,kn,kl,hk,s,r,h=>hk _ _ h
 | .box d x own,kn,kl,hk,s,r,h=>by
  simp only [Bs] at h ⊢
  exact Ay (fun a r h=>hk _ _ h) r h
 | .build d zero parts,kn,kl,hk,s,r,h=>by
  simp only [Bs] at h ⊢
  exact Ay (fun a r h=>hk _ _ h) r h
 | .bnew d zero parts,kn,kl,hk,s,r,h=>by
  simp only [Bs] at h ⊢
  exact Ay (fun a r h=>hk _ _ h) r h
 | .brow d t K parts,kn,kl,hk,s,r,h=>by
  simp only [Bs] at h ⊢
  split at h
  ·rename_i ep
   simp only [if_pos ep]
   exact Ay (fun a r h=>Ay (fun a r h=>hk _ _ h) r h) r h
  ·rename_i ep
   simp only [if_neg ep]
   refine Ay (fun a r h=>?_) r h
   split at h
   ·rename_i e2
    simp only [if_pos e2]
    exact Ay (fun a r h=>hk _ _ h) r h
   ·cases h
 | .blst d K parts,kn,kl,hk,s,r,h=>by
  simp only [Bs] at h ⊢
  exact Ay (fun a r h=>Ay (fun a r h=>hk _ _ h) r h) r h
 | .load d x n,kn,kl,hk,s,r,h=>by
  simp only [Bs] at h ⊢
  refine Ay (fun a r h=>?_) r h
  split at h
  ·rename_i e
   simp only [if_pos e]
   exact hk _ _ h
  ·cases h
 | .store x y m own,kn,kl,hk,s,r,h=>by
  simp only [Bs] at h ⊢
  split at h
  ·rename_i e
   simp only [if_pos e]
   exact Ay (fun a r h=>hk _ _ h) r h
  ·cases h
 | .nilc d x,kn,kl,hk,s,r,h=>by
  simp only [Bs] at h ⊢
  split at h<;>first | exact hk _ _ h | cases h
 | .bin d op x y,kn,kl,hk,s,r,h=>by
  simp only [Bs] at h ⊢
  exact Uq (fun a r h=>hk _ _ h) r h
 | .eqs d neg K x y,kn,kl,hk,s,r,h=>by
  simp only [Bs] at h ⊢
  exact Ay (fun a r h=>Ay (fun a r h=>hk _ _ h) r h) r h
 | .un d op x,kn,kl,hk,s,r,h=>by
  simp only [Bs] at h ⊢
  exact Vt (fun a r h=>hk _ _ h) r h
 | .cvi d k x,kn,kl,hk,s,r,h=>by
  simp only [Bs] at h ⊢
  split at h<;>first | exact hk _ _ h | cases h
 | .bts d x,kn,kl,hk,s,r,h=>by
  simp only [Bs] at h ⊢
  exact Qb (fun a r h=>hk _ _ h) r h
 | .fld d x off,kn,kl,hk,s,r,h=>by
  simp only [Bs] at h ⊢
  split at h<;>first | exact hk _ _ h | cases h
 | .field d x off n,kn,kl,hk,s,r,h=>by
  simp only [Bs] at h ⊢
  split at h
  ·split at h
   ·rename_i e
    simp only [if_pos e]
    exact hk _ _ h
   ·cases h
  ·cases h
 | .idx d z x i,kn,kl,hk,s,r,h=>by
  have e:∀ k:St->Option ρ,Bs (cal 0) k s (.idx d z x i)=(Bs (cal 0) some s (.idx d z x i)).bind k:=by
   intro k
   simp only [Bs]
   repeat' split
   all_goals rfl
  have e2:∀ k:St->Option ρ,∀ c:Cg,Bs c k s (.idx d z x i)=Bs (cal 0) k s (.idx d z x i):=fun k c=>by simp only [Bs]
  rw [e2,e] at h
  simp only [e2 (kn _),e (kn _)]
  exact Ay (fun a r h=>hk _ _ h) r h
 | .aidx d n x i,kn,kl,hk,s,r,h=>by
  simp only [Bs] at h ⊢
  split at h
  ·refine Ay (fun xs r h=>?_) r h
   split at h
   ·rename_i e1
    split at h
    ·rename_i e2
     split at h
     ·rename_i e3
      simp only [if_pos e1,if_pos e2,if_pos e3]
      exact hk _ _ h
     ·cases h
    ·cases h
   ·cases h
  ·cases h
 | .sidx d x i,kn,kl,hk,s,r,h=>by
  have e:∀ k:St->Option ρ,Bs (cal 0) k s (.sidx d x i)=(Bs (cal 0) some s (.sidx d x i)).bind k:=by
   intro k
   simp only [Bs]
   repeat' split
   all_goals rfl
  have e2:∀ k:St->Option ρ,∀ c:Cg,Bs c k s (.sidx d x i)=Bs (cal 0) k s (.sidx d x i):=fun k c=>by simp only [Bs]
  rw [e2,e] at h
  simp only [e2 (kn _),e (kn _)]
  exact Ay (fun a r h=>hk _ _ h) r h
 | .sl d z x lo hi,kn,kl,hk,s,r,h=>XV hk s r h
 | .mk d t K n,kn,kl,hk,s,r,h=>by
  have e:∀ k:St->Option ρ,Bs (cal 0) k s (.mk d t K n)=(Bs (cal 0) some s (.mk d t K n)).bind k:=by
   intro k
   simp only [Bs]
   repeat' split
   all_goals rfl
  have e2:∀ k:St->Option ρ,∀ c:Cg,Bs c k s (.mk d t K n)=Bs (cal 0) k s (.mk d t K n):=fun k c=>by simp only [Bs]
  rw [e2,e] at h
  simp only [e2 (kn _),e (kn _)]
  exact Ay (fun a r h=>hk _ _ h) r h
 | .fn d f caps,kn,kl,hk,s,r,h=>hk _ _ h
 | .clo d f K x,kn,kl,hk,s,r,h=>by
  simp only [Bs] at h ⊢
  split at h
  ·exact Ay (fun a r h=>hk _ _ h) r h
  ·cases h
 | .fbox d x,kn,kl,hk,s,r,h=>by
  simp only [Bs] at h ⊢
  exact Ay (fun a r h=>hk _ _ h) r h
 | .min d x y,kn,kl,hk,s,r,h=>by
  simp only [Bs] at h ⊢
  split at h
  ·split at h
   ·rename_i e
    simp only [if_pos e]
    exact hk _ _ h
   ·cases h
  ·cases h
 | .app d e K a b,kn,kl,hk,s,r,h=>by
  simp only [Bs] at h ⊢
  split at h
  ·exact S_ hk r h
  ·split at h
   ·exact Ay (fun y r h=>S_ hk r h) r h
   ·cases h
  ·cases h
 | .apz d e K a b,kn,kl,hk,s,r,h=>by
  simp only [Bs] at h ⊢
  split at h
  ·split at h
   ·rename_i e1
    split at h
    ·rename_i e2
     split at h
     ·rename_i e3
      simp only [e1,dif_pos e2,if_pos e3]
      refine Qb (fun a r h=>?_) r h
      split at h
      ·rename_i e4
       simp only [if_pos e4]
       exact hk _ _ h
      ·cases h
     ·cases h
    ·cases h
   ·cases h
  ·cases h
 | .len d t x,kn,kl,hk,s,r,h=>by
  have e:∀ k:St->Option ρ,Bs (cal 0) k s (.len d t x)=(Bs (cal 0) some s (.len d t x)).bind k:=by
   intro k
   simp only [Bs]
   repeat' split
   all_goals first | rfl | (rw [Option.bind_assoc]; rfl)
  have e2:∀ k:St->Option ρ,∀ c:Cg,Bs c k s (.len d t x)=Bs (cal 0) k s (.len d t x):=fun k c=>by simp only [Bs]
  rw [e2,e] at h
  simp only [e2 (kn _),e (kn _)]
  exact Ay (fun a r h=>hk _ _ h) r h
 | .call d f args res,kn,kl,hk,s,r,h=>by
  simp only [Bs] at h ⊢
  exact R0 hc hk s r h
 | .icall n rd d f args res,kn,kl,hk,s,r,h=>by
  simp only [Bs] at h ⊢
  refine Ay (fun y r h=>?_) r h
  split at h
  ·cases h
  ·rename_i e1
   simp only [if_neg e1]
   by_cases e2:(if rd=true then !Ak (IK y.2 args) s.st.length else Ak (Sd y.2 args) s.st.length)=true
   ·rw [if_pos e2] at h
    simp only [if_pos e2]
    exact R0 hc (kn:=fun j s2=>(s2.closeAt y.1 s.st.length rd).bind (kn j)) (kl:=fun s2=>(s2.closeAt y.1 s.st.length rd).bind kl) (fun s r h=>Ay (fun a r h=>hk _ _ h) r h) y.2 r h
   ·rw [if_neg e2] at h; cases h
 | .bld d k f t x y,kn,kl,hk,s,r,h=>by
  simp only [Bs] at h ⊢
  split at h
  ·rename_i id e1
   split at h
   ·rename_i T j e2
    split at h
    ·rename_i t' xs e3
     split at h
     ·rename_i e4
      cases e5:c (Bn+f) [.int .i64 k,.int .i64 t,.int .i64 T] [] with
      | none=>rw [e5] at h; cases h
      | some q =>
       have hq:=hc _ _ _ _ e5
       rw [e5,Z] at h
       cases e8:CS [] q with
       | none=>rw [e8] at h; cases h
       | some u =>
        rw [e8,Z] at h
        split at h
        ·rename_i e6
         split at h
         ·rename_i e7
          refine (hq.and (hk _ _ h)).mono fun j hj=>?_
          simp only [e2,e3,if_pos e4,hj.1,Z,e8,if_pos e6,if_pos e7]
          exact hj.2
         ·cases h
        ·rename_i e6
         cases ha:WB k (s.opd y) with
         | none=>rw [ha] at h; cases h
         | some ys =>
          rw [ha,Z] at h
          split at h
          ·rename_i e7
           refine (hq.and (hk _ _ h)).mono fun j hj=>?_
           simp only [e2,e3,if_pos e4,hj.1,Z,e8,if_neg e6,ha,if_pos e7]
           exact hj.2
          ·cases h
     ·cases h
    ·cases h
   ·cases h
  ·cases h
 | .stb d t x,kn,kl,hk,s,r,h=>by
  simp only [Bs] at h ⊢
  split at h
  ·exact hk _ _ h
  ·cases h
 | .ext d x i,kn,kl,hk,s,r,h=>by
  simp only [Bs] at h ⊢
  split at h
  ·split at h
   ·rename_i e
    simp only [if_pos e]
    exact hk _ _ h
   ·cases h
  ·cases h
theorem SP {ρ:Type} {cal:Nat->Cg} {c:Cg} (hc:IP cal c):∀ (aos:List CF) {kn:Nat->St->Option ρ} {kl:St->Option ρ},Conv kn kl->∀ s r,NV c kl s aos=some r->Ev fun j=>NV (cal j) (kn j) s aos=some r
 | [],kn,kl,hk,s,r,h=>by simp only [NV] at h ⊢; exact hk _ _ h
 | o::os,kn,kl,hk,s,r,h=>by
  simp only [NV] at h ⊢
  exact Qc hc o (fun s r h=>SP hc os hk s r h) s r h
end
theorem KD {ρ:Type} {cal:Nat->Cg} {c:Cg} (hc:IP cal c) (anc:List (List Nat)) {kn:Nat->St->Option ρ} {kl:St->Option ρ} (hk:Conv kn kl):∀ (t:DT) (T:List (Nat×Nat)) s r,dK c anc kl t T s=some r->Ev fun j=>dK (cal j) anc (kn j) t T s=some r
 | .done,T,s,r,h=>hk _ _ h
 | .take i g ao d,T,s,r,h=>by
  simp only [dK] at h ⊢
  split at h
  ·rename_i e
   simp only [if_pos e]
   exact Qc hc ao (fun s r h=>KD hc anc hk d _ s r h) s r h
  ·cases h
 | .skip i g d t,T,s,r,h=>by
  simp only [dK] at h ⊢
  split at h
  ·rename_i e
   simp only [if_pos e]
   exact KD hc anc hk t _ _ r h
  ·cases h
 | .only i g ao e fl d,T,s,r,h=>by
  simp only [dK] at h ⊢
  split at h
  ·rename_i e
   simp only [if_pos e]
   exact Qc hc ao (fun s r h=>KD hc anc hk d _ s r h) s r h
  ·cases h
 | .test c a b,T,s,r,h=>by
  simp only [dK] at h ⊢
  split at h
  ·split at h
   ·rename_i e
    simp only [if_pos e]
    exact KD hc anc hk a _ _ r h
   ·rename_i e
    simp only [if_neg e]
    exact KD hc anc hk b _ _ r h
  ·cases h
 | .fork i ai ri j aj rj,T,s,r,h=>by
  simp only [dK] at h ⊢
  obtain ⟨ha,hb⟩:=NW.1 h
  have ea:Ev fun n=>(if (Da ai.dsts T&&JH (anc.getD i []) (ai.touch s) s T)=true then Bs (cal n) (fun s'=>dK (cal n) anc (kn n) ri (DG (anc.getD i []) T) s') s ai else none)=some r:=by
   split at ha
   ·rename_i e
    simp only [if_pos e]
    exact Qc hc ai (fun s r h=>KD hc anc hk ri _ s r h) s r ha
   ·cases ha
  have eb:Ev fun n=>(if (Da aj.dsts T&&JH (anc.getD j []) (aj.touch s) s T)=true then Bs (cal n) (fun s'=>dK (cal n) anc (kn n) rj (DG (anc.getD j []) T) s') s aj else none)=some r:=by
   split at hb
   ·rename_i e
    simp only [if_pos e]
    exact Qc hc aj (fun s r h=>KD hc anc hk rj _ s r h) s r hb
   ·cases hb
  exact (ea.and eb).mono fun n h=>NW.2 h
noncomputable def DA {ρ:Type} (cal:Cg) (lp:Lp ρ):AI->(kn kr:St->Option ρ)->(ke:Nat->St->Option ρ)->St->Option ρ
 | .skip,kn,_,_,s=>kn s
 | .region ops live,kn,_,_,s=>NV cal (fun s'=>kn ⟨live.map fun t=>(t,CB s'.fr t),s'.st⟩) s ops
 | .draw anc t live,kn,_,_,s=>dK cal anc (fun s'=>kn ⟨live.map fun t=>(t,CB s'.fr t),s'.st⟩) t [] s
 | .seqc live a b,kn,kr,ke,s=>DA cal lp a (fun s'=>DA cal lp b kn kr ke (s'.cutH (Bo s live) live s.st.length)) kr ke s
 | .seq a b,kn,kr,ke,s=>DA cal lp a (fun s'=>DA cal lp b kn kr ke s') kr ke s
 | .cond c a b,kn,kr,ke,s=>match s.opd c with
  | .bool t=>if t=true then DA cal lp a kn kr ke s else DA cal lp b kn kr ke s
  | _=>none
 | .block id live body,kn,kr,ke,s=>DA cal lp body (fun s'=>kn (s'.cutH (Bo s live) live s.st.length)) kr (fun i s'=>if i=id then kn (s'.cutH (Bo s live) live s.st.length) else ke i s') s
 | .loop live body,_,kr,ke,s=>lp (fun go s'=>DA cal lp body (fun s''=>go (s''.cutH (Bo s live) live s.st.length)) kr ke s') (s.cut live s.st.length)
 | .exit id,_,_,ke,s=>ke id s
 | .ret,_,kr,_,s=>kr s
theorem Gn {ρ:Type} (cal:Cg) (k:Nat):∀ (a:AI) (kn kr:St->Option ρ) (ke:Nat->St->Option ρ) (s:St),DC cal k a kn kr ke s=DA cal (F7 k) a kn kr ke s
 | .skip,_,_,_,_=>rfl
 | .region ..,_,_,_,_=>rfl
 | .draw ..,_,_,_,_=>rfl
 | .seqc live a b,kn,kr,ke,s=>by simp only [DC,DA,Gn cal k a,Gn cal k b]
 | .seq a b,kn,kr,ke,s=>by simp only [DC,DA,Gn cal k a,Gn cal k b]
 | .cond c a b,kn,kr,ke,s=>by
  simp only [DC,DA,Gn cal k a,Gn cal k b]
  cases s.opd c<;>rfl
 | .block id live a,kn,kr,ke,s=>by simp only [DC,DA,Gn cal k a]
 | .loop live a,kn,kr,ke,s=>by simp only [DC,DA,Gn cal k a]
 | .exit _,_,_,_,_=>rfl
 | .ret,_,_,_,_=>rfl
theorem Dt {ρ:Type}:∀ (a:AI) {cal:Nat->Cg} {c:Cg} {lp:Nat->Lp ρ} {ll:Lp ρ} {kn kr:Nat->St->Option ρ} {kl krl:St->Option ρ} {ke:Nat->Nat->St->Option ρ} {kel:Nat->St->Option ρ},IP cal c->Vr lp ll->(∀ j,Vr (fun _=>lp j) (lp j)) ->
  Conv kn kl->Conv kr krl->(∀ i,Conv (fun j=>ke j i) (kel i))->Conv (fun j=>DA (cal j) (lp j) a (kn j) (kr j) (ke j)) (DA c ll a kl krl kel)
 | .skip,_,_,_,_,_,_,_,_,_,_,hc,hl,hl',hk,hr,he=>hk
 | .region ops live,_,_,_,_,_,_,_,_,_,_,hc,hl,hl',hk,hr,he=>fun s r h=>SP hc ops (fun s r h=>hk _ r h) s r h
 | .draw anc t live,_,_,_,_,_,_,_,_,_,_,hc,hl,hl',hk,hr,he=>fun s r h=>KD hc anc (fun s r h=>hk _ r h) t [] s r h
 | .seqc live a b,_,_,_,_,_,_,_,_,_,_,hc,hl,hl',hk,hr,he=>fun s r h=>Dt a hc hl hl' (fun s' r h=>Dt b hc hl hl' hk hr he _ r h) hr he s r h
 | .seq a b,_,_,_,_,_,_,_,_,_,_,hc,hl,hl',hk,hr,he=>fun s r h=>Dt a hc hl hl' (fun s' r h=>Dt b hc hl hl' hk hr he _ r h) hr he s r h
 | .cond c a b,_,_,_,_,_,_,_,_,_,_,hc,hl,hl',hk,hr,he=>fun s r h=>by
  simp only [DA] at h ⊢
  split at h
  ·split at h
   ·rename_i e
    simp only [if_pos e]
    exact Dt a hc hl hl' hk hr he s r h
   ·rename_i e
    simp only [if_neg e]
    exact Dt b hc hl hl' hk hr he s r h
  ·cases h
 | .block id live a,_,_,_,_,_,_,_,_,_,_,hc,hl,hl',hk,hr,he=>fun s r h=>by
  simp only [DA] at h ⊢
  refine Dt a hc hl hl' (fun s r h=>hk _ r h) hr (fun i s' r h=>?_) s r h
  split at h
  ·rename_i e
   simp only [if_pos e]
   exact hk _ r h
  ·rename_i e
   simp only [if_neg e]
   exact he i _ r h
 | .loop live a,cal,c,lp,ll,kn,kr,kl,krl,ke,kel,hc,hl,hl',hk,hr,he=>fun s r h=>by
  simp only [DA] at h ⊢
  refine hl _ _ (fun go gl hgo s' r h=>?_) (fun j go gl hgo s' r h=>?_) _ r h
  ·exact Dt a hc hl hl' (fun s r h=>hgo _ r h) hr he s' r h
  ·exact Dt (cal:=fun _=>cal j) (lp:=fun _=>lp j) (kn:=fun i s'=>go i (s'.cutH (Bo s live) live s.st.length)) (kl:=fun s'=>gl (s'.cutH (Bo s live) live s.st.length)) (kr:=fun _=>kr j) (krl:=kr j) (ke:=fun _=>ke j) (kel:=ke j) a (IP.refl _) (hl' j) (fun _=>hl' j) (fun s r h=>hgo _ r h) (Conv.refl _) (fun i=>Conv.refl _) s' r h
 | .exit id,_,_,_,_,_,_,_,_,_,_,hc,hl,hl',hk,hr,he=>fun s r h=>he id s r h
 | .ret,_,_,_,_,_,_,_,_,_,_,hc,hl,hl',hk,hr,he=>hr
theorem Ur {ρ:Type} {cal:Cg} {a:AI} {hs:List (Nat×Nat)} {live:List Nat} {n:Nat} {kr:St->Option ρ} {ke:Nat->St->Option ρ} {s:St} {r:ρ}
  (h:DA cal Eu a (fun s''=>Eu (fun go s'=>DA cal Eu a (fun s''=>go (s''.cutH hs live n)) kr ke s') (s''.cutH hs live n)) kr ke s=some r) :
  Eu (fun go s'=>DA cal Eu a (fun s''=>go (s''.cutH hs live n)) kr ke s') s=some r :=
 Qa (F:=fun go s'=>DA cal Eu a (fun s''=>go (s''.cutH hs live n)) kr ke s') (fun go gl hgo s' r h=>Dt (cal:=fun _=>cal) (lp:=fun _=>Eu) (kn:=fun i s'=>go i (s'.cutH hs live n)) (kl:=fun s'=>gl (s'.cutH hs live n)) (kr:=fun _=>kr) (krl:=kr) (ke:=fun _=>ke) (kel:=ke) a (IP.refl _) S9 (fun _=>S9) (fun s r h=>hgo _ r h) (Conv.refl _) (fun i=>Conv.refl _) s' r h) h
noncomputable def Vu (cal:Cg) (fn:Bq) (args bs:List AV):Option (RT fn.outs) :=
 DA cal Eu fn.body (AT fn) (AT fn) (fun _ _=>none) ⟨Gj 0 (BO (CU bs) args),Aw bs args⟩
noncomputable def SQ (Kq:Nat->Option Bq) (Cs:Cg):Cg:=fun f a b=>Lm fun k=>MN Kq Cs k f a b
theorem Us {Kq:Nat->Option Bq} {Cs:Cg} {f:Nat} {args bs r:List AV} (hf:Kq f=none) (h:Cs f args bs=some r):SQ Kq Cs f args bs=some r:=by
 refine Vp ⟨1,fun k hk=>?_⟩
 cases k with
 | zero=>omega
 | succ k=>simp only [MN,hf,h]
theorem Ut {Kq:Nat->Option Bq} {Cs:Cg} {f:Nat} {fn:Bq} {args bs:List AV} {r:RT fn.outs} (hf:Kq f=some fn) (hl:args.length=fn.params.length/\bs.length=(Bx fn.params 0).length)
  (h:Vu (SQ Kq Cs) fn args bs=some r):SQ Kq Cs f args bs=some (Bm fn.outs r):=by
 have hc:IP (fun k=>MN Kq Cs k) (SQ Kq Cs):=fun f a b r h=>S7 h
 obtain ⟨m,hm⟩:=Dt (lp:=F7) (ll:=Eu) fn.body (kn:=fun _=>AT fn) (kr:=fun _=>AT fn) (ke:=fun _ _ _=>none) hc Vs S8 (Conv.refl _) (Conv.refl _) (fun i=>Conv.refl _) _ r h
 refine Vp ⟨m+1,fun k hk=>?_⟩
 cases k with
 | zero=>omega
 | succ k =>
  simp only [MN,hf,if_pos hl]
  have:=hm k (by omega)
  simp only [<- Gn] at this
  unfold Tu
  rw [this]
  rfl
theorem Hs:∀ (K:Kd) (x:K.T) (r:List AV),K.dec (K.enc x++r)=some (x,r)
 | .int k,x,r=>by simp [Kd.enc,Kd.dec]
 | .bool,x,r=>rfl
 | .str,x,r=>rfl
 | .slice e,x,r=>by simp [Kd.enc,Kd.dec]
 | .pair a b,x,r=>by simp [Kd.enc,Kd.dec,Ba,Hs a,Hs b]
 | .own t e,x,r=>by simp [Kd.enc,Kd.dec]
 | .ref K,x,r=>by
  have:=Hs K x []
  rw [List.append_nil] at this
  simp [Kd.enc,Kd.dec,this]
 | .fun f,x,r=>by simp [Kd.enc,Kd.dec]
 | .clo f K,x,r=>by simp [Kd.enc,Kd.dec]
theorem Qd (K:Kd) (x:K.T):K.of (K.av x)=some x:=by
 have h:K.ofCells (K.enc x)=some x:=by
  have:=Hs K x []
  rw [List.append_nil] at this
  simp [Kd.ofCells,this]
 unfold Kd.of
 cases K<;>exact h
theorem Qe:∀ (Ks:List Kd) (x:RT Ks),CS Ks (Bm Ks x)=some x
 | [],_=>rfl
 | [K],x=>Qd K x
 | K::L::Ks,x=>by
  simp only [Bm,CS,Qd,Z]
  rw [Qe (L::Ks) x.2]
  rfl
theorem Tj {Kq:Nat->Option Bq} {Cs:Cg} {f:Nat} {fn:Bq} {args bs:List AV} {r:RT fn.outs} (hf:Kq f=some fn) (hl:args.length=fn.params.length/\bs.length=(Bx fn.params 0).length)
  (h:Vu (SQ Kq Cs) fn args bs=some r):(SQ Kq Cs f args bs).bind (CS fn.outs)=some r:=by
 rw [Ut hf hl h,Z,Qe]
theorem Vv {P:Program} {Kq:Nat->Option Bq} {Cs:Cg} (ht:Vm P Kq) (hp:DK P Cs) {f:Nat} {args:List AV} (h:(SQ Kq Cs f args []).bind (CS [.bool])=some true) {W:World} {cargs:List Value}
  (ha:AN (VE (In W)) args cargs) (hlt:f<Bn:=by decide) (htab:Sf (In W):=by exact fun p h=>by cases h):Calls P f cargs.toArray W fun e W'=>e=.returned (.bool true)/\RowKit.Below W.heap.size W W':=by
 cases hq:SQ Kq Cs f args [] with
 | none=>rw [hq] at h; cases h
 | some v =>
  rw [hq,Z] at h
  obtain ⟨m,hm⟩:=S7 hq
  have hm:=hm m (Nat.le_refl _)
  have e:v=[.bool true]:=by
   match v,h with
   | [a],h =>
    have h:Kd.of .bool a=some true:=h
    unfold Kd.of Kd.ofCells at h
    cases a<;>simp [AV.cells,Kd.dec,AV.fits] at h<;>first | rw [h] | skip
  subst e
  exact Up ht hp hm ha hlt htab
def Wt (f:Nat):List (Nat×Bq)->Option Bq
 | []=>none
 | (g,a)::r=>if g=f then some a else Wt f r
inductive UG (P:Program):List (Nat×Bq)->Prop where
 | nil:UG P []
 | cons {f:Nat} {a:Bq} {r:List (Nat×Bq)} (h:B_ P f a=true) (t:UG P r):UG P ((f,a)::r)
theorem Uu {P:Program} {tab:List (Nat×Bq)} (h:UG P tab):Vm P fun f=>Wt f tab:=by
 intro f a hf
 induction h with
 | nil=>cases hf
 | cons h _ ih =>
  simp only [Wt] at hf
  split at hf
  ·rename_i e
   cases hf
   rw [<- e]
   exact h
  ·exact ih hf
end Go.Proofs.Ytffahmnodgnohaa.Core

namespace Go.Proofs.Ytffahmnodgnohaa.Core
open Go IntKind
set_option maxRecDepth 100000
noncomputable section
abbrev Kd.W:Kd:=.int .i64
abbrev Kd.S:Kd:=.slice .W
abbrev XW:Kd:=(.pair .W (.pair .W (.pair .W (.pair .W (.pair .W .str)))))
abbrev BL:Kd:=(.pair .str (.pair .str .W))
abbrev J:Type:=ByteArray×ByteArray×Int
abbrev KE:Kd:=(.pair .W (.pair .W (.pair .W (.pair BL .S))))
abbrev Vw:Type:=Int×Int×Int×J×List Int
abbrev AZ:Kd:=(.pair .W (.pair .W (.pair .bool (.pair .bool (.pair .bool (.pair .bool (.pair .S (.pair (.slice BL) (.pair .W KE)))))))))
abbrev AD:Type:=Int×Int×Bool×Bool×Bool×Bool×List Int×List J×Int×Int×Int×Int×J×List Int
abbrev Du:Kd:=(.pair .W (.pair .W (.pair .W (.pair .W (.pair .W (.slice BL))))))
abbrev BH:Type:=Int×Int×Int×Int×Int×List J
abbrev BF:Kd:=(.pair .W (.pair .str (.pair .str XW)))
abbrev Ac:Type:=Int×ByteArray×ByteArray×Int×Int×Int×Int×Int×ByteArray
abbrev Cq:Kd:=(.pair (.slice .S) (.pair (.slice AZ) (.pair (.slice Du) (.slice BF))))
abbrev Ch:Type:=List (List Int)×List AD×List BH×List Ac
abbrev Tk:Kd:=(.pair .W (.pair .W (.pair .W (.pair BL (.own 3 .W)))))
abbrev Ab:Kd:=(.pair .W (.pair .W (.pair .bool (.pair .bool (.pair .bool (.pair .bool (.pair (.own 3 .W) (.pair (.own 49 BL) (.pair .W Tk)))))))))
abbrev CA:Kd:=(.pair .W (.pair .W (.pair .W (.pair .W (.pair .W (.own 49 BL))))))
abbrev DE:Kd:=(.pair (.own 44 (.own 3 .W)) (.pair (.own 53 Ab) (.pair (.own 30 CA) (.own 186 BF))))
abbrev Ml:Kd:=(.pair (.slice .S) (.pair (.own 53 AZ) (.pair (.slice Du) (.slice BF))))
def SS:Nat×List PK×List Kd:=(16,[.bor Du,.bor Du],[.bool])
def Qf:Nat×List PK×List Kd:=(28,[.bor (.slice .S),.val .W],[.W])
def Nt:Nat×List PK×List Kd:=(29,[.val .W,.val (.slice .S)],[AZ,.bool])
def G8:Nat×List PK×List Kd:=(30,[.val (.slice .S)],[(.slice .S)])
def Nu:Nat×List PK×List Kd:=(31,[.val .W,.bor (.slice .S)],[Ab,.bool])
def PS:Nat×List PK×List Kd:=(32,[.bor AZ,.bor AZ],[.bool])
def KF:Nat×List PK×List Kd:=(33,[.bor (.slice .S),.bor (.slice .S)],[.bool])
def Io:Nat×List PK×List Kd:=(34,[.mut (.own 44 (.own 3 .W)),.val .W],[.W])
def PT:Nat×List PK×List Kd:=(42,[.val (.slice .S)],[Cq,.bool])
def Jh:Nat×List PK×List Kd:=(43,[.bor (.slice .S)],[DE,.bool])
def G9:Nat×List PK×List Kd:=(44,[.bor Cq,.bor Cq],[.bool])
def Nv:Nat×List PK×List Kd:=(45,[.mut DE,.val .W],[.W])
def Ip:Nat×List PK×List Kd:=(46,[.bor Cq,.val .W],[.W])
def KG:Nat×List PK×List Kd:=(67,[.bor (.slice BL),.bor (.slice BL)],[.bool])
def Iq:Nat×List PK×List Kd:=(76,[.mut (.own 49 BL),.val .W],[.W])
def Ir:Nat×List PK×List Kd:=(77,[.bor (.slice BL),.val .W],[.W])
def Gp:Nat×List PK×List Kd:=(80,[.val .W,.val .W,.val .W],[.bool])
def G_:Nat×List PK×List Kd:=(82,[.val .W,.val .W,.val .W],[.bool])
def LK:Nat×List PK×List Kd:=(83,[.val .W],[.bool])
def RH:Nat×List PK×List Kd:=(88,[.bor .S,.val .W],[.W])
def KH:Nat×List PK×List Kd:=(89,[.bor (.slice .S)],[.bool])
def Mm:Nat×List PK×List Kd:=(90,[.bor .S,.val .W],[.bool])
def LL:Nat×List PK×List Kd:=(91,[.bor .S],[(.own 3 .W)])
def KI:Nat×List PK×List Kd:=(92,[.bor (.slice .S)],[.bool])
def Hf:Nat×List PK×List Kd:=(93,[.bor .S,.val .W],[.bool])
def IQ:Nat×List PK×List Kd:=(94,[.bor .S,.bor .S],[.bool])
def RI:Nat×List PK×List Kd:=(95,[.bor KE,.bor KE],[.bool])
def GG:Nat×List PK×List Kd:=(96,[.mut (.own 3 .W),.val .W],[.W])
def GH:Nat×List PK×List Kd:=(98,[.bor .S,.val .W],[.W])
def Ko:Nat×List PK×List Kd:=(112,[.val (.slice .S)],[(.slice .S)])
def Nw:Nat×List PK×List Kd:=(113,[.bor (.slice .S)],[(.own 44 (.own 3 .W))])
def Nx:Nat×List PK×List Kd:=(114,[.bor (.slice AZ),.bor (.slice AZ)],[.bool])
def RJ:Nat×List PK×List Kd:=(115,[.bor (.slice Du),.bor (.slice Du)],[.bool])
def Qg:Nat×List PK×List Kd:=(116,[.bor (.slice BF),.bor (.slice BF)],[.bool])
def Lf:Nat×List PK×List Kd:=(117,[.mut (.own 53 Ab),.val .W],[.W])
def PU:Nat×List PK×List Kd:=(118,[.mut (.own 30 CA),.val .W],[.W])
def Ny:Nat×List PK×List Kd:=(119,[.mut (.own 186 BF),.val .W],[.W])
def Nz:Nat×List PK×List Kd:=(120,[.bor (.slice .S),.val .W],[.W])
def Lg:Nat×List PK×List Kd:=(121,[.bor (.slice AZ),.val .W],[.W])
def PV:Nat×List PK×List Kd:=(122,[.bor (.slice Du),.val .W],[.W])
def N0:Nat×List PK×List Kd:=(123,[.bor (.slice BF),.val .W],[.W])
def LN:Nat×List PK×List Kd:=(137,[.val BL,.val BL],[.bool])
def Ai:Nat×List PK×List Kd:=(141,[.val .W],[.str])
def Qh:Nat×List PK×List Kd:=(147,[.bor .S],[.bool])
def E4:Nat×List PK×List Kd:=(148,[.bor .S,.val .W],[.W])
def JT:Nat×List PK×List Kd:=(152,[.bor .S],[(.own 3 .W)])
def RK:Nat×List PK×List Kd:=(153,[.val BF,.val BF],[.bool])
def N1:Nat×List PK×List Kd:=(2000030,[.bor (.slice .S)],[(.own 44 (.own 3 .W))])
abbrev Uv {A0 ρ:Type} (t W:A0->Option ρ):Prop:=∀ {a0 r},t a0=some r->W a0=some r
abbrev KJ {A0 A1 ρ:Type} (t W:A0->A1->Option ρ):Prop:=∀ {a0 a1 r},t a0 a1=some r->W a0 a1=some r
abbrev PL {A0 A1 A2 ρ:Type} (t W:A0->A1->A2->Option ρ):Prop:=∀ {a0 a1 a2 r},t a0 a1 a2=some r->W a0 a1 a2=some r
abbrev X4 {A0 A1 A2 A3 ρ:Type} (t W:A0->A1->A2->A3->Option ρ):Prop:=∀ {a0 a1 a2 a3 r},t a0 a1 a2 a3=some r->W a0 a1 a2 a3=some r
abbrev X5 {A0 A1 A2 A3 A4 ρ:Type} (t W:A0->A1->A2->A3->A4->Option ρ):Prop:=∀ {a0 a1 a2 a3 a4 r},t a0 a1 a2 a3 a4=some r->W a0 a1 a2 a3 a4=some r
abbrev YC {A0 A1 A2 A3 A4 A5 A6 A7 ρ:Type} (t W:A0->A1->A2->A3->A4->A5->A6->A7->Option ρ):Prop:=∀ {a0 a1 a2 a3 a4 a5 a6 a7 r},t a0 a1 a2 a3 a4 a5 a6 a7=some r->W a0 a1 a2 a3 a4 a5 a6 a7=some r
abbrev YG {A0 A1 A2 A3 A4 A5 A6 A7 A8 ρ:Type} (t W:A0->A1->A2->A3->A4->A5->A6->A7->A8->Option ρ):Prop:=∀ {a0 a1 a2 a3 a4 a5 a6 a7 a8 r},t a0 a1 a2 a3 a4 a5 a6 a7 a8=some r->W a0 a1 a2 a3 a4 a5 a6 a7 a8=some r
abbrev X6 {A0 A1 A2 A3 A4 A5 A6 A7 A8 A9 ρ:Type} (t W:A0->A1->A2->A3->A4->A5->A6->A7->A8->A9->Option ρ):Prop:=∀ {a0 a1 a2 a3 a4 a5 a6 a7 a8 a9 r},t a0 a1 a2 a3 a4 a5 a6 a7 a8 a9=some r->W a0 a1 a2 a3 a4 a5 a6 a7 a8 a9=some r
abbrev X7 {A0 A1 A2 A3 A4 A5 A6 A7 A8 A9 A10 ρ:Type} (t W:A0->A1->A2->A3->A4->A5->A6->A7->A8->A9->A10->Option ρ):Prop:=∀ {a0 a1 a2 a3 a4 a5 a6 a7 a8 a9 a10 r},t a0 a1 a2 a3 a4 a5 a6 a7 a8 a9 a10=some r->W a0 a1 a2 a3 a4 a5 a6 a7 a8 a9 a10=some r
abbrev X8 {A0 A1 A2 A3 A4 A5 A6 A7 A8 A9 A10 A11 ρ:Type} (t W:A0->A1->A2->A3->A4->A5->A6->A7->A8->A9->A10->A11->Option ρ):Prop:=∀ {a0 a1 a2 a3 a4 a5 a6 a7 a8 a9 a10 a11 r},t a0 a1 a2 a3 a4 a5 a6 a7 a8 a9 a10 a11=some r->W a0 a1 a2 a3 a4 a5 a6 a7 a8 a9 a10 a11=some r
abbrev X9 {A0 A1 A2 A3 A4 A5 A6 A7 A8 A9 A10 A11 A12 A13 A14 A15 A16 A17 A18 ρ:Type} (t W:A0->A1->A2->A3->A4->A5->A6->A7->A8->A9->A10->A11->A12->A13->A14->A15->A16->A17->A18->Option ρ):Prop:=∀ {a0 a1 a2 a3 a4 a5 a6 a7 a8 a9 a10 a11 a12 a13 a14 a15 a16 a17 a18 r},t a0 a1 a2 a3 a4 a5 a6 a7 a8 a9 a10 a11 a12 a13 a14 a15 a16 a17 a18=some r->W a0 a1 a2 a3 a4 a5 a6 a7 a8 a9 a10 a11 a12 a13 a14 a15 a16 a17 a18=some r
instance (n:Nat):OfNat BB n:=⟨.t n⟩
abbrev BB.F:BB:=.c (.bool false)
abbrev BB.V:BB:=.c (.bool true)
abbrev BB.z:BB:=.c .nil
abbrev AI.R (a:List CF) (b:List Nat) (c:AI):AI:=.seq (.region a b) c
abbrev AI.r (a:List CF) (b:List Nat):AI:=.region a b
abbrev AI.s (a b:AI):AI:=.seq a b
abbrev AI.q (c:BB) (a b:AI):AI:=.cond c a b
abbrev AI.Q (c:BB) (a:AI):AI:=.cond c a .skip
abbrev AI.k:AI:=.skip
abbrev AI.e:AI:=.ret
abbrev AI.D (n:Nat) (l:List (Nat×List Nat)) (t:DT) (v:List Nat):AI:=.draw (YF n l) t v
abbrev AI.b (n:Nat) (l:List Nat) (c:AI):AI:=.block n l c
abbrev DT.O (i:Nat) (a:CF) (e:Bool) (fl:List (Nat×CF)) (r:DT):DT:=.only i none a e fl r
abbrev DT.z:DT:=.done

def ED:AI:=(.R [.mv 11 (.i 1)] [7,10,11] (.R [.ls 88 7 4,.m 89 11,.cl 90 [88,89] Ip,.m 11 90] [10,11] (.s (.R [.m 91 11,.bin 92 .lss 91 (.i 0)] [10,11,92] (.cond 92 (.R [.mv 2 .F] [2] .e) .k)) (.s (.R [.m 93 11,.m 94 10,.b 95 .neq 93 94] [95] (.cond 95 (.R [.mv 2 .F] [2] .e) .k)) (.R [.mv 2 .V] [2] .e)))))
def EE:AI:=(.R [.mv 10 (.i 1)] [0,4,5,7,10] (.R [.ls 62 7 4,.m 63 10,.cl 64 [62,63] Nv,.m 10 64] [0,4,5,7,10] (.R [.mv 11 (.i 1)] [0,4,5,7,10,11] (.R [.ls 65 7 4,.m 66 11,.cl 67 [65,66] Ip,.m 11 67] [0,4,5,7,10,11] (.s (.R [.m 68 11,.bin 69 .lss 68 (.i 0)] [0,4,5,7,10,11,69] (.cond 69 (.R [.mv 2 .F] [2] .e) .k)) (.s (.R [.m 70 11,.m 71 10,.b 72 .neq 70 71] [0,4,5,7,10,72] (.cond 72 (.R [.mv 2 .F] [2] .e) .k)) (.R [.m 74 0,.cl 75 [74] G8,.cl 76 [75] Jh,.m 73 76,.ext 77 73 0,.ext 78 73 1,.al 12 DE,.store 12 77 4 false,.m 13 78] [4,5,7,10,12,13] (.s (.R [.ls 79 12 4,.ls 80 4 4,.cl 81 [79,80] G9,.un 82 .not 81,.m 83 82,.sc 83 false [.m 84 13,.m 85 5,.eqs 86 true .bool 84 85] 87 .V 86] [7,10,87] (.cond 87 (.R [.mv 2 .F] [2] .e) .k)) ED))))))))
def EF:AI:=(.s (.R [.m 41 6,.m 42 0,.cl 43 [42] G8,.cl 44 [41,43] KF,.un 45 .not 44] [0,4,5,6,7,8,45] (.cond 45 (.R [.mv 2 .F] [2] .e) .k)) (.R [.mv 9 (.i 1)] [0,4,5,6,7,8,9] (.R [.m 46 6,.m 47 9,.cl 48 [46,47] Io,.m 9 48] [0,4,5,7,8,9] (.s (.R [.m 49 9,.bin 50 .lss 49 (.i 0),.m 51 50,.sc 51 false [.ls 52 7 4,.ls 53 4 4,.cl 54 [52,53] G9,.un 55 .not 54] 56 .V 55,.m 57 56,.sc 57 false [.m 58 8,.m 59 5,.eqs 60 true .bool 58 59] 61 .V 60] [0,4,5,7,61] (.cond 61 (.R [.mv 2 .F] [2] .e) .k)) EE))))
def AY:Bq:=⟨[.val (.slice .S)],[⟨2,false,.bool⟩],(.R [.mv 2 .F] [0] (.R [.mv 3 (.i 1048576)] [0,3] (.R [.m 14 0,.m 15 3,.cl 16 [14,15] Qf,.m 3 16] [0,3] (.s (.R [.m 17 3,.bin 18 .lss 17 (.i 0)] [0,18] (.cond 18 (.R [.mv 2 .V] [2] .e) .k)) (.R [.m 20 0,.cl 21 [20] G8,.cl 22 [21] PT,.m 19 22,.ext 23 19 0,.ext 24 19 1,.al 4 Cq,.store 4 23 4 false,.m 5 24] [0,4,5] (.R [.m 25 0,.cl 26 [25] N1,.m 6 26] [0,4,5,6] (.R [.m 28 6,.cl 29 [28] Jh,.m 27 29,.ext 30 27 0,.ext 31 27 1,.al 7 DE,.store 7 30 4 false,.m 8 31] [0,4,5,6,7,8] (.s (.R [.ls 32 7 4,.ls 33 4 4,.cl 34 [32,33] G9,.un 35 .not 34,.m 36 35,.sc 36 false [.m 37 8,.m 38 5,.eqs 39 true .bool 37 38] 40 .V 39] [0,4,5,6,7,8,40] (.cond 40 (.R [.mv 2 .F] [2] .e) .k)) EF))))))))⟩
theorem JU:B_ Try.prog 8 AY=true:=by kernel_rfl
def Gq:Bq:=⟨[.val Du,.val Du],[⟨4,false,.bool⟩],(.R [.box 2 0 false,.box 3 1 false,.mv 4 .F] [2,3] (.s (.R [.f 5 2 0,.l 6 5,.f 7 3 0,.l 8 7,.b 9 .neq 6 8] [2,3,9] (.cond 9 (.R [.mv 4 .F] [4] .e) .k)) (.s (.R [.f 10 2 1,.l 11 10,.f 12 3 1,.l 13 12,.b 14 .neq 11 13] [2,3,14] (.cond 14 (.R [.mv 4 .F] [4] .e) .k)) (.s (.R [.f 15 2 2,.l 16 15,.f 17 3 2,.l 18 17,.b 19 .neq 16 18] [2,3,19] (.cond 19 (.R [.mv 4 .F] [4] .e) .k)) (.s (.R [.f 20 2 3,.l 21 20,.f 22 3 3,.l 23 22,.b 24 .neq 21 23] [2,3,24] (.cond 24 (.R [.mv 4 .F] [4] .e) .k)) (.s (.R [.f 25 2 4,.l 26 25,.f 27 3 4,.l 28 27,.b 29 .neq 26 28] [2,3,29] (.cond 29 (.R [.mv 4 .F] [4] .e) .k)) (.s (.R [.f 30 2 5,.l 31 30,.f 32 3 5,.l 33 32,.cl 34 [31,33] KG,.un 35 .not 34] [35] (.cond 35 (.R [.mv 4 .F] [4] .e) .k)) (.R [.mv 4 .V] [4] .e))))))))⟩
theorem ST:B_ Try.prog 16 Gq=true:=by kernel_rfl
def Is:AI:=(.s (.R [.m 12 5,.m 13 0,.len 14 false 13,.b 15 .lss 12 14] [0,1,5,15] (.cond 15 .k (.exit 0))) (.s (.b 1 [0,1,5] (.R [.m 18 0,.m 19 5,.idx 20 1 18 19,.l 21 20,.m 22 1,.cl 23 [21,22] RH,.m 1 23] [0,1,5] (.R [.m 24 1,.bin 25 .lss 24 (.i 0)] [0,1,5,25] (.cond 25 (.R [.mv 4 (.c (.int .i64 (-1)))] [4] .e) .k)))) (.r [.m 16 5,.bin 17 .add 16 (.i 1),.m 5 17] [0,1,5])))
def It:AI:=(.R [.m 26 1,.m 4 26] [4] .e)
def Bz:Bq:=⟨[.val (.slice .S),.val .W],[⟨4,false,.W⟩],(.R [.mv 4 (.i 0)] [0,1] (.R [.m 6 1,.m 7 0,.len 8 false 7,.b 9 .sub 6 8,.m 1 9] [0,1] (.s (.R [.m 10 1,.bin 11 .lss 10 (.i 0)] [0,1,11] (.cond 11 (.R [.mv 4 (.c (.int .i64 (-1)))] [4] .e) .k)) (.s (.R [.mv 5 (.i 0)] [0,1,5] (.b 0 [1] (.loop [0,1,5] Is))) It))))⟩
theorem Qi:B_ Try.prog 28 Bz=true:=by kernel_rfl
def HA:AI:=(.R [.m 16 0,.m 17 1,.idx 18 1 17 (.i 0),.l 19 18,.m 20 0,.cl 21 [19,20] Mm,.bu 22 AZ [(0,1,16),(1,1,.c (.int .i64 1)),(3,1,21)],.al 6 AZ,.store 6 22 16 false] [0,1,4,6] (.R [.m 23 1,.idx 24 1 23 (.i 0),.l 25 24,.idx 26 1 25 (.i 0),.l 27 26,.m 28 0,.b 29 .eql 27 28,.f 30 6 4,.store 30 29 1 false] [4,6] (.R [.f 31 6 4,.l 32 31,.f 33 6 5,.store 33 32 1 false] [4,6] (.R [.ls 34 6 16,.store 4 34 16 false,.mv 5 .V] [4,5] .e))))
def CO:Bq:=⟨[.val .W,.val (.slice .S)],[⟨4,true,AZ⟩,⟨5,false,.bool⟩],(.R [.al 4 AZ,.mv 5 .F] [0,1,4] (.s (.R [.m 7 1,.cl 8 [7] KH,.un 9 .not 8,.m 10 9,.sc 10 false [.m 11 0,.cx (some 12) [11,.c (.int .i64 1),.c (.int .i64 6)] Gp,.un 13 .not 12] 14 .V 13] [0,1,4,14] (.cond 14 (.R [.bu 15 AZ [],.store 4 15 16 false,.mv 5 .F] [4,5] .e) .k)) HA))⟩
theorem N2:B_ Try.prog 29 CO=true:=by kernel_rfl
def Iu:AI:=(.s (.R [.m 8 4,.m 9 0,.len 10 false 9,.b 11 .lss 8 10] [0,3,4,11] (.cond 11 .k (.exit 0))) (.s (.b 1 [0,3,4] (.r [.m 14 3,.m 15 4,.m 16 0,.m 17 4,.idx 18 1 16 17,.l 19 18,.cl 20 [19] LL,.idx 21 1 14 15,.store 21 20 1 false] [0,3,4])) (.r [.m 12 4,.bin 13 .add 12 (.i 1),.m 4 13] [0,3,4])))
def Iv:AI:=(.R [.m 22 3,.m 2 22] [2] .e)
def B3:Bq:=⟨[.val (.slice .S)],[⟨2,false,(.slice .S)⟩],(.R [.mv 2 .z] [0] (.R [.m 5 0,.len 6 false 5,.mk 7 44 .S 6,.m 3 7] [0,3] (.s (.R [.mv 4 (.i 0)] [0,3,4] (.b 0 [3] (.loop [0,3,4] Iu))) Iv)))⟩
theorem Qj:B_ Try.prog 30 B3=true:=by kernel_rfl
def HB:AI:=(.R [.m 16 1,.idx 17 1 16 (.i 0),.l 18 17,.idx 19 1 18 (.i 0),.l 20 19,.m 21 0,.b 22 .eql 20 21,.m 6 22] [0,1,4,6] (.R [.m 23 0,.m 24 1,.idx 25 1 24 (.i 0),.l 26 25,.m 27 0,.cl 28 [26,27] Hf,.m 29 6,.m 30 6,.bnew 31 [.int .i64 0,.int .i64 0,.bool false,.bool false,.bool false,.bool false,.new 3 .W [],.new 49 BL [],.int .i64 0,.int .i64 0,.int .i64 0,.int .i64 0,.str E,.str E,.int .i64 0,.new 3 .W []] [(0,1,23),(1,1,.c (.int .i64 1)),(3,1,28),(4,1,29),(5,1,30)],.store 4 31 16 false,.mv 5 .V] [4,5] .e))
def CP:Bq:=⟨[.val .W,.val (.slice .S)],[⟨4,true,Ab⟩,⟨5,false,.bool⟩],(.R [.al 4 Ab,.mv 5 .F] [0,1,4] (.s (.R [.m 7 0,.cl 8 [7] LK,.un 9 .not 8,.m 10 9,.sc 10 false [.m 11 1,.cl 12 [11] KI,.un 13 .not 12] 14 .V 13] [0,1,4,14] (.cond 14 (.R [.bnew 15 [.int .i64 0,.int .i64 0,.bool false,.bool false,.bool false,.bool false,.new 3 .W [],.new 49 BL [],.int .i64 0,.int .i64 0,.int .i64 0,.int .i64 0,.str E,.str E,.int .i64 0,.new 3 .W []] [],.store 4 15 16 false,.mv 5 .F] [4,5] .e) .k)) HB))⟩
theorem N3:B_ Try.prog 31 CP=true:=by kernel_rfl
def Eb:Bq:=⟨[.val AZ,.val AZ],[⟨4,false,.bool⟩],(.R [.box 2 0 false,.box 3 1 false,.mv 4 .F] [2,3] (.s (.R [.f 5 2 0,.l 6 5,.f 7 3 0,.l 8 7,.b 9 .neq 6 8] [2,3,9] (.cond 9 (.R [.mv 4 .F] [4] .e) .k)) (.s (.R [.f 10 2 1,.l 11 10,.f 12 3 1,.l 13 12,.b 14 .neq 11 13] [2,3,14] (.cond 14 (.R [.mv 4 .F] [4] .e) .k)) (.s (.R [.f 15 2 2,.l 16 15,.f 17 3 2,.l 18 17,.eqs 19 true .bool 16 18] [2,3,19] (.cond 19 (.R [.mv 4 .F] [4] .e) .k)) (.s (.R [.f 20 2 3,.l 21 20,.f 22 3 3,.l 23 22,.eqs 24 true .bool 21 23] [2,3,24] (.cond 24 (.R [.mv 4 .F] [4] .e) .k)) (.s (.R [.f 25 2 4,.l 26 25,.f 27 3 4,.l 28 27,.eqs 29 true .bool 26 28] [2,3,29] (.cond 29 (.R [.mv 4 .F] [4] .e) .k)) (.s (.R [.f 30 2 5,.l 31 30,.f 32 3 5,.l 33 32,.eqs 34 true .bool 31 33] [2,3,34] (.cond 34 (.R [.mv 4 .F] [4] .e) .k)) (.s (.R [.f 35 2 6,.l 36 35,.f 37 3 6,.l 38 37,.cl 39 [36,38] IQ,.un 40 .not 39] [2,3,40] (.cond 40 (.R [.mv 4 .F] [4] .e) .k)) (.s (.R [.f 41 2 7,.l 42 41,.f 43 3 7,.l 44 43,.cl 45 [42,44] KG,.un 46 .not 45] [2,3,46] (.cond 46 (.R [.mv 4 .F] [4] .e) .k)) (.s (.R [.f 47 2 8,.l 48 47,.f 49 3 8,.l 50 49,.b 51 .neq 48 50] [2,3,51] (.cond 51 (.R [.mv 4 .F] [4] .e) .k)) (.s (.R [.f 52 2 9,.ls 53 52 7,.f 54 3 9,.ls 55 54 7,.cl 56 [53,55] RI,.un 57 .not 56] [57] (.cond 57 (.R [.mv 4 .F] [4] .e) .k)) (.R [.mv 4 .V] [4] .e))))))))))))⟩
theorem PW:B_ Try.prog 32 Eb=true:=by kernel_rfl
def Iw:AI:=(.s (.R [.m 11 5,.m 12 0,.len 13 false 12,.b 14 .lss 11 13] [0,1,5,14] (.cond 14 .k (.exit 0))) (.s (.b 1 [0,1,5] (.s (.D 10 [(1,[]),(2,[0,1]),(4,[]),(5,[]),(6,[4,5]),(8,[3,7])] (.tk 8 [.l 24 23,.idx 23 1 21 22,.m 22 5,.m 21 1,.l 20 19,.idx 19 1 17 18,.m 18 5,.m 17 0] (.O 8 (.cl 25 [20,24] IQ) false [] (.tk 10 [.un 26 .not 25] .z))) [0,1,5,26]) (.cond 26 (.R [.mv 4 .F] [4] .e) .k))) (.r [.m 15 5,.bin 16 .add 15 (.i 1),.m 5 16] [0,1,5])))
def Ix:AI:=(.R [.mv 4 .V] [4] .e)
def B4:Bq:=⟨[.val (.slice .S),.val (.slice .S)],[⟨4,false,.bool⟩],(.R [.mv 4 .F] [0,1] (.s (.R [.m 6 0,.len 7 false 6,.m 8 1,.len 9 false 8,.b 10 .neq 7 9] [0,1,10] (.cond 10 (.R [.mv 4 .F] [4] .e) .k)) (.s (.R [.mv 5 (.i 0)] [0,1,5] (.b 0 [] (.loop [0,1,5] Iw))) Ix)))⟩
theorem Qk:B_ Try.prog 33 B4=true:=by kernel_rfl
def HC:AI:=(.s (.R [.m 6 5,.m 7 0,.len 8 false 7,.b 9 .lss 6 8] [0,1,5,9] (.cond 9 .k (.exit 0))) (.s (.b 1 [0,1,5] (.r [.m 12 0,.m 13 5,.idx 14 1 12 13,.l 15 14,.m 16 1,.icx 15 false (some 17) [15,16] GG,.m 1 17] [0,1,5])) (.r [.m 10 5,.bin 11 .add 10 (.i 1),.m 5 11] [0,1,5])))
def HD:AI:=(.R [.m 18 1,.m 4 18] [4] .e)
def BP:Bq:=⟨[.mut (.own 44 (.own 3 .W)),.val .W],[⟨4,false,.W⟩],(.R [.mv 4 (.i 0)] [0,1] (.s (.R [.mv 5 (.i 0)] [0,1,5] (.b 0 [1] (.loop [0,1,5] HC))) HD))⟩
theorem N4:B_ Try.prog 34 BP=true:=by kernel_rfl
def Ht:AI:=(.s (.R [.m 15 5,.bin 16 .leq 15 (.i 6)] [0,2,4,5,16] (.cond 16 .k (.exit 0))) (.s (.b 1 [0,2,4,5] (.R [.m 20 5,.m 21 0,.cl 22 [20,21] Nt,.m 19 22,.ext 23 19 0,.ext 24 19 1,.al 6 AZ,.store 6 23 16 false,.m 7 24] [0,2,4,5,6] (.r [.f 25 4 1,.l 26 25,.ls 27 6 16,.blst 28 AZ [27],.app 29 53 AZ 26 28,.f 30 4 1,.store 30 29 1 false] [0,2,4,5]))) (.r [.m 17 5,.bin 18 .add 17 (.i 1),.m 5 18] [0,2,4,5])))
def Hu:AI:=(.R [.ls 31 4 4,.store 2 31 4 false,.mv 3 .V] [2,3] .e)
def Be:Bq:=⟨[.val (.slice .S)],[⟨2,true,Cq⟩,⟨3,false,.bool⟩],(.R [.al 2 Ml,.mv 3 .F] [0,2] (.s (.R [.m 8 0,.cl 9 [8] KH,.un 10 .not 9] [0,2,10] (.cond 10 (.R [.build 11 [.nil,.nil,.nil,.nil] [],.store 2 11 4 false,.mv 3 .F] [2,3] .e) .k)) (.R [.m 12 0,.cl 13 [12] Ko,.build 14 [.nil,.nil,.nil,.nil] [(0,1,13)],.al 4 Ml,.store 4 14 4 false] [0,2,4] (.s (.R [.mv 5 (.i 1)] [0,2,4,5] (.b 0 [2,4] (.loop [0,2,4,5] Ht))) Hu))))⟩
theorem PX:B_ Try.prog 42 Be=true:=by kernel_rfl
def Hv:AI:=(.s (.R [.m 15 5,.bin 16 .leq 15 (.i 6)] [0,2,4,5,16] (.cond 16 .k (.exit 0))) (.s (.b 1 [0,2,4,5] (.R [.m 20 5,.m 21 0,.cl 22 [20,21] Nu,.m 19 22,.ext 23 19 0,.ext 24 19 1,.al 6 Ab,.store 6 23 16 false,.m 7 24] [0,2,4,5,6] (.r [.f 25 4 1,.l 26 25,.ls 27 6 16,.brow 28 53 Ab [27],.app 29 53 Ab 26 28,.f 30 4 1,.store 30 29 1 false] [0,2,4,5]))) (.r [.m 17 5,.bin 18 .add 17 (.i 1),.m 5 18] [0,2,4,5])))
def Hw:AI:=(.R [.ls 31 4 4,.store 2 31 4 false,.mv 3 .V] [2,3] .e)
def Bf:Bq:=⟨[.val (.slice .S)],[⟨2,true,DE⟩,⟨3,false,.bool⟩],(.R [.al 2 DE,.mv 3 .F] [0,2] (.s (.R [.m 8 0,.cl 9 [8] KI,.un 10 .not 9] [0,2,10] (.cond 10 (.R [.bnew 11 [.new 44 (.own 3 .W) [],.new 53 Ab [],.new 30 CA [],.new 186 BF []] [],.store 2 11 4 false,.mv 3 .F] [2,3] .e) .k)) (.R [.m 12 0,.cl 13 [12] Nw,.bnew 14 [.new 44 (.own 3 .W) [],.new 53 Ab [],.new 30 CA [],.new 186 BF []] [(0,1,13)],.al 4 DE,.store 4 14 4 false] [0,2,4] (.s (.R [.mv 5 (.i 1)] [0,2,4,5] (.b 0 [2,4] (.loop [0,2,4,5] Hv))) Hw))))⟩
theorem PY:B_ Try.prog 43 Bf=true:=by kernel_rfl
def E5:Bq:=⟨[.val Cq,.val Cq],[⟨4,false,.bool⟩],(.R [.box 2 0 false,.box 3 1 false,.mv 4 .F] [2,3] (.s (.R [.f 5 2 0,.l 6 5,.f 7 3 0,.l 8 7,.cl 9 [6,8] KF,.un 10 .not 9] [2,3,10] (.cond 10 (.R [.mv 4 .F] [4] .e) .k)) (.s (.R [.f 11 2 1,.l 12 11,.f 13 3 1,.l 14 13,.cl 15 [12,14] Nx,.un 16 .not 15] [2,3,16] (.cond 16 (.R [.mv 4 .F] [4] .e) .k)) (.s (.R [.f 17 2 2,.l 18 17,.f 19 3 2,.l 20 19,.cl 21 [18,20] RJ,.un 22 .not 21] [2,3,22] (.cond 22 (.R [.mv 4 .F] [4] .e) .k)) (.s (.R [.f 23 2 3,.l 24 23,.f 25 3 3,.l 26 25,.cl 27 [24,26] Qg,.un 28 .not 27] [28] (.cond 28 (.R [.mv 4 .F] [4] .e) .k)) (.R [.mv 4 .V] [4] .e))))))⟩
theorem Ql:B_ Try.prog 44 E5=true:=by kernel_rfl
def D7:Bq:=⟨[.mut DE,.val .W],[⟨4,false,.W⟩],(.R [.box 2 0 true,.mv 4 (.i 0)] [1,2] (.R [.f 5 2 0,.l 6 5,.m 7 1,.cl 8 [6,7] Io,.m 1 8] [1,2] (.R [.f 9 2 1,.l 10 9,.m 11 1,.cl 12 [10,11] Lf,.m 1 12] [1,2] (.R [.f 13 2 2,.l 14 13,.m 15 1,.cl 16 [14,15] PU,.m 1 16] [1,2] (.R [.f 17 2 3,.l 18 17,.m 19 1,.cl 20 [18,19] Ny,.m 1 20] [1] (.R [.m 21 1,.m 4 21] [4] .e))))))⟩
theorem N5:B_ Try.prog 45 D7=true:=by kernel_rfl
def D8:Bq:=⟨[.val Cq,.val .W],[⟨4,false,.W⟩],(.R [.box 2 0 false,.mv 4 (.i 0)] [1,2] (.R [.f 5 2 0,.l 6 5,.m 7 1,.cl 8 [6,7] Nz,.m 1 8] [1,2] (.s (.R [.m 9 1,.bin 10 .lss 9 (.i 0)] [1,2,10] (.cond 10 (.R [.mv 4 (.c (.int .i64 (-1)))] [4] .e) .k)) (.R [.f 11 2 1,.l 12 11,.m 13 1,.cl 14 [12,13] Lg,.m 1 14] [1,2] (.s (.R [.m 15 1,.bin 16 .lss 15 (.i 0)] [1,2,16] (.cond 16 (.R [.mv 4 (.c (.int .i64 (-1)))] [4] .e) .k)) (.R [.f 17 2 2,.l 18 17,.m 19 1,.cl 20 [18,19] PV,.m 1 20] [1,2] (.s (.R [.m 21 1,.bin 22 .lss 21 (.i 0)] [1,2,22] (.cond 22 (.R [.mv 4 (.c (.int .i64 (-1)))] [4] .e) .k)) (.R [.f 23 2 3,.l 24 23,.m 25 1,.cl 26 [24,25] N0,.m 1 26] [1] (.s (.R [.m 27 1,.bin 28 .lss 27 (.i 0)] [1,28] (.cond 28 (.R [.mv 4 (.c (.int .i64 (-1)))] [4] .e) .k)) (.R [.m 29 1,.m 4 29] [4] .e))))))))))⟩
theorem N6:B_ Try.prog 46 D8=true:=by kernel_rfl
def Iy:AI:=(.s (.R [.m 11 5,.m 12 0,.len 13 false 12,.b 14 .lss 11 13] [0,1,5,14] (.cond 14 .k (.exit 0))) (.s (.b 1 [0,1,5] (.s (.D 10 [(1,[]),(2,[0,1]),(4,[]),(5,[]),(6,[4,5]),(8,[3,7])] (.tk 8 [.ls 24 23 3,.idx 23 3 21 22,.m 22 5,.m 21 1,.ls 20 19 3,.idx 19 3 17 18,.m 18 5,.m 17 0] (.O 8 (.cl 25 [20,24] LN) false [] (.tk 10 [.un 26 .not 25] .z))) [0,1,5,26]) (.cond 26 (.R [.mv 4 .F] [4] .e) .k))) (.r [.m 15 5,.bin 16 .add 15 (.i 1),.m 5 16] [0,1,5])))
def Iz:AI:=(.R [.mv 4 .V] [4] .e)
def B5:Bq:=⟨[.val (.slice BL),.val (.slice BL)],[⟨4,false,.bool⟩],(.R [.mv 4 .F] [0,1] (.s (.R [.m 6 0,.len 7 false 6,.m 8 1,.len 9 false 8,.b 10 .neq 7 9] [0,1,10] (.cond 10 (.R [.mv 4 .F] [4] .e) .k)) (.s (.R [.mv 5 (.i 0)] [0,1,5] (.b 0 [] (.loop [0,1,5] Iy))) Iz)))⟩
theorem Qm:B_ Try.prog 67 B5=true:=by kernel_rfl
def HE:AI:=(.s (.R [.m 6 5,.m 7 0,.len 8 false 7,.b 9 .lss 6 8] [0,1,5,9] (.cond 9 .k (.exit 0))) (.s (.b 1 [0,1,5] (.R [.m 12 0,.m 13 5,.m 14 1,.cl 15 [14] Ai,.idx 16 3 12 13,.f 17 16 0,.store 17 15 1 false] [0,1,5] (.R [.m 18 1,.bin 19 .add 18 (.i 1),.m 1 19] [0,1,5] (.R [.m 20 0,.m 21 5,.m 22 1,.cl 23 [22] Ai,.idx 24 3 20 21,.f 25 24 1,.store 25 23 1 false] [0,1,5] (.R [.m 26 1,.bin 27 .add 26 (.i 1),.m 1 27] [0,1,5] (.R [.m 28 0,.m 29 5,.m 30 1,.idx 31 3 28 29,.f 32 31 2,.store 32 30 1 false] [0,1,5] (.r [.m 33 1,.bin 34 .add 33 (.i 1),.m 1 34] [0,1,5]))))))) (.r [.m 10 5,.bin 11 .add 10 (.i 1),.m 5 11] [0,1,5])))
def GP:AI:=(.R [.m 35 1,.m 4 35] [4] .e)
def BQ:Bq:=⟨[.mut (.own 49 BL),.val .W],[⟨4,false,.W⟩],(.R [.mv 4 (.i 0)] [0,1] (.s (.R [.mv 5 (.i 0)] [0,1,5] (.b 0 [1] (.loop [0,1,5] HE))) GP))⟩
theorem N7:B_ Try.prog 76 BQ=true:=by kernel_rfl
def GQ:AI:=(.s (.R [.m 6 5,.m 7 0,.len 8 false 7,.b 9 .lss 6 8] [0,1,5,9] (.cond 9 .k (.exit 0))) (.s (.b 1 [0,1,5] (.s (.s (.D 8 [(1,[]),(2,[0,1]),(5,[]),(7,[4,6])] (.tk 6 [.m 17 1,.l 16 15,.f 15 14 0,.idx 14 3 12 13,.m 13 5,.m 12 0] (.O 6 (.cl 18 [17] Ai) false [] (.tk 8 [.b 19 .neq 16 18] .z))) [0,1,5,19]) (.cond 19 (.R [.mv 4 (.c (.int .i64 (-1)))] [4] .e) .k)) (.R [.m 20 1,.bin 21 .add 20 (.i 1),.m 1 21] [0,1,5] (.s (.s (.D 8 [(1,[]),(2,[0,1]),(5,[]),(7,[4,6])] (.tk 6 [.m 27 1,.l 26 25,.f 25 24 1,.idx 24 3 22 23,.m 23 5,.m 22 0] (.O 6 (.cl 28 [27] Ai) false [] (.tk 8 [.b 29 .neq 26 28] .z))) [0,1,5,29]) (.cond 29 (.R [.mv 4 (.c (.int .i64 (-1)))] [4] .e) .k)) (.R [.m 30 1,.bin 31 .add 30 (.i 1),.m 1 31] [0,1,5] (.s (.R [.m 32 0,.m 33 5,.idx 34 3 32 33,.f 35 34 2,.l 36 35,.m 37 1,.b 38 .neq 36 37] [0,1,5,38] (.cond 38 (.R [.mv 4 (.c (.int .i64 (-1)))] [4] .e) .k)) (.r [.m 39 1,.bin 40 .add 39 (.i 1),.m 1 40] [0,1,5]))))))) (.r [.m 10 5,.bin 11 .add 10 (.i 1),.m 5 11] [0,1,5])))
def GR:AI:=(.R [.m 41 1,.m 4 41] [4] .e)
def BR:Bq:=⟨[.val (.slice BL),.val .W],[⟨4,false,.W⟩],(.R [.mv 4 (.i 0)] [0,1] (.s (.R [.mv 5 (.i 0)] [0,1,5] (.b 0 [1] (.loop [0,1,5] GQ))) GR))⟩
theorem N8:B_ Try.prog 77 BR=true:=by kernel_rfl
def Gr:Bq:=⟨[.val .W,.val .W,.val .W],[⟨6,false,.bool⟩],(.R [.mv 6 .F] [0,1,2] (.R [.m 7 0,.m 8 1,.b 9 .geq 7 8,.m 10 9,.sc 10 true [.m 11 0,.m 12 2,.b 13 .leq 11 12] 14 13 .F,.m 6 14] [6] .e))⟩
theorem SU:B_ Try.prog 80 Gr=true:=by kernel_rfl
def E6:Bq:=⟨[.val .W,.val .W,.val .W],[⟨6,false,.bool⟩],(.R [.mv 6 .F] [0,1,2] (.R [.m 7 0,.m 8 1,.b 9 .geq 7 8,.m 10 9,.sc 10 true [.m 11 0,.m 12 2,.b 13 .leq 11 12] 14 13 .F,.m 6 14] [6] .e))⟩
theorem Qn:B_ Try.prog 82 E6=true:=by kernel_rfl
def Fu:Bq:=⟨[.val .W],[⟨2,false,.bool⟩],(.R [.mv 2 .F] [0] (.R [.m 3 0,.cx (some 4) [3,.c (.int .i64 1),.c (.int .i64 6)] G_,.m 2 4] [2] .e))⟩
theorem RL:B_ Try.prog 83 Fu=true:=by kernel_rfl
def Fv:Bq:=⟨[.val .S,.val .W],[⟨4,false,.W⟩],(.R [.mv 4 (.i 0)] [0,1] (.R [.m 5 1,.m 6 0,.len 7 false 6,.b 8 .sub 5 7,.m 1 8] [1] (.s (.R [.m 9 1,.bin 10 .lss 9 (.i 0)] [1,10] (.cond 10 (.R [.mv 4 (.c (.int .i64 (-1)))] [4] .e) .k)) (.R [.m 11 1,.m 4 11] [4] .e))))⟩
theorem RM:B_ Try.prog 88 Fv=true:=by kernel_rfl
def I0:AI:=(.s (.R [.m 4 3,.m 5 0,.len 6 false 5,.b 7 .lss 4 6] [0,3,7] (.cond 7 .k (.exit 0))) (.s (.b 1 [0,3] (.R [.m 10 0,.m 11 3,.idx 12 1 10 11,.l 13 12,.cl 14 [13] Qh,.un 15 .not 14] [0,3,15] (.cond 15 (.R [.mv 2 .F] [2] .e) .k))) (.r [.m 8 3,.bin 9 .add 8 (.i 1),.m 3 9] [0,3])))
def I1:AI:=(.R [.m 16 0,.len 17 false 16,.cx (some 18) [17,.c (.int .i64 1),.c (.int .i64 9)] Gp,.m 2 18] [2] .e)
def B6:Bq:=⟨[.val (.slice .S)],[⟨2,false,.bool⟩],(.R [.mv 2 .F] [0] (.s (.R [.mv 3 (.i 0)] [0,3] (.b 0 [0] (.loop [0,3] I0))) I1))⟩
theorem Qo:B_ Try.prog 89 B6=true:=by kernel_rfl
def KK:AI:=(.s (.R [.m 6 5,.m 7 0,.len 8 false 7,.b 9 .lss 6 8] [0,1,5,9] (.cond 9 .k (.exit 0))) (.s (.b 1 [0,1,5] (.R [.m 12 0,.m 13 5,.idx 14 1 12 13,.l 15 14,.m 16 1,.b 17 .eql 15 16] [0,1,5,17] (.cond 17 (.R [.mv 4 .V] [4] .e) .k))) (.r [.m 10 5,.bin 11 .add 10 (.i 1),.m 5 11] [0,1,5])))
def KL:AI:=(.R [.mv 4 .F] [4] .e)
def Cr:Bq:=⟨[.val .S,.val .W],[⟨4,false,.bool⟩],(.R [.mv 4 .F] [0,1] (.s (.R [.mv 5 (.i 0)] [0,1,5] (.b 0 [] (.loop [0,1,5] KK))) KL))⟩
theorem SV:B_ Try.prog 90 Cr=true:=by kernel_rfl
def Ji:AI:=(.s (.R [.m 8 4,.m 9 0,.len 10 false 9,.b 11 .lss 8 10] [0,3,4,11] (.cond 11 .k (.exit 0))) (.s (.b 1 [0,3,4] (.r [.m 14 3,.m 15 4,.m 16 0,.m 17 4,.idx 18 1 16 17,.l 19 18,.idx 20 1 14 15,.store 20 19 1 false] [0,3,4])) (.r [.m 12 4,.bin 13 .add 12 (.i 1),.m 4 13] [0,3,4])))
def Jj:AI:=(.R [.m 21 3,.m 2 21] [2] .e)
def CJ:Bq:=⟨[.val .S],[⟨2,false,(.own 3 .W)⟩],(.R [.mv 2 .z] [0] (.R [.m 5 0,.len 6 false 5,.mk 7 3 .W 6,.m 3 7] [0,3] (.s (.R [.mv 4 (.i 0)] [0,3,4] (.b 0 [3] (.loop [0,3,4] Ji))) Jj)))⟩
theorem RN:B_ Try.prog 91 CJ=true:=by kernel_rfl
def I2:AI:=(.R [.b 16 .lss 15 14] [0,4,7,8,9,13,14,15,16] (.s (.cond 16 .k (.exit 2)) (.s (.b 3 [0,4,7,8,9,13,14,15] (.R [.m 17 15,.idx 18 1 13 15,.l 19 18,.m 5 17,.m 6 19] [0,4,5,6,7,8,9,13,14,15] (.R [.m 20 6,.cl 21 [20] LK,.un 22 .not 21,.m 23 22,.sc 23 false [.m 24 4,.m 25 6,.cl 26 [24,25] E4,.m 27 5,.b 28 .neq 26 27] 29 .V 28] [0,4,7,8,9,13,14,15,29] (.cond 29 (.R [.mv 2 .F] [2] .e) .k)))) (.r [.bin 30 .add 15 (.i 1),.m 15 30] [0,4,7,8,9,13,14,15]))))
def Fc:AI:=(.R [.m 31 4,.len 32 false 31,.cx (some 33) [32,.c (.int .i64 1),.c (.int .i64 4)] G_,.un 34 .not 33] [0,7,8,9,34] (.cond 34 (.R [.mv 2 .F] [2] .e) .k))
def Hx:AI:=(.r [.bin 35 .add 9 (.i 1),.m 9 35] [0,7,8,9])
def Hy:AI:=(.R [.b 10 .lss 9 8] [0,7,8,9,10] (.s (.cond 10 .k (.exit 0)) (.s (.b 1 [0,7,8,9] (.R [.idx 11 1 7 9,.l 12 11,.m 4 12] [0,4,7,8,9] (.s (.R [.m 13 4,.len 14 false 13,.mv 15 (.i 0)] [0,4,7,8,9,13,14,15] (.b 2 [0,4,7,8,9] (.loop [0,4,7,8,9,13,14,15] I2))) Fc))) Hx)))
def Hz:AI:=(.R [.m 36 0,.len 37 false 36,.cx (some 38) [37,.c (.int .i64 1),.c (.int .i64 9)] G_,.m 2 38] [2] .e)
def Ax:Bq:=⟨[.val (.slice .S)],[⟨2,false,.bool⟩],(.R [.mv 2 .F] [0] (.s (.R [.m 7 0,.len 8 false 7,.mv 9 (.i 0)] [0,7,8,9] (.b 0 [0] (.loop [0,7,8,9] Hy))) Hz))⟩
theorem Qp:B_ Try.prog 92 Ax=true:=by kernel_rfl
def Bp:Bq:=⟨[.val .S,.val .W],[⟨4,false,.bool⟩],(.R [.mv 4 .F] [0,1] (.R [.m 5 0,.m 6 1,.cl 7 [5,6] E4,.bin 8 .geq 7 (.i 0),.m 4 8] [4] .e))⟩
theorem Hg:B_ Try.prog 93 Bp=true:=by kernel_rfl
def Jk:AI:=(.s (.R [.m 11 5,.m 12 0,.len 13 false 12,.b 14 .lss 11 13] [0,1,5,14] (.cond 14 .k (.exit 0))) (.s (.b 1 [0,1,5] (.s (.D 9 [(1,[]),(2,[0,1]),(4,[]),(5,[]),(6,[4,5]),(8,[3,7])] (.tk 9 [.b 25 .neq 20 24,.l 24 23,.idx 23 1 21 22,.m 22 5,.m 21 1,.l 20 19,.idx 19 1 17 18,.m 18 5,.m 17 0] .z) [0,1,5,25]) (.cond 25 (.R [.mv 4 .F] [4] .e) .k))) (.r [.m 15 5,.bin 16 .add 15 (.i 1),.m 5 16] [0,1,5])))
def Jl:AI:=(.R [.mv 4 .V] [4] .e)
def CK:Bq:=⟨[.val .S,.val .S],[⟨4,false,.bool⟩],(.R [.mv 4 .F] [0,1] (.s (.R [.m 6 0,.len 7 false 6,.m 8 1,.len 9 false 8,.b 10 .neq 7 9] [0,1,10] (.cond 10 (.R [.mv 4 .F] [4] .e) .k)) (.s (.R [.mv 5 (.i 0)] [0,1,5] (.b 0 [] (.loop [0,1,5] Jk))) Jl)))⟩
theorem RO:B_ Try.prog 94 CK=true:=by kernel_rfl
def Fw:Bq:=⟨[.val KE,.val KE],[⟨4,false,.bool⟩],(.R [.box 2 0 false,.box 3 1 false,.mv 4 .F] [2,3] (.s (.R [.f 5 2 0,.l 6 5,.f 7 3 0,.l 8 7,.b 9 .neq 6 8] [2,3,9] (.cond 9 (.R [.mv 4 .F] [4] .e) .k)) (.s (.R [.f 10 2 1,.l 11 10,.f 12 3 1,.l 13 12,.b 14 .neq 11 13] [2,3,14] (.cond 14 (.R [.mv 4 .F] [4] .e) .k)) (.s (.R [.f 15 2 2,.l 16 15,.f 17 3 2,.l 18 17,.b 19 .neq 16 18] [2,3,19] (.cond 19 (.R [.mv 4 .F] [4] .e) .k)) (.s (.R [.f 20 2 3,.ls 21 20 3,.f 22 3 3,.ls 23 22 3,.cl 24 [21,23] LN,.un 25 .not 24] [2,3,25] (.cond 25 (.R [.mv 4 .F] [4] .e) .k)) (.s (.R [.f 26 2 6,.l 27 26,.f 28 3 6,.l 29 28,.cl 30 [27,29] IQ,.un 31 .not 30] [31] (.cond 31 (.R [.mv 4 .F] [4] .e) .k)) (.R [.mv 4 .V] [4] .e)))))))⟩
theorem RP:B_ Try.prog 95 Fw=true:=by kernel_rfl
def H5:AI:=(.s (.R [.m 6 5,.m 7 0,.len 8 false 7,.b 9 .lss 6 8] [0,1,5,9] (.cond 9 .k (.exit 0))) (.s (.b 1 [0,1,5] (.R [.m 12 0,.m 13 5,.m 14 1,.idx 15 1 12 13,.store 15 14 1 false] [0,1,5] (.r [.m 16 1,.bin 17 .add 16 (.i 1),.m 1 17] [0,1,5]))) (.r [.m 10 5,.bin 11 .add 10 (.i 1),.m 5 11] [0,1,5])))
def H6:AI:=(.R [.m 18 1,.m 4 18] [4] .e)
def Bg:Bq:=⟨[.mut (.own 3 .W),.val .W],[⟨4,false,.W⟩],(.R [.mv 4 (.i 0)] [0,1] (.s (.R [.mv 5 (.i 0)] [0,1,5] (.b 0 [1] (.loop [0,1,5] H5))) H6))⟩
theorem PZ:B_ Try.prog 96 Bg=true:=by kernel_rfl
def H7:AI:=(.s (.R [.m 6 5,.m 7 0,.len 8 false 7,.b 9 .lss 6 8] [0,1,5,9] (.cond 9 .k (.exit 0))) (.s (.b 1 [0,1,5] (.s (.R [.m 12 0,.m 13 5,.idx 14 1 12 13,.l 15 14,.m 16 1,.b 17 .neq 15 16] [0,1,5,17] (.cond 17 (.R [.mv 4 (.c (.int .i64 (-1)))] [4] .e) .k)) (.r [.m 18 1,.bin 19 .add 18 (.i 1),.m 1 19] [0,1,5]))) (.r [.m 10 5,.bin 11 .add 10 (.i 1),.m 5 11] [0,1,5])))
def H8:AI:=(.R [.m 20 1,.m 4 20] [4] .e)
def Bh:Bq:=⟨[.val .S,.val .W],[⟨4,false,.W⟩],(.R [.mv 4 (.i 0)] [0,1] (.s (.R [.mv 5 (.i 0)] [0,1,5] (.b 0 [1] (.loop [0,1,5] H7))) H8))⟩
theorem Pa:B_ Try.prog 98 Bh=true:=by kernel_rfl
def FP:AI:=(.s (.R [.m 6 4,.m 7 0,.len 8 false 7,.b 9 .lss 6 8] [0,3,4,9] (.cond 9 .k (.exit 0))) (.s (.b 1 [0,3,4] (.r [.m 12 3,.brow 13 3 .W [],.m 14 0,.m 15 4,.idx 16 1 14 15,.l 17 16,.app 18 3 .W 13 17,.blst 19 .S [18],.app 20 44 .S 12 19,.m 3 20] [0,3,4])) (.r [.m 10 4,.bin 11 .add 10 (.i 1),.m 4 11] [0,3,4])))
def FQ:AI:=(.R [.m 21 3,.m 2 21] [2] .e)
def BE:Bq:=⟨[.val (.slice .S)],[⟨2,false,(.slice .S)⟩],(.R [.mv 2 .z] [0] (.R [.brow 5 44 .S [],.m 3 5] [0,3] (.s (.R [.mv 4 (.i 0)] [0,3,4] (.b 0 [3] (.loop [0,3,4] FP))) FQ)))⟩
theorem Kp:B_ Try.prog 112 BE=true:=by kernel_rfl
def HF:AI:=(.R [.b 9 .lss 8 7] [3,6,7,8,9] (.s (.cond 9 .k (.exit 0)) (.s (.b 1 [3,6,7,8] (.R [.idx 10 1 6 8,.l 11 10,.m 5 11] [3,5,6,7,8] (.r [.m 12 3,.m 13 5,.cl 14 [13] JT,.brow 15 44 (.own 3 .W) [14],.app 16 44 (.own 3 .W) 12 15,.m 3 16] [3,6,7,8]))) (.r [.bin 17 .add 8 (.i 1),.m 8 17] [3,6,7,8]))))
def HG:AI:=(.R [.m 18 3,.m 2 18] [2] .e)
def BS:Bq:=⟨[.val (.slice .S)],[⟨2,false,(.own 44 (.own 3 .W))⟩],(.R [.nilrow 2 44 (.own 3 .W)] [0] (.R [.nilrow 3 44 (.own 3 .W)] [0,3] (.s (.R [.m 6 0,.len 7 false 6,.mv 8 (.i 0)] [3,6,7,8] (.b 0 [3] (.loop [3,6,7,8] HF))) HG)))⟩
theorem N9:B_ Try.prog 113 BS=true:=by kernel_rfl
def HH:AI:=(.s (.R [.m 11 5,.m 12 0,.len 13 false 12,.b 14 .lss 11 13] [0,1,5,14] (.cond 14 .k (.exit 0))) (.s (.b 1 [0,1,5] (.s (.D 10 [(1,[]),(2,[0,1]),(4,[]),(5,[]),(6,[4,5]),(8,[3,7])] (.tk 8 [.ls 24 23 16,.idx 23 16 21 22,.m 22 5,.m 21 1,.ls 20 19 16,.idx 19 16 17 18,.m 18 5,.m 17 0] (.O 8 (.cl 25 [20,24] PS) false [] (.tk 10 [.un 26 .not 25] .z))) [0,1,5,26]) (.cond 26 (.R [.mv 4 .F] [4] .e) .k))) (.r [.m 15 5,.bin 16 .add 15 (.i 1),.m 5 16] [0,1,5])))
def HI:AI:=(.R [.mv 4 .V] [4] .e)
def BT:Bq:=⟨[.val (.slice AZ),.val (.slice AZ)],[⟨4,false,.bool⟩],(.R [.mv 4 .F] [0,1] (.s (.R [.m 6 0,.len 7 false 6,.m 8 1,.len 9 false 8,.b 10 .neq 7 9] [0,1,10] (.cond 10 (.R [.mv 4 .F] [4] .e) .k)) (.s (.R [.mv 5 (.i 0)] [0,1,5] (.b 0 [] (.loop [0,1,5] HH))) HI)))⟩
theorem N_:B_ Try.prog 114 BT=true:=by kernel_rfl
def Jm:AI:=(.s (.R [.m 11 5,.m 12 0,.len 13 false 12,.b 14 .lss 11 13] [0,1,5,14] (.cond 14 .k (.exit 0))) (.s (.b 1 [0,1,5] (.s (.D 10 [(1,[]),(2,[0,1]),(4,[]),(5,[]),(6,[4,5]),(8,[3,7])] (.tk 8 [.ls 24 23 6,.idx 23 6 21 22,.m 22 5,.m 21 1,.ls 20 19 6,.idx 19 6 17 18,.m 18 5,.m 17 0] (.O 8 (.cl 25 [20,24] SS) false [] (.tk 10 [.un 26 .not 25] .z))) [0,1,5,26]) (.cond 26 (.R [.mv 4 .F] [4] .e) .k))) (.r [.m 15 5,.bin 16 .add 15 (.i 1),.m 5 16] [0,1,5])))
def Jn:AI:=(.R [.mv 4 .V] [4] .e)
def CL:Bq:=⟨[.val (.slice Du),.val (.slice Du)],[⟨4,false,.bool⟩],(.R [.mv 4 .F] [0,1] (.s (.R [.m 6 0,.len 7 false 6,.m 8 1,.len 9 false 8,.b 10 .neq 7 9] [0,1,10] (.cond 10 (.R [.mv 4 .F] [4] .e) .k)) (.s (.R [.mv 5 (.i 0)] [0,1,5] (.b 0 [] (.loop [0,1,5] Jm))) Jn)))⟩
theorem RQ:B_ Try.prog 115 CL=true:=by kernel_rfl
def I3:AI:=(.s (.R [.m 11 5,.m 12 0,.len 13 false 12,.b 14 .lss 11 13] [0,1,5,14] (.cond 14 .k (.exit 0))) (.s (.b 1 [0,1,5] (.s (.D 10 [(1,[]),(2,[0,1]),(4,[]),(5,[]),(6,[4,5]),(8,[3,7])] (.tk 8 [.ls 24 23 9,.idx 23 9 21 22,.m 22 5,.m 21 1,.ls 20 19 9,.idx 19 9 17 18,.m 18 5,.m 17 0] (.O 8 (.cl 25 [20,24] RK) false [] (.tk 10 [.un 26 .not 25] .z))) [0,1,5,26]) (.cond 26 (.R [.mv 4 .F] [4] .e) .k))) (.r [.m 15 5,.bin 16 .add 15 (.i 1),.m 5 16] [0,1,5])))
def I4:AI:=(.R [.mv 4 .V] [4] .e)
def B7:Bq:=⟨[.val (.slice BF),.val (.slice BF)],[⟨4,false,.bool⟩],(.R [.mv 4 .F] [0,1] (.s (.R [.m 6 0,.len 7 false 6,.m 8 1,.len 9 false 8,.b 10 .neq 7 9] [0,1,10] (.cond 10 (.R [.mv 4 .F] [4] .e) .k)) (.s (.R [.mv 5 (.i 0)] [0,1,5] (.b 0 [] (.loop [0,1,5] I3))) I4)))⟩
theorem Qq:B_ Try.prog 116 B7=true:=by kernel_rfl
def FR:AI:=(.s (.R [.m 6 5,.m 7 0,.len 8 false 7,.b 9 .lss 6 8] [0,1,5,9] (.cond 9 .k (.exit 0))) (.s (.b 1 [0,1,5] (.R [.m 12 0,.m 13 5,.m 14 1,.idx 15 16 12 13,.f 16 15 0,.store 16 14 1 false] [0,1,5] (.R [.m 17 1,.bin 18 .add 17 (.i 1),.m 1 18] [0,1,5] (.R [.m 19 0,.m 20 5,.m 21 1,.idx 22 16 19 20,.f 23 22 1,.store 23 21 1 false] [0,1,5] (.R [.m 24 1,.bin 25 .add 24 (.i 1),.m 1 25] [0,1,5] (.R [.m 26 0,.m 27 5,.m 28 1,.bin 29 .rem 28 (.i 3),.bin 30 .eql 29 (.i 0),.idx 31 16 26 27,.f 32 31 2,.store 32 30 1 false] [0,1,5] (.R [.m 33 1,.bin 34 .add 33 (.i 1),.m 1 34] [0,1,5] (.R [.m 35 0,.m 36 5,.m 37 1,.bin 38 .rem 37 (.i 3),.bin 39 .eql 38 (.i 0),.idx 40 16 35 36,.f 41 40 3,.store 41 39 1 false] [0,1,5] (.R [.m 42 1,.bin 43 .add 42 (.i 1),.m 1 43] [0,1,5] (.R [.m 44 0,.m 45 5,.m 46 1,.bin 47 .rem 46 (.i 3),.bin 48 .eql 47 (.i 0),.idx 49 16 44 45,.f 50 49 4,.store 50 48 1 false] [0,1,5] (.R [.m 51 1,.bin 52 .add 51 (.i 1),.m 1 52] [0,1,5] (.R [.m 53 0,.m 54 5,.m 55 1,.bin 56 .rem 55 (.i 3),.bin 57 .eql 56 (.i 0),.idx 58 16 53 54,.f 59 58 5,.store 59 57 1 false] [0,1,5] (.R [.m 60 1,.bin 61 .add 60 (.i 1),.m 1 61] [0,1,5] (.R [.m 62 0,.m 63 5,.idx 64 16 62 63,.f 65 64 6,.l 66 65,.m 67 1,.icx 66 false (some 68) [66,67] GG,.m 1 68] [0,1,5] (.R [.m 69 0,.m 70 5,.idx 71 16 69 70,.f 72 71 7,.l 73 72,.m 74 1,.icx 73 false (some 75) [73,74] Iq,.m 1 75] [0,1,5] (.R [.m 76 0,.m 77 5,.m 78 1,.idx 79 16 76 77,.f 80 79 8,.store 80 78 1 false] [0,1,5] (.R [.m 81 1,.bin 82 .add 81 (.i 1),.m 1 82] [0,1,5] (.R [.m 83 0,.m 84 5,.m 85 1,.idx 86 16 83 84,.f 87 86 9,.f 88 87 0,.store 88 85 1 false] [0,1,5] (.R [.m 89 1,.bin 90 .add 89 (.i 1),.m 1 90] [0,1,5] (.R [.m 91 0,.m 92 5,.m 93 1,.idx 94 16 91 92,.f 95 94 9,.f 96 95 1,.store 96 93 1 false] [0,1,5] (.R [.m 97 1,.bin 98 .add 97 (.i 1),.m 1 98] [0,1,5] (.R [.m 99 0,.m 100 5,.m 101 1,.idx 102 16 99 100,.f 103 102 9,.f 104 103 2,.store 104 101 1 false] [0,1,5] (.R [.m 105 1,.bin 106 .add 105 (.i 1),.m 1 106] [0,1,5] (.R [.m 107 0,.m 108 5,.m 109 1,.cl 110 [109] Ai,.idx 111 16 107 108,.f 112 111 9,.f 113 112 3,.f 114 113 0,.store 114 110 1 false] [0,1,5] (.R [.m 115 1,.bin 116 .add 115 (.i 1),.m 1 116] [0,1,5] (.R [.m 117 0,.m 118 5,.m 119 1,.cl 120 [119] Ai,.idx 121 16 117 118,.f 122 121 9,.f 123 122 3,.f 124 123 1,.store 124 120 1 false] [0,1,5] (.R [.m 125 1,.bin 126 .add 125 (.i 1),.m 1 126] [0,1,5] (.R [.m 127 0,.m 128 5,.m 129 1,.idx 130 16 127 128,.f 131 130 9,.f 132 131 3,.f 133 132 2,.store 133 129 1 false] [0,1,5] (.R [.m 134 1,.bin 135 .add 134 (.i 1),.m 1 135] [0,1,5] (.r [.m 136 0,.m 137 5,.idx 138 16 136 137,.f 139 138 9,.f 140 139 6,.l 141 140,.m 142 1,.icx 141 false (some 143) [141,142] GG,.m 1 143] [0,1,5])))))))))))))))))))))))))))))) (.r [.m 10 5,.bin 11 .add 10 (.i 1),.m 5 11] [0,1,5])))
def FS:AI:=(.R [.m 144 1,.m 4 144] [4] .e)
def BI:Bq:=⟨[.mut (.own 53 Ab),.val .W],[⟨4,false,.W⟩],(.R [.mv 4 (.i 0)] [0,1] (.s (.R [.mv 5 (.i 0)] [0,1,5] (.b 0 [1] (.loop [0,1,5] FR))) FS))⟩
theorem Lh:B_ Try.prog 117 BI=true:=by kernel_rfl
def HJ:AI:=(.s (.R [.m 6 5,.m 7 0,.len 8 false 7,.b 9 .lss 6 8] [0,1,5,9] (.cond 9 .k (.exit 0))) (.s (.b 1 [0,1,5] (.R [.m 12 0,.m 13 5,.m 14 1,.idx 15 6 12 13,.f 16 15 0,.store 16 14 1 false] [0,1,5] (.R [.m 17 1,.bin 18 .add 17 (.i 1),.m 1 18] [0,1,5] (.R [.m 19 0,.m 20 5,.m 21 1,.idx 22 6 19 20,.f 23 22 1,.store 23 21 1 false] [0,1,5] (.R [.m 24 1,.bin 25 .add 24 (.i 1),.m 1 25] [0,1,5] (.R [.m 26 0,.m 27 5,.m 28 1,.idx 29 6 26 27,.f 30 29 2,.store 30 28 1 false] [0,1,5] (.R [.m 31 1,.bin 32 .add 31 (.i 1),.m 1 32] [0,1,5] (.R [.m 33 0,.m 34 5,.m 35 1,.idx 36 6 33 34,.f 37 36 3,.store 37 35 1 false] [0,1,5] (.R [.m 38 1,.bin 39 .add 38 (.i 1),.m 1 39] [0,1,5] (.R [.m 40 0,.m 41 5,.m 42 1,.idx 43 6 40 41,.f 44 43 4,.store 44 42 1 false] [0,1,5] (.R [.m 45 1,.bin 46 .add 45 (.i 1),.m 1 46] [0,1,5] (.r [.m 47 0,.m 48 5,.idx 49 6 47 48,.f 50 49 5,.l 51 50,.m 52 1,.icx 51 false (some 53) [51,52] Iq,.m 1 53] [0,1,5])))))))))))) (.r [.m 10 5,.bin 11 .add 10 (.i 1),.m 5 11] [0,1,5])))
def HK:AI:=(.R [.m 54 1,.m 4 54] [4] .e)
def Bi:Bq:=⟨[.mut (.own 30 CA),.val .W],[⟨4,false,.W⟩],(.R [.mv 4 (.i 0)] [0,1] (.s (.R [.mv 5 (.i 0)] [0,1,5] (.b 0 [1] (.loop [0,1,5] HJ))) HK))⟩
theorem Pb:B_ Try.prog 118 Bi=true:=by kernel_rfl
def GS:AI:=(.s (.R [.m 6 5,.m 7 0,.len 8 false 7,.b 9 .lss 6 8] [0,1,5,9] (.cond 9 .k (.exit 0))) (.s (.b 1 [0,1,5] (.R [.m 12 0,.m 13 5,.m 14 1,.idx 15 9 12 13,.f 16 15 0,.store 16 14 1 false] [0,1,5] (.R [.m 17 1,.bin 18 .add 17 (.i 1),.m 1 18] [0,1,5] (.R [.m 19 0,.m 20 5,.m 21 1,.cl 22 [21] Ai,.idx 23 9 19 20,.f 24 23 1,.store 24 22 1 false] [0,1,5] (.R [.m 25 1,.bin 26 .add 25 (.i 1),.m 1 26] [0,1,5] (.R [.m 27 0,.m 28 5,.m 29 1,.cl 30 [29] Ai,.idx 31 9 27 28,.f 32 31 2,.store 32 30 1 false] [0,1,5] (.R [.m 33 1,.bin 34 .add 33 (.i 1),.m 1 34] [0,1,5] (.R [.m 35 0,.m 36 5,.m 37 1,.idx 38 9 35 36,.f 39 38 3,.store 39 37 1 false] [0,1,5] (.R [.m 40 1,.bin 41 .add 40 (.i 1),.m 1 41] [0,1,5] (.R [.m 42 0,.m 43 5,.m 44 1,.idx 45 9 42 43,.f 46 45 4,.store 46 44 1 false] [0,1,5] (.R [.m 47 1,.bin 48 .add 47 (.i 1),.m 1 48] [0,1,5] (.R [.m 49 0,.m 50 5,.m 51 1,.idx 52 9 49 50,.f 53 52 5,.store 53 51 1 false] [0,1,5] (.R [.m 54 1,.bin 55 .add 54 (.i 1),.m 1 55] [0,1,5] (.R [.m 56 0,.m 57 5,.m 58 1,.idx 59 9 56 57,.f 60 59 6,.store 60 58 1 false] [0,1,5] (.R [.m 61 1,.bin 62 .add 61 (.i 1),.m 1 62] [0,1,5] (.R [.m 63 0,.m 64 5,.m 65 1,.idx 66 9 63 64,.f 67 66 7,.store 67 65 1 false] [0,1,5] (.R [.m 68 1,.bin 69 .add 68 (.i 1),.m 1 69] [0,1,5] (.R [.m 70 0,.m 71 5,.m 72 1,.cl 73 [72] Ai,.idx 74 9 70 71,.f 75 74 8,.store 75 73 1 false] [0,1,5] (.r [.m 76 1,.bin 77 .add 76 (.i 1),.m 1 77] [0,1,5]))))))))))))))))))) (.r [.m 10 5,.bin 11 .add 10 (.i 1),.m 5 11] [0,1,5])))
def GT:AI:=(.R [.m 78 1,.m 4 78] [4] .e)
def BU:Bq:=⟨[.mut (.own 186 BF),.val .W],[⟨4,false,.W⟩],(.R [.mv 4 (.i 0)] [0,1] (.s (.R [.mv 5 (.i 0)] [0,1,5] (.b 0 [1] (.loop [0,1,5] GS))) GT))⟩
theorem OA:B_ Try.prog 119 BU=true:=by kernel_rfl
def HL:AI:=(.s (.R [.m 6 5,.m 7 0,.len 8 false 7,.b 9 .lss 6 8] [0,1,5,9] (.cond 9 .k (.exit 0))) (.s (.b 1 [0,1,5] (.R [.m 12 0,.m 13 5,.idx 14 1 12 13,.l 15 14,.m 16 1,.cl 17 [15,16] GH,.m 1 17] [0,1,5] (.R [.m 18 1,.bin 19 .lss 18 (.i 0)] [0,1,5,19] (.cond 19 (.R [.mv 4 (.c (.int .i64 (-1)))] [4] .e) .k)))) (.r [.m 10 5,.bin 11 .add 10 (.i 1),.m 5 11] [0,1,5])))
def HM:AI:=(.R [.m 20 1,.m 4 20] [4] .e)
def BV:Bq:=⟨[.val (.slice .S),.val .W],[⟨4,false,.W⟩],(.R [.mv 4 (.i 0)] [0,1] (.s (.R [.mv 5 (.i 0)] [0,1,5] (.b 0 [1] (.loop [0,1,5] HL))) HM))⟩
theorem OB:B_ Try.prog 120 BV=true:=by kernel_rfl
def FT:AI:=(.s (.R [.m 6 5,.m 7 0,.len 8 false 7,.b 9 .lss 6 8] [0,1,5,9] (.cond 9 .k (.exit 0))) (.s (.b 1 [0,1,5] (.s (.R [.m 12 0,.m 13 5,.idx 14 16 12 13,.f 15 14 0,.l 16 15,.m 17 1,.b 18 .neq 16 17] [0,1,5,18] (.cond 18 (.R [.mv 4 (.c (.int .i64 (-1)))] [4] .e) .k)) (.R [.m 19 1,.bin 20 .add 19 (.i 1),.m 1 20] [0,1,5] (.s (.R [.m 21 0,.m 22 5,.idx 23 16 21 22,.f 24 23 1,.l 25 24,.m 26 1,.b 27 .neq 25 26] [0,1,5,27] (.cond 27 (.R [.mv 4 (.c (.int .i64 (-1)))] [4] .e) .k)) (.R [.m 28 1,.bin 29 .add 28 (.i 1),.m 1 29] [0,1,5] (.s (.R [.m 30 0,.m 31 5,.idx 32 16 30 31,.f 33 32 2,.l 34 33,.m 35 1,.bin 36 .rem 35 (.i 3),.bin 37 .eql 36 (.i 0),.eqs 38 true .bool 34 37] [0,1,5,38] (.cond 38 (.R [.mv 4 (.c (.int .i64 (-1)))] [4] .e) .k)) (.R [.m 39 1,.bin 40 .add 39 (.i 1),.m 1 40] [0,1,5] (.s (.R [.m 41 0,.m 42 5,.idx 43 16 41 42,.f 44 43 3,.l 45 44,.m 46 1,.bin 47 .rem 46 (.i 3),.bin 48 .eql 47 (.i 0),.eqs 49 true .bool 45 48] [0,1,5,49] (.cond 49 (.R [.mv 4 (.c (.int .i64 (-1)))] [4] .e) .k)) (.R [.m 50 1,.bin 51 .add 50 (.i 1),.m 1 51] [0,1,5] (.s (.R [.m 52 0,.m 53 5,.idx 54 16 52 53,.f 55 54 4,.l 56 55,.m 57 1,.bin 58 .rem 57 (.i 3),.bin 59 .eql 58 (.i 0),.eqs 60 true .bool 56 59] [0,1,5,60] (.cond 60 (.R [.mv 4 (.c (.int .i64 (-1)))] [4] .e) .k)) (.R [.m 61 1,.bin 62 .add 61 (.i 1),.m 1 62] [0,1,5] (.s (.R [.m 63 0,.m 64 5,.idx 65 16 63 64,.f 66 65 5,.l 67 66,.m 68 1,.bin 69 .rem 68 (.i 3),.bin 70 .eql 69 (.i 0),.eqs 71 true .bool 67 70] [0,1,5,71] (.cond 71 (.R [.mv 4 (.c (.int .i64 (-1)))] [4] .e) .k)) (.R [.m 72 1,.bin 73 .add 72 (.i 1),.m 1 73] [0,1,5] (.R [.m 74 0,.m 75 5,.idx 76 16 74 75,.f 77 76 6,.l 78 77,.m 79 1,.cl 80 [78,79] GH,.m 1 80] [0,1,5] (.s (.R [.m 81 1,.bin 82 .lss 81 (.i 0)] [0,1,5,82] (.cond 82 (.R [.mv 4 (.c (.int .i64 (-1)))] [4] .e) .k)) (.R [.m 83 0,.m 84 5,.idx 85 16 83 84,.f 86 85 7,.l 87 86,.m 88 1,.cl 89 [87,88] Ir,.m 1 89] [0,1,5] (.s (.R [.m 90 1,.bin 91 .lss 90 (.i 0)] [0,1,5,91] (.cond 91 (.R [.mv 4 (.c (.int .i64 (-1)))] [4] .e) .k)) (.s (.R [.m 92 0,.m 93 5,.idx 94 16 92 93,.f 95 94 8,.l 96 95,.m 97 1,.b 98 .neq 96 97] [0,1,5,98] (.cond 98 (.R [.mv 4 (.c (.int .i64 (-1)))] [4] .e) .k)) (.R [.m 99 1,.bin 100 .add 99 (.i 1),.m 1 100] [0,1,5] (.s (.R [.m 101 0,.m 102 5,.idx 103 16 101 102,.f 104 103 9,.f 105 104 0,.l 106 105,.m 107 1,.b 108 .neq 106 107] [0,1,5,108] (.cond 108 (.R [.mv 4 (.c (.int .i64 (-1)))] [4] .e) .k)) (.R [.m 109 1,.bin 110 .add 109 (.i 1),.m 1 110] [0,1,5] (.s (.R [.m 111 0,.m 112 5,.idx 113 16 111 112,.f 114 113 9,.f 115 114 1,.l 116 115,.m 117 1,.b 118 .neq 116 117] [0,1,5,118] (.cond 118 (.R [.mv 4 (.c (.int .i64 (-1)))] [4] .e) .k)) (.R [.m 119 1,.bin 120 .add 119 (.i 1),.m 1 120] [0,1,5] (.s (.R [.m 121 0,.m 122 5,.idx 123 16 121 122,.f 124 123 9,.f 125 124 2,.l 126 125,.m 127 1,.b 128 .neq 126 127] [0,1,5,128] (.cond 128 (.R [.mv 4 (.c (.int .i64 (-1)))] [4] .e) .k)) (.R [.m 129 1,.bin 130 .add 129 (.i 1),.m 1 130] [0,1,5] (.s (.s (.D 10 [(1,[]),(2,[0,1]),(7,[]),(9,[6,8])] (.tk 8 [.m 138 1,.l 137 136,.f 136 135 0,.f 135 134 3,.f 134 133 9,.idx 133 16 131 132,.m 132 5,.m 131 0] (.O 8 (.cl 139 [138] Ai) false [] (.tk 10 [.b 140 .neq 137 139] .z))) [0,1,5,140]) (.cond 140 (.R [.mv 4 (.c (.int .i64 (-1)))] [4] .e) .k)) (.R [.m 141 1,.bin 142 .add 141 (.i 1),.m 1 142] [0,1,5] (.s (.s (.D 10 [(1,[]),(2,[0,1]),(7,[]),(9,[6,8])] (.tk 8 [.m 150 1,.l 149 148,.f 148 147 1,.f 147 146 3,.f 146 145 9,.idx 145 16 143 144,.m 144 5,.m 143 0] (.O 8 (.cl 151 [150] Ai) false [] (.tk 10 [.b 152 .neq 149 151] .z))) [0,1,5,152]) (.cond 152 (.R [.mv 4 (.c (.int .i64 (-1)))] [4] .e) .k)) (.R [.m 153 1,.bin 154 .add 153 (.i 1),.m 1 154] [0,1,5] (.s (.R [.m 155 0,.m 156 5,.idx 157 16 155 156,.f 158 157 9,.f 159 158 3,.f 160 159 2,.l 161 160,.m 162 1,.b 163 .neq 161 162] [0,1,5,163] (.cond 163 (.R [.mv 4 (.c (.int .i64 (-1)))] [4] .e) .k)) (.R [.m 164 1,.bin 165 .add 164 (.i 1),.m 1 165] [0,1,5] (.R [.m 166 0,.m 167 5,.idx 168 16 166 167,.f 169 168 9,.f 170 169 6,.l 171 170,.m 172 1,.cl 173 [171,172] GH,.m 1 173] [0,1,5] (.R [.m 174 1,.bin 175 .lss 174 (.i 0)] [0,1,5,175] (.cond 175 (.R [.mv 4 (.c (.int .i64 (-1)))] [4] .e) .k)))))))))))))))))))))))))))))))))) (.r [.m 10 5,.bin 11 .add 10 (.i 1),.m 5 11] [0,1,5])))
def FU:AI:=(.R [.m 176 1,.m 4 176] [4] .e)
def BJ:Bq:=⟨[.val (.slice AZ),.val .W],[⟨4,false,.W⟩],(.R [.mv 4 (.i 0)] [0,1] (.s (.R [.mv 5 (.i 0)] [0,1,5] (.b 0 [1] (.loop [0,1,5] FT))) FU))⟩
theorem Li:B_ Try.prog 121 BJ=true:=by kernel_rfl

def HN:AI:=(.s (.R [.m 6 5,.m 7 0,.len 8 false 7,.b 9 .lss 6 8] [0,1,5,9] (.cond 9 .k (.exit 0))) (.s (.b 1 [0,1,5] (.s (.R [.m 12 0,.m 13 5,.idx 14 6 12 13,.f 15 14 0,.l 16 15,.m 17 1,.b 18 .neq 16 17] [0,1,5,18] (.cond 18 (.R [.mv 4 (.c (.int .i64 (-1)))] [4] .e) .k)) (.R [.m 19 1,.bin 20 .add 19 (.i 1),.m 1 20] [0,1,5] (.s (.R [.m 21 0,.m 22 5,.idx 23 6 21 22,.f 24 23 1,.l 25 24,.m 26 1,.b 27 .neq 25 26] [0,1,5,27] (.cond 27 (.R [.mv 4 (.c (.int .i64 (-1)))] [4] .e) .k)) (.R [.m 28 1,.bin 29 .add 28 (.i 1),.m 1 29] [0,1,5] (.s (.R [.m 30 0,.m 31 5,.idx 32 6 30 31,.f 33 32 2,.l 34 33,.m 35 1,.b 36 .neq 34 35] [0,1,5,36] (.cond 36 (.R [.mv 4 (.c (.int .i64 (-1)))] [4] .e) .k)) (.R [.m 37 1,.bin 38 .add 37 (.i 1),.m 1 38] [0,1,5] (.s (.R [.m 39 0,.m 40 5,.idx 41 6 39 40,.f 42 41 3,.l 43 42,.m 44 1,.b 45 .neq 43 44] [0,1,5,45] (.cond 45 (.R [.mv 4 (.c (.int .i64 (-1)))] [4] .e) .k)) (.R [.m 46 1,.bin 47 .add 46 (.i 1),.m 1 47] [0,1,5] (.s (.R [.m 48 0,.m 49 5,.idx 50 6 48 49,.f 51 50 4,.l 52 51,.m 53 1,.b 54 .neq 52 53] [0,1,5,54] (.cond 54 (.R [.mv 4 (.c (.int .i64 (-1)))] [4] .e) .k)) (.R [.m 55 1,.bin 56 .add 55 (.i 1),.m 1 56] [0,1,5] (.R [.m 57 0,.m 58 5,.idx 59 6 57 58,.f 60 59 5,.l 61 60,.m 62 1,.cl 63 [61,62] Ir,.m 1 63] [0,1,5] (.R [.m 64 1,.bin 65 .lss 64 (.i 0)] [0,1,5,65] (.cond 65 (.R [.mv 4 (.c (.int .i64 (-1)))] [4] .e) .k)))))))))))))) (.r [.m 10 5,.bin 11 .add 10 (.i 1),.m 5 11] [0,1,5])))
def HO:AI:=(.R [.m 66 1,.m 4 66] [4] .e)
def Bj:Bq:=⟨[.val (.slice Du),.val .W],[⟨4,false,.W⟩],(.R [.mv 4 (.i 0)] [0,1] (.s (.R [.mv 5 (.i 0)] [0,1,5] (.b 0 [1] (.loop [0,1,5] HN))) HO))⟩
theorem Pc:B_ Try.prog 122 Bj=true:=by kernel_rfl
def GU:AI:=(.s (.R [.m 6 5,.m 7 0,.len 8 false 7,.b 9 .lss 6 8] [0,1,5,9] (.cond 9 .k (.exit 0))) (.s (.b 1 [0,1,5] (.s (.R [.m 12 0,.m 13 5,.idx 14 9 12 13,.f 15 14 0,.l 16 15,.m 17 1,.b 18 .neq 16 17] [0,1,5,18] (.cond 18 (.R [.mv 4 (.c (.int .i64 (-1)))] [4] .e) .k)) (.R [.m 19 1,.bin 20 .add 19 (.i 1),.m 1 20] [0,1,5] (.s (.s (.D 8 [(1,[]),(2,[0,1]),(5,[]),(7,[4,6])] (.tk 6 [.m 26 1,.l 25 24,.f 24 23 1,.idx 23 9 21 22,.m 22 5,.m 21 0] (.O 6 (.cl 27 [26] Ai) false [] (.tk 8 [.b 28 .neq 25 27] .z))) [0,1,5,28]) (.cond 28 (.R [.mv 4 (.c (.int .i64 (-1)))] [4] .e) .k)) (.R [.m 29 1,.bin 30 .add 29 (.i 1),.m 1 30] [0,1,5] (.s (.s (.D 8 [(1,[]),(2,[0,1]),(5,[]),(7,[4,6])] (.tk 6 [.m 36 1,.l 35 34,.f 34 33 2,.idx 33 9 31 32,.m 32 5,.m 31 0] (.O 6 (.cl 37 [36] Ai) false [] (.tk 8 [.b 38 .neq 35 37] .z))) [0,1,5,38]) (.cond 38 (.R [.mv 4 (.c (.int .i64 (-1)))] [4] .e) .k)) (.R [.m 39 1,.bin 40 .add 39 (.i 1),.m 1 40] [0,1,5] (.s (.R [.m 41 0,.m 42 5,.idx 43 9 41 42,.f 44 43 3,.l 45 44,.m 46 1,.b 47 .neq 45 46] [0,1,5,47] (.cond 47 (.R [.mv 4 (.c (.int .i64 (-1)))] [4] .e) .k)) (.R [.m 48 1,.bin 49 .add 48 (.i 1),.m 1 49] [0,1,5] (.s (.R [.m 50 0,.m 51 5,.idx 52 9 50 51,.f 53 52 4,.l 54 53,.m 55 1,.b 56 .neq 54 55] [0,1,5,56] (.cond 56 (.R [.mv 4 (.c (.int .i64 (-1)))] [4] .e) .k)) (.R [.m 57 1,.bin 58 .add 57 (.i 1),.m 1 58] [0,1,5] (.s (.R [.m 59 0,.m 60 5,.idx 61 9 59 60,.f 62 61 5,.l 63 62,.m 64 1,.b 65 .neq 63 64] [0,1,5,65] (.cond 65 (.R [.mv 4 (.c (.int .i64 (-1)))] [4] .e) .k)) (.R [.m 66 1,.bin 67 .add 66 (.i 1),.m 1 67] [0,1,5] (.s (.R [.m 68 0,.m 69 5,.idx 70 9 68 69,.f 71 70 6,.l 72 71,.m 73 1,.b 74 .neq 72 73] [0,1,5,74] (.cond 74 (.R [.mv 4 (.c (.int .i64 (-1)))] [4] .e) .k)) (.R [.m 75 1,.bin 76 .add 75 (.i 1),.m 1 76] [0,1,5] (.s (.R [.m 77 0,.m 78 5,.idx 79 9 77 78,.f 80 79 7,.l 81 80,.m 82 1,.b 83 .neq 81 82] [0,1,5,83] (.cond 83 (.R [.mv 4 (.c (.int .i64 (-1)))] [4] .e) .k)) (.R [.m 84 1,.bin 85 .add 84 (.i 1),.m 1 85] [0,1,5] (.s (.s (.D 8 [(1,[]),(2,[0,1]),(5,[]),(7,[4,6])] (.tk 6 [.m 91 1,.l 90 89,.f 89 88 8,.idx 88 9 86 87,.m 87 5,.m 86 0] (.O 6 (.cl 92 [91] Ai) false [] (.tk 8 [.b 93 .neq 90 92] .z))) [0,1,5,93]) (.cond 93 (.R [.mv 4 (.c (.int .i64 (-1)))] [4] .e) .k)) (.r [.m 94 1,.bin 95 .add 94 (.i 1),.m 1 95] [0,1,5]))))))))))))))))))) (.r [.m 10 5,.bin 11 .add 10 (.i 1),.m 5 11] [0,1,5])))
def GV:AI:=(.R [.m 96 1,.m 4 96] [4] .e)
def BW:Bq:=⟨[.val (.slice BF),.val .W],[⟨4,false,.W⟩],(.R [.mv 4 (.i 0)] [0,1] (.s (.R [.mv 5 (.i 0)] [0,1,5] (.b 0 [1] (.loop [0,1,5] GU))) GV))⟩
theorem OC:B_ Try.prog 123 BW=true:=by kernel_rfl
def Fx:Bq:=⟨[.val BL,.val BL],[⟨4,false,.bool⟩],(.R [.box 2 0 false,.box 3 1 false,.mv 4 .F] [2,3] (.s (.R [.f 5 2 0,.l 6 5,.f 7 3 0,.l 8 7,.b 9 .neq 6 8] [2,3,9] (.cond 9 (.R [.mv 4 .F] [4] .e) .k)) (.s (.R [.f 10 2 1,.l 11 10,.f 12 3 1,.l 13 12,.b 14 .neq 11 13] [2,3,14] (.cond 14 (.R [.mv 4 .F] [4] .e) .k)) (.s (.R [.f 15 2 2,.l 16 15,.f 17 3 2,.l 18 17,.b 19 .neq 16 18] [19] (.cond 19 (.R [.mv 4 .F] [4] .e) .k)) (.R [.mv 4 .V] [4] .e)))))⟩
theorem RR:B_ Try.prog 137 Fx=true:=by kernel_rfl
def H9:AI:=(.s (.R [.m 6 0,.bin 7 .gtr 6 (.i 0)] [0,3,7] (.cond 7 .k (.exit 0))) (.b 1 [0,3] (.R [.m 8 0,.bin 9 .rem 8 (.i 10),.bin 10 .add (.i 48) 9,.cvi 11 .u8 10,.brow 12 5 (.int .u8) [11],.bts 13 12,.m 14 3,.b 15 .add 13 14,.m 3 15] [0,3] (.r [.m 16 0,.bin 17 .quo 16 (.i 10),.m 0 17] [0,3]))))
def H_:AI:=(.R [.m 18 3,.bin 19 .add (.c (.str ⟨#[109]⟩)) 18,.m 2 19] [2] .e)
def Bk:Bq:=⟨[.val .W],[⟨2,false,.str⟩],(.R [.mv 2 (.c (.str ⟨#[]⟩))] [0] (.s (.R [.m 4 0,.bin 5 .leq 4 (.i 0)] [0,5] (.cond 5 (.R [.mv 2 (.c (.str ⟨#[109,48]⟩))] [2] .e) .k)) (.R [.mv 3 (.c (.str ⟨#[]⟩))] [0,3] (.s (.b 0 [3] (.loop [0,3] H9)) H_))))⟩
theorem Pd:B_ Try.prog 141 Bk=true:=by kernel_rfl
def I5:AI:=(.s (.R [.m 8 3,.m 9 0,.len 10 false 9,.b 11 .lss 8 10] [0,3,11] (.cond 11 .k (.exit 0))) (.s (.b 1 [0,3] (.s (.D 16 [(1,[]),(2,[0,1]),(8,[6]),(9,[7,8]),(10,[6]),(11,[6]),(12,[10,11]),(14,[9,13])] (.tk 4 [.l 17 16,.idx 16 1 14 15,.m 15 3,.m 14 0] (.O 4 (.cx (some 18) [17,.c (.int .i64 1),.c (.int .i64 6)] Gp) false [] (.tk 7 [.m 20 19,.un 19 .not 18] (.test 20 (.sk 20 false 8 15 29 (.tk 16 [.pick 29 20 .V 28] .z)) (.tg 20 false 14 [.l 27 26,.idx 26 1 24 25,.m 25 3,.m 24 0,.sl 23 1 21 none (some 22),.m 22 3,.m 21 0] (.only 14 (some (20,false)) (.cl 28 [23,27] Mm) false [] (.tk 16 [.pick 29 20 .V 28] .z))))))) [0,3,29]) (.cond 29 (.R [.mv 2 .F] [2] .e) .k))) (.r [.m 12 3,.bin 13 .add 12 (.i 1),.m 3 13] [0,3])))
def I6:AI:=(.R [.mv 2 .V] [2] .e)
def B8:Bq:=⟨[.val .S],[⟨2,false,.bool⟩],(.R [.mv 2 .F] [0] (.s (.R [.m 4 0,.len 5 false 4,.cx (some 6) [5,.c (.int .i64 1),.c (.int .i64 4)] Gp,.un 7 .not 6] [0,7] (.cond 7 (.R [.mv 2 .F] [2] .e) .k)) (.s (.R [.mv 3 (.i 0)] [0,3] (.b 0 [] (.loop [0,3] I5))) I6)))⟩
theorem Qr:B_ Try.prog 147 B8=true:=by kernel_rfl
def EW:AI:=(.R [.b 9 .lss 8 7] [0,1,7,8,9] (.s (.cond 9 .k (.exit 0)) (.s (.b 1 [0,1,7,8] (.R [.m 10 8,.m 5 10] [0,1,5,7,8] (.R [.m 11 1,.m 12 0,.m 13 5,.idx 14 1 12 13,.l 15 14,.b 16 .eql 11 15] [0,1,5,7,8,16] (.cond 16 (.R [.m 17 5,.m 4 17] [4] .e) .k)))) (.r [.bin 18 .add 8 (.i 1),.m 8 18] [0,1,7,8]))))
def EX:AI:=(.R [.mv 4 (.c (.int .i64 (-1)))] [4] .e)
def Ar:Bq:=⟨[.val .S,.val .W],[⟨4,false,.W⟩],(.R [.mv 4 (.i 0)] [0,1] (.s (.R [.m 6 0,.len 7 false 6,.mv 8 (.i 0)] [0,1,7,8] (.b 0 [] (.loop [0,1,7,8] EW))) EX))⟩
theorem JV:B_ Try.prog 148 Ar=true:=by kernel_rfl
def Fy:Bq:=⟨[.val BF,.val BF],[⟨4,false,.bool⟩],(.R [.box 2 0 false,.box 3 1 false,.mv 4 .F] [2,3] (.s (.R [.f 5 2 0,.l 6 5,.f 7 3 0,.l 8 7,.b 9 .neq 6 8] [2,3,9] (.cond 9 (.R [.mv 4 .F] [4] .e) .k)) (.s (.R [.f 10 2 1,.l 11 10,.f 12 3 1,.l 13 12,.b 14 .neq 11 13] [2,3,14] (.cond 14 (.R [.mv 4 .F] [4] .e) .k)) (.s (.R [.f 15 2 2,.l 16 15,.f 17 3 2,.l 18 17,.b 19 .neq 16 18] [2,3,19] (.cond 19 (.R [.mv 4 .F] [4] .e) .k)) (.s (.R [.f 20 2 3,.l 21 20,.f 22 3 3,.l 23 22,.b 24 .neq 21 23] [2,3,24] (.cond 24 (.R [.mv 4 .F] [4] .e) .k)) (.s (.R [.f 25 2 4,.l 26 25,.f 27 3 4,.l 28 27,.b 29 .neq 26 28] [2,3,29] (.cond 29 (.R [.mv 4 .F] [4] .e) .k)) (.s (.R [.f 30 2 5,.l 31 30,.f 32 3 5,.l 33 32,.b 34 .neq 31 33] [2,3,34] (.cond 34 (.R [.mv 4 .F] [4] .e) .k)) (.s (.R [.f 35 2 6,.l 36 35,.f 37 3 6,.l 38 37,.b 39 .neq 36 38] [2,3,39] (.cond 39 (.R [.mv 4 .F] [4] .e) .k)) (.s (.R [.f 40 2 7,.l 41 40,.f 42 3 7,.l 43 42,.b 44 .neq 41 43] [2,3,44] (.cond 44 (.R [.mv 4 .F] [4] .e) .k)) (.s (.R [.f 45 2 8,.l 46 45,.f 47 3 8,.l 48 47,.b 49 .neq 46 48] [49] (.cond 49 (.R [.mv 4 .F] [4] .e) .k)) (.R [.mv 4 .V] [4] .e)))))))))))⟩
theorem RS:B_ Try.prog 153 Fy=true:=by kernel_rfl
def HQ:AI:=(.s (.R [.m 8 4,.m 9 0,.len 10 false 9,.b 11 .lss 8 10] [0,3,4,11] (.cond 11 .k (.exit 0))) (.s (.b 1 [0,3,4] (.r [.m 14 3,.m 15 4,.m 16 0,.m 17 4,.idx 18 1 16 17,.l 19 18,.cl 20 [19] LL,.idx 21 1 14 15,.store 21 20 1 false] [0,3,4])) (.r [.m 12 4,.bin 13 .add 12 (.i 1),.m 4 13] [0,3,4])))
def HR:AI:=(.R [.m 22 3,.m 2 22] [2] .e)
def BX:Bq:=⟨[.val (.slice .S)],[⟨2,false,(.own 44 (.own 3 .W))⟩],(.R [.mv 2 .z] [0] (.R [.m 5 0,.len 6 false 5,.mk 7 44 (.own 3 .W) 6,.m 3 7] [0,3] (.s (.R [.mv 4 (.i 0)] [0,3,4] (.b 0 [3] (.loop [0,3,4] HQ))) HR)))⟩
theorem OD:B_ Try.prog 2000030 BX=true:=by kernel_rfl
end
end Go.Proofs.Ytffahmnodgnohaa.Core

namespace Go.Proofs.Ytffahmnodgnohaa.Core
open Go Go.Shelf Go.RowKit Go.Lib
variable {P:Program} {ρ:Ren}
set_option maxHeartbeats 2000000 in
set_option maxRecDepth 100000 in
theorem Vx (L:SlLaysE0.n41 P ρ) (i0:TypeInfo) (z:Value) (size bytes:Nat) (hi:P.info? (ρ.t 23)=some i0) (hz0:i0.zero=some z) (hz1:i0.size=size) (hz2:i0.bytes=bytes) (hzs:z.cells.size=size) (hsz:0<size)
  (z23:∀ w,(Go.sizeOf (ρ.t 23)).run P w=.ok size w) (ad:Addr) (n c:Nat) (news:List Value) (w:World) (hl:news.length=n*size) (hn:n<=maxLen) (hbig:n*bytes<=140737488355328)
  (hc:∀ j u,news[j]? = some u->w.cell? (ad.add j)=some u) (h1:∀ u∈news,u.oneCell'=true) :
  Calls P (ρ.f 41) #[.slice (some ad) n c] w fun e w'=>∃ v',e=.returned v'/\w'.ownsRow w.heap.size (ρ.t 23) size v' n news/\w.grownBy w' none:=by
 have mixed:=L.mixed; have t4:=L.t4; have a4:=L.a4; have z4:=L.z4; have v4:=L.v4; have t22:=L.t22; have a22:=L.a22; have z22:=L.z22; have v22:=L.v22
 have q22:∀ (w:World) (a:Option Addr) (n c n' c':Nat),(binOp .eql (ρ.t 22) (.slice a n c) (.slice none n' c')).run P w=.ok (.bool a.isNone) w:=fun w a n c n' c'=>Lib.run_eql_slice_nil w _ _ a n c n' c' L.t22
 have u22:∀ w,Sem.run P (underlying (ρ.t 22)) w=.ok (TypeDesc.slice (ρ.t 23)) w:=run_underlying t22
 have A:Aside (∀ j u,news[j]? = some u->w.cell? (ad.add j)=some u):=hc
 clear hc
 obtain ⟨_,_,FG⟩:=L.f41
 go_enter FG,SlBodyN.n41_ntmps ρ
 go_wp2_with (at_builtin; refine wpList_append_own _ rfl _ _ (ρ.t 22) rfl w.heap.size (ρ.t 23) i0 z size bytes t22 hi hz0 hz1 hz2 hzs hsz _ _ _ rfl (World.ownsRow_made w #[] 0 (Nat.le_refl _) (Nat.zero_le _) (by simp)) ad n c news rfl ?qc1 ?qc2 ?qc3 ?qc4 ?qc5 ?qc6 ?_)
 case qc1=>exact hl
 case qc2 =>
  intro j u hj
  exact Lib.cell?_alloc_some _ (A.out j u hj)
 case qc3=>exact h1
 case qc4=>rw [Nat.zero_add]; exact hn
 case qc5=>rw [Nat.zero_add]; exact hbig
 case qc6=>simp
 intro v' w1 hown hgrow hnil
 go_wp2
 go_ret
 refine ⟨v',rfl,by simpa using hown,⟨hgrow.os,hgrow.tape,hgrow.output,?_,fun k hk _=>?_⟩⟩
 ·have:=hgrow.size
  simp at this
  omega
 ·rw [hgrow.block k (by simp; omega) (by simp [Value.ownBlock]; omega)]
  simp only [World.alloc,Array.getElem?_push]
  rw [if_neg (by omega)]
set_option maxHeartbeats 1000000 in
theorem Uw (L:SlLaysE0.n41 P ρ) (n c:Nat) (w:World) :
  Calls P (ρ.f 41) #[.slice none n c] w fun e w'=>e=.returned (.slice none 0 0)/\w'=w:=by
 have mixed:=L.mixed; have t4:=L.t4; have a4:=L.a4; have z4:=L.z4; have v4:=L.v4; have t22:=L.t22; have a22:=L.a22; have z22:=L.z22; have v22:=L.v22
 have q22:∀ (w:World) (a:Option Addr) (n c n' c':Nat),(binOp .eql (ρ.t 22) (.slice a n c) (.slice none n' c')).run P w=.ok (.bool a.isNone) w:=fun w a n c n' c'=>Lib.run_eql_slice_nil w _ _ a n c n' c' L.t22
 obtain ⟨_,_,FG⟩:=L.f41
 go_enter FG,SlBodyN.n41_ntmps ρ
 go_wp2
 go_ret
 exact ⟨rfl,rfl⟩
theorem UH {α:Type} {c:Prop} [Decidable c] {a b r:α} (h:(if c then a else b)=r):(c/\a=r)\/(¬ c/\b=r):=by
 by_cases hc:c
 ·rw [if_pos hc] at h; exact .inl ⟨hc,h⟩
 ·rw [if_neg hc] at h; exact .inr ⟨hc,h⟩
def Vy (P:Program) (f:Nat) (args bs rs:List AV):Prop :=
 QM P f/\(∀ r∈rs,r.cells.all AV.nilFree=true)/\∃ n,n+bs.length=rs.length /\
  ∀ (H:HP) (φ:As) (w:World) (cargs:List Value),SR H φ (Aw bs args) w->AN (VB H φ (Aw bs args)) (BO (CU bs) args) cargs ->
   Calls P f cargs.toArray w fun out w'=>match out with
    | .returned v=>Hq H φ w args bs (rs.drop n) (rs.take n) v w'
    | _=>False
theorem Vz {H H':HP} {φ φ':As} {w w':World} {args rs:List AV} {v:Value} (h:AG H φ (Aw [] args) w H' φ' (Aw [] rs) w') (hr:XL H' φ' (Aw [] rs) (BO (CU []) rs) v):Hq H φ w args [] [] rs v w':=by
 refine ⟨H',φ',h.le,h.sr,h.fr _ _ _ _ _ ⟨rfl,rfl,rfl,Nat.le_refl _,fun _ _ _=>rfl,fun _ _=>rfl,fun i bi hi _ b hb=>.inr ⟨i,(AK.1 hi).1,hb⟩,fun j hj=>?_,fun _ _ _=>rfl⟩,hr⟩
 simp at hj
theorem V0 {K:Kd} (L:SlLaysE0.n41 P ρ) (he:Uy P (ρ.t 23) K=true) {xs:List K.T} (hx:xs.length<=68719476736):Vy P (ρ.f 41) [.lst K xs] [] [.new (ρ.t 23) K xs]:=by
 obtain ⟨i,z,hi,hz,h1,h2,h3,h4⟩:=MW he
 have hn:xs.length<=maxLen:=by unfold maxLen; omega
 refine ⟨?_,?_,1,rfl,fun H φ w cargs hs ha=>?_⟩
 ·obtain ⟨nm,hnm,hf⟩:=L.f41
  exact ⟨_,_,hf,hnm,rfl⟩
 ·intro r hr
  simp only [Gi] at hr
  subst hr
  rfl
 ·obtain ⟨v,rest,rfl,hv,hrest⟩:=ha
  have hrest:rest=[]:=hrest
  subst hrest
  ··obtain ⟨sl,cap,e,hc,hr⟩:=(show Ib (CW H K) K.sz H xs v from hv)
    subst e
    have fin:∀ (v':Value) (w':World) (flat:List Value),w'.ownsRow w.heap.size (ρ.t 23) K.sz v' xs.length flat->CX H K xs flat->w.grownBy w' none->Hq H φ w [.lst K xs] [] [] [.new (ρ.t 23) K xs] v' w':=by
     intro v' w' flat ho hrr hg
     have hst:=O_ (st:=Aw [] [.lst K xs]) hs hg ho hrr
     refine Vz (rs:=[.new (ρ.t 23) K xs]) hst ?_
     exact ⟨(U2 ho).symm,rfl⟩
    cases sl with
    | none =>
     have:xs=[]:=by
      rcases hr with h | ⟨_,_,_,_,_,h,_⟩
      ·exact h
      ·cases h
     subst this
     refine Calls.mono (Uw L _ _ w) fun out w' h=>?_
     obtain ⟨rfl,rfl⟩:=h
     exact fin _ _ [] ⟨by simp,.inl ⟨rfl,rfl⟩⟩ (fun j x h=>by simp at h) ⟨rfl,rfl,rfl,Nat.le_refl _,fun _ _ _=>rfl⟩
    | some ad =>
     obtain ⟨sl2,cap2,flat,e2,_,hl,hrr,hcl⟩:=Ri hs.hp (show Ib (CW H K) K.sz H xs (.slice (some ad) xs.length cap) from ⟨some ad,cap,rfl,hc,hr⟩)
     cases e2
     refine Calls.mono (Vx L i z K.sz i.bytes hi hz h1 rfl h3 (Kd.sz_pos K) (fun w=>by simp [sizeOf,typeInfo,hi,h1]) ad xs.length cap flat w hl hn (Nat.le_trans (Nat.mul_le_mul hx h2) (by omega)) ?_ (J6 hrr hl)) fun out w' h=>?_
     ·intro j u hj
      rcases hcl with rfl | ⟨b,off,c,el,fz,ea,hb,hcc⟩
      ·have:flat=[]:=Cn.1 (by rw [hl]; simp)
       rw [this] at hj
       simp at hj
      ·cases ea
       rw [Addr.add_none]
       have:=hs.hp _ _ hb
       have h5:=hcc j u hj
       simp only [World.cell?,this]
       simpa using h5
     ·obtain ⟨v',rfl,ho,hg⟩:=h
      exact fin v' w' flat ho hrr hg

structure YH (P:Program) (ρ:Ren):Prop where
 mixed:P.follows .mixedOrders=true
 f22:Bears P (ρ.f 22) (Body2.n22 ρ)
 ov:∀ args w,(callFunc (ρ.f 29) args).run P w=((Extern.SlicesOverlaps.overlaps #[(ρ.t 24),(ρ.t 24)] #[(ρ.t 4)] args).run P w).andThen fun v w'=>.ok (.value v) w'
 t3:P.underlying (ρ.t 3)=some (TypeDesc.int IntKind.i64)
 a3:∀ w,(isAgg (ρ.t 3)).run P w=.ok false w
 z3:∀ w,(Go.sizeOf (ρ.t 3)).run P w=.ok 1 w
 v3:∀ w,(zeroValue (ρ.t 3)).run P w=.ok (Value.int IntKind.i64 0) w
 t4:P.underlying (ρ.t 4)=some (TypeDesc.bool)
 a4:∀ w,(isAgg (ρ.t 4)).run P w=.ok false w
 z4:∀ w,(Go.sizeOf (ρ.t 4)).run P w=.ok 1 w
 v4:∀ w,(zeroValue (ρ.t 4)).run P w=.ok (Value.bool false) w
 t24:P.underlying (ρ.t 24)=some (TypeDesc.slice (ρ.t 9))
 a24:∀ w,(isAgg (ρ.t 24)).run P w=.ok false w
 z24:∀ w,(Go.sizeOf (ρ.t 24)).run P w=.ok 1 w
 v24:∀ w,(zeroValue (ρ.t 24)).run P w=.ok (Value.slice none 0 0) w
def TB (t:TypeId) (K:Kd) (args bs:List AV):Option (List AV) :=
 match args,bs with
 | [.lst K' xs],[]=>if h:K'=K then (if xs.length<=68719476736 then some [.new t K (h▸xs)] else none) else none
 | _,_=>none
theorem V1 {t:TypeId} {K:Kd} {xs:List K.T} (h:xs.length<=68719476736):TB t K [.lst K xs] []=some [.new t K xs]:=by simp [TB,h]
theorem V2 {K:Kd} (L:SlLaysE0.n41 P ρ) (he:Uy P (ρ.t 23) K=true) {args bs rs:List AV} (h:TB (ρ.t 23) K args bs=some rs):Vy P (ρ.f 41) args bs rs:=by
 unfold TB at h
 split at h
 ·split at h
  ·rename_i hk
   subst hk
   split at h
   ·cases h
    exact V0 L he (by assumption)
   ·cases h
  ·cases h
 ·cases h

structure YI (P:Program) (g:Nat):Prop where
 eg:∀ args w,(callFunc g args).run P w=.ok (.enter g args) w
 says:∀ (n x:Int) (b o:Nat) (W:World),W.cell? ⟨b,o,none⟩=some (.int .i64 n) ->
  Calls P g #[.int .i64 x,.pointer (some ⟨b,o,none⟩)] W fun e w'=>e=.returned (.bool (x==n))/\∃ q,w'=W.drewN q
end Go.Proofs.Ytffahmnodgnohaa.Core

namespace Go.Proofs.Ytffahmnodgnohaa.Core
open Go IntKind
set_option maxRecDepth 100000
noncomputable section
def Wu:Go.Shelf.Ren:=⟨fun | 41=>152 | n=>n,fun | 22=>44 | 23=>3 | n=>n,fun | n=>n⟩
theorem V3:SlLaysE0.n41 Try.prog Wu:={
 mixed:=by kernel_rfl
 f41:=⟨Try.f152.name,by decide,Try.func152.trans (congrArg some (by kernel_rfl))⟩
 t4:=Try.underlying4
 a4:=Try.isAgg4
 z4:=Try.sizeOf4
 v4:=Try.zeroValue4
 t22:=Try.underlying44
 a22:=Try.isAgg44
 z22:=Try.sizeOf44
 v22:=Try.zeroValue44 }
theorem XX:Uy Try.prog 3 (.int .i64)=true:=by kernel_rfl

def Xn:List (Nat×Bq):=[(8,AY),(16,Gq),(28,Bz),(29,CO),(30,B3),(31,CP),(32,Eb),(33,B4),(34,BP),(42,Be),(43,Bf),(44,E5),(45,D7),(46,D8),(67,B5),(76,BQ),(77,BR),(80,Gr),(82,E6),(83,Fu),(88,Fv),(89,B6),(90,Cr),(91,CJ),(92,Ax),(93,Bp),(94,CK),(95,Fw),(96,Bg),(98,Bh),(112,BE),(113,BS),(114,BT),(115,CL),(116,B7),(117,BI),(118,Bi),(119,BU),(120,BV),(121,BJ),(122,Bj),(123,BW),(137,Fx),(141,Bk),(147,B8),(148,Ar),(153,Fy),(2000030,BX)]
def Kq (f:Nat):Option Bq:=Wt f Xn
theorem X_:Vm Try.prog Kq:=Uu (.cons JU <| .cons ST <| .cons Qi <| .cons N2 <| .cons Qj <| .cons N3 <| .cons PW <| .cons Qk <| .cons N4 <| .cons PX <| .cons PY <| .cons Ql <| .cons N5 <| .cons N6 <| .cons Qm <| .cons N7 <| .cons N8 <| .cons SU <| .cons Qn <| .cons RL <| .cons RM <| .cons Qo <| .cons SV <| .cons RN <| .cons Qp <| .cons Hg <| .cons RO <| .cons RP <| .cons PZ <| .cons Pa <| .cons Kp <| .cons N9 <| .cons N_ <| .cons RQ <| .cons Qq <| .cons Lh <| .cons Pb <| .cons OA <| .cons OB <| .cons Li <| .cons Pc <| .cons OC <| .cons RR <| .cons Pd <| .cons Qr <| .cons JV <| .cons RS <| .cons OD .nil)
def Cs:Cg:=fun f args bs=>if f=152 then TB 3 .W args bs else none
theorem Wv:DK Try.prog Cs:=by
 refine ⟨fun f k t T hf h=>?_,fun f args bs rs hf h=>?_⟩<;>unfold Cs at h
 ·rcases UH h with ⟨e,h⟩ | ⟨_,h⟩
  ·exfalso; unfold Bn at e; omega
  cases h
 ·rcases UH h with ⟨e,h⟩ | ⟨_,h⟩
  ·subst e; exact V2 V3 XX h
  cases h
abbrev cP:Cg:=SQ Kq Cs
def cG {ρ:Type} (c:AI) (kn kr:St->Option ρ) (ke:Nat->St->Option ρ):St->Option ρ:=DA cP Eu c kn kr ke
def lG {ρ:Type} (c:AI) (hs:List (Nat×Nat)) (l:List Nat) (n:Nat) (kr:St->Option ρ) (ke:Nat->St->Option ρ):St->Option ρ:=Eu fun go s'=>DA cP Eu c (fun s''=>go (s''.cutH hs l n)) kr ke s'
def kB {ρ:Type} (hs:List (Nat×Nat)) (l:List Nat) (n:Nat) (kn:St->Option ρ):St->Option ρ:=fun s=>kn (s.cutH hs l n)
def kE {ρ:Type} (b:Nat) (hs:List (Nat×Nat)) (l:List Nat) (n:Nat) (kn:St->Option ρ) (ke:Nat->St->Option ρ):Nat->St->Option ρ:=fun i s=>if i=b then kn (s.cutH hs l n) else ke i s
def kx {ρ:Type}:Nat->St->Option ρ:=fun _ _=>none
def cF (f:Nat) (a:Bq) (x b:List AV):Option (RT a.outs):=(cP f x b).bind (CS a.outs)
theorem cT (a:Bq) {f:Nat} {x b:List AV} {t:Option (RT a.outs)} {r:RT a.outs} (hf:Kq f=some a) (hl:x.length=a.params.length/\b.length=(Bx a.params 0).length) (e:Vu cP a x b=t) (h:t=some r):cF f a x b=some r:=Tj hf hl (e.trans h)
theorem jS {ρ:Type} {t w:Option ρ} {r:ρ} (e:w=t) (h:t=some r):w=some r:=e.trans h
theorem lS {ρ:Type} {c:AI} {hs:List (Nat×Nat)} {l:List Nat} {n:Nat} {kr:St->Option ρ} {ke:Nat->St->Option ρ} {s:St} {t:Option ρ} {r:ρ} (e:DA cP Eu c (fun s=>lG c hs l n kr ke (s.cutH hs l n)) kr ke s=t) (h:t=some r):lG c hs l n kr ke s=some r:=Ur (e.trans h)
def E7 (x0:List (List Int)):Option Bool:=cF 8 AY [.lst .S x0] []
def JW (x0 x1:BH):Option Bool:=cF 16 Gq [.agg (Du.enc x0),.agg (Du.enc x1)] []
def HS (x0:List (List Int)) (x1:Int):Option Int:=cF 28 Bz [.lst .S x0,.int .i64 x1] []
def Fd (x0:Int) (x1:List (List Int)):Option (AD×Bool):=cF 29 CO [.int .i64 x0,.lst .S x1] []
def Dv (x0:List (List Int)):Option (List (List Int)):=cF 30 B3 [.lst .S x0] []
def Fe (x0:Int) (x1:List (List Int)):Option (AD×Bool):=cF 31 CP [.int .i64 x0,.lst .S x1] []
def GI (x0 x1:AD):Option Bool:=cF 32 Eb [.agg (AZ.enc x0),.agg (AZ.enc x1)] []
def E8 (x0 x1:List (List Int)):Option Bool:=cF 33 B4 [.lst .S x0,.lst .S x1] []
def DB (x1:Int) (b0:List (List Int)):Option (Int×List (List Int)):=cF 34 BP [.row 0,.int .i64 x1] [.new 44 (.own 3 .W) b0]
def Ec (x0:List (List Int)):Option (Ch×Bool):=cF 42 Be [.lst .S x0] []
def DV (x0:List (List Int)):Option (Ch×Bool):=cF 43 Bf [.lst .S x0] []
def Dw (x0 x1:Ch):Option Bool:=cF 44 E5 [.agg (Cq.enc x0),.agg (Cq.enc x1)] []
def Ff (x1:Int) (b0:List (List Int)) (b1:List AD) (b2:List BH) (b3:List Ac):Option (Int×List (List Int)×List AD×List BH×List Ac):=cF 45 D7 [.agg [.row 0,.row 1,.row 2,.row 3],.int .i64 x1] [.new 44 (.own 3 .W) b0,.new 53 Ab b1,.new 30 CA b2,.new 186 BF b3]
def D9 (x0:Ch) (x1:Int):Option Int:=cF 46 D8 [.agg (Cq.enc x0),.int .i64 x1] []
def E9 (x0 x1:List J):Option Bool:=cF 67 B5 [.lst BL x0,.lst BL x1] []
def CQ (x1:Int) (b0:List J):Option (Int×List J):=cF 76 BQ [.row 0,.int .i64 x1] [.new 49 BL b0]
def CR (x0:List J) (x1:Int):Option Int:=cF 77 BR [.lst BL x0,.int .i64 x1] []
def D_ (x0 x1 x2:Int):Option Bool:=cF 80 Gr [.int .i64 x0,.int .i64 x1,.int .i64 x2] []
def Dx (x0 x1 x2:Int):Option Bool:=cF 82 E6 [.int .i64 x0,.int .i64 x1,.int .i64 x2] []
def Fz (x0:Int):Option Bool:=cF 83 Fu [.int .i64 x0] []
def IR (x0:List Int) (x1:Int):Option Int:=cF 88 Fv [.lst .W x0,.int .i64 x1] []
def Dy (x0:List (List Int)):Option Bool:=cF 89 B6 [.lst .S x0] []
def Gs (x0:List Int) (x1:Int):Option Bool:=cF 90 Cr [.lst .W x0,.int .i64 x1] []
def F0 (x0:List Int):Option (List Int):=cF 91 CJ [.lst .W x0] []
def E_ (x0:List (List Int)):Option Bool:=cF 92 Ax [.lst .S x0] []
def Cm (x0:List Int) (x1:Int):Option Bool:=cF 93 Bp [.lst .W x0,.int .i64 x1] []
def EY (x0 x1:List Int):Option Bool:=cF 94 CK [.lst .W x0,.lst .W x1] []
def IS (x0 x1:Vw):Option Bool:=cF 95 Fw [.agg (KE.enc x0),.agg (KE.enc x1)] []
def BM (x1:Int) (b0:List Int):Option (Int×List Int):=cF 96 Bg [.row 0,.int .i64 x1] [.new 3 .W b0]
def Bl (x0:List Int) (x1:Int):Option Int:=cF 98 Bh [.lst .W x0,.int .i64 x1] []
def EO (x0:List (List Int)):Option (List (List Int)):=cF 112 BE [.lst .S x0] []
def Fg (x0:List (List Int)):Option (List (List Int)):=cF 113 BS [.lst .S x0] []
def Fh (x0 x1:List AD):Option Bool:=cF 114 BT [.lst AZ x0,.lst AZ x1] []
def IT (x0 x1:List BH):Option Bool:=cF 115 CL [.lst Du x0,.lst Du x1] []
def HT (x0 x1:List Ac):Option Bool:=cF 116 B7 [.lst BF x0,.lst BF x1] []
def Eg (x1:Int) (b0:List AD):Option (Int×List AD):=cF 117 BI [.row 0,.int .i64 x1] [.new 53 Ab b0]
def GJ (x1:Int) (b0:List BH):Option (Int×List BH):=cF 118 Bi [.row 0,.int .i64 x1] [.new 30 CA b0]
def Fi (x1:Int) (b0:List Ac):Option (Int×List Ac):=cF 119 BU [.row 0,.int .i64 x1] [.new 186 BF b0]
def Fj (x0:List (List Int)) (x1:Int):Option Int:=cF 120 BV [.lst .S x0,.int .i64 x1] []
def Eh (x0:List AD) (x1:Int):Option Int:=cF 121 BJ [.lst AZ x0,.int .i64 x1] []
def GK (x0:List BH) (x1:Int):Option Int:=cF 122 Bj [.lst Du x0,.int .i64 x1] []
def Fk (x0:List Ac) (x1:Int):Option Int:=cF 123 BW [.lst BF x0,.int .i64 x1] []
def F3 (x0 x1:J):Option Bool:=cF 137 Fx [.agg (BL.enc x0),.agg (BL.enc x1)] []
def AQ (x0:Int):Option ByteArray:=cF 141 Bk [.int .i64 x0] []
def HU (x0:List Int):Option Bool:=cF 147 B8 [.lst .W x0] []
def Bb (x0:List Int) (x1:Int):Option Int:=cF 148 Ar [.lst .W x0,.int .i64 x1] []
def IU (x0 x1:Ac):Option Bool:=cF 153 Fy [.agg (BF.enc x0),.agg (BF.enc x1)] []
def Fl (x0:List (List Int)):Option (List (List Int)):=cF 2000030 BX [.lst .S x0] []
def DL (q0:List Int):Option (List Int):=(cP 152 [.lst .W q0] []).bind (CS [(.own 3 .W)])
theorem JX {x0:List Int} (h:x0.length<=68719476736):DL x0=some x0:=by
 unfold DL cP
 rw [Us (r:=[.new 3 .W x0]) rfl (V1 (t:=3) (K:=.W) (xs:=x0) h)]
 rfl

def EG (x0:Int) (x1:Bool) (x2:Ch) (x3 x4:List (List Int)) (x5:List AD) (x6:List BH) (x7:List Ac) (x8:List (List Int)) (x9:List AD) (x10:List BH) (x11:List Ac):Option Bool:=cG ED (AT AY) (AT AY) kx ⟨[(7,.ptr 10 0),(10,.int .i64 x0),(87,.bool x1)],[.var (Cq.enc x2),.rows 44 (.own 3 .W) x3,.dead,.dead,.dead,.dead,.rows 44 (.own 3 .W) x4,.rows 53 Ab x5,.rows 30 CA x6,.rows 186 BF x7,.var [.row 6,.row 7,.row 8,.row 9],.dead,.dead,.dead,.dead,.rows 44 (.own 3 .W) x8,.rows 53 Ab x9,.rows 30 CA x10,.rows 186 BF x11,.var [.row 15,.row 16,.row 17,.row 18]]⟩
def EH (x0:List (List Int)) (x1 x2:Bool) (x3:Ch) (x4 x5:List (List Int)) (x6:List AD) (x7:List BH) (x8:List Ac):Option Bool:=cG EE (AT AY) (AT AY) kx ⟨[(0,.lst .S x0),(4,.ptr 0 0),(5,.bool x1),(7,.ptr 10 0),(61,.bool x2)],[.var (Cq.enc x3),.rows 44 (.own 3 .W) x4,.dead,.dead,.dead,.dead,.rows 44 (.own 3 .W) x5,.rows 53 Ab x6,.rows 30 CA x7,.rows 186 BF x8,.var [.row 6,.row 7,.row 8,.row 9]]⟩
def EI (x0:List (List Int)) (x1 x2 x3:Bool) (x4:Ch) (x5 x6:List (List Int)) (x7:List AD) (x8:List BH) (x9:List Ac):Option Bool:=cG EF (AT AY) (AT AY) kx ⟨[(0,.lst .S x0),(4,.ptr 0 0),(5,.bool x1),(6,.row 1),(7,.ptr 10 0),(8,.bool x2),(40,.bool x3)],[.var (Cq.enc x4),.rows 44 (.own 3 .W) x5,.dead,.dead,.dead,.dead,.rows 44 (.own 3 .W) x6,.rows 53 Ab x7,.rows 30 CA x8,.rows 186 BF x9,.var [.row 6,.row 7,.row 8,.row 9]]⟩
def EJ (x0:Int) (x1:Bool) (x2:Ch) (x3 x4:List (List Int)) (x5:List AD) (x6:List BH) (x7:List Ac) (x8:List (List Int)) (x9:List AD) (x10:List BH) (x11:List Ac):Option Bool:=((D9 (x4,x5,x6,x7) 1).bind fun y16=>(if (decide (y16<0))=true then (some false) else (if (y16 != x0)=true then (some false) else (some true))))
def EK (x0:List (List Int)) (x1 x2:Bool) (x3:Ch) (x4 x5:List (List Int)) (x6:List AD) (x7:List BH) (x8:List Ac):Option Bool:=((Ff 1 x5 x6 x7 x8).bind fun y11=>((D9 y11.2 1).bind fun y12=>(if (decide (y12<0))=true then (some false) else (if (y12 != y11.1)=true then (some false) else ((Dv x0).bind fun y13=>((DV y13).bind fun y14=>((Dw y14.1 x3).bind fun y15=>(if (!y15)=false then (if (true != Jd .bool y14.2 x1)=true then (some false) else (EG y11.1 (true != Jd .bool y14.2 x1) x3 x4 y11.2.1 y11.2.2.1 y11.2.2.2.1 y11.2.2.2.2 y14.1.1 y14.1.2.1 y14.1.2.2.1 y14.1.2.2.2)) else (some false)))))))))
def EL (x0:List (List Int)) (x1 x2 x3:Bool) (x4:Ch) (x5 x6:List (List Int)) (x7:List AD) (x8:List BH) (x9:List Ac):Option Bool:=((Dv x0).bind fun y7=>((E8 x5 y7).bind fun y8=>(if (!y8)=true then (some false) else ((DB 1 x5).bind fun y9=>(if (decide (y9.1<0))=false then ((Dw (x6,x7,x8,x9) x4).bind fun y10=>(if (!y10)=false then (if (true != Jd .bool x2 x1)=true then (some false) else (EH x0 x1 (true != Jd .bool x2 x1) x4 y9.2 x6 x7 x8 x9)) else (some false))) else (some false))))))
def FA (x0:List (List Int)):Option Bool:=((HS x0 1048576).bind fun y1=>(if (decide (y1<0))=true then (some true) else ((Dv x0).bind fun y2=>((Ec y2).bind fun y3=>((Fl x0).bind fun y4=>((DV y4).bind fun y5=>((Dw y5.1 y3.1).bind fun y6=>(if (!y6)=false then (if (true != Jd .bool y5.2 y3.2)=true then (some false) else (EI x0 y3.2 y5.2 (true != Jd .bool y5.2 y3.2) y3.1 y4 y5.1.1 y5.1.2.1 y5.1.2.2.1 y5.1.2.2.2)) else (some false)))))))))
theorem Hh:X8 EJ EG:=jS (by kernel_rfl)
theorem Hi:YG EK EH:=jS (by kernel_rfl)
theorem Hj:X6 EL EI:=jS (by kernel_rfl)
theorem JY:Uv FA E7:=cT AY rfl ⟨rfl,rfl⟩ (by kernel_rfl)
def Mn (x0 x1:BH):Option Bool:=(if (x0.1 != x1.1)=true then (some false) else (if (x0.2.1 != x1.2.1)=true then (some false) else (if (x0.2.2.1 != x1.2.2.1)=true then (some false) else (if (x0.2.2.2.1 != x1.2.2.2.1)=true then (some false) else (if (x0.2.2.2.2.1 != x1.2.2.2.2.1)=true then (some false) else ((E9 x0.2.2.2.2.2 x1.2.2.2.2.2).bind fun y1=>(if (!y1)=true then (some false) else (some true))))))))
theorem SW:KJ Mn JW:=cT Gq rfl ⟨rfl,rfl⟩ (by kernel_rfl)
def OE:=cG It (AT Bz) (AT Bz) kx
def OF:=kE 0 [] [1] 0 OE kx
def Mo:St->Option (RT (Bq.outs Bz)):=lG Is [] [0,1,5] 0 (AT Bz) OF
def Df (x0:List (List Int)) (x1 x2:Int):Option Int:=Mo ⟨[(0,.lst .S x0),(1,.int .i64 x1),(5,.int .i64 x2)],[]⟩
def Dg (x0:List (List Int)) (x1 x2:Int):Option Int:=(if (decide (x2<(x0.length:Int)))=true then (if 0<=x2 then (if x2<(x0.length:Int) then ((IR (x0.getD x2.toNat ([]:List Int)) x1).bind fun y1=>(if (decide (y1<0))=true then (some (-1:Int)) else (Df x0 y1 (i64.wrap (x2+1))))) else none) else none) else (some x1))
def HV (x0:List (List Int)) (x1:Int):Option Int:=(if (decide ((i64.wrap (x1-(x0.length:Int)))<0))=true then (some (-1:Int)) else (Df x0 (i64.wrap (x1-(x0.length:Int))) 0))
theorem FB:PL Dg Df:=lS (by kernel_rfl)
theorem KM:KJ HV HS:=cT Bz rfl ⟨rfl,rfl⟩ (by kernel_rfl)
def GW (x0:Int) (x1:List (List Int)) (x2:Bool) (x3:AD):Option (AD×Bool):=cG HA (AT CO) (AT CO) kx ⟨[(0,.int .i64 x0),(1,.lst .S x1),(4,.ptr 0 0),(14,.bool x2)],[.var (AZ.enc x3)]⟩
def GX (x0:Int) (x1:List (List Int)) (x2:Bool) (x3:AD):Option (AD×Bool):=(if 0<=(0:Int) then (if 0<(x1.length:Int) then ((Gs (x1.getD (0:Int).toNat ([]:List Int)) x0).bind fun y3=>(if 0<=(0:Int) then (if 0<(x1.length:Int) then (if 0<=(0:Int) then (if 0<((x1.getD (0:Int).toNat ([]:List Int)).length:Int) then (some ((x0,1,false,y3,(((x1.getD (0:Int).toNat ([]:List Int)).getD (0:Int).toNat 0)==x0),(((x1.getD (0:Int).toNat ([]:List Int)).getD (0:Int).toNat 0)==x0),([]:List Int),([]:List J),0,0,0,0,(E,E,0),([]:List Int)),true)) else none) else none) else none) else none)) else none) else none)
def I7 (x0:Int) (x1:List (List Int)):Option (AD×Bool):=((Dy x1).bind fun y1=>(if (!y1)=false then ((D_ x0 1 6).bind fun y2=>(if (!y2)=true then (some ((0,0,false,false,false,false,([]:List Int),([]:List J),0,0,0,0,(E,E,0),([]:List Int)),false)) else (GW x0 x1 (!y2) (0,0,false,false,false,false,([]:List Int),([]:List J),0,0,0,0,(E,E,0),([]:List Int))))) else (some ((0,0,false,false,false,false,([]:List Int),([]:List J),0,0,0,0,(E,E,0),([]:List Int)),false))))
theorem Kr:X4 GX GW:=jS (by kernel_rfl)
theorem OG:KJ I7 Fd:=cT CO rfl ⟨rfl,rfl⟩ (by kernel_rfl)
def OH:=cG Iv (AT B3) (AT B3) kx
def OI:=kE 0 [(3,0)] [3] 1 OH kx
def Mp:St->Option (RT (Bq.outs B3)):=lG Iu [(3,0)] [0,3,4] 1 (AT B3) OI
def Dh (x0:List (List Int)) (x1:Int) (x2:List (List Int)):Option (List (List Int)):=Mp ⟨[(0,.lst .S x0),(3,.row 0),(4,.int .i64 x1)],[.rows 44 .S x2]⟩
def Mq (x0:List (List Int)) (x1:Int) (x2:List (List Int)):Option (List (List Int)):=(if (decide (x1<(x0.length:Int)))=true then (if 0<=x1 then (if x1<(x0.length:Int) then ((F0 (x0.getD x1.toNat ([]:List Int))).bind fun y1=>(if 0<=x1 then (if x1<(x2.length:Int) then (let z2:List (List Int):=x2.set x1.toNat y1; (Dh x0 (i64.wrap (x1+1)) z2)) else none) else none)) else none) else none) else (some x2))
def Qs (x0:List (List Int)):Option (List (List Int)):=(if 0<=(x0.length:Int) then (if (x0.length:Int)<=68719476736 then (Dh x0 0 (List.replicate (x0.length:Int).toNat ([]:List Int))) else none) else none)
theorem Mr:PL Mq Dh:=lS (by kernel_rfl)
theorem Qt:Uv Qs Dv:=cT B3 rfl ⟨rfl,rfl⟩ (by kernel_rfl)
def GY (x0:Int) (x1:List (List Int)) (x2:Bool) (x3:List Int) (x4:List J) (x5:List Int) (x6 x7:Int) (x8 x9 x10 x11:Bool) (x12 x13 x14 x15:Int) (x16 x17:ByteArray) (x18:Int):Option (AD×Bool):=cG HB (AT CP) (AT CP) kx ⟨[(0,.int .i64 x0),(1,.lst .S x1),(4,.ptr 3 0),(14,.bool x2)],[.rows 3 .W x3,.rows 49 BL x4,.rows 3 .W x5,.var [.int .i64 x6,.int .i64 x7,.bool x8,.bool x9,.bool x10,.bool x11,.row 0,.row 1,.int .i64 x12,.int .i64 x13,.int .i64 x14,.int .i64 x15,.str x16,.str x17,.int .i64 x18,.row 2]]⟩
def GZ (x0:Int) (x1:List (List Int)) (x2:Bool) (x3:List Int) (x4:List J) (x5:List Int) (x6 x7:Int) (x8 x9 x10 x11:Bool) (x12 x13 x14 x15:Int) (x16 x17:ByteArray) (x18:Int):Option (AD×Bool):=(if 0<=(0:Int) then (if 0<(x1.length:Int) then (if 0<=(0:Int) then (if 0<((x1.getD (0:Int).toNat ([]:List Int)).length:Int) then (if 0<=(0:Int) then (if 0<(x1.length:Int) then ((Cm (x1.getD (0:Int).toNat ([]:List Int)) x0).bind fun y3=>(some ((x0,1,false,y3,(((x1.getD (0:Int).toNat ([]:List Int)).getD (0:Int).toNat 0)==x0),(((x1.getD (0:Int).toNat ([]:List Int)).getD (0:Int).toNat 0)==x0),([]:List Int),([]:List J),0,0,0,0,(E,E,0),([]:List Int)),true))) else none) else none) else none) else none) else none) else none)
def I8 (x0:Int) (x1:List (List Int)):Option (AD×Bool):=((Fz x0).bind fun y1=>(if (!y1)=false then ((E_ x1).bind fun y2=>(if (!y2)=true then (some ((0,0,false,false,false,false,([]:List Int),([]:List J),0,0,0,0,(E,E,0),([]:List Int)),false)) else (GY x0 x1 (!y2) ([]:List Int) ([]:List J) ([]:List Int) 0 0 false false false false 0 0 0 0 E E 0))) else (some ((0,0,false,false,false,false,([]:List Int),([]:List J),0,0,0,0,(E,E,0),([]:List Int)),false))))
theorem Kt:X9 GZ GY:=jS (by kernel_rfl)
theorem OJ:KJ I8 Fe:=cT CP rfl ⟨rfl,rfl⟩ (by kernel_rfl)
def Jo (x0 x1:AD):Option Bool:=(if (x0.1 != x1.1)=true then (some false) else (if (x0.2.1 != x1.2.1)=true then (some false) else (if (true != Jd .bool x0.2.2.1 x1.2.2.1)=true then (some false) else (if (true != Jd .bool x0.2.2.2.1 x1.2.2.2.1)=true then (some false) else (if (true != Jd .bool x0.2.2.2.2.1 x1.2.2.2.2.1)=true then (some false) else (if (true != Jd .bool x0.2.2.2.2.2.1 x1.2.2.2.2.2.1)=true then (some false) else ((EY x0.2.2.2.2.2.2.1 x1.2.2.2.2.2.2.1).bind fun y1=>(if (!y1)=true then (some false) else ((E9 x0.2.2.2.2.2.2.2.1 x1.2.2.2.2.2.2.2.1).bind fun y2=>(if (!y2)=true then (some false) else (if (x0.2.2.2.2.2.2.2.2.1 != x1.2.2.2.2.2.2.2.2.1)=true then (some false) else ((IS x0.2.2.2.2.2.2.2.2.2 x1.2.2.2.2.2.2.2.2.2).bind fun y3=>(if (!y3)=true then (some false) else (some true))))))))))))))
theorem Pe:KJ Jo GI:=cT Eb rfl ⟨rfl,rfl⟩ (by kernel_rfl)
def OK:=cG Ix (AT B4) (AT B4) kx
def OL:=kE 0 [] [] 0 OK kx
def Ms:St->Option (RT (Bq.outs B4)):=lG Iw [] [0,1,5] 0 (AT B4) OL
def Di (x0 x1:List (List Int)) (x2:Int):Option Bool:=Ms ⟨[(0,.lst .S x0),(1,.lst .S x1),(5,.int .i64 x2)],[]⟩
def Mt (x0 x1:List (List Int)) (x2:Int):Option Bool:=(if (decide (x2<(x0.length:Int)))=true then (if 0<=x2 then (if x2<(x0.length:Int) then (if 0<=x2 then (if x2<(x1.length:Int) then ((EY (x0.getD x2.toNat ([]:List Int)) (x1.getD x2.toNat ([]:List Int))).bind fun y1=>(if (!y1)=true then (some false) else (Di x0 x1 (i64.wrap (x2+1))))) else none) else none) else none) else none) else (some true))
def Qu (x0 x1:List (List Int)):Option Bool:=(if ((x0.length:Int) != (x1.length:Int))=true then (some false) else (Di x0 x1 0))
theorem Mu:PL Mt Di:=lS (by kernel_rfl)
theorem Qv:KJ Qu E8:=cT B4 rfl ⟨rfl,rfl⟩ (by kernel_rfl)
def Lj:=cG HD (AT BP) (AT BP) kx
def Lk:=kE 0 [] [1] 1 Lj kx
def Ku:St->Option (RT (Bq.outs BP)):=lG HC [(0,0)] [0,1,5] 1 (AT BP) Lk
def CD (x0 x1:Int) (x2:List (List Int)):Option (Int×List (List Int)):=Ku ⟨[(0,.row 0),(1,.int .i64 x0),(5,.int .i64 x1)],[.mrow 44 (.own 3 .W) x2]⟩
def CE (x0 x1:Int) (x2:List (List Int)):Option (Int×List (List Int)):=(if (decide (x1<(x2.length:Int)))=true then (if 0<=x1 then (if x1<(x2.length:Int) then ((BM x0 (x2.getD x1.toNat ([]:List Int))).bind fun y1=>(let z2:List (List Int):=x2.set x1.toNat y1.2; (CD y1.1 (i64.wrap (x1+1)) z2))) else none) else none) else (some (x0,x2)))
def I9 (x1:Int) (b0:List (List Int)):Option (Int×List (List Int)):=(CD x1 0 b0)
theorem C0:PL CE CD:=lS (by kernel_rfl)
theorem I_:KJ I9 DB:=cT BP rfl ⟨rfl,rfl⟩ (by kernel_rfl)
def Mv:=cG Hu (AT Be) (AT Be) kx
def Mw:=kE 0 [] [2,4] 4 Mv kx
def Ll:St->Option (RT (Bq.outs Be)):=lG Ht [] [0,2,4,5] 4 (AT Be) Mw
def Cc (x0:List (List Int)) (x1:Int) (x2:List AD) (x3:List (List Int)) (x4:List BH) (x5:List Ac) (x6:List AD) (x7:List (List Int)):Option (Ch×Bool):=Ll ⟨[(0,.lst .S x0),(2,.ptr 1 0),(4,.ptr 3 0),(5,.int .i64 x1)],[.rows 53 AZ x2,.var [.lst .S x3,.row 0,.lst Du x4,.lst BF x5],.rows 53 AZ x6,.var [.lst .S x7,.row 2,.nil,.nil]]⟩
def Ei (x0:List (List Int)) (x1:Int) (x2:List AD) (x3:List (List Int)) (x4:List BH) (x5:List Ac) (x6:List AD) (x7:List (List Int)):Option (Ch×Bool):=(if (decide (x1<=6))=true then ((Fd x1 x0).bind fun y3=>(if x6.length+([y3.1]:List AD).length<=68719476736 then (Cc x0 (i64.wrap (x1+1)) x2 x3 x4 x5 (x6++([y3.1]:List AD)) x7) else none)) else (some ((x7,x6,[],[]),true)))
def GL (x0:List (List Int)):Option (Ch×Bool):=((Dy x0).bind fun y1=>(if (!y1)=true then (some (([],([]:List AD),[],[]),false)) else ((EO x0).bind fun y2=>(Cc x0 1 ([]:List AD) ([]:List (List Int)) ([]:List BH) ([]:List Ac) ([]:List AD) y2))))
theorem HW:YC Ei Cc:=lS (by kernel_rfl)
theorem Jp:Uv GL Ec:=cT Be rfl ⟨rfl,rfl⟩ (by kernel_rfl)
def Mx:=cG Hw (AT Bf) (AT Bf) kx
def My:=kE 0 [] [2,4] 15 Mx kx
def Ln:St->Option (RT (Bq.outs Bf)):=lG Hv [] [0,2,4,5] 15 (AT Bf) My
def Cd (x0:List (List Int)) (x1:Int) (x2:List (List Int)) (x3:List AD) (x4:List BH) (x5:List Ac) (x6 x7:List (List Int)) (x8:List AD) (x9:List BH) (x10:List Ac):Option (Ch×Bool):=Ln ⟨[(0,.lst .S x0),(2,.ptr 4 0),(4,.ptr 14 0),(5,.int .i64 x1)],[.rows 44 (.own 3 .W) x2,.rows 53 Ab x3,.rows 30 CA x4,.rows 186 BF x5,.var [.row 0,.row 1,.row 2,.row 3],.dead,.rows 44 (.own 3 .W) x6,.dead,.dead,.dead,.rows 44 (.own 3 .W) x7,.rows 53 Ab x8,.rows 30 CA x9,.rows 186 BF x10,.var [.row 10,.row 11,.row 12,.row 13]]⟩
def Ej (x0:List (List Int)) (x1:Int) (x2:List (List Int)) (x3:List AD) (x4:List BH) (x5:List Ac) (x6 x7:List (List Int)) (x8:List AD) (x9:List BH) (x10:List Ac):Option (Ch×Bool):=(if (decide (x1<=6))=true then ((Fe x1 x0).bind fun y3=>(if x8.length+([y3.1]:List AD).length<=68719476736 then (Cd x0 (i64.wrap (x1+1)) x2 x3 x4 x5 x6 x7 (x8++([y3.1]:List AD)) x9 x10) else none)) else (some ((x7,x8,x9,x10),true)))
def GM (x0:List (List Int)):Option (Ch×Bool):=((E_ x0).bind fun y1=>(if (!y1)=true then (some ((([]:List (List Int)),([]:List AD),([]:List BH),([]:List Ac)),false)) else ((Fg x0).bind fun y2=>(Cd x0 1 ([]:List (List Int)) ([]:List AD) ([]:List BH) ([]:List Ac) ([]:List (List Int)) y2 ([]:List AD) ([]:List BH) ([]:List Ac)))))
theorem HX:X7 Ej Cd:=lS (by kernel_rfl)
theorem Jq:Uv GM DV:=cT Bf rfl ⟨rfl,rfl⟩ (by kernel_rfl)
def KN (x0 x1:Ch):Option Bool:=((E8 x0.1 x1.1).bind fun y1=>(if (!y1)=true then (some false) else ((Fh x0.2.1 x1.2.1).bind fun y2=>(if (!y2)=true then (some false) else ((IT x0.2.2.1 x1.2.2.1).bind fun y3=>(if (!y3)=true then (some false) else ((HT x0.2.2.2 x1.2.2.2).bind fun y4=>(if (!y4)=true then (some false) else (some true)))))))))
theorem Qw:KJ KN Dw:=cT E5 rfl ⟨rfl,rfl⟩ (by kernel_rfl)
def JA (x1:Int) (b0:List (List Int)) (b1:List AD) (b2:List BH) (b3:List Ac):Option (Int×List (List Int)×List AD×List BH×List Ac):=((DB x1 b0).bind fun y1=>((Eg y1.1 b1).bind fun y2=>((GJ y2.1 b2).bind fun y3=>((Fi y3.1 b3).bind fun y4=>(some (y4.1,y1.2,y2.2,y3.2,y4.2))))))
theorem OM:X5 JA Ff:=cT D7 rfl ⟨rfl,rfl⟩ (by kernel_rfl)
def JB (x0:Ch) (x1:Int):Option Int:=((Fj x0.1 x1).bind fun y1=>(if (decide (y1<0))=true then (some (-1:Int)) else ((Eh x0.2.1 y1).bind fun y2=>(if (decide (y2<0))=true then (some (-1:Int)) else ((GK x0.2.2.1 y2).bind fun y3=>(if (decide (y3<0))=true then (some (-1:Int)) else ((Fk x0.2.2.2 y3).bind fun y4=>(if (decide (y4<0))=true then (some (-1:Int)) else (some y4)))))))))
theorem ON:KJ JB D9:=cT D8 rfl ⟨rfl,rfl⟩ (by kernel_rfl)
def OO:=cG Iz (AT B5) (AT B5) kx
def OP:=kE 0 [] [] 0 OO kx
def Mz:St->Option (RT (Bq.outs B5)):=lG Iy [] [0,1,5] 0 (AT B5) OP
def Dj (x0 x1:List J) (x2:Int):Option Bool:=Mz ⟨[(0,.lst BL x0),(1,.lst BL x1),(5,.int .i64 x2)],[]⟩
def M0 (x0 x1:List J) (x2:Int):Option Bool:=(if (decide (x2<(x0.length:Int)))=true then (if 0<=x2 then (if x2<(x0.length:Int) then (if 0<=x2 then (if x2<(x1.length:Int) then ((F3 (x0.getD x2.toNat (E,E,0)) (x1.getD x2.toNat (E,E,0))).bind fun y1=>(if (!y1)=true then (some false) else (Dj x0 x1 (i64.wrap (x2+1))))) else none) else none) else none) else none) else (some true))
def Qx (x0 x1:List J):Option Bool:=(if ((x0.length:Int) != (x1.length:Int))=true then (some false) else (Dj x0 x1 0))
theorem M1:PL M0 Dj:=lS (by kernel_rfl)
theorem Qy:KJ Qx E9:=cT B5 rfl ⟨rfl,rfl⟩ (by kernel_rfl)
def Lo:=cG GP (AT BQ) (AT BQ) kx
def Lq:=kE 0 [] [1] 1 Lo kx
def Kv:St->Option (RT (Bq.outs BQ)):=lG HE [(0,0)] [0,1,5] 1 (AT BQ) Lq
def C1 (x0 x1:Int) (x2:List J):Option (Int×List J):=Kv ⟨[(0,.row 0),(1,.int .i64 x0),(5,.int .i64 x1)],[.mrow 49 BL x2]⟩
def EP (x0 x1:Int) (x2:List J):Option (Int×List J):=(if (decide (x1<(x2.length:Int)))=true then ((AQ x0).bind fun y1=>(if 0<=x1 then (if x1<(x2.length:Int) then (let z2:List J:=x2.set x1.toNat (y1,(x2.getD x1.toNat (E,E,0)).2); ((AQ (i64.wrap (x0+1))).bind fun y3=>(if 0<=x1 then (if x1<(z2.length:Int) then (let z4:List J:=z2.set x1.toNat ((z2.getD x1.toNat (E,E,0)).1,y3,((z2.getD x1.toNat (E,E,0)).2).2); (if 0<=x1 then (if x1<(z4.length:Int) then (let z5:List J:=z4.set x1.toNat ((z4.getD x1.toNat (E,E,0)).1,((z4.getD x1.toNat (E,E,0)).2).1,(i64.wrap ((i64.wrap (x0+1))+1))); (C1 (i64.wrap ((i64.wrap ((i64.wrap (x0+1))+1))+1)) (i64.wrap (x1+1)) z5)) else none) else none)) else none) else none))) else none) else none)) else (some (x0,x2)))
def OQ (x1:Int) (b0:List J):Option (Int×List J):=(C1 x1 0 b0)
theorem Ga:PL EP C1:=lS (by kernel_rfl)
theorem OR:KJ OQ CQ:=cT BQ rfl ⟨rfl,rfl⟩ (by kernel_rfl)
def Lr:=cG GR (AT BR) (AT BR) kx
def Ls:=kE 0 [] [1] 0 Lr kx
def Kw:St->Option (RT (Bq.outs BR)):=lG GQ [] [0,1,5] 0 (AT BR) Ls
def C2 (x0:List J) (x1 x2:Int):Option Int:=Kw ⟨[(0,.lst BL x0),(1,.int .i64 x1),(5,.int .i64 x2)],[]⟩
def EQ (x0:List J) (x1 x2:Int):Option Int:=(if (decide (x2<(x0.length:Int)))=true then (if 0<=x2 then (if x2<(x0.length:Int) then ((AQ x1).bind fun y1=>(if (!(((x0.getD x2.toNat (E,E,0)).1).toList==y1.toList))=true then (some (-1:Int)) else (if 0<=x2 then (if x2<(x0.length:Int) then ((AQ (i64.wrap (x1+1))).bind fun y2=>(if (!((((x0.getD x2.toNat (E,E,0)).2).1).toList==y2.toList))=true then (some (-1:Int)) else (if 0<=x2 then (if x2<(x0.length:Int) then (if ((((x0.getD x2.toNat (E,E,0)).2).2) != (i64.wrap ((i64.wrap (x1+1))+1)))=true then (some (-1:Int)) else (C2 x0 (i64.wrap ((i64.wrap ((i64.wrap (x1+1))+1))+1)) (i64.wrap (x2+1)))) else none) else none))) else none) else none))) else none) else none) else (some x1))
def OS (x0:List J) (x1:Int):Option Int:=(C2 x0 x1 0)
theorem Gb:PL EQ C2:=lS (by kernel_rfl)
theorem OT:KJ OS CR:=cT BR rfl ⟨rfl,rfl⟩ (by kernel_rfl)
def M2 (x0 x1 x2:Int):Option Bool:=(if (decide (x0>=x1))=true then (some (decide (x0<=x2))) else (some false))
theorem SX:PL M2 D_:=cT Gr rfl ⟨rfl,rfl⟩ (by kernel_rfl)
def KO (x0 x1 x2:Int):Option Bool:=(if (decide (x0>=x1))=true then (some (decide (x0<=x2))) else (some false))
theorem Qz:PL KO Dx:=cT E6 rfl ⟨rfl,rfl⟩ (by kernel_rfl)
def LO (x0:Int):Option Bool:=((Dx x0 1 6).bind fun y1=>(some y1))
theorem RU:Uv LO Fz:=cT Fu rfl ⟨rfl,rfl⟩ (by kernel_rfl)
def IV (x0:List Int) (x1:Int):Option Int:=(if (decide ((i64.wrap (x1-(x0.length:Int)))<0))=true then (some (-1:Int)) else (some (i64.wrap (x1-(x0.length:Int)))))
theorem LP:KJ IV IR:=cT Fv rfl ⟨rfl,rfl⟩ (by kernel_rfl)
def OU:=cG I1 (AT B6) (AT B6) kx
def OV:=kE 0 [] [0] 0 OU kx
def M3:St->Option (RT (Bq.outs B6)):=lG I0 [] [0,3] 0 (AT B6) OV
def Dk (x0:List (List Int)) (x1:Int):Option Bool:=M3 ⟨[(0,.lst .S x0),(3,.int .i64 x1)],[]⟩
def FC (x0:List (List Int)) (x1:Int):Option Bool:=(if (decide (x1<(x0.length:Int)))=true then (if 0<=x1 then (if x1<(x0.length:Int) then ((HU (x0.getD x1.toNat ([]:List Int))).bind fun y1=>(if (!y1)=true then (some false) else (Dk x0 (i64.wrap (x1+1))))) else none) else none) else ((D_ (x0.length:Int) 1 9).bind fun y2=>(some y2)))
def KP (x0:List (List Int)):Option Bool:=(Dk x0 0)
theorem IA:KJ FC Dk:=lS (by kernel_rfl)
theorem Q0:Uv KP Dy:=cT B6 rfl ⟨rfl,rfl⟩ (by kernel_rfl)
def Q1:=cG KL (AT Cr) (AT Cr) kx
def Q2:=kE 0 [] [] 0 Q1 kx
def Pf:St->Option (RT (Bq.outs Cr)):=lG KK [] [0,1,5] 0 (AT Cr) Q2
def Ed (x0:List Int) (x1 x2:Int):Option Bool:=Pf ⟨[(0,.lst .W x0),(1,.int .i64 x1),(5,.int .i64 x2)],[]⟩
def GN (x0:List Int) (x1 x2:Int):Option Bool:=(if (decide (x2<(x0.length:Int)))=true then (if 0<=x2 then (if x2<(x0.length:Int) then (if ((x0.getD x2.toNat 0)==x1)=true then (some true) else (Ed x0 x1 (i64.wrap (x2+1)))) else none) else none) else (some false))
def M4 (x0:List Int) (x1:Int):Option Bool:=(Ed x0 x1 0)
theorem Jr:PL GN Ed:=lS (by kernel_rfl)
theorem SY:KJ M4 Gs:=cT Cr rfl ⟨rfl,rfl⟩ (by kernel_rfl)
def Pg:=cG Jj (AT CJ) (AT CJ) kx
def Ph:=kE 0 [(3,0)] [3] 1 Pg kx
def OW:St->Option (RT (Bq.outs CJ)):=lG Ji [(3,0)] [0,3,4] 1 (AT CJ) Ph
def EA (x0:List Int) (x1:Int) (x2:List Int):Option (List Int):=OW ⟨[(0,.lst .W x0),(3,.row 0),(4,.int .i64 x1)],[.rows 3 .W x2]⟩
def OX (x0:List Int) (x1:Int) (x2:List Int):Option (List Int):=(if (decide (x1<(x0.length:Int)))=true then (if 0<=x1 then (if x1<(x0.length:Int) then (if 0<=x1 then (if x1<(x2.length:Int) then (let z1:List Int:=x2.set x1.toNat (x0.getD x1.toNat 0); (EA x0 (i64.wrap (x1+1)) z1)) else none) else none) else none) else none) else (some x2))
def RV (x0:List Int):Option (List Int):=(if 0<=(x0.length:Int) then (if (x0.length:Int)<=68719476736 then (EA x0 0 (List.replicate (x0.length:Int).toNat 0)) else none) else none)
theorem OY:PL OX EA:=lS (by kernel_rfl)
theorem RW:Uv RV F0:=cT CJ rfl ⟨rfl,rfl⟩ (by kernel_rfl)
def OZ:=cG Hz (AT Ax) (AT Ax) kx
def Fm:=kE 0 [] [0] 0 OZ kx
def IB:St->Option (RT (Bq.outs Ax)):=lG Hy [] [0,7,8,9] 0 (AT Ax) Fm
def Oa:=kB [] [0,7,8,9] 0 IB
def JC:=cG Hx Oa (AT Ax) Fm
def JD:=kB [] [0,7,8,9] 0 JC
def Fn:=kE 1 [] [0,7,8,9] 0 JC Fm
def Ob:=cG Fc JD (AT Ax) Fn
def Oc:=kE 2 [] [0,4,7,8,9] 0 Ob Fn
def M5:St->Option (RT (Bq.outs Ax)):=lG I2 [] [0,4,7,8,9,13,14,15] 0 (AT Ax) Oc
def FD (x0:List (List Int)) (x1:List Int) (x2:List (List Int)) (x3 x4:Int):Option Bool:=cG Fc JD (AT Ax) Fn ⟨[(0,.lst .S x0),(4,.lst .W x1),(7,.lst .S x2),(8,.int .i64 x3),(9,.int .i64 x4)],[]⟩
def Dl (x0:List (List Int)) (x1:List Int) (x2:List (List Int)) (x3 x4:Int) (x5:List Int) (x6 x7:Int):Option Bool:=M5 ⟨[(0,.lst .S x0),(4,.lst .W x1),(7,.lst .S x2),(8,.int .i64 x3),(9,.int .i64 x4),(13,.lst .W x5),(14,.int .i64 x6),(15,.int .i64 x7)],[]⟩
def Dm (x0 x1:List (List Int)) (x2 x3:Int):Option Bool:=IB ⟨[(0,.lst .S x0),(7,.lst .S x1),(8,.int .i64 x2),(9,.int .i64 x3)],[]⟩
def IC (x0:List (List Int)) (x1:List Int) (x2:List (List Int)) (x3 x4:Int):Option Bool:=((Dx (x1.length:Int) 1 4).bind fun y3=>(if (!y3)=true then (some false) else (Dm x0 x2 x3 (i64.wrap (x4+1)))))
def FE (x0:List (List Int)) (x1:List Int) (x2:List (List Int)) (x3 x4:Int) (x5:List Int) (x6 x7:Int):Option Bool:=(if (decide (x7<x6))=true then (if 0<=x7 then (if x7<(x5.length:Int) then ((Fz (x5.getD x7.toNat 0)).bind fun y1=>(if (!y1)=false then ((Bb x1 (x5.getD x7.toNat 0)).bind fun y2=>(if (y2 != x7)=true then (some false) else (Dl x0 x1 x2 x3 x4 x5 x6 (i64.wrap (x7+1))))) else (some false))) else none) else none) else (FD x0 x1 x2 x3 x4))
def FF (x0 x1:List (List Int)) (x2 x3:Int):Option Bool:=(if (decide (x3<x2))=true then (if 0<=x3 then (if x3<(x1.length:Int) then (Dl x0 (x1.getD x3.toNat ([]:List Int)) x1 x2 x3 (x1.getD x3.toNat ([]:List Int)) ((x1.getD x3.toNat ([]:List Int)).length:Int) 0) else none) else none) else ((Dx (x0.length:Int) 1 9).bind fun y4=>(some y4)))
def KQ (x0:List (List Int)):Option Bool:=(Dm x0 x0 (x0.length:Int) 0)
theorem M6:X5 IC FD:=jS (by kernel_rfl)
theorem ID:YC FE Dl:=lS (by kernel_rfl)
theorem IE:X4 FF Dm:=lS (by kernel_rfl)
theorem Q3:Uv KQ E_:=cT Ax rfl ⟨rfl,rfl⟩ (by kernel_rfl)
def EM (x0:List Int) (x1:Int):Option Bool:=((Bb x0 x1).bind fun y1=>(some (decide (y1>=0))))
theorem Hk:KJ EM Cm:=cT Bp rfl ⟨rfl,rfl⟩ (by kernel_rfl)
def Pi:=cG Jl (AT CK) (AT CK) kx
def Pj:=kE 0 [] [] 0 Pi kx
def Od:St->Option (RT (Bq.outs CK)):=lG Jk [] [0,1,5] 0 (AT CK) Pj
def EB (x0 x1:List Int) (x2:Int):Option Bool:=Od ⟨[(0,.lst .W x0),(1,.lst .W x1),(5,.int .i64 x2)],[]⟩
def Oe (x0 x1:List Int) (x2:Int):Option Bool:=(if (decide (x2<(x0.length:Int)))=true then (if 0<=x2 then (if x2<(x0.length:Int) then (if 0<=x2 then (if x2<(x1.length:Int) then (if ((x0.getD x2.toNat 0) != (x1.getD x2.toNat 0))=true then (some false) else (EB x0 x1 (i64.wrap (x2+1)))) else none) else none) else none) else none) else (some true))
def RX (x0 x1:List Int):Option Bool:=(if ((x0.length:Int) != (x1.length:Int))=true then (some false) else (EB x0 x1 0))
theorem Of:PL Oe EB:=lS (by kernel_rfl)
theorem RY:KJ RX EY:=cT CK rfl ⟨rfl,rfl⟩ (by kernel_rfl)
def LQ (x0 x1:Vw):Option Bool:=(if (x0.1 != x1.1)=true then (some false) else (if (x0.2.1 != x1.2.1)=true then (some false) else (if (x0.2.2.1 != x1.2.2.1)=true then (some false) else ((F3 x0.2.2.2.1 x1.2.2.2.1).bind fun y1=>(if (!y1)=true then (some false) else ((EY x0.2.2.2.2 x1.2.2.2.2).bind fun y2=>(if (!y2)=true then (some false) else (some true))))))))
theorem RZ:KJ LQ IS:=cT Fw rfl ⟨rfl,rfl⟩ (by kernel_rfl)
def M7:=cG H6 (AT Bg) (AT Bg) kx
def M8:=kE 0 [] [1] 1 M7 kx
def Lt:St->Option (RT (Bq.outs Bg)):=lG H5 [(0,0)] [0,1,5] 1 (AT Bg) M8
def Ce (x0 x1:Int) (x2:List Int):Option (Int×List Int):=Lt ⟨[(0,.row 0),(1,.int .i64 x0),(5,.int .i64 x1)],[.mrow 3 .W x2]⟩
def Cf (x0 x1:Int) (x2:List Int):Option (Int×List Int):=(if (decide (x1<(x2.length:Int)))=true then (if 0<=x1 then (if x1<(x2.length:Int) then (let z1:List Int:=x2.set x1.toNat x0; (Ce (i64.wrap (x0+1)) (i64.wrap (x1+1)) z1)) else none) else none) else (some (x0,x2)))
def Js (x1:Int) (b0:List Int):Option (Int×List Int):=(Ce x1 0 b0)
theorem DM:PL Cf Ce:=lS (by kernel_rfl)
theorem Jt:KJ Js BM:=cT Bg rfl ⟨rfl,rfl⟩ (by kernel_rfl)
def M9:=cG H8 (AT Bh) (AT Bh) kx
def M_:=kE 0 [] [1] 0 M9 kx
def Lu:St->Option (RT (Bq.outs Bh)):=lG H7 [] [0,1,5] 0 (AT Bh) M_
def DN (x0:List Int) (x1 x2:Int):Option Int:=Lu ⟨[(0,.lst .W x0),(1,.int .i64 x1),(5,.int .i64 x2)],[]⟩
def Ek (x0:List Int) (x1 x2:Int):Option Int:=(if (decide (x2<(x0.length:Int)))=true then (if 0<=x2 then (if x2<(x0.length:Int) then (if ((x0.getD x2.toNat 0) != x1)=true then (some (-1:Int)) else (DN x0 (i64.wrap (x1+1)) (i64.wrap (x2+1)))) else none) else none) else (some x1))
def Pk (x0:List Int) (x1:Int):Option Int:=(DN x0 x1 0)
theorem HY:PL Ek DN:=lS (by kernel_rfl)
theorem Pl:KJ Pk Bl:=cT Bh rfl ⟨rfl,rfl⟩ (by kernel_rfl)
def Jy:=cG FQ (AT BE) (AT BE) kx
def Jz:=kE 0 [(3,0)] [3] 1 Jy kx
def JZ:St->Option (RT (Bq.outs BE)):=lG FP [(3,0)] [0,3,4] 1 (AT BE) Jz
def CI (x0:List (List Int)) (x1:Int) (x2:List (List Int)):Option (List (List Int)):=JZ ⟨[(0,.lst .S x0),(3,.row 0),(4,.int .i64 x1)],[.rows 44 .S x2]⟩
def DO (x0:List (List Int)) (x1:Int) (x2:List (List Int)):Option (List (List Int)):=(if (decide (x1<(x0.length:Int)))=true then (if 0<=x1 then (if x1<(x0.length:Int) then (if ([]:List Int).length+(x0.getD x1.toNat ([]:List Int)).length<=68719476736 then (if x2.length+([(([]:List Int)++(x0.getD x1.toNat ([]:List Int)))]:List (List Int)).length<=68719476736 then (CI x0 (i64.wrap (x1+1)) (x2++([(([]:List Int)++(x0.getD x1.toNat ([]:List Int)))]:List (List Int)))) else none) else none) else none) else none) else (some x2))
def Gc (x0:List (List Int)):Option (List (List Int)):=(CI x0 0 ([]:List (List Int)))
theorem FI:PL DO CI:=lS (by kernel_rfl)
theorem Kx:Uv Gc EO:=cT BE rfl ⟨rfl,rfl⟩ (by kernel_rfl)
def Lv:=cG HG (AT BS) (AT BS) kx
def Lw:=kE 0 [(3,1)] [3] 2 Lv kx
def Ky:St->Option (RT (Bq.outs BS)):=lG HF [(3,1)] [3,6,7,8] 2 (AT BS) Lw
def C3 (x0:List (List Int)) (x1 x2:Int) (x3 x4:List (List Int)):Option (List (List Int)):=Ky ⟨[(3,.row 1),(6,.lst .S x0),(7,.int .i64 x1),(8,.int .i64 x2)],[.rows 44 (.own 3 .W) x3,.rows 44 (.own 3 .W) x4]⟩
def ER (x0:List (List Int)) (x1 x2:Int) (x3 x4:List (List Int)):Option (List (List Int)):=(if (decide (x2<x1))=true then (if 0<=x2 then (if x2<(x0.length:Int) then ((DL (x0.getD x2.toNat ([]:List Int))).bind fun y1=>(if x4.length+([y1]:List (List Int)).length<=68719476736 then (C3 x0 x1 (i64.wrap (x2+1)) x3 (x4++([y1]:List (List Int)))) else none)) else none) else none) else (some x4))
def JE (x0:List (List Int)):Option (List (List Int)):=(C3 x0 (x0.length:Int) 0 ([]:List (List Int)) ([]:List (List Int)))
theorem Gd:X5 ER C3:=lS (by kernel_rfl)
theorem Og:Uv JE Fg:=cT BS rfl ⟨rfl,rfl⟩ (by kernel_rfl)
def Lx:=cG HI (AT BT) (AT BT) kx
def Ly:=kE 0 [] [] 0 Lx kx
def Kz:St->Option (RT (Bq.outs BT)):=lG HH [] [0,1,5] 0 (AT BT) Ly
def C4 (x0 x1:List AD) (x2:Int):Option Bool:=Kz ⟨[(0,.lst AZ x0),(1,.lst AZ x1),(5,.int .i64 x2)],[]⟩
def K1 (x0 x1:List AD) (x2:Int):Option Bool:=(if (decide (x2<(x0.length:Int)))=true then (if 0<=x2 then (if x2<(x0.length:Int) then (if 0<=x2 then (if x2<(x1.length:Int) then ((GI (x0.getD x2.toNat (0,0,false,false,false,false,([]:List Int),([]:List J),0,0,0,0,(E,E,0),([]:List Int))) (x1.getD x2.toNat (0,0,false,false,false,false,([]:List Int),([]:List J),0,0,0,0,(E,E,0),([]:List Int)))).bind fun y1=>(if (!y1)=true then (some false) else (C4 x0 x1 (i64.wrap (x2+1))))) else none) else none) else none) else none) else (some true))
def Oh (x0 x1:List AD):Option Bool:=(if ((x0.length:Int) != (x1.length:Int))=true then (some false) else (C4 x0 x1 0))
theorem K3:PL K1 C4:=lS (by kernel_rfl)
theorem Oi:KJ Oh Fh:=cT BT rfl ⟨rfl,rfl⟩ (by kernel_rfl)
def Pm:=cG Jn (AT CL) (AT CL) kx
def Pn:=kE 0 [] [] 0 Pm kx
def Oj:St->Option (RT (Bq.outs CL)):=lG Jm [] [0,1,5] 0 (AT CL) Pn
def EC (x0 x1:List BH) (x2:Int):Option Bool:=Oj ⟨[(0,.lst Du x0),(1,.lst Du x1),(5,.int .i64 x2)],[]⟩
def Ok (x0 x1:List BH) (x2:Int):Option Bool:=(if (decide (x2<(x0.length:Int)))=true then (if 0<=x2 then (if x2<(x0.length:Int) then (if 0<=x2 then (if x2<(x1.length:Int) then ((JW (x0.getD x2.toNat (0,0,0,0,0,([]:List J))) (x1.getD x2.toNat (0,0,0,0,0,([]:List J)))).bind fun y1=>(if (!y1)=true then (some false) else (EC x0 x1 (i64.wrap (x2+1))))) else none) else none) else none) else none) else (some true))
def Ra (x0 x1:List BH):Option Bool:=(if ((x0.length:Int) != (x1.length:Int))=true then (some false) else (EC x0 x1 0))
theorem Ol:PL Ok EC:=lS (by kernel_rfl)
theorem Rb:KJ Ra IT:=cT CL rfl ⟨rfl,rfl⟩ (by kernel_rfl)
def Om:=cG I4 (AT B7) (AT B7) kx
def On:=kE 0 [] [] 0 Om kx
def NA:St->Option (RT (Bq.outs B7)):=lG I3 [] [0,1,5] 0 (AT B7) On
def Dn (x0 x1:List Ac) (x2:Int):Option Bool:=NA ⟨[(0,.lst BF x0),(1,.lst BF x1),(5,.int .i64 x2)],[]⟩
def NB (x0 x1:List Ac) (x2:Int):Option Bool:=(if (decide (x2<(x0.length:Int)))=true then (if 0<=x2 then (if x2<(x0.length:Int) then (if 0<=x2 then (if x2<(x1.length:Int) then ((IU (x0.getD x2.toNat (0,E,E,0,0,0,0,0,E)) (x1.getD x2.toNat (0,E,E,0,0,0,0,0,E))).bind fun y1=>(if (!y1)=true then (some false) else (Dn x0 x1 (i64.wrap (x2+1))))) else none) else none) else none) else none) else (some true))
def Q4 (x0 x1:List Ac):Option Bool:=(if ((x0.length:Int) != (x1.length:Int))=true then (some false) else (Dn x0 x1 0))
theorem NC:PL NB Dn:=lS (by kernel_rfl)
theorem Q5:KJ Q4 HT:=cT B7 rfl ⟨rfl,rfl⟩ (by kernel_rfl)
end
end Go.Proofs.Ytffahmnodgnohaa.Core
