/- Texts of the proof, packed: part 3. -/
import Derived.Test.YtfcgblnlopemkaaDoorP1
import Derived.OrdersHeld
import Derived.ChangeArms
import Derived.Below
import Derived.Test.YtfcgblnlopemkaaDoorProg
import Derived.Shelf.SlLaysE0
import Derived.Shelf.RegionOpenPlain
import Derived.WalkKit
import Derived.Deep.LoopGhost
import Derived.Lib.Walk
import Derived.Lib.SliceRun
import Derived.Shelf.Lays2
import Derived.Lib.JoinLaws
import Derived.Lib.AppendZeros
import Derived.Lib.Overlaps
import Derived.Laws.Externs
import Derived.Laws.IdiomCopy
import Derived.Laws.CopyRow
import Derived.Maps.AppendAt
import Derived.Shelf.Small.Strs
import Derived.Shelf.Spec.SlicesInsert
import Derived.Shelf.SlicesE.DeleteFunc
import Derived.Shelf.Strings.Split
import Derived.Shelf.Strings.OnBuilder
import Derived.Shelf.Strconv.Itoa3
import Derived.IntWalk
set_option linter.unusedVariables false
set_option linter.unusedSimpArgs false
namespace Go.Proofs.YtfcgblnlopemkaaDoor.Core
open Go
variable {P:Program}
abbrev Qb:=List (Nat×(World->Prop))
def Jf (anc:List Nat):Qb->Qb
 | []=>[]
 | p::r=>if Ai anc p.1=true then Jf anc r else p::Jf anc r
theorem C6 {anc:List Nat}:∀ {T:Qb},∀ p∈Jf anc T,p∈T/\Ai anc p.1=false
 | [],p,h=>by cases h
 | q::r,p,h=>by
  simp only [Jf] at h
  split at h
  ·obtain ⟨h1,h2⟩:=C6 p h
   exact ⟨by simp [h1],h2⟩
  ·rename_i hq
   rcases AL.1 h with rfl | h
   ·exact ⟨by simp,by simpa using hq⟩
   ·obtain ⟨h1,h2⟩:=C6 p h
    exact ⟨by simp [h1],h2⟩
theorem Rh {anc:List Nat}:∀ {T:Qb} {p},p∈T->Ai anc p.1=false->p∈Jf anc T
 | [],p,h,_=>by cases h
 | q::r,p,h,hn=>by
  simp only [Jf]
  rcases AL.1 h with rfl | h
  ·rw [if_neg (by rw [hn]; simp)]; simp
  ·split
   ·exact Rh h hn
   ·exact List.mem_cons_of_mem _ (Rh h hn)
theorem Wg {anc:List Nat} {i:Nat} {C:World->Prop} {T:Qb} (h:Ai anc i=false):Jf anc ((i,C)::T)=(i,C)::Jf anc T:=by
 show (if Ai anc i=true then Jf anc T else (i,C)::Jf anc T)=_
 rw [h]
 rfl
def M2 (P:Program) (ops:Array Oper) (Q:Exit->Act->World->Prop) (anc:Nat->List Nat):Nat->Qb->Array Bool->Act->World->Prop
 | 0,_,listed,a,w=>Region.ready .any ops listed=[]/\Q .normal a w
 | fuel+1,T,listed,a,w =>
  (Region.ready .any ops listed=[]->Q .normal a w) /\
  ∀ i∈Region.ready .any ops listed,wpOp P ops Q i (fun a' w'=>(∀ p∈Jf (anc i) T,p.2 w')/\M2 P ops Q anc fuel (Jf (anc i) T) (listed.setIfInBounds i true) a' w') a w
theorem Ri {ops:Array Oper} {Q:Exit->Act->World->Prop} {anc:Nat->List Nat}:∀ (fuel:Nat) (T:Qb) (listed:Array Bool) (a:Act) (w:World),M2 P ops Q anc fuel T listed a w->wpAny P .any ops Q fuel listed a w
 | 0,_,_,_,_,h=>h
 | fuel+1,_,_,_,_,h=>⟨h.1,fun i hi=>wpOp_mono (fun a' w' h'=>Ri fuel _ _ a' w' h'.2) (h.2 i hi)⟩
theorem Mq {ops:Array Oper} {Q:Exit->Act->World->Prop} {anc:Nat->List Nat}:∀ (fuel:Nat) {T T':Qb} (listed:Array Bool) (a:Act) (w:World),(∀ p∈T',p∈T)->M2 P ops Q anc fuel T listed a w->M2 P ops Q anc fuel T' listed a w
 | 0,_,_,_,_,_,_,h=>h
 | fuel+1,T,T',_,_,_,hs,h=>⟨h.1,fun i hi=>wpOp_mono (fun a' w' h'=>by
   have hsub:∀ p∈Jf (anc i) T',p∈Jf (anc i) T:=fun p hp=>by
    obtain ⟨h1,h2⟩:=C6 p hp
    exact Rh (hs p h1) h2
   exact ⟨fun p hp=>h'.1 p (hsub p hp),Mq fuel _ a' w' hsub h'.2⟩) (h.2 i hi)⟩
def Sp (ops:Array Oper) (listed:Array Bool):Prop:=∀ k o,listed.getD k false=true->ops[k]? = some o->∀ e∈o.after,Region.binds .any e=true->listed.getD e.on false=true
def Rj (ops:Array Oper) (i:Nat):List Nat:=match ops[i]? with
 | some o=>(o.after.filter fun e=>Region.binds .any e).toList.map (·.on)
 | none=>[]
def VM (ops:Array Oper) (anc:List (List Nat)):Bool :=
 (List.range ops.size).all fun i=>(Rj ops i).all (fun p=>decide (p<i))&&(anc.getD i []).all fun j=>(Rj ops i).any (fun p=>p==j)||(Rj ops i).any fun p=>Ai (anc.getD p []) j
theorem Hx {ops:Array Oper} {anc:List (List Nat)} (hA:VM ops anc=true) {listed:Array Bool} (hs:Sp ops listed):∀ (i:Nat),(∀ p∈Rj ops i,listed.getD p false=true)->i<ops.size->∀ j∈anc.getD i [],listed.getD j false=true:=by
 intro i
 induction i using Nat.strongRecOn with
 | _ i ih =>
  intro hp hi j hj
  have h1:=Ak.1 hA i (List.mem_range.2 hi)
  simp only [J,Ak,List.any_eq_true,EN,beq_iff_eq,decide_eq_true_eq] at h1
  rcases h1.2 j hj with ⟨p,hpm,rfl⟩ | ⟨p,hpm,hpj⟩
  ·exact hp p hpm
  ·have hlt:=h1.1 p hpm
   refine ih p hlt (fun q hq=>?_) (by omega) j (BZ.1 hpj)
   unfold Rj at hq
   split at hq
   ·rename_i o ho
    simp only [List.mem_map,Array.mem_toList_iff,Array.mem_filter] at hq
    obtain ⟨e,⟨he,hb⟩,rfl⟩:=hq
    exact hs p o (hp p hpm) ho e he hb
   ·cases hq
theorem By {ops:Array Oper} {listed:Array Bool} {i:Nat} (h:i∈Region.ready .any ops listed):(∀ p∈Rj ops i,listed.getD p false=true)/\i<ops.size:=by
 obtain ⟨_,o,ho,hall⟩:=mem_ready.1 h
 refine ⟨fun p hp=>?_,(Array.getElem?_eq_some_iff.1 ho).1⟩
 unfold Rj at hp
 rw [ho] at hp
 simp only [List.mem_map,Array.mem_toList_iff,Array.mem_filter] at hp
 obtain ⟨e,⟨he,hb⟩,rfl⟩:=hp
 exact hall e he hb
theorem Sp.set {ops:Array Oper} {listed:Array Bool} (hs:Sp ops listed) {i:Nat} (h:i∈Region.ready .any ops listed):Sp ops (listed.setIfInBounds i true):=by
 intro k o hk ho e he hb
 by_cases hik:i=k
 ·subst hik
  obtain ⟨_,o',ho',hall⟩:=mem_ready.1 h
  rw [ho] at ho'
  cases ho'
  exact getD_set_true (hall e he hb)
 ·rw [getD_set_ne false hik] at hk
  exact getD_set_true (hs k o hk ho e he hb)
theorem CQ {ops:Array Oper} {listed:Array Bool} {i:Nat} (h:i∈Region.ready .any ops listed):listed.getD i false=false:=by
 have h0:=(mem_ready.1 h).1
 rcases As i listed.size with h' | h'
 ·simp [h'] at h0 ⊢; exact h0
 ·simp [Array.getElem?_eq_none h']
theorem N4 {ops:Array Oper} {Q:Exit->Act->World->Prop} {anc:List (List Nat)} (hA:VM ops anc=true) {i:Nat} {oi:Oper} {v:Value} {C:World->Prop} (hi:ops[i]? = some oi)
  (hsel:∀ (j:Nat) (o:Oper) cs b,ops[j]? = some o->o.op≠.select cs b) (hQ:∀ c a w,Q (.panic c) (a.put oi.dst v) w->Q (.panic c) a w) :
  ∀ (fuel:Nat) (T:Qb) (listed:Array Bool) (a:Act) (w:World),Sp ops listed ->
   (∀ j oj,ops[j]? = some oj->j≠i->listed.getD j true=false->(∀ e∈oj.after,Region.binds .any e=true->e.on≠i)->oi.apart ops oj=true) ->
   i∈Region.ready .any ops listed->YieldsIf P ops C oi v a->C w->(∀ p∈T,p.2 w) ->
   M2 P ops Q (fun i=>anc.getD i []) fuel ((i,C)::T) (listed.setIfInBounds i true) (a.put oi.dst v) w->M2 P ops Q (fun i=>anc.getD i []) (fuel+1) T listed a w:=by
 intro fuel
 induction fuel with
 | zero =>
  intro T listed a w hsh _ hr hy hC hT H
  refine ⟨fun h=>(by rw [h] at hr; cases hr),fun j hj=>?_⟩
  by_cases hji:j=i
  ·subst hji; exact hy.wpOp hi hC ⟨fun p hp=>hT p (C6 p hp).1,H⟩
  ·have:=ready_mono hj hji
   rw [H.1] at this
   cases this
 | succ fuel ih =>
  intro T listed a w hsh hfree hr hy hC hT H
  refine ⟨fun h=>(by rw [h] at hr; cases hr),fun j hj=>?_⟩
  by_cases hji:j=i
  ·subst hji
   refine hy.wpOp hi hC ⟨fun p hp=>hT p (C6 p hp).1,Mq _ _ _ _ (fun p hp=>?_) H⟩
   exact List.mem_cons_of_mem _ (C6 p hp).1
  ·have h1:=H.2 j (ready_mono hj hji)
   obtain ⟨hjun,oj,hoj,hall⟩:=mem_ready.1 hj
   have hnot:∀ e∈oj.after,Region.binds .any e=true->e.on≠i:=fun e he hb heq=>by
    have h1:=hall e he hb
    have h0:=CQ hr
    rw [heq] at h1
    rw [h0] at h1
    cases h1
   have hnanc:Ai (anc.getD j []) i=false:=by
    rw [AU]
    intro hm
    have:=Hx hA hsh j (By hj).1 (By hj).2 i hm
    rw [CQ hr] at this
    cases this
   have hcut:Jf (anc.getD j []) ((i,C)::T)=(i,C)::Jf (anc.getD j []) T:=Wg hnanc
   simp only [hcut] at h1
   have h2:=wpOp_putIf hoj (hfree j oj hoj hji hjun hnot) (fun cs b=>hsel i oi cs b hi) (fun cs b=>hsel j oj cs b hoj) hQ hy h1
   have hfree':∀ k ok,ops[k]? = some ok->k≠i->(listed.setIfInBounds j true).getD k true=false ->
     (∀ e∈ok.after,Region.binds .any e=true->e.on≠i)->oi.apart ops ok=true:=fun k ok hk hki hun hno=>by
    refine hfree k ok hk hki ?_ hno
    by_cases hjk:j=k
    ·subst hjk; exact hjun
    ·rw [getD_set_ne true hjk] at hun; exact hun
   refine wpOp_mono (fun a' w' h3=>?_) h2
   obtain ⟨hy',hp',hG⟩:=h3
   have hC':C w':=hp' (i,C) (by simp)
   have hT':∀ p∈Jf (anc.getD j []) T,p.2 w':=fun p hp=>hp' p (List.mem_cons_of_mem _ hp)
   refine ⟨hT',ih _ (listed.setIfInBounds j true) a' w' (hsh.set hj) hfree' (ready_mono hr (Ne.symm hji)) hy' hC' hT' ?_⟩
   rw [Array.setIfInBounds_comm _ _ hji]
   exact hG
theorem Yh {o:Oper} {a:Act} {w:World} {I:Prop} (h:o.wp P a w (fun _ _=>I) (fun _ _ _=>I)):I:=by
 unfold Oper.wp at h
 generalize (execOp a.eval o).run P w=r at h
 cases r with
 | ok n w' =>
  cases n<;>simp only [Oper.upon] at h<;>try exact h
  case enter f args =>
   obtain ⟨e,w2,fr,hr,_⟩:=h []
   cases e with
   | returned v=>exact hr
   | panicked c=>exact hr
   | outgrown=>exact hr.elim fun _ h=>h.elim fun _ h=>h
  case row row args =>
   obtain ⟨v,w2,hr,_⟩:=h default []
   exact hr
 | halt x w' =>
  cases x<;>simp only [Oper.upon] at h
  case panic v=>exact h
def gB (ops:Array Oper) (o:Oper):Option (Nat×Bool)->Bool
 | none=>o.guard.isNone
 | some g=>match o.guard with
  | some (j,want)=>want==g.2&&Qa ops j==some g.1
  | none=>false
def Wh (L:Array Bool) (fl:List Nat):Array Bool:=fl.foldl (fun L i=>L.setIfInBounds i true) L
def XX (ops:Array Oper) (i:Nat) (js:List Nat):Bool :=
 js.all fun j=>match ops[i]?,ops[j]? with
  | some a,some b=>a.apart ops b&&b.apart ops a
  | _,_=>false
def Jz (ops:Array Oper):List Nat->Bool
 | []=>true
 | i::r=>!Ai r i&&XX ops i r&&Jz ops r
def VN (P:Program) (n:Nat) (ops:Array Oper) (L:Array Bool) (f:Nat×CB):Bool :=
 (Region.ready .any ops L).contains f.1&&f.2.isFloat&&(match ops[f.1]? with
  | some o=>RA P n o f.2&&decide (o.dst.toList=f.2.dsts)&&o.guard.isNone&&(match o.dst with
   | some d=>!(o.looksAt ops).contains d&&decide (d<n)
   | none=>false)
  | none=>false)
def RB (P:Program) (n:Nat) (ops:Array Oper):DT->Array Bool->List Nat->Bool
 | .done,L,F=>(Region.ready .any ops L).isEmpty&&F.isEmpty
 | .take i g ao r,L,F=>(Region.ready .any ops L).contains i&&Region.free .any ops L i&&!Ai F i&&ao.isVal&&(match ops[i]? with
   | some o=>gB ops o g&&RA P n o ao&&decide (o.dst.toList=ao.dsts)
   | none=>false)&&RB P n ops r (L.setIfInBounds i true) F
 | .skip i g d r,L,F=>(Region.ready .any ops L).contains i&&Region.free .any ops L i&&!Ai F i&&(match ops[i]? with
   | some o=>gB ops o (some g)&&decide (o.dst=d)&&(match d with | some d=>decide (d<n) | none=>true)
   | none=>false)&&RB P n ops r (L.setIfInBounds i true) F
 | .only i g ao e fl r,L,F=>(Region.ready .any ops L).contains i&&(Region.ready .any ops (Wh L (fl.map (·.1)))).all (· == i)&&F.all (fun f=>f==i||Ai (fl.map (·.1)) f)&&(!Ai F i||(e&&ao.isFloat))
   && fl.all (VN P n ops L)&&Jz ops (i::fl.map (·.1))&&(match ops[i]? with
   | some o=>gB ops o g&&RA P n o ao&&decide (o.dst.toList=ao.dsts)
   | none=>false)&&RB P n ops r (L.setIfInBounds i true) (fl.map (·.1))
 | .test _ a b,L,F=>RB P n ops a L F&&RB P n ops b L F
 | .fork i ai ri j aj rj,L,F=>F.isEmpty&&(Region.ready .any ops L).contains i&&(Region.ready .any ops L).all (fun k=>k==i||k==j)
   && (match ops[i]? with
   | some o=>gB ops o none&&RA P n o ai&&decide (o.dst.toList=ai.dsts)
   | none=>false)&&(match ops[j]? with
   | some o=>gB ops o none&&RA P n o aj&&decide (o.dst.toList=aj.dsts)
   | none=>false)&&RB P n ops ri (L.setIfInBounds i true) []&&RB P n ops rj (L.setIfInBounds j true) []
def Vv (P:Program) (n:Nat) (ops:Array Oper) (anc:List (List Nat)) (t:DT):Bool :=
 P.follows .mixedOrders&&Region.noSelect ops&&VM ops anc&&RB P n ops t (Array.replicate ops.size false) []
theorem Uc {H:HP} {φ:Aq} {s:St} {act:Act} (hf:B5 H φ s.st s.fr act.tmps) {c:Nat} {t:Bool} (h:B9 s.fr c=.bool t):act.tmps[c]? = some (.bool t):=by
 have hfc:=hf c
 rw [h] at hfc
 have hfc:act.tmps.getD c undef=.bool t:=hfc
 rw [Array.getD_eq_getD_getElem?] at hfc
 cases hq:act.tmps[c]? with
 | none=>rw [hq] at hfc; cases hfc
 | some v=>rw [hq] at hfc; simpa using hfc
theorem Kk {H:HP} {φ:Aq} {s:St} {act:Act} {ops:Array Oper} {o:Oper} {g:Option (Nat×Bool)} (hf:B5 H φ s.st s.fr act.tmps) (h:Z_ s g=true) (hb:gB ops o g=true):Region.wanted o (yielded ops act.tmps)=true:=by
 cases g with
 | none =>
  simp only [gB,Option.isNone_iff_eq_none] at hb
  exact Hw hb trivial
 | some g =>
  simp only [gB] at hb
  split at hb
  ·rename_i j want hg
   simp only [J,beq_iff_eq] at hb
   obtain ⟨rfl,hb2⟩:=hb
   simp only [Z_] at h
   split at h
   ·rename_i t ht
    simp only [beq_iff_eq] at h
    subst h
    exact Hw hg ⟨g.1,hb2,Uc hf ht⟩
   ·cases h
  ·cases hb
theorem Ud {H:HP} {φ:Aq} {s:St} {act:Act} {ops:Array Oper} {o:Oper} {g:Nat×Bool} (hf:B5 H φ s.st s.fr act.tmps) (h:Y9 s g=true) (hb:gB ops o (some g)=true):Region.wanted o (yielded ops act.tmps)=false:=by
 simp only [gB] at hb
 split at hb
 ·rename_i j want hg
  simp only [J,beq_iff_eq] at hb
  obtain ⟨rfl,hb2⟩:=hb
  refine M0 hg hb2 ?_
  unfold Y9 at h
  split at h
  ·rename_i t ht
   rw [Uc hf ht]
   intro e
   cases e
   simp at h
  ·rename_i ht
   have hv:=hf g.1
   rw [ht] at hv
   have hv:act.tmps.getD g.1 undef=undef:=hv
   intro e
   rw [Array.getD_eq_getD_getElem?,e] at hv
   cases hv
  ·cases h
 ·cases hb
def QR (act:Act) (w:World) (T:List (Nat×Nat)) (TT:Qb):Prop :=
 ∀ p∈TT,p.2 w/\((∀ w2,p.2 w2)\/∃ x,(p.1,x)∈T/\∃ w0:World,p.2=fun w2=>∀ b,A8 (act.tmps.getD x undef) b->w2.heap[b]? = w0.heap[b]?)
theorem Ho {ds:List Nat}:∀ {T:List (Nat×Nat)},Da ds T=true->∀ p∈T,p.2∉ds
 | [],_,p,hp=>by cases hp
 | q::r,h,p,hp=>by
  simp only [Da,J,Cj] at h
  rcases AL.1 hp with rfl | hp
  ·exact AU.1 h.1
  ·exact Ho h.2 p hp
theorem Gg {act:Act} {dst:Option Tmp} {v:Value} {t:Nat} (h:dst≠some t):(act.put dst v).tmps.getD t undef=act.tmps.getD t undef:=by
 rw [Array.getD_eq_getD_getElem?,Array.getD_eq_getD_getElem?,FG h]
theorem QR.put {act:Act} {w:World} {T:List (Nat×Nat)} {TT:Qb} (h:QR act w T TT) {dst:Option Tmp} {v:Value} (hf:Da dst.toList T=true):QR (act.put dst v) w T TT:=by
 intro p hp
 obtain ⟨h1,h2⟩:=h p hp
 refine ⟨h1,?_⟩
 rcases h2 with h2 | ⟨x,hx,w0,e⟩
 ·exact .inl h2
 ·refine .inr ⟨x,hx,w0,?_⟩
  have:=Ho hf _ hx
  rw [Gg (fun e=>this (by rw [e]; simp))]
  exact e
theorem FI {anc:List Nat}:∀ {T:List (Nat×Nat)} {p},p∈T->Ai anc p.1=false->p∈DC anc T
 | [],p,h,_=>by cases h
 | q::r,p,h,hn=>by
  simp only [DC]
  rcases AL.1 h with rfl | h
  ·rw [if_neg (by rw [hn]; simp)]; simp
  ·split
   ·exact FI h hn
   ·exact List.mem_cons_of_mem _ (FI h hn)
theorem J2 {anc tch:List Nat} {s:St}:∀ {T:List (Nat×Nat)},Ka anc tch s T=true->∀ p∈T,Ai anc p.1=false->(B9 s.fr p.2).clear tch=true
 | [],_,p,hp,_=>by cases hp
 | q::r,h,p,hp,hn=>by
  simp only [Ka,J,EN] at h
  rcases AL.1 hp with rfl | hp
  ·rcases h.1 with h1 | h1
   ·rw [hn] at h1; cases h1
   ·exact h1
  ·exact J2 h.2 p hp hn
theorem MN {H H':HP} {φ φ':Aq} {s:St} {st':List AC} {w w':World} {v:Value} {a:AV} {tch:List Nat} (hs:SR H φ s.st w) (hst:AH H φ s.st w H' φ' st' w') (hm:Q6 tch φ s.st w w') (hv:VA H φ s.st a v)
  (h:a.clear tch=true):∀ b,A8 v b->w'.heap[b]? = w.heap[b]? := by
 intro b hb
 have keepH:∀ o,H b=some o->w'.heap[b]? = w.heap[b]? := fun o ho=>by rw [hst.sr.hp b o (hst.le b o ho),hs.hp b o ho]
 cases a with
 | ptr id off =>
  obtain ⟨hva,b0,e1,e2⟩:=hv
  rw [e2] at hb
  cases hb
  unfold AJ at hva
  split at hva
  ·rename_i cs hid
   exact hm id _ hid rfl (AU.1 (by simpa [AV.clear] using h)) b0 (Nm (by rw [e1]; rfl))
  ·cases hva
 | eptr id i off =>
  obtain ⟨b0,n,cap,K,hk,hi,e1,e2⟩:=hv
  rw [e2] at hb
  cases hb
  unfold Z at hk
  split at hk
  ·rename_i t K' xs hid
   exact hm id _ hid rfl (AU.1 (by simpa [AV.clear] using h)) b0 (Nm (by rw [e1]; rfl))
  ·rename_i K' xs hid
   cases hk
   obtain ⟨⟨sl,cap',e3,_,hr⟩,_⟩:=hs.box id _ hid
   rcases hr with rfl | ⟨b1,o1,c,el,fz,e4,e5,_⟩
   ·simp at hi
   ·rw [e1] at e3
    simp only [Value.slice.injEq] at e3
    rw [e4] at e3
    obtain ⟨e6,_⟩:=e3
    simp only [AT,Addr.mk.injEq] at e6
    obtain ⟨rfl,_⟩:=e6
    exact keepH _ e5
  ·rename_i t K' xs hid
   exact hm id _ hid rfl (AU.1 (by simpa [AV.clear] using h)) b0 (Nm (by rw [e1]; rfl))
  ·rename_i t xs hid
   cases hk
   exact hm id _ hid rfl (AU.1 (by simpa [AV.clear] using h)) b0 (Nm (by rw [e1]; rfl))
  ·rename_i m t K' xs i' q hid
   exact hm id _ hid rfl (AU.1 (by simpa [AV.clear] using h)) b0 (Nm (by rw [e1]; rfl))
  ·cases hk
 | fptr cs off =>
  obtain ⟨b0,o,c,el,fz,e,hb0,_⟩:=hv
  rw [e] at hb
  cases hb
  exact keepH _ hb0
 | _=>cases h
theorem XY {n:Nat} {o:Oper} {d x:Nat} {m:Option Nat} (h:RP P n o d (.t x) m=true):∃ t,o.op=.load t (.tmp x):=by
 simp only [RP,J] at h
 have h2:=h.2
 split at h2
 ·rename_i t y ho
  simp only [J] at h2
  have:=h2.1
  cases y<;>simp [BU] at this
  subst this
  exact ⟨t,ho⟩
 ·cases h2
theorem Wi {n:Nat} {o:Oper} {ao:CB} {t:TypeId} {y:Operand} {ρ:Type} {kn:St->Option ρ} {r:ρ} {cal:CV} {s:St} (hb:RA P n o ao=true) (hop:o.op=.load t y) (hv:ao.isVal=true) (hk:Bs cal kn s ao=some r) :
  ∃ d x m,ao=.load d (.t x) m:=by
 cases ao<;>first | cases hv | skip
 case load d x m =>
  cases x with
  | t x=>exact ⟨d,x,m,rfl⟩
  | c a =>
   exfalso
   simp only [RA,RP,hop,J] at hb
   simp only [Bs,St.opd] at hk
   have h2:=hb.2.1
   cases y with
   | const v =>
    have h3:a=.undef\/PI v a=true:=by cases a<;>first | exact .inl rfl | exact .inr h2
    rcases h3 with rfl | h3
    ·simp [St.behind] at hk
    ·have:=MH (H:=fun _=>none) (v:=v) (a:=a) h3
     cases a<;>first | exact this.elim | (simp [St.behind] at hk)
   | func f =>
    cases a<;>first | (simp [BU] at h2; done) | (simp [St.behind] at hk)
   | tmp t=>simp [BU] at h2
   | global g=>simp [BU] at h2
 all_goals (exfalso; simp [RA,aA,QM,Vj,YM,YN,aB,YK,YJ,Tm,YR,Vm,Vn,aD,aC,Yb,Yd,YO,YL,Tp,hop] at hb)
def LS (M L:Array Bool) (S:List Nat):Prop:=M.size=L.size/\∀ k,M.getD k true=(L.getD k true||Ai S k)
theorem LS.refl (L:Array Bool):LS L L []:=⟨rfl,fun k=>by simp [Ai]⟩
theorem M3 {M:Array Bool} {k:Nat}:M.getD k false=(M.getD k true&&decide (k<M.size)):=by
 rw [Array.getD_eq_getD_getElem?,Array.getD_eq_getD_getElem?]
 by_cases h:k<M.size
 ·simp [h]
 ·simp [h]
theorem LS.getF {M L:Array Bool} {S:List Nat} (h:LS M L S) (k:Nat):M.getD k false=(L.getD k false||(Ai S k&&decide (k<L.size))):=by
 rw [M3,M3,h.2,h.1]
 cases L.getD k true<;>cases Ai S k<;>simp
theorem J3 {M:Array Bool} {i k:Nat}:(M.setIfInBounds i true).getD k true=(M.getD k true||(i==k)):=by
 by_cases h:i=k
 ·subst h
  rw [Array.getD_eq_getD_getElem?]
  by_cases h2:i<M.size
  ·simp [h2]
  ·simp [h2]
 ·rw [getD_set_ne true h]
  simp [h]
theorem LS.set {M L:Array Bool} {S:List Nat} (h:LS M L S) (i:Nat):LS (M.setIfInBounds i true) (L.setIfInBounds i true) S:=by
 refine ⟨by simp [h.1],fun k=>?_⟩
 rw [J3,J3,h.2]
 cases L.getD k true<;>cases Ai S k<;>cases (i==k)<;>rfl
theorem LS.early {M L:Array Bool} {S:List Nat} (h:LS M L S) (f:Nat):LS (M.setIfInBounds f true) L (f::S):=by
 refine ⟨by simp [h.1],fun k=>?_⟩
 rw [J3,h.2]
 simp only [Ai]
 by_cases e:f=k<;>simp [e]
theorem LS.adopt {M L:Array Bool} {a b:List Nat} {i:Nat} (h:LS M L (a++i::b)):LS M (L.setIfInBounds i true) (a++b):=by
 refine ⟨by simp [h.1],fun k=>?_⟩
 rw [J3,h.2,Il,Il]
 simp only [Ai]
 by_cases e:i=k
 ·simp [e]
 ·have:(i==k)=false:=by simpa using e
  rw [this]
  cases L.getD k true<;>cases Ai a k<;>cases Ai b k<;>simp [e]
theorem Yi (L:Array Bool):∀ (fl:List Nat),(Wh L fl).size=L.size/\∀ k,(Wh L fl).getD k true=(L.getD k true||Ai fl k):=by
 intro fl
 unfold Wh
 induction fl generalizing L with
 | nil=>exact ⟨rfl,fun k=>by simp [Ai]⟩
 | cons f fl ih =>
  obtain ⟨h1,h2⟩:=ih (L.setIfInBounds f true)
  refine ⟨by simpa using h1,fun k=>?_⟩
  rw [List.foldl_cons,h2,J3]
  simp only [Ai]
  by_cases e:f=k
  ·simp [e]
  ·have:(f==k)=false:=by simpa using e
   rw [this,if_neg e,Bool.or_false]
def Sq:List Bool->Nat
 | []=>0
 | b::r=>(if b=true then 0 else 1)+Sq r
theorem Ue:∀ (l:List Bool) (i:Nat),l[i]? = some false->Sq (l.set i true)+1=Sq l
 | [],i,h=>by simp at h
 | b::l,0,h=>by simp at h; subst h; simp [Sq]; omega
 | b::l,i+1,h=>by
  have:=Ue l i (by simpa using h)
  simp only [List.set_cons_succ,Sq]
  omega
theorem MO {M:Array Bool} {i:Nat} (h:M.getD i true=false):Sq (M.setIfInBounds i true).toList+1=Sq M.toList:=by
 rw [Array.toList_setIfInBounds]
 apply Ue
 rw [Array.getD_eq_getD_getElem?] at h
 cases hq:M[i]? with
 | none=>rw [hq] at h; cases h
 | some b=>rw [hq] at h; simp at h; subst h; simpa using hq
theorem Yj (n:Nat):Sq (List.replicate n false)=n:=by
 induction n with
 | zero=>rfl
 | succ n ih=>rw [List.replicate_succ]; simp [Sq,ih]; omega
def Vw (P:Program) (ops:Array Oper) (wb:World) (H:HP) (φ:Aq) (st:List AC) (act:Act) (w:World) (f b:Nat):Prop :=
 ∃ o d obj,ops[f]? = some o/\o.dst=some d/\d<act.tmps.size/\Yf P o act obj/\act.tmps.getD d undef=QN o.op b/\M1 H φ st w b obj/\wb.heap.size<=b
theorem Vw.put {ops:Array Oper} {wb:World} {H H':HP} {φ φ':Aq} {st st':List AC} {act:Act} {w w':World} {f b:Nat} (h:Vw P ops wb H φ st act w f b) {oi:Oper} {v:Value}
  (hsel:∀ (j:Nat) (o:Oper) cs b,ops[j]? = some o->o.op≠.select cs b) (hap:∀ o,ops[f]? = some o->oi.apart ops o=true) (hl:∀ obj,M1 H φ st w b obj->M1 H' φ' st' w' b obj):Vw P ops wb H' φ' st' (act.put oi.dst v) w' f b:=by
 obtain ⟨o,d,obj,h1,h2,h3,h4,h5,h6,h7⟩:=h
 obtain ⟨a1,a2,_⟩:=Oper.apart_spec (hap o h1)
 refine ⟨o,d,obj,h1,h2,by rw [DV]; exact h3,fun w2=>?_,?_,hl obj h6,h7⟩
 ·rw [execOp_put o (fun cs b=>hsel f o cs b h1) act oi.dst v a1]
  exact h4 w2
 ·rw [Gg (fun e=>a2 d e h2)]
  exact h5
theorem TG {ops:Array Oper} {i:Nat} {js:List Nat} (h:XX ops i js=true) {j:Nat} (hj:j∈js):∃ a b,ops[i]? = some a/\ops[j]? = some b/\a.apart ops b=true/\b.apart ops a=true:=by
 have:=Ak.1 h j hj
 split at this
 ·rename_i a b ha hb
  simp only [J] at this
  exact ⟨a,b,ha,hb,this.1,this.2⟩
 ·cases this
theorem LZ {ops:Array Oper}:∀ {l:List Nat},Jz ops l=true->∀ i∈l,∀ j∈l,i≠j->∃ a b,ops[i]? = some a/\ops[j]? = some b/\a.apart ops b=true
 | [],_,i,hi,_,_,_=>by cases hi
 | x::l,h,i,hi,j,hj,hne=>by
  simp only [Jz,J] at h
  rcases AL.1 hi with e1 | hi
  ·subst e1
   rcases AL.1 hj with e2 | hj
   ·exact absurd e2.symm hne
   ·obtain ⟨a,b,h1,h2,h3,_⟩:=TG h.1.2 hj
    exact ⟨a,b,h1,h2,h3⟩
  ·rcases AL.1 hj with e2 | hj
   ·rw [e2]
    obtain ⟨a,b,h1,h2,_,h4⟩:=TG h.1.2 hi
    exact ⟨b,a,h2,h1,h4⟩
   ·exact LZ h.2 i hi j hj hne
theorem N5 {s:St} {T:List (Nat×Nat)}:∀ {fl:List (Nat×CB)},Ni s T fl=true->∀ f∈fl,f.2.floatOk s=true/\Nh s f.2.dsts=true/\Da f.2.dsts T=true
 | [],_,f,hf=>by cases hf
 | g::fl,h,f,hf=>by
  simp only [Ni,J] at h
  rcases AL.1 hf with rfl | hf
  ·exact ⟨h.1.1.1,h.1.1.2,h.1.2⟩
  ·exact N5 h.2 f hf
theorem Zw {n:Nat} {ops:Array Oper} {anc:List (List Nat)} {cal:CV} (hcal:DG P cal) (hA:VM ops anc=true) (hsel:Region.noSelect ops=true) {ρ:Type} {kn:St->Option ρ} {r:ρ} {N:Act->World->Prop}
  {Hb:HP} {φb:Aq} {stb:List AC} {wb:World} {ab:Act}
  (hN:∀ s' act' w' H' φ',kn s'=some r->AH Hb φb stb wb H' φ' s'.st w'->B5 H' φ' s'.st s'.fr act'.tmps->act'.tmps.size=n->act'.defers=ab.defers->N act' w') :
  ∀ (t:DT) (fuel:Nat) (F S:List Nat) (B:Nat->Nat) (T:List (Nat×Nat)) (TT:Qb) (L M:Array Bool) (s:St) (act:Act) (w:World) (H:HP) (φ:Aq),RB P n ops t L F=true->LS M L S->(∀ f∈S,Ai F f=true/\f∈Region.ready .any ops L) ->
   S.Nodup->(∀ f∈S,∀ g∈S,f≠g->B f≠B g)->Sq M.toList<=fuel->Sp ops L->Sp ops M ->
   AH Hb φb stb wb H φ s.st w->B5 H φ s.st s.fr act.tmps->act.tmps.size=n->act.defers=ab.defers->QR act w T TT->(∀ f∈S,∀ p∈TT,Ai (anc.getD f []) p.1=false)->(∀ f∈S,Vw P ops wb H φ s.st act w f (B f))->dK cal anc kn t T s=some r ->
   M2 P ops (fun e a w=>match e with | .normal=>N a w | _=>False) (fun i=>anc.getD i []) fuel TT M act w:=by
 have hsnd:=Region.noSelect_spec hsel
 intro t
 induction t with
 | done =>
  intro fuel F S B T TT L M s act w H φ hb hls hS _ _ hfu _ _ hB hf hn hde _ _ _ hk
  simp only [RB,J,List.isEmpty_iff] at hb
  have hS0:S=[]:=by
   cases S with
   | nil=>rfl
   | cons f S =>
    have:=(hS f (by simp)).2
    rw [hb.1] at this
    cases this
  subst hS0
  have hM:Region.ready .any ops M=[]:=by
   rw [List.eq_nil_iff_forall_not_mem]
   intro j hj
   obtain ⟨h1,o,h2,h3⟩:=mem_ready.1 hj
   have:j∈Region.ready .any ops L:=mem_ready.2 ⟨by have:=hls.2 j; simp only [Ai,Bool.or_false] at this; rw [<- this]; exact h1,o,h2,fun e he hbi=>by have:=hls.getF e.on; simp only [Ai,Bool.false_and,Bool.or_false] at this; rw [<- this]; exact h3 e he hbi⟩
   rw [hb.1] at this
   cases this
  have hq:=hN s act w H φ hk hB hf hn hde
  cases fuel with
  | zero=>exact ⟨hM,hq⟩
  | succ fuel=>exact ⟨fun _=>hq,fun i hi=>by rw [hM] at hi; cases hi⟩
 | test c a b iha ihb =>
  intro fuel F S B T TT L M s act w H φ hb hls hS hnd hBd hfu hsh hshM hB hf hn hde hp hAn hpf hk
  simp only [RB,J] at hb
  simp only [dK] at hk
  split at hk
  ·rename_i t ht
   have hfc:∀ t',t=t'->B5 H φ (s.put c (.bool t')).st (s.put c (.bool t')).fr act.tmps:=by
    intro t' e q
    subst e
    simp only [St.put,B9]
    split
    ·rename_i e; subst e; have:=hf c; rw [ht] at this; exact this
    ·exact hf q
   split at hk
   ·rename_i e
    exact iha fuel F S B T TT L M (s.put c (.bool true)) act w H φ hb.1 hls hS hnd hBd hfu hsh hshM hB (hfc true e) hn hde hp hAn hpf hk
   ·rename_i e
    exact ihb fuel F S B T TT L M (s.put c (.bool false)) act w H φ hb.2 hls hS hnd hBd hfu hsh hshM hB (hfc false (by simpa using e)) hn hde hp hAn hpf hk
  ·cases hk
 | fork i ai ri j aj rj ihi ihj =>
  intro fuel F S B T TT L M s act w H φ hb hls hS hnd hBd hfu hsh hshM hB hf hn hde hp hAn hpf hk
  simp only [RB,J,List.isEmpty_iff] at hb
  obtain ⟨⟨⟨⟨⟨⟨hF,hri⟩,hall⟩,hoi⟩,hoj⟩,hbi⟩,hbj⟩:=hb
  have hS0:S=[]:=by
   cases S with
   | nil=>rfl
   | cons f S =>
    have:=(hS f (by simp)).1
    rw [hF] at this
    cases this
  subst hS0
  simp only [dK] at hk
  obtain ⟨hki,hkj⟩:=O_.1 hk
  have hq:∀ k∈Region.ready .any ops M,k∈Region.ready .any ops L:=fun k hk=>by
   obtain ⟨h1,o,h2,h3⟩:=mem_ready.1 hk
   exact mem_ready.2 ⟨by have:=hls.2 k; simp only [Ai,Bool.or_false] at this; rw [<- this]; exact h1,o,h2,fun e he hbi=>by have:=hls.getF e.on; simp only [Ai,Bool.false_and,Bool.or_false] at this; rw [<- this]; exact h3 e he hbi⟩
  have hqL:∀ k∈Region.ready .any ops L,k∈Region.ready .any ops M:=fun k hk=>by
   obtain ⟨h1,o,h2,h3⟩:=mem_ready.1 hk
   exact mem_ready.2 ⟨by rw [hls.2,h1]; rfl,o,h2,fun e he hbi=>by rw [hls.getF,h3 e he hbi]; rfl⟩
  obtain ⟨i0,hi0⟩:∃ k,k∈Region.ready .any ops L:=⟨i,by simpa using hri⟩
  obtain ⟨fuel,rfl⟩:∃ k,fuel=k+1:=⟨fuel-1,by
   have:=MO (mem_ready.1 (hqL i0 hi0)).1
   omega⟩
  refine ⟨fun h=>(by have:=hqL i0 hi0; rw [h] at this; cases this),fun k hkM=>?_⟩
  have hcnt:=MO (mem_ready.1 hkM).1
  have hkL:=hq k hkM
  have hkk:=Ak.1 hall k hkL
  simp only [EN,beq_iff_eq] at hkk
  rcases hkk with e | e
  ·subst e
   split at hoi
   case h_2=>cases hoi
   rename_i o hoi
   simp only [J,decide_eq_true_eq] at hoi
   obtain ⟨⟨hg,hob⟩,hds⟩:=hoi
   split at hki
   case isFalse=>cases hki
   rename_i hc
   simp only [J] at hc
   obtain ⟨hc2,hc3⟩:=hc
   have hfr:Da o.dst.toList T=true:=by rw [hds]; exact hc2
   unfold wpOp
   simp only [hoi,Kk (g:=none) hf rfl hg,if_true]
   refine .inl (Rd hcal hob ρ (fun s'=>dK cal anc kn ri (DC (anc.getD k []) T) s') r s act w H φ _ _ hB.sr hf hn hki fun s' v w' H' φ' h1 h2 h3 h4=>?_)
   have hpend:QR (act.put o.dst v) w' (DC (anc.getD k []) T) (Jf (anc.getD k []) TT):=by
    intro p hp'
    obtain ⟨hp1,hp2⟩:=C6 p hp'
    obtain ⟨q1,q2⟩:=hp p hp1
    rcases q2 with q2 | ⟨x,hx,w0,e⟩
    ·exact ⟨q2 w',.inl q2⟩
    ·have hxf:=Ho hfr _ hx
     have hgd:(act.put o.dst v).tmps.getD x undef=act.tmps.getD x undef:=Gg (fun e=>hxf (by rw [e]; simp))
     refine ⟨?_,.inr ⟨x,FI hx hp2,w0,by rw [hgd]; exact e⟩⟩
     have hun:=MN hB.sr h2 h4.mem (hf x) (J2 hc3 _ hx hp2)
     rw [e] at q1 ⊢
     intro b hb'
     rw [hun b hb']
     exact q1 b hb'
   exact ⟨fun p hp'=>(hpend p hp').1,ihi fuel [] [] B _ _ (L.setIfInBounds k true) _ s' _ w' H' φ' hbi (hls.set k) (fun f hf'=>by cases hf') List.nodup_nil (fun f hf'=>by cases hf') (by omega) (hsh.set hkL) (hshM.set hkM) (hB.trans h2) h3 (DV.trans hn) (Cw.trans hde) hpend (fun f hf'=>by cases hf') (fun f hf'=>by cases hf') h1⟩
  ·subst e
   split at hoj
   case h_2=>cases hoj
   rename_i o hoi
   simp only [J,decide_eq_true_eq] at hoj
   obtain ⟨⟨hg,hob⟩,hds⟩:=hoj
   split at hkj
   case isFalse=>cases hkj
   rename_i hc
   simp only [J] at hc
   obtain ⟨hc2,hc3⟩:=hc
   have hfr:Da o.dst.toList T=true:=by rw [hds]; exact hc2
   unfold wpOp
   simp only [hoi,Kk (g:=none) hf rfl hg,if_true]
   refine .inl (Rd hcal hob ρ (fun s'=>dK cal anc kn rj (DC (anc.getD k []) T) s') r s act w H φ _ _ hB.sr hf hn hkj fun s' v w' H' φ' h1 h2 h3 h4=>?_)
   have hpend:QR (act.put o.dst v) w' (DC (anc.getD k []) T) (Jf (anc.getD k []) TT):=by
    intro p hp'
    obtain ⟨hp1,hp2⟩:=C6 p hp'
    obtain ⟨q1,q2⟩:=hp p hp1
    rcases q2 with q2 | ⟨x,hx,w0,e⟩
    ·exact ⟨q2 w',.inl q2⟩
    ·have hxf:=Ho hfr _ hx
     have hgd:(act.put o.dst v).tmps.getD x undef=act.tmps.getD x undef:=Gg (fun e=>hxf (by rw [e]; simp))
     refine ⟨?_,.inr ⟨x,FI hx hp2,w0,by rw [hgd]; exact e⟩⟩
     have hun:=MN hB.sr h2 h4.mem (hf x) (J2 hc3 _ hx hp2)
     rw [e] at q1 ⊢
     intro b hb'
     rw [hun b hb']
     exact q1 b hb'
   exact ⟨fun p hp'=>(hpend p hp').1,ihj fuel [] [] B _ _ (L.setIfInBounds k true) _ s' _ w' H' φ' hbj (hls.set k) (fun f hf'=>by cases hf') List.nodup_nil (fun f hf'=>by cases hf') (by omega) (hsh.set hkL) (hshM.set hkM) (hB.trans h2) h3 (DV.trans hn) (Cw.trans hde) hpend (fun f hf'=>by cases hf') (fun f hf'=>by cases hf') h1⟩
 | skip i g d rt ih =>
  intro fuel F S B T TT L M s act w H φ hb hls hS hnd hBd hfu hsh hshM hB hf hn hde hp hAn hpf hk
  simp only [RB,J,Cj] at hb
  obtain ⟨⟨⟨⟨hr,hfree⟩,hiF⟩,ho⟩,hb⟩:=hb
  split at ho
  case h_2=>cases ho
  rename_i o hoi
  simp only [J,decide_eq_true_eq] at ho
  obtain ⟨⟨hg,rfl⟩,hdn⟩:=ho
  simp only [dK] at hk
  split at hk
  case isFalse=>cases hk
  rename_i hc
  simp only [J] at hc
  have hri:i∈Region.ready .any ops L:=by simpa using hr
  have hiS:i∉S:=fun h=>by have:=(hS i h).1; rw [hiF] at this; cases this
  have hriM:i∈Region.ready .any ops M:=by
   obtain ⟨h1,o',h2,h3⟩:=mem_ready.1 hri
   exact mem_ready.2 ⟨by rw [hls.2,h1,AU.2 hiS]; rfl,o',h2,fun e he hbi=>by rw [hls.getF,h3 e he hbi]; rfl⟩
  have hfreeL:=Region.free_spec hoi hfree
  have hfreeM:∀ j oj,ops[j]? = some oj->j≠i->M.getD j true=false->(∀ e∈oj.after,Region.binds .any e=true->e.on≠i)->o.apart ops oj=true:=fun j oj h1 h2 h3 h4 =>
   hfreeL j oj h1 h2 (by rw [hls.2] at h3; simp only [Bool.or_eq_false_iff] at h3; exact h3.1) h4
  have hcnt:=MO (mem_ready.1 hriM).1
  obtain ⟨fuel,rfl⟩:∃ k,fuel=k+1:=⟨fuel-1,by omega⟩
  refine N4 hA (C:=fun _=>True) hoi hsnd (fun c a w h=>h) fuel TT M act w hshM hfreeM hriM (.inr ⟨Ud hf hc.1 hg,rfl⟩) trivial (fun p hp'=>(hp p hp').1) ?_
  have hf2:B5 H φ s.st (UI o.dst .void s.fr) (act.put o.dst undef).tmps:=by
   cases hdst:o.dst with
   | none=>exact hf
   | some d =>
    rw [hdst] at hdn
    simp only [decide_eq_true_eq] at hdn
    exact hf.put (a:=.void) (v:=undef) (by omega) rfl
  have hAn':∀ (C:World->Prop),∀ f∈S,∀ p∈(i,C)::TT,Ai (anc.getD f []) p.1=false:=fun C f hf' p hp'=>by
   rcases AL.1 hp' with rfl | hp'
   ·rw [AU]
    intro hm
    have:=Hx hA hsh f (By (hS f hf').2).1 (By (hS f hf').2).2 _ hm
    rw [CQ hri] at this
    cases this
   ·exact hAn f hf' p hp'
  refine ih fuel F S B T _ (L.setIfInBounds i true) _ ⟨UI o.dst .void s.fr,s.st⟩ _ w H φ hb (hls.set i) (fun f hf'=>⟨(hS f hf').1,ready_mono (hS f hf').2 (fun e=>hiS (e▸hf'))⟩) hnd hBd (by omega) (hsh.set hri) (hshM.set hriM) hB hf2 (DV.trans hn) (Cw.trans hde) ?_ (hAn' _) (fun f hf'=>?_) hk
  ·intro p hp'
   rcases AL.1 hp' with rfl | hp'
   ·exact ⟨trivial,.inl fun _=>trivial⟩
   ·exact (hp.put hc.2) p hp'
  ·refine (hpf f hf').put hsnd (fun of hof=>hfreeL f of hof (fun e=>hiS (e▸hf')) (mem_ready.1 (hS f hf').2).1 (fun e he hbi heq=>?_)) (fun _ h=>h)
   obtain ⟨_,o',h2,h3⟩:=mem_ready.1 (hS f hf').2
   rw [hof] at h2
   cases h2
   have:=h3 e he hbi
   rw [heq,CQ hri] at this
   cases this
 | take i g ao rt ih =>
  intro fuel F S B T TT L M s act w H φ hb hls hS hnd hBd hfu hsh hshM hB hf hn hde hp hAn hpf hk
  simp only [RB,J,Cj] at hb
  obtain ⟨⟨⟨⟨⟨hr,hfree⟩,hiF⟩,hval⟩,ho⟩,hb⟩:=hb
  split at ho
  case h_2=>cases ho
  rename_i o hoi
  simp only [J,decide_eq_true_eq] at ho
  obtain ⟨⟨hg,hob⟩,hds⟩:=ho
  simp only [dK] at hk
  split at hk
  case isFalse=>cases hk
  rename_i hc
  simp only [J] at hc
  obtain ⟨hc,hns⟩:=hc
  have hri:i∈Region.ready .any ops L:=by simpa using hr
  have hiS:i∉S:=fun h=>by have:=(hS i h).1; rw [hiF] at this; cases this
  have hriM:i∈Region.ready .any ops M:=by
   obtain ⟨h1,o',h2,h3⟩:=mem_ready.1 hri
   exact mem_ready.2 ⟨by rw [hls.2,h1,AU.2 hiS]; rfl,o',h2,fun e he hbi=>by rw [hls.getF,h3 e he hbi]; rfl⟩
  have hfreeL:=Region.free_spec hoi hfree
  have hfreeM:∀ j oj,ops[j]? = some oj->j≠i->M.getD j true=false->(∀ e∈oj.after,Region.binds .any e=true->e.on≠i)->o.apart ops oj=true:=fun j oj h1 h2 h3 h4 =>
   hfreeL j oj h1 h2 (by rw [hls.2] at h3; simp only [Bool.or_eq_false_iff] at h3; exact h3.1) h4
  have hcnt:=MO (mem_ready.1 hriM).1
  obtain ⟨fuel,rfl⟩:∃ k,fuel=k+1:=⟨fuel-1,by omega⟩
  have info:∃ s' v H' φ',dK cal anc kn rt (Ng i ao T) s'=some r/\AH H φ s.st w H' φ' s'.st w/\B5 H' φ' s'.st s'.fr (act.put o.dst v).tmps/\∀ w2,Bn o act w w2->(execOp act.eval o).run P w2=.ok (.value v) w2:=by
   refine Yh (P:=P) (o:=o) (a:=act) (w:=w) (Rd hcal hob ρ (fun s'=>dK cal anc kn rt (Ng i ao T) s') r s act w H φ _ _ hB.sr hf hn hk fun s' v w' H' φ' h1 h2 h3 h4=>?_)
   obtain ⟨e,h5⟩:=h4.val hval
   subst e
   exact ⟨s',v,H',φ',h1,h2,h3,h5⟩
  obtain ⟨s',v,H',φ',hk',hst,hf',hrun⟩:=info
  refine N4 hA (C:=Bn o act w) hoi hsnd (fun c a w h=>h) fuel TT M act w hshM hfreeM hriM (.inl ⟨Kk hf hc.1 hg,hrun⟩) (Bn.refl o act w) (fun p hp'=>(hp p hp').1) ?_
  have hfr:Da o.dst.toList T=true:=by rw [hds]; exact hc.2
  have hAn':∀ (C:World->Prop),∀ f∈S,∀ p∈(i,C)::TT,Ai (anc.getD f []) p.1=false:=fun C f hf' p hp'=>by
   rcases AL.1 hp' with rfl | hp'
   ·rw [AU]
    intro hm
    have:=Hx hA hsh f (By (hS f hf').2).1 (By (hS f hf').2).2 _ hm
    rw [CQ hri] at this
    cases this
   ·exact hAn f hf' p hp'
  refine ih fuel F S B _ _ (L.setIfInBounds i true) _ s' _ w H' φ' hb (hls.set i) (fun f hf'=>⟨(hS f hf').1,ready_mono (hS f hf').2 (fun e=>hiS (e▸hf'))⟩) hnd hBd (by omega) (hsh.set hri) (hshM.set hriM) (hB.trans hst) hf' (DV.trans hn) (Cw.trans hde) ?_ (hAn' _) (fun f hfS=>?_) hk'
  ·intro p hp'
   rcases AL.1 hp' with rfl | hp'
   ·refine ⟨Bn.refl o act w,?_⟩
    by_cases hload:∃ d x m,ao=.load d (.t x) m
    ·obtain ⟨d,x,m,rfl⟩:=hload
     simp only [RA] at hob
     obtain ⟨t,ht⟩:=XY hob
     right
     have hxd:o.dst≠some x:=by
      have hd1:o.dst=some d:=by
       simp only [RP,J] at hob
       exact (Am hob.1).1
      rw [hd1]
      intro e
      cases e
      simp [CB.notSelf] at hns
     refine ⟨x,by simp [Ng],w,?_⟩
     funext w2
     simp only [Bn,ht,Act.eval]
     rw [Gg hxd]
    ·left
     intro w2
     unfold Bn
     split
     ·rename_i t y hop
      exfalso
      apply hload
      exact Wi hob hop hval hk
     ·trivial
   ·obtain ⟨h1,h2⟩:=(hp.put hfr) p hp'
    refine ⟨h1,?_⟩
    rcases h2 with h2 | ⟨x,hx,w0,e⟩
    ·exact .inl h2
    ·refine .inr ⟨x,?_,w0,e⟩
     unfold Ng
     split
     ·exact List.mem_cons_of_mem _ hx
     ·exact hx
  ·refine (hpf f hfS).put hsnd (fun of hof=>hfreeL f of hof (fun e=>hiS (e▸hfS)) (mem_ready.1 (hS f hfS).2).1 (fun e he hbi heq=>?_)) (fun _ h=>h.step hst)
   obtain ⟨_,o',h2,h3⟩:=mem_ready.1 (hS f hfS).2
   rw [hof] at h2
   cases h2
   have:=h3 e he hbi
   rw [heq,CQ hri] at this
   cases this
 | only i g ao e fl rt ih =>
  intro fuel
  induction fuel using Nat.strongRecOn with
  | _ fuel ihf =>
  intro F S B T TT L M s act w H φ hb hls hS hnd hBd hfu hsh hshM hB hf hn hde hp hAn hpf hk
  have hb0:=hb
  have hk0:=hk
  simp only [RB,J] at hb
  obtain ⟨⟨⟨⟨⟨⟨⟨hr,hrF⟩,hFs⟩,hFi⟩,hfl⟩,hap⟩,ho⟩,hb⟩:=hb
  split at ho
  case h_2=>cases ho
  rename_i o hoi
  simp only [J,decide_eq_true_eq] at ho
  obtain ⟨⟨hg,hob⟩,hds⟩:=ho
  simp only [dK] at hk
  split at hk
  case isFalse=>cases hk
  rename_i hc
  simp only [J] at hc
  obtain ⟨⟨⟨⟨⟨hc1,hc2⟩,hc3⟩,hc4⟩,hc6⟩,hc5⟩:=hc
  have hri:i∈Region.ready .any ops L:=by simpa using hr
  have hfr:Da o.dst.toList T=true:=by rw [hds]; exact hc2
  have hanc:∀ k∈anc.getD i [],k≠i:=fun k hk e=>by
   have:=Hx hA hsh i (By hri).1 (By hri).2 k hk
   rw [e,CQ hri] at this
   cases this
  have hFsub:∀ f∈S,f=i\/f∈fl.map (·.1):=fun f hfS=>by
   have h1:=(hS f hfS).1
   have h2:=Ak.1 hFs f (BZ.1 h1)
   simp only [EN,beq_iff_eq] at h2
   exact h2.imp id BZ.1
  by_cases hiS:i∈S
  ·-- it came up before: now the boxes are told
   obtain ⟨oa,d,obj,q1,q2,q3,q4,q5,q6,q7⟩:=hpf i hiS
   rw [hoi] at q1
   cases q1
   have hfi:ao.isFloat=true:=by
    have h1:=(hS i hiS).1
    rw [h1] at hFi
    simp only [Bool.not_true,Bool.false_or,J] at hFi
    exact hFi.2
   have hfk:ao.floatOk s=true:=by
    have h1:=(hS i hiS).1
    rw [h1] at hFi
    simp only [Bool.not_true,Bool.false_or,J] at hFi
    rw [hFi.1] at hc5
    simpa using hc5
   obtain ⟨s',H',φ',hk',hst',hf',hoth⟩:=XW hob hfi hfk hB hf hk q4 (fun d' hd'=>by rw [q2] at hd'; cases hd'; exact q5) q6 q7
   obtain ⟨S1,S2,rfl⟩:=List.append_of_mem hiS
   have hnd2:i∉S1++S2/\(S1++S2).Nodup:=by
    rw [List.nodup_append] at hnd
    obtain ⟨n1,n2,n3⟩:=hnd
    rw [List.nodup_cons] at n2
    refine ⟨fun h=>?_,?_⟩
    ·rcases BE.1 h with h | h
     ·exact n3 i h i (by simp) rfl
     ·exact n2.1 h
    ·rw [List.nodup_append]
     exact ⟨n1,n2.2,fun a ha b hb=>n3 a ha b (by simp [hb])⟩
   have hsub:∀ f∈S1++S2,f∈S1++i::S2:=fun f h=>by
    rcases BE.1 h with h | h
    ·simp [h]
    ·simp [h]
   refine ih fuel (fl.map (·.1)) (S1++S2) B _ _ (L.setIfInBounds i true) M s' act w H' φ' hb hls.adopt (fun f hf'=>?_) hnd2.2 (fun f hf' g hg'=>hBd f (hsub f hf') g (hsub g hg')) hfu (hsh.set hri) hshM hst' hf' hn hde ?_ (fun f hf'=>hAn f (hsub f hf')) (fun f hf'=>?_) hk'
   ·have hne:f≠i:=fun e=>hnd2.1 (e▸hf')
    refine ⟨BZ.2 ((hFsub f (hsub f hf')).resolve_left hne),ready_mono (hS f (hsub f hf')).2 hne⟩
   ·intro p hp'
    obtain ⟨h1,h2⟩:=hp p hp'
    refine ⟨h1,?_⟩
    rcases h2 with h2 | ⟨x,hx,w0,e⟩
    ·exact .inl h2
    ·exact .inr ⟨x,FI hx (hAn i hiS p hp'),w0,e⟩
   ·obtain ⟨o2,d2,obj2,p1,p2,p3,p4,p5,p6,p7⟩:=hpf f (hsub f hf')
    have hne:f≠i:=fun e=>hnd2.1 (e▸hf')
    exact ⟨o2,d2,obj2,p1,p2,p3,p4,p5,hoth _ _ (hBd f (hsub f hf') i hiS hne) p6,p7⟩
  ·have hriM:i∈Region.ready .any ops M:=by
    obtain ⟨h1,o',h2,h3⟩:=mem_ready.1 hri
    exact mem_ready.2 ⟨by rw [hls.2,h1,AU.2 hiS]; rfl,o',h2,fun e he hbi=>by rw [hls.getF,h3 e he hbi]; rfl⟩
   have hcnt:=MO (mem_ready.1 hriM).1
   obtain ⟨fuel,rfl⟩:∃ k,fuel=k+1:=⟨fuel-1,by omega⟩
   have hSfl:∀ f∈S,f∈fl.map (·.1):=fun f hf'=>(hFsub f hf').resolve_left (fun e=>hiS (e▸hf'))
   refine ⟨fun h=>(by rw [h] at hriM; cases hriM),fun j hj=>?_⟩
   have hcj:=MO (mem_ready.1 hj).1
   by_cases hji:j=i
   ·subst hji
    unfold wpOp
    simp only [hoi,Kk hf hc1 hg,if_true]
    refine .inl (Rd hcal hob ρ (fun s'=>dK cal anc kn rt (DC (anc.getD j []) T) s') r s act w H φ _ _ hB.sr hf hn hk fun s' v w' H' φ' h1 h2 h3 h4=>?_)
    have hpend:QR (act.put o.dst v) w' (DC (anc.getD j []) T) (Jf (anc.getD j []) TT):=by
     intro p hp'
     obtain ⟨hp1,hp2⟩:=C6 p hp'
     obtain ⟨q1,q2⟩:=hp p hp1
     rcases q2 with q2 | ⟨x,hx,w0,e⟩
     ·exact ⟨q2 w',.inl q2⟩
     ·have hxf:=Ho hfr _ hx
      have hgd:(act.put o.dst v).tmps.getD x undef=act.tmps.getD x undef:=Gg (fun e=>hxf (by rw [e]; simp))
      refine ⟨?_,.inr ⟨x,FI hx hp2,w0,by rw [hgd]; exact e⟩⟩
      have hun:=MN hB.sr h2 h4.mem (hf x) (J2 hc3 _ hx hp2)
      rw [e] at q1 ⊢
      intro b hb'
      rw [hun b hb']
      exact q1 b hb'
    refine ⟨fun p hp'=>(hpend p hp').1,ih fuel (fl.map (·.1)) S B _ _ (L.setIfInBounds j true) _ s' _ w' H' φ' hb (hls.set j) (fun f hf'=>⟨BZ.2 (hSfl f hf'),ready_mono (hS f hf').2 (fun e=>hiS (e▸hf'))⟩) hnd hBd (by omega) (hsh.set hri) (hshM.set hj) (hB.trans h2) h3 (DV.trans hn) (Cw.trans hde) hpend (fun f hf' p hp'=>hAn f hf' p (C6 p hp').1) (fun f hf'=>?_) h1⟩
    obtain ⟨a,b,k1,k2,k3⟩:=LZ hap j (by simp) f (List.mem_cons_of_mem _ (hSfl f hf')) (fun e=>hiS (e▸hf'))
    rw [hoi] at k1
    cases k1
    exact (hpf f hf').put hsnd (fun of hof=>by rw [k2] at hof; cases hof; exact k3) (fun _ h=>h.step h2)
   ·-- one that comes up ahead of its turn
    have hjS:j∉S:=fun h=>by
     have h1:=(mem_ready.1 hj).1
     rw [hls.2,BZ.2 h] at h1
     simp at h1
    have hjfl:j∈fl.map (·.1):=by
     rcases Classical.em (j∈fl.map (·.1)) with h | h
     ·exact h
     ·exfalso
      obtain ⟨h1,o',h2,h3⟩:=mem_ready.1 hj
      have hLF:=Yi L (fl.map (·.1))
      have hrd:j∈Region.ready .any ops (Wh L (fl.map (·.1))):=by
       refine mem_ready.2 ⟨?_,o',h2,fun e he hbi=>?_⟩
       ·rw [hLF.2,AU.2 h]
        rw [hls.2] at h1
        simp only [Bool.or_eq_false_iff] at h1
        rw [h1.1]
        rfl
       ·have:=h3 e he hbi
        rw [M3] at this ⊢
        simp only [J,decide_eq_true_eq] at this ⊢
        refine ⟨?_,by rw [hLF.1,<- hls.1]; exact this.2⟩
        rw [hLF.2]
        have h4:=this.1
        rw [hls.2] at h4
        simp only [EN] at h4 ⊢
        exact h4.imp id fun h5=>BZ.2 (hSfl _ (BZ.1 h5))
      have:=Ak.1 hrF j hrd
      simp only [beq_iff_eq] at this
      exact hji this
    obtain ⟨⟨j',aj⟩,hjm,hje⟩:=List.mem_map.1 hjfl
    simp only at hje
    subst hje
    have hfb:=Ak.1 hfl _ hjm
    obtain ⟨k1,k2,k3⟩:=N5 hc4 _ hjm
    have hpk:=Ak.1 hc6 _ hjm
    simp only [VN,J] at hfb
    obtain ⟨⟨hjr,hjfl2⟩,hfb⟩:=hfb
    split at hfb
    case h_2=>cases hfb
    rename_i oj hoj
    simp only [J,decide_eq_true_eq] at hfb
    obtain ⟨⟨⟨hjob,hjds⟩,hjg⟩,hjd⟩:=hfb
    split at hjd
    case h_2=>cases hjd
    rename_i d hdd
    simp only [J,Cj,decide_eq_true_eq] at hjd
    have hjL:j'∈Region.ready .any ops L:=by simpa using hjr
    obtain ⟨obj,hborn⟩:=Yg hjob hjfl2 k1 hB.sr hf
    have hst:AH H φ s.st w H φ s.st (w.alloc obj):=AH.grow hB.sr (World.grownBy_alloc w obj none)
    have hfrj:Da oj.dst.toList T=true:=by rw [hjds]; exact k3
    have hund:B9 s.fr d=.undef:=by
     rw [<- hjds,hdd] at k2
     simp only [Option.toList_some,Nh,Bool.and_true] at k2
     split at k2
     ·rename_i h; exact h
     ·cases k2
    have hf2:B5 H φ s.st s.fr (act.put oj.dst (QN oj.op w.heap.size)).tmps:=by
     intro t
     by_cases ht:t=d
     ·subst ht
      rw [hund]
      trivial
     ·rw [Gg (fun e=>ht (by rw [hdd] at e; cases e; rfl))]
      exact hf t
    have hpend:QR (act.put oj.dst (QN oj.op w.heap.size)) (w.alloc obj) T (Jf (anc.getD j' []) TT):=by
     intro p hp'
     obtain ⟨hp1,hp2⟩:=C6 p hp'
     obtain ⟨q1,q2⟩:=hp p hp1
     rcases q2 with q2 | ⟨x,hx,w0,e⟩
     ·exact ⟨q2 _,.inl q2⟩
     ·have hxf:=Ho hfrj _ hx
      have hgd:(act.put oj.dst (QN oj.op w.heap.size)).tmps.getD x undef=act.tmps.getD x undef:=Gg (fun e=>hxf (by rw [e]; simp))
      refine ⟨?_,.inr ⟨x,hx,w0,by rw [hgd]; exact e⟩⟩
      have hun:=MN hB.sr hst (Q6.grown (W:=[]) hB.sr (World.grownBy_alloc w obj none)) (hf x) (J2 hpk _ hx hp2)
      rw [e] at q1 ⊢
      intro b hb'
      rw [hun b hb']
      exact q1 b hb'
    have hiff:∀ f∈S,f≠j':=fun f hf' e=>hjS (e▸hf')
    unfold wpOp
    simp only [hoj,Hw (o:=oj) (Option.isNone_iff_eq_none.1 hjg) trivial,if_true]
    refine .inl (LT (hborn w) ⟨fun p hp'=>(hpend p hp').1,?_⟩)
    have hbF:RB P n ops (.only i g ao e fl rt) L (fl.map (·.1))=true:=by
     have hni:Ai (fl.map (·.1)) i=false:=by
      have:=hap
      simp only [Jz,J,Cj] at this
      exact this.1.1
     simp only [RB,J] at hb0 ⊢
     obtain ⟨⟨⟨⟨⟨⟨⟨z1,z2⟩,_⟩,_⟩,z5⟩,z6⟩,z7⟩,z8⟩:=hb0
     exact ⟨⟨⟨⟨⟨⟨⟨z1,z2⟩,Ak.2 fun f hf'=>by simp [BZ.2 hf']⟩,by rw [hni]; rfl⟩,z5⟩,z6⟩,z7⟩,z8⟩
    refine ihf fuel (by omega) (fl.map (·.1)) (j'::S) (fun f=>if f=j' then w.heap.size else B f) T _ L _ s _ (w.alloc obj) H φ hbF (hls.early j') ?_ (List.nodup_cons.2 ⟨hjS,hnd⟩) ?_ (by omega) hsh (hshM.set hj) (hB.trans hst) hf2 (DV.trans hn) (Cw.trans hde) hpend ?_ ?_ hk0
    ·intro f hf'
     rcases AL.1 hf' with rfl | hf'
     ·exact ⟨BZ.2 hjfl,hjL⟩
     ·exact ⟨BZ.2 (hSfl f hf'),(hS f hf').2⟩
    ·have hlt:∀ f∈S,B f<w.heap.size:=fun f hf'=>by
      obtain ⟨_,_,_,_,_,_,_,_,h6,_⟩:=hpf f hf'
      exact h6.lt
     intro f hf' g hg' hne
     rcases AL.1 hf' with e1 | hf'
     ·rcases AL.1 hg' with e2 | hg'
      ·exact absurd (e1.trans e2.symm) hne
      ·rw [if_pos e1,if_neg (hiff g hg')]
       have:=hlt g hg'
       omega
     ·rcases AL.1 hg' with e2 | hg'
      ·rw [if_pos e2,if_neg (hiff f hf')]
       have:=hlt f hf'
       omega
      ·rw [if_neg (hiff f hf'),if_neg (hiff g hg')]
       exact hBd f hf' g hg' hne
    ·intro f hf' p hp'
     rcases AL.1 hf' with rfl | hf'
     ·exact (C6 p hp').2
     ·exact hAn f hf' p (C6 p hp').1
    ·intro f hf'
     rcases AL.1 hf' with e1 | hf'
     ·subst e1
      rw [if_pos rfl]
      refine ⟨oj,d,obj,hoj,hdd,by rw [DV,hn]; exact hjd.2,fun w2=>?_,?_,M1.alloc hB.sr obj,hB.size⟩
      ·rw [execOp_put oj (fun cs b=>hsnd f oj cs b hoj) act oj.dst _ (ops:=ops) (fun d' hd'=>by
        rw [hdd] at hd'
        cases hd'
        intro hm
        have:=hjd.1
        rw [List.contains_eq_mem,decide_eq_true hm] at this
        cases this)]
       exact hborn w2
      ·rw [Ht hdd,Array.getD_eq_getD_getElem?]
       simp [hn,hjd.2]
     ·rw [if_neg (hiff f hf')]
      obtain ⟨a,b,q1,q2,q3⟩:=LZ hap j' (List.mem_cons_of_mem _ hjfl) f (List.mem_cons_of_mem _ (hSfl f hf')) (fun e=>hiff f hf' e.symm)
      rw [hoj] at q1
      cases q1
      exact (hpf f hf').put hsnd (fun of hof=>by rw [q2] at hof; cases hof; exact q3) (fun _ h=>h.step hst)
theorem Yk {n:Nat} {id:Nat} {ops:Array Oper} {anc:List (List Nat)} {t:DT} {cal:CV} (hcal:DG P cal) (h:Vv P n ops anc t=true) {ρ:Type} {kn:St->Option ρ} {r:ρ} {s:St} {act:Act} {w:World} {H:HP} {φ:Aq} {Q:Exit->Act->World->Prop}
  (hs:SR H φ s.st w) (hf:B5 H φ s.st s.fr act.tmps) (hn:act.tmps.size=n) (hk:dK cal anc kn t [] s=some r)
  (hN:∀ s' act' w' H' φ',kn s'=some r->AH H φ s.st w H' φ' s'.st w'->B5 H' φ' s'.st s'.fr act'.tmps->act'.tmps.size=n->act'.defers=act.defers->Q .normal act' w'):(Code.region id ops true).wp P Q act w:=by
 simp only [Vv,J] at h
 obtain ⟨⟨⟨hm,hsel⟩,hA⟩,hb⟩:=h
 have hst:AH H φ s.st w H φ s.st { w with drawn:=w.drawn+1 }:=AH.grow hs ⟨rfl,rfl,rfl,Nat.le_refl _,fun _ _ _=>rfl⟩
 refine wp_mono (wp_region_any hm (Q:=fun e a w=>match e with | .normal=>Q .normal a w | _=>False) (Ri (anc:=fun i=>anc.getD i []) ops.size [] _ act _ ?_)) fun e a w h=>by cases e<;>first | exact h | exact h.elim
 have hsh:Sp ops (Array.replicate ops.size false):=by
  intro k o hk' _ _ _ _
  simp [Array.getElem?_replicate] at hk'
  split at hk'<;>simp at hk'
 exact Zw (ab:=act) (N:=fun a w=>Q .normal a w) hcal hA hsel (fun s' act' w' H' φ' h1 h2 h3 h4 h5=>hN s' act' w' H' φ' h1 h2 h3 h4 h5) t ops.size [] [] (fun _=>0) [] [] (Array.replicate ops.size false) _ s act _ H φ hb (LS.refl _)
  (fun f hf=>by cases hf) List.nodup_nil (fun f hf=>by cases hf) (by simp [Yj]) hsh hsh hst hf hn rfl (fun p hp=>by cases hp) (fun f hf=>by cases hf) (fun f hf=>by cases hf) hk
def K3:List Nat->Nat
 | []=>0
 | i::r=>Nat.lor (Nat.shiftLeft 1 i) (K3 r)
def XZ (ops:Array Oper):List Nat:=ops.toList.map fun o=>K3 ((o.after.filter fun e=>Region.binds .any e).toList.map (·.on))
def ZX (m i:Nat):Bool:=Nat.beq (Nat.land (Nat.shiftRight m i) 1) 1
def HG (pm:List Nat) (m i:Nat):Bool :=
 match pm[i]? with
 | some p=>!ZX m i&&Nat.beq (Nat.land p m) p
 | none=>false
def Vx (ops:Array Oper) (anc:List (List Nat)) (i:Nat):Bool :=
 match ops[i]? with
 | none=>false
 | some oi=>(List.range ops.size).all fun j=>j==i||Ai (anc.getD i []) j||match ops[j]? with
   | some oj=>oj.after.any (fun e=>Region.binds .any e&&e.on==i)||oi.apart ops oj
   | none=>true
def VO (P:Program) (n:Nat) (ops:Array Oper) (pm:List Nat) (m:Nat) (f:Nat×CB):Bool :=
 HG pm m f.1&&f.2.isFloat&&(match ops[f.1]? with
  | some o=>RA P n o f.2&&decide (o.dst.toList=f.2.dsts)&&o.guard.isNone&&(match o.dst with
   | some d=>!(o.looksAt ops).contains d&&decide (d<n)
   | none=>false)
  | none=>false)
def VP (P:Program) (n:Nat) (ops:Array Oper) (anc:List (List Nat)) (pm:List Nat):DT->Array Bool->Nat->List Nat->Bool
 | .done,_,m,F=>(List.range ops.size).all (fun i=>!HG pm m i)&&F.isEmpty
 | .take i g ao r,L,m,F=>HG pm m i&&(Vx ops anc i||Region.free .any ops L i)&&!Ai F i&&ao.isVal&&(match ops[i]? with
   | some o=>gB ops o g&&RA P n o ao&&decide (o.dst.toList=ao.dsts)
   | none=>false)&&VP P n ops anc pm r (L.setIfInBounds i true) (Nat.lor m (Nat.shiftLeft 1 i)) F
 | .skip i g d r,L,m,F=>HG pm m i&&(Vx ops anc i||Region.free .any ops L i)&&!Ai F i&&(match ops[i]? with
   | some o=>gB ops o (some g)&&decide (o.dst=d)&&(match d with | some d=>decide (d<n) | none=>true)
   | none=>false)&&VP P n ops anc pm r (L.setIfInBounds i true) (Nat.lor m (Nat.shiftLeft 1 i)) F
 | .only i g ao e fl r,L,m,F=>HG pm m i&&(List.range ops.size).all (fun k=>k==i||!HG pm (Nat.lor m (K3 (fl.map (·.1)))) k)&&F.all (fun f=>f==i||Ai (fl.map (·.1)) f)&&(!Ai F i||(e&&ao.isFloat))
   && fl.all (VO P n ops pm m)&&Jz ops (i::fl.map (·.1))&&(match ops[i]? with
   | some o=>gB ops o g&&RA P n o ao&&decide (o.dst.toList=ao.dsts)
   | none=>false)&&VP P n ops anc pm r (L.setIfInBounds i true) (Nat.lor m (Nat.shiftLeft 1 i)) (fl.map (·.1))
 | .test _ a b,L,m,F=>VP P n ops anc pm a L m F&&VP P n ops anc pm b L m F
 | .fork i ai ri j aj rj,L,m,F=>F.isEmpty&&(HG pm m i&&HG pm m j)&&(List.range ops.size).all (fun k=>(k==i||k==j)||!HG pm m k)
   && (match ops[i]? with
   | some o=>gB ops o none&&RA P n o ai&&decide (o.dst.toList=ai.dsts)
   | none=>false)&&(match ops[j]? with
   | some o=>gB ops o none&&RA P n o aj&&decide (o.dst.toList=aj.dsts)
   | none=>false)&&VP P n ops anc pm ri (L.setIfInBounds i true) (Nat.lor m (Nat.shiftLeft 1 i)) []&&VP P n ops anc pm rj (L.setIfInBounds j true) (Nat.lor m (Nat.shiftLeft 1 j)) []
def Xa (P:Program) (n:Nat) (ops:Array Oper) (anc:List (List Nat)) (t:DT):Bool :=
 P.follows .mixedOrders&&Region.noSelect ops&&VM ops anc&&VP P n ops anc (XZ ops) t (Array.replicate ops.size false) 0 []
theorem Yl (m i:Nat):ZX m i=m.testBit i:=by
 have h:Nat.land (Nat.shiftRight m i) 1=(m >>> i) &&& 1:=rfl
 unfold ZX
 rw [h,Nat.testBit,Nat.and_comm,Nat.one_and_eq_mod_two]
 have:=Nat.mod_two_eq_zero_or_one (m >>> i)
 rcases this with e | e<;>rw [e]<;>rfl
theorem Ym (m i j:Nat):(Nat.lor m (Nat.shiftLeft 1 i)).testBit j=(m.testBit j||decide (i=j)):=by
 have h:Nat.lor m (Nat.shiftLeft 1 i)=m ||| (1 <<< i):=rfl
 rw [h,Nat.testBit_or,Nat.one_shiftLeft,Nat.testBit_two_pow]
theorem TH (j:Nat):∀ l:List Nat,(K3 l).testBit j=decide (j∈l)
 | []=>by simp [K3]
 | i::r=>by
  have h:K3 (i::r)=(1 <<< i) ||| K3 r:=rfl
  rw [h,Nat.testBit_or,Nat.one_shiftLeft,Nat.testBit_two_pow,TH j r]
  by_cases e:i=j
  ·subst e; simp
  ·simp [e,Ne.symm e]
theorem Xb (p m:Nat):Nat.beq (Nat.land p m) p=true↔∀ j,p.testBit j=true->m.testBit j=true:=by
 have h:Nat.land p m=p &&& m:=rfl
 rw [Nat.beq_eq,h]
 constructor
 ·intro e j hj
  have:=congrArg (fun x=>Nat.testBit x j) e
  simp only [Nat.testBit_and,hj,Bool.true_and] at this
  exact this
 ·intro e
  refine Nat.eq_of_testBit_eq fun j=>?_
  rw [Nat.testBit_and]
  cases hj:p.testBit j with
  | false=>rfl
  | true=>rw [e j hj]; rfl
def LM (ops:Array Oper) (L:Array Bool) (m:Nat):Prop:=L.size=ops.size/\∀ j,L.getD j false=m.testBit j
theorem Cx {ops:Array Oper} {L:Array Bool} {m:Nat} (h:LM ops L m) (i:Nat):HG (XZ ops) m i=true↔i∈Region.ready .any ops L:=by
 unfold HG XZ
 rw [mem_ready,BA,Array.getElem?_toList]
 cases ho:ops[i]? with
 | none=>simp
 | some o =>
  have hi:i<ops.size:=(Array.getElem?_eq_some_iff.1 ho).1
  have h0:L.getD i true=L.getD i false:=by simp [Array.getD,h.1,hi]
  simp only [Option.map_some,J,Cj,Xb,TH,decide_eq_true_eq,List.mem_map,Array.mem_toList_iff,Array.mem_filter,AT,exists_eq_left',Yl,h0,h.2]
  constructor
  ·rintro ⟨a,b⟩
   exact ⟨a,fun e he hb=>b e.on ⟨e,⟨he,hb⟩,rfl⟩⟩
  ·rintro ⟨a,b⟩
   refine ⟨a,?_⟩
   rintro j ⟨e,⟨he,hb⟩,rfl⟩
   exact b e he hb
theorem LM.set {ops:Array Oper} {L:Array Bool} {m i:Nat} (h:LM ops L m) (hi:i<ops.size):LM ops (L.setIfInBounds i true) (Nat.lor m (Nat.shiftLeft 1 i)):=by
 refine ⟨by rw [Array.size_setIfInBounds]; exact h.1,fun j=>?_⟩
 rw [Ym,<- h.2 j]
 by_cases e:i=j
 ·subst e
  simp [Array.getD,h.1,hi]
 ·rw [getD_set_ne false e]; simp [e]
theorem LM.add {ops:Array Oper}:∀ (fl:List Nat) {L:Array Bool} {m:Nat},LM ops L m->(∀ f∈fl,f<ops.size)->LM ops (Wh L fl) (Nat.lor m (K3 fl))
 | [],L,m,h,_=>by
  have e:Nat.lor m (K3 [])=m ||| 0:=rfl
  rw [e,Nat.or_zero]
  exact h
 | i::r,L,m,h,hl=>by
  have:=LM.add r (h.set (hl i (by simp))) fun f hf=>hl f (List.mem_cons_of_mem _ hf)
  have e:Nat.lor m (K3 (i::r))=Nat.lor (Nat.lor m (Nat.shiftLeft 1 i)) (K3 r):=(Nat.or_assoc m (1 <<< i) (K3 r)).symm
  rw [e]
  exact this
theorem FR {ops:Array Oper} {L:Array Bool} {i:Nat} (h:i∈Region.ready .any ops L):i<ops.size:=(By h).2
theorem Vy {ops:Array Oper} {anc:List (List Nat)} (hA:VM ops anc=true) {L:Array Bool} (hs:Sp ops L) {i:Nat} (hr:i∈Region.ready .any ops L) (h:Vx ops anc i=true):Region.free .any ops L i=true:=by
 unfold Vx at h
 unfold Region.free
 split at h
 ·cases h
 ·rename_i oi hi
  rw [hi]
  simp only
  rw [Ak] at h ⊢
  intro j hj
  have h1:=h j hj
  simp only [EN] at h1 ⊢
  rcases h1 with (h1 | h1) | h1
  ·exact .inl (.inl h1)
  ·have:=Hx hA hs i (By hr).1 (By hr).2 j (BZ.1 h1)
   exact .inl (.inr (by
    have hl:j<L.size:=by
     rcases As j L.size with q | q
     ·exact q
     ·simp [Array.getD,Nat.not_lt.2 q] at this
    simp [Array.getD,hl] at this ⊢
    exact this))
  ·exact .inr h1
theorem Zx {P:Program} {n:Nat} {ops:Array Oper} {anc:List (List Nat)} (hA:VM ops anc=true):∀ (t:DT) (L:Array Bool) (m:Nat) (F:List Nat),LM ops L m->Sp ops L->VP P n ops anc (XZ ops) t L m F=true->RB P n ops t L F=true:=by
 intro t
 induction t with
 | done =>
  intro L m F hL _ h
  simp only [VP,RB,J,List.isEmpty_iff] at h ⊢
  refine ⟨?_,h.2⟩
  rw [List.eq_nil_iff_forall_not_mem]
  intro j hj
  have:=Ak.1 h.1 j (List.mem_range.2 (FR hj))
  rw [(Cx hL j).2 hj] at this
  cases this
 | test c a b iha ihb =>
  intro L m F hL hs h
  simp only [VP,RB,J] at h ⊢
  exact ⟨iha _ _ _ hL hs h.1,ihb _ _ _ hL hs h.2⟩
 | take i g ao r ih =>
  intro L m F hL hs h
  simp only [VP,RB,J] at h ⊢
  obtain ⟨⟨⟨⟨⟨h1,h2⟩,h3⟩,h4⟩,h5⟩,h6⟩:=h
  have hr:=(Cx hL i).1 h1
  refine ⟨⟨⟨⟨⟨by simpa using hr,?_⟩,h3⟩,h4⟩,h5⟩,ih _ _ _ (hL.set (FR hr)) (hs.set hr) h6⟩
  rcases EN _ _▸h2 with q | q
  ·exact Vy hA hs hr q
  ·exact q
 | skip i g d r ih =>
  intro L m F hL hs h
  simp only [VP,RB,J] at h ⊢
  obtain ⟨⟨⟨⟨h1,h2⟩,h3⟩,h5⟩,h6⟩:=h
  have hr:=(Cx hL i).1 h1
  refine ⟨⟨⟨⟨by simpa using hr,?_⟩,h3⟩,h5⟩,ih _ _ _ (hL.set (FR hr)) (hs.set hr) h6⟩
  rcases EN _ _▸h2 with q | q
  ·exact Vy hA hs hr q
  ·exact q
 | only i g ao e fl r ih =>
  intro L m F hL hs h
  simp only [VP,RB,J] at h ⊢
  obtain ⟨⟨⟨⟨⟨⟨⟨h1,h2⟩,h3⟩,h4⟩,h5⟩,h6⟩,h7⟩,h8⟩:=h
  have hr:=(Cx hL i).1 h1
  have hfl:∀ f∈fl,HG (XZ ops) m f.1=true:=fun f hf=>by
   have:=Ak.1 h5 f hf
   simp only [VO,J] at this
   exact this.1.1
  have hL2:=LM.add (fl.map (·.1)) hL fun f hf=>by
   obtain ⟨g,hg,rfl⟩:=List.mem_map.1 hf
   exact FR ((Cx hL g.1).1 (hfl g hg))
  refine ⟨⟨⟨⟨⟨⟨⟨by simpa using hr,?_⟩,h3⟩,h4⟩,?_⟩,h6⟩,h7⟩,ih _ _ _ (hL.set (FR hr)) (hs.set hr) h8⟩
  ·rw [Ak]
   intro k hk
   have:=Ak.1 h2 k (List.mem_range.2 (FR hk))
   rw [(Cx hL2 k).2 hk] at this
   simpa using this
  ·rw [Ak]
   intro f hf
   have h9:=Ak.1 h5 f hf
   unfold VO at h9
   unfold VN
   rw [hfl f hf] at h9
   have h10:(Region.ready .any ops L).contains f.1=true:=by simpa using (Cx hL f.1).1 (hfl f hf)
   rw [h10]
   exact h9
 | fork i ai ri j aj rj ihi ihj =>
  intro L m F hL hs h
  simp only [VP,RB,J] at h ⊢
  obtain ⟨⟨⟨⟨⟨⟨h0,h1⟩,h2⟩,h3⟩,h4⟩,h5⟩,h6⟩:=h
  have hr:=(Cx hL i).1 h1.1
  have hr2:=(Cx hL j).1 h1.2
  have hall:(Region.ready .any ops L).all (fun k=>k==i||k==j)=true:=by
   rw [Ak]
   intro k hk
   have:=Ak.1 h2 k (List.mem_range.2 (FR hk))
   rw [(Cx hL k).2 hk] at this
   simpa using this
  exact ⟨⟨⟨⟨⟨⟨h0,by simpa using hr⟩,hall⟩,h3⟩,h4⟩,ihi _ _ _ (hL.set (FR hr)) (hs.set hr) h5⟩,ihj _ _ _ (hL.set (FR hr2)) (hs.set hr2) h6⟩
theorem Xc {P:Program} {n:Nat} {ops:Array Oper} {anc:List (List Nat)} {t:DT} (h:Xa P n ops anc t=true):Vv P n ops anc t=true:=by
 simp only [Xa,Vv,J] at h ⊢
 refine ⟨h.1,Zx h.1.2 t _ 0 [] ⟨by simp,fun j=>?_⟩ ?_ h.2⟩
 ·rw [Nat.zero_testBit]
  simp [Array.getD]
 ·intro k o hk' _ _ _ _
  simp [Array.getElem?_replicate] at hk'
  split at hk'<;>simp at hk'

theorem Wj {st:List AC} {N k:Nat} {cs:List AV} (h:(st.map (AC.older N))[k]? = some (.var cs)) {o i:Nat} (ho:cs[o]? = some (.row i)):i<N:=by
 rw [BA] at h
 cases hb:st[k]? with
 | none=>rw [hb] at h; cases h
 | some b =>
  rw [hb] at h
  cases b with
  | var cs0 =>
   cases h
   rw [BA] at ho
   cases hc:cs0[o]? with
   | none=>rw [hc] at ho; cases ho
   | some c =>
    rw [hc] at ho
    simp only [Option.map_some,AT] at ho
    cases c<;>simp only [AV.olderC] at ho<;>try cases ho
    split at ho
    ·rename_i hn
     cases ho
     exact hn
    ·cases ho
  | _=>cases h
theorem SR.cut {H:HP} {φ:Aq} {st:List AC} {w:World} (h:SR H φ st w) (N:Nat):SR H φ ((st.take N).map (AC.older N)) w:=by
 have h2:=h.older N
 rw [List.map_take]
 have get:∀ (i:Nat) (b:AC),((st.map (AC.older N)).take N)[i]? = some b->(st.map (AC.older N))[i]? = some b:=by
  intro i b hi
  rw [Av] at hi
  split at hi
  ·exact hi
  ·cases hi
 refine ⟨h2.hp,fun i b hi=>h2.box i b (get i b hi),fun i j bi bj hi hj=>h2.sep i j bi bj (get i bi hi) (get j bj hj),fun i bi hi=>h2.out i bi (get i bi hi),fun id cs hid o i ho=>?_,h2.tb⟩
 obtain ⟨h3,h4⟩:=h2.cell id cs (get id _ hid) o i ho
 have hi:=Wj (get id _ hid) ho
 refine ⟨?_,h4⟩
 unfold Z at h3 ⊢
 rw [Av,if_pos hi]
 exact h3
theorem AH.cut {H H':HP} {φ φ':Aq} {st st':List AC} {w w':World} (h:AH H φ st w H' φ' st' w') {N:Nat} (hN:st.length<=N):AH H φ st w H' φ' ((st'.take N).map (AC.older N)) w':=by
 refine ⟨h.le,h.sr.cut N,fun mv m0 H0 φ0 w0 f=>?_⟩
 have f2:=h.fr mv m0 H0 φ0 w0 f
 refine { f2 with new:=fun i bi hbi hl b hb=>?_,vars:=fun j hj=>?_ }
 ·rw [BA,Av] at hbi
  split at hbi
  ·cases hb0:st'[i]? with
   | none=>rw [hb0] at hbi; cases hbi
   | some b0 =>
    rw [hb0] at hbi
    cases hbi
    exact f2.new i b0 hb0 (by cases b0<;>exact hl) b hb
  ·cases hbi
 ·have h1:=GE (f.vars j hj)
  have h2:=f2.vars j hj
  rw [CN (HF N)]
  unfold AE at h2 ⊢
  rw [Av,if_pos (by omega)]
  exact h2
theorem B5.cut {H:HP} {φ:Aq} {st:List AC} {fr:List (Nat×AV)} {tmps:Array Value} (h:B5 H φ st fr tmps) (live:List Nat) (N:Nat) :
  B5 H φ ((st.take N).map (AC.older N)) (live.map fun t=>(t,(B9 fr t).older N)) tmps:=by
 intro t
 rcases S6 fr (fun a=>a.older N) live t with e | e
 ·rw [e]; trivial
 ·rw [e]; exact (h t).older N
theorem Uf {s s':St} {i:Nat} {v a:AV} {ids:List Nat} (h:s.intoRow i v=some (a,s',ids)):s'.st.length=s.st.length:=by
 unfold St.intoRow at h
 split at h
 ·split at h
  ·cases h; rfl
  ·split at h
   ·split at h
    ·cases h; simp
    ·cases h
   ·cases h
 ·split at h
  ·cases h; simp
  ·cases h
 ·cases h
theorem Yn {H:HP} {φ:Aq} {s:St} {w:World} {tmps:Array Value} (hs:SR H φ s.st w) (hf:B5 H φ s.st s.fr tmps) (n t i:Nat) :
  ∃ φ',AH H φ s.st w H φ' (s.home n t i).st w/\B5 H φ' (s.home n t i).st (s.home n t i).fr tmps/\(s.home n t i).st.length=s.st.length:=by
 have same:∃ φ',AH H φ s.st w H φ' s.st w/\B5 H φ' s.st s.fr tmps/\s.st.length=s.st.length:=⟨φ,AH.refl hs,hf,rfl⟩
 unfold St.home
 split
 ·rename_i k hk
  split
  ·split
   ·rename_i x hx
    have hv:=hf t
    rw [hk] at hv
    obtain ⟨a,s1,ids⟩:=x
    obtain ⟨φ',h1,_,_,h4,h5,h6⟩:=Np hs (v:=.row k) (u:=tmps.getD t undef) hv hx
    exact ⟨φ',h1,B5.cons (h6 tmps hf) ⟨h5,h4⟩,(Uf hx:s1.st.length=s.st.length)⟩
   ·exact same
  ·exact same
 ·exact same
theorem Ug {w:World} {tmps:Array Value} {n:Nat}:∀ (hs:List (Nat×Nat)) {H:HP} {φ:Aq} {s:St},SR H φ s.st w->B5 H φ s.st s.fr tmps ->
  ∃ φ',AH H φ s.st w H φ' (St.homes n hs s).st w/\B5 H φ' (St.homes n hs s).st (St.homes n hs s).fr tmps/\(St.homes n hs s).st.length=s.st.length
 | [],H,φ,s,h,hf=>⟨φ,AH.refl h,hf,rfl⟩
 | p::r,H,φ,s,h,hf=>by
  obtain ⟨φ1,a1,a2,a3⟩:=Yn h hf n p.1 p.2
  obtain ⟨φ2,b1,b2,b3⟩:=Ug r a1.sr a2
  exact ⟨φ2,a1.trans b1,b2,b3.trans a3⟩
theorem Tu {H H':HP} {φ φ':Aq} {st:List AC} {s':St} {w w':World} {tmps:Array Value} (h:AH H φ st w H' φ' s'.st w') (hf:B5 H' φ' s'.st s'.fr tmps) (hs:List (Nat×Nat)) (live:List Nat) {N:Nat} (hN:st.length<=N) :
  ∃ φ2,AH H φ st w H' φ2 (s'.cutH hs live N).st w'/\B5 H' φ2 (s'.cutH hs live N).st (s'.cutH hs live N).fr tmps:=by
 obtain ⟨φ2,a1,a2,_⟩:=Ug (n:=N) hs h.sr hf
 exact ⟨φ2,(h.trans a1).cut hN,a2.cut live N⟩
def M4 (P:Program) (c:Code) (Q:Exit->Act->World->Prop) (a:Act) (w:World):Prop :=
 ∀ (b:Frame) (k:List Item) (cs:List Frame),∃ e a' w',Q e a' w'/\Arrives P (lone (b.at a (.code c::.inLoop c::k)) cs w) b k cs e a' w'
theorem M4.wp {c:Code} {Q:Exit->Act->World->Prop} {a:Act} {w:World} (h:M4 P c Q a w):(Code.loop c).wp P Q a w:=by
 intro b k cs
 obtain ⟨e,a',w',hq,harr⟩:=h b k cs
 exact ⟨e,a',w',hq,.of_steps (.one step_loop) harr⟩
theorem M4.round {c:Code} {Q:Exit->Act->World->Prop} {a:Act} {w:World} (h:c.wp P (Exit.then (M4 P c Q) Q) a w):M4 P c Q a w:=by
 intro b k cs
 obtain ⟨e,a₁,w₁,hq,harr⟩:=h b (.inLoop c::k) cs
 cases e with
 | normal =>
  obtain ⟨e₂,a₂,w₂,hq₂,harr₂⟩:=hq b k cs
  exact ⟨e₂,a₂,w₂,hq₂,.of_steps (Steps.trans harr (.one step_inLoop)) harr₂⟩
 | exit id=>exact ⟨_,a₁,w₁,hq,.pass (x:=.inLoop c) rfl (fun _ _=>.inl (by simp)) harr⟩
 | goto l=>exact ⟨_,a₁,w₁,hq,.pass (x:=.inLoop c) rfl (fun _ _=>.inl (by simp)) harr⟩
 | ret=>exact ⟨_,a₁,w₁,hq,.pass (x:=.inLoop c) rfl (fun _ _=>.inl (by simp)) harr⟩
 | panic ch=>exact ⟨_,a₁,w₁,hq,.pass (x:=.inLoop c) rfl (fun _ _=>.inl (by simp)) harr⟩
 | outgrown=>exact ⟨_,a₁,w₁,hq,.pass (x:=.inLoop c) rfl (fun _ _=>.inl (by simp)) harr⟩
def Cc (P:Program) (n:Nat):Code->AF->Bool
 | .skip,.skip=>true
 | .region _ ops false,.region aos _=>decide (MS P n ops none [] 0 aos=some ops.size)
 | .region _ ops true,.draw anc t _=>Xa P n ops anc t
 | .seq x y,.seq a b=>Cc P n x a&&Cc P n y b
 | .seq x y,.seqc _ a b=>Cc P n x a&&Cc P n y b
 | .cond c x y,.cond c' a b=>BU c c'&&Cc P n x a&&Cc P n y b
 | .block id x,.block id' _ a=>id==id'&&Cc P n x a
 | .loop x,.loop _ a=>Cc P n x a
 | .exit id,.exit id'=>id==id'
 | .ret,.ret=>true
 | _,_=>false
def QS {ρ:Type} (n:Nat) (q:St->Option ρ) (r:ρ) (s:St) (act:Act) (w:World) (H:HP) (φ:Aq) (N:Act->World->Prop):Prop :=
 ∀ s' act' w' H' φ',q s'=some r->AH H φ s.st w H' φ' s'.st w'->B5 H' φ' s'.st s'.fr act'.tmps->act'.tmps.size=n->act'.defers=act.defers->N act' w'
def Xd (P:Program) (n:Nat) (cal:CV) (k:Nat) (c:Code) (ac:AF):Prop :=
 ∀ (ρ:Type) (kn kr:St->Option ρ) (ke:Nat->St->Option ρ) (r:ρ) (s:St) (act:Act) (w:World) (H:HP) (φ:Aq) (Q:Exit->Act->World->Prop),
  SR H φ s.st w->B5 H φ s.st s.fr act.tmps->act.tmps.size=n->C_ cal k ac kn kr ke s=some r ->
  QS n kn r s act w H φ (Q .normal)->QS n kr r s act w H φ (Q .ret)->(∀ i,QS n (ke i) r s act w H φ (Q (.exit i)))->c.wp P Q act w
theorem QS.step {ρ:Type} {n:Nat} {q:St->Option ρ} {r:ρ} {s s1:St} {act act1:Act} {w w1:World} {H H1:HP} {φ φ1:Aq} {N:Act->World->Prop}
  (h:QS n q r s act w H φ N) (hst:AH H φ s.st w H1 φ1 s1.st w1) (hd:act1.defers=act.defers):QS n q r s1 act1 w1 H1 φ1 N :=
 fun s' act' w' H' φ' hq hs hf hn hd'=>h s' act' w' H' φ' hq (hst.trans hs) hf hn (hd'.trans hd)
theorem Uh {n:Nat} {cal:CV} {k:Nat} (hcal:DG P cal) {id:Nat} {ops:Array Oper} {aos:List CB} {live:List Nat} (h:MS P n ops none [] 0 aos=some ops.size) :
  Xd P n cal k (.region id ops false) (.region aos live):=by
 intro ρ kn kr ke r s act w H φ Q hs hf hn hk hnorm _ _
 simp only [C_] at hk
 refine Wf hcal h hs hf hn hk fun s' act' w' H' φ' hk' hst hf' hn' hd'=>?_
 exact hnorm _ act' w' H' φ' hk' hst (hf'.live live) hn' hd'
theorem Yo {n:Nat} {cal:CV} {k:Nat} (hcal:DG P cal):∀ (ac:AF) (c:Code),Cc P n c ac=true->Xd P n cal k c ac:=by
 intro ac
 induction ac with
 | skip =>
  intro c h
  cases c<;>first | (simp [Cc] at h; done) | skip
  intro ρ kn kr ke r s act w H φ Q hs hf hn hk h1 _ _
  exact wp_skip (h1 s act w H φ hk (AH.refl hs) hf hn rfl)
 | ret =>
  intro c h
  cases c<;>first | (simp [Cc] at h; done) | skip
  intro ρ kn kr ke r s act w H φ Q hs hf hn hk _ h2 _
  exact wp_ret (h2 s act w H φ hk (AH.refl hs) hf hn rfl)
 | exit id =>
  intro c h
  cases c<;>first | (simp [Cc] at h; done) | skip
  rename_i id'
  simp only [Cc,beq_iff_eq] at h
  subst h
  intro ρ kn kr ke r s act w H φ Q hs hf hn hk _ _ h3
  exact wp_exit (h3 id' s act w H φ hk (AH.refl hs) hf hn rfl)
 | region aos live =>
  intro c h
  cases c<;>first | (simp [Cc] at h; done) | skip
  rename_i id ops draw
  cases draw
  ·simp only [Cc,decide_eq_true_eq] at h
   exact Uh hcal h
  ·simp [Cc] at h
 | draw anc t live =>
  intro c h
  cases c<;>first | (simp [Cc] at h; done) | skip
  rename_i id ops draw
  cases draw
  ·simp [Cc] at h
  ·simp only [Cc] at h
   intro ρ kn kr ke r s act w H φ Q hs hf hn hk hnorm _ _
   simp only [C_] at hk
   exact Yk hcal (Xc h) hs hf hn hk fun s' act' w' H' φ' hk' hst hf' hn' hd'=>hnorm _ act' w' H' φ' hk' hst (hf'.live live) hn' hd'
 | seq a b iha ihb =>
  intro c h
  cases c<;>first | (simp [Cc] at h; done) | skip
  rename_i x y
  simp only [Cc,J] at h
  intro ρ kn kr ke r s act w H φ Q hs hf hn hk h1 h2 h3
  simp only [C_] at hk
  refine wp_seq (iha x h.1 ρ (fun s'=>C_ cal k b kn kr ke s') kr ke r s act w H φ _ hs hf hn hk (fun s' act' w' H' φ' hk' hst hf' hn' hd'=>?_) h2 h3)
  exact ihb y h.2 ρ kn kr ke r s' act' w' H' φ' Q hst.sr hf' hn' hk' (h1.step hst hd') (h2.step hst hd') fun i=>(h3 i).step hst hd'
 | seqc live a b iha ihb =>
  intro c h
  cases c<;>first | (simp [Cc] at h; done) | skip
  rename_i x y
  simp only [Cc,J] at h
  intro ρ kn kr ke r s act w H φ Q hs hf hn hk h1 h2 h3
  simp only [C_] at hk
  refine wp_seq (iha x h.1 ρ (fun s'=>C_ cal k b kn kr ke (s'.cutH (Bj s live) live s.st.length)) kr ke r s act w H φ _ hs hf hn hk (fun s' act' w' H' φ' hk' hst hf' hn' hd'=>?_) h2 h3)
  obtain ⟨φ2,hst',hf2⟩:=Tu hst hf' (Bj s live) live (Nat.le_refl _)
  exact ihb y h.2 ρ kn kr ke r (s'.cutH (Bj s live) live s.st.length) act' w' H' φ2 Q hst'.sr hf2 hn' hk' (h1.step hst' hd') (h2.step hst' hd') fun i=>(h3 i).step hst' hd'
 | cond c' a b iha ihb =>
  intro c h
  cases c<;>first | (simp [Cc] at h; done) | skip
  rename_i co x y
  simp only [Cc,J] at h
  obtain ⟨⟨hc,ha⟩,hb⟩:=h
  intro ρ kn kr ke r s act w H φ Q hs hf hn hk h1 h2 h3
  simp only [C_] at hk
  cases ht:s.opd c' with
  | bool t =>
   rw [ht] at hk
   simp only at hk
   have hv:=(AY hf hc).bool ht
   cases t with
   | true=>exact wp_cond_true hv (iha x ha ρ kn kr ke r s act w H φ Q hs hf hn (by simpa using hk) h1 h2 h3)
   | false=>exact wp_cond_false hv (ihb y hb ρ kn kr ke r s act w H φ Q hs hf hn (by simpa using hk) h1 h2 h3)
  | _=>rw [ht] at hk; cases hk
 | block id live a iha =>
  intro c h
  cases c<;>first | (simp [Cc] at h; done) | skip
  rename_i id' x
  simp only [Cc,J,beq_iff_eq] at h
  obtain ⟨rfl,h⟩:=h
  intro ρ kn kr ke r s act w H φ Q hs hf hn hk h1 h2 h3
  simp only [C_] at hk
  have cutOk:QS n (fun s'=>kn (s'.cutH (Bj s live) live s.st.length)) r s act w H φ (Q .normal):=fun s' act' w' H' φ' hk' hst hf' hn' hd'=>by
   obtain ⟨φ2,hst',hf2⟩:=Tu hst hf' (Bj s live) live (Nat.le_refl _)
   exact h1 _ act' w' H' φ2 hk' hst' hf2 hn' hd'
  refine wp_block (iha x h ρ (fun s'=>kn (s'.cutH (Bj s live) live s.st.length)) kr (fun i s'=>if i=id' then kn (s'.cutH (Bj s live) live s.st.length) else ke i s') r s act w H φ _ hs hf hn hk cutOk h2 fun i=>?_)
  intro s' act' w' H' φ' hk' hst hf' hn' hd'
  simp only at hk'
  simp only [Exit.inBlock]
  by_cases e:i=id'
  ·rw [if_pos e] at hk' ⊢
   exact cutOk s' act' w' H' φ' hk' hst hf' hn' hd'
  ·rw [if_neg e] at hk' ⊢
   exact h3 i s' act' w' H' φ' hk' hst hf' hn' hd'
 | loop live a iha =>
  intro c h
  cases c<;>first | (simp [Cc] at h; done) | skip
  rename_i x
  simp only [Cc] at h
  intro ρ kn kr ke r s act w H φ Q hs hf hn hk _ h2 h3
  simp only [C_] at hk
  have key:∀ (j:Nat) (s1:St) (act1:Act) (w1:World) (H1:HP) (φ1:Aq),s1.st.length<=s.st.length->AH H φ s.st w H1 φ1 s1.st w1->B5 H1 φ1 s1.st s1.fr act1.tmps->act1.tmps.size=n->act1.defers=act.defers ->
    Gb j (fun go s'=>C_ cal k a (fun s''=>go (s''.cutH (Bj s live) live s.st.length)) kr ke s') s1=some r->M4 P x Q act1 w1:=by
   intro j
   induction j with
   | zero=>intro s1 act1 w1 H1 φ1 _ _ _ _ _ hk; cases hk
   | succ j ihj =>
    intro s1 act1 w1 H1 φ1 hl hst hf1 hn1 hd1 hk
    simp only [Gb] at hk
    refine M4.round (iha x h ρ _ kr ke r s1 act1 w1 H1 φ1 _ hst.sr hf1 hn1 hk (fun s' act' w' H' φ' hk' hst' hf' hn' hd'=>?_) (h2.step hst hd1) fun i=>(h3 i).step hst hd1)
    obtain ⟨φ2,hst2,hf2⟩:=Tu hst' hf' (Bj s live) live hl
    exact ihj (s'.cutH (Bj s live) live s.st.length) act' w' H' φ2 (by simp [St.cutH,St.cut]; omega) (hst.trans hst2) hf2 hn' (hd'.trans hd1) hk'
  refine (key k (s.cut live s.st.length) act w H φ (by simp [St.cut]) ((AH.refl hs).cut (Nat.le_refl _)) (hf.cut live _) hn rfl hk).wp
end Go.Proofs.YtfcgblnlopemkaaDoor.Core

namespace Go.Proofs.YtfcgblnlopemkaaDoor.Core
open Go
variable {H:HP} {φ:Aq} {st:List AC} {w:World} {P:Program}
def TI (st:List AC) (i:Nat) (b:AC):Prop :=
 (∃ (t:TypeId) (e:Kd),∃ xs:List (Kd.T e),st[i]? = some (AC.rows t e xs)/\b=AC.rows t e xs) \/
 (∃ cs ecs:List AV,st[i]? = some (AC.var cs)/\b=AC.var ecs/\ecs.length=cs.length/\∀ (o:Nat) (a:AV),ecs[o]? = some a->∃ c,cs[o]? = some c/\a.solid=true/\c.solid=true/\∀ (H:HP) (u:Value),VF H c u->VF H a u)
theorem Rk:∀ {ks:List Kd} {cs cs':List AV},GT ks cs=some cs'->cs'.length=cs.length/\(cs'.all fun c=>c.solid&&(match c with | .nil=>false | _=>true))=true /\
  ∀ (o:Nat) (a:AV),cs'[o]? = some a->∃ c,cs[o]? = some c/\a.solid=true/\c.solid=true/\∀ (H:HP) (u:Value),VF H c u->VF H a u
 | [],[],cs',h=>by cases h; exact ⟨rfl,rfl,fun o a h=>by simp at h⟩
 | [],_::_,cs',h=>by simp [GT] at h
 | _::_,[],cs',h=>by simp [GT] at h
 | k::ks,v::vs,cs',h=>by
  simp only [GT] at h
  cases h1:v.norm k with
  | none=>rw [h1] at h; cases h
  | some a =>
   rw [h1] at h
   simp only [U] at h
   cases h2:GT ks vs with
   | none=>rw [h2] at h; cases h
   | some r =>
    rw [h2] at h
    cases h
    obtain ⟨n1,n2,n3,n4⟩:=Nz h1
    obtain ⟨l1,l2,l3⟩:=Rk h2
    refine ⟨by simp [l1],?_,fun o b hb=>?_⟩
    ·simp only [List.all_cons,l2,n2,Bool.true_and,Bool.and_true]
     cases a<;>first | rfl | cases n1
    ·cases o with
     | zero=>simp at hb; subst hb; exact ⟨v,rfl,n2,n3,n4⟩
     | succ o=>simpa using l3 o b (by simpa using hb)
theorem VQ {s s':St} {a a':AV} (h:s.keep a=some (a',s')) {i:Nat} (hi:a≠.row i):s'.st[i]? = s.st[i]? := by
 cases a with
 | row id =>
  simp only [St.keep] at h
  split at h
  ·split at h
   case isFalse=>cases h
   cases h
   simp only [AM]
   rw [if_neg (fun e=>hi (by rw [e]))]
  ·cases h; rfl
  ·cases h
 | fn f caps=>cases caps<;>first | (cases h; rfl) | cases h
 | _=>first | (cases h; rfl) | cases h
theorem Xe {s s':St} {a a':AV} (h:s.keep a=some (a',s')) {i:Nat} (hi:AE s.st i=true):s'.st[i]? = s.st[i]? := by
 cases a with
 | row id =>
  simp only [St.keep] at h
  split at h
  ·rename_i t K xs hb
   split at h
   case isFalse=>cases h
   cases h
   simp only [AM]
   rw [if_neg (fun e=>by subst e; simp only [AE,hb] at hi; cases hi)]
  ·cases h; rfl
  ·cases h
 | fn f caps=>cases caps<;>first | (cases h; rfl) | cases h
 | _=>first | (cases h; rfl) | cases h
theorem VR {s s':St} {i:Nat} {a':AV} (h:s.keep (.row i)=some (a',s')):a'.nilFree=true/\a'.solid=true:=by
 simp only [St.keep] at h
 split at h
 ·split at h
  ·cases h; exact ⟨rfl,rfl⟩
  ·cases h
 ·cases h; exact ⟨rfl,rfl⟩
 ·cases h
structure CJ (H:HP) (φ:Aq) (w:World) (s s':St) (tk tk':List Nat) (us:List Value) (cl:List AV) (H':HP) (ids:List Nat):Prop where
 step:AH H φ s.st w H' φ s'.st w
 keeps:Aj φ s.st φ s'.st none
 fr:s'.fr=s.fr
 nf:cl.all AV.nilFree=true
 cnt:AB cl=ids.length
 tks:tk'=ids.reverse++tk
 nd:tk.Nodup->tk'.Nodup
 held:∀ i∈tk,s'.st[i]? = s.st[i]?
 vars:∀ i,AE s.st i=true->s'.st[i]? = s.st[i]?
 boxes:∀ (m:Nat) (b:AC),(AS cl)[m]? = some b->∃ i,ids[m]? = some i/\TI s'.st i b
 vals:∀ (k:Nat) (f:Nat->Nat),(∀ m i,ids[m]? = some i->f (k+m)=i) ->
  AN (fun a u=>VC H' φ s'.st (a.ren f) u/\(a.solid=true\/∃ m,m<ids.length/\((∃ t e,∃ xs:List (Kd.T e),a=.row (k+m)/\(AS cl)[m]? = some (AC.rows t e xs))\/(∃ ecs,a=.ptr (k+m) 0/\(AS cl)[m]? = some (AC.var ecs))))) (Ae k cl) us
theorem PT {a:AV} (h:a.solid=true) (f:Nat->Nat):a.ren f=a:=by cases a<;>first | rfl | cases h
theorem CJ.plain {H:HP} {φ:Aq} {s s1 s':St} {tk tk':List Nat} {u:Value} {us:List Value} {cl:List AV} {H1 H':HP} {ids:List Nat} {a:AV} (F:CJ H1 φ w s1 s' tk tk' us cl H' ids)
  (hst:AH H φ s.st w H1 φ s1.st w) (hk:Aj φ s.st φ s1.st none) (hfr:s1.fr=s.fr) (hheld:∀ i∈tk,s1.st[i]? = s.st[i]?) (hvars:∀ i,AE s.st i=true->s1.st[i]? = s.st[i]?)
  (hn:a.nilFree=true) (hs:a.solid=true) (hv:VF H1 a u):CJ H φ w s s' tk tk' (u::us) (a::cl) H' ids:=by
 have o1:∀ k,Ae k (a::cl)=a::Ae k cl:=fun k=>by cases a<;>first | rfl | cases hs
 have o2:AS (a::cl)=AS cl:=by cases a<;>first | rfl | cases hs
 have o3:AB (a::cl)=AB cl:=by cases a<;>first | rfl | cases hs
 refine ⟨hst.trans F.step,hk.trans F.keeps,F.fr.trans hfr,by simp [hn,F.nf],by rw [o3]; exact F.cnt,F.tks,F.nd,fun i hi=>(F.held i hi).trans (hheld i hi),fun i hi=>?_,by rw [o2]; exact F.boxes,fun k f hf=>?_⟩
 ·have h1:=hvars i hi
  rw [F.vars i (by unfold AE at hi ⊢; rw [h1]; exact hi),h1]
 ·rw [o1,o2]
  exact ⟨u,us,rfl,⟨by rw [PT hs]; exact VC.of_VF (hv.mono F.step.le),.inl hs⟩,F.vals k f hf⟩
theorem Hy:∀ {ks:List Kd} {vs cl:List AV} {tk tk':List Nat} {s s':St} {H:HP} {us:List Value},SR H φ s.st w->AN (VC H φ s.st) vs us->s.shutAll tk ks vs=some (cl,tk',s') ->
  ∃ H' ids,CJ H φ w s s' tk tk' us cl H' ids
 | [],[],cl,tk,tk',s,s',H,us,hs,hv,h=>by
  cases h
  cases hv
  exact ⟨H,[],AH.refl hs,Aj.refl _ _ _,rfl,rfl,rfl,rfl,fun h=>h,fun _ _=>rfl,fun _ _=>rfl,fun m b h=>by simp [AS] at h,fun k f _=>rfl⟩
 | [],_::_,cl,tk,tk',s,s',H,us,hs,hv,h=>by simp [St.shutAll] at h
 | _::_,[],cl,tk,tk',s,s',H,us,hs,hv,h=>by simp [St.shutAll] at h
 | k0::ks,v::vs,cl,tk,tk',s,s',H,us,hs,hv,h=>by
  obtain ⟨u,us,rfl,hu,hr⟩:=hv
  have norm:((v.norm k0).bind fun a=>(s.shutAll tk ks vs).bind fun y=>some (a::y.1,y.2))=some (cl,tk',s')->∃ H' ids,CJ H φ w s s' tk tk' (u::us) cl H' ids:=by
   intro h
   cases hq:v.norm k0 with
   | none=>rw [hq] at h; cases h
   | some a =>
    rw [hq] at h
    simp only [U] at h
    cases hc:s.shutAll tk ks vs with
    | none=>rw [hc] at h; cases h
    | some y =>
     obtain ⟨y1,y2,y3⟩:=y
     rw [hc] at h
     cases h
     obtain ⟨n1,n2,n3,n4⟩:=Nz hq
     obtain ⟨H',ids,F⟩:=Hy hs hr hc
     exact ⟨H',ids,F.plain (AH.refl hs) (Aj.refl _ _ _) rfl (fun _ _=>rfl) (fun _ _=>rfl) n1 n2 (n4 H u (hu.solid n3))⟩
  have away:∀ (i:Nat) (a:AV) (b:AC) (y:List AV×List Nat×St),Ai tk i=false->s.shutAll (i::tk) ks vs=some y->(cl,tk',s')=(a::y.1,y.2) ->
    TI s.st i b->a.nilFree=true->(∀ k r,Ae k (a::r)=(match b with | .var _=>AV.ptr k 0 | _=>AV.row k)::Ae (k+1) r)->(∀ r,AS (a::r)=b::AS r)->(∀ r,AB (a::r)=AB r+1) ->
    (∀ cs,b=.var cs->v=.ptr i 0)->((∀ cs,b≠.var cs)->v=.row i)->((∀ cs,b≠.var cs)->∃ (t:TypeId) (e:Kd),∃ xs:List (Kd.T e),b=AC.rows t e xs)->∃ H' ids,CJ H φ w s s' tk tk' (u::us) cl H' ids:=by
   intro i a b y hn hy e hb hnf o1 o2 o3 e1 e2 e3
   obtain ⟨y1,y2,y3⟩:=y
   cases e
   obtain ⟨H',ids,F⟩:=Hy hs hr hy
   refine ⟨H',i::ids,F.step,F.keeps,F.fr,by simp [hnf,F.nf],by rw [o3,F.cnt]; rfl,by rw [F.tks]; simp,fun hnd=>F.nd (List.nodup_cons.2 ⟨AU.1 hn,hnd⟩),fun j hj=>F.held j (by simp [hj]),F.vars,fun m b' hb'=>?_,fun k f hf=>?_⟩
   ·rw [o2] at hb'
    cases m with
    | zero =>
     simp at hb'
     subst hb'
     refine ⟨i,rfl,?_⟩
     have hh:=F.held i (by simp)
     unfold TI at hb ⊢
     rw [hh]
     exact hb
    | succ m=>simpa using F.boxes m b' (by simpa using hb')
   ·rw [o1,o2]
    have f0:f k=i:=by simpa using hf 0 i rfl
    refine ⟨u,us,rfl,⟨?_,.inr ⟨0,by simp,?_⟩⟩,?_⟩
    ·have hu':=VC.mono F.step.le F.keeps hu
     cases b with
     | var cs =>
      simp only [AV.ren,f0]
      rw [e1 cs rfl] at hu'
      exact hu'
     | _ =>
      simp only [AV.ren,f0]
      rw [e2 (by simp)] at hu'
      exact hu'
    ·cases b with
     | var cs=>exact .inr ⟨cs,rfl,rfl⟩
     | rows t e xs=>exact .inl ⟨t,e,xs,rfl,rfl⟩
     | _=>obtain ⟨_,_,_,e⟩:=e3 (by simp); cases e
    ·have:=F.vals (k+1) f fun m j hj=>by rw [Nat.add_assoc,Nat.add_comm 1 m]; exact hf (m+1) j (by simpa using hj)
     refine this.imp fun a' u' ⟨g1,g2⟩=>⟨g1,?_⟩
     rcases g2 with g2 | ⟨m,hm,g2⟩
     ·exact .inl g2
     ·refine .inr ⟨m+1,by simp; omega,?_⟩
      rw [show k+(m+1)=k+1+m by omega]
      simpa using g2
  cases v with
  | row i =>
   simp only [St.shutAll] at h
   split at h
   ·cases h
   ·rename_i hn
    have hn:Ai tk i=false:=by simpa using hn
    have kept:((s.keep (.row i)).bind fun x=>(x.2.shutAll tk ks vs).bind fun y=>some (x.1::y.1,y.2))=some (cl,tk',s')->∃ H' ids,CJ H φ w s s' tk tk' (u::us) cl H' ids:=by
     intro h
     cases hk:s.keep (.row i) with
     | none=>rw [hk] at h; cases h
     | some x =>
      obtain ⟨a1,s1⟩:=x
      rw [hk] at h
      simp only [U] at h
      cases hc:s1.shutAll tk ks vs with
      | none=>rw [hc] at h; cases h
      | some y =>
       obtain ⟨y1,y2,y3⟩:=y
       rw [hc] at h
       cases h
       obtain ⟨H1,g1,k1,f1,r1,_⟩:=Hl hs hu hk
       obtain ⟨H',ids,F⟩:=Hy g1.sr (hr.imp fun _ _ h=>h.mono g1.le k1) hc
       obtain ⟨n1,n2⟩:=VR hk
       refine ⟨H',ids,F.plain g1 k1 r1 (fun j hj=>VQ hk fun e=>?_) (fun j hj=>Xe hk hj) n1 n2 f1⟩
       cases e
       exact AU.1 hn hj
    split at h
    ·split at h
     ·rename_i t e xs hi
      cases hc:s.shutAll (i::tk) ks vs with
      | none=>rw [hc] at h; cases h
      | some y =>
       rw [hc] at h
       simp only [U,AT] at h
       exact away i (.new t e xs) (.rows t e xs) y hn hc h.symm (.inl ⟨t,e,xs,hi,rfl⟩) rfl (fun k r=>rfl) (fun r=>rfl) (fun r=>by simp [AB,AV.isNew]) (fun cs e=>by cases e) (fun _=>rfl) (fun _=>⟨t,e,xs,rfl⟩)
     ·cases h
    ·exact kept h
  | ptr i o =>
   cases o with
   | zero =>
    simp only [St.shutAll] at h
    split at h
    ·cases h
    ·rename_i hn
     have hn:Ai tk i=false:=by simpa using hn
     split at h
     ·split at h
      ·rename_i K x0 cs hi
       cases hq:GT K.leaves cs with
       | none=>rw [hq] at h; cases h
       | some cs' =>
        rw [hq] at h
        simp only [U] at h
        cases hc:s.shutAll (i::tk) ks vs with
        | none=>rw [hc] at h; cases h
        | some y =>
         rw [hc] at h
         simp only [U,AT] at h
         obtain ⟨l1,l2,l3⟩:=Rk hq
         exact away i (.ref cs') (.var cs') y hn hc h.symm (.inr ⟨cs,cs',hi,rfl,l1,l3⟩) l2 (fun k r=>rfl) (fun r=>rfl) (fun r=>by simp [AB,AV.isNew]) (fun _ _=>rfl) (fun h=>absurd rfl (h cs')) (fun h=>absurd rfl (h cs'))
      ·cases h
     ·cases h
   | succ o=>exact norm h
  | _=>exact norm h
end Go.Proofs.YtfcgblnlopemkaaDoor.Core

namespace Go.Proofs.YtfcgblnlopemkaaDoor.Core
open Go
variable {P:Program}
theorem CJ.append {H H1 H2:HP} {φ:Aq} {w:World} {s s1 s2:St} {tk t1 t2:List Nat} {us1 us2:List Value} {c1 c2:List AV} {i1 i2:List Nat}
  (F1:CJ H φ w s s1 tk t1 us1 c1 H1 i1) (F2:CJ H1 φ w s1 s2 t1 t2 us2 c2 H2 i2):CJ H φ w s s2 tk t2 (us1++us2) (c1++c2) H2 (i1++i2):=by
 have hl:(AS c1).length=i1.length:=by rw [Bv,F1.cnt]
 refine ⟨F1.step.trans F2.step,F1.keeps.trans F2.keeps,F2.fr.trans F1.fr,by rw [List.all_append,F1.nf,F2.nf]; rfl,by rw [Af,F1.cnt,F2.cnt,List.length_append],by rw [F2.tks,F1.tks]; simp,fun h=>F2.nd (F1.nd h),fun i hi=>?_,fun i hi=>?_,fun m b hb=>?_,fun k f hf=>?_⟩
 ·rw [F2.held i (by rw [F1.tks]; simp [hi]),F1.held i hi]
 ·have h1:=F1.vars i hi
  rw [F2.vars i (by unfold AE at hi ⊢; rw [h1]; exact hi),h1]
 ·rw [An] at hb
  rcases As m (AS c1).length with h | h
  ·rw [AO h] at hb
   obtain ⟨i,g1,g2⟩:=F1.boxes m b hb
   refine ⟨i,by rw [AO (by omega)]; exact g1,?_⟩
   have hh:=F2.held i (by rw [F1.tks]; simp [List.mem_of_getElem? g1])
   unfold TI at g2 ⊢
   rw [hh]
   exact g2
  ·rw [Au h] at hb
   obtain ⟨i,g1,g2⟩:=F2.boxes _ b hb
   exact ⟨i,by rw [Au (by omega)]; rw [hl] at g1; exact g1,g2⟩
 ·rw [Kg,An]
  refine AN.append ((F1.vals k f fun m i hm=>hf m i (by rw [AO (AK.1 hm).1]; exact hm)).imp fun a u ⟨g1,g2⟩=>⟨g1.mono F2.step.le F2.keeps,?_⟩)
   ((F2.vals (k+AB c1) f fun m i hm=>by
    rw [Nat.add_assoc]
    exact hf _ i (by rw [F1.cnt,Au (by omega),Nat.add_sub_cancel_left]; exact hm)).imp fun a u ⟨g1,g2⟩=>⟨g1,?_⟩)
  ·rcases g2 with g2 | ⟨m,hm,g2⟩
   ·exact .inl g2
   ·refine .inr ⟨m,by simp; omega,?_⟩
    rw [AO (by omega)]
    exact g2
  ·rcases g2 with g2 | ⟨m,hm,g2⟩
   ·exact .inl g2
   ·refine .inr ⟨i1.length+m,by simp; omega,?_⟩
    rw [Au (by omega),hl,Nat.add_sub_cancel_left,<- Nat.add_assoc]
    rw [F1.cnt] at g2
    exact g2
theorem Wk {H:HP} {φ:Aq} {st:List AC} {w:World} (hs:SR H φ st w) {id:Nat} {cs:List AV} (hb:st[id]? = some (.var cs)) :
  ∃ b c el,φ id=.pointer (some ⟨b,0,none⟩)/\w.heap[b]? = some (.cells c el (0,0))/\AN (VC H φ st) cs c.toList:=by
 obtain ⟨b,c,el,e3,hh,hc⟩:=hs.box id _ hb
 refine ⟨b,c,el,e3,hh,Ik hc.length fun j a u ha hu=>?_⟩
 have hw:=hc.at ha hu
 cases a with
 | row i =>
  obtain ⟨g1,b2,g2,g3⟩:=hs.cell id _ hb j i ha
  rw [e3] at g2
  cases g2
  simp only [World.cell?,hh] at g3
  rw [Array.getElem?_toList] at hu
  simp only [Option.isSome_none,Bool.false_eq_true,if_false] at g3
  rw [hu] at g3
  cases g3
  exact ⟨rfl,g1⟩
 | was i=>trivial
 | self T=>trivial
 | undef=>trivial
 | _=>exact VC.of_VF hw
def Yp (P:Program):ResultVar->YC->Bool
 | .tmp t,r=>!r.cell&&r.t==t
 | .cell a t,r=>r.cell&&r.t==a&&Nw P t (LU r.K)
def Rl (P:Program):List ResultVar->List YC->Bool
 | [],[]=>true
 | v::vs,r::rs=>Yp P v r&&Rl P vs rs
 | _,_=>false
def Kl (tmps:Array Value):ResultVar->Sem Value
 | .tmp t=>pure (tmps.getD t undef)
 | .cell a t=>do loadVar t (<- asAddr (tmps.getD a undef))
def Yq (K:Kd) (v:Value):Prop:=match K with
 | .pair _ _=>∃ arr,v=.agg arr
 | _=>v.cells=#[v]
theorem Xf {H:HP} {φ:Aq} {w:World} {s:St} {K:Kd} {a:AV} {v:Value} {ds:List AV} {off:Nat} {t:TypeId} (hs:SR H φ s.st w) (hv:VC H φ s.st a v) (hbh:s.behind a=some (ds,off)) (hl2:off+K.sz<=ds.length) (hp:Nw P t (LU K)=true) :
  ∃ u,(Instr.loadAt t v).run P w=.ok u w/\VA H φ s.st (part ds off (LU K)) u:=by
 cases K with
 | pair a b=>exact QJ hs hv hbh (n:=some _) hl2 hp
 | _=>exact QJ hs hv hbh (n:=none) hl2 hp
theorem Ui {H:HP} {φ:Aq} {w:World} {s:St} {r:YC} {rv:ResultVar} {cs:List AV} {tmps:Array Value} (hs:SR H φ s.st w) (hf:B5 H φ s.st s.fr tmps) (h:s.resCells r=some cs) (hb:Yp P rv r=true)
  (hne:∀ c∈cs,c.full=true) (hlen:cs.length=r.K.sz) :
  ∃ v,(Kl tmps rv).run P w=.ok v w/\AN (VC H φ s.st) cs v.cells.toList/\Yq r.K v:=by
 unfold St.resCells at h
 cases rv with
 | tmp t =>
  simp only [Yp,J,Cj,beq_iff_eq] at hb
  obtain ⟨hc,rfl⟩:=hb
  rw [if_neg (by rw [hc]; simp)] at h
  split at h
  ·rename_i hfit
   cases h
   simp only [J] at hfit
   have hv:=hf r.t
   refine ⟨tmps.getD r.t undef,by simp [Kl],RV hs hv hfit.2,?_⟩
   rcases hv.cases with ⟨ds,arr,ea,ev,_⟩ | ⟨vs,arr,ea,_,_⟩ | hvc
   ·rw [ea] at hfit
    unfold Yq
    cases hK:r.K with
    | pair a b=>exact ⟨arr,ev⟩
    | _=>rw [hK] at hfit; cases hfit.1
   ·rw [ea] at hfit; cases hfit.2
   ·have h1:=RU hs hvc hfit.2
    unfold Yq
    cases hK:r.K with
    | pair a b =>
     rw [hK,Jw hvc] at hlen
     have p1:=Kd.sz_pos a
     have p2:=Kd.sz_pos b
     simp [Kd.sz] at hlen
     omega
    | _=>exact h1
  ·cases h
 | cell a t =>
  simp only [Yp,J,beq_iff_eq] at hb
  obtain ⟨⟨hc,rfl⟩,hp⟩:=hb
  rw [if_pos hc] at h
  cases hbh:s.behind (B9 s.fr r.t) with
  | none=>rw [hbh] at h; cases h
  | some y =>
   obtain ⟨ds,off⟩:=y
   rw [hbh] at h
   simp only [U,AT] at h
   subst h
   have hv:=(hf r.t).behind hbh
   have hl2:off+r.K.sz<=ds.length:=by
    have:=Kd.sz_pos r.K
    simp only [List.length_take,List.length_drop] at hlen
    omega
   obtain ⟨b,o,vs,ev,_,_⟩:=ME hs hv hbh
   obtain ⟨u,hrun,hu⟩:=Xf (P:=P) (t:=t) hs hv hbh hl2 hp
   have hrun2:(Kl tmps (.cell r.t t)).run P w=.ok u w:=by
    rw [ev] at hrun
    simp only [Instr.loadAt,Instr.sureAddr,Sem.run_bind,Sem.run_pure,Result.andThen_ok] at hrun
    simp only [Kl,Sem.run_bind]
    rw [ev]
    simp only [asAddr,Sem.run_pure,Result.andThen_ok]
    exact hrun
   refine ⟨u,hrun2,?_⟩
   have single:r.K.sz=1->LU r.K=none->AN (VC H φ s.st) ((ds.drop off).take r.K.sz) u.cells.toList/\u.cells=#[u]:=by
    intro h1 h2
    rw [h1] at hl2 hne ⊢
    rw [h2] at hu
    have hlt:off<ds.length:=by omega
    have hc1:(ds.drop off).take 1=[ds[off]]:=by rw [List.drop_eq_getElem_cons hlt]; rfl
    have hpart:part ds off none=ds[off]:=by simp only [part,List.headD_eq_head?_getD]; rw [List.drop_eq_getElem_cons hlt]; rfl
    rw [hpart] at hu
    have hfc:ds[off].full=true:=hne _ (by rw [hc1]; simp)
    have hvc:VC H φ s.st ds[off] u:=by
     rcases hu.cases with ⟨e1,arr,ea,_,_⟩ | ⟨e1,arr,ea,_,_⟩ | hvc
     ·obtain ⟨b',o',vs',_,hall,_⟩:=ME hs hv hbh
      obtain ⟨u2,_,hu2⟩:=hall.get off ds[off] (by simp)
      rw [ea] at hu2
      exact hu2.elim
     ·rw [ea] at hfc; cases hfc
     ·exact hvc
    have hone:=RU hs hvc hfc
    rw [hc1,hone]
    exact ⟨⟨u,[],rfl,hvc,rfl⟩,rfl⟩
   cases hK:r.K with
   | pair a b =>
    rw [hK] at hu
    obtain ⟨arr,e,hc⟩:=hu
    subst e
    exact ⟨hc,arr,rfl⟩
   | _=>rw [hK] at single; exact single rfl rfl
theorem FS:∀ {ks:List Kd} {vs cl:List AV} {tk tk':List Nat} {s s':St},s.shutAll tk ks vs=some (cl,tk',s')->∀ v∈vs,v.full=true
 | [],[],cl,tk,tk',s,s',h,v,hv=>by cases hv
 | [],_::_,cl,tk,tk',s,s',h,v,hv=>by simp [St.shutAll] at h
 | _::_,[],cl,tk,tk',s,s',h,v,hv=>by cases hv
 | k::ks,a::vs,cl,tk,tk',s,s',h,v,hv=>by
  have norm:((a.norm k).bind fun x=>(s.shutAll tk ks vs).bind fun y=>some (x::y.1,y.2))=some (cl,tk',s')->v.full=true:=by
   intro h
   cases hq:a.norm k with
   | none=>rw [hq] at h; cases h
   | some x =>
    rw [hq] at h
    simp only [U] at h
    cases hc:s.shutAll tk ks vs with
    | none=>rw [hc] at h; cases h
    | some y =>
     obtain ⟨y1,y2,y3⟩:=y
     rcases AL.1 hv with rfl | hv
     ·have:=(Nz hq).2.2.1
      cases v<;>first | rfl | cases this
     ·exact FS hc v hv
  cases a with
  | row i =>
   rcases AL.1 hv with rfl | hv
   ·rfl
   ·simp only [St.shutAll] at h
    split at h
    ·cases h
    ·split at h
     ·split at h
      ·cases hc:s.shutAll (i::tk) ks vs with
       | none=>rw [hc] at h; cases h
       | some y=>obtain ⟨y1,y2,y3⟩:=y; exact FS hc v hv
      ·cases h
     ·cases hk:s.keep (.row i) with
      | none=>rw [hk] at h; cases h
      | some x =>
       rw [hk] at h
       simp only [U] at h
       cases hc:x.2.shutAll tk ks vs with
       | none=>rw [hc] at h; cases h
       | some y=>obtain ⟨y1,y2,y3⟩:=y; exact FS hc v hv
  | ptr i o =>
   rcases AL.1 hv with rfl | hv'
   ·rfl
   ·cases o with
    | zero =>
     simp only [St.shutAll] at h
     split at h
     ·cases h
     ·split at h
      ·split at h
       ·rename_i K x0 cs hi
        cases hq:GT K.leaves cs with
        | none=>rw [hq] at h; cases h
        | some cs' =>
         rw [hq] at h
         simp only [U] at h
         cases hc:s.shutAll (i::tk) ks vs with
         | none=>rw [hc] at h; cases h
         | some y=>obtain ⟨y1,y2,y3⟩:=y; exact FS hc v hv'
       ·cases h
      ·cases h
    | succ o=>exact norm h
  | _=>exact norm h
theorem Gh:∀ {ks:List Kd} {vs cl:List AV} {tk tk':List Nat} {s s':St},s.shutAll tk ks vs=some (cl,tk',s')->vs.length=ks.length
 | [],[],cl,tk,tk',s,s',h=>rfl
 | [],_::_,cl,tk,tk',s,s',h=>by simp [St.shutAll] at h
 | _::_,[],cl,tk,tk',s,s',h=>by simp [St.shutAll] at h
 | k::ks,a::vs,cl,tk,tk',s,s',h=>by
  have norm:((a.norm k).bind fun x=>(s.shutAll tk ks vs).bind fun y=>some (x::y.1,y.2))=some (cl,tk',s')->(a::vs).length=(k::ks).length:=by
   intro h
   cases hq:a.norm k with
   | none=>rw [hq] at h; cases h
   | some x =>
    rw [hq] at h
    simp only [U] at h
    cases hc:s.shutAll tk ks vs with
    | none=>rw [hc] at h; cases h
    | some y=>obtain ⟨y1,y2,y3⟩:=y; simp [Gh hc]
  cases a with
  | row i =>
   simp only [St.shutAll] at h
   split at h
   ·cases h
   ·split at h
    ·split at h
     ·cases hc:s.shutAll (i::tk) ks vs with
      | none=>rw [hc] at h; cases h
      | some y=>obtain ⟨y1,y2,y3⟩:=y; simp [Gh hc]
     ·cases h
    ·cases hk:s.keep (.row i) with
     | none=>rw [hk] at h; cases h
     | some x =>
      rw [hk] at h
      simp only [U] at h
      cases hc:x.2.shutAll tk ks vs with
      | none=>rw [hc] at h; cases h
      | some y=>obtain ⟨y1,y2,y3⟩:=y; simp [Gh hc]
  | ptr i o =>
   cases o with
   | zero =>
    simp only [St.shutAll] at h
    split at h
    ·cases h
    ·split at h
     ·split at h
      ·rename_i K x0 cs hi
       cases hq:GT K.leaves cs with
       | none=>rw [hq] at h; cases h
       | some cs' =>
        rw [hq] at h
        simp only [U] at h
        cases hc:s.shutAll (i::tk) ks vs with
        | none=>rw [hc] at h; cases h
        | some y=>obtain ⟨y1,y2,y3⟩:=y; simp [Gh hc]
      ·cases h
     ·cases h
   | succ o=>exact norm h
  | _=>exact norm h
theorem M5:∀ K:Kd,K.leaves.length=K.sz
 | .int _=>rfl
 | .bool=>rfl
 | .str=>rfl
 | .slice _=>rfl
 | .pair a b=>by simp [Kd.leaves,Kd.sz,M5 a,M5 b]
 | .own _ _=>rfl
 | .ref _=>rfl
 | .fun _=>rfl
 | .clo _ _=>rfl
theorem TJ {w:World} {φ:Aq} {tmps:Array Value}:∀ {rs:List YC} {rvs:List ResultVar} {aw:List AV} {tk tk':List Nat} {s s':St} {H:HP},SR H φ s.st w->B5 H φ s.st s.fr tmps->s.result tk rs=some (aw,tk',s')->Rl P rvs rs=true ->
  ∃ H' ids vs,CJ H φ w s s' tk tk' (vs.flatMap fun v=>v.cells.toList) (cellsOf aw) H' ids/\(rvs.mapM (Kl tmps)).run P w=.ok vs w/\AN (fun a v=>∃ K,∃ x:Kd.T K,a=Kd.av K x/\Yq K v/\a.cells.length=v.cells.toList.length) aw vs
 | [],[],aw,tk,tk',s,s',H,hs,hf,h,hb=>by
  cases h
  exact ⟨H,[],[],⟨AH.refl hs,Aj.refl _ _ _,rfl,rfl,rfl,rfl,fun h=>h,fun _ _=>rfl,fun _ _=>rfl,fun m b h=>by simp [cellsOf,AS] at h,fun k f _=>rfl⟩,by simp,rfl⟩
 | [],_::_,aw,tk,tk',s,s',H,hs,hf,h,hb=>by simp [Rl] at hb
 | _::_,[],aw,tk,tk',s,s',H,hs,hf,h,hb=>by simp [Rl] at hb
 | r::rs,rv::rvs,aw,tk,tk',s,s',H,hs,hf,h,hb=>by
  simp only [Rl,J] at hb
  simp only [St.result] at h
  cases h1:s.resCells r with
  | none=>rw [h1] at h; cases h
  | some cs =>
   rw [h1] at h
   simp only [U] at h
   cases h2:s.shutAll tk r.K.leaves cs with
   | none=>rw [h2] at h; cases h
   | some y =>
    obtain ⟨cl,t1,s1⟩:=y
    rw [h2] at h
    simp only [U] at h
    cases h3:r.K.ofCells cl with
    | none=>rw [h3] at h; cases h
    | some x =>
     rw [h3] at h
     simp only [U] at h
     cases h4:s1.result t1 rs with
     | none=>rw [h4] at h; cases h
     | some z =>
      obtain ⟨aw',t2,s2⟩:=z
      rw [h4] at h
      cases h
      obtain ⟨v,hrun,hv,hfit⟩:=Ui hs hf h1 hb.1 (FS h2) ((Gh h2).trans (M5 _))
      obtain ⟨H1,i1,F1⟩:=Hy hs hv h2
      have ecl:cl=r.K.enc x:=by
       have:=Q8 r.K cl [] x F1.nf (Ck h3)
       simpa using this
      have hf1:B5 H1 φ s1.st s1.fr tmps:=by rw [F1.fr]; exact hf.mono F1.step.le F1.keeps
      obtain ⟨H2,i2,vs,F2,hrun2,hall⟩:=TJ F1.step.sr hf1 h4 hb.2
      have hcells:(r.K.av x).cells=cl:=by rw [LW,ecl]
      refine ⟨H2,i1++i2,v::vs,?_,?_,⟨v,vs,rfl,⟨r.K,x,rfl,hfit,?_⟩,hall⟩⟩
      ·have:=F1.append F2
       simp only [cellsOf,List.flatMap_cons,hcells] at this ⊢
       exact this
      ·rw [List.mapM_cons]
       simp [Sem.run_bind,hrun,hrun2]
      ·have:=(F1.vals 0 (fun m=>i1.getD m 0) fun m i hm=>by simp [List.getD,hm]).length
       rw [hcells]
       rw [ES] at this
       exact this.symm
theorem Km {w:World} {φ:Aq}:∀ {bs:List (Nat×Kd)} {aw:List AV} {tk tk':List Nat} {s s':St} {H:HP},SR H φ s.st w->s.shutBoxes tk bs=some (aw,tk',s') ->
  ∃ (H':HP) (ids:List Nat) (us:List (List Value)),CJ H φ w s s' tk tk' us.flatten (Ah aw) H' ids/\AN (fun a u=>a.cellsO.length=u.length) aw us/\aw.length=bs.length/\(∀ (j:Nat) (v:AV),aw[j]? = some v->∃ p,bs[j]? = some p/\p.2.noRef=true/\∃ x:Kd.T p.2,v=Kd.av p.2 x) /\
   ∀ (j:Nat) (p:Nat×Kd),bs[j]? = some p->(p.2.isOwn=false/\AJ s'.st p.1=true/\∃ (b:Nat) (c:Array Value) (el:TypeId),φ p.1=.pointer (some ⟨b,0,none⟩)/\w.heap[b]? = some (.cells c el (0,0))/\us[j]? = some c.toList) \/
    (∃ (t:TypeId) (e:Kd),∃ xs:List (Kd.T e),p.2=.own t e/\s'.st[p.1]? = some (AC.mrow t e xs)/\aw[j]? = some (.new t e xs))
 | [],aw,tk,tk',s,s',H,hs,h=>by
  cases h
  exact ⟨H,[],[],⟨AH.refl hs,Aj.refl _ _ _,rfl,rfl,rfl,rfl,fun h=>h,fun _ _=>rfl,fun _ _=>rfl,fun m b h=>by simp [Ah,AS] at h,fun k f _=>rfl⟩,rfl,rfl,fun j v h=>by simp at h,fun j p h=>by simp at h⟩
 | (b,K)::bs,aw,tk,tk',s,s',H,hs,h=>by
  simp only [St.shutBoxes] at h
  split at h
  ·rename_i t e xs hm
   split at h
   ·rename_i hK
    subst hK
    cases h4:s.shutBoxes tk bs with
    | none=>rw [h4] at h; cases h
    | some z =>
     obtain ⟨aw',t2,s2⟩:=z
     rw [h4] at h
     cases h
     obtain ⟨H2,i2,us,F2,hl,hn,hk,hb⟩:=Km hs h4
     refine ⟨H2,i2,[]::us,F2,⟨[],us,rfl,rfl,hl⟩,by simp [hn],fun j v hj=>?_,fun j p hj=>?_⟩
     ·cases j with
      | zero=>simp at hj; subst hj; exact ⟨(b,.own t e),rfl,rfl,xs,rfl⟩
      | succ j=>simpa using hk j v (by simpa using hj)
     ·cases j with
      | zero =>
       simp at hj
       subst hj
       exact .inr ⟨t,e,xs,rfl,by rw [F2.vars b (by simp only [AE,hm]; rfl)]; exact hm,rfl⟩
      | succ j=>simpa using hb j p (by simpa using hj)
   ·cases h
  ·rename_i cs hcs
   split at h
   case isFalse=>cases h
   rename_i hnr2
   simp only [J,Cj] at hnr2
   obtain ⟨hnr,hno⟩:=hnr2
   cases h2:s.shutAll tk K.leaves cs with
   | none=>rw [h2] at h; cases h
   | some y =>
    obtain ⟨cl,t1,s1⟩:=y
    rw [h2] at h
    simp only [U] at h
    cases h3:K.ofCells cl with
    | none=>rw [h3] at h; cases h
    | some x =>
     rw [h3] at h
     simp only [U] at h
     cases h4:s1.shutBoxes t1 bs with
     | none=>rw [h4] at h; cases h
     | some z =>
      obtain ⟨aw',t2,s2⟩:=z
      rw [h4] at h
      cases h
      obtain ⟨b0,c,el,e1,e2,e3⟩:=Wk hs hcs
      obtain ⟨H1,i1,F1⟩:=Hy hs e3 h2
      have ecl:cl=K.enc x:=by
       have:=Q8 K cl [] x F1.nf (Ck h3)
       simpa using this
      obtain ⟨H2,i2,us,F2,hl,hn,hk,hb⟩:=Km F1.step.sr h4
      have hcells:(K.av x).cellsO=cl:=by rw [(EU x hno).1,ecl]
      have hlen:cl.length=c.toList.length:=by
       have:=(F1.vals 0 (fun m=>i1.getD m 0) fun m i hm=>by simp [List.getD,hm]).length
       rw [ES] at this
       exact this.symm
      refine ⟨H2,i1++i2,c.toList::us,?_,⟨c.toList,us,rfl,by simp only [hcells]; exact hlen,hl⟩,by simp [hn],fun j v hj=>?_,fun j p hj=>?_⟩
      ·have:=F1.append F2
       simp only [Ah,List.flatMap_cons,hcells,List.flatten_cons] at this ⊢
       exact this
      ·cases j with
       | zero=>simp at hj; subst hj; exact ⟨(b,K),rfl,hnr,x,rfl⟩
       | succ j=>simpa using hk j v (by simpa using hj)
      ·cases j with
       | zero =>
        simp at hj
        subst hj
        refine .inl ⟨hno,?_,b0,c,el,e1,e2,rfl⟩
        have v0:AJ s.st b=true:=by simp only [AJ,hcs]
        have g1:=F1.vars b (Kb v0)
        have v1:AJ s1.st b=true:=by unfold AJ at v0 ⊢; rw [g1]; exact v0
        have g2:=F2.vars b (Kb v1)
        unfold AJ at v1 ⊢; rw [g2]; exact v1
       | succ j=>simpa using hb j p (by simpa using hj)
  ·cases h
theorem M6 {R:AV->Value->Prop} (c:AV->List AV):∀ {aw:List AV} {us:List (List Value)} {k:Nat},AN (fun a u=>(c a).length=u.length) aw us->AN R (Ae k (aw.flatMap c)) us.flatten ->
  ∀ (j:Nat) (a:AV) (u:List Value),aw[j]? = some a->us[j]? = some u->AN R (Ae (k+AB ((aw.take j).flatMap c)) (c a)) u
 | [],us,k,hl,h,j,a,u,ha,hu=>by simp at ha
 | a0::aw,us,k,⟨u0,us',e,l0,hl⟩,h,j,a,u,ha,hu=>by
  subst e
  simp only [List.flatMap_cons,List.flatten_cons] at h
  rw [Kg] at h
  have hlen:(Ae k (c a0)).length=u0.length:=by rw [ES]; exact l0
  have h1:AN R (Ae k (c a0)) u0:=by
   have:=h.take (Ae k (c a0)).length
   rw [List.take_left,hlen,List.take_left] at this
   exact this
  have h2:AN R (Ae (k+AB (c a0)) (aw.flatMap c)) us'.flatten:=by
   have:=h.drop (Ae k (c a0)).length
   rw [List.drop_left,hlen,List.drop_left] at this
   exact this
  cases j with
  | zero =>
   simp at ha hu
   subst ha hu
   simpa [AB] using h1
  | succ j =>
   have:=M6 c hl h2 j a u (by simpa using ha) (by simpa using hu)
   simpa [Af,Nat.add_assoc] using this
def AV.isPtr:AV->Bool
 | .ptr _ _=>true
 | .ref _=>true
 | _=>false
theorem PU:∀ (K:Kd) (x:K.T),K.noRef=true->∀ c∈K.enc x,c.isPtr=false
 | .int _,_,_,c,h=>by simp [Kd.enc] at h; subst h; rfl
 | .bool,_,_,c,h=>by simp [Kd.enc] at h; subst h; rfl
 | .str,_,_,c,h=>by simp [Kd.enc] at h; subst h; rfl
 | .slice _,_,_,c,h=>by simp [Kd.enc] at h; subst h; rfl
 | .pair a b,x,hn,c,h=>by
  simp only [Kd.noRef,J] at hn
  simp only [Kd.enc,BE] at h
  rcases h with h | h
  ·exact PU a x.1 hn.1 c h
  ·exact PU b x.2 hn.2 c h
 | .own _ _,_,_,c,h=>by simp [Kd.enc] at h; subst h; rfl
 | .ref _,_,hn,_,_=>by cases hn
 | .fun _,_,_,c,h=>by simp [Kd.enc] at h; subst h; rfl
 | .clo _ _,_,_,c,h=>by simp [Kd.enc] at h; subst h; rfl
theorem QT:∀ (cs:List AV) (k:Nat),(∀ c∈cs,c.isPtr=false)->∀ a∈Ae k cs,a.isPtr=false
 | [],k,_,a,h=>by simp [Ae] at h
 | c::cs,k,hn,a,h=>by
  have h1:=hn c (by simp)
  have ih:=fun k=>QT cs k fun c hc=>hn c (by simp [hc])
  have key:∀ (d:AV) (k':Nat),d.isPtr=false->(a=d\/a∈Ae k' cs)->a.isPtr=false:=fun d k' hd h=>by
   rcases h with rfl | h
   ·exact hd
   ·exact ih k' a h
  cases c<;>simp only [Ae,AL] at h<;>first | exact key _ _ rfl h | exact absurd h1 (by simp [AV.isPtr])
theorem GU:∀ (vs:List AV) (k:Nat),(BQ k vs).length=vs.length
 | [],_=>rfl
 | v::r,k=>by simp [BQ,GU r]
theorem Rm:∀ (vs:List AV) (k j:Nat) (v:AV),vs[j]? = some v->(BQ k vs)[j]? = some (Nd (k+AB (cellsOf (vs.take j))) v)
 | [],k,j,v,h=>by simp at h
 | u::r,k,0,v,h=>by simp at h; subst h; simp [BQ,cellsOf,AB]
 | u::r,k,j+1,v,h=>by
  simp only [BQ,List.getElem?_cons_succ]
  rw [Rm r _ j v (by simpa using h)]
  simp [cellsOf,Af,Nat.add_assoc]
theorem ZY {H0 H:HP} {φ0 φ:Aq} {w0 w:World} {s s1 s2:St} {args bs:List AV} {ids:List (Nat×Kd)} {rsv outs:List AV} {t1 t2:List Nat} {fn:Func} {ress:List YC} {tmps:Array Value}
  (hs:SR H φ s.st w) (hf:B5 H φ s.st s.fr tmps) (hfr:Fr bs.length (Ay bs args).length H0 φ0 w0 H φ s.st w) (hle:H0.le H)
  (hids:∀ (j:Nat) (p:Nat×Kd),ids[j]? = some p->p.1=j) (hbl:bs.length=ids.length)
  (hres:s.result (List.range ids.length) ress=some (rsv,t1,s1)) (hbox:s1.shutBoxes t1 ids=some (outs,t2,s2)) (hrb:Rl P fn.results.toList ress=true) :
  (∀ r∈rsv++outs,r.cells.all AV.nilFree=true)/\∃ v,(results fn tmps).run P w=.ok v w/\Ki H0 φ0 w0 args bs outs rsv v w:=by
 obtain ⟨H1,i1,vs,F1,hrun,hall⟩:=TJ (P:=P) hs hf hres hrb
 obtain ⟨H2,i2,us,F2,hul,hol,hok,hob⟩:=Km F1.step.sr hbox
 have hnv:outs.length=bs.length:=by rw [hol,hbl]
 let nv:=bs.length
 let μ:Nat->Nat:=fun k=>if k<nv then k else (i2++i1).getD (k-nv) 0
 have μv:∀ k,k<nv->μ k=k:=fun k h=>by simp only [μ,h,if_true]
 have μb:∀ m i,i2[m]? = some i->μ (nv+m)=i:=fun m i hm=>by
  have hl:=(AK.1 hm).1
  simp only [μ,show ¬ nv+m<nv by omega,if_false,Nat.add_sub_cancel_left]
  simp [List.getD,AO hl,hm]
 have μr:∀ m i,i1[m]? = some i->μ (nv+i2.length+m)=i:=fun m i hm=>by
  simp only [μ,show ¬ nv+i2.length+m<nv by omega,if_false]
  rw [show nv+i2.length+m-nv=i2.length+m by omega]
  simp [List.getD,Au,hm]
 have hnd:(t2).Nodup:=F2.nd (F1.nd List.nodup_range)
 have ht2:t2=i2.reverse++(i1.reverse++List.range ids.length):=by rw [F2.tks,F1.tks]
 let est:=Ay outs rsv
 let φ2:Aq:=fun k=>φ (μ k)
 have hc2:AB (Ah outs)=i2.length:=F2.cnt
 have hc1:AB (cellsOf rsv)=i1.length:=F1.cnt
 have elen:est.length=nv+i2.length+i1.length:=by
  show (Ay outs rsv).length=_
  rw [Je,hnv,hc2,hc1]
 have evar:∀ k,k<nv->(∃ (b:Nat) (c:Array Value) (el:TypeId) (a:AV),φ k=.pointer (some ⟨b,0,none⟩)/\w.heap[b]? = some (.cells c el (0,0))/\outs[k]? = some a/\AJ s2.st k=true /\
   est[k]? = some (.var (Ae (nv+AB (Ah (outs.take k))) a.cellsO)) /\
   AN (fun a u=>VC H2 φ s2.st (a.ren μ) u/\(a.solid=true\/∃ m,m<i2.length/\((∃ t e,∃ xs:List (Kd.T e),a=.row (nv+m)/\(AS (Ah outs))[m]? = some (AC.rows t e xs))\/(∃ ecs,a=.ptr (nv+m) 0/\(AS (Ah outs))[m]? = some (AC.var ecs)))))
    (Ae (nv+AB (Ah (outs.take k))) a.cellsO) c.toList)\/(∃ (t:TypeId) (e:Kd),∃ xs:List (Kd.T e),s2.st[k]? = some (AC.mrow t e xs)/\est[k]? = some (AC.mrow t e xs)):=by
  intro k hk
  have hk2:k<ids.length:=by omega
  have hp:ids[k]? = some ids[k]:=by simp
  have hk3:k<outs.length:=by omega
  have ha:outs[k]? = some outs[k]:=by simp
  have hget:est[k]? = some (UG (nv+AB (Ah (outs.take k))) outs[k]):=by
   show (Ay outs rsv)[k]? = _
   rw [ET,AO (by rw [Ag]; exact hk3),FQ outs _ k _ ha,hnv]
  rcases hob k _ hp with ⟨hno,g1,b,c,el,e1,e2,e3⟩ | ⟨t,e,xs,hK,g1,g2⟩
  ·rw [hids k _ hp] at g1 e1
   refine .inl ⟨b,c,el,outs[k],e1,e2,ha,g1,?_,M6 AV.cellsO hul (F2.vals nv μ μb) k _ _ ha e3⟩
   rw [hget]
   obtain ⟨p,hp2,_,x,hx⟩:=hok k _ ha
   rw [hp] at hp2
   cases hp2
   rw [hx,(EU x hno).2,(EU x hno).1]
  ·rw [hids k _ hp] at g1
   rw [ha] at g2
   refine .inr ⟨t,e,xs,g1,?_⟩
   rw [hget,Option.some.inj g2]
   rfl
 have erow:∀ k b,nv<=k->est[k]? = some b->TI s2.st (μ k) b/\(i2++i1)[k-nv]? = some (μ k):=by
  intro k b hk hb
  have hb:(Ay outs rsv)[k]? = some b:=hb
  rw [ET,Au (by rw [Ag,hnv]; exact hk),Ag,hnv,An] at hb
  rcases As (k-bs.length) (AS (Ah outs)).length with h | h
  ·rw [AO h] at hb
   obtain ⟨i,g1,g2⟩:=F2.boxes _ b hb
   have e:=μb _ i g1
   rw [show nv+(k-bs.length)=k by omega] at e
   rw [e]
   exact ⟨g2,by rw [AO (AK.1 g1).1]; exact g1⟩
  ·rw [Au h] at hb
   obtain ⟨i,g1,g2⟩:=F1.boxes _ b hb
   rw [Bv,hc2] at h g1
   have e:=μr _ i g1
   rw [show nv+i2.length+(k-bs.length-i2.length)=k by omega] at e
   rw [e]
   refine ⟨?_,by rw [Au h]; exact g1⟩
   have hh:=F2.held i (by rw [F1.tks]; simp [List.mem_of_getElem? g1])
   unfold TI at g2 ⊢
   rw [hh]
   exact g2
 have rowsE:∀ m t e (xs:List (Kd.T e)),(AS (Ah outs))[m]? = some (AC.rows t e xs)->est[nv+m]? = some (AC.rows t e xs):=by
  intro m t e xs h
  show (Ay outs rsv)[nv+m]? = _
  have hl:=(AK.1 h).1
  rw [ET,Au (by rw [Ag,hnv]; exact Nat.le_add_right _ _),Ag,hnv,An,show nv+m-bs.length=m by simp only [nv]; omega,AO hl]
  exact h
 have restE:∀ m b,(AS (cellsOf rsv))[m]? = some b->est[nv+i2.length+m]? = some b:=by
  intro m b h
  show (Ay outs rsv)[nv+i2.length+m]? = _
  rw [ET,Au (by rw [Ag,hnv]; simp only [nv]; omega),Ag,hnv,An,Au (by rw [Bv,hc2]; simp only [nv]; omega),Bv,hc2,
   show nv+i2.length+m-bs.length-i2.length=m by simp only [nv]; omega]
  exact h
 have hs2:=F2.step.sr
 have μt:∀ k,k<est.length->(k<nv/\μ k=k)\/(nv<=k/\(i2++i1)[k-nv]? = some (μ k)):=by
  intro k hk
  rcases As k nv with h | h
  ·exact .inl ⟨h,μv k h⟩
  ·exact .inr ⟨h,(erow k est[k] h (by simp)).2⟩
 have μinj:∀ k k',k<est.length->k'<est.length->μ k=μ k'->k=k':=by
  intro k k' hk hk' e
  have hndl:(i2++i1).Nodup/\∀ i∈i2++i1,¬ i<ids.length:=by
   rw [ht2,<- Bi] at hnd
   have h1:=List.nodup_append.1 hnd
   constructor
   ·have h2:=List.nodup_append.1 h1.1
    exact List.nodup_append.2 ⟨(List.reverse_perm i2).nodup_iff.1 h2.1,(List.reverse_perm i1).nodup_iff.1 h2.2.1,fun a ha b hb=>h2.2.2 a (by simpa using ha) b (by simpa using hb)⟩
   ·intro i hi hlt
    exact h1.2.2 i (by simpa using hi) i (List.mem_range.2 hlt) rfl
  rcases μt k hk with ⟨h1,e1⟩ | ⟨h1,e1⟩<;>rcases μt k' hk' with ⟨h2,e2⟩ | ⟨h2,e2⟩
  ·omega
  ·exact absurd (show μ k'<ids.length by rw [<- e,e1]; omega) (hndl.2 _ (List.mem_of_getElem? e2))
  ·exact absurd (show μ k<ids.length by rw [e,e2]; omega) (hndl.2 _ (List.mem_of_getElem? e1))
  ·rw [<- e] at e2
   have:=(List.getElem?_inj (AK.1 e1).1 hndl.1).1 (e1.trans e2.symm)
   omega
 have vcE:∀ a u,VC H2 φ s2.st (a.ren μ) u->(a.solid=true\/(∃ k t e,∃ xs:List (Kd.T e),a=.row k/\est[k]? = some (AC.rows t e xs))\/∃ k ecs,a=.ptr k 0/\est[k]? = some (AC.var ecs))->VC H2 φ2 est a u:=by
  intro a u hv hc
  rcases hc with h | ⟨k,t,e,xs,rfl,hk⟩ | ⟨k,ecs,rfl,hk⟩
  ·rw [PT h] at hv
   exact VC.of_VF (hv.solid h)
  ·obtain ⟨e1,_⟩:=hv
   exact ⟨e1,by simp only [Z,hk]; rfl⟩
  ·obtain ⟨_,b,e1,e2⟩:=hv
   exact ⟨by simp only [AJ,hk],b,e1,e2⟩
 have hbox2:∀ k b,est[k]? = some b->D8 H2 w (φ2 k) b:=by
  intro k b hk
  rcases As k nv with h | h
  ·rcases evar k h with ⟨b0,c,el,a,e1,e2,e3,_,e4,e5⟩ | ⟨t,e,xs,e1,e2⟩
   rotate_left
   ·rw [hk] at e2
    cases e2
    rw [show φ2 k=φ k by simp only [φ2,μv k h]]
    exact hs2.box k _ e1
   rw [hk] at e4
   cases e4
   obtain ⟨p,hp,hnr,x,hx⟩:=hok k a e3
   refine ⟨b0,c,el,by simp only [φ2,μv k h]; exact e1,e2,e5.impM fun a' ha' u ⟨g1,g2⟩=>?_⟩
   have hnp:=QT _ _ (by
    intro c hc
    rw [hx] at hc
    by_cases ho:p.2.isOwn=true
    ·revert x
     obtain ⟨t,e,ho⟩:=RY ho
     rw [ho]
     intro x _ hc
     simp [RZ x] at hc
    ·rw [(EU x (by simpa using ho)).1] at hc
     exact PU _ _ hnr c hc) a' ha'
   rcases g2 with g2 | ⟨m,_,⟨t,e,xs,rfl,_⟩ | ⟨ecs,rfl,g3⟩⟩
   ·rw [PT g2] at g1
    exact VW.of_VF (g1.solid g2)
   ·trivial
   ·cases hnp
  ·obtain ⟨g1,_⟩:=erow k b h hk
   rcases g1 with ⟨t,e,xs,g2,rfl⟩ | ⟨cs,ecs,g2,rfl,g3,g4⟩
   ·exact hs2.box _ _ g2
   ·obtain ⟨b0,c,el,e1,e2,e3⟩:=hs2.box _ _ g2
    refine ⟨b0,c,el,e1,e2,Ik (by rw [e3.length,g3]) fun o a u ha hu=>?_⟩
    obtain ⟨c0,c1,c2,c3,c4⟩:=g4 o a ha
    have hw:=e3.at c1 hu
    have hf:VF H2 c0 u:=by cases c0<;>first | exact hw | cases c3
    exact VW.of_VF (c4 H2 u hf)
 have hlive:∀ (k:Nat) (b2:AC),est[k]? = some b2->b2.live=true->(∀ b,¬A8 (φ2 k) b)\/∃ b,s2.st[μ k]? = some b/\b.live=true/\φ2 k=φ (μ k):=by
  intro k b hk _
  right
  rcases As k nv with h | h
  ·rw [μv k h]
   rcases evar k h with ⟨_,_,_,_,_,_,_,e3,_⟩ | ⟨t,e,xs,e1,_⟩
   ·unfold AJ at e3
    split at e3
    ·rename_i cs e; exact ⟨_,e,rfl,by simp only [φ2,μv k h]⟩
    ·cases e3
   ·exact ⟨_,e1,rfl,by simp only [φ2,μv k h]⟩
  ·obtain ⟨g1,_⟩:=erow k b h hk
   rcases g1 with ⟨t,e,xs,g2,_⟩ | ⟨cs,ecs,g2,_⟩
   ·exact ⟨_,g2,rfl,rfl⟩
   ·exact ⟨_,g2,rfl,rfl⟩
 have hsr:SR H2 φ2 est w:=by
  refine AH.pick hs2 μ hbox2 hlive (fun k k' b b' hk hk' _ _ _ _ e=>μinj k k' (AK.1 hk).1 (AK.1 hk').1 e) (fun k cs hk o i ho=>?_)
  rcases As k nv with h | h
  ·rcases evar k h with ⟨b0,c,el,a,e1,e2,e3,_,e4,e5⟩ | ⟨t,e,xs,_,e2⟩
   rotate_left
   ·rw [hk] at e2; cases e2
   rw [hk] at e4
   cases e4
   obtain ⟨u,hu,g1,g2⟩:=e5.get o _ ho
   rcases g2 with g2 | ⟨m,_,⟨t,e,xs,g3,g4⟩ | ⟨ecs,g3,_⟩⟩
   ·cases g2
   ·cases g3
    refine ⟨by simp only [Z,rowsE m t e xs g4]; rfl,b0,by simp only [φ2,μv k h]; exact e1,?_⟩
    obtain ⟨g5,_⟩:=g1
    simp only [World.cell?,e2]
    rw [Array.getElem?_toList] at hu
    simp only [Option.isSome_none,Bool.false_eq_true,if_false,hu]
    rw [g5]
   ·cases g3
  ·obtain ⟨g1,_⟩:=erow k _ h hk
   rcases g1 with ⟨t,e,xs,_,g3⟩ | ⟨cs0,ecs,g2,g3,_,g4⟩
   ·cases g3
   ·cases g3
    obtain ⟨_,_,g5,_⟩:=g4 o _ ho
    cases g5
 have hfr2:Fr bs.length (Ay bs args).length H0 φ0 w0 H2 φ2 est w:=by
  have f2:=F2.step.fr _ _ _ _ _ (F1.step.fr _ _ _ _ _ hfr)
  refine ⟨f2.os,f2.tape,f2.output,f2.size,f2.old,fun j hj=>?_,fun i bi hi hl b hb=>?_,fun j hj=>?_,f2.frz⟩
  ·have:=f2.same j hj
   simp only [φ2,μv j hj]
   exact this
  ·rcases hlive i bi hi hl with e | ⟨b1,g1,g2,g3⟩
   ·exact (e _ hb).elim
   ·rw [g3] at hb
    exact f2.new _ b1 g1 g2 b hb
  ·rcases evar j hj with ⟨_,_,_,_,_,_,_,_,e4,_⟩ | ⟨t,e,xs,_,e4⟩
   ·simp only [AE,e4]; rfl
   ·simp only [AE,e4]; rfl
 have hhan:CL outs=nv+i2.length:=by rw [PM,hnv,hc2]
 have hvals:AN (VB H2 φ2 est) (BQ (CL outs) rsv) vs:=by
  rw [hhan]
  have h1:=F1.vals (nv+i2.length) μ μr
  have h2:AN (VC H2 φ2 est) (Ae (nv+i2.length) (cellsOf rsv)) (vs.map fun v=>v.cells.toList).flatten:=by
   rw [<- List.flatMap_def]
   refine h1.imp fun a u ⟨g1,g2⟩=>vcE a u (g1.mono F2.step.le F2.keeps) ?_
   rcases g2 with g2 | ⟨m,_,⟨t,e,xs,g3,g4⟩ | ⟨ecs,g3,g4⟩⟩
   ·exact .inl g2
   ·exact .inr (.inl ⟨_,t,e,xs,g3,restE m _ g4⟩)
   ·exact .inr (.inr ⟨_,ecs,g3,restE m _ g4⟩)
  have h3:AN (fun a u=>a.cells.length=u.length) rsv (vs.map fun v=>v.cells.toList):=by
   refine Ik (by rw [List.length_map,hall.length]) fun j a u ha hu=>?_
   rw [BA] at hu
   obtain ⟨v,hv,_,_,_,_,hl⟩:=hall.get j a ha
   rw [hv] at hu
   cases hu
   exact hl
  refine Ik (by rw [GU,hall.length]) fun j a v ha hv=>?_
  have hj:j<rsv.length:=by rw [<- GU rsv (nv+i2.length)]; exact (AK.1 ha).1
  have hr:rsv[j]? = some rsv[j]:=by simp
  rw [Rm rsv _ j _ hr] at ha
  cases ha
  have h4:=M6 AV.cells h3 h2 j rsv[j] v.cells.toList hr (by rw [BA,hv]; rfl)
  obtain ⟨v',hv',K,x,hK,hfit,_⟩:=hall.get j _ hr
  rw [hv] at hv'
  cases hv'
  rw [hK] at h4 ⊢
  change AN _ (Ae (nv+i2.length+AB (cellsOf (List.take j rsv))) _) _ at h4
  generalize nv+i2.length+AB (cellsOf (List.take j rsv))=kk at h4 ⊢
  have single:(K.av x).cells=[K.av x]->v.cells=#[v]->Nd kk (K.av x)=(Ae kk [K.av x]).headD .undef->VB H2 φ2 est (Nd kk (K.av x)) v:=by
   intro e1 e2 e3
   rw [e1,e2] at h4
   rw [e3]
   cases hq:Ae kk [K.av x] with
   | nil=>rw [hq] at h4; simp [AN] at h4
   | cons c r =>
    rw [hq] at h4
    obtain ⟨v',r',e,h5,_⟩:=h4
    cases e
    exact VB.of_VC h5
  cases K with
  | pair k l =>
   obtain ⟨arr,rfl⟩:=hfit
   exact ⟨arr,rfl,h4⟩
  | _=>exact single rfl hfit rfl
 have nfs:∀ {l:List AV},(cellsOf l).all AV.nilFree=true->∀ r∈l,r.cells.all AV.nilFree=true:=by
  intro l h r hr
  refine Ak.2 fun c hc=>Ak.1 h c ?_
  exact List.mem_flatMap.2 ⟨r,hr,hc⟩
 refine ⟨fun r hr=>?_,match vs with | [v]=>v | vs=>.tuple vs.toArray,?_,H2,φ2,HP.le_trans hle (HP.le_trans F1.step.le F2.step.le),hsr,hfr2,?_⟩
 ·rcases BE.1 hr with h | h
  ·exact nfs F1.nf r h
  ·obtain ⟨j,hj⟩:=List.mem_iff_getElem?.1 h
   obtain ⟨p,_,_,x,hx⟩:=hok j r hj
   by_cases ho:p.2.isOwn=true
   ·subst hx
    revert x
    obtain ⟨t,e,ho⟩:=RY ho
    rw [ho]
    intro x
    intros
    rfl
   ·refine Ak.2 fun c hc=>Ak.1 F2.nf c (List.mem_flatMap.2 ⟨r,h,?_⟩)
    subst hx
    rw [(EU x (by simpa using ho)).1]
    rw [LW] at hc
    exact hc
 ·have hm:(fn.results.mapM (Kl tmps)).run P w=.ok vs.toArray w:=by
   rw [Array.mapM_eq_mapM_toList,<- bind_pure_comp,Sem.run_bind,hrun]
   rfl
  have hr:results fn tmps=(fn.results.mapM (Kl tmps)) >>= fun vs=>pure (if h:vs.size=1 then vs[0] else .tuple vs):=by
   unfold results
   first | rfl | (congr 1; done) | (congr 1; congr 1; done) | (congr 1; congr 1; funext rv; cases rv<;>rfl)
  rw [hr,Sem.run_bind,hm]
  cases vs with
  | nil=>rfl
  | cons v vs =>
   cases vs with
   | nil=>rfl
   | cons v2 vs=>rfl
 ·cases vs with
  | nil =>
   have:rsv=[]:=by
    have:=hall.length
    exact Ci.1 (by simpa using this.symm)
   subst this
   exact ⟨_,rfl,rfl⟩
  | cons v vs =>
   cases vs with
   | nil =>
    have h1:rsv.length=1:=by have:=hall.length; simpa using this.symm
    obtain ⟨a,rfl⟩:=List.length_eq_one_iff.1 h1
    obtain ⟨v',r,e,h2,_⟩:=hvals
    cases e
    exact h2
   | cons v2 vs =>
    have h1:rsv.length=vs.length+2:=by have:=hall.length; simpa using this.symm
    obtain ⟨a,b,r,rfl⟩:∃ a b r,rsv=a::b::r:=by
     match rsv,h1 with
     | a::b::r,_=>exact ⟨a,b,r,rfl⟩
    exact ⟨_,rfl,hvals⟩
def Kd.sol:Kd->Bool
 | .pair a b=>a.sol&&b.sol
 | .own _ _ | .ref _=>false
 | _=>true
def Kd.okOut:Kd->Bool
 | .pair a b=>a.okOut&&b.okOut
 | .ref K=>K.sol
 | _=>true
theorem Tv:∀ (K:Kd) (x:K.T),K.sol=true->(K.enc x).all (fun c=>c.solid&&(match c with | .nil=>false | _=>true))=true
 | .int _,_,_=>rfl
 | .bool,_,_=>rfl
 | .str,_,_=>rfl
 | .slice _,_,_=>rfl
 | .pair a b,x,h=>by
  simp only [Kd.sol,J] at h
  simp only [Kd.enc,List.all_append,Tv a x.1 h.1,Tv b x.2 h.2,Bool.and_self]
 | .own _ _,_,h=>by cases h
 | .ref _,_,h=>by cases h
 | .fun _,_,_=>rfl
 | .clo _ _,_,_=>rfl
theorem PV:∀ (K:Kd) (x:K.T),K.okOut=true->(K.enc x).all AV.nilFree=true
 | .int _,_,_=>rfl
 | .bool,_,_=>rfl
 | .str,_,_=>rfl
 | .slice _,_,_=>rfl
 | .pair a b,x,h=>by
  simp only [Kd.okOut,J] at h
  simp only [Kd.enc,List.all_append,PV a x.1 h.1,PV b x.2 h.2,Bool.and_self]
 | .own _ _,_,_=>rfl
 | .fun _,_,_=>rfl
 | .clo _ _,_,_=>rfl
 | .ref K,x,h=>by
  simp only [Kd.enc,List.all_cons,List.all_nil,Bool.and_true,AV.nilFree]
  exact Tv K x h
def Xg (P:Program) (f:Nat) (a:B_):Bool :=
 match P.funcs[f]? with
 | some fn=>(match fn.body with
  | some c=>!(fn.name == "runtime.NumGoroutine")&&Cc P fn.ntmps c a.body&&Rl P fn.results.toList a.res&&decide (a.params.length≤fn.ntmps)&&a.outs.all Kd.okOut
  | none=>false)
 | none=>false
theorem TK:∀ (ks:List Kd) (j0:Nat),(QG ks j0).length=ks.length/\∀ (j:Nat) (p:Nat×Kd),(QG ks j0)[j]? = some p->p.1=j0+j
 | [],j0=>⟨rfl,fun j p h=>by simp [QG] at h⟩
 | k::ks,j0=>by
  obtain ⟨h1,h2⟩:=TK ks (j0+1)
  refine ⟨by simp [QG,h1],fun j p h=>?_⟩
  simp only [QG] at h
  cases j with
  | zero=>simp at h; subst h; rfl
  | succ j=>have:=h2 j p (by simpa using h); omega
theorem Bw:∀ (ps:List PK) (j0 j:Nat) (p:Nat×Kd),(Bx ps j0)[j]? = some p->p.1=j0+j
 | [],j0,j,p,h=>by simp [Bx] at h
 | .val _::r,j0,j,p,h=>Bw r j0 j p h
 | .bor _::r,j0,j,p,h=>Bw r j0 j p h
 | .mov _::r,j0,j,p,h=>Bw r j0 j p h
 | .movS _::r,j0,j,p,h=>Bw r j0 j p h
 | .ept::r,j0,j,p,h=>Bw r j0 j p h
 | .cap _ _::r,j0,j,p,h=>Bw r j0 j p h
 | .cap0 _::r,j0,j,p,h=>Bw r j0 j p h
 | .ptr K::r,j0,j,p,h=>by
  simp only [Bx] at h
  cases j with
  | zero=>simp at h; subst h; rfl
  | succ j=>have:=Bw r (j0+1) j p (by simpa using h); omega
 | .mut K::r,j0,j,p,h=>by
  simp only [Bx] at h
  obtain ⟨hl,hm⟩:=TK K.owns j0
  rcases As j (QG K.owns j0).length with h1 | h1
  ·rw [AO h1] at h; exact hm j p h
  ·rw [Au h1,hl] at h
   rw [hl] at h1
   have:=Bw r _ _ p h
   omega
theorem QU:∀ (vs:List AV) (i t:Nat),B9 (HZ i vs) t=if i<=t/\t<i+vs.length then vs.getD (t-i) .undef else .undef
 | [],i,t=>by simp [HZ,B9]
 | v::vs,i,t=>by
  simp only [HZ,B9]
  by_cases h:i=t
  ·subst h
   rw [if_pos rfl,if_pos ⟨Nat.le_refl _,by simp⟩]
   simp
  ·rw [if_neg h,QU vs (i+1) t]
   by_cases h1:i+1<=t/\t<i+1+vs.length
   ·rw [if_pos h1,if_pos ⟨by omega,by simp; omega⟩,show t-i=(t-(i+1))+1 by omega]
    simp
   ·rw [if_neg h1,if_neg (by simp; omega)]
theorem TL:∀ {rs:List YC} {aw:List AV} {tk tk':List Nat} {s s':St},s.result tk rs=some (aw,tk',s')->aw.length=rs.length
 | [],aw,tk,tk',s,s',h=>by cases h; rfl
 | r::rs,aw,tk,tk',s,s',h=>by
  simp only [St.result] at h
  cases h1:s.resCells r with
  | none=>rw [h1] at h; cases h
  | some cs =>
   rw [h1] at h
   simp only [U] at h
   cases h2:s.shutAll tk r.K.leaves cs with
   | none=>rw [h2] at h; cases h
   | some y =>
    rw [h2] at h
    simp only [U] at h
    cases h3:r.K.ofCells y.1 with
    | none=>rw [h3] at h; cases h
    | some x =>
     rw [h3] at h
     simp only [U] at h
     cases h4:y.2.2.result y.2.1 rs with
     | none=>rw [h4] at h; cases h
     | some z =>
      obtain ⟨aw',t2,s2⟩:=z
      rw [h4] at h
      cases h
      simp [TL h4]
theorem Yr {cal:CV} {k f:Nat} {a:B_} {args bs rs:List AV} (hcal:DG P cal) (hb:Xg P f a=true) (hl:args.length=a.params.length/\bs.length=(Bx a.params 0).length)
  (h:(Vc cal k a args bs).map (Bh a.outs)=some rs):Ra P f/\(∀ r∈rs,r.cells.all AV.nilFree=true)/\∃ n,n+bs.length=rs.length /\
  ∀ (H:HP) (φ:Aq) (w:World) (cargs:List Value),SR H φ (Ay bs args) w->AN (VB H φ (Ay bs args)) (BQ (CL bs) args) cargs ->
   Calls P f cargs.toArray w fun out w'=>match out with
    | .returned v=>Ki H φ w args bs (rs.drop n) (rs.take n) v w'
    | _=>False:=by
 unfold Xg at hb
 split at hb
 case h_2=>cases hb
 rename_i fn hfn
 split at hb
 case h_2=>cases hb
 rename_i c hc
 simp only [J,Cj,decide_eq_true_eq] at hb
 obtain ⟨⟨⟨⟨hname,hcode⟩,hress⟩,hlen⟩,hout⟩:=hb
 cases hr:Vc cal k a args bs with
 | none=>rw [hr] at h; cases h
 | some r =>
 rw [hr] at h
 simp only [Option.map_some,AT] at h
 subst h
 have hol:a.outs.length=a.res.length+bs.length:=by rw [hl.2]; simp [B_.outs]
 have el:(Bh a.outs r).length=a.outs.length:=by
  have:∀ (Ks:List Kd) (y:RT Ks),(Bh Ks y).length=Ks.length:=by
   intro Ks
   induction Ks with
   | nil=>intro y; rfl
   | cons K Ks ih =>
    intro y
    cases Ks with
    | nil=>rfl
    | cons L Ks=>simp only [Bh,List.length_cons] at ih ⊢; rw [ih y.2]
  exact this _ _
 refine ⟨⟨fn,c,hfn,hname,hc⟩,fun q hq=>?_,a.res.length,by rw [el,hol],fun H φ w cargs hs hargs=>?_⟩
 ·obtain ⟨j,hj⟩:=List.mem_iff_getElem?.1 hq
  have hjl:j<a.outs.length:=by rw [<- el]; exact (AK.1 hj).1
  obtain ⟨x,hx⟩:=PO a.outs r j a.outs[j] (by simp)
  rw [hx] at hj
  cases hj
  rw [LW]
  exact PV _ _ (Ak.1 hout _ (MC hjl))
 ·have hcl:cargs.length=args.length:=by rw [hargs.length,GU]
  have hsz:(cargs.toArray++Array.replicate (fn.ntmps-cargs.toArray.size) undef).size=fn.ntmps:=by
   simp only [Array.size_append,List.size_toArray,Array.size_replicate]
   omega
  have hf0:B5 H φ (Ay bs args) (HZ 0 (BQ (CL bs) args)) (cargs.toArray++Array.replicate (fn.ntmps-cargs.toArray.size) undef):=by
   intro t
   rw [QU]
   split
   ·rename_i ht
    have ht2:t<(BQ (CL bs) args).length:=by omega
    have h1:(BQ (CL bs) args)[t]? = some (BQ (CL bs) args)[t]:=by simp
    obtain ⟨v,hv,hvb⟩:=hargs.get t _ h1
    have e1:(BQ (CL bs) args).getD (t-0) .undef=(BQ (CL bs) args)[t]:=by simp [List.getD,ht2]
    have ht3:t<cargs.length:=(AK.1 hv).1
    have e2:(cargs.toArray++Array.replicate (fn.ntmps-cargs.toArray.size) undef).getD t undef=v:=by
     rw [Array.getD_eq_getD_getElem?,Array.getElem?_append_left (by simpa using ht3)]
     simp only [List.getElem?_toArray,hv,Option.getD_some]
    rw [e1,e2]
    exact VA.of_VB hvb
   ·trivial
  have fr0:Fr bs.length (Ay bs args).length H φ w H φ (Ay bs args) w:=by
   refine ⟨rfl,rfl,rfl,Nat.le_refl _,fun _ _ _=>rfl,fun _ _=>rfl,fun i bi hi _ b hb=>.inr ⟨i,(AK.1 hi).1,hb⟩,fun j hj=>?_,fun _ _ _=>rfl⟩
   have hv:bs[j]? = some bs[j]:=by simp
   unfold AE
   rw [ET,AO (by rw [Ag]; exact hj),FQ bs _ j _ hv]
   generalize bs[j]=v
   cases v<;>rfl
  have fin:QS fn.ntmps (AI a) r ⟨HZ 0 (BQ (CL bs) args),Ay bs args⟩ { tmps:=cargs.toArray++Array.replicate (fn.ntmps-cargs.toArray.size) undef,defers:=[] } w H φ
    (fun act' w'=>act'.defers=[]/\∃ v,(results fn act'.tmps).run P w'=.ok v w'/\Ki H φ w args bs ((Bh a.outs r).drop a.res.length) ((Bh a.outs r).take a.res.length) v w'):=by
   intro s' act' w' H' φ' hk hst hf' hn' hd'
   refine ⟨hd',?_⟩
   unfold AI at hk
   cases h1:s'.result (List.range (Bx a.params 0).length) a.res with
   | none=>rw [h1] at hk; cases hk
   | some y =>
    obtain ⟨rsv,t1,s1⟩:=y
    rw [h1] at hk
    simp only [U] at hk
    cases h2:s1.shutBoxes t1 (Bx a.params 0) with
    | none=>rw [h2] at hk; cases hk
    | some z =>
     obtain ⟨outs,t2,s2⟩:=z
     rw [h2] at hk
     simp only [U] at hk
     obtain ⟨nf,v,hv,hend⟩:=ZY (P:=P) (args:=args) hst.sr hf' (hst.fr _ _ _ _ _ fr0) hst.le (fun j p hp=>by have:=Bw a.params 0 j p hp; omega) hl.2 h1 h2 hress
     have henc:=TE _ _ r hk nf
     have hrl:=TL h1
     rw [henc,<- hrl,List.drop_left,List.take_left]
     exact ⟨v,hv,hend⟩
  have hwp:=Yo (P:=P) (n:=fn.ntmps) (k:=k) hcal a.body c hcode (RT a.outs) (AI a) (AI a) (fun _ _=>none) r ⟨HZ 0 (BQ (CL bs) args),Ay bs args⟩
   { tmps:=cargs.toArray++Array.replicate (fn.ntmps-cargs.toArray.size) undef,defers:=[] } w H φ
   (bodyPost P fn fun out w'=>match out with
    | .returned v=>Ki H φ w args bs ((Bh a.outs r).drop a.res.length) ((Bh a.outs r).take a.res.length) v w'
    | _=>False) hs hf0 hsz hr fin fin (fun i s' act' w' H' φ' hk=>by cases hk)
  exact calls_of_wp hfn hc hwp
def CR (P:Program) (f:Nat) (a:B_):Bool:=(decide (f<BV)||decide (2*BV<=f))&&Xg P (f % BV) a
def Xh (P:Program) (MV:Nat->Option B_):Prop:=∀ f a,MV f=some a->CR P f a=true
theorem Uj {MV:Nat->Option B_} {Cm:CV} (ht:Xh P MV) (hp:DG P Cm):∀ k,DG P (Nj MV Cm k)
 | 0=>⟨fun f k t T _ h=>(by cases h),fun f args bs rs _ h=>by cases h⟩
 | k+1=>⟨fun f q t T hf h=>(by
  simp only [Nj] at h
  split at h
  ·rename_i a ha
   have:=ht _ a ha
   simp only [CR,J,EN,decide_eq_true_eq] at this
   omega
  ·exact hp.1 f q t T hf h),fun f args bs rs hlt h=>by
  simp only [Nj] at h
  split at h
  ·rename_i a ha
   split at h
   ·rename_i hl
    exact Yr (Uj ht hp k) (by have:=ht f a ha; simp only [CR,J] at this; exact this.2) hl h
   ·cases h
  ·exact hp.2 f args bs rs hlt h⟩
end Go.Proofs.YtfcgblnlopemkaaDoor.Core

namespace Go.Proofs.YtfcgblnlopemkaaDoor.Core
open Go
def Kd.ok:(K:Kd)->K.T->Prop
 | .int k,n=>k.min<=n/\n<=k.max
 | .bool,_=>True
 | .str,s=>s.size<=maxLen
 | .slice e,xs=>xs.length<=maxLen/\∀ x∈xs,Kd.ok e x
 | .pair a b,x=>a.ok x.1/\b.ok x.2
 | .own _ _,_=>False
 | .ref _,_=>False
 | .fun _,_=>False
 | .clo _ _,_=>False
mutual
def Mr (P:Program):Nat->TypeId->Kd->Bool
 | 0,_,_=>false
 | D+1,t,K=>match P.underlying t with
  | some (.int k)=>(match K with | .int k'=>decide (k=k') | _=>false)
  | some .bool=>(match K with | .bool=>true | _=>false)
  | some .string=>(match K with | .str=>true | _=>false)
  | some (.slice te)=>(match K with | .slice e=>P.cellsOf te==e.sz&&Mr P D te e | _=>false)
  | some (.struct fs)=>P.cellsOf t==K.sz&&(match K with | .pair _ _=>true | _=>false)&&Kn P D fs.toList 0 K
  | _=>false
def Kn (P:Program):Nat->List Field->Nat->Kd->Bool
 | 0,_,_,_=>false
 | _+1,[],_,_=>false
 | D+1,[f],off,K=>f.offset==off&&P.cellsOf f.type==K.sz&&Mr P D f.type K
 | D+1,f::g::fs,off,K=>match K with
  | .pair a b=>f.offset==off&&P.cellsOf f.type==a.sz&&Mr P D f.type a&&Kn P D (g::fs) (off+a.sz) b
  | _=>false
end
def Io (w:World):HP:=fun b=>w.heap[b]?
theorem Rn {w:World} {base:Nat} {a:Addr} {n:Nat} {cs:List Value} (h:w.cells? base a n=some cs):cs.length=n/\∀ i,i<n->w.cell? (a.add i)=cs[i]? := by
 unfold World.cells? at h
 split at h
 ·exact ⟨by simpa using mapM_some_length h,fun i hi=>mapM_some_get h i i (by simp [hi])⟩
 ·cases h
theorem TM (a:Addr):a.add 0=a:=by unfold Addr.add; split<;>simp_all
theorem TN {w:World} {a:Addr} {u:Value} (h:w.cell? a=some u):a=⟨a.block,a.off,none⟩/\∃ c el fz,w.heap[a.block]? = some (.cells c el fz)/\c[a.off]? = some u:=by
 obtain ⟨b,o,sp⟩:=a
 simp only [World.cell?] at h
 split at h
 ·rename_i c el fz hc
  cases sp with
  | some sp=>simp at h
  | none =>
   simp only [Option.isSome_none,Bool.false_eq_true,if_false] at h
   exact ⟨rfl,c,el,fz,hc,h⟩
 ·cases h
mutual
theorem RC {H:Type} {enc:TypeId×Value->H} {P:Program} {w:World} {base:Nat} {spare:Nat->Bool} {held:Bool}:∀ (D:Nat) (t:TypeId) (K:Kd) (fuel:Nat) (cs:List Value) (x:DataW H×List MemPlace),Mr P D t K=true ->
  DataW.trod enc P w base spare held fuel t cs=some x->∃ y:K.T,Cb (Io w) K y cs/\Kd.ok K y
 | 0,t,K,fuel,cs,x,h,_=>by simp [Mr] at h
 | D+1,t,K,fuel,cs,x,h,hd=>by
  unfold Mr at h
  split at h
  ·rename_i k hu
   cases K<;>first | cases h | skip
   simp only [decide_eq_true_eq] at h
   subst h
   obtain ⟨n,rfl,_,hw⟩:=DataW.trod_int hu hd
   simp only [Lit.wf,J,decide_eq_true_eq] at hw
   exact ⟨n,rfl,hw⟩
  ·rename_i hu
   cases K<;>first | cases h | skip
   obtain ⟨b,rfl,_⟩:=DataW.trod_bool hu hd
   exact ⟨b,rfl,trivial⟩
  ·rename_i hu
   cases K<;>first | cases h | skip
   obtain ⟨s,rfl,_,hs⟩:=DataW.trod_string hu hd
   exact ⟨s,rfl,hs⟩
  ·rename_i te hu
   cases K<;>first | cases h | skip
   rename_i e
   simp only [J,beq_iff_eq] at h
   rcases DataW.trod_slice hu hd with ⟨rfl,_⟩ | ⟨a,len,cap,elems,rest,n,_,rfl,_,_,hl,hm,hlen,hel,_⟩
   ·exact ⟨[],⟨_,rfl,FO⟩,by simp [Kd.ok]⟩
   ·have each:∀ i,i<len->∃ y:e.T,∃ cs',w.cells? base (a.add (i*e.sz)) e.sz=some cs'/\Cb (Io w) e y cs'/\Kd.ok e y:=by
     intro i hi
     have h1:=hel i hi
     rw [h.1] at h1
     have h2:elems[i]? = some (elems[i]'(by omega)):=by simp
     rw [h2] at h1
     cases hq:w.cells? base (a.add (i*e.sz)) e.sz with
     | none=>rw [hq] at h1; cases h1
     | some cs' =>
      rw [hq] at h1
      simp only [U] at h1
      obtain ⟨y,h3,h4⟩:=RC D te e n cs' _ h.2 h1
      exact ⟨y,cs',rfl,h3,h4⟩
    have all:∀ m,m<=len->∃ ys:List e.T,ys.length=m/\∀ i y,ys[i]? = some y->∃ cs',w.cells? base (a.add (i*e.sz)) e.sz=some cs'/\Cb (Io w) e y cs'/\Kd.ok e y:=by
     intro m
     induction m with
     | zero=>intro _; exact ⟨[],rfl,fun i y h=>by simp at h⟩
     | succ m ih =>
      intro hm
      obtain ⟨ys,l,hy⟩:=ih (by omega)
      obtain ⟨y,cs',g1,g2,g3⟩:=each m (by omega)
      refine ⟨ys++[y],by simp [l],fun i z hz=>?_⟩
      rcases As i ys.length with hi | hi
      ·rw [AO hi] at hz
       exact hy i z hz
      ·rw [Au hi] at hz
       have hi0:i-ys.length=0:=by
        have:=(AK.1 hz).1
        simp at this
        omega
       rw [hi0] at hz
       simp at hz
       subst hz
       have:i=m:=by omega
       subst this
       exact ⟨cs',g1,g2,g3⟩
    obtain ⟨ys,l,hy⟩:=all len (Nat.le_refl _)
    have hok:ys.length<=maxLen/\∀ y∈ys,Kd.ok e y:=by
     refine ⟨by omega,fun y hm=>?_⟩
     obtain ⟨i,hi⟩:=List.mem_iff_getElem?.1 hm
     obtain ⟨_,_,_,g⟩:=hy i y hi
     exact g
    refine ⟨ys,⟨_,rfl,some a,cap,by rw [l],by omega,?_⟩,hok⟩
    cases hys:ys with
    | nil=>exact .inl rfl
    | cons y0 yr =>
     right
     have hsz:=Kd.sz_pos e
     obtain ⟨cs0,g1,g2,_⟩:=hy 0 y0 (by rw [hys]; rfl)
     obtain ⟨l0,c0⟩:=Rn g1
     have hc0:=c0 0 hsz
     have hcs0:cs0[0]? = some (cs0[0]'(by omega)):=by simp
     rw [hcs0,Nat.zero_mul,TM,TM] at hc0
     obtain ⟨ea,c,el,fz,hb,_⟩:=TN hc0
     have addadd:∀ x y:Nat,(a.add x).add y=⟨a.block,a.off+(x+y),none⟩:=by
      intro x y
      rw [ea,Addr.add_none,Addr.add_none,Nat.add_assoc]
     refine ⟨a.block,a.off,c,el,fz,by rw [<- ea],hb,fun j y hj=>?_⟩
     obtain ⟨cs',g3,g4,_⟩:=hy j y (by rw [hys]; exact hj)
     obtain ⟨l1,c1⟩:=Rn g3
     refine ⟨cs',g4,l1,fun i u hu=>?_⟩
     have hi:i<e.sz:=by rw [<- l1]; exact (AK.1 hu).1
     have h3:=c1 i hi
     rw [hu,addadd] at h3
     obtain ⟨_,c2,el2,fz2,hb2,h4⟩:=TN h3
     rw [hb] at hb2
     cases hb2
     rw [Nat.add_assoc]
     exact h4
  ·rename_i fs hu
   simp only [J,beq_iff_eq] at h
   obtain ⟨⟨hc,_⟩,h⟩:=h
   obtain ⟨xs,n,_,_,hl,_,hf⟩:=DataW.trod_struct hu hd
   have:=QV (w:=w) (P:=P) D fs.toList 0 K n cs xs h (fun i f hi=>hf i f (by simpa using hi)) (by
    have:xs.length=fs.size:=by assumption
    simpa using this)
   obtain ⟨y,h1,h2⟩:=this
   refine ⟨y,?_,h2⟩
   rw [hc] at hl
   rw [List.drop_zero,List.take_of_length_le (by omega)] at h1
   exact h1
  ·cases h
theorem QV {H:Type} {enc:TypeId×Value->H} {P:Program} {w:World} {base:Nat} {spare:Nat->Bool} {held:Bool}:∀ (D:Nat) (fs:List Field) (off:Nat) (K:Kd) (fuel:Nat) (cs:List Value) (xs:List (DataW H×List MemPlace)),Kn P D fs off K=true ->
  (∀ (i:Nat) (f:Field),fs[i]? = some f->DataW.trod enc P w base spare held fuel f.type ((cs.drop f.offset).take (P.cellsOf f.type))=xs[i]?)->xs.length=fs.length->∃ y:K.T,Cb (Io w) K y ((cs.drop off).take K.sz)/\Kd.ok K y
 | 0,fs,off,K,fuel,cs,xs,h,_,_=>by simp [Kn] at h
 | D+1,[],off,K,fuel,cs,xs,h,_,_=>by simp [Kn] at h
 | D+1,[f],off,K,fuel,cs,xs,h,hf,hl=>by
  simp only [Kn,J,beq_iff_eq] at h
  obtain ⟨⟨rfl,hc⟩,ht⟩:=h
  have h1:=hf 0 f rfl
  rw [hc] at h1
  have h2:xs[0]? = some (xs[0]'(by simp at hl; omega)):=by simp
  rw [h2] at h1
  exact RC D f.type K fuel _ _ ht h1
 | D+1,f::g::fs,off,K,fuel,cs,xs,h,hf,hl=>by
  simp only [Kn] at h
  cases K with
  | pair a b =>
   simp only [J,beq_iff_eq] at h
   obtain ⟨⟨⟨rfl,hc⟩,ht⟩,hr⟩:=h
   have h1:=hf 0 f rfl
   rw [hc] at h1
   have h2:xs[0]? = some (xs[0]'(by simp at hl; omega)):=by simp
   rw [h2] at h1
   obtain ⟨y1,r1,o1⟩:=RC D f.type a fuel _ _ ht h1
   obtain ⟨y2,r2,o2⟩:=QV (w:=w) (P:=P) D (g::fs) (f.offset+a.sz) b fuel cs (xs.drop 1) hr (fun i q hi=>by
    have:=hf (i+1) q (by simpa using hi)
    rw [this,BH,Nat.add_comm]) (by simp at hl ⊢; omega)
   refine ⟨(y1,y2),⟨_,_,?_,r1,r2⟩,o1,o2⟩
   apply List.ext_getElem?
   intro i
   have l1:=r1.length
   have l2:=r2.length
   simp only [Kd.sz]
   rcases As i a.sz with hi | hi
   ·rw [AO (by omega)]
    simp only [Av,BH]
    rw [if_pos (by omega),if_pos hi]
   ·rw [Au (by omega),l1]
    simp only [Av,BH]
    by_cases h3:i<a.sz+b.sz
    ·rw [if_pos h3,if_pos (by omega)]
     congr 1
     omega
    ·rw [if_neg h3,if_neg (by omega)]
  | _=>cases h
end
theorem Xi {H:Type} {enc:TypeId×Value->H} {P:Program} {w:World} {base:Nat} {spare:Nat->Bool} {held:Bool} {t:TypeId} {K:Kd} {v:Value} {d:DataW H} {p:List MemPlace} (h:Mr P 40 t K=true) (hf:Gd K v)
  (hd:DataW.Trod enc P w base spare held t v d p):∃ x:K.T,VE (Io w) (K.av x) v/\Kd.ok K x:=by
 obtain ⟨fuel,hd⟩:=hd
 obtain ⟨x,h1,h2⟩:=RC 40 t K fuel _ _ h hd
 exact ⟨x,XP h1 hf,h2⟩
theorem Ys {P:Program} {W:World} {r:Reach} {base:Nat} {t:TypeId} {K:Kd} {v:Value} (h:Mr P 40 t K=true) (hv:Value.okWide P W r base t v):Gd K v:=by
 unfold Mr at h
 split at h
 ·rename_i k hu
  obtain ⟨n,rfl⟩:=WideShapes.okWide_int hu hv
  cases K<;>first | cases h | rfl
 ·rename_i hu
  obtain ⟨n,rfl⟩:=WideShapes.okWide_bool hu hv
  cases K<;>first | rfl | cases h
 ·rename_i hu
  obtain ⟨n,rfl⟩:=WideShapes.okWide_string hu hv
  cases K<;>first | rfl | cases h
 ·rename_i te hu
  obtain ⟨a,l,c,rfl⟩:=WideShapes.okWide_slice hu hv
  cases K<;>first | cases h | rfl
 ·rename_i fs hu
  obtain ⟨cs,rfl,_⟩:=WideShapes.okWide_struct hu hv
  simp only [J] at h
  cases K<;>first | exact ⟨_,rfl⟩ | cases h.1.2
 ·cases h
theorem Xj (w:World) (φ:Aq) (ht:Tb (Io w)):SR (Io w) φ [] w:=by
 refine ⟨fun b o h=>h,fun id bx h=>by simp at h,fun i j bi bj h=>by simp at h,fun i bi h=>by simp at h,fun id cs h=>by simp at h,ht⟩
theorem Wl {P:Program} {MV:Nat->Option B_} {Cm:CV} (ht:Xh P MV) (hp:DG P Cm) {k f:Nat} {args:List AV} (h:Nj MV Cm k f args []=some [.bool true]) {W:World} {cargs:List Value}
  (ha:AN (VE (Io W)) args cargs) (hlt:f<BV:=by decide) (htab:Tb (Io W):=by exact fun p h=>by cases h):Calls P f cargs.toArray W fun e W'=>e=.returned (.bool true)/\RowKit.Below W.heap.size W W':=by
 obtain ⟨_,_,n,hn,hc⟩:=(Uj ht hp k).2 f args [] _ (.inl hlt) h
 rw [Nat.mod_eq_of_lt hlt] at hc
 have hn:n=1:=by simpa using hn
 subst hn
 have opens:∀ {aw:List AV} {vs:List Value} (k:Nat),AN (VE (Io W)) aw vs->BQ k aw=aw/\AS (cellsOf aw)=[]:=by
  intro aw
  induction aw with
  | nil=>intro vs k _; exact ⟨rfl,rfl⟩
  | cons a aw ih =>
   intro vs k h
   obtain ⟨v,r,rfl,h1,h2⟩:=h
   obtain ⟨o1,o2,o3⟩:=h1.opens k
   obtain ⟨i1,i2⟩:=ih (k+AB a.cells) h2
   refine ⟨by simp only [BQ,o1,i1],?_⟩
   simp only [cellsOf,List.flatMap_cons] at i2 ⊢
   rw [An,o3,i2]
   rfl
 have hst:Ay [] args=[]:=by
  rw [ET,An,(opens 0 ha).2]
  rfl
 have:=hc (Io W) (fun _=>.nilIface) W cargs (by rw [hst]; exact Xj W _ htab) (by rw [(opens _ ha).1,hst]; exact ha.imp fun _ _ h=>VB.of_VE h)
 refine this.mono fun e W' he=>?_
 cases e with
 | returned v =>
  obtain ⟨H',φ',_,_,f,hr⟩:=he
  have hv:v=.bool true:=hr
  subst hv
  rw [hst] at f
  exact ⟨rfl,f.os,f.tape,f.output,f.size,fun k hk=>f.old k hk fun j hj=>by simp at hj⟩
 | panicked c=>exact he.elim
 | outgrown=>exact he.elim

def Ev (p:Nat->Prop):Prop:=∃ m,∀ k,m<=k->p k
theorem Ev.mono {p q:Nat->Prop} (h:Ev p) (f:∀ k,p k->q k):Ev q:=h.elim fun m hm=>⟨m,fun k hk=>f k (hm k hk)⟩
theorem Ev.const {p:Prop} (h:p):Ev fun _=>p:=⟨0,fun _ _=>h⟩
theorem Ev.all {p:Nat->Prop} (h:∀ k,p k):Ev p:=⟨0,fun k _=>h k⟩
theorem Ev.and {p q:Nat->Prop} (h:Ev p) (g:Ev q):Ev fun k=>p k/\q k:=by
 obtain ⟨m,hm⟩:=h
 obtain ⟨n,hn⟩:=g
 exact ⟨max m n,fun k hk=>⟨hm k (by omega),hn k (by omega)⟩⟩
noncomputable def Lm {ρ:Type} (u:Nat->Option ρ):Option ρ :=
 @dite _ (∃ r,Ev fun k=>u k=some r) (Classical.propDecidable _) (fun h=>some (Classical.choose h)) (fun _=>none)
theorem Uk {ρ:Type} {u:Nat->Option ρ} {r:ρ} (h:Lm u=some r):Ev fun k=>u k=some r:=by
 unfold Lm at h
 split at h
 ·rename_i hx
  cases h
  exact Classical.choose_spec hx
 ·cases h
theorem Xk {ρ:Type} {u:Nat->Option ρ} {r:ρ} (h:Ev fun k=>u k=some r):Lm u=some r:=by
 have hx:∃ r,Ev fun k=>u k=some r:=⟨r,h⟩
 unfold Lm
 rw [dif_pos hx]
 obtain ⟨m,hm⟩:=(Classical.choose_spec hx).and h
 obtain ⟨a,b⟩:=hm m (Nat.le_refl _)
 rw [<- b,a]
def Conv {ρ:Type} (kn:Nat->St->Option ρ) (kl:St->Option ρ):Prop:=∀ s r,kl s=some r->Ev fun j=>kn j s=some r
theorem Conv.refl {ρ:Type} (kl:St->Option ρ):Conv (fun _=>kl) kl:=fun _ _ h=>.const h
def Jg (cal:Nat->CV) (c:CV):Prop:=∀ f a b r,c f a b=some r->Ev fun j=>cal j f a b=some r
theorem Jg.refl (c:CV):Jg (fun _=>c) c:=fun _ _ _ _ h=>.const h
abbrev Lp (ρ:Type):Type:=((St->Option ρ)->St->Option ρ)->St->Option ρ
def Xl {ρ:Type} (F:Nat->(St->Option ρ)->St->Option ρ) (FL:(St->Option ρ)->St->Option ρ):Prop :=
 ∀ (go:Nat->St->Option ρ) (gl:St->Option ρ),Conv go gl->Conv (fun j=>F j (go j)) (FL gl)
def Xm {ρ:Type} (lp:Nat->Lp ρ) (ll:Lp ρ):Prop:=∀ (F:Nat->(St->Option ρ)->St->Option ρ) (FL:(St->Option ρ)->St->Option ρ),Xl F FL->(∀ j,Xl (fun _=>F j) (F j))->Conv (fun j=>lp j (F j)) (ll FL)
noncomputable def FJ {ρ:Type}:Lp ρ:=fun F s=>Lm fun n=>Gb n F s
theorem Xn {ρ:Type}:Xm (ρ:=ρ) Gb FJ:=by
 intro F FL hF _ s r h
 have h:=Uk h
 obtain ⟨m,hm⟩:=h
 have key:∀ n,∀ g:Nat->Nat,(∀ j,n<=g j)->Conv (fun j=>Gb (g j) (F j)) (Gb n FL):=by
  intro n
  induction n with
  | zero=>intro g _ s r h; cases h
  | succ n ih =>
   intro g hg s r h
   refine (hF (fun j=>Gb (g j-1) (F j)) (Gb n FL) (ih (fun j=>g j-1) fun j=>by have:=hg j; omega) s r h).mono fun j hj=>?_
   have e:g j=(g j-1)+1:=by have:=hg j; omega
   show Gb (g j) (F j) s=some r
   rw [e]
   exact hj
 obtain ⟨k,hk⟩:=key m (fun j=>max j m) (fun j=>by omega) s r (hm m (Nat.le_refl _))
 refine ⟨max k m,fun j hj=>?_⟩
 have:=hk j (by omega)
 simp only [show max j m=j by omega] at this
 exact this
theorem Ul {ρ:Type} (k:Nat):Xm (ρ:=ρ) (fun _=>Gb k) (Gb k):=by
 intro F FL hF _
 induction k with
 | zero=>intro s r h; cases h
 | succ k ih=>exact hF _ _ ih
theorem Ro {ρ:Type} {F:(St->Option ρ)->St->Option ρ} (hF:Xl (fun _=>F) F) {s:St} {r:ρ} (h:F (FJ F) s=some r):FJ F s=some r:=by
 obtain ⟨m,hm⟩:=hF (fun j=>Gb j F) (FJ F) (fun s r h=>Uk h) s r h
 exact Xk ⟨m+1,fun k hk=>by
  cases k with
  | zero=>omega
  | succ k=>exact hm k (by omega)⟩
theorem Um {ρ:Type}:Xm (ρ:=ρ) (fun _=>FJ) FJ:=by
 intro F FL hF hs s r h
 obtain ⟨m,hm⟩:=Uk h
 have key:∀ n,Conv (fun j=>FJ (F j)) (Gb n FL):=by
  intro n
  induction n with
  | zero=>intro s r h; cases h
  | succ n ih=>intro s r h; exact (hF _ _ ih s r h).mono fun j hj=>Ro (hs j) hj
 exact key m s r (hm m (Nat.le_refl _))
theorem Az {α β:Type} {x:Option α} {f:Nat->α->Option β} {g:α->Option β} (h:∀ a r,g a=some r->Ev fun j=>f j a=some r) (r:β) (hx:x.bind g=some r):Ev fun j=>x.bind (f j)=some r:=by
 cases x with
 | none=>cases hx
 | some a=>exact h a r hx
theorem Rp {ρ:Type} {s:St} {v:AV} {K:Kd} {kn:Nat->List K.T->Option ρ} {kl:List K.T->Option ρ} (hk:∀ a r,kl a=some r->Ev fun j=>kn j a=some r) (r:ρ) (h:s.list v K kl=some r):Ev fun j=>s.list v K (kn j)=some r:=by
 unfold St.list at h ⊢
 split at h
 ·exact hk _ _ h
 ·split at h
  ·rename_i e
   simp only [dif_pos e]
   exact hk _ _ h
  ·cases h
 ·split at h
  ·rename_i e0
   split at h
   ·rename_i e
    split at h
    ·rename_i ep
     simp only [e0,dif_pos e,if_pos ep]
     exact hk _ _ h
    ·cases h
   ·cases h
  ·rename_i e0
   split at h
   ·rename_i e
    simp only [e0,dif_pos e]
    exact hk _ _ h
   ·cases h
  ·rename_i e0
   split at h
   ·rename_i e
    split at h
    ·rename_i ep
     simp only [e0,dif_pos e,if_pos ep]
     exact hk _ _ h
    ·cases h
   ·cases h
  ·rename_i e0
   split at h
   ·rename_i e
    simp only [e0,dif_pos e]
    exact hk _ _ h
   ·cases h
  ·cases h
 ·cases h
theorem Un {ρ:Type} {s:St} {d id:Nat} {e:TypeId} {K:Kd} {b:AV} {kn:Nat->St->Option ρ} {kl:St->Option ρ} (hk:Conv kn kl) (r:ρ) (h:s.appR d e K id b kl=some r):Ev fun j=>s.appR d e K id b (kn j)=some r:=by
 unfold St.appR at h ⊢
 split at h
 ·rename_i e1
  split at h
  ·rename_i e2
   split at h
   ·rename_i e3
    split at h
    ·rename_i e4
     simp only [e1,dif_pos e2,if_pos e3,if_pos e4]
     refine Rp (fun a r h=>?_) r h
     split at h
     ·rename_i e5
      simp only [if_pos e5]
      exact hk _ _ h
     ·cases h
    ·rename_i e4
     split at h
     ·rename_i j
      split at h
      ·cases h
      ·rename_i e5
       split at h
       ·rename_i e6
        split at h
        ·rename_i e7
         split at h
         ·rename_i e8
          simp only [e1,dif_pos e2,if_pos e3,if_neg e4,if_neg e5,e6,dif_pos e7,if_pos e8]
          exact hk _ _ h
         ·cases h
        ·cases h
       ·cases h
     ·cases h
   ·cases h
  ·cases h
 ·cases h
theorem Wm {ρ:Type} {op:BinOp} {x y:AV} {kn:Nat->AV->Option ρ} {kl:AV->Option ρ} (hk:∀ a r,kl a=some r->Ev fun j=>kn j a=some r) (r:ρ) (h:QF op x y kl=some r):Ev fun j=>QF op x y (kn j)=some r:=by
 have e:∀ k:AV->Option ρ,QF op x y k=(QF op x y some).bind k:=by
  intro k
  unfold QF
  repeat' split
  all_goals rfl
 rw [e] at h
 simp only [e (kn _)]
 exact Az hk r h
theorem Xo {ρ:Type} {op:UnOp} {x:AV} {kn:Nat->AV->Option ρ} {kl:AV->Option ρ} (hk:∀ a r,kl a=some r->Ev fun j=>kn j a=some r) (r:ρ) (h:WH op x kl=some r):Ev fun j=>WH op x (kn j)=some r:=by
 unfold WH at h ⊢
 split at h<;>first | exact hk _ _ h | cases h
theorem Uo {α β:Type} {x:Nat->Option α} {xl:Option α} {f:Nat->α->Option β} {g:α->Option β} (hx:∀ a,xl=some a->Ev fun j=>x j=some a) (h:∀ a r,g a=some r->Ev fun j=>f j a=some r) (r:β) (hr:xl.bind g=some r):Ev fun j=>(x j).bind (f j)=some r:=by
 cases xl with
 | none=>cases hr
 | some a=>exact ((hx a rfl).and (h a r hr)).mono fun j hj=>by rw [hj.1]; exact hj.2
theorem ZZ {ρ:Type} {cal:Nat->CV} {c:CV} {d z:Nat} {x:A_} {lo hi:Option A_} {kn:Nat->St->Option ρ} {kl:St->Option ρ} (hk:Conv kn kl) (s:St) (r:ρ) (h:Bs c kl s (.sl d z x lo hi)=some r):Ev fun j=>Bs (cal j) (kn j) s (.sl d z x lo hi)=some r:=by
 simp only [Bs] at h ⊢
 split at h
 ·split at h
  ·rename_i ez
   split at h
   ·split at h
    ·rename_i g1
     split at h
     ·rename_i g2
      split at h
      ·rename_i g3
       simp only [if_pos ez,if_pos g1,if_pos g2,if_pos g3]
       exact hk _ _ h
      ·cases h
     ·cases h
    ·cases h
   ·cases h
  ·cases h
 ·split at h
  ·rename_i ez
   split at h
   ·split at h
    ·rename_i g1
     split at h
     ·rename_i g2
      split at h
      ·rename_i g3
       simp only [if_pos ez,if_pos g1,if_pos g2,if_pos g3]
       exact hk _ _ h
      ·cases h
     ·cases h
    ·cases h
   ·cases h
  ·cases h
 ·cases h
theorem TO {ρ:Type} {cal:Nat->CV} {c:CV} (hc:Jg cal c) {d:Option Nat} {f:Nat} {args:List (A_×PK)} {res:List Kd} {kn:Nat->St->Option ρ} {kl:St->Option ρ} (hk:Conv kn kl) (s:St) (r:ρ) (h:RG c kl s d f args res=some r):Ev fun j=>RG (cal j) (kn j) s d f args res=some r:=by
 simp only [RG] at h ⊢
 refine Az (fun q r h=>Az (fun bx r h=>?_) r h) r h
 split at h
 ·rename_i e
  simp only [if_pos e]
  refine Uo (fun a ha=>?_) (fun y r h=>?_) r h
  ·exact Uo (f:=fun _=>CE _) (g:=CE _) (fun a ha=>hc _ _ _ _ ha) (fun y r h=>.const h) a ha
  ·split at h
   ·rename_i e
    simp only [if_pos e]
    exact hk _ _ h
   ·cases h
 ·cases h
mutual
theorem Rq {ρ:Type} {cal:Nat->CV} {c:CV} (hc:Jg cal c):∀ (ao:CB) {kn:Nat->St->Option ρ} {kl:St->Option ρ},Conv kn kl->∀ s r,Bs c kl s ao=some r->Ev fun j=>Bs (cal j) (kn j) s ao=some r
 | .mv d x,kn,kl,hk,s,r,h=>hk _ _ h
 | .nilrow d t K,kn,kl,hk,s,r,h=>hk _ _ h
 | .pick d c a b,kn,kl,hk,s,r,h=>by
  simp only [Bs] at h ⊢
  split at h
  ·split at h<;>rename_i e<;>simp only [e,if_true,if_false,Bool.false_eq_true]<;>exact hk _ _ h
  ·cases h
 | .sc c want ops d a b,kn,kl,hk,s,r,h=>by
  simp only [Bs] at h ⊢
  split at h
  ·split at h
   ·rename_i e
    simp only [e,if_true]
    exact Tw hc ops (kn:=fun j s'=>kn j (s'.put d (if want then s'.opd a else s'.opd b))) (kl:=fun s'=>kl (s'.put d (if want then s'.opd a else s'.opd b))) (fun s r h=>hk _ _ h) s r h
   ·rename_i e
    simp only [if_neg e]
    exact hk _ _ h
  ·cases h
 | .alloc d cs,kn,kl,hk,s,r,h=>hk _ _ h
 | .box d x own,kn,kl,hk,s,r,h=>by
  simp only [Bs] at h ⊢
  exact Az (fun a r h=>hk _ _ h) r h
 | .build d zero parts,kn,kl,hk,s,r,h=>by
  simp only [Bs] at h ⊢
  exact Az (fun a r h=>hk _ _ h) r h
 | .bnew d zero parts,kn,kl,hk,s,r,h=>by
  simp only [Bs] at h ⊢
  exact Az (fun a r h=>hk _ _ h) r h
 | .brow d t K parts,kn,kl,hk,s,r,h=>by
  simp only [Bs] at h ⊢
  split at h
  ·rename_i ep
   simp only [if_pos ep]
   exact Az (fun a r h=>Az (fun a r h=>hk _ _ h) r h) r h
  ·rename_i ep
   simp only [if_neg ep]
   refine Az (fun a r h=>?_) r h
   split at h
   ·rename_i e2
    simp only [if_pos e2]
    exact Az (fun a r h=>hk _ _ h) r h
   ·cases h
 | .blst d K parts,kn,kl,hk,s,r,h=>by
  simp only [Bs] at h ⊢
  exact Az (fun a r h=>Az (fun a r h=>hk _ _ h) r h) r h
 | .load d x n,kn,kl,hk,s,r,h=>by
  simp only [Bs] at h ⊢
  refine Az (fun a r h=>?_) r h
  split at h
  ·rename_i e
   simp only [if_pos e]
   exact hk _ _ h
  ·cases h
 | .store x y m own,kn,kl,hk,s,r,h=>by
  simp only [Bs] at h ⊢
  split at h
  ·rename_i e
   simp only [if_pos e]
   exact Az (fun a r h=>hk _ _ h) r h
  ·cases h
 | .nilc d x,kn,kl,hk,s,r,h=>by
  simp only [Bs] at h ⊢
  split at h<;>first | exact hk _ _ h | cases h
 | .bin d op x y,kn,kl,hk,s,r,h=>by
  simp only [Bs] at h ⊢
  exact Wm (fun a r h=>hk _ _ h) r h
 | .eqs d neg K x y,kn,kl,hk,s,r,h=>by
  simp only [Bs] at h ⊢
  exact Az (fun a r h=>Az (fun a r h=>hk _ _ h) r h) r h
 | .un d op x,kn,kl,hk,s,r,h=>by
  simp only [Bs] at h ⊢
  exact Xo (fun a r h=>hk _ _ h) r h
 | .cvi d k x,kn,kl,hk,s,r,h=>by
  simp only [Bs] at h ⊢
  split at h<;>first | exact hk _ _ h | cases h
 | .bts d x,kn,kl,hk,s,r,h=>by
  simp only [Bs] at h ⊢
  exact Rp (fun a r h=>hk _ _ h) r h
 | .fld d x off,kn,kl,hk,s,r,h=>by
  simp only [Bs] at h ⊢
  split at h<;>first | exact hk _ _ h | cases h
 | .field d x off n,kn,kl,hk,s,r,h=>by
  simp only [Bs] at h ⊢
  split at h
  ·split at h
   ·rename_i e
    simp only [if_pos e]
    exact hk _ _ h
   ·cases h
  ·cases h
 | .idx d z x i,kn,kl,hk,s,r,h=>by
  have e:∀ k:St->Option ρ,Bs (cal 0) k s (.idx d z x i)=(Bs (cal 0) some s (.idx d z x i)).bind k:=by
   intro k
   simp only [Bs]
   repeat' split
   all_goals rfl
  have e2:∀ k:St->Option ρ,∀ c:CV,Bs c k s (.idx d z x i)=Bs (cal 0) k s (.idx d z x i):=fun k c=>by simp only [Bs]
  rw [e2,e] at h
  simp only [e2 (kn _),e (kn _)]
  exact Az (fun a r h=>hk _ _ h) r h
 | .aidx d n x i,kn,kl,hk,s,r,h=>by
  simp only [Bs] at h ⊢
  split at h
  ·refine Az (fun xs r h=>?_) r h
   split at h
   ·rename_i e1
    split at h
    ·rename_i e2
     split at h
     ·rename_i e3
      simp only [if_pos e1,if_pos e2,if_pos e3]
      exact hk _ _ h
     ·cases h
    ·cases h
   ·cases h
  ·cases h
 | .sidx d x i,kn,kl,hk,s,r,h=>by
  have e:∀ k:St->Option ρ,Bs (cal 0) k s (.sidx d x i)=(Bs (cal 0) some s (.sidx d x i)).bind k:=by
   intro k
   simp only [Bs]
   repeat' split
   all_goals rfl
  have e2:∀ k:St->Option ρ,∀ c:CV,Bs c k s (.sidx d x i)=Bs (cal 0) k s (.sidx d x i):=fun k c=>by simp only [Bs]
  rw [e2,e] at h
  simp only [e2 (kn _),e (kn _)]
  exact Az (fun a r h=>hk _ _ h) r h
 | .sl d z x lo hi,kn,kl,hk,s,r,h=>ZZ hk s r h
 | .mk d t K n,kn,kl,hk,s,r,h=>by
  have e:∀ k:St->Option ρ,Bs (cal 0) k s (.mk d t K n)=(Bs (cal 0) some s (.mk d t K n)).bind k:=by
   intro k
   simp only [Bs]
   repeat' split
   all_goals rfl
  have e2:∀ k:St->Option ρ,∀ c:CV,Bs c k s (.mk d t K n)=Bs (cal 0) k s (.mk d t K n):=fun k c=>by simp only [Bs]
  rw [e2,e] at h
  simp only [e2 (kn _),e (kn _)]
  exact Az (fun a r h=>hk _ _ h) r h
 | .fn d f caps,kn,kl,hk,s,r,h=>hk _ _ h
 | .clo d f K x,kn,kl,hk,s,r,h=>by
  simp only [Bs] at h ⊢
  split at h
  ·exact Az (fun a r h=>hk _ _ h) r h
  ·cases h
 | .fbox d x,kn,kl,hk,s,r,h=>by
  simp only [Bs] at h ⊢
  exact Az (fun a r h=>hk _ _ h) r h
 | .min d x y,kn,kl,hk,s,r,h=>by
  simp only [Bs] at h ⊢
  split at h
  ·split at h
   ·rename_i e
    simp only [if_pos e]
    exact hk _ _ h
   ·cases h
  ·cases h
 | .app d e K a b,kn,kl,hk,s,r,h=>by
  simp only [Bs] at h ⊢
  split at h
  ·exact Un hk r h
  ·split at h
   ·exact Az (fun y r h=>Un hk r h) r h
   ·cases h
  ·cases h
 | .apz d e K a b,kn,kl,hk,s,r,h=>by
  simp only [Bs] at h ⊢
  split at h
  ·split at h
   ·rename_i e1
    split at h
    ·rename_i e2
     split at h
     ·rename_i e3
      simp only [e1,dif_pos e2,if_pos e3]
      refine Rp (fun a r h=>?_) r h
      split at h
      ·rename_i e4
       simp only [if_pos e4]
       exact hk _ _ h
      ·cases h
     ·cases h
    ·cases h
   ·cases h
  ·cases h
 | .len d t x,kn,kl,hk,s,r,h=>by
  have e:∀ k:St->Option ρ,Bs (cal 0) k s (.len d t x)=(Bs (cal 0) some s (.len d t x)).bind k:=by
   intro k
   simp only [Bs]
   repeat' split
   all_goals first | rfl | (rw [Option.bind_assoc]; rfl)
  have e2:∀ k:St->Option ρ,∀ c:CV,Bs c k s (.len d t x)=Bs (cal 0) k s (.len d t x):=fun k c=>by simp only [Bs]
  rw [e2,e] at h
  simp only [e2 (kn _),e (kn _)]
  exact Az (fun a r h=>hk _ _ h) r h
 | .call d f args res,kn,kl,hk,s,r,h=>by
  simp only [Bs] at h ⊢
  exact TO hc hk s r h
 | .icall n rd d f args res,kn,kl,hk,s,r,h=>by
  simp only [Bs] at h ⊢
  refine Az (fun y r h=>?_) r h
  split at h
  ·cases h
  ·rename_i e1
   simp only [if_neg e1]
   by_cases e2:(if rd=true then !Ai (Jc y.2 args) s.st.length else Ai (UJ y.2 args) s.st.length)=true
   ·rw [if_pos e2] at h
    simp only [if_pos e2]
    exact TO hc (kn:=fun j s2=>(s2.closeAt y.1 s.st.length rd).bind (kn j)) (kl:=fun s2=>(s2.closeAt y.1 s.st.length rd).bind kl) (fun s r h=>Az (fun a r h=>hk _ _ h) r h) y.2 r h
   ·rw [if_neg e2] at h; cases h
 | .bld d k f t x y,kn,kl,hk,s,r,h=>by
  simp only [Bs] at h ⊢
  split at h
  ·rename_i id e1
   split at h
   ·rename_i T j e2
    split at h
    ·rename_i t' xs e3
     split at h
     ·rename_i e4
      cases e5:c (BV+f) [.int .i64 k,.int .i64 t,.int .i64 T] [] with
      | none=>rw [e5] at h; cases h
      | some q =>
       have hq:=hc _ _ _ _ e5
       rw [e5,U] at h
       cases e8:CE [] q with
       | none=>rw [e8] at h; cases h
       | some u =>
        rw [e8,U] at h
        split at h
        ·rename_i e6
         split at h
         ·rename_i e7
          refine (hq.and (hk _ _ h)).mono fun j hj=>?_
          simp only [e2,e3,if_pos e4,hj.1,U,e8,if_pos e6,if_pos e7]
          exact hj.2
         ·cases h
        ·rename_i e6
         cases ha:YA k (s.opd y) with
         | none=>rw [ha] at h; cases h
         | some ys =>
          rw [ha,U] at h
          split at h
          ·rename_i e7
           refine (hq.and (hk _ _ h)).mono fun j hj=>?_
           simp only [e2,e3,if_pos e4,hj.1,U,e8,if_neg e6,ha,if_pos e7]
           exact hj.2
          ·cases h
     ·cases h
    ·cases h
   ·cases h
  ·cases h
 | .stb d t x,kn,kl,hk,s,r,h=>by
  simp only [Bs] at h ⊢
  split at h
  ·exact hk _ _ h
  ·cases h
 | .ext d x i,kn,kl,hk,s,r,h=>by
  simp only [Bs] at h ⊢
  split at h
  ·split at h
   ·rename_i e
    simp only [if_pos e]
    exact hk _ _ h
   ·cases h
  ·cases h
theorem Tw {ρ:Type} {cal:Nat->CV} {c:CV} (hc:Jg cal c):∀ (aos:List CB) {kn:Nat->St->Option ρ} {kl:St->Option ρ},Conv kn kl->∀ s r,O9 c kl s aos=some r->Ev fun j=>O9 (cal j) (kn j) s aos=some r
 | [],kn,kl,hk,s,r,h=>by simp only [O9] at h ⊢; exact hk _ _ h
 | o::os,kn,kl,hk,s,r,h=>by
  simp only [O9] at h ⊢
  exact Rq hc o (fun s r h=>Tw hc os hk s r h) s r h
end
theorem La {ρ:Type} {cal:Nat->CV} {c:CV} (hc:Jg cal c) (anc:List (List Nat)) {kn:Nat->St->Option ρ} {kl:St->Option ρ} (hk:Conv kn kl):∀ (t:DT) (T:List (Nat×Nat)) s r,dK c anc kl t T s=some r->Ev fun j=>dK (cal j) anc (kn j) t T s=some r
 | .done,T,s,r,h=>hk _ _ h
 | .take i g ao d,T,s,r,h=>by
  simp only [dK] at h ⊢
  split at h
  ·rename_i e
   simp only [if_pos e]
   exact Rq hc ao (fun s r h=>La hc anc hk d _ s r h) s r h
  ·cases h
 | .skip i g d t,T,s,r,h=>by
  simp only [dK] at h ⊢
  split at h
  ·rename_i e
   simp only [if_pos e]
   exact La hc anc hk t _ _ r h
  ·cases h
 | .only i g ao e fl d,T,s,r,h=>by
  simp only [dK] at h ⊢
  split at h
  ·rename_i e
   simp only [if_pos e]
   exact Rq hc ao (fun s r h=>La hc anc hk d _ s r h) s r h
  ·cases h
 | .test c a b,T,s,r,h=>by
  simp only [dK] at h ⊢
  split at h
  ·split at h
   ·rename_i e
    simp only [if_pos e]
    exact La hc anc hk a _ _ r h
   ·rename_i e
    simp only [if_neg e]
    exact La hc anc hk b _ _ r h
  ·cases h
 | .fork i ai ri j aj rj,T,s,r,h=>by
  simp only [dK] at h ⊢
  obtain ⟨ha,hb⟩:=O_.1 h
  have ea:Ev fun n=>(if (Da ai.dsts T&&Ka (anc.getD i []) (ai.touch s) s T)=true then Bs (cal n) (fun s'=>dK (cal n) anc (kn n) ri (DC (anc.getD i []) T) s') s ai else none)=some r:=by
   split at ha
   ·rename_i e
    simp only [if_pos e]
    exact Rq hc ai (fun s r h=>La hc anc hk ri _ s r h) s r ha
   ·cases ha
  have eb:Ev fun n=>(if (Da aj.dsts T&&Ka (anc.getD j []) (aj.touch s) s T)=true then Bs (cal n) (fun s'=>dK (cal n) anc (kn n) rj (DC (anc.getD j []) T) s') s aj else none)=some r:=by
   split at hb
   ·rename_i e
    simp only [if_pos e]
    exact Rq hc aj (fun s r h=>La hc anc hk rj _ s r h) s r hb
   ·cases hb
  exact (ea.and eb).mono fun n h=>O_.2 h
noncomputable def C7 {ρ:Type} (cal:CV) (lp:Lp ρ):AF->(kn kr:St->Option ρ)->(ke:Nat->St->Option ρ)->St->Option ρ
 | .skip,kn,_,_,s=>kn s
 | .region ops live,kn,_,_,s=>O9 cal (fun s'=>kn ⟨live.map fun t=>(t,B9 s'.fr t),s'.st⟩) s ops
 | .draw anc t live,kn,_,_,s=>dK cal anc (fun s'=>kn ⟨live.map fun t=>(t,B9 s'.fr t),s'.st⟩) t [] s
 | .seqc live a b,kn,kr,ke,s=>C7 cal lp a (fun s'=>C7 cal lp b kn kr ke (s'.cutH (Bj s live) live s.st.length)) kr ke s
 | .seq a b,kn,kr,ke,s=>C7 cal lp a (fun s'=>C7 cal lp b kn kr ke s') kr ke s
 | .cond c a b,kn,kr,ke,s=>match s.opd c with
  | .bool t=>if t=true then C7 cal lp a kn kr ke s else C7 cal lp b kn kr ke s
  | _=>none
 | .block id live body,kn,kr,ke,s=>C7 cal lp body (fun s'=>kn (s'.cutH (Bj s live) live s.st.length)) kr (fun i s'=>if i=id then kn (s'.cutH (Bj s live) live s.st.length) else ke i s') s
 | .loop live body,_,kr,ke,s=>lp (fun go s'=>C7 cal lp body (fun s''=>go (s''.cutH (Bj s live) live s.st.length)) kr ke s') (s.cut live s.st.length)
 | .exit id,_,_,ke,s=>ke id s
 | .ret,_,kr,_,s=>kr s
theorem He {ρ:Type} (cal:CV) (k:Nat):∀ (a:AF) (kn kr:St->Option ρ) (ke:Nat->St->Option ρ) (s:St),C_ cal k a kn kr ke s=C7 cal (Gb k) a kn kr ke s
 | .skip,_,_,_,_=>rfl
 | .region ..,_,_,_,_=>rfl
 | .draw ..,_,_,_,_=>rfl
 | .seqc live a b,kn,kr,ke,s=>by simp only [C_,C7,He cal k a,He cal k b]
 | .seq a b,kn,kr,ke,s=>by simp only [C_,C7,He cal k a,He cal k b]
 | .cond c a b,kn,kr,ke,s=>by
  simp only [C_,C7,He cal k a,He cal k b]
  cases s.opd c<;>rfl
 | .block id live a,kn,kr,ke,s=>by simp only [C_,C7,He cal k a]
 | .loop live a,kn,kr,ke,s=>by simp only [C_,C7,He cal k a]
 | .exit _,_,_,_,_=>rfl
 | .ret,_,_,_,_=>rfl
theorem D_ {ρ:Type}:∀ (a:AF) {cal:Nat->CV} {c:CV} {lp:Nat->Lp ρ} {ll:Lp ρ} {kn kr:Nat->St->Option ρ} {kl krl:St->Option ρ} {ke:Nat->Nat->St->Option ρ} {kel:Nat->St->Option ρ},Jg cal c->Xm lp ll->(∀ j,Xm (fun _=>lp j) (lp j)) ->
  Conv kn kl->Conv kr krl->(∀ i,Conv (fun j=>ke j i) (kel i))->Conv (fun j=>C7 (cal j) (lp j) a (kn j) (kr j) (ke j)) (C7 c ll a kl krl kel)
 | .skip,_,_,_,_,_,_,_,_,_,_,hc,hl,hl',hk,hr,he=>hk
 | .region ops live,_,_,_,_,_,_,_,_,_,_,hc,hl,hl',hk,hr,he=>fun s r h=>Tw hc ops (fun s r h=>hk _ r h) s r h
 | .draw anc t live,_,_,_,_,_,_,_,_,_,_,hc,hl,hl',hk,hr,he=>fun s r h=>La hc anc (fun s r h=>hk _ r h) t [] s r h
 | .seqc live a b,_,_,_,_,_,_,_,_,_,_,hc,hl,hl',hk,hr,he=>fun s r h=>D_ a hc hl hl' (fun s' r h=>D_ b hc hl hl' hk hr he _ r h) hr he s r h
 | .seq a b,_,_,_,_,_,_,_,_,_,_,hc,hl,hl',hk,hr,he=>fun s r h=>D_ a hc hl hl' (fun s' r h=>D_ b hc hl hl' hk hr he _ r h) hr he s r h
 | .cond c a b,_,_,_,_,_,_,_,_,_,_,hc,hl,hl',hk,hr,he=>fun s r h=>by
  simp only [C7] at h ⊢
  split at h
  ·split at h
   ·rename_i e
    simp only [if_pos e]
    exact D_ a hc hl hl' hk hr he s r h
   ·rename_i e
    simp only [if_neg e]
    exact D_ b hc hl hl' hk hr he s r h
  ·cases h
 | .block id live a,_,_,_,_,_,_,_,_,_,_,hc,hl,hl',hk,hr,he=>fun s r h=>by
  simp only [C7] at h ⊢
  refine D_ a hc hl hl' (fun s r h=>hk _ r h) hr (fun i s' r h=>?_) s r h
  split at h
  ·rename_i e
   simp only [if_pos e]
   exact hk _ r h
  ·rename_i e
   simp only [if_neg e]
   exact he i _ r h
 | .loop live a,cal,c,lp,ll,kn,kr,kl,krl,ke,kel,hc,hl,hl',hk,hr,he=>fun s r h=>by
  simp only [C7] at h ⊢
  refine hl _ _ (fun go gl hgo s' r h=>?_) (fun j go gl hgo s' r h=>?_) _ r h
  ·exact D_ a hc hl hl' (fun s r h=>hgo _ r h) hr he s' r h
  ·exact D_ (cal:=fun _=>cal j) (lp:=fun _=>lp j) (kn:=fun i s'=>go i (s'.cutH (Bj s live) live s.st.length)) (kl:=fun s'=>gl (s'.cutH (Bj s live) live s.st.length)) (kr:=fun _=>kr j) (krl:=kr j) (ke:=fun _=>ke j) (kel:=ke j) a (Jg.refl _) (hl' j) (fun _=>hl' j) (fun s r h=>hgo _ r h) (Conv.refl _) (fun i=>Conv.refl _) s' r h
 | .exit id,_,_,_,_,_,_,_,_,_,_,hc,hl,hl',hk,hr,he=>fun s r h=>he id s r h
 | .ret,_,_,_,_,_,_,_,_,_,_,hc,hl,hl',hk,hr,he=>hr
theorem Wn {ρ:Type} {cal:CV} {a:AF} {hs:List (Nat×Nat)} {live:List Nat} {n:Nat} {kr:St->Option ρ} {ke:Nat->St->Option ρ} {s:St} {r:ρ}
  (h:C7 cal FJ a (fun s''=>FJ (fun go s'=>C7 cal FJ a (fun s''=>go (s''.cutH hs live n)) kr ke s') (s''.cutH hs live n)) kr ke s=some r) :
  FJ (fun go s'=>C7 cal FJ a (fun s''=>go (s''.cutH hs live n)) kr ke s') s=some r :=
 Ro (F:=fun go s'=>C7 cal FJ a (fun s''=>go (s''.cutH hs live n)) kr ke s') (fun go gl hgo s' r h=>D_ (cal:=fun _=>cal) (lp:=fun _=>FJ) (kn:=fun i s'=>go i (s'.cutH hs live n)) (kl:=fun s'=>gl (s'.cutH hs live n)) (kr:=fun _=>kr) (krl:=kr) (ke:=fun _=>ke) (kel:=ke) a (Jg.refl _) Um (fun _=>Um) (fun s r h=>hgo _ r h) (Conv.refl _) (fun i=>Conv.refl _) s' r h) h
noncomputable def Xp (cal:CV) (fn:B_) (args bs:List AV):Option (RT fn.outs) :=
 C7 cal FJ fn.body (AI fn) (AI fn) (fun _ _=>none) ⟨HZ 0 (BQ (CL bs) args),Ay bs args⟩
noncomputable def Tx (MV:Nat->Option B_) (Cm:CV):CV:=fun f a b=>Lm fun k=>Nj MV Cm k f a b
theorem TP {MV:Nat->Option B_} {Cm:CV} {f:Nat} {args bs r:List AV} (hf:MV f=none) (h:Cm f args bs=some r):Tx MV Cm f args bs=some r:=by
 refine Xk ⟨1,fun k hk=>?_⟩
 cases k with
 | zero=>omega
 | succ k=>simp only [Nj,hf,h]
theorem Wo {MV:Nat->Option B_} {Cm:CV} {f:Nat} {fn:B_} {args bs:List AV} {r:RT fn.outs} (hf:MV f=some fn) (hl:args.length=fn.params.length/\bs.length=(Bx fn.params 0).length)
  (h:Xp (Tx MV Cm) fn args bs=some r):Tx MV Cm f args bs=some (Bh fn.outs r):=by
 have hc:Jg (fun k=>Nj MV Cm k) (Tx MV Cm):=fun f a b r h=>Uk h
 obtain ⟨m,hm⟩:=D_ (lp:=Gb) (ll:=FJ) fn.body (kn:=fun _=>AI fn) (kr:=fun _=>AI fn) (ke:=fun _ _ _=>none) hc Xn Ul (Conv.refl _) (Conv.refl _) (fun i=>Conv.refl _) _ r h
 refine Xk ⟨m+1,fun k hk=>?_⟩
 cases k with
 | zero=>omega
 | succ k =>
  simp only [Nj,hf,if_pos hl]
  have:=hm k (by omega)
  simp only [<- He] at this
  unfold Vc
  rw [this]
  rfl
theorem Ip:∀ (K:Kd) (x:K.T) (r:List AV),K.dec (K.enc x++r)=some (x,r)
 | .int k,x,r=>by simp [Kd.enc,Kd.dec]
 | .bool,x,r=>rfl
 | .str,x,r=>rfl
 | .slice e,x,r=>by simp [Kd.enc,Kd.dec]
 | .pair a b,x,r=>by simp [Kd.enc,Kd.dec,Bi,Ip a,Ip b]
 | .own t e,x,r=>by simp [Kd.enc,Kd.dec]
 | .ref K,x,r=>by
  have:=Ip K x []
  rw [List.append_nil] at this
  simp [Kd.enc,Kd.dec,this]
 | .fun f,x,r=>by simp [Kd.enc,Kd.dec]
 | .clo f K,x,r=>by simp [Kd.enc,Kd.dec]
theorem Rr (K:Kd) (x:K.T):K.of (K.av x)=some x:=by
 have h:K.ofCells (K.enc x)=some x:=by
  have:=Ip K x []
  rw [List.append_nil] at this
  simp [Kd.ofCells,this]
 unfold Kd.of
 cases K<;>exact h
theorem Rs:∀ (Ks:List Kd) (x:RT Ks),CE Ks (Bh Ks x)=some x
 | [],_=>rfl
 | [K],x=>Rr K x
 | K::L::Ks,x=>by
  simp only [Bh,CE,Rr,U]
  rw [Rs (L::Ks) x.2]
  rfl
theorem VS {MV:Nat->Option B_} {Cm:CV} {f:Nat} {fn:B_} {args bs:List AV} {r:RT fn.outs} (hf:MV f=some fn) (hl:args.length=fn.params.length/\bs.length=(Bx fn.params 0).length)
  (h:Xp (Tx MV Cm) fn args bs=some r):(Tx MV Cm f args bs).bind (CE fn.outs)=some r:=by
 rw [Wo hf hl h,U,Rs]
theorem Xq {P:Program} {MV:Nat->Option B_} {Cm:CV} (ht:Xh P MV) (hp:DG P Cm) {f:Nat} {args:List AV} (h:(Tx MV Cm f args []).bind (CE [.bool])=some true) {W:World} {cargs:List Value}
  (ha:AN (VE (Io W)) args cargs) (hlt:f<BV:=by decide) (htab:Tb (Io W):=by exact fun p h=>by cases h):Calls P f cargs.toArray W fun e W'=>e=.returned (.bool true)/\RowKit.Below W.heap.size W W':=by
 cases hq:Tx MV Cm f args [] with
 | none=>rw [hq] at h; cases h
 | some v =>
  rw [hq,U] at h
  obtain ⟨m,hm⟩:=Uk hq
  have hm:=hm m (Nat.le_refl _)
  have e:v=[.bool true]:=by
   match v,h with
   | [a],h =>
    have h:Kd.of .bool a=some true:=h
    unfold Kd.of Kd.ofCells at h
    cases a<;>simp [AV.cells,Kd.dec,AV.fits] at h<;>first | rw [h] | skip
  subst e
  exact Wl ht hp hm ha hlt htab
def Yt (f:Nat):List (Nat×B_)->Option B_
 | []=>none
 | (g,a)::r=>if g=f then some a else Yt f r
inductive Vz (P:Program):List (Nat×B_)->Prop where
 | nil:Vz P []
 | cons {f:Nat} {a:B_} {r:List (Nat×B_)} (h:CR P f a=true) (t:Vz P r):Vz P ((f,a)::r)
theorem Wp {P:Program} {tab:List (Nat×B_)} (h:Vz P tab):Xh P fun f=>Yt f tab:=by
 intro f a hf
 induction h with
 | nil=>cases hf
 | cons h _ ih =>
  simp only [Yt] at hf
  split at hf
  ·rename_i e
   cases hf
   rw [<- e]
   exact h
  ·exact ih hf
end Go.Proofs.YtfcgblnlopemkaaDoor.Core

namespace Go.Proofs.YtfcgblnlopemkaaDoor.Core
open Go IntKind
set_option maxRecDepth 100000
noncomputable section
abbrev Kd.W:Kd:=.int .i64
abbrev Kd.S:Kd:=.slice .W
abbrev AD:Kd:=(.pair .W (.pair .W (.pair .W (.pair .W (.pair .str .str)))))
abbrev E:Type:=Int×Int×Int×Int×ByteArray×ByteArray
abbrev FT:Kd:=(.pair (.own 35 (.own 3 .W)) (.own 40 AD))
abbrev BP:Type:=List (List Int)×List E
def N6:Nat×List PK×List Kd:=(4,[.val .str],[(.slice .S),(.slice AD),.W])
def Iq:Nat×List PK×List Kd:=(5,[.val .str],[(.own 35 (.own 3 .W)),(.own 40 AD),.W])
def Lb:Nat×List PK×List Kd:=(6,[.bor (.slice .S),.bor (.slice .S)],[.bool])
def K4:Nat×List PK×List Kd:=(7,[.bor (.slice AD),.bor (.slice AD)],[.bool])
def PW:Nat×List PK×List Kd:=(8,[.mut (.own 35 (.own 3 .W)),.val .W],[.W])
def N7:Nat×List PK×List Kd:=(9,[.mut (.own 40 AD),.val .W],[.W])
def J5:Nat×List PK×List Kd:=(10,[.bor (.slice .S),.val .W],[.W])
def Ir:Nat×List PK×List Kd:=(11,[.bor (.slice AD),.val .W],[.W])
def K5:Nat×List PK×List Kd:=(12,[.val .str],[(.slice .str)])
def Rt:Nat×List PK×List Kd:=(13,[.val .str],[(.slice .str),.bool])
def PX:Nat×List PK×List Kd:=(14,[.val .str],[.S,.bool])
def Ru:Nat×List PK×List Kd:=(15,[.bor (.slice .S)],[.bool])
def Qc:Nat×List PK×List Kd:=(16,[.bor (.slice .str)],[AD,.bool])
def Rv:Nat×List PK×List Kd:=(17,[.val AD],[.bool])
def HH:Nat×List PK×List Kd:=(18,[.val .str,.val .str],[(.slice .str)])
def M7:Nat×List PK×List Kd:=(19,[.ptr FT,.val .str],[.bool])
def Sr:Nat×List PK×List Kd:=(20,[.bor .S,.bor .S],[.bool])
def Rw:Nat×List PK×List Kd:=(21,[.val AD,.val AD],[.bool])
def Qd:Nat×List PK×List Kd:=(22,[.mut (.own 3 .W),.val .W],[.W])
def Er:Nat×List PK×List Kd:=(23,[.val .W],[.str])
def Qe:Nat×List PK×List Kd:=(24,[.bor .S,.val .W],[.W])
def DH:Nat×List PK×List Kd:=(25,[.val .str],[.W,.bool])
def Rx:Nat×List PK×List Kd:=(26,[.bor .S],[.bool])
def EW:Nat×List PK×List Kd:=(27,[.val .W,.val .W,.val .W],[.bool])
def Ry:Nat×List PK×List Kd:=(29,[.val .str],[(.slice .str),.bool])
def MT:Nat×List PK×List Kd:=(30,[.val .str,.val .str],[.bool])
def M8:Nat×List PK×List Kd:=(31,[.ptr FT,.bor (.slice .str)],[.bool])
def Rz:Nat×List PK×List Kd:=(32,[.bor (.slice .str)],[AD,.bool])
def R0:Nat×List PK×List Kd:=(33,[.val .W],[.str])
def Ty:Nat×List PK×List Kd:=(34,[.bor .S,.val .W],[.bool])
def FU:Nat×List PK×List Kd:=(38,[.val .str,.val .str],[.bool])
def Ss:Nat×List PK×List Kd:=(39,[.val .str],[(.own 3 .W),.bool])
def R1:Nat×List PK×List Kd:=(40,[.bor (.slice .S)],[.bool])
def Su:Nat×List PK×List Kd:=(41,[.val .str],[.W,.W])
def Hz:Nat×List PK×List Kd:=(42,[.val .str],[.W,.bool])
def R2:Nat×List PK×List Kd:=(43,[.val AD],[.bool])
def PY:Nat×List PK×List Kd:=(44,[.val .W],[(.int .u8)])
def Ms:Nat×List PK×List Kd:=(49,[.val .W],[.bool])
def Ko:Nat×List PK×List Kd:=(50,[.bor .S,.val .W],[.W])
def CS:Nat×List PK×List Kd:=(51,[.val .W,.val .W,.val .W],[.bool])
def R3:Nat×List PK×List Kd:=(52,[.val .W],[.str])
def Tz:Nat×List PK×List Kd:=(53,[.val .W,.val .W,.val .str,.val .str],[.bool])
def R4:Nat×List PK×List Kd:=(59,[.val .W],[.str])
def T0:Nat×List PK×List Kd:=(60,[.val .str],[.bool])
abbrev PZ {A0 ρ:Type} (t W:A0->Option ρ):Prop:=∀ {a0 r},t a0=some r->W a0=some r
abbrev Qf {A0 A1 ρ:Type} (t W:A0->A1->Option ρ):Prop:=∀ {a0 a1 r},t a0 a1=some r->W a0 a1=some r
abbrev R5 {A0 A1 A2 ρ:Type} (t W:A0->A1->A2->Option ρ):Prop:=∀ {a0 a1 a2 r},t a0 a1 a2=some r->W a0 a1 a2=some r
abbrev V0 {A0 A1 A2 A3 ρ:Type} (t W:A0->A1->A2->A3->Option ρ):Prop:=∀ {a0 a1 a2 a3 r},t a0 a1 a2 a3=some r->W a0 a1 a2 a3=some r
abbrev Y5 {A0 A1 A2 A3 A4 ρ:Type} (t W:A0->A1->A2->A3->A4->Option ρ):Prop:=∀ {a0 a1 a2 a3 a4 r},t a0 a1 a2 a3 a4=some r->W a0 a1 a2 a3 a4=some r
abbrev aW {A0 A1 A2 A3 A4 A5 ρ:Type} (t W:A0->A1->A2->A3->A4->A5->Option ρ):Prop:=∀ {a0 a1 a2 a3 a4 a5 r},t a0 a1 a2 a3 a4 a5=some r->W a0 a1 a2 a3 a4 a5=some r
abbrev aF {A0 A1 A2 A3 A4 A5 A6 ρ:Type} (t W:A0->A1->A2->A3->A4->A5->A6->Option ρ):Prop:=∀ {a0 a1 a2 a3 a4 a5 a6 r},t a0 a1 a2 a3 a4 a5 a6=some r->W a0 a1 a2 a3 a4 a5 a6=some r
abbrev aM {A0 A1 A2 A3 A4 A5 A6 A7 ρ:Type} (t W:A0->A1->A2->A3->A4->A5->A6->A7->Option ρ):Prop:=∀ {a0 a1 a2 a3 a4 a5 a6 a7 r},t a0 a1 a2 a3 a4 a5 a6 a7=some r->W a0 a1 a2 a3 a4 a5 a6 a7=some r
instance (n:Nat):OfNat A_ n:=⟨.t n⟩
abbrev A_.F:A_:=.c (.bool false)
abbrev A_.V:A_:=.c (.bool true)
abbrev A_.z:A_:=.c .nil
abbrev AF.R (a:List CB) (b:List Nat) (c:AF):AF:=.seq (.region a b) c
abbrev AF.r (a:List CB) (b:List Nat):AF:=.region a b
abbrev AF.s (a b:AF):AF:=.seq a b
abbrev AF.q (c:A_) (a b:AF):AF:=.cond c a b
abbrev AF.Q (c:A_) (a:AF):AF:=.cond c a .skip
abbrev AF.k:AF:=.skip
abbrev AF.e:AF:=.ret
abbrev AF.D (n:Nat) (l:List (Nat×List Nat)) (t:DT) (v:List Nat):AF:=.draw (aV n l) t v
abbrev AF.b (n:Nat) (l:List Nat) (c:AF):AF:=.block n l c
abbrev DT.O (i:Nat) (a:CB) (e:Bool) (fl:List (Nat×CB)) (r:DT):DT:=.only i none a e fl r
abbrev DT.z:DT:=.done

def Dl:AF:=(.R [.mv 10 (.i 1)] [6,7,9,10] (.R [.m 84 6,.m 85 10,.cl 86 [84,85] J5,.m 10 86] [7,9,10] (.s (.R [.m 87 10,.bin 88 .lss 87 (.i 0)] [7,9,10,88] (.cond 88 (.R [.mv 2 .F] [2] .e) .k)) (.R [.m 89 7,.m 90 10,.cl 91 [89,90] Ir,.m 10 91] [9,10] (.s (.R [.m 92 10,.bin 93 .lss 92 (.i 0)] [9,10,93] (.cond 93 (.R [.mv 2 .F] [2] .e) .k)) (.s (.R [.m 94 10,.m 95 9,.b 96 .neq 94 95] [96] (.cond 96 (.R [.mv 2 .F] [2] .e) .k)) (.R [.mv 2 .V] [2] .e)))))))
def Dm:AF:=(.R [.mv 9 (.i 1)] [0,3,4,5,6,7,9] (.R [.m 44 6,.m 45 9,.cl 46 [44,45] PW,.m 9 46] [0,3,4,5,6,7,9] (.R [.m 47 7,.m 48 9,.cl 49 [47,48] N7,.m 9 49] [0,3,4,5,6,7,9] (.R [.mv 10 (.i 1)] [0,3,4,5,6,7,9,10] (.R [.m 50 6,.m 51 10,.cl 52 [50,51] J5,.m 10 52] [0,3,4,5,6,7,9,10] (.s (.R [.m 53 10,.bin 54 .lss 53 (.i 0)] [0,3,4,5,6,7,9,10,54] (.cond 54 (.R [.mv 2 .F] [2] .e) .k)) (.R [.m 55 7,.m 56 10,.cl 57 [55,56] Ir,.m 10 57] [0,3,4,5,6,7,9,10] (.s (.R [.m 58 10,.bin 59 .lss 58 (.i 0)] [0,3,4,5,6,7,9,10,59] (.cond 59 (.R [.mv 2 .F] [2] .e) .k)) (.s (.R [.m 60 10,.m 61 9,.b 62 .neq 60 61] [0,3,4,5,6,7,9,62] (.cond 62 (.R [.mv 2 .F] [2] .e) .k)) (.R [.m 64 0,.cl 65 [64] Iq,.m 63 65,.ext 66 63 0,.ext 67 63 1,.ext 68 63 2,.m 11 66,.m 12 67,.m 13 68] [3,4,5,6,7,9,11,12,13] (.s (.R [.m 69 11,.m 70 3,.cl 71 [69,70] Lb,.un 72 .not 71,.m 73 72,.sc 73 false [.m 74 12,.m 75 4,.cl 76 [74,75] K4,.un 77 .not 76] 78 .V 77,.m 79 78,.sc 79 false [.m 80 13,.m 81 5,.b 82 .neq 80 81] 83 .V 82] [6,7,9,83] (.cond 83 (.R [.mv 2 .F] [2] .e) .k)) Dl)))))))))))
def Ad:B_:=⟨[.val .str],[⟨2,false,.bool⟩],(.R [.mv 2 .F] [0] (.s (.R [.m 14 0,.len 15 true 14,.bin 16 .gtr 15 (.i 1048576)] [0,16] (.cond 16 (.R [.mv 2 .V] [2] .e) .k)) (.R [.m 18 0,.cl 19 [18] N6,.m 17 19,.ext 20 17 0,.ext 21 17 1,.ext 22 17 2,.m 3 20,.m 4 21,.m 5 22] [0,3,4,5] (.R [.m 24 0,.cl 25 [24] Iq,.m 23 25,.ext 26 23 0,.ext 27 23 1,.ext 28 23 2,.m 6 26,.m 7 27,.m 8 28] [0,3,4,5,6,7,8] (.s (.R [.m 29 6,.m 30 3,.cl 31 [29,30] Lb,.un 32 .not 31,.m 33 32,.sc 33 false [.m 34 7,.m 35 4,.cl 36 [34,35] K4,.un 37 .not 36] 38 .V 37,.m 39 38,.sc 39 false [.m 40 8,.m 41 5,.b 42 .neq 40 41] 43 .V 42] [0,3,4,5,6,7,43] (.cond 43 (.R [.mv 2 .F] [2] .e) .k)) Dm)))))⟩
theorem Jh:CR Tryd.prog 3 Ad=true:=by kernel_rfl
def HQ:AF:=(.cond 73 (.R [.m 75 10,.idx 76 1 75 (.i 1),.l 77 76,.cl 78 [77] PX,.m 74 78,.ext 79 74 0,.ext 80 74 1,.m 12 79,.m 13 80] [5,6,7,8,9,12,13] (.R [.m 81 7,.m 82 12,.blst 83 .S [82],.app 84 35 .S 81 83,.m 7 84] [5,6,7,8,9,13] (.s (.R [.m 85 13,.un 86 .not 85,.m 87 86,.sc 87 false [.m 88 8,.len 89 false 88,.bin 90 .gtr 89 (.i 0)] 91 .V 90,.m 92 91,.sc 92 false [.m 93 7,.cl 94 [93] Ru,.un 95 .not 94] 96 .V 95] [5,6,7,8,9,96] (.cond 96 (.R [.blst 97 .S [],.m 98 5,.m 99 9,.bin 100 .add 99 (.i 1),.m 2 97,.m 3 98,.m 4 100] [2,3,4] .e) .k)) (.exit 1)))) .k)
def EA:AF:=(.R [.m 102 10,.cl 103 [102] Qc,.m 101 103,.ext 104 101 0,.ext 105 101 1,.al 14 AD,.store 14 104 6 false,.m 15 105] [5,6,7,8,9,14,15] (.s (.R [.m 106 15,.un 107 .not 106,.m 108 107,.sc 108 false [.ls 109 14 6,.cl 110 [109] Rv,.un 111 .not 110] 112 .V 111,.m 113 112,.sc 113 false [.m 114 7,.len 115 false 114,.bin 116 .eql 115 (.i 0)] 117 .V 116,.m 118 117,.sc 118 false [.m 119 8,.len 120 false 119,.bin 121 .eql 120 (.i 70)] 122 .V 121] [5,6,7,8,9,14,122] (.cond 122 (.R [.blst 123 .S [],.m 124 5,.m 125 9,.bin 126 .add 125 (.i 1),.m 2 123,.m 3 124,.m 4 126] [2,3,4] .e) .k)) (.r [.m 127 8,.ls 128 14 6,.blst 129 AD [128],.app 130 40 AD 127 129,.m 8 130] [5,6,7,8,9])))
def Gi:AF:=(.s (.R [.m 59 11,.un 60 .not 59] [5,6,7,8,9,10,60] (.cond 60 (.R [.blst 61 .S [],.m 62 5,.m 63 9,.bin 64 .add 63 (.i 1),.m 2 61,.m 3 62,.m 4 64] [2,3,4] .e) .k)) (.s (.R [.m 65 10,.idx 66 1 65 (.i 0),.l 67 66,.bin 68 .eql 67 (.c (.str ⟨#[118,105,101,119]⟩)),.m 69 68,.sc 69 true [.m 70 10,.len 71 false 70,.bin 72 .eql 71 (.i 2)] 73 72 .F] [5,6,7,8,9,10,73] HQ) EA))
def Gj:AF:=(.r [.m 36 9,.bin 37 .add 36 (.i 1),.m 9 37] [5,6,7,8,9])
def Gk:AF:=(.s (.R [.m 32 9,.m 33 6,.len 34 false 33,.b 35 .lss 32 34] [5,6,7,8,9,35] (.cond 35 .k (.exit 0))) (.s (.b 1 [5,6,7,8,9] (.R [.m 39 6,.m 40 9,.idx 41 1 39 40,.l 42 41,.cl 43 [42] Rt,.m 38 43,.ext 44 38 0,.ext 45 38 1,.m 10 44,.m 11 45] [5,6,7,8,9,10,11] (.s (.R [.m 46 11,.m 47 46,.sc 47 true [.m 48 10,.len 49 false 48,.bin 50 .eql 49 (.i 0),.m 51 50,.sc 51 false [.m 52 10,.idx 53 1 52 (.i 0),.l 54 53,.sidx 55 54 (.i 0),.bin 56 .eql 55 (.c (.int .u8 35))] 57 .V 56] 58 57 .F] [5,6,7,8,9,10,11,58] (.cond 58 (.exit 1) .k)) Gi))) Gj))
def EB:AF:=(.s (.R [.m 131 7,.len 132 false 131,.bin 133 .eql 132 (.i 0)] [5,7,8,133] (.cond 133 (.R [.blst 134 .S [],.m 135 5,.m 2 134,.m 3 135,.mv 4 (.i 1)] [2,3,4] .e) .k)) (.R [.m 136 7,.m 137 8,.m 2 136,.m 3 137,.mv 4 (.i 0)] [2,3,4] .e))
def Gl:AF:=(.R [.m 28 0,.cl 29 [28] K5,.m 6 29] [5,6] (.R [.brow 30 35 .S [],.m 7 30] [5,6,7] (.R [.brow 31 40 AD [],.m 8 31] [5,6,7,8] (.s (.R [.mv 9 (.i 0)] [5,6,7,8,9] (.b 0 [5,7,8] (.loop [5,6,7,8,9] Gk))) EB))))
def AQ:B_:=⟨[.val .str],[⟨2,false,(.slice .S)⟩,⟨3,false,(.slice AD)⟩,⟨4,false,.W⟩],(.R [.mv 2 .z,.mv 3 .z,.mv 4 (.i 0)] [0] (.R [.blst 16 AD [],.m 5 16] [0,5] (.s (.R [.m 17 0,.len 18 true 17,.bin 19 .gtr 18 (.i 4000),.m 20 19,.sc 20 false [.m 21 0,.cl 22 [21] K5,.len 23 false 22,.bin 24 .gtr 23 (.i 100)] 25 .V 24] [0,5,25] (.cond 25 (.R [.blst 26 .S [],.m 27 5,.m 2 26,.m 3 27,.mv 4 (.c (.int .i64 (-1)))] [2,3,4] .e) .k)) Gl)))⟩
theorem N8:CR Tryd.prog 4 AQ=true:=by kernel_rfl
def HR:AF:=(.R [.b 34 .lss 33 32] [6,31,32,33,34] (.s (.cond 34 .k (.exit 0)) (.s (.b 1 [6,31,32,33] (.R [.m 35 33,.idx 36 1 31 33,.l 37 36,.m 7 35,.m 8 37] [6,7,8,31,32,33] (.R [.m 38 8,.cl 39 [6,38] M7,.un 40 .not 39] [6,7,31,32,33,40] (.cond 40 (.R [.m 41 7,.bin 42 .add 41 (.i 1),.nilrow 2 35 (.own 3 .W),.nilrow 3 40 AD,.m 4 42] [2,3,4] .e) .k)))) (.r [.bin 43 .add 33 (.i 1),.m 33 43] [6,31,32,33]))))
def EC:AF:=(.s (.R [.f 44 6 0,.l 45 44,.len 46 false 45,.bin 47 .eql 46 (.i 0)] [6,47] (.cond 47 (.R [.nilrow 2 35 (.own 3 .W),.nilrow 3 40 AD,.mv 4 (.i 1)] [2,3,4] .e) .k)) (.s (.D 7 [(2,[]),(4,[1]),(5,[3,4])] (.tk 7 [.mv 4 (.i 0),.m 3 51,.m 2 49,.l 51 50,.f 50 6 1,.l 49 48,.f 48 6 0] .z) [2,3,4]) .e))
def Gm:AF:=(.R [.al 6 FT] [5,6] (.s (.R [.m 31 5,.len 32 false 31,.mv 33 (.i 0)] [6,31,32,33] (.b 0 [6] (.loop [6,31,32,33] HR))) EC))
def Gn:AF:=(.s (.R [.m 23 0,.len 24 true 23,.bin 25 .gtr 24 (.i 4000),.m 26 25,.sc 26 false [.m 27 5,.len 28 false 27,.bin 29 .gtr 28 (.i 100)] 30 .V 29] [5,30] (.cond 30 (.R [.nilrow 2 35 (.own 3 .W),.nilrow 3 40 AD,.mv 4 (.c (.int .i64 (-1)))] [2,3,4] .e) .k)) Gm)
def AX:B_:=⟨[.val .str],[⟨2,false,(.own 35 (.own 3 .W))⟩,⟨3,false,(.own 40 AD)⟩,⟨4,false,.W⟩],(.R [.nilrow 2 35 (.own 3 .W),.nilrow 3 40 AD,.mv 4 (.i 0)] [0] (.R [.m 9 0,.cx (some 10) [9,.c (.str ⟨#[10]⟩)] HH,.m 5 10] [0,5] (.seqc [0,5] (.R [.m 11 5,.m 12 5,.len 13 false 12,.bin 14 .sub 13 (.i 1),.idx 15 1 11 14,.l 16 15,.bin 17 .eql 16 (.c (.str ⟨#[]⟩))] [0,5,17] (.cond 17 (.r [.m 18 5,.m 19 5,.len 20 false 19,.bin 21 .sub 20 (.i 1),.sl 22 1 18 none (some 21),.m 5 22] [0,5]) .k)) Gn)))⟩
theorem N9:CR Tryd.prog 5 AX=true:=by kernel_rfl
def J6:AF:=(.s (.R [.m 11 5,.m 12 0,.len 13 false 12,.b 14 .lss 11 13] [0,1,5,14] (.cond 14 .k (.exit 0))) (.s (.b 1 [0,1,5] (.s (.D 10 [(1,[]),(2,[0,1]),(4,[]),(5,[]),(6,[4,5]),(8,[3,7])] (.tk 8 [.l 24 23,.idx 23 1 21 22,.m 22 5,.m 21 1,.l 20 19,.idx 19 1 17 18,.m 18 5,.m 17 0] (.O 8 (.cl 25 [20,24] Sr) false [] (.tk 10 [.un 26 .not 25] .z))) [0,1,5,26]) (.cond 26 (.R [.mv 4 .F] [4] .e) .k))) (.r [.m 15 5,.bin 16 .add 15 (.i 1),.m 5 16] [0,1,5])))
def J7:AF:=(.R [.mv 4 .V] [4] .e)
def Bz:B_:=⟨[.val (.slice .S),.val (.slice .S)],[⟨4,false,.bool⟩],(.R [.mv 4 .F] [0,1] (.s (.R [.m 6 0,.len 7 false 6,.m 8 1,.len 9 false 8,.b 10 .neq 7 9] [0,1,10] (.cond 10 (.R [.mv 4 .F] [4] .e) .k)) (.s (.R [.mv 5 (.i 0)] [0,1,5] (.b 0 [] (.loop [0,1,5] J6))) J7)))⟩
theorem R6:CR Tryd.prog 6 Bz=true:=by kernel_rfl
def Is:AF:=(.s (.R [.m 11 5,.m 12 0,.len 13 false 12,.b 14 .lss 11 13] [0,1,5,14] (.cond 14 .k (.exit 0))) (.s (.b 1 [0,1,5] (.s (.D 10 [(1,[]),(2,[0,1]),(4,[]),(5,[]),(6,[4,5]),(8,[3,7])] (.tk 8 [.ls 24 23 6,.idx 23 6 21 22,.m 22 5,.m 21 1,.ls 20 19 6,.idx 19 6 17 18,.m 18 5,.m 17 0] (.O 8 (.cl 25 [20,24] Rw) false [] (.tk 10 [.un 26 .not 25] .z))) [0,1,5,26]) (.cond 26 (.R [.mv 4 .F] [4] .e) .k))) (.r [.m 15 5,.bin 16 .add 15 (.i 1),.m 5 16] [0,1,5])))
def It:AF:=(.R [.mv 4 .V] [4] .e)
def Bc:B_:=⟨[.val (.slice AD),.val (.slice AD)],[⟨4,false,.bool⟩],(.R [.mv 4 .F] [0,1] (.s (.R [.m 6 0,.len 7 false 6,.m 8 1,.len 9 false 8,.b 10 .neq 7 9] [0,1,10] (.cond 10 (.R [.mv 4 .F] [4] .e) .k)) (.s (.R [.mv 5 (.i 0)] [0,1,5] (.b 0 [] (.loop [0,1,5] Is))) It)))⟩
theorem Qg:CR Tryd.prog 7 Bc=true:=by kernel_rfl
def H5:AF:=(.s (.R [.m 6 5,.m 7 0,.len 8 false 7,.b 9 .lss 6 8] [0,1,5,9] (.cond 9 .k (.exit 0))) (.s (.b 1 [0,1,5] (.r [.m 12 0,.m 13 5,.idx 14 1 12 13,.l 15 14,.m 16 1,.icx 15 false (some 17) [15,16] Qd,.m 1 17] [0,1,5])) (.r [.m 10 5,.bin 11 .add 10 (.i 1),.m 5 11] [0,1,5])))
def H6:AF:=(.R [.m 18 1,.m 4 18] [4] .e)
def BS:B_:=⟨[.mut (.own 35 (.own 3 .W)),.val .W],[⟨4,false,.W⟩],(.R [.mv 4 (.i 0)] [0,1] (.s (.R [.mv 5 (.i 0)] [0,1,5] (.b 0 [1] (.loop [0,1,5] H5))) H6))⟩
theorem Pa:CR Tryd.prog 8 BS=true:=by kernel_rfl
def Gp:AF:=(.s (.R [.m 6 5,.m 7 0,.len 8 false 7,.b 9 .lss 6 8] [0,1,5,9] (.cond 9 .k (.exit 0))) (.s (.b 1 [0,1,5] (.R [.m 12 0,.m 13 5,.m 14 1,.idx 15 6 12 13,.f 16 15 0,.store 16 14 1 false] [0,1,5] (.R [.m 17 1,.bin 18 .add 17 (.i 1),.m 1 18] [0,1,5] (.R [.m 19 0,.m 20 5,.m 21 1,.idx 22 6 19 20,.f 23 22 1,.store 23 21 1 false] [0,1,5] (.R [.m 24 1,.bin 25 .add 24 (.i 1),.m 1 25] [0,1,5] (.R [.m 26 0,.m 27 5,.m 28 1,.idx 29 6 26 27,.f 30 29 2,.store 30 28 1 false] [0,1,5] (.R [.m 31 1,.bin 32 .add 31 (.i 1),.m 1 32] [0,1,5] (.R [.m 33 0,.m 34 5,.m 35 1,.idx 36 6 33 34,.f 37 36 3,.store 37 35 1 false] [0,1,5] (.R [.m 38 1,.bin 39 .add 38 (.i 1),.m 1 39] [0,1,5] (.R [.m 40 0,.m 41 5,.m 42 1,.cl 43 [42] Er,.idx 44 6 40 41,.f 45 44 4,.store 45 43 1 false] [0,1,5] (.R [.m 46 1,.bin 47 .add 46 (.i 1),.m 1 47] [0,1,5] (.R [.m 48 0,.m 49 5,.m 50 1,.cl 51 [50] Er,.idx 52 6 48 49,.f 53 52 5,.store 53 51 1 false] [0,1,5] (.r [.m 54 1,.bin 55 .add 54 (.i 1),.m 1 55] [0,1,5]))))))))))))) (.r [.m 10 5,.bin 11 .add 10 (.i 1),.m 5 11] [0,1,5])))
def Gq:AF:=(.R [.m 56 1,.m 4 56] [4] .e)
def BM:B_:=⟨[.mut (.own 40 AD),.val .W],[⟨4,false,.W⟩],(.R [.mv 4 (.i 0)] [0,1] (.s (.R [.mv 5 (.i 0)] [0,1,5] (.b 0 [1] (.loop [0,1,5] Gp))) Gq))⟩
theorem N_:CR Tryd.prog 9 BM=true:=by kernel_rfl
def H7:AF:=(.s (.R [.m 6 5,.m 7 0,.len 8 false 7,.b 9 .lss 6 8] [0,1,5,9] (.cond 9 .k (.exit 0))) (.s (.b 1 [0,1,5] (.R [.m 12 0,.m 13 5,.idx 14 1 12 13,.l 15 14,.m 16 1,.cl 17 [15,16] Qe,.m 1 17] [0,1,5] (.R [.m 18 1,.bin 19 .lss 18 (.i 0)] [0,1,5,19] (.cond 19 (.R [.mv 4 (.c (.int .i64 (-1)))] [4] .e) .k)))) (.r [.m 10 5,.bin 11 .add 10 (.i 1),.m 5 11] [0,1,5])))
def H8:AF:=(.R [.m 20 1,.m 4 20] [4] .e)
def BT:B_:=⟨[.val (.slice .S),.val .W],[⟨4,false,.W⟩],(.R [.mv 4 (.i 0)] [0,1] (.s (.R [.mv 5 (.i 0)] [0,1,5] (.b 0 [1] (.loop [0,1,5] H7))) H8))⟩
theorem Pb:CR Tryd.prog 10 BT=true:=by kernel_rfl
def Gr:AF:=(.s (.R [.m 6 5,.m 7 0,.len 8 false 7,.b 9 .lss 6 8] [0,1,5,9] (.cond 9 .k (.exit 0))) (.s (.b 1 [0,1,5] (.s (.R [.m 12 0,.m 13 5,.idx 14 6 12 13,.f 15 14 0,.l 16 15,.m 17 1,.b 18 .neq 16 17] [0,1,5,18] (.cond 18 (.R [.mv 4 (.c (.int .i64 (-1)))] [4] .e) .k)) (.R [.m 19 1,.bin 20 .add 19 (.i 1),.m 1 20] [0,1,5] (.s (.R [.m 21 0,.m 22 5,.idx 23 6 21 22,.f 24 23 1,.l 25 24,.m 26 1,.b 27 .neq 25 26] [0,1,5,27] (.cond 27 (.R [.mv 4 (.c (.int .i64 (-1)))] [4] .e) .k)) (.R [.m 28 1,.bin 29 .add 28 (.i 1),.m 1 29] [0,1,5] (.s (.R [.m 30 0,.m 31 5,.idx 32 6 30 31,.f 33 32 2,.l 34 33,.m 35 1,.b 36 .neq 34 35] [0,1,5,36] (.cond 36 (.R [.mv 4 (.c (.int .i64 (-1)))] [4] .e) .k)) (.R [.m 37 1,.bin 38 .add 37 (.i 1),.m 1 38] [0,1,5] (.s (.R [.m 39 0,.m 40 5,.idx 41 6 39 40,.f 42 41 3,.l 43 42,.m 44 1,.b 45 .neq 43 44] [0,1,5,45] (.cond 45 (.R [.mv 4 (.c (.int .i64 (-1)))] [4] .e) .k)) (.R [.m 46 1,.bin 47 .add 46 (.i 1),.m 1 47] [0,1,5] (.s (.s (.D 8 [(1,[]),(2,[0,1]),(5,[]),(7,[4,6])] (.tk 6 [.m 53 1,.l 52 51,.f 51 50 4,.idx 50 6 48 49,.m 49 5,.m 48 0] (.O 6 (.cl 54 [53] Er) false [] (.tk 8 [.b 55 .neq 52 54] .z))) [0,1,5,55]) (.cond 55 (.R [.mv 4 (.c (.int .i64 (-1)))] [4] .e) .k)) (.R [.m 56 1,.bin 57 .add 56 (.i 1),.m 1 57] [0,1,5] (.s (.s (.D 8 [(1,[]),(2,[0,1]),(5,[]),(7,[4,6])] (.tk 6 [.m 63 1,.l 62 61,.f 61 60 5,.idx 60 6 58 59,.m 59 5,.m 58 0] (.O 6 (.cl 64 [63] Er) false [] (.tk 8 [.b 65 .neq 62 64] .z))) [0,1,5,65]) (.cond 65 (.R [.mv 4 (.c (.int .i64 (-1)))] [4] .e) .k)) (.r [.m 66 1,.bin 67 .add 66 (.i 1),.m 1 67] [0,1,5]))))))))))))) (.r [.m 10 5,.bin 11 .add 10 (.i 1),.m 5 11] [0,1,5])))
def Gs:AF:=(.R [.m 68 1,.m 4 68] [4] .e)
def BN:B_:=⟨[.val (.slice AD),.val .W],[⟨4,false,.W⟩],(.R [.mv 4 (.i 0)] [0,1] (.s (.R [.mv 5 (.i 0)] [0,1,5] (.b 0 [1] (.loop [0,1,5] Gr))) Gs))⟩
theorem OA:CR Tryd.prog 11 BN=true:=by kernel_rfl
def Iu:AF:=(.s (.R [.m 7 5,.m 8 0,.len 9 true 8,.b 10 .lss 7 9] [0,3,4,5,10] (.cond 10 .k (.exit 0))) (.s (.b 1 [0,3,4,5] (.R [.m 13 0,.m 14 5,.sidx 15 13 14,.bin 16 .eql 15 (.c (.int .u8 10))] [0,3,4,5,16] (.cond 16 (.R [.m 17 3,.m 18 0,.m 19 4,.m 20 5,.sl 21 0 18 (some 19) (some 20),.blst 22 .str [21],.app 23 9 .str 17 22,.m 3 23] [0,3,5] (.r [.m 24 5,.bin 25 .add 24 (.i 1),.m 4 25] [0,3,4,5])) .k))) (.r [.m 11 5,.bin 12 .add 11 (.i 1),.m 5 12] [0,3,4,5])))
def FV:AF:=(.seqc [3] (.R [.m 26 4,.m 27 0,.len 28 true 27,.b 29 .lss 26 28] [0,3,4,29] (.cond 29 (.r [.m 30 3,.m 31 0,.m 32 4,.sl 33 0 31 (some 32) none,.blst 34 .str [33],.app 35 9 .str 30 34,.m 3 35] [3]) .k)) (.R [.m 36 3,.m 2 36] [2] .e))
def BJ:B_:=⟨[.val .str],[⟨2,false,(.slice .str)⟩],(.R [.mv 2 .z] [0] (.R [.brow 6 9 .str [],.m 3 6] [0,3] (.R [.mv 4 (.i 0)] [0,3,4] (.s (.R [.mv 5 (.i 0)] [0,3,4,5] (.b 0 [0,3,4] (.loop [0,3,4,5] Iu))) FV))))⟩
theorem Qh:CR Tryd.prog 12 BJ=true:=by kernel_rfl
def J8:AF:=(.seqc [0,4,6] (.R [.m 45 5,.m 46 6,.b 47 .lss 45 46] [0,4,5,6,47] (.cond 47 (.r [.m 48 4,.m 49 0,.m 50 5,.m 51 6,.sl 52 0 49 (some 50) (some 51),.blst 53 .str [52],.app 54 9 .str 48 53,.m 4 54] [0,4,6]) .k)) (.r [.m 55 6,.bin 56 .add 55 (.i 1),.m 5 56] [0,4,5,6]))
def J9:AF:=(.s (.R [.m 35 6,.m 36 0,.len 37 true 36,.b 38 .lss 35 37,.m 39 38,.sc 39 true [.m 40 0,.m 41 6,.sidx 42 40 41,.bin 43 .neq 42 (.c (.int .u8 32))] 44 43 .F] [0,4,5,6,44] (.cond 44 (.exit 1) .k)) J8)
def J_:AF:=(.r [.m 16 6,.bin 17 .add 16 (.i 1),.m 6 17] [0,4,5,6])
def Iv:AF:=(.s (.R [.m 12 6,.m 13 0,.len 14 true 13,.b 15 .leq 12 14] [0,4,5,6,15] (.cond 15 .k (.exit 0))) (.s (.b 1 [0,4,5,6] (.s (.R [.m 18 6,.m 19 0,.len 20 true 19,.b 21 .lss 18 20,.m 22 21,.sc 22 true [.m 23 0,.m 24 6,.sidx 25 23 24,.bin 26 .lss 25 (.c (.int .u8 32)),.m 27 26,.sc 27 false [.m 28 0,.m 29 6,.sidx 30 28 29,.bin 31 .gtr 30 (.c (.int .u8 126))] 32 .V 31] 33 32 .F] [0,4,5,6,33] (.cond 33 (.R [.blst 34 .str [],.m 2 34,.mv 3 .F] [2,3] .e) .k)) J9)) J_))
def FW:AF:=(.s (.R [.m 57 4,.len 58 false 57,.bin 59 .gtr 58 (.i 10)] [4,59] (.cond 59 (.R [.blst 60 .str [],.m 2 60,.mv 3 .F] [2,3] .e) .k)) (.R [.m 61 4,.m 2 61,.mv 3 .V] [2,3] .e))
def Aw:B_:=⟨[.val .str],[⟨2,false,(.slice .str)⟩,⟨3,false,.bool⟩],(.R [.mv 2 .z,.mv 3 .F] [0] (.R [.brow 7 9 .str [],.m 4 7] [0,4] (.s (.R [.m 8 0,.len 9 true 8,.bin 10 .gtr 9 (.i 600)] [0,4,10] (.cond 10 (.R [.m 11 4,.m 2 11,.mv 3 .F] [2,3] .e) .k)) (.R [.mv 5 (.i 0)] [0,4,5] (.s (.R [.mv 6 (.i 0)] [0,4,5,6] (.b 0 [4] (.loop [0,4,5,6] Iv))) FW)))))⟩
theorem R7:CR Tryd.prog 13 Aw=true:=by kernel_rfl
def H9:AF:=(.R [.m 27 0,.m 28 5,.m 29 6,.sl 30 0 27 (some 28) (some 29),.cl 31 [30] DH,.m 26 31,.ext 32 26 0,.ext 33 26 1,.m 7 32,.m 8 33] [0,4,6,7,8] (.s (.R [.m 34 8,.un 35 .not 34] [0,4,6,7,35] (.cond 35 (.R [.blst 36 .W [],.m 2 36,.mv 3 .F] [2,3] .e) .k)) (.R [.m 37 4,.m 38 7,.blst 39 .W [38],.app 40 3 .W 37 39,.m 4 40] [0,4,6] (.r [.m 41 6,.bin 42 .add 41 (.i 1),.m 5 42] [0,4,5,6]))))
def H_:AF:=(.r [.m 14 6,.bin 15 .add 14 (.i 1),.m 6 15] [0,4,5,6])
def IA:AF:=(.s (.R [.m 10 6,.m 11 0,.len 12 true 11,.b 13 .leq 10 12] [0,4,5,6,13] (.cond 13 .k (.exit 0))) (.s (.b 1 [0,4,5,6] (.s (.R [.m 16 6,.m 17 0,.len 18 true 17,.b 19 .lss 16 18,.m 20 19,.sc 20 true [.m 21 0,.m 22 6,.sidx 23 21 22,.bin 24 .neq 23 (.c (.int .u8 44))] 25 24 .F] [0,4,5,6,25] (.cond 25 (.exit 1) .k)) H9)) H_))
def HS:AF:=(.R [.m 43 4,.m 2 43,.mv 3 .V] [2,3] .e)
def BD:B_:=⟨[.val .str],[⟨2,false,.S⟩,⟨3,false,.bool⟩],(.R [.mv 2 .z,.mv 3 .F] [0] (.R [.brow 9 3 .W [],.m 4 9] [0,4] (.R [.mv 5 (.i 0)] [0,4,5] (.s (.R [.mv 6 (.i 0)] [0,4,5,6] (.b 0 [4] (.loop [0,4,5,6] IA))) HS))))⟩
theorem Pc:CR Tryd.prog 14 BD=true:=by kernel_rfl
def KA:AF:=(.s (.R [.m 4 3,.m 5 0,.len 6 false 5,.b 7 .lss 4 6] [0,3,7] (.cond 7 .k (.exit 0))) (.s (.b 1 [0,3] (.R [.m 10 0,.m 11 3,.idx 12 1 10 11,.l 13 12,.cl 14 [13] Rx,.un 15 .not 14] [0,3,15] (.cond 15 (.R [.mv 2 .F] [2] .e) .k))) (.r [.m 8 3,.bin 9 .add 8 (.i 1),.m 3 9] [0,3])))
def KB:AF:=(.R [.m 16 0,.len 17 false 16,.cx (some 18) [17,.c (.int .i64 1),.c (.int .i64 9)] EW,.m 2 18] [2] .e)
def B3:B_:=⟨[.val (.slice .S)],[⟨2,false,.bool⟩],(.R [.mv 2 .F] [0] (.s (.R [.mv 3 (.i 0)] [0,3] (.b 0 [0] (.loop [0,3] KA))) KB))⟩
theorem R8:CR Tryd.prog 15 B3=true:=by kernel_rfl
def Iw:AF:=(.cond 21 (.R [.m 23 0,.idx 24 1 23 (.i 1),.l 25 24,.cl 26 [25] DH,.m 22 26,.ext 27 22 0,.ext 28 22 1,.m 4 27,.m 5 28] [0,2,4,5] (.s (.D 11 [(1,[]),(4,[]),(7,[0,3,6]),(8,[]),(9,[7]),(10,[8,9])] (.tk 9 [.m 37 5,.bu 36 AD [(0,1,.c (.int .i64 1)),(1,1,29),(3,1,.c (.int .i64 1)),(4,1,32),(5,1,35)],.l 35 34,.idx 34 1 33 (.i 3),.m 33 0,.l 32 31,.idx 31 1 30 (.i 2),.m 30 0,.m 29 4] (.O 9 (.store 2 36 6 false) false [] (.tk 11 [.m 3 37] .z))) [2,3]) .e)) .k)
def Ix:AF:=(.cond 46 (.R [.m 48 0,.idx 49 1 48 (.i 1),.l 50 49,.cl 51 [50] DH,.m 47 51,.ext 52 47 0,.ext 53 47 1,.m 6 52,.m 7 53] [0,2,6,7] (.R [.m 54 6,.m 55 0,.idx 56 1 55 (.i 2),.l 57 56,.bu 58 AD [(0,1,.c (.int .i64 1)),(1,1,54),(3,1,.c (.int .i64 2)),(4,1,57)],.m 59 7,.store 2 58 6 false,.m 3 59] [2,3] .e)) .k)
def IB:AF:=(.R [.m 81 0,.idx 82 1 81 (.i 1),.l 83 82,.cl 84 [83] DH,.m 80 84,.ext 85 80 0,.ext 86 80 1,.m 10 85,.m 11 86] [2,9,10,11] (.R [.m 87 9,.bin 88 .add (.i 2) 87,.bu 89 AD [(0,1,88),(1,1,.c (.int .i64 1))],.al 12 AD,.store 12 89 6 false] [2,10,11,12] (.seqc [2,11,12] (.R [.f 90 12 0,.l 91 90,.bin 92 .leq 91 (.i 4)] [2,10,11,12,92] (.cond 92 (.r [.m 93 10,.f 94 12 2,.store 94 93 1 false] [2,11,12]) (.r [.m 95 10,.f 96 12 1,.store 96 95 1 false] [2,11,12]))) (.R [.ls 97 12 6,.m 98 11,.store 2 97 6 false,.m 3 98] [2,3] .e))))
def IC:AF:=(.r [.m 65 9,.bin 66 .add 65 (.i 1),.m 9 66] [0,2,8,9])
def ID:AF:=(.s (.R [.m 61 9,.m 62 8,.len 63 false 62,.b 64 .lss 61 63] [0,2,8,9,64] (.cond 64 .k (.exit 0))) (.s (.b 1 [0,2,8,9] (.s (.s (.D 13 [(1,[]),(2,[0,1]),(4,[]),(7,[3,6])] (.tk 9 [.m 75 74,.b 74 .neq 70 73,.l 73 72,.idx 72 1 71 (.i 0),.m 71 0,.l 70 69,.idx 69 1 67 68,.m 68 9,.m 67 8] (.test 75 (.sk 75 false 3 12 79 (.tk 13 [.pick 79 75 .V 78] .z)) (.tg 75 false 12 [.bin 78 .neq 77 (.i 2),.len 77 false 76,.m 76 0] (.tk 13 [.pick 79 75 .V 78] .z)))) [0,2,8,9,79]) (.cond 79 (.exit 1) .k)) IB)) IC))
def IE:AF:=(.R [.bu 99 AD [],.store 2 99 6 false,.mv 3 .F] [2,3] .e)
def IF:AF:=(.R [.brow 60 9 .str [.c (.str ⟨#[100,101,108,105,118,101,114]⟩),.c (.str ⟨#[100,114,111,112]⟩),.c (.str ⟨#[99,111,112,121]⟩),.c (.str ⟨#[97,100,111,112,116]⟩),.c (.str ⟨#[102,97,108,108]⟩)],.m 8 60] [0,2,8] (.s (.R [.mv 9 (.i 0)] [0,2,8,9] (.b 0 [2] (.loop [0,2,8,9] ID))) IE))
def Ez:AF:=(.s (.R [.m 38 0,.idx 39 1 38 (.i 0),.l 40 39,.bin 41 .eql 40 (.c (.str ⟨#[103,101,116]⟩)),.m 42 41,.sc 42 true [.m 43 0,.len 44 false 43,.bin 45 .eql 44 (.i 3)] 46 45 .F] [0,2,46] Ix) IF)
def AR:B_:=⟨[.val (.slice .str)],[⟨2,true,AD⟩,⟨3,false,.bool⟩],(.R [.al 2 AD,.mv 3 .F] [0,2] (.s (.R [.m 13 0,.idx 14 1 13 (.i 0),.l 15 14,.bin 16 .eql 15 (.c (.str ⟨#[112,117,116]⟩)),.m 17 16,.sc 17 true [.m 18 0,.len 19 false 18,.bin 20 .eql 19 (.i 4)] 21 20 .F] [0,2,21] Iw) Ez))⟩
theorem Qi:CR Tryd.prog 16 AR=true:=by kernel_rfl
def KC:AF:=(.s (.R [.f 18 1 0,.l 19 18,.bin 20 .neq 19 (.i 1)] [1,20] (.cond 20 (.R [.f 21 1 3,.l 22 21,.bin 23 .eql 22 (.i 0),.m 24 23,.sc 24 true [.f 25 1 4,.l 26 25,.bin 27 .eql 26 (.c (.str ⟨#[]⟩))] 28 27 .F,.m 29 28,.sc 29 true [.f 30 1 5,.l 31 30,.bin 32 .eql 31 (.c (.str ⟨#[]⟩))] 33 32 .F,.m 2 33] [2] .e) .k)) (.R [.f 34 1 3,.l 35 34,.bin 36 .eql 35 (.i 1),.m 37 36,.sc 37 false [.f 38 1 3,.l 39 38,.bin 40 .eql 39 (.i 2)] 41 .V 40,.m 42 41,.sc 42 true [.f 43 1 4,.l 44 43,.len 45 true 44,.cx (some 46) [45,.c (.int .i64 1),.c (.int .i64 12)] EW] 47 46 .F,.m 48 47,.sc 48 true [.f 49 1 5,.l 50 49,.len 51 true 50,.bin 52 .leq 51 (.i 20)] 53 52 .F,.m 54 53,.sc 54 true [.f 55 1 3,.l 56 55,.bin 57 .eql 56 (.i 1),.m 58 57,.sc 58 false [.f 59 1 5,.l 60 59,.bin 61 .eql 60 (.c (.str ⟨#[]⟩))] 62 .V 61] 63 62 .F,.m 2 63] [2] .e))
def C8:B_:=⟨[.val AD],[⟨2,false,.bool⟩],(.R [.box 1 0 false,.mv 2 .F] [1] (.s (.R [.f 3 1 0,.l 4 3,.cx (some 5) [4,.c (.int .i64 1),.c (.int .i64 6)] EW,.un 6 .not 5,.m 7 6,.sc 7 false [.f 8 1 1,.l 9 8,.cx (some 10) [9,.c (.int .i64 1),.c (.int .i64 6)] EW,.un 11 .not 10] 12 .V 11,.m 13 12,.sc 13 false [.f 14 1 2,.l 15 14,.bin 16 .lss 15 (.i 0)] 17 .V 16] [1,17] (.cond 17 (.R [.mv 2 .F] [2] .e) .k)) KC))⟩
theorem R9:CR Tryd.prog 17 C8=true:=by kernel_rfl
def Gt:AF:=(.s (.R [.m 25 5,.idx 26 1 25 (.i 0),.l 27 26,.bin 28 .eql 27 (.c (.str ⟨#[118,105,101,119]⟩))] [0,5,28] (.cond 28 (.R [.m 29 0,.m 30 5,.cl 31 [29,30] M8,.m 4 31] [4] .e) .k)) (.R [.m 33 5,.cl 34 [33] Rz,.m 32 34,.ext 35 32 0,.ext 36 32 1,.al 7 AD,.store 7 35 6 false,.m 8 36] [0,7,8] (.s (.D 11 [(1,[]),(5,[]),(7,[4,6]),(8,[0,7])] (.tk 6 [.ls 42 7 6,.l 41 40,.f 40 39 1,.n 39 38,.m 38 0,.m 37 0] (.O 6 (.blst 43 AD [42]) false [] (.O 7 (.app 44 40 AD 41 43) false [] (.tk 10 [.f 46 45 1,.n 45 37] (.O 10 (.store 46 44 1 false) false [] .z))))) [0,8]) (.R [.m 47 8,.m 48 47,.sc 48 true [.m 49 0,.n 50 49,.f 51 50 0,.l 52 51,.len 53 false 52,.bin 54 .gtr 53 (.i 0)] 55 54 .F,.m 56 55,.sc 56 true [.m 57 0,.n 58 57,.f 59 58 1,.l 60 59,.len 61 false 60,.bin 62 .leq 61 (.i 70)] 63 62 .F,.m 4 63] [4] .e))))
def Bo:B_:=⟨[.ptr FT,.val .str],[⟨4,false,.bool⟩],(.R [.mv 4 .F] [0,1] (.R [.m 10 1,.cl 11 [10] Ry,.m 9 11,.ext 12 9 0,.ext 13 9 1,.m 5 12,.m 6 13] [0,5,6] (.s (.R [.m 14 6,.un 15 .not 14] [0,5,15] (.cond 15 (.R [.mv 4 .F] [4] .e) .k)) (.s (.R [.m 16 5,.len 17 false 16,.bin 18 .eql 17 (.i 0),.m 19 18,.sc 19 false [.m 20 5,.idx 21 1 20 (.i 0),.l 22 21,.cx (some 23) [22,.c (.str ⟨#[35]⟩)] MT] 24 .V 23] [0,5,24] (.cond 24 (.R [.mv 4 .V] [4] .e) .k)) Gt))))⟩
theorem M9:CR Tryd.prog 19 Bo=true:=by kernel_rfl
def K6:AF:=(.s (.R [.m 11 5,.m 12 0,.len 13 false 12,.b 14 .lss 11 13] [0,1,5,14] (.cond 14 .k (.exit 0))) (.s (.b 1 [0,1,5] (.s (.D 9 [(1,[]),(2,[0,1]),(4,[]),(5,[]),(6,[4,5]),(8,[3,7])] (.tk 9 [.b 25 .neq 20 24,.l 24 23,.idx 23 1 21 22,.m 22 5,.m 21 1,.l 20 19,.idx 19 1 17 18,.m 18 5,.m 17 0] .z) [0,1,5,25]) (.cond 25 (.R [.mv 4 .F] [4] .e) .k))) (.r [.m 15 5,.bin 16 .add 15 (.i 1),.m 5 16] [0,1,5])))
def K7:AF:=(.R [.mv 4 .V] [4] .e)
def CG:B_:=⟨[.val .S,.val .S],[⟨4,false,.bool⟩],(.R [.mv 4 .F] [0,1] (.s (.R [.m 6 0,.len 7 false 6,.m 8 1,.len 9 false 8,.b 10 .neq 7 9] [0,1,10] (.cond 10 (.R [.mv 4 .F] [4] .e) .k)) (.s (.R [.mv 5 (.i 0)] [0,1,5] (.b 0 [] (.loop [0,1,5] K6))) K7)))⟩
theorem Sv:CR Tryd.prog 20 CG=true:=by kernel_rfl
def FX:B_:=⟨[.val AD,.val AD],[⟨4,false,.bool⟩],(.R [.box 2 0 false,.box 3 1 false,.mv 4 .F] [2,3] (.s (.R [.f 5 2 0,.l 6 5,.f 7 3 0,.l 8 7,.b 9 .neq 6 8] [2,3,9] (.cond 9 (.R [.mv 4 .F] [4] .e) .k)) (.s (.R [.f 10 2 1,.l 11 10,.f 12 3 1,.l 13 12,.b 14 .neq 11 13] [2,3,14] (.cond 14 (.R [.mv 4 .F] [4] .e) .k)) (.s (.R [.f 15 2 2,.l 16 15,.f 17 3 2,.l 18 17,.b 19 .neq 16 18] [2,3,19] (.cond 19 (.R [.mv 4 .F] [4] .e) .k)) (.s (.R [.f 20 2 3,.l 21 20,.f 22 3 3,.l 23 22,.b 24 .neq 21 23] [2,3,24] (.cond 24 (.R [.mv 4 .F] [4] .e) .k)) (.s (.R [.f 25 2 4,.l 26 25,.f 27 3 4,.l 28 27,.b 29 .neq 26 28] [2,3,29] (.cond 29 (.R [.mv 4 .F] [4] .e) .k)) (.s (.R [.f 30 2 5,.l 31 30,.f 32 3 5,.l 33 32,.b 34 .neq 31 33] [34] (.cond 34 (.R [.mv 4 .F] [4] .e) .k)) (.R [.mv 4 .V] [4] .e))))))))⟩
theorem R_:CR Tryd.prog 21 FX=true:=by kernel_rfl
def Iy:AF:=(.s (.R [.m 6 5,.m 7 0,.len 8 false 7,.b 9 .lss 6 8] [0,1,5,9] (.cond 9 .k (.exit 0))) (.s (.b 1 [0,1,5] (.R [.m 12 0,.m 13 5,.m 14 1,.idx 15 1 12 13,.store 15 14 1 false] [0,1,5] (.r [.m 16 1,.bin 17 .add 16 (.i 1),.m 1 17] [0,1,5]))) (.r [.m 10 5,.bin 11 .add 10 (.i 1),.m 5 11] [0,1,5])))
def Iz:AF:=(.R [.m 18 1,.m 4 18] [4] .e)
def Bd:B_:=⟨[.mut (.own 3 .W),.val .W],[⟨4,false,.W⟩],(.R [.mv 4 (.i 0)] [0,1] (.s (.R [.mv 5 (.i 0)] [0,1,5] (.b 0 [1] (.loop [0,1,5] Iy))) Iz))⟩
theorem Qj:CR Tryd.prog 22 Bd=true:=by kernel_rfl
def I0:AF:=(.s (.R [.m 6 0,.bin 7 .gtr 6 (.i 0)] [0,3,7] (.cond 7 .k (.exit 0))) (.b 1 [0,3] (.R [.m 8 0,.bin 9 .rem 8 (.i 10),.bin 10 .add (.i 48) 9,.cvi 11 .u8 10,.brow 12 5 (.int .u8) [11],.bts 13 12,.m 14 3,.b 15 .add 13 14,.m 3 15] [0,3] (.r [.m 16 0,.bin 17 .quo 16 (.i 10),.m 0 17] [0,3]))))
def I1:AF:=(.R [.m 18 3,.bin 19 .add (.c (.str ⟨#[109]⟩)) 18,.m 2 19] [2] .e)
def Be:B_:=⟨[.val .W],[⟨2,false,.str⟩],(.R [.mv 2 (.c (.str ⟨#[]⟩))] [0] (.s (.R [.m 4 0,.bin 5 .leq 4 (.i 0)] [0,5] (.cond 5 (.R [.mv 2 (.c (.str ⟨#[109,48]⟩))] [2] .e) .k)) (.R [.mv 3 (.c (.str ⟨#[]⟩))] [0,3] (.s (.b 0 [3] (.loop [0,3] I0)) I1))))⟩
theorem Qk:CR Tryd.prog 23 Be=true:=by kernel_rfl
def I2:AF:=(.s (.R [.m 6 5,.m 7 0,.len 8 false 7,.b 9 .lss 6 8] [0,1,5,9] (.cond 9 .k (.exit 0))) (.s (.b 1 [0,1,5] (.s (.R [.m 12 0,.m 13 5,.idx 14 1 12 13,.l 15 14,.m 16 1,.b 17 .neq 15 16] [0,1,5,17] (.cond 17 (.R [.mv 4 (.c (.int .i64 (-1)))] [4] .e) .k)) (.r [.m 18 1,.bin 19 .add 18 (.i 1),.m 1 19] [0,1,5]))) (.r [.m 10 5,.bin 11 .add 10 (.i 1),.m 5 11] [0,1,5])))
def I3:AF:=(.R [.m 20 1,.m 4 20] [4] .e)
def Bf:B_:=⟨[.val .S,.val .W],[⟨4,false,.W⟩],(.R [.mv 4 (.i 0)] [0,1] (.s (.R [.mv 5 (.i 0)] [0,1,5] (.b 0 [1] (.loop [0,1,5] I2))) I3))⟩
theorem Ql:CR Tryd.prog 24 Bf=true:=by kernel_rfl
def Gu:AF:=(.s (.R [.m 9 5,.m 10 0,.len 11 true 10,.b 12 .lss 9 11] [0,4,5,12] (.cond 12 .k (.exit 0))) (.s (.b 1 [0,4,5] (.s (.R [.m 15 0,.m 16 5,.sidx 17 15 16,.bin 18 .lss 17 (.c (.int .u8 48)),.m 19 18,.sc 19 false [.m 20 0,.m 21 5,.sidx 22 20 21,.bin 23 .gtr 22 (.c (.int .u8 57))] 24 .V 23] [0,4,5,24] (.cond 24 (.R [.mv 2 (.i 0),.mv 3 .F] [2,3] .e) .k)) (.r [.m 25 4,.bin 26 .mul (.i 10) 25,.m 27 0,.m 28 5,.sidx 29 27 28,.cvi 30 .i64 29,.b 31 .add 26 30,.bin 32 .sub 31 (.i 48),.m 4 32] [0,4,5]))) (.r [.m 13 5,.bin 14 .add 13 (.i 1),.m 5 14] [0,4,5])))
def Dc:AF:=(.s (.R [.m 33 4,.bin 34 .gtr 33 (.i 1000000000),.m 35 34,.sc 35 false [.m 36 4,.cl 37 [36] R0,.m 38 0,.b 39 .neq 37 38] 40 .V 39] [4,40] (.cond 40 (.R [.mv 2 (.i 0),.mv 3 .F] [2,3] .e) .k)) (.R [.m 41 4,.m 2 41,.mv 3 .V] [2,3] .e))
def Ar:B_:=⟨[.val .str],[⟨2,false,.W⟩,⟨3,false,.bool⟩],(.R [.mv 2 (.i 0),.mv 3 .F] [0] (.s (.R [.m 6 0,.len 7 true 6,.bin 8 .gtr 7 (.i 10)] [0,8] (.cond 8 (.R [.mv 2 (.i 0),.mv 3 .F] [2,3] .e) .k)) (.R [.mv 4 (.i 0)] [0,4] (.s (.R [.mv 5 (.i 0)] [0,4,5] (.b 0 [0,4] (.loop [0,4,5] Gu))) Dc))))⟩
theorem M_:CR Tryd.prog 25 Ar=true:=by kernel_rfl
def KD:AF:=(.s (.R [.m 8 3,.m 9 0,.len 10 false 9,.b 11 .lss 8 10] [0,3,11] (.cond 11 .k (.exit 0))) (.s (.b 1 [0,3] (.s (.D 16 [(1,[]),(2,[0,1]),(8,[6]),(9,[7,8]),(10,[6]),(11,[6]),(12,[10,11]),(14,[9,13])] (.tk 4 [.l 17 16,.idx 16 1 14 15,.m 15 3,.m 14 0] (.O 4 (.cx (some 18) [17,.c (.int .i64 1),.c (.int .i64 6)] EW) false [] (.tk 7 [.m 20 19,.un 19 .not 18] (.test 20 (.sk 20 false 8 15 29 (.tk 16 [.pick 29 20 .V 28] .z)) (.tg 20 false 14 [.l 27 26,.idx 26 1 24 25,.m 25 3,.m 24 0,.sl 23 1 21 none (some 22),.m 22 3,.m 21 0] (.only 14 (some (20,false)) (.cl 28 [23,27] Ty) false [] (.tk 16 [.pick 29 20 .V 28] .z))))))) [0,3,29]) (.cond 29 (.R [.mv 2 .F] [2] .e) .k))) (.r [.m 12 3,.bin 13 .add 12 (.i 1),.m 3 13] [0,3])))
def KE:AF:=(.R [.mv 2 .V] [2] .e)
def B4:B_:=⟨[.val .S],[⟨2,false,.bool⟩],(.R [.mv 2 .F] [0] (.s (.R [.m 4 0,.len 5 false 4,.cx (some 6) [5,.c (.int .i64 1),.c (.int .i64 4)] EW,.un 7 .not 6] [0,7] (.cond 7 (.R [.mv 2 .F] [2] .e) .k)) (.s (.R [.mv 3 (.i 0)] [0,3] (.b 0 [] (.loop [0,3] KD))) KE)))⟩
theorem SA:CR Tryd.prog 26 B4=true:=by kernel_rfl
def Hf:B_:=⟨[.val .W,.val .W,.val .W],[⟨6,false,.bool⟩],(.R [.mv 6 .F] [0,1,2] (.R [.m 7 0,.m 8 1,.b 9 .geq 7 8,.m 10 9,.sc 10 true [.m 11 0,.m 12 2,.b 13 .leq 11 12] 14 13 .F,.m 6 14] [6] .e))⟩
theorem T1:CR Tryd.prog 27 Hf=true:=by kernel_rfl
def KF:AF:=(.s (.R [.m 11 4,.m 12 0,.len 13 true 12,.b 14 .lss 11 13] [0,4,14] (.cond 14 .k (.exit 0))) (.s (.b 1 [0,4] (.R [.m 17 0,.m 18 4,.sidx 19 17 18,.bin 20 .lss 19 (.c (.int .u8 32)),.m 21 20,.sc 21 false [.m 22 0,.m 23 4,.sidx 24 22 23,.bin 25 .gtr 24 (.c (.int .u8 126))] 26 .V 25] [0,4,26] (.cond 26 (.R [.mv 2 .z,.mv 3 .F] [2,3] .e) .k))) (.r [.m 15 4,.bin 16 .add 15 (.i 1),.m 4 16] [0,4])))
def I4:AF:=(.R [.b 31 .lss 30 29] [5,28,29,30,31] (.s (.cond 31 .k (.exit 2)) (.s (.b 3 [5,28,29,30] (.R [.idx 32 1 28 30,.l 33 32,.m 7 33] [5,7,28,29,30] (.R [.m 34 7,.bin 35 .neq 34 (.c (.str ⟨#[]⟩))] [5,7,28,29,30,35] (.cond 35 (.r [.m 36 5,.m 37 7,.blst 38 .str [37],.app 39 9 .str 36 38,.m 5 39] [5,28,29,30]) .k)))) (.r [.bin 40 .add 30 (.i 1),.m 30 40] [5,28,29,30]))))
def FY:AF:=(.s (.R [.m 41 5,.len 42 false 41,.bin 43 .gtr 42 (.i 10)] [5,43] (.cond 43 (.R [.mv 2 .z,.mv 3 .F] [2,3] .e) .k)) (.R [.m 44 5,.m 2 44,.mv 3 .V] [2,3] .e))
def FZ:AF:=(.R [.nilrow 5 9 .str] [0,5] (.s (.R [.m 27 0,.cx (some 28) [27,.c (.str ⟨#[32]⟩)] HH,.len 29 false 28,.mv 30 (.i 0)] [5,28,29,30] (.b 2 [5] (.loop [5,28,29,30] I4))) FY))
def Ab:B_:=⟨[.val .str],[⟨2,false,(.slice .str)⟩,⟨3,false,.bool⟩],(.R [.mv 2 .z,.mv 3 .F] [0] (.s (.R [.m 8 0,.len 9 true 8,.bin 10 .gtr 9 (.i 600)] [0,10] (.cond 10 (.R [.mv 2 .z,.mv 3 .F] [2,3] .e) .k)) (.s (.R [.mv 4 (.i 0)] [0,4] (.b 0 [0] (.loop [0,4] KF))) FZ)))⟩
theorem SB:CR Tryd.prog 29 Ab=true:=by kernel_rfl
def C0:B_:=⟨[.val .str,.val .str],[⟨4,false,.bool⟩],(.R [.mv 4 .F] [0,1] (.R [.m 5 0,.m 6 1,.cl 7 [5,6] FU,.m 4 7] [4] .e))⟩
theorem MU:CR Tryd.prog 30 C0=true:=by kernel_rfl
def Gv:AF:=(.R [.m 19 1,.idx 20 1 19 (.i 1),.l 21 20,.cl 22 [21] Ss,.m 18 22,.ext 23 18 0,.ext 24 18 1,.m 5 23,.m 6 24] [0,5,6] (.R [.m 25 0,.m 26 0,.n 27 26,.f 28 27 0,.l 29 28,.m 30 5,.brow 31 35 (.own 3 .W) [30],.app 32 35 (.own 3 .W) 29 31,.n 33 25,.f 34 33 0,.store 34 32 1 false] [0,6] (.R [.m 35 6,.m 36 35,.sc 36 true [.m 37 0,.n 38 37,.f 39 38 0,.l 40 39,.cl 41 [40] R1] 42 41 .F,.m 4 42] [4] .e)))
def Bp:B_:=⟨[.ptr FT,.val (.slice .str)],[⟨4,false,.bool⟩],(.R [.mv 4 .F] [0,1] (.s (.R [.m 7 1,.len 8 false 7,.bin 9 .neq 8 (.i 2),.m 10 9,.sc 10 false [.m 11 0,.n 12 11,.f 13 12 1,.l 14 13,.len 15 false 14,.bin 16 .gtr 15 (.i 0)] 17 .V 16] [0,1,17] (.cond 17 (.R [.mv 4 .F] [4] .e) .k)) Gv))⟩
theorem NA:CR Tryd.prog 31 Bp=true:=by kernel_rfl
def KG:AF:=(.cond 36 (.r [.m 40 6,.f 41 8 1,.store 41 (.i 1) 1 false,.f 42 8 2,.store 42 40 1 false] [2,7,8]) (.R [.bin 44 .eql 35 (.i 1),.m 43 44] [0,2,5,7,8,43] (.cond 43 (.s (.D 7 [(3,[]),(5,[2,4])] (.tk 4 [.f 48 8 3,.l 47 46,.idx 46 1 45 (.i 2),.m 45 0] (.O 4 (.store 48 (.i 2) 1 false) false [] (.tk 6 [.f 49 8 4] (.O 6 (.store 49 47 1 false) false [] .z)))) [0,2,5,7,8]) (.R [.m 50 5,.bin 51 .eql 50 (.i 4)] [0,2,7,8,51] (.cond 51 (.D 7 [(3,[]),(5,[2,4])] (.tk 4 [.f 55 8 3,.l 54 53,.idx 53 1 52 (.i 3),.m 52 0] (.O 4 (.store 55 (.i 1) 1 false) false [] (.tk 6 [.f 56 8 5] (.O 6 (.store 56 54 1 false) false [] .z)))) [2,7,8]) .k))) .k)))
def KH:DT:=(.tk 6 [.pick 62 59 61 .F] (.O 6 (.store 2 57 6 false) false [] (.tk 8 [.m 3 62] .z)))
def GI:AF:=(.s (.D 8 [(1,[]),(6,[0,4]),(7,[5,6])] (.tk 3 [.m 59 58,.m 58 7,.ls 57 8 6] (.test 59 (.tg 59 true 4 [.ls 60 8 6] (.only 4 (some (59,true)) (.cl 61 [60] R2) false [] KH)) (.sk 59 true 2 5 62 KH))) [2,3]) .e)
def I5:AF:=(.R [.m 26 0,.idx 27 1 26 (.i 1),.l 28 27,.cl 29 [28] Hz,.m 25 29,.ext 30 25 0,.ext 31 25 1,.m 6 30,.m 7 31] [0,2,4,5,6,7] (.R [.m 32 4,.m 33 6,.bu 34 AD [(0,1,32),(1,1,33)],.al 8 AD,.store 8 34 6 false] [0,2,4,5,6,7,8] (.s (.R [.m 35 4] [0,2,5,6,7,8,35] (.b 0 [2,7,8] (.seqc [0,2,5,6,7,8,35,36] (.R [.bin 37 .eql 35 (.i 2),.m 36 37] [0,2,5,6,7,8,35,36] (.cond 36 .k (.R [.bin 38 .eql 35 (.i 3),.m 36 38] [0,2,5,6,7,8,35,36] (.cond 36 .k (.r [.bin 39 .eql 35 (.i 4),.m 36 39] [0,2,5,6,7,8,35,36]))))) KG))) GI)))
def BI:B_:=⟨[.val (.slice .str)],[⟨2,true,AD⟩,⟨3,false,.bool⟩],(.R [.al 2 AD,.mv 3 .F] [0,2] (.R [.m 10 0,.idx 11 1 10 (.i 0),.l 12 11,.cl 13 [12] Su,.m 9 13,.ext 14 9 0,.ext 15 9 1,.m 4 14,.m 5 15] [0,2,4,5] (.s (.R [.m 16 4,.bin 17 .eql 16 (.i 0),.m 18 17,.sc 18 false [.m 19 0,.len 20 false 19,.m 21 5,.b 22 .neq 20 21] 23 .V 22] [0,2,4,5,23] (.cond 23 (.R [.bu 24 AD [],.store 2 24 6 false,.mv 3 .F] [2,3] .e) .k)) I5)))⟩
theorem SC:CR Tryd.prog 32 BI=true:=by kernel_rfl
def KI:AF:=(.R [.m 18 5,.cl 19 [18] PY,.brow 20 5 (.int .u8) [19],.bts 21 20,.m 22 4,.b 23 .add 21 22,.m 4 23] [0,3,4] (.r [.m 24 0,.bin 25 .quo 24 (.i 10),.m 0 25] [0,3,4]))
def KJ:AF:=(.s (.R [.m 10 0,.bin 11 .neq 10 (.i 0)] [0,3,4,11] (.cond 11 .k (.exit 0))) (.b 1 [0,3,4] (.R [.m 12 0,.bin 13 .rem 12 (.i 10),.m 5 13] [0,3,4,5] (.seqc [0,3,4,5] (.R [.m 14 5,.bin 15 .lss 14 (.i 0)] [0,3,4,5,15] (.cond 15 (.r [.m 16 5,.un 17 .neg 16,.m 5 17] [0,3,4,5]) .k)) KI))))
def I6:AF:=(.s (.R [.m 26 3] [4,26] (.cond 26 (.R [.m 27 4,.bin 28 .add (.c (.str ⟨#[45]⟩)) 27,.m 2 28] [2] .e) .k)) (.R [.m 29 4,.m 2 29] [2] .e))
def BW:B_:=⟨[.val .W],[⟨2,false,.str⟩],(.R [.mv 2 (.c (.str ⟨#[]⟩))] [0] (.s (.R [.m 6 0,.bin 7 .eql 6 (.i 0)] [0,7] (.cond 7 (.R [.mv 2 (.c (.str ⟨#[48]⟩))] [2] .e) .k)) (.R [.m 8 0,.bin 9 .lss 8 (.i 0),.m 3 9] [0,3] (.R [.mv 4 (.c (.str ⟨#[]⟩))] [0,3,4] (.s (.b 0 [3,4] (.loop [0,3,4] KJ)) I6)))))⟩
theorem SD:CR Tryd.prog 33 BW=true:=by kernel_rfl
def Lc:AF:=(.s (.R [.m 6 5,.m 7 0,.len 8 false 7,.b 9 .lss 6 8] [0,1,5,9] (.cond 9 .k (.exit 0))) (.s (.b 1 [0,1,5] (.R [.m 12 0,.m 13 5,.idx 14 1 12 13,.l 15 14,.m 16 1,.b 17 .eql 15 16] [0,1,5,17] (.cond 17 (.R [.mv 4 .V] [4] .e) .k))) (.r [.m 10 5,.bin 11 .add 10 (.i 1),.m 5 11] [0,1,5])))
def Ld:AF:=(.R [.mv 4 .F] [4] .e)
def Cl:B_:=⟨[.val .S,.val .W],[⟨4,false,.bool⟩],(.R [.mv 4 .F] [0,1] (.s (.R [.mv 5 (.i 0)] [0,1,5] (.b 0 [] (.loop [0,1,5] Lc))) Ld))⟩
theorem T2:CR Tryd.prog 34 Cl=true:=by kernel_rfl
def BF:B_:=⟨[.val .str,.val .str],[⟨4,false,.bool⟩],(.R [.mv 4 .F] [0,1] (.R [.m 5 0,.len 6 true 5,.m 7 1,.len 8 true 7,.b 9 .geq 6 8,.m 10 9,.sc 10 true [.m 11 0,.m 12 1,.len 13 true 12,.sl 14 0 11 none (some 13),.m 15 1,.b 16 .eql 14 15] 17 16 .F,.m 4 17] [4] .e))⟩
theorem Fa:CR Tryd.prog 38 BF=true:=by kernel_rfl
def K8:AF:=(.R [.b 13 .lss 12 11] [4,10,11,12,13] (.s (.cond 13 .k (.exit 0)) (.s (.b 1 [4,10,11,12] (.R [.idx 14 1 10 12,.l 15 14,.m 6 15] [4,6,10,11,12] (.R [.m 17 6,.cl 18 [17] Hz,.m 16 18,.ext 19 16 0,.ext 20 16 1,.m 7 19,.m 8 20] [4,7,8,10,11,12] (.s (.R [.m 21 8,.un 22 .not 21] [4,7,10,11,12,22] (.cond 22 (.R [.nilrow 2 3 .W,.mv 3 .F] [2,3] .e) .k)) (.r [.m 23 4,.m 24 7,.blst 25 .W [24],.app 26 3 .W 23 25,.m 4 26] [4,10,11,12]))))) (.r [.bin 27 .add 12 (.i 1),.m 12 27] [4,10,11,12]))))
def K9:AF:=(.R [.m 28 4,.m 2 28,.mv 3 .V] [2,3] .e)
def CH:B_:=⟨[.val .str],[⟨2,false,(.own 3 .W)⟩,⟨3,false,.bool⟩],(.R [.nilrow 2 3 .W,.mv 3 .F] [0] (.R [.nilrow 4 3 .W] [0,4] (.s (.R [.m 9 0,.cx (some 10) [9,.c (.str ⟨#[44]⟩)] HH,.len 11 false 10,.mv 12 (.i 0)] [4,10,11,12] (.b 0 [4] (.loop [4,10,11,12] K8))) K9)))⟩
theorem Sw:CR Tryd.prog 39 CH=true:=by kernel_rfl
def KK:AF:=(.R [.b 16 .lss 15 14] [0,4,7,8,9,13,14,15,16] (.s (.cond 16 .k (.exit 2)) (.s (.b 3 [0,4,7,8,9,13,14,15] (.R [.m 17 15,.idx 18 1 13 15,.l 19 18,.m 5 17,.m 6 19] [0,4,5,6,7,8,9,13,14,15] (.R [.m 20 6,.cl 21 [20] Ms,.un 22 .not 21,.m 23 22,.sc 23 false [.m 24 4,.m 25 6,.cl 26 [24,25] Ko,.m 27 5,.b 28 .neq 26 27] 29 .V 28] [0,4,7,8,9,13,14,15,29] (.cond 29 (.R [.mv 2 .F] [2] .e) .k)))) (.r [.bin 30 .add 15 (.i 1),.m 15 30] [0,4,7,8,9,13,14,15]))))
def GJ:AF:=(.R [.m 31 4,.len 32 false 31,.cx (some 33) [32,.c (.int .i64 1),.c (.int .i64 4)] CS,.un 34 .not 33] [0,7,8,9,34] (.cond 34 (.R [.mv 2 .F] [2] .e) .k))
def I7:AF:=(.r [.bin 35 .add 9 (.i 1),.m 9 35] [0,7,8,9])
def I8:AF:=(.R [.b 10 .lss 9 8] [0,7,8,9,10] (.s (.cond 10 .k (.exit 0)) (.s (.b 1 [0,7,8,9] (.R [.idx 11 1 7 9,.l 12 11,.m 4 12] [0,4,7,8,9] (.s (.R [.m 13 4,.len 14 false 13,.mv 15 (.i 0)] [0,4,7,8,9,13,14,15] (.b 2 [0,4,7,8,9] (.loop [0,4,7,8,9,13,14,15] KK))) GJ))) I7)))
def I9:AF:=(.R [.m 36 0,.len 37 false 36,.cx (some 38) [37,.c (.int .i64 1),.c (.int .i64 9)] CS,.m 2 38] [2] .e)
def Ax:B_:=⟨[.val (.slice .S)],[⟨2,false,.bool⟩],(.R [.mv 2 .F] [0] (.s (.R [.m 7 0,.len 8 false 7,.mv 9 (.i 0)] [0,7,8,9] (.b 0 [0] (.loop [0,7,8,9] I8))) I9))⟩
theorem SE:CR Tryd.prog 40 Ax=true:=by kernel_rfl
def GV:B_:=⟨[.val .str],[⟨2,false,.W⟩,⟨3,false,.W⟩],(.R [.mv 2 (.i 0),.mv 3 (.i 0)] [0] (.s (.R [.m 4 0] [4] (.b 0 [] (.R [.bin 6 .eql 4 (.c (.str ⟨#[112,117,116]⟩)),.m 5 6] [4,5] (.cond 5 (.R [.mv 2 (.i 1),.mv 3 (.i 4)] [2,3] .e) (.R [.bin 8 .eql 4 (.c (.str ⟨#[103,101,116]⟩)),.m 7 8] [4,7] (.cond 7 (.R [.mv 2 (.i 1),.mv 3 (.i 3)] [2,3] .e) (.R [.bin 10 .eql 4 (.c (.str ⟨#[100,101,108,105,118,101,114]⟩)),.m 9 10] [4,9] (.cond 9 (.R [.mv 2 (.i 2),.mv 3 (.i 2)] [2,3] .e) (.R [.bin 12 .eql 4 (.c (.str ⟨#[100,114,111,112]⟩)),.m 11 12] [4,11] (.cond 11 (.R [.mv 2 (.i 3),.mv 3 (.i 2)] [2,3] .e) (.R [.bin 14 .eql 4 (.c (.str ⟨#[99,111,112,121]⟩)),.m 13 14] [4,13] (.cond 13 (.R [.mv 2 (.i 4),.mv 3 (.i 2)] [2,3] .e) (.R [.bin 16 .eql 4 (.c (.str ⟨#[97,100,111,112,116]⟩)),.m 15 16] [4,15] (.cond 15 (.R [.mv 2 (.i 5),.mv 3 (.i 2)] [2,3] .e) (.R [.bin 18 .eql 4 (.c (.str ⟨#[102,97,108,108]⟩)),.m 17 18] [17] (.cond 17 (.R [.mv 2 (.i 6),.mv 3 (.i 2)] [2,3] .e) .k)))))))))))))))) (.R [.mv 2 (.i 0),.mv 3 (.i 0)] [2,3] .e)))⟩
theorem Sx:CR Tryd.prog 41 GV=true:=by kernel_rfl

def Gw:AF:=(.s (.R [.m 14 5,.m 15 0,.len 16 true 15,.b 17 .lss 14 16] [0,4,5,17] (.cond 17 .k (.exit 0))) (.s (.b 1 [0,4,5] (.s (.R [.m 20 0,.m 21 5,.sidx 22 20 21,.bin 23 .lss 22 (.c (.int .u8 48)),.m 24 23,.sc 24 false [.m 25 0,.m 26 5,.sidx 27 25 26,.bin 28 .gtr 27 (.c (.int .u8 57))] 29 .V 28] [0,4,5,29] (.cond 29 (.R [.mv 2 (.i 0),.mv 3 .F] [2,3] .e) .k)) (.r [.m 30 4,.bin 31 .mul 30 (.i 10),.m 32 0,.m 33 5,.sidx 34 32 33,.bin 35 .sub 34 (.c (.int .u8 48)),.cvi 36 .i64 35,.b 37 .add 31 36,.m 4 37] [0,4,5]))) (.r [.m 18 5,.bin 19 .add 18 (.i 1),.m 5 19] [0,4,5])))
def Dd:AF:=(.s (.R [.m 38 4,.bin 39 .gtr 38 (.i 1000000000),.m 40 39,.sc 40 false [.m 41 4,.cl 42 [41] R3,.m 43 0,.b 44 .neq 42 43] 45 .V 44] [4,45] (.cond 45 (.R [.mv 2 (.i 0),.mv 3 .F] [2,3] .e) .k)) (.R [.m 46 4,.m 2 46,.mv 3 .V] [2,3] .e))
def F3:AF:=(.R [.mv 4 (.i 0)] [0,4] (.s (.R [.mv 5 (.i 0)] [0,4,5] (.b 0 [0,4] (.loop [0,4,5] Gw))) Dd))
def Aa:B_:=⟨[.val .str],[⟨2,false,.W⟩,⟨3,false,.bool⟩],(.R [.mv 2 (.i 0),.mv 3 .F] [0] (.s (.R [.m 6 0,.len 7 true 6,.bin 8 .eql 7 (.i 0),.m 9 8,.sc 9 false [.m 10 0,.len 11 true 10,.bin 12 .gtr 11 (.i 10)] 13 .V 12] [0,13] (.cond 13 (.R [.mv 2 (.i 0),.mv 3 .F] [2,3] .e) .k)) F3))⟩
theorem NB:CR Tryd.prog 42 Aa=true:=by kernel_rfl
def KL:AF:=(.s (.R [.f 18 1 0,.l 19 18,.bin 20 .eql 19 (.i 1)] [1,20] (.cond 20 (.R [.f 21 1 3,.l 22 21,.f 23 1 4,.l 24 23,.f 25 1 5,.l 26 25,.cx (some 27) [22,.c (.int .i64 0),24,26] Tz,.m 2 27] [2] .e) .k)) (.R [.f 28 1 3,.l 29 28,.bin 30 .eql 29 (.i 0),.m 31 30,.sc 31 true [.f 32 1 4,.l 33 32,.bin 34 .eql 33 (.c (.str ⟨#[]⟩))] 35 34 .F,.m 36 35,.sc 36 true [.f 37 1 5,.l 38 37,.bin 39 .eql 38 (.c (.str ⟨#[]⟩))] 40 39 .F,.m 2 40] [2] .e))
def C9:B_:=⟨[.val AD],[⟨2,false,.bool⟩],(.R [.box 1 0 false,.mv 2 .F] [1] (.s (.R [.f 3 1 0,.l 4 3,.cx (some 5) [4,.c (.int .i64 1),.c (.int .i64 6)] CS,.un 6 .not 5,.m 7 6,.sc 7 false [.f 8 1 1,.l 9 8,.cl 10 [9] Ms,.un 11 .not 10] 12 .V 11,.m 13 12,.sc 13 false [.f 14 1 2,.l 15 14,.bin 16 .lss 15 (.i 0)] 17 .V 16] [1,17] (.cond 17 (.R [.mv 2 .F] [2] .e) .k)) KL))⟩
theorem SF:CR Tryd.prog 43 C9=true:=by kernel_rfl
def EX:B_:=⟨[.val .W],[⟨2,false,(.int .u8)⟩],(.R [.mv 2 (.c (.int .u8 0))] [0] (.s (.R [.m 3 0,.bin 4 .lss 3 (.i 10)] [0,4] (.cond 4 (.R [.m 5 0,.bin 6 .add (.i 48) 5,.cvi 7 .u8 6,.m 2 7] [2] .e) .k)) (.R [.m 8 0,.bin 9 .add (.i 97) 8,.bin 10 .sub 9 (.i 10),.cvi 11 .u8 10,.m 2 11] [2] .e)))⟩
theorem Pd:CR Tryd.prog 44 EX=true:=by kernel_rfl
def GW:B_:=⟨[.val .W],[⟨2,false,.bool⟩],(.R [.mv 2 .F] [0] (.R [.m 3 0,.cx (some 4) [3,.c (.int .i64 1),.c (.int .i64 6)] CS,.m 2 4] [2] .e))⟩
theorem Sy:CR Tryd.prog 49 GW=true:=by kernel_rfl
def El:AF:=(.R [.b 9 .lss 8 7] [0,1,7,8,9] (.s (.cond 9 .k (.exit 0)) (.s (.b 1 [0,1,7,8] (.R [.m 10 8,.m 5 10] [0,1,5,7,8] (.R [.m 11 1,.m 12 0,.m 13 5,.idx 14 1 12 13,.l 15 14,.b 16 .eql 11 15] [0,1,5,7,8,16] (.cond 16 (.R [.m 17 5,.m 4 17] [4] .e) .k)))) (.r [.bin 18 .add 8 (.i 1),.m 8 18] [0,1,7,8]))))
def Em:AF:=(.R [.mv 4 (.c (.int .i64 (-1)))] [4] .e)
def Ao:B_:=⟨[.val .S,.val .W],[⟨4,false,.W⟩],(.R [.mv 4 (.i 0)] [0,1] (.s (.R [.m 6 0,.len 7 false 6,.mv 8 (.i 0)] [0,1,7,8] (.b 0 [] (.loop [0,1,7,8] El))) Em))⟩
theorem Kp:CR Tryd.prog 50 Ao=true:=by kernel_rfl
def Fb:B_:=⟨[.val .W,.val .W,.val .W],[⟨6,false,.bool⟩],(.R [.mv 6 .F] [0,1,2] (.R [.m 7 0,.m 8 1,.b 9 .geq 7 8,.m 10 9,.sc 10 true [.m 11 0,.m 12 2,.b 13 .leq 11 12] 14 13 .F,.m 6 14] [6] .e))⟩
theorem SG:CR Tryd.prog 51 Fb=true:=by kernel_rfl
def Fc:B_:=⟨[.val .W],[⟨2,false,.str⟩],(.R [.mv 2 (.c (.str ⟨#[]⟩))] [0] (.R [.m 3 0,.cl 4 [3] R4,.m 2 4] [2] .e))⟩
theorem SH:CR Tryd.prog 52 Fc=true:=by kernel_rfl
def Le:AF:=(.R [.m 27 0,.bin 28 .eql 27 (.i 1),.m 29 28,.sc 29 false [.m 30 3,.bin 31 .eql 30 (.c (.str ⟨#[]⟩))] 32 .V 31,.m 8 32] [8] .e)
def EY:B_:=⟨[.val .W,.val .W,.val .str,.val .str],[⟨8,false,.bool⟩],(.R [.mv 8 .F] [0,1,2,3] (.s (.R [.m 9 0,.cx (some 10) [9,.c (.int .i64 1),.c (.int .i64 2)] CS,.un 11 .not 10,.m 12 11,.sc 12 false [.m 13 1,.cx (some 14) [13,.c (.int .i64 0),.c (.int .i64 1000)] CS,.un 15 .not 14] 16 .V 15,.m 17 16,.sc 17 false [.m 18 2,.cl 19 [18] T0,.un 20 .not 19] 21 .V 20,.m 22 21,.sc 22 false [.m 23 3,.len 24 true 23,.bin 25 .gtr 24 (.i 20)] 26 .V 25] [0,3,26] (.cond 26 (.R [.mv 8 .F] [8] .e) .k)) Le))⟩
theorem T3:CR Tryd.prog 53 EY=true:=by kernel_rfl
def Hg:B_:=⟨[.val .str],[⟨2,false,.bool⟩],(.R [.mv 2 .F] [0] (.R [.m 3 0,.len 4 true 3,.cx (some 5) [4,.c (.int .i64 1),.c (.int .i64 12)] CS,.m 2 5] [2] .e))⟩
theorem T4:CR Tryd.prog 60 Hg=true:=by kernel_rfl
end
end Go.Proofs.YtfcgblnlopemkaaDoor.Core

namespace Go.Proofs.YtfcgblnlopemkaaDoor.Core
open Go Go.Shelf Go.RowKit Go.Lib
variable {P:Program} {ρ:Ren}
theorem RD {α:Type} {c:Prop} [Decidable c] {a b r:α} (h:(if c then a else b)=r):(c/\a=r)\/(¬ c/\b=r):=by
 by_cases hc:c
 ·rw [if_pos hc] at h; exact .inl ⟨hc,h⟩
 ·rw [if_neg hc] at h; exact .inr ⟨hc,h⟩
def Xr (P:Program) (f:Nat) (args bs rs:List AV):Prop :=
 Ra P f/\(∀ r∈rs,r.cells.all AV.nilFree=true)/\∃ n,n+bs.length=rs.length /\
  ∀ (H:HP) (φ:Aq) (w:World) (cargs:List Value),SR H φ (Ay bs args) w->AN (VB H φ (Ay bs args)) (BQ (CL bs) args) cargs ->
   Calls P f cargs.toArray w fun out w'=>match out with
    | .returned v=>Ki H φ w args bs (rs.drop n) (rs.take n) v w'
    | _=>False
theorem Up {H H':HP} {φ φ':Aq} {w w':World} {args rs:List AV} {v:Value} (h:AH H φ (Ay [] args) w H' φ' (Ay [] rs) w') (hr:ZP H' φ' (Ay [] rs) (BQ (CL []) rs) v):Ki H φ w args [] [] rs v w':=by
 refine ⟨H',φ',h.le,h.sr,h.fr _ _ _ _ _ ⟨rfl,rfl,rfl,Nat.le_refl _,fun _ _ _=>rfl,fun _ _=>rfl,fun i bi hi _ b hb=>.inr ⟨i,(AK.1 hi).1,hb⟩,fun j hj=>?_,fun _ _ _=>rfl⟩,hr⟩
 simp at hj

structure aX (P:Program) (ρ:Ren):Prop where
 mixed:P.follows .mixedOrders=true
 f22:Bears P (ρ.f 22) (Body2.n22 ρ)
 ov:∀ args w,(callFunc (ρ.f 29) args).run P w=((Extern.SlicesOverlaps.overlaps #[(ρ.t 24),(ρ.t 24)] #[(ρ.t 4)] args).run P w).andThen fun v w'=>.ok (.value v) w'
 t3:P.underlying (ρ.t 3)=some (TypeDesc.int IntKind.i64)
 a3:∀ w,(isAgg (ρ.t 3)).run P w=.ok false w
 z3:∀ w,(Go.sizeOf (ρ.t 3)).run P w=.ok 1 w
 v3:∀ w,(zeroValue (ρ.t 3)).run P w=.ok (Value.int IntKind.i64 0) w
 t4:P.underlying (ρ.t 4)=some (TypeDesc.bool)
 a4:∀ w,(isAgg (ρ.t 4)).run P w=.ok false w
 z4:∀ w,(Go.sizeOf (ρ.t 4)).run P w=.ok 1 w
 v4:∀ w,(zeroValue (ρ.t 4)).run P w=.ok (Value.bool false) w
 t24:P.underlying (ρ.t 24)=some (TypeDesc.slice (ρ.t 9))
 a24:∀ w,(isAgg (ρ.t 24)).run P w=.ok false w
 z24:∀ w,(Go.sizeOf (ρ.t 24)).run P w=.ok 1 w
 v24:∀ w,(zeroValue (ρ.t 24)).run P w=.ok (Value.slice none 0 0) w

structure aY (P:Program) (g:Nat):Prop where
 eg:∀ args w,(callFunc g args).run P w=.ok (.enter g args) w
 says:∀ (n x:Int) (b o:Nat) (W:World),W.cell? ⟨b,o,none⟩=some (.int .i64 n) ->
  Calls P g #[.int .i64 x,.pointer (some ⟨b,o,none⟩)] W fun e w'=>e=.returned (.bool (x==n))/\∃ q,w'=W.drewN q

set_option maxHeartbeats 1000000 in
theorem Wq (L:Lays.n146 P ρ) (hi9:(P.info? (ρ.t 9)).map (fun i=>(i.zero,i.size,i.bytes))=some (some (.string AA),1,16)) (s sep:ByteArray) (w:World) (hs:s.size<4294967281) (h1:sep.size=1) :
  Calls P (ρ.f 146) #[.string s,.string sep] w fun e w' =>
   e=.returned (.slice (some ⟨w.heap.size,0,none⟩) (Lib.countB s sep+1) (Lib.countB s sep+1))/\w'=w.alloc (.cells ((Lib.splitB sep 0 (Lib.countB s sep) s).map Value.string).toArray (ρ.t 9)):=by
 obtain ⟨c,rfl⟩:=Lib.one_byte sep h1
 have hle:=Lib.countB_le ⟨#[c]⟩ (by decide:1<=1) s.size s (Nat.le_refl _)
 have hlen:=Lib.splitB_all ⟨#[c]⟩ (by decide:1<=1) 0 _ s rfl
 have cc:=Any.strings_genSplit_core { L with } hi9 s ⟨#[c]⟩ 0 (-1) (Lib.countB s ⟨#[c]⟩+1) w hs (by decide:1<=1) (Nat.zero_le _)
  (fun x cs _=>(Any.strings_Index_one { L with } x c (w.alloc (.cells cs (ρ.t 9)))).mono fun e w' ⟨he,hw⟩=>⟨by rw [he]; show _=Ending.returned (Value.int .i64 (Lib.index x.data.toList [c])); rw [Lib.index_one],hw⟩)
  ((Any.strings_Count_one { L with } s c w).mono fun e w' ⟨he,hw⟩=>⟨by rw [he]; show _=Ending.returned (Value.int .i64 ((Lib.count s.data.toList [c]:Nat):Int)); rw [Lib.count_one]; rfl,hw⟩)
  (by decide) (by decide) (by rw [if_pos (by decide)]; omega)
 rw [Nat.add_sub_cancel,hlen] at cc
 have e2:Lib.cellsOf (Lib.splitB ⟨#[c]⟩ 0 (Lib.countB s ⟨#[c]⟩) s) (Lib.countB s ⟨#[c]⟩+1)=((Lib.splitB ⟨#[c]⟩ 0 (Lib.countB s ⟨#[c]⟩) s).map Value.string).toArray:=by rw [<- hlen]; exact Lib.cellsOf_full _
 rw [e2] at cc
 have t3:=L.t3; have t9:=L.t9; have t31:=L.t31
 have a3:=L.a3; have a9:=L.a9; have a31:=L.a31
 have z3:=L.z3; have v3:=L.v3; have z9:=L.z9; have v9:=L.v9; have z31:=L.z31; have v31:=L.v31
 have e221:∀ args w,(callFunc (ρ.f 221) args).run P w=.ok (.enter (ρ.f 221) args) w:=enters_of L.f221 (by kernel_rfl) rfl
 go_enter L.f146,Body.n146_ntmps ρ
 go_wp2_with (go_at_fn (ρ.f 221); refine cc.mono ?_; rintro e w' ⟨rfl,hw⟩; rw [hw])
 go_ret
 exact ⟨rfl,rfl⟩
def T5 (args bs:List AV):Option (List AV) :=
 match args,bs with
 | [.str s,.str t],[]=>if s.size<4294967281/\t.size=1 then some [.lst .str (Lib.splitB t 0 (Lib.countB s t) s)] else none
 | _,_=>none
theorem Wr {s t:ByteArray} (h:s.size<4294967281) (h1:t.size=1):T5 [.str s,.str t] []=some [.lst .str (Lib.splitB t 0 (Lib.countB s t) s)]:=if_pos ⟨h,h1⟩
theorem Ws (L:Lays.n146 P ρ) (hi9:(P.info? (ρ.t 9)).map (fun i=>(i.zero,i.size,i.bytes))=some (some (.string AA),1,16)) {args bs rs:List AV} (h:T5 args bs=some rs):Xr P (ρ.f 146) args bs rs:=by
 unfold T5 at h
 split at h
 ·rename_i s t
  split at h
  ·rename_i hc
   cases h
   refine ⟨⟨_,_,L.f146,by rfl,rfl⟩,?_,1,rfl,fun H φ w cargs hs ha=>?_⟩
   ·intro r hr
    simp only [Ch] at hr
    subst hr
    rfl
   ·obtain ⟨v0,r0,rfl,hv0,ha⟩:=ha
    obtain ⟨v1,r1,rfl,hv1,ha⟩:=ha
    have hr1:r1=[]:=ha
    subst hr1
    have e0:v0=.string s:=hv0
    have e1:v1=.string t:=hv1
    subst e0 e1
    refine Calls.mono (Wq L hi9 s t w hc.1 hc.2) fun out w' h=>?_
    obtain ⟨rfl,rfl⟩:=h
    obtain ⟨H',hst,hn⟩:=AH.lit hs (.cells ((Lib.splitB t 0 (Lib.countB s t) s).map Value.string).toArray (ρ.t 9))
    have hlen:=Lib.splitB_all t (by omega) 0 _ s rfl
    refine Up (rs:=[.lst .str (Lib.splitB t 0 (Lib.countB s t) s)]) hst ?_
    refine ⟨some ⟨w.heap.size,0,none⟩,Lib.countB s t+1,by rw [hlen],by rw [hlen]; exact Nat.le_refl _,.inr ⟨w.heap.size,0,_,_,_,rfl,hn,fun j x hx=>⟨[.string x],rfl,rfl,fun i u hu=>?_⟩⟩⟩
    match i,hu with
    | 0,hu =>
     cases hu
     simp [Kd.sz,hx]
  ·cases h
 ·cases h
def V4 (args bs:List AV):Option (List AV) :=
 match args,bs with
 | [.int .i64 n],[]=>if -9223372036854775808<=n/\n<=9223372036854775807 then some [.str ⟨(Lib.itoa n).toArray⟩] else none
 | _,_=>none
theorem Xs {n:Int} (h:-9223372036854775808<=n) (h1:n<=9223372036854775807):V4 [.int .i64 n] []=some [.str ⟨(Lib.itoa n).toArray⟩]:=if_pos ⟨h,h1⟩
theorem VT {w:World} (k:Nat) (os:Array Obj):w.grownBy (Go.Sort.grow (w.drewN k) os) none:=by
 have hd:w.grownBy (w.drewN k) none:=by
  induction k with
  | zero=>exact ⟨rfl,rfl,rfl,Nat.le_refl _,fun _ _ _=>rfl⟩
  | succ k ih=>exact ⟨ih.os,ih.tape,ih.output,ih.size,ih.block⟩
 refine ⟨hd.os,hd.tape,hd.output,?_,fun b hb hn=>?_⟩
 ·have:=hd.size
  simp only [Go.Sort.grow,Array.size_append]
  omega
 ·rw [<- hd.block b hb hn]
  have:=hd.size
  simp only [Go.Sort.grow]
  rw [Array.getElem?_append_left (by omega)]
theorem Xt (L:LaysM.n171 P ρ) (ht:(ρ.g 17,(Lib.pow10Tab.map fun z=>Value.int .u64 z).toArray)∈Zm) {args bs rs:List AV} (h:V4 args bs=some rs):Xr P (ρ.f 171) args bs rs:=by
 unfold V4 at h
 split at h
 ·rename_i n
  split at h
  ·rename_i hc
   cases h
   refine ⟨⟨_,_,L.f171,by rfl,rfl⟩,?_,1,rfl,fun H φ w cargs hs ha=>?_⟩
   ·intro r hr
    simp only [Ch] at hr
    subst hr
    rfl
   ·obtain ⟨v0,r0,rfl,hv0,ha⟩:=ha
    have hr0:r0=[]:=ha
    subst hr0
    have e0:v0=.int .i64 n:=hv0
    subst e0
    have tab:Lib.TabIs P w "internal/strconv.uint64pow10" .u64 Lib.pow10Tab:=by
     obtain ⟨el,fz,e⟩:=hs.tb _ ht
     unfold Lib.TabIs World.var?
     rw [L.m17,U,hs.hp _ _ e]
    refine Calls.mono (Any.strconv_Itoa L n hc.1 hc.2 w tab) fun out w' h=>?_
    obtain ⟨rfl,k,os,rfl⟩:=h
    exact Up (rs:=[.str ⟨(Lib.itoa n).toArray⟩]) (AH.grow hs (VT k os)) rfl
  ·cases h
 ·cases h
end Go.Proofs.YtfcgblnlopemkaaDoor.Core

namespace Go.Proofs.YtfcgblnlopemkaaDoor.Core
open Go IntKind
set_option maxRecDepth 100000
noncomputable section
def Za:Go.Shelf.Ren:=⟨fun | 138=>36 | 143=>37 | 146=>18 | 195=>45 | 197=>46 | 217=>55 | 218=>47 | 219=>48 | 221=>28 | 224=>57 | 225=>56 | 260=>54 | 266=>61 | 267=>58 | 268=>35 | 314=>62 | n=>n,fun | 22=>57 | 27=>62 | 28=>35 | 29=>60 | 30=>49 | 34=>47 | 37=>59 | 45=>53 | 46=>73 | 47=>91 | 51=>78 | 52=>92 | 53=>83 | 54=>84 | 55=>69 | 61=>44 | 68=>32 | 80=>95 | 81=>101 | 83=>50 | 84=>81 | 103=>66 | 104=>30 | 105=>67 | 106=>68 | 111=>70 | 113=>55 | 114=>72 | 119=>74 | 127=>105 | 131=>51 | 137=>75 | 138=>76 | 139=>77 | 146=>79 | 150=>61 | 151=>80 | 164=>110 | 171=>82 | 172=>85 | 173=>86 | 174=>87 | 211=>88 | 212=>89 | 213=>90 | 229=>63 | 232=>93 | 233=>94 | 238=>96 | 239=>97 | 240=>98 | 241=>99 | 242=>100 | 243=>102 | 244=>103 | 245=>104 | 246=>106 | 247=>107 | 248=>108 | 249=>109 | n=>n,fun | 1=>0 | 3=>1 | 4=>2 | 17=>3 | 18=>4 | 19=>5 | n=>n⟩
theorem Yu:Lays.n146 Tryd.prog Za:={
 mixed:=by kernel_rfl
 f138:=Tryd.func36.trans (congrArg some (by kernel_rfl))
 f143:=Tryd.func37.trans (congrArg some (by kernel_rfl))
 f146:=Tryd.func18.trans (congrArg some (by kernel_rfl))
 f195:=Tryd.func45.trans (congrArg some (by kernel_rfl))
 f197:=Tryd.func46.trans (congrArg some (by kernel_rfl))
 f217:=Tryd.func55.trans (congrArg some (by kernel_rfl))
 f218:=Tryd.func47.trans (congrArg some (by kernel_rfl))
 f219:=Tryd.func48.trans (congrArg some (by kernel_rfl))
 f221:=Tryd.func28.trans (congrArg some (by kernel_rfl))
 f224:=Tryd.func57.trans (congrArg some (by kernel_rfl))
 f225:=Tryd.func56.trans (congrArg some (by kernel_rfl))
 f260:=Tryd.func54.trans (congrArg some (by kernel_rfl))
 f266:=Tryd.func61.trans (congrArg some (by kernel_rfl))
 f267:=Tryd.func58.trans (congrArg some (by kernel_rfl))
 f268:=Tryd.func35.trans (congrArg some (by kernel_rfl))
 f314:=Tryd.func62.trans (congrArg some (by kernel_rfl))
 t0:=Tryd.underlying0
 a0:=Tryd.isAgg0
 z0:=Tryd.sizeOf0
 v0:=Tryd.zeroValue0
 t3:=Tryd.underlying3
 a3:=Tryd.isAgg3
 z3:=Tryd.sizeOf3
 v3:=Tryd.zeroValue3
 t4:=Tryd.underlying4
 a4:=Tryd.isAgg4
 z4:=Tryd.sizeOf4
 v4:=Tryd.zeroValue4
 t5:=Tryd.underlying5
 a5:=Tryd.isAgg5
 z5:=Tryd.sizeOf5
 v5:=Tryd.zeroValue5
 t9:=Tryd.underlying9
 a9:=Tryd.isAgg9
 z9:=Tryd.sizeOf9
 v9:=Tryd.zeroValue9
 t21:=Tryd.underlying21
 a21:=Tryd.isAgg21
 z21:=Tryd.sizeOf21
 v21:=Tryd.zeroValue21
 t31:=Tryd.underlying31
 a31:=Tryd.isAgg31
 z31:=Tryd.sizeOf31
 v31:=Tryd.zeroValue31
 t46:=Tryd.underlying73
 a46:=Tryd.isAgg73
 z46:=Tryd.sizeOf73
 v46:=Tryd.zeroValue73
 t51:=Tryd.underlying78
 a51:=Tryd.isAgg78
 z51:=Tryd.sizeOf78
 v51:=Tryd.zeroValue78
 t105:=Tryd.underlying67
 a105:=Tryd.isAgg67
 z105:=Tryd.sizeOf67
 v105:=Tryd.zeroValue67
 t119:=Tryd.underlying74
 a119:=Tryd.isAgg74
 z119:=Tryd.sizeOf74
 t138:=Tryd.underlying76
 a138:=Tryd.isAgg76
 z138:=Tryd.sizeOf76
 v138:=Tryd.zeroValue76
 t139:=Tryd.underlying77
 a139:=Tryd.isAgg77
 z139:=Tryd.sizeOf77
 v139:=Tryd.zeroValue77
 t146:=Tryd.underlying79
 a146:=Tryd.isAgg79
 z146:=Tryd.sizeOf79
 v146:=Tryd.zeroValue79
 g1:=by kernel_rfl
 g3:=by kernel_rfl
 g4:=by kernel_rfl }
def Zb:Go.Shelf.Ren:=⟨fun | 129=>70 | 171=>59 | 243=>63 | 246=>64 | 283=>65 | 284=>66 | 285=>67 | 286=>68 | 317=>69 | 318=>71 | 319=>72 | 320=>73 | 337=>74 | 338=>75 | n=>n,fun | 22=>57 | 27=>62 | 28=>35 | 29=>60 | 30=>49 | 34=>47 | 37=>59 | 45=>53 | 46=>73 | 47=>91 | 51=>78 | 52=>92 | 53=>83 | 54=>84 | 55=>69 | 61=>44 | 68=>32 | 80=>95 | 81=>101 | 83=>50 | 84=>81 | 103=>66 | 104=>30 | 105=>67 | 106=>68 | 111=>70 | 113=>55 | 114=>72 | 119=>74 | 127=>105 | 131=>51 | 137=>75 | 138=>76 | 139=>77 | 146=>79 | 150=>61 | 151=>80 | 164=>110 | 171=>82 | 172=>85 | 173=>86 | 174=>87 | 211=>88 | 212=>89 | 213=>90 | 229=>63 | 232=>93 | 233=>94 | 238=>96 | 239=>97 | 240=>98 | 241=>99 | 242=>100 | 243=>102 | 244=>103 | 245=>104 | 246=>106 | 247=>107 | 248=>108 | 249=>109 | n=>n,fun | 1=>0 | 3=>1 | 4=>2 | 17=>3 | 18=>4 | 19=>5 | n=>n⟩
theorem Yv:LaysM.n171 Tryd.prog Zb:={
 mixed:=by kernel_rfl
 f129:=Tryd.func70.trans (congrArg some (by kernel_rfl))
 f171:=Tryd.func59.trans (congrArg some (by kernel_rfl))
 f243:=Tryd.func63.trans (congrArg some (by kernel_rfl))
 f246:=Tryd.func64.trans (congrArg some (by kernel_rfl))
 f283:=Tryd.func65.trans (congrArg some (by kernel_rfl))
 f284:=Tryd.func66.trans (congrArg some (by kernel_rfl))
 f285:=Tryd.func67.trans (congrArg some (by kernel_rfl))
 f286:=Tryd.func68.trans (congrArg some (by kernel_rfl))
 f317:=Tryd.func69.trans (congrArg some (by kernel_rfl))
 f318:=Tryd.func71.trans (congrArg some (by kernel_rfl))
 f319:=Tryd.func72.trans (congrArg some (by kernel_rfl))
 f320:=Tryd.func73.trans (congrArg some (by kernel_rfl))
 f337:=Tryd.func74.trans (congrArg some (by kernel_rfl))
 f338:=Tryd.func75.trans (congrArg some (by kernel_rfl))
 t0:=Tryd.underlying0
 a0:=Tryd.isAgg0
 z0:=Tryd.sizeOf0
 v0:=Tryd.zeroValue0
 t2:=Tryd.underlying2
 a2:=Tryd.isAgg2
 z2:=Tryd.sizeOf2
 v2:=Tryd.zeroValue2
 t3:=Tryd.underlying3
 a3:=Tryd.isAgg3
 z3:=Tryd.sizeOf3
 v3:=Tryd.zeroValue3
 t4:=Tryd.underlying4
 a4:=Tryd.isAgg4
 z4:=Tryd.sizeOf4
 v4:=Tryd.zeroValue4
 t5:=Tryd.underlying5
 a5:=Tryd.isAgg5
 z5:=Tryd.sizeOf5
 v5:=Tryd.zeroValue5
 t9:=Tryd.underlying9
 a9:=Tryd.isAgg9
 z9:=Tryd.sizeOf9
 v9:=Tryd.zeroValue9
 t20:=Tryd.underlying20
 a20:=Tryd.isAgg20
 z20:=Tryd.sizeOf20
 v20:=Tryd.zeroValue20
 t37:=Tryd.underlying59
 a37:=Tryd.isAgg59
 z37:=Tryd.sizeOf59
 v37:=Tryd.zeroValue59
 t46:=Tryd.underlying73
 a46:=Tryd.isAgg73
 z46:=Tryd.sizeOf73
 v46:=Tryd.zeroValue73
 t51:=Tryd.underlying78
 a51:=Tryd.isAgg78
 z51:=Tryd.sizeOf78
 v51:=Tryd.zeroValue78
 t53:=Tryd.underlying83
 a53:=Tryd.isAgg83
 z53:=Tryd.sizeOf83
 v53:=Tryd.zeroValue83
 t171:=Tryd.underlying82
 a171:=Tryd.isAgg82
 z171:=Tryd.sizeOf82
 v171:=Tryd.zeroValue82
 t173:=Tryd.underlying86
 a173:=Tryd.isAgg86
 z173:=Tryd.sizeOf86
 v173:=Tryd.zeroValue86
 t212:=Tryd.underlying89
 a212:=Tryd.isAgg89
 z212:=Tryd.sizeOf89
 v212:=Tryd.zeroValue89
 t213:=Tryd.underlying90
 a213:=Tryd.isAgg90
 z213:=Tryd.sizeOf90
 t232:=Tryd.underlying93
 a232:=Tryd.isAgg93
 z232:=Tryd.sizeOf93
 v232:=Tryd.zeroValue93
 t233:=Tryd.underlying94
 a233:=Tryd.isAgg94
 z233:=Tryd.sizeOf94
 v233:=Tryd.zeroValue94
 g17:=by kernel_rfl
 g18:=by kernel_rfl
 g19:=by kernel_rfl
 i0:=by kernel_rfl
 i2:=by kernel_rfl
 i3:=by kernel_rfl
 i4:=by kernel_rfl
 i5:=by kernel_rfl
 i9:=by kernel_rfl
 i20:=by kernel_rfl
 i37:=by kernel_rfl
 i46:=by kernel_rfl
 i51:=by kernel_rfl
 i53:=by kernel_rfl
 i171:=by kernel_rfl
 i173:=by kernel_rfl
 i212:=by kernel_rfl
 i232:=by kernel_rfl
 i233:=by kernel_rfl
 m17:=by kernel_rfl
 m18:=by kernel_rfl
 m19:=by kernel_rfl }

def Xu:List (Nat×B_):=[(3,Ad),(4,AQ),(5,AX),(6,Bz),(7,Bc),(8,BS),(9,BM),(10,BT),(11,BN),(12,BJ),(13,Aw),(14,BD),(15,B3),(16,AR),(17,C8),(19,Bo),(20,CG),(21,FX),(22,Bd),(23,Be),(24,Bf),(25,Ar),(26,B4),(27,Hf),(29,Ab),(30,C0),(31,Bp),(32,BI),(33,BW),(34,Cl),(38,BF),(39,CH),(40,Ax),(41,GV),(42,Aa),(43,C9),(44,EX),(49,GW),(50,Ao),(51,Fb),(52,Fc),(53,EY),(60,Hg)]
def MV (f:Nat):Option B_:=Yt f Xu
theorem Zy:Xh Tryd.prog MV:=Wp (.cons Jh <| .cons N8 <| .cons N9 <| .cons R6 <| .cons Qg <| .cons Pa <| .cons N_ <| .cons Pb <| .cons OA <| .cons Qh <| .cons R7 <| .cons Pc <| .cons R8 <| .cons Qi <| .cons R9 <| .cons M9 <| .cons Sv <| .cons R_ <| .cons Qj <| .cons Qk <| .cons Ql <| .cons M_ <| .cons SA <| .cons T1 <| .cons SB <| .cons MU <| .cons NA <| .cons SC <| .cons SD <| .cons T2 <| .cons Fa <| .cons Sw <| .cons SE <| .cons Sx <| .cons NB <| .cons SF <| .cons Pd <| .cons Sy <| .cons Kp <| .cons SG <| .cons SH <| .cons T3 <| .cons T4 .nil)
def Cm:CV:=fun f args bs=>if f=18 then T5 args bs else if f=59 then V4 args bs else none
theorem Yw:DG Tryd.prog Cm:=by
 refine ⟨fun f k t T hf h=>?_,fun f args bs rs hf h=>?_⟩<;>unfold Cm at h
 ·rcases RD h with ⟨e,h⟩ | ⟨_,h⟩
  ·exfalso; unfold BV at e; omega
  rcases RD h with ⟨e,h⟩ | ⟨_,h⟩
  ·exfalso; unfold BV at e; omega
  cases h
 ·rcases RD h with ⟨e,h⟩ | ⟨_,h⟩
  ·subst e; exact Ws Yu (by kernel_rfl) h
  rcases RD h with ⟨e,h⟩ | ⟨_,h⟩
  ·subst e; exact Xt Yv (List.mem_cons_self ..) h
  cases h
abbrev cP:CV:=Tx MV Cm
def cG {ρ:Type} (c:AF) (kn kr:St->Option ρ) (ke:Nat->St->Option ρ):St->Option ρ:=C7 cP FJ c kn kr ke
def lG {ρ:Type} (c:AF) (hs:List (Nat×Nat)) (l:List Nat) (n:Nat) (kr:St->Option ρ) (ke:Nat->St->Option ρ):St->Option ρ:=FJ fun go s'=>C7 cP FJ c (fun s''=>go (s''.cutH hs l n)) kr ke s'
def kB {ρ:Type} (hs:List (Nat×Nat)) (l:List Nat) (n:Nat) (kn:St->Option ρ):St->Option ρ:=fun s=>kn (s.cutH hs l n)
def kE {ρ:Type} (b:Nat) (hs:List (Nat×Nat)) (l:List Nat) (n:Nat) (kn:St->Option ρ) (ke:Nat->St->Option ρ):Nat->St->Option ρ:=fun i s=>if i=b then kn (s.cutH hs l n) else ke i s
def kx {ρ:Type}:Nat->St->Option ρ:=fun _ _=>none
def cF (f:Nat) (a:B_) (x b:List AV):Option (RT a.outs):=(cP f x b).bind (CE a.outs)
theorem cT (a:B_) {f:Nat} {x b:List AV} {t:Option (RT a.outs)} {r:RT a.outs} (hf:MV f=some a) (hl:x.length=a.params.length/\b.length=(Bx a.params 0).length) (e:Xp cP a x b=t) (h:t=some r):cF f a x b=some r:=VS hf hl (e.trans h)
theorem jS {ρ:Type} {t w:Option ρ} {r:ρ} (e:w=t) (h:t=some r):w=some r:=e.trans h
theorem lS {ρ:Type} {c:AF} {hs:List (Nat×Nat)} {l:List Nat} {n:Nat} {kr:St->Option ρ} {ke:Nat->St->Option ρ} {s:St} {t:Option ρ} {r:ρ} (e:C7 cP FJ c (fun s=>lG c hs l n kr ke (s.cutH hs l n)) kr ke s=t) (h:t=some r):lG c hs l n kr ke s=some r:=Wn (e.trans h)
def En (x0:ByteArray):Option Bool:=cF 3 Ad [.str x0] []
def Fd (x0:ByteArray):Option (List (List Int)×List E×Int):=cF 4 AQ [.str x0] []
def Dn (x0:ByteArray):Option (List (List Int)×List E×Int):=cF 5 AX [.str x0] []
def Fe (x0 x1:List (List Int)):Option Bool:=cF 6 Bz [.lst .S x0,.lst .S x1] []
def Es (x0 x1:List E):Option Bool:=cF 7 Bc [.lst AD x0,.lst AD x1] []
def GK (x1:Int) (b0:List (List Int)):Option (Int×List (List Int)):=cF 8 BS [.row 0,.int .i64 x1] [.new 35 (.own 3 .W) b0]
def Ff (x1:Int) (b0:List E):Option (Int×List E):=cF 9 BM [.row 0,.int .i64 x1] [.new 40 AD b0]
def EZ (x0:List (List Int)) (x1:Int):Option Int:=cF 10 BT [.lst .S x0,.int .i64 x1] []
def Do (x0:List E) (x1:Int):Option Int:=cF 11 BN [.lst AD x0,.int .i64 x1] []
def Et (x0:ByteArray):Option (List ByteArray):=cF 12 BJ [.str x0] []
def IG (x0:ByteArray):Option (List ByteArray×Bool):=cF 13 Aw [.str x0] []
def GL (x0:ByteArray):Option (List Int×Bool):=cF 14 BD [.str x0] []
def Fg (x0:List (List Int)):Option Bool:=cF 15 B3 [.lst .S x0] []
def HI (x0:List ByteArray):Option (E×Bool):=cF 16 AR [.lst .str x0] []
def IH (x0:E):Option Bool:=cF 17 C8 [.agg (AD.enc x0)] []
def E0 (x1:ByteArray) (b0:BP):Option (Bool×BP):=cF 19 Bo [.ptr 0 0,.str x1] [.agg [.new 35 (.own 3 .W) b0.1,.new 40 AD b0.2]]
def Ji (x0 x1:List Int):Option Bool:=cF 20 CG [.lst .W x0,.lst .W x1] []
def II (x0 x1:E):Option Bool:=cF 21 FX [.agg (AD.enc x0),.agg (AD.enc x1)] []
def Eu (x1:Int) (b0:List Int):Option (Int×List Int):=cF 22 Bd [.row 0,.int .i64 x1] [.new 3 .W b0]
def Bg (x0:Int):Option ByteArray:=cF 23 Be [.int .i64 x0] []
def Ew (x0:List Int) (x1:Int):Option Int:=cF 24 Bf [.lst .W x0,.int .i64 x1] []
def Bq (x0:ByteArray):Option (Int×Bool):=cF 25 Ar [.str x0] []
def IJ (x0:List Int):Option Bool:=cF 26 B4 [.lst .W x0] []
def CF (x0 x1 x2:Int):Option Bool:=cF 27 Hf [.int .i64 x0,.int .i64 x1,.int .i64 x2] []
def IK (x0:ByteArray):Option (List ByteArray×Bool):=cF 29 Ab [.str x0] []
def Ed (x0 x1:ByteArray):Option Bool:=cF 30 C0 [.str x0,.str x1] []
def E1 (x1:List ByteArray) (b0:BP):Option (Bool×BP):=cF 31 Bp [.ptr 0 0,.lst .str x1] [.agg [.new 35 (.own 3 .W) b0.1,.new 40 AD b0.2]]
def IL (x0:List ByteArray):Option (E×Bool):=cF 32 BI [.lst .str x0] []
def IM (x0:Int):Option ByteArray:=cF 33 BW [.int .i64 x0] []
def Kq (x0:List Int) (x1:Int):Option Bool:=cF 34 Cl [.lst .W x0,.int .i64 x1] []
def BX (x0 x1:ByteArray):Option Bool:=cF 38 BF [.str x0,.str x1] []
def Jj (x0:ByteArray):Option (List Int×Bool):=cF 39 CH [.str x0] []
def Fh (x0:List (List Int)):Option Bool:=cF 40 Ax [.lst .S x0] []
def Jk (x0:ByteArray):Option (Int×Int):=cF 41 GV [.str x0] []
def DI (x0:ByteArray):Option (Int×Bool):=cF 42 Aa [.str x0] []
def IN (x0:E):Option Bool:=cF 43 C9 [.agg (AD.enc x0)] []
def GM (x0:Int):Option Int:=cF 44 EX [.int .i64 x0] []
def GX (x0:Int):Option Bool:=cF 49 GW [.int .i64 x0] []
def DJ (x0:List Int) (x1:Int):Option Int:=cF 50 Ao [.lst .W x0,.int .i64 x1] []
def BY (x0 x1 x2:Int):Option Bool:=cF 51 Fb [.int .i64 x0,.int .i64 x1,.int .i64 x2] []
def IP (x0:Int):Option ByteArray:=cF 52 Fc [.int .i64 x0] []
def Kr (x0 x1:Int) (x2 x3:ByteArray):Option Bool:=cF 53 EY [.int .i64 x0,.int .i64 x1,.str x2,.str x3] []
def Kt (x0:ByteArray):Option Bool:=cF 60 Hg [.str x0] []
def Cg (q0 q1:ByteArray):Option (List ByteArray):=(cP 18 [.str q0,.str q1] []).bind (CE [(.slice .str)])
def IQ (q0:Int):Option ByteArray:=(cP 59 [.int .i64 q0] []).bind (CE [.str])
theorem Qm {x0 x1:ByteArray} (h:x0.size<4294967281) (h1:x1.size=1):Cg x0 x1=some (Go.Lib.splitB x1 0 (Go.Lib.countB x0 x1) x0):=by
 unfold Cg cP
 rw [TP (r:=[.lst .str (Go.Lib.splitB x1 0 (Go.Lib.countB x0 x1) x0)]) rfl (Wr h h1)]
 rfl
theorem SI {x0:Int} (h:-9223372036854775808<=x0) (h1:x0<=9223372036854775807):IQ x0=some ⟨(Go.Lib.itoa x0).toArray⟩:=by
 unfold IQ cP
 rw [TP (r:=[.str ⟨(Go.Lib.itoa x0).toArray⟩]) rfl (Xs h h1)]
 rfl

def Dp (x0:Int) (x1:Bool) (x2:List (List Int)) (x3:List E) (x4:List (List Int)) (x5:List E):Option Bool:=cG Dl (AI Ad) (AI Ad) kx ⟨[(6,.row 0),(7,.row 1),(9,.int .i64 x0),(83,.bool x1)],[.rows 35 (.own 3 .W) x2,.rows 40 AD x3,.rows 35 (.own 3 .W) x4,.rows 40 AD x5]⟩
def Dq (x0:ByteArray) (x1:List (List Int)) (x2:List E) (x3:Int) (x4:Bool) (x5:List (List Int)) (x6:List E):Option Bool:=cG Dm (AI Ad) (AI Ad) kx ⟨[(0,.str x0),(3,.lst .S x1),(4,.lst AD x2),(5,.int .i64 x3),(6,.row 0),(7,.row 1),(43,.bool x4)],[.rows 35 (.own 3 .W) x5,.rows 40 AD x6]⟩
def Dr (x0:Int) (x1:Bool) (x2:List (List Int)) (x3:List E) (x4:List (List Int)) (x5:List E):Option Bool:=((EZ x2 1).bind fun y12=>(if (decide (y12<0))=true then (some false) else ((Do x3 y12).bind fun y13=>(if (decide (y13<0))=true then (some false) else (if (y13 != x0)=true then (some false) else (some true))))))
def Ds (x0:ByteArray) (x1:List (List Int)) (x2:List E) (x3:Int) (x4:Bool) (x5:List (List Int)) (x6:List E):Option Bool:=((GK 1 x5).bind fun y5=>((Ff y5.1 x6).bind fun y6=>((EZ y5.2 1).bind fun y7=>(if (decide (y7<0))=true then (some false) else ((Do y6.2 y7).bind fun y8=>(if (decide (y8<0))=true then (some false) else (if (y8 != y6.1)=true then (some false) else ((Dn x0).bind fun y9=>((Fe y9.1 x1).bind fun y10=>(if (!y10)=false then ((Es y9.2.1 x2).bind fun y11=>(if (!y11)=false then (if (y9.2.2 != x3)=true then (some false) else (Dp y6.1 (y9.2.2 != x3) y5.2 y6.2 y9.1 y9.2.1)) else (some false))) else (some false)))))))))))
def Eo (x0:ByteArray):Option Bool:=(if (decide ((x0.size:Int)>1048576))=true then (some true) else ((Fd x0).bind fun y1=>((Dn x0).bind fun y2=>((Fe y2.1 y1.1).bind fun y3=>(if (!y3)=false then ((Es y2.2.1 y1.2.1).bind fun y4=>(if (!y4)=false then (if (y2.2.2 != y1.2.2)=true then (some false) else (Dq x0 y1.1 y1.2.1 y1.2.2 (y2.2.2 != y1.2.2) y2.1 y2.2.1)) else (some false))) else (some false))))))
theorem Hh:aW Dr Dp:=jS (by kernel_rfl)
theorem Hi:aF Ds Dq:=jS (by kernel_rfl)
theorem Jl:PZ Eo En:=cT Ad rfl ⟨rfl,rfl⟩ (by kernel_rfl)
def MW:=cG EB (AI AQ) (AI AQ) kx
def Ee:=kE 0 [(7,0),(8,1)] [5,7,8] 2 MW kx
def Gx:St->Option (RT (B_.outs AQ)):=lG Gk [(7,0),(8,1)] [5,6,7,8,9] 2 (AI AQ) Ee
def MX:=kB [(7,0),(8,1)] [5,6,7,8,9] 2 Gx
def HT:=cG Gj MX (AI AQ) Ee
def Ef:=kB [(7,0),(8,1)] [5,6,7,8,9] 2 HT
def C1:=kE 1 [(7,0),(8,1)] [5,6,7,8,9] 2 HT Ee
def MY:=cG EA Ef (AI AQ) C1
def ED (x0:List E) (x1:List ByteArray) (x2:Int) (x3:List ByteArray) (x4:Bool) (x5:List (List Int)) (x6:List E):Option (List (List Int)×List E×Int):=cG EA Ef (AI AQ) C1 ⟨[(5,.lst AD x0),(6,.lst .str x1),(7,.row 0),(8,.row 1),(9,.int .i64 x2),(10,.lst .str x3),(73,.bool x4)],[.rows 35 .S x5,.rows 40 AD x6]⟩
def EE (x0:List E) (x1:List ByteArray) (x2:Int) (x3:List ByteArray) (x4:Bool) (x5:List (List Int)) (x6:List E):Option (List (List Int)×List E×Int):=cG HQ MY (AI AQ) C1 ⟨[(5,.lst AD x0),(6,.lst .str x1),(7,.row 0),(8,.row 1),(9,.int .i64 x2),(10,.lst .str x3),(73,.bool x4)],[.rows 35 .S x5,.rows 40 AD x6]⟩
def EF (x0:List E) (x1:List ByteArray) (x2:Int) (x3:List ByteArray) (x4 x5:Bool) (x6:List (List Int)) (x7:List E):Option (List (List Int)×List E×Int):=cG Gi Ef (AI AQ) C1 ⟨[(5,.lst AD x0),(6,.lst .str x1),(7,.row 0),(8,.row 1),(9,.int .i64 x2),(10,.lst .str x3),(11,.bool x4),(58,.bool x5)],[.rows 35 .S x6,.rows 40 AD x7]⟩
def Gy (x0:List E) (x1:List (List Int)) (x2:List E):Option (List (List Int)×List E×Int):=cG EB (AI AQ) (AI AQ) kx ⟨[(5,.lst AD x0),(7,.row 0),(8,.row 1)],[.rows 35 .S x1,.rows 40 AD x2]⟩
def Ap (x0:List E) (x1:List ByteArray) (x2:Int) (x3:List (List Int)) (x4:List E):Option (List (List Int)×List E×Int):=Gx ⟨[(5,.lst AD x0),(6,.lst .str x1),(7,.row 0),(8,.row 1),(9,.int .i64 x2)],[.rows 35 .S x3,.rows 40 AD x4]⟩
def Gz (x0:ByteArray) (x1:List E) (x2:Bool):Option (List (List Int)×List E×Int):=cG Gl (AI AQ) (AI AQ) kx ⟨[(0,.str x0),(5,.lst AD x1),(25,.bool x2)],[]⟩
def G0 (x0:List E) (x1:List ByteArray) (x2:Int) (x3:List ByteArray) (x4:Bool) (x5:List (List Int)) (x6:List E):Option (List (List Int)×List E×Int):=((HI x3).bind fun y6=>(if (!y6.2)=false then ((IH y6.1).bind fun y7=>(if (!y7)=false then (if ((x5.length:Int)==0)=false then (if ((x6.length:Int)==70)=true then (some (([]:List (List Int)),x0,(i64.wrap (x2+1)))) else (if x6.length+([y6.1]:List E).length<=68719476736 then (Ap x0 x1 (i64.wrap (x2+1)) x5 (x6++([y6.1]:List E))) else none)) else (some (([]:List (List Int)),x0,(i64.wrap (x2+1))))) else (some (([]:List (List Int)),x0,(i64.wrap (x2+1)))))) else (some (([]:List (List Int)),x0,(i64.wrap (x2+1))))))
def EG (x0:List E) (x1:List ByteArray) (x2:Int) (x3:List ByteArray) (x4:Bool) (x5:List (List Int)) (x6:List E):Option (List (List Int)×List E×Int):=(if x4=true then (if 0<=(1:Int) then (if 1<(x3.length:Int) then ((GL (x3.getD (1:Int).toNat AA)).bind fun y4=>(if x5.length+([y4.1]:List (List Int)).length<=68719476736 then (if (!y4.2)=false then (if (decide ((x6.length:Int)>0))=false then ((Fg (x5++([y4.1]:List (List Int)))).bind fun y5=>(if (!y5)=true then (some (([]:List (List Int)),x0,(i64.wrap (x2+1)))) else (Ap x0 x1 (i64.wrap (x2+1)) (x5++([y4.1]:List (List Int))) x6))) else (some (([]:List (List Int)),x0,(i64.wrap (x2+1))))) else (some (([]:List (List Int)),x0,(i64.wrap (x2+1))))) else none)) else none) else none) else (ED x0 x1 x2 x3 x4 x5 x6))
def EH (x0:List E) (x1:List ByteArray) (x2:Int) (x3:List ByteArray) (x4 x5:Bool) (x6:List (List Int)) (x7:List E):Option (List (List Int)×List E×Int):=(if (!x4)=true then (some (([]:List (List Int)),x0,(i64.wrap (x2+1)))) else (if 0<=(0:Int) then (if 0<(x3.length:Int) then (if ((x3.getD (0:Int).toNat AA).toList==(⟨#[118,105,101,119]⟩:ByteArray).toList)=true then (EE x0 x1 x2 x3 ((x3.length:Int)==2) x6 x7) else (EE x0 x1 x2 x3 false x6 x7)) else none) else none))
def G1 (x0:List E) (x1:List (List Int)) (x2:List E):Option (List (List Int)×List E×Int):=(if ((x1.length:Int)==0)=true then (some (([]:List (List Int)),x0,1)) else (some (x1,x2,0)))
def EI (x0:List E) (x1:List ByteArray) (x2:Int) (x3:List (List Int)) (x4:List E):Option (List (List Int)×List E×Int):=(if (decide (x2<(x1.length:Int)))=true then (if 0<=x2 then (if x2<(x1.length:Int) then ((IG (x1.getD x2.toNat AA)).bind fun y3=>(if y3.2=true then (if ((y3.1.length:Int)==0)=false then (if 0<=(0:Int) then (if 0<(y3.1.length:Int) then (if 0<=(0:Int) then (if 0<((y3.1.getD (0:Int).toNat AA).size:Int) then (if ((((y3.1.getD (0:Int).toNat AA).data.toList.getD (0:Int).toNat 0).toNat:Int)==35)=true then (Ap x0 x1 (i64.wrap (x2+1)) x3 x4) else (EF x0 x1 x2 y3.1 y3.2 ((((y3.1.getD (0:Int).toNat AA).data.toList.getD (0:Int).toNat 0).toNat:Int)==35) x3 x4)) else none) else none) else none) else none) else (Ap x0 x1 (i64.wrap (x2+1)) x3 x4)) else (EF x0 x1 x2 y3.1 y3.2 false x3 x4))) else none) else none) else (Gy x0 x3 x4))
def G2 (x0:ByteArray) (x1:List E) (x2:Bool):Option (List (List Int)×List E×Int):=((Et x0).bind fun y2=>(Ap x1 y2 0 ([]:List (List Int)) ([]:List E)))
def I_ (x0:ByteArray):Option (List (List Int)×List E×Int):=(if (decide ((x0.size:Int)>4000))=false then ((Et x0).bind fun y1=>(if (decide ((y1.length:Int)>100))=true then (some (([]:List (List Int)),([]:List E),(-1:Int))) else (Gz x0 ([]:List E) (decide ((y1.length:Int)>100))))) else (some (([]:List (List Int)),([]:List E),(-1:Int))))
theorem Lf:aF G0 ED:=jS (by kernel_rfl)
theorem G3:aF EG EE:=jS (by kernel_rfl)
theorem G4:aM EH EF:=jS (by kernel_rfl)
theorem Lg:R5 G1 Gy:=jS (by kernel_rfl)
theorem G5:Y5 EI Ap:=lS (by kernel_rfl)
theorem Lh:R5 G2 Gz:=jS (by kernel_rfl)
theorem OB:PZ I_ Fd:=cT AQ rfl ⟨rfl,rfl⟩ (by kernel_rfl)
def MZ:=cG EC (AI AX) (AI AX) kx
def Ma:=kE 0 [] [6] 5 MZ kx
def Li:St->Option (RT (B_.outs AX)):=lG HR [] [6,31,32,33] 5 (AI AX) Ma
def G6 (x0:List (List Int)) (x1:List E) (x2:List (List Int)) (x3:List E):Option (List (List Int)×List E×Int):=cG EC (AI AX) (AI AX) kx ⟨[(6,.ptr 4 0)],[.rows 35 (.own 3 .W) x0,.rows 40 AD x1,.rows 35 (.own 3 .W) x2,.rows 40 AD x3,.var [.row 2,.row 3]]⟩
def Cn (x0:List ByteArray) (x1 x2:Int) (x3:List (List Int)) (x4:List E) (x5:List (List Int)) (x6:List E):Option (List (List Int)×List E×Int):=Li ⟨[(6,.ptr 4 0),(31,.lst .str x0),(32,.int .i64 x1),(33,.int .i64 x2)],[.rows 35 (.own 3 .W) x3,.rows 40 AD x4,.rows 35 (.own 3 .W) x5,.rows 40 AD x6,.var [.row 2,.row 3]]⟩
def G7 (x0:List ByteArray) (x1:Bool) (x2:List (List Int)) (x3:List E):Option (List (List Int)×List E×Int):=cG Gm (AI AX) (AI AX) kx ⟨[(5,.lst .str x0),(30,.bool x1)],[.rows 35 (.own 3 .W) x2,.rows 40 AD x3]⟩
def Co (x0:ByteArray) (x1:List ByteArray) (x2:List (List Int)) (x3:List E):Option (List (List Int)×List E×Int):=cG Gn (AI AX) (AI AX) kx ⟨[(0,.str x0),(5,.lst .str x1)],[.rows 35 (.own 3 .W) x2,.rows 40 AD x3]⟩
def G8 (x0:List (List Int)) (x1:List E) (x2:List (List Int)) (x3:List E):Option (List (List Int)×List E×Int):=(if ((x2.length:Int)==0)=true then (some (([]:List (List Int)),([]:List E),1)) else (some (x2,x3,0)))
def EJ (x0:List ByteArray) (x1 x2:Int) (x3:List (List Int)) (x4:List E) (x5:List (List Int)) (x6:List E):Option (List (List Int)×List E×Int):=(if (decide (x2<x1))=true then (if 0<=x2 then (if x2<(x0.length:Int) then ((E0 (x0.getD x2.toNat AA) (x5,x6)).bind fun y2=>(if (!y2.1)=true then (some (([]:List (List Int)),([]:List E),(i64.wrap (x2+1)))) else (Cn x0 x1 (i64.wrap (x2+1)) x3 x4 y2.2.1 y2.2.2))) else none) else none) else (G6 x3 x4 x5 x6))
def G9 (x0:List ByteArray) (x1:Bool) (x2:List (List Int)) (x3:List E):Option (List (List Int)×List E×Int):=(Cn x0 (x0.length:Int) 0 x2 x3 ([]:List (List Int)) ([]:List E))
def G_ (x0:ByteArray) (x1:List ByteArray) (x2:List (List Int)) (x3:List E):Option (List (List Int)×List E×Int):=(if (decide ((x0.size:Int)>4000))=false then (if (decide ((x1.length:Int)>100))=true then (some (([]:List (List Int)),([]:List E),(-1:Int))) else (G7 x1 (decide ((x1.length:Int)>100)) x2 x3)) else (some (([]:List (List Int)),([]:List E),(-1:Int))))
def JA (x0:ByteArray):Option (List (List Int)×List E×Int):=((Cg x0 (⟨#[10]⟩:ByteArray)).bind fun y1=>(if 0<=(i64.wrap ((y1.length:Int)-1)) then (if (i64.wrap ((y1.length:Int)-1))<(y1.length:Int) then (if ((y1.getD (i64.wrap ((y1.length:Int)-1)).toNat AA).toList==(⟨#[]⟩:ByteArray).toList)=true then (if 0<=(0:Int) then (if 0<=(i64.wrap ((y1.length:Int)-1)) then (if (i64.wrap ((y1.length:Int)-1))<=(y1.length:Int) then (Co x0 ((y1.take (i64.wrap ((y1.length:Int)-1)).toNat).drop (0:Int).toNat) ([]:List (List Int)) ([]:List E)) else none) else none) else none) else (Co x0 y1 ([]:List (List Int)) ([]:List E))) else none) else none))
theorem Lj:V0 G8 G6:=jS (by kernel_rfl)
theorem HA:aF EJ Cn:=lS (by kernel_rfl)
theorem Lk:V0 G9 G7:=jS (by kernel_rfl)
theorem Ll:V0 G_ Co:=jS (by kernel_rfl)
theorem OC:PZ JA Dn:=cT AX rfl ⟨rfl,rfl⟩ (by kernel_rfl)
def Pe:=cG J7 (AI Bz) (AI Bz) kx
def Pf:=kE 0 [] [] 0 Pe kx
def OD:St->Option (RT (B_.outs Bz)):=lG J6 [] [0,1,5] 0 (AI Bz) Pf
def Dt (x0 x1:List (List Int)) (x2:Int):Option Bool:=OD ⟨[(0,.lst .S x0),(1,.lst .S x1),(5,.int .i64 x2)],[]⟩
def OE (x0 x1:List (List Int)) (x2:Int):Option Bool:=(if (decide (x2<(x0.length:Int)))=true then (if 0<=x2 then (if x2<(x0.length:Int) then (if 0<=x2 then (if x2<(x1.length:Int) then ((Ji (x0.getD x2.toNat ([]:List Int)) (x1.getD x2.toNat ([]:List Int))).bind fun y1=>(if (!y1)=true then (some false) else (Dt x0 x1 (i64.wrap (x2+1))))) else none) else none) else none) else none) else (some true))
def SJ (x0 x1:List (List Int)):Option Bool:=(if ((x0.length:Int) != (x1.length:Int))=true then (some false) else (Dt x0 x1 0))
theorem OF:R5 OE Dt:=lS (by kernel_rfl)
theorem SK:Qf SJ Fe:=cT Bz rfl ⟨rfl,rfl⟩ (by kernel_rfl)
def OG:=cG It (AI Bc) (AI Bc) kx
def OH:=kE 0 [] [] 0 OG kx
def NC:St->Option (RT (B_.outs Bc)):=lG Is [] [0,1,5] 0 (AI Bc) OH
def DK (x0 x1:List E) (x2:Int):Option Bool:=NC ⟨[(0,.lst AD x0),(1,.lst AD x1),(5,.int .i64 x2)],[]⟩
def ND (x0 x1:List E) (x2:Int):Option Bool:=(if (decide (x2<(x0.length:Int)))=true then (if 0<=x2 then (if x2<(x0.length:Int) then (if 0<=x2 then (if x2<(x1.length:Int) then ((II (x0.getD x2.toNat (0,0,0,0,AA,AA)) (x1.getD x2.toNat (0,0,0,0,AA,AA))).bind fun y1=>(if (!y1)=true then (some false) else (DK x0 x1 (i64.wrap (x2+1))))) else none) else none) else none) else none) else (some true))
def Qn (x0 x1:List E):Option Bool:=(if ((x0.length:Int) != (x1.length:Int))=true then (some false) else (DK x0 x1 0))
theorem NE:R5 ND DK:=lS (by kernel_rfl)
theorem Qo:Qf Qn Es:=cT Bc rfl ⟨rfl,rfl⟩ (by kernel_rfl)
def NF:=cG H6 (AI BS) (AI BS) kx
def NG:=kE 0 [] [1] 1 NF kx
def Mb:St->Option (RT (B_.outs BS)):=lG H5 [(0,0)] [0,1,5] 1 (AI BS) NG
def C2 (x0 x1:Int) (x2:List (List Int)):Option (Int×List (List Int)):=Mb ⟨[(0,.row 0),(1,.int .i64 x0),(5,.int .i64 x1)],[.mrow 35 (.own 3 .W) x2]⟩
def Eg (x0 x1:Int) (x2:List (List Int)):Option (Int×List (List Int)):=(if (decide (x1<(x2.length:Int)))=true then (if 0<=x1 then (if x1<(x2.length:Int) then ((Eu x0 (x2.getD x1.toNat ([]:List Int))).bind fun y1=>(let z2:List (List Int):=x2.set x1.toNat y1.2; (C2 y1.1 (i64.wrap (x1+1)) z2))) else none) else none) else (some (x0,x2)))
def Pg (x1:Int) (b0:List (List Int)):Option (Int×List (List Int)):=(C2 x1 0 b0)
theorem HU:R5 Eg C2:=lS (by kernel_rfl)
theorem Ph:Qf Pg GK:=cT BS rfl ⟨rfl,rfl⟩ (by kernel_rfl)
def Mc:=cG Gq (AI BM) (AI BM) kx
def Md:=kE 0 [] [1] 1 Mc kx
def Ln:St->Option (RT (B_.outs BM)):=lG Gp [(0,0)] [0,1,5] 1 (AI BM) Md
def Cp (x0 x1:Int) (x2:List E):Option (Int×List E):=Ln ⟨[(0,.row 0),(1,.int .i64 x0),(5,.int .i64 x1)],[.mrow 40 AD x2]⟩
def EK (x0 x1:Int) (x2:List E):Option (Int×List E):=(if (decide (x1<(x2.length:Int)))=true then (if 0<=x1 then (if x1<(x2.length:Int) then (let z1:List E:=x2.set x1.toNat (x0,(x2.getD x1.toNat (0,0,0,0,AA,AA)).2); (if 0<=x1 then (if x1<(z1.length:Int) then (let z2:List E:=z1.set x1.toNat ((z1.getD x1.toNat (0,0,0,0,AA,AA)).1,(i64.wrap (x0+1)),((z1.getD x1.toNat (0,0,0,0,AA,AA)).2).2); (if 0<=x1 then (if x1<(z2.length:Int) then (let z3:List E:=z2.set x1.toNat ((z2.getD x1.toNat (0,0,0,0,AA,AA)).1,((z2.getD x1.toNat (0,0,0,0,AA,AA)).2).1,(i64.wrap ((i64.wrap (x0+1))+1)),(((z2.getD x1.toNat (0,0,0,0,AA,AA)).2).2).2); (if 0<=x1 then (if x1<(z3.length:Int) then (let z4:List E:=z3.set x1.toNat ((z3.getD x1.toNat (0,0,0,0,AA,AA)).1,((z3.getD x1.toNat (0,0,0,0,AA,AA)).2).1,(((z3.getD x1.toNat (0,0,0,0,AA,AA)).2).2).1,(i64.wrap ((i64.wrap ((i64.wrap (x0+1))+1))+1)),((((z3.getD x1.toNat (0,0,0,0,AA,AA)).2).2).2).2); ((Bg (i64.wrap ((i64.wrap ((i64.wrap ((i64.wrap (x0+1))+1))+1))+1))).bind fun y5=>(if 0<=x1 then (if x1<(z4.length:Int) then (let z6:List E:=z4.set x1.toNat ((z4.getD x1.toNat (0,0,0,0,AA,AA)).1,((z4.getD x1.toNat (0,0,0,0,AA,AA)).2).1,(((z4.getD x1.toNat (0,0,0,0,AA,AA)).2).2).1,((((z4.getD x1.toNat (0,0,0,0,AA,AA)).2).2).2).1,y5,(((((z4.getD x1.toNat (0,0,0,0,AA,AA)).2).2).2).2).2); ((Bg (i64.wrap ((i64.wrap ((i64.wrap ((i64.wrap ((i64.wrap (x0+1))+1))+1))+1))+1))).bind fun y7=>(if 0<=x1 then (if x1<(z6.length:Int) then (let z8:List E:=z6.set x1.toNat ((z6.getD x1.toNat (0,0,0,0,AA,AA)).1,((z6.getD x1.toNat (0,0,0,0,AA,AA)).2).1,(((z6.getD x1.toNat (0,0,0,0,AA,AA)).2).2).1,((((z6.getD x1.toNat (0,0,0,0,AA,AA)).2).2).2).1,(((((z6.getD x1.toNat (0,0,0,0,AA,AA)).2).2).2).2).1,y7); (Cp (i64.wrap ((i64.wrap ((i64.wrap ((i64.wrap ((i64.wrap ((i64.wrap (x0+1))+1))+1))+1))+1))+1)) (i64.wrap (x1+1)) z8)) else none) else none))) else none) else none))) else none) else none)) else none) else none)) else none) else none)) else none) else none) else (some (x0,x2)))
def OI (x1:Int) (b0:List E):Option (Int×List E):=(Cp x1 0 b0)
theorem HB:R5 EK Cp:=lS (by kernel_rfl)
theorem OJ:Qf OI Ff:=cT BM rfl ⟨rfl,rfl⟩ (by kernel_rfl)
def NH:=cG H8 (AI BT) (AI BT) kx
def NI:=kE 0 [] [1] 0 NH kx
def Me:St->Option (RT (B_.outs BT)):=lG H7 [] [0,1,5] 0 (AI BT) NI
def C3 (x0:List (List Int)) (x1 x2:Int):Option Int:=Me ⟨[(0,.lst .S x0),(1,.int .i64 x1),(5,.int .i64 x2)],[]⟩
def Eh (x0:List (List Int)) (x1 x2:Int):Option Int:=(if (decide (x2<(x0.length:Int)))=true then (if 0<=x2 then (if x2<(x0.length:Int) then ((Ew (x0.getD x2.toNat ([]:List Int)) x1).bind fun y1=>(if (decide (y1<0))=true then (some (-1:Int)) else (C3 x0 y1 (i64.wrap (x2+1))))) else none) else none) else (some x1))
def Pi (x0:List (List Int)) (x1:Int):Option Int:=(C3 x0 x1 0)
theorem HV:R5 Eh C3:=lS (by kernel_rfl)
theorem Pj:Qf Pi EZ:=cT BT rfl ⟨rfl,rfl⟩ (by kernel_rfl)
def Mf:=cG Gs (AI BN) (AI BN) kx
def Mg:=kE 0 [] [1] 0 Mf kx
def Lo:St->Option (RT (B_.outs BN)):=lG Gr [] [0,1,5] 0 (AI BN) Mg
def Cq (x0:List E) (x1 x2:Int):Option Int:=Lo ⟨[(0,.lst AD x0),(1,.int .i64 x1),(5,.int .i64 x2)],[]⟩
def EL (x0:List E) (x1 x2:Int):Option Int:=(if (decide (x2<(x0.length:Int)))=true then (if 0<=x2 then (if x2<(x0.length:Int) then (if (((x0.getD x2.toNat (0,0,0,0,AA,AA)).1) != x1)=true then (some (-1:Int)) else (if 0<=x2 then (if x2<(x0.length:Int) then (if ((((x0.getD x2.toNat (0,0,0,0,AA,AA)).2).1) != (i64.wrap (x1+1)))=true then (some (-1:Int)) else (if 0<=x2 then (if x2<(x0.length:Int) then (if (((((x0.getD x2.toNat (0,0,0,0,AA,AA)).2).2).1) != (i64.wrap ((i64.wrap (x1+1))+1)))=true then (some (-1:Int)) else (if 0<=x2 then (if x2<(x0.length:Int) then (if ((((((x0.getD x2.toNat (0,0,0,0,AA,AA)).2).2).2).1) != (i64.wrap ((i64.wrap ((i64.wrap (x1+1))+1))+1)))=true then (some (-1:Int)) else (if 0<=x2 then (if x2<(x0.length:Int) then ((Bg (i64.wrap ((i64.wrap ((i64.wrap ((i64.wrap (x1+1))+1))+1))+1))).bind fun y1=>(if (!(((((((x0.getD x2.toNat (0,0,0,0,AA,AA)).2).2).2).2).1).toList==y1.toList))=true then (some (-1:Int)) else (if 0<=x2 then (if x2<(x0.length:Int) then ((Bg (i64.wrap ((i64.wrap ((i64.wrap ((i64.wrap ((i64.wrap (x1+1))+1))+1))+1))+1))).bind fun y2=>(if (!(((((((x0.getD x2.toNat (0,0,0,0,AA,AA)).2).2).2).2).2).toList==y2.toList))=true then (some (-1:Int)) else (Cq x0 (i64.wrap ((i64.wrap ((i64.wrap ((i64.wrap ((i64.wrap ((i64.wrap (x1+1))+1))+1))+1))+1))+1)) (i64.wrap (x2+1))))) else none) else none))) else none) else none)) else none) else none)) else none) else none)) else none) else none)) else none) else none) else (some x1))
def OK (x0:List E) (x1:Int):Option Int:=(Cq x0 x1 0)
theorem HC:R5 EL Cq:=lS (by kernel_rfl)
theorem OL:Qf OK Do:=cT BN rfl ⟨rfl,rfl⟩ (by kernel_rfl)
def OM:=cG FV (AI BJ) (AI BJ) kx
def ON:=kE 0 [(3,0)] [0,3,4] 1 OM kx
def NJ:St->Option (RT (B_.outs BJ)):=lG Iu [(3,0)] [0,3,4,5] 1 (AI BJ) ON
def IR (x0:ByteArray) (x1:Int) (x2:List ByteArray):Option (List ByteArray):=cG FV (AI BJ) (AI BJ) kx ⟨[(0,.str x0),(3,.row 0),(4,.int .i64 x1)],[.rows 9 .str x2]⟩
def CT (x0:ByteArray) (x1 x2:Int) (x3:List ByteArray):Option (List ByteArray):=NJ ⟨[(0,.str x0),(3,.row 0),(4,.int .i64 x1),(5,.int .i64 x2)],[.rows 9 .str x3]⟩
def IS (x0:ByteArray) (x1:Int) (x2:List ByteArray):Option (List ByteArray):=(if (decide (x1<(x0.size:Int)))=true then (if 0<=x1 then (if x1<=(x0.size:Int) then (if (x0.size:Int)<=(x0.size:Int) then (if x2.length+([(x0.extract x1.toNat (x0.size:Int).toNat)]:List ByteArray).length<=68719476736 then (some (x2++([(x0.extract x1.toNat (x0.size:Int).toNat)]:List ByteArray))) else none) else none) else none) else none) else (some x2))
def E2 (x0:ByteArray) (x1 x2:Int) (x3:List ByteArray):Option (List ByteArray):=(if (decide (x2<(x0.size:Int)))=true then (if 0<=x2 then (if x2<(x0.size:Int) then (if (((x0.data.toList.getD x2.toNat 0).toNat:Int)==10)=true then (if 0<=x1 then (if x1<=x2 then (if x2<=(x0.size:Int) then (if x3.length+([(x0.extract x1.toNat x2.toNat)]:List ByteArray).length<=68719476736 then (CT x0 (i64.wrap (x2+1)) (i64.wrap (x2+1)) (x3++([(x0.extract x1.toNat x2.toNat)]:List ByteArray))) else none) else none) else none) else none) else (CT x0 x1 (i64.wrap (x2+1)) x3)) else none) else none) else (IR x0 x1 x3))
def K_ (x0:ByteArray):Option (List ByteArray):=(CT x0 0 0 ([]:List ByteArray))
theorem NK:R5 IS IR:=jS (by kernel_rfl)
theorem IT:V0 E2 CT:=lS (by kernel_rfl)
theorem Qp:PZ K_ Et:=cT BJ rfl ⟨rfl,rfl⟩ (by kernel_rfl)
def Pk:=cG FW (AI Aw) (AI Aw) kx
def GN:=kE 0 [(4,0)] [4] 1 Pk kx
def JB:St->Option (RT (B_.outs Aw)):=lG Iv [(4,0)] [0,4,5,6] 1 (AI Aw) GN
def Pl:=kB [(4,0)] [0,4,5,6] 1 JB
def KM:=cG J_ Pl (AI Aw) GN
def KN:=kB [(4,0)] [0,4,5,6] 1 KM
def KO:=kE 1 [(4,0)] [0,4,5,6] 1 KM GN
def Du (x0:ByteArray) (x1 x2:Int) (x3:Bool) (x4:List ByteArray):Option (List ByteArray×Bool):=cG J8 KN (AI Aw) KO ⟨[(0,.str x0),(4,.row 0),(5,.int .i64 x1),(6,.int .i64 x2),(44,.bool x3)],[.rows 9 .str x4]⟩
def Dv (x0:ByteArray) (x1 x2:Int) (x3:Bool) (x4:List ByteArray):Option (List ByteArray×Bool):=cG J9 KN (AI Aw) KO ⟨[(0,.str x0),(4,.row 0),(5,.int .i64 x1),(6,.int .i64 x2),(33,.bool x3)],[.rows 9 .str x4]⟩
def JC (x0:List ByteArray):Option (List ByteArray×Bool):=cG FW (AI Aw) (AI Aw) kx ⟨[(4,.row 0)],[.rows 9 .str x0]⟩
def BO (x0:ByteArray) (x1 x2:Int) (x3:List ByteArray):Option (List ByteArray×Bool):=JB ⟨[(0,.str x0),(4,.row 0),(5,.int .i64 x1),(6,.int .i64 x2)],[.rows 9 .str x3]⟩
def JD (x0:ByteArray) (x1 x2:Int) (x3:Bool) (x4:List ByteArray):Option (List ByteArray×Bool):=(if (decide (x1<x2))=true then (if 0<=x1 then (if x1<=x2 then (if x2<=(x0.size:Int) then (if x4.length+([(x0.extract x1.toNat x2.toNat)]:List ByteArray).length<=68719476736 then (BO x0 (i64.wrap (x2+1)) (i64.wrap (x2+1)) (x4++([(x0.extract x1.toNat x2.toNat)]:List ByteArray))) else none) else none) else none) else none) else (BO x0 (i64.wrap (x2+1)) (i64.wrap (x2+1)) x4))
def Fi (x0:ByteArray) (x1 x2:Int) (x3:Bool) (x4:List ByteArray):Option (List ByteArray×Bool):=(if (decide (x2<(x0.size:Int)))=true then (if 0<=x2 then (if x2<(x0.size:Int) then (if (((x0.data.toList.getD x2.toNat 0).toNat:Int) != 32)=true then (BO x0 x1 (i64.wrap (x2+1)) x4) else (Du x0 x1 x2 (((x0.data.toList.getD x2.toNat 0).toNat:Int) != 32) x4)) else none) else none) else (Du x0 x1 x2 false x4))
def JE (x0:List ByteArray):Option (List ByteArray×Bool):=(if (decide ((x0.length:Int)>10))=true then (some (([]:List ByteArray),false)) else (some (x0,true)))
def Dw (x0:ByteArray) (x1 x2:Int) (x3:List ByteArray):Option (List ByteArray×Bool):=(if (decide (x2<=(x0.size:Int)))=true then (if (decide (x2<(x0.size:Int)))=true then (if 0<=x2 then (if x2<(x0.size:Int) then (if (decide (((x0.data.toList.getD x2.toNat 0).toNat:Int)<32))=false then (if 0<=x2 then (if x2<(x0.size:Int) then (if (decide (((x0.data.toList.getD x2.toNat 0).toNat:Int)>126))=true then (some (([]:List ByteArray),false)) else (Dv x0 x1 x2 (decide (((x0.data.toList.getD x2.toNat 0).toNat:Int)>126)) x3)) else none) else none) else (some (([]:List ByteArray),false))) else none) else none) else (Dv x0 x1 x2 false x3)) else (JC x3))
def Lq (x0:ByteArray):Option (List ByteArray×Bool):=(if (decide ((x0.size:Int)>600))=true then (some (([]:List ByteArray),false)) else (BO x0 0 0 ([]:List ByteArray)))
theorem OO:Y5 JD Du:=jS (by kernel_rfl)
theorem JF:Y5 Fi Dv:=jS (by kernel_rfl)
theorem OP:PZ JE JC:=jS (by kernel_rfl)
theorem Fj:V0 Dw BO:=lS (by kernel_rfl)
theorem SL:PZ Lq IG:=cT Aw rfl ⟨rfl,rfl⟩ (by kernel_rfl)
def NL:=cG HS (AI BD) (AI BD) kx
def E3:=kE 0 [(4,0)] [4] 1 NL kx
def HW:St->Option (RT (B_.outs BD)):=lG IA [(4,0)] [0,4,5,6] 1 (AI BD) E3
def NM:=kB [(4,0)] [0,4,5,6] 1 HW
def IU:=cG H_ NM (AI BD) E3
def NN:=kB [(4,0)] [0,4,5,6] 1 IU
def NO:=kE 1 [(4,0)] [0,4,5,6] 1 IU E3
def C4 (x0:ByteArray) (x1 x2:Int) (x3:Bool) (x4:List Int):Option (List Int×Bool):=cG H9 NN (AI BD) NO ⟨[(0,.str x0),(4,.row 0),(5,.int .i64 x1),(6,.int .i64 x2),(25,.bool x3)],[.rows 3 .W x4]⟩
def Ba (x0:ByteArray) (x1 x2:Int) (x3:List Int):Option (List Int×Bool):=HW ⟨[(0,.str x0),(4,.row 0),(5,.int .i64 x1),(6,.int .i64 x2)],[.rows 3 .W x3]⟩
def HX (x0:ByteArray) (x1 x2:Int) (x3:Bool) (x4:List Int):Option (List Int×Bool):=(if 0<=x1 then (if x1<=x2 then (if x2<=(x0.size:Int) then ((Bq (x0.extract x1.toNat x2.toNat)).bind fun y1=>(if (!y1.2)=true then (some (([]:List Int),false)) else (if x4.length+([y1.1]:List Int).length<=68719476736 then (Ba x0 (i64.wrap (x2+1)) (i64.wrap (x2+1)) (x4++([y1.1]:List Int))) else none))) else none) else none) else none)
def C5 (x0:ByteArray) (x1 x2:Int) (x3:List Int):Option (List Int×Bool):=(if (decide (x2<=(x0.size:Int)))=true then (if (decide (x2<(x0.size:Int)))=true then (if 0<=x2 then (if x2<(x0.size:Int) then (if (((x0.data.toList.getD x2.toNat 0).toNat:Int) != 44)=true then (Ba x0 x1 (i64.wrap (x2+1)) x3) else (C4 x0 x1 x2 (((x0.data.toList.getD x2.toNat 0).toNat:Int) != 44) x3)) else none) else none) else (C4 x0 x1 x2 false x3)) else (some (x3,true)))
def KP (x0:ByteArray):Option (List Int×Bool):=(Ba x0 0 0 ([]:List Int))
theorem Mh:Y5 HX C4:=jS (by kernel_rfl)
theorem Ei:V0 C5 Ba:=lS (by kernel_rfl)
theorem Pm:PZ KP GL:=cT BD rfl ⟨rfl,rfl⟩ (by kernel_rfl)
def Pn:=cG KB (AI B3) (AI B3) kx
def Po:=kE 0 [] [0] 0 Pn kx
def OQ:St->Option (RT (B_.outs B3)):=lG KA [] [0,3] 0 (AI B3) Po
def Dx (x0:List (List Int)) (x1:Int):Option Bool:=OQ ⟨[(0,.lst .S x0),(3,.int .i64 x1)],[]⟩
def Fk (x0:List (List Int)) (x1:Int):Option Bool:=(if (decide (x1<(x0.length:Int)))=true then (if 0<=x1 then (if x1<(x0.length:Int) then ((IJ (x0.getD x1.toNat ([]:List Int))).bind fun y1=>(if (!y1)=true then (some false) else (Dx x0 (i64.wrap (x1+1))))) else none) else none) else ((CF (x0.length:Int) 1 9).bind fun y2=>(some y2)))
def Lr (x0:List (List Int)):Option Bool:=(Dx x0 0)
theorem JG:Qf Fk Dx:=lS (by kernel_rfl)
theorem SM:PZ Lr Fg:=cT B3 rfl ⟨rfl,rfl⟩ (by kernel_rfl)
def OR:=cG IE (AI AR) (AI AR) kx
def Fl:=kE 0 [] [2] 2 OR kx
def IV:St->Option (RT (B_.outs AR)):=lG ID [(8,1)] [0,2,8,9] 2 (AI AR) Fl
def OS:=kB [(8,1)] [0,2,8,9] 2 IV
def JH:=cG IC OS (AI AR) Fl
def OT:=kB [(8,1)] [0,2,8,9] 2 JH
def OU:=kE 1 [(8,1)] [0,2,8,9] 2 JH Fl
def OV:=cG IF (AI AR) (AI AR) kx
def OW:=cG Ez (AI AR) (AI AR) kx
def IW (x0:List ByteArray) (x1:Int) (x2:Bool) (x3:E) (x4:List ByteArray):Option (E×Bool):=cG IB OT (AI AR) OU ⟨[(0,.lst .str x0),(2,.ptr 0 0),(8,.row 1),(9,.int .i64 x1),(79,.bool x2)],[.var (AD.enc x3),.rows 9 .str x4]⟩
def BR (x0:List ByteArray) (x1:Int) (x2:E) (x3:List ByteArray):Option (E×Bool):=IV ⟨[(0,.lst .str x0),(2,.ptr 0 0),(8,.row 1),(9,.int .i64 x1)],[.var (AD.enc x2),.rows 9 .str x3]⟩
def E4 (x0:List ByteArray) (x1:Bool) (x2:E):Option (E×Bool):=cG Ix OV (AI AR) kx ⟨[(0,.lst .str x0),(2,.ptr 0 0),(46,.bool x1)],[.var (AD.enc x2)]⟩
def DL (x0:List ByteArray) (x1:Bool) (x2:E):Option (E×Bool):=cG Ez (AI AR) (AI AR) kx ⟨[(0,.lst .str x0),(2,.ptr 0 0),(21,.bool x1)],[.var (AD.enc x2)]⟩
def E5 (x0:List ByteArray) (x1:Bool) (x2:E):Option (E×Bool):=cG Iw OW (AI AR) kx ⟨[(0,.lst .str x0),(2,.ptr 0 0),(21,.bool x1)],[.var (AD.enc x2)]⟩
def IX (x0:List ByteArray) (x1:Int) (x2:Bool) (x3:E) (x4:List ByteArray):Option (E×Bool):=(if 0<=(1:Int) then (if 1<(x0.length:Int) then ((Bq (x0.getD (1:Int).toNat AA)).bind fun y3=>(if (decide ((i64.wrap (2+x1))<=4))=true then (some (((i64.wrap (2+x1)),1,y3.1,0,AA,AA),y3.2)) else (some (((i64.wrap (2+x1)),y3.1,0,0,AA,AA),y3.2)))) else none) else none)
def CU (x0:List ByteArray) (x1:Int) (x2:E) (x3:List ByteArray):Option (E×Bool):=(if (decide (x1<(x3.length:Int)))=true then (if 0<=x1 then (if x1<(x3.length:Int) then (if 0<=(0:Int) then (if 0<(x0.length:Int) then (if (!((x3.getD x1.toNat AA).toList==(x0.getD (0:Int).toNat AA).toList))=true then (BR x0 (i64.wrap (x1+1)) x2 x3) else (if ((x0.length:Int) != 2)=true then (BR x0 (i64.wrap (x1+1)) x2 x3) else (IW x0 x1 ((x0.length:Int) != 2) x2 x3))) else none) else none) else none) else none) else (some ((0,0,0,0,AA,AA),false)))
def DM (x0:List ByteArray) (x1:Bool) (x2:E):Option (E×Bool):=(if x1=true then (if 0<=(1:Int) then (if 1<(x0.length:Int) then ((Bq (x0.getD (1:Int).toNat AA)).bind fun y2=>(if 0<=(2:Int) then (if 2<(x0.length:Int) then (some ((1,y2.1,0,2,(x0.getD (2:Int).toNat AA),AA),y2.2)) else none) else none)) else none) else none) else (BR x0 0 x2 ([(⟨#[100,101,108,105,118,101,114]⟩:ByteArray),(⟨#[100,114,111,112]⟩:ByteArray),(⟨#[99,111,112,121]⟩:ByteArray),(⟨#[97,100,111,112,116]⟩:ByteArray),(⟨#[102,97,108,108]⟩:ByteArray)]:List ByteArray)))
def E6 (x0:List ByteArray) (x1:Bool) (x2:E):Option (E×Bool):=(if 0<=(0:Int) then (if 0<(x0.length:Int) then (if ((x0.getD (0:Int).toNat AA).toList==(⟨#[103,101,116]⟩:ByteArray).toList)=true then (E4 x0 ((x0.length:Int)==3) x2) else (E4 x0 false x2)) else none) else none)
def E7 (x0:List ByteArray) (x1:Bool) (x2:E):Option (E×Bool):=(if x1=true then (if 0<=(1:Int) then (if 1<(x0.length:Int) then ((Bq (x0.getD (1:Int).toNat AA)).bind fun y1=>(if 0<=(2:Int) then (if 2<(x0.length:Int) then (if 0<=(3:Int) then (if 3<(x0.length:Int) then (some ((1,y1.1,0,1,(x0.getD (2:Int).toNat AA),(x0.getD (3:Int).toNat AA)),y1.2)) else none) else none) else none) else none)) else none) else none) else (DL x0 x1 x2))
def LA (x0:List ByteArray):Option (E×Bool):=(if 0<=(0:Int) then (if 0<(x0.length:Int) then (if ((x0.getD (0:Int).toNat AA).toList==(⟨#[112,117,116]⟩:ByteArray).toList)=true then (E5 x0 ((x0.length:Int)==4) (0,0,0,0,AA,AA)) else (E5 x0 false (0,0,0,0,AA,AA))) else none) else none)
theorem NP:Y5 IX IW:=jS (by kernel_rfl)
theorem DN:V0 CU BR:=lS (by kernel_rfl)
theorem E8:R5 DM E4:=jS (by kernel_rfl)
theorem IY:R5 E6 DL:=jS (by kernel_rfl)
theorem IZ:R5 E7 E5:=jS (by kernel_rfl)
theorem Qq:PZ LA HI:=cT AR rfl ⟨rfl,rfl⟩ (by kernel_rfl)
def Fm (x0:Bool) (x1:E):Option Bool:=cG KC (AI C8) (AI C8) kx ⟨[(1,.ptr 0 0),(17,.bool x0)],[.var (AD.enc x1)]⟩
def JI (x0:Bool) (x1:E):Option Bool:=(if (x1.1 != 1)=true then (if (x1.2.2.2.1==0)=true then (if (x1.2.2.2.2.1.toList==(⟨#[]⟩:ByteArray).toList)=true then (some (x1.2.2.2.2.2.toList==(⟨#[]⟩:ByteArray).toList)) else (some false)) else (some false)) else (if (x1.2.2.2.1==1)=false then (if (x1.2.2.2.1==2)=true then ((CF (x1.2.2.2.2.1.size:Int) 1 12).bind fun y3=>(if y3=true then (if (decide ((x1.2.2.2.2.2.size:Int)<=20))=true then (if (x1.2.2.2.1==1)=false then (some (x1.2.2.2.2.2.toList==(⟨#[]⟩:ByteArray).toList)) else (some true)) else (some false)) else (some false))) else (some false)) else ((CF (x1.2.2.2.2.1.size:Int) 1 12).bind fun y4=>(if y4=true then (if (decide ((x1.2.2.2.2.2.size:Int)<=20))=true then (if (x1.2.2.2.1==1)=false then (some (x1.2.2.2.2.2.toList==(⟨#[]⟩:ByteArray).toList)) else (some true)) else (some false)) else (some false)))))
def Ls (x0:E):Option Bool:=((CF x0.1 1 6).bind fun y1=>(if (!y1)=false then ((CF x0.2.1 1 6).bind fun y2=>(if (!y2)=false then (if (decide (x0.2.2.1<0))=true then (some false) else (Fm (decide (x0.2.2.1<0)) x0)) else (some false))) else (some false)))
theorem OX:Qf JI Fm:=jS (by kernel_rfl)
theorem SN:PZ Ls IH:=cT C8 rfl ⟨rfl,rfl⟩ (by kernel_rfl)
def De (x0:List ByteArray) (x1:Bool) (x2:List (List Int)) (x3:List E):Option (Bool×BP):=cG Gt (AI Bo) (AI Bo) kx ⟨[(0,.ptr 0 0),(5,.lst .str x0),(24,.bool x1)],[.var [.row 1,.row 2],.rows 35 (.own 3 .W) x2,.rows 40 AD x3]⟩
def Bm (x0:List ByteArray) (x1:Bool) (x2:List (List Int)) (x3:List E):Option (Bool×BP):=(if 0<=(0:Int) then (if 0<(x0.length:Int) then (if ((x0.getD (0:Int).toNat AA).toList==(⟨#[118,105,101,119]⟩:ByteArray).toList)=true then ((E1 x0 (x2,x3)).bind fun y3=>(some (y3.1,y3.2))) else ((IL x0).bind fun y4=>(if x3.length+([y4.1]:List E).length<=68719476736 then (if y4.2=true then (if (decide ((x2.length:Int)>0))=true then (some ((decide (((x3++([y4.1]:List E)).length:Int)<=70)),(x2,(x3++([y4.1]:List E))))) else (some (false,(x2,(x3++([y4.1]:List E)))))) else (some (false,(x2,(x3++([y4.1]:List E)))))) else none))) else none) else none)
def E9 (x1:ByteArray) (b0:BP):Option (Bool×BP):=((IK x1).bind fun y1=>(if (!y1.2)=true then (some (false,b0)) else (if ((y1.1.length:Int)==0)=false then (if 0<=(0:Int) then (if 0<(y1.1.length:Int) then ((Ed (y1.1.getD (0:Int).toNat AA) (⟨#[35]⟩:ByteArray)).bind fun y2=>(if y2=true then (some (true,b0)) else (De y1.1 y2 b0.1 b0.2))) else none) else none) else (some (true,b0)))))
theorem Df:V0 Bm De:=jS (by kernel_rfl)
theorem NQ:Qf E9 E0:=cT Bo rfl ⟨rfl,rfl⟩ (by kernel_rfl)
def Qr:=cG K7 (AI CG) (AI CG) kx
def Qs:=kE 0 [] [] 0 Qr kx
def Pp:St->Option (RT (B_.outs CG)):=lG K6 [] [0,1,5] 0 (AI CG) Qs
def Ea (x0 x1:List Int) (x2:Int):Option Bool:=Pp ⟨[(0,.lst .W x0),(1,.lst .W x1),(5,.int .i64 x2)],[]⟩
def Pq (x0 x1:List Int) (x2:Int):Option Bool:=(if (decide (x2<(x0.length:Int)))=true then (if 0<=x2 then (if x2<(x0.length:Int) then (if 0<=x2 then (if x2<(x1.length:Int) then (if ((x0.getD x2.toNat 0) != (x1.getD x2.toNat 0))=true then (some false) else (Ea x0 x1 (i64.wrap (x2+1)))) else none) else none) else none) else none) else (some true))
def Sz (x0 x1:List Int):Option Bool:=(if ((x0.length:Int) != (x1.length:Int))=true then (some false) else (Ea x0 x1 0))
theorem Pr:R5 Pq Ea:=lS (by kernel_rfl)
theorem S0:Qf Sz Ji:=cT CG rfl ⟨rfl,rfl⟩ (by kernel_rfl)
def Lt (x0 x1:E):Option Bool:=(if (x0.1 != x1.1)=true then (some false) else (if (x0.2.1 != x1.2.1)=true then (some false) else (if (x0.2.2.1 != x1.2.2.1)=true then (some false) else (if (x0.2.2.2.1 != x1.2.2.2.1)=true then (some false) else (if (!(x0.2.2.2.2.1.toList==x1.2.2.2.2.1.toList))=true then (some false) else (if (!(x0.2.2.2.2.2.toList==x1.2.2.2.2.2.toList))=true then (some false) else (some true)))))))
theorem SO:Qf Lt II:=cT FX rfl ⟨rfl,rfl⟩ (by kernel_rfl)
def OY:=cG Iz (AI Bd) (AI Bd) kx
def OZ:=kE 0 [] [1] 1 OY kx
def NR:St->Option (RT (B_.outs Bd)):=lG Iy [(0,0)] [0,1,5] 1 (AI Bd) OZ
def DO (x0 x1:Int) (x2:List Int):Option (Int×List Int):=NR ⟨[(0,.row 0),(1,.int .i64 x0),(5,.int .i64 x1)],[.mrow 3 .W x2]⟩
def E_ (x0 x1:Int) (x2:List Int):Option (Int×List Int):=(if (decide (x1<(x2.length:Int)))=true then (if 0<=x1 then (if x1<(x2.length:Int) then (let z1:List Int:=x2.set x1.toNat x0; (DO (i64.wrap (x0+1)) (i64.wrap (x1+1)) z1)) else none) else none) else (some (x0,x2)))
def Qt (x1:Int) (b0:List Int):Option (Int×List Int):=(DO x1 0 b0)
theorem Ia:R5 E_ DO:=lS (by kernel_rfl)
theorem Qu:Qf Qt Eu:=cT Bd rfl ⟨rfl,rfl⟩ (by kernel_rfl)
def Oa:=cG I1 (AI Be) (AI Be) kx
def Ob:=kE 0 [] [3] 0 Oa kx
def NS:St->Option (RT (B_.outs Be)):=lG I0 [] [0,3] 0 (AI Be) Ob
def DP (x0:Int) (x1:ByteArray):Option ByteArray:=NS ⟨[(0,.int .i64 x0),(3,.str x1)],[]⟩
def DQ (x0:Int) (x1:ByteArray):Option ByteArray:=(if (decide (x0>0))=true then (if 10=0 then none else (if (Dj ([(IntKind.u8.wrap (i64.wrap (48+(Int.tmod x0 10))))]:List Int)).size+x1.size<=1099511627776 then (if 10=0 then none else (DP (i64.wrap (Int.tdiv x0 10)) ((Dj ([(IntKind.u8.wrap (i64.wrap (48+(Int.tmod x0 10))))]:List Int))++x1))) else none)) else (if (⟨#[109]⟩:ByteArray).size+x1.size<=1099511627776 then (some ((⟨#[109]⟩:ByteArray)++x1)) else none))
def HJ (x0:Int):Option ByteArray:=(if (decide (x0<=0))=true then (some (⟨#[109,48]⟩:ByteArray)) else (DP x0 (⟨#[]⟩:ByteArray)))
theorem FA:Qf DQ DP:=lS (by kernel_rfl)
theorem LB:PZ HJ Bg:=cT Be rfl ⟨rfl,rfl⟩ (by kernel_rfl)
def Oc:=cG I3 (AI Bf) (AI Bf) kx
def Od:=kE 0 [] [1] 0 Oc kx
def NT:St->Option (RT (B_.outs Bf)):=lG I2 [] [0,1,5] 0 (AI Bf) Od
def DR (x0:List Int) (x1 x2:Int):Option Int:=NT ⟨[(0,.lst .W x0),(1,.int .i64 x1),(5,.int .i64 x2)],[]⟩
def FB (x0:List Int) (x1 x2:Int):Option Int:=(if (decide (x2<(x0.length:Int)))=true then (if 0<=x2 then (if x2<(x0.length:Int) then (if ((x0.getD x2.toNat 0) != x1)=true then (some (-1:Int)) else (DR x0 (i64.wrap (x1+1)) (i64.wrap (x2+1)))) else none) else none) else (some x1))
def Qv (x0:List Int) (x1:Int):Option Int:=(DR x0 x1 0)
theorem Ib:R5 FB DR:=lS (by kernel_rfl)
theorem Qw:Qf Qv Ew:=cT Bf rfl ⟨rfl,rfl⟩ (by kernel_rfl)
def Lu:=cG Dc (AI Ar) (AI Ar) kx
def Lv:=kE 0 [] [0,4] 0 Lu kx
def LG:St->Option (RT (B_.outs Ar)):=lG Gu [] [0,4,5] 0 (AI Ar) Lv
def F4 (x0:ByteArray) (x1:Int):Option (Int×Bool):=cG Dc (AI Ar) (AI Ar) kx ⟨[(0,.str x0),(4,.int .i64 x1)],[]⟩
def CW (x0:ByteArray) (x1 x2:Int):Option (Int×Bool):=LG ⟨[(0,.str x0),(4,.int .i64 x1),(5,.int .i64 x2)],[]⟩
def F5 (x0:ByteArray) (x1:Int):Option (Int×Bool):=(if (decide (x1>1000000000))=false then ((IM x1).bind fun y1=>(if (!(y1.toList==x0.toList))=true then (some (0,false)) else (some (x1,true)))) else (some (0,false)))
def Dg (x0:ByteArray) (x1 x2:Int):Option (Int×Bool):=(if (decide (x2<(x0.size:Int)))=true then (if 0<=x2 then (if x2<(x0.size:Int) then (if (decide (((x0.data.toList.getD x2.toNat 0).toNat:Int)<48))=false then (if 0<=x2 then (if x2<(x0.size:Int) then (if (decide (((x0.data.toList.getD x2.toNat 0).toNat:Int)>57))=true then (some (0,false)) else (if 0<=x2 then (if x2<(x0.size:Int) then (CW x0 (i64.wrap ((i64.wrap ((i64.wrap (10*x1))+(i64.wrap ((x0.data.toList.getD x2.toNat 0).toNat:Int))))-48)) (i64.wrap (x2+1))) else none) else none)) else none) else none) else (some (0,false))) else none) else none) else (F4 x0 x1))
def Ic (x0:ByteArray):Option (Int×Bool):=(if (decide ((x0.size:Int)>10))=true then (some (0,false)) else (CW x0 0 0))
theorem LI:Qf F5 F4:=jS (by kernel_rfl)
theorem F6:R5 Dg CW:=lS (by kernel_rfl)
theorem NU:PZ Ic Bq:=cT Ar rfl ⟨rfl,rfl⟩ (by kernel_rfl)

def Ps:=cG KE (AI B4) (AI B4) kx
def Pt:=kE 0 [] [] 0 Ps kx
def Oe:St->Option (RT (B_.outs B4)):=lG KD [] [0,3] 0 (AI B4) Pt
def Dy (x0:List Int) (x1:Int):Option Bool:=Oe ⟨[(0,.lst .W x0),(3,.int .i64 x1)],[]⟩
def Fn (x0:List Int) (x1:Int):Option Bool:=(if (decide (x1<(x0.length:Int)))=true then (if 0<=x1 then (if x1<(x0.length:Int) then ((CF (x0.getD x1.toNat 0) 1 6).bind fun y2=>(if (!y2)=true then (some false) else (if 0<=(0:Int) then (if 0<=x1 then (if x1<=(x0.length:Int) then (if 0<=x1 then (if x1<(x0.length:Int) then ((Kq ((x0.take x1.toNat).drop (0:Int).toNat) (x0.getD x1.toNat 0)).bind fun y3=>(if y3=true then (some false) else (Dy x0 (i64.wrap (x1+1))))) else none) else none) else none) else none) else none))) else none) else none) else (some true))
def Lw (x0:List Int):Option Bool:=((CF (x0.length:Int) 1 4).bind fun y1=>(if (!y1)=true then (some false) else (Dy x0 0)))
theorem JJ:Qf Fn Dy:=lS (by kernel_rfl)
theorem SP:PZ Lw IJ:=cT B4 rfl ⟨rfl,rfl⟩ (by kernel_rfl)
def Of (x0 x1 x2:Int):Option Bool:=(if (decide (x0>=x1))=true then (some (decide (x0<=x2))) else (some false))
theorem T6:R5 Of CF:=cT Hf rfl ⟨rfl,rfl⟩ (by kernel_rfl)
def Pu:=cG FY (AI Ab) (AI Ab) kx
def Pv:=kE 2 [(5,0)] [5] 1 Pu kx
def Og:St->Option (RT (B_.outs Ab)):=lG I4 [(5,0)] [5,28,29,30] 1 (AI Ab) Pv
def Pw:=cG FZ (AI Ab) (AI Ab) kx
def Px:=kE 0 [] [0] 0 Pw kx
def Oh:St->Option (RT (B_.outs Ab)):=lG KF [] [0,4] 0 (AI Ab) Px
def JK (x0:List ByteArray):Option (List ByteArray×Bool):=cG FY (AI Ab) (AI Ab) kx ⟨[(5,.row 0)],[.rows 9 .str x0]⟩
def Cr (x0:List ByteArray) (x1 x2:Int) (x3:List ByteArray):Option (List ByteArray×Bool):=Og ⟨[(5,.row 0),(28,.lst .str x0),(29,.int .i64 x1),(30,.int .i64 x2)],[.rows 9 .str x3]⟩
def JL (x0:ByteArray):Option (List ByteArray×Bool):=cG FZ (AI Ab) (AI Ab) kx ⟨[(0,.str x0)],[]⟩
def Dz (x0:ByteArray) (x1:Int):Option (List ByteArray×Bool):=Oh ⟨[(0,.str x0),(4,.int .i64 x1)],[]⟩
def JM (x0:List ByteArray):Option (List ByteArray×Bool):=(if (decide ((x0.length:Int)>10))=true then (some ([],false)) else (some (x0,true)))
def Fo (x0:List ByteArray) (x1 x2:Int) (x3:List ByteArray):Option (List ByteArray×Bool):=(if (decide (x2<x1))=true then (if 0<=x2 then (if x2<(x0.length:Int) then (if (!((x0.getD x2.toNat AA).toList==(⟨#[]⟩:ByteArray).toList))=true then (if x3.length+([(x0.getD x2.toNat AA)]:List ByteArray).length<=68719476736 then (Cr x0 x1 (i64.wrap (x2+1)) (x3++([(x0.getD x2.toNat AA)]:List ByteArray))) else none) else (Cr x0 x1 (i64.wrap (x2+1)) x3)) else none) else none) else (JK x3))
def JN (x0:ByteArray):Option (List ByteArray×Bool):=((Cg x0 (⟨#[32]⟩:ByteArray)).bind fun y1=>(Cr y1 (y1.length:Int) 0 ([]:List ByteArray)))
def Fp (x0:ByteArray) (x1:Int):Option (List ByteArray×Bool):=(if (decide (x1<(x0.size:Int)))=true then (if 0<=x1 then (if x1<(x0.size:Int) then (if (decide (((x0.data.toList.getD x1.toNat 0).toNat:Int)<32))=false then (if 0<=x1 then (if x1<(x0.size:Int) then (if (decide (((x0.data.toList.getD x1.toNat 0).toNat:Int)>126))=true then (some ([],false)) else (Dz x0 (i64.wrap (x1+1)))) else none) else none) else (some ([],false))) else none) else none) else (JL x0))
def Lx (x0:ByteArray):Option (List ByteArray×Bool):=(if (decide ((x0.size:Int)>600))=true then (some ([],false)) else (Dz x0 0))
theorem Oi:PZ JM JK:=jS (by kernel_rfl)
theorem JO:V0 Fo Cr:=lS (by kernel_rfl)
theorem Oj:PZ JN JL:=jS (by kernel_rfl)
theorem JP:Qf Fp Dz:=lS (by kernel_rfl)
theorem SQ:PZ Lx IK:=cT Ab rfl ⟨rfl,rfl⟩ (by kernel_rfl)
def HY (x0 x1:ByteArray):Option Bool:=((BX x0 x1).bind fun y1=>(some y1))
theorem Mi:Qf HY Ed:=cT C0 rfl ⟨rfl,rfl⟩ (by kernel_rfl)
def F7 (x0:List ByteArray) (x1:Bool) (x2:List (List Int)) (x3:List E):Option (Bool×BP):=cG Gv (AI Bp) (AI Bp) kx ⟨[(0,.ptr 0 0),(1,.lst .str x0),(17,.bool x1)],[.var [.row 1,.row 2],.rows 35 (.own 3 .W) x2,.rows 40 AD x3]⟩
def Dh (x0:List ByteArray) (x1:Bool) (x2:List (List Int)) (x3:List E):Option (Bool×BP):=(if 0<=(1:Int) then (if 1<(x0.length:Int) then ((Jj (x0.getD (1:Int).toNat AA)).bind fun y1=>(if x2.length+([y1.1]:List (List Int)).length<=68719476736 then (if y1.2=true then ((Fh (x2++([y1.1]:List (List Int)))).bind fun y2=>(some (y2,((x2++([y1.1]:List (List Int))),x3)))) else (some (false,((x2++([y1.1]:List (List Int))),x3)))) else none)) else none) else none)
def FC (x1:List ByteArray) (b0:BP):Option (Bool×BP):=(if ((x1.length:Int) != 2)=false then (if (decide ((b0.2.length:Int)>0))=true then (some (false,b0)) else (F7 x1 (decide ((b0.2.length:Int)>0)) b0.1 b0.2)) else (some (false,b0)))
theorem F8:V0 Dh F7:=jS (by kernel_rfl)
theorem NV:Qf FC E1:=cT Bp rfl ⟨rfl,rfl⟩ (by kernel_rfl)
def KQ:=cG GI (AI BI) (AI BI) kx
def Py:=kB [] [2,7,8] 2 KQ
def Pz:=kE 0 [] [2,7,8] 2 KQ kx
def B6 (x0:Bool) (x1 x2:E):Option (E×Bool):=cG GI (AI BI) (AI BI) kx ⟨[(2,.ptr 0 0),(7,.bool x0),(8,.ptr 1 0)],[.var (AD.enc x1),.var (AD.enc x2)]⟩
def B7 (x0:List ByteArray) (x1 x2:Int) (x3:Bool) (x4:Int) (x5:Bool) (x6 x7:E):Option (E×Bool):=cG KG Py (AI BI) Pz ⟨[(0,.lst .str x0),(2,.ptr 0 0),(5,.int .i64 x1),(6,.int .i64 x2),(7,.bool x3),(8,.ptr 1 0),(35,.int .i64 x4),(36,.bool x5)],[.var (AD.enc x6),.var (AD.enc x7)]⟩
def D0 (x0:List ByteArray) (x1 x2:Int) (x3:Bool) (x4:E):Option (E×Bool):=cG I5 (AI BI) (AI BI) kx ⟨[(0,.lst .str x0),(2,.ptr 0 0),(4,.int .i64 x1),(5,.int .i64 x2),(23,.bool x3)],[.var (AD.enc x4)]⟩
def JQ (x0:Bool) (x1 x2:E):Option (E×Bool):=(if x0=true then ((IN x2).bind fun y3=>(some (x2,y3))) else (some (x2,false)))
def D1 (x0:List ByteArray) (x1 x2:Int) (x3:Bool) (x4:Int) (x5:Bool) (x6 x7:E):Option (E×Bool):=(if x5=true then (B6 x3 x6 (x7.1,1,x2,x7.2.2.2)) else (if (x4==1)=true then (if 0<=(2:Int) then (if 2<(x0.length:Int) then (if (x1==4)=true then (if 0<=(3:Int) then (if 3<(x0.length:Int) then (B6 x3 x6 (x7.1,x7.2.1,x7.2.2.1,1,(x0.getD (2:Int).toNat AA),(x0.getD (3:Int).toNat AA))) else none) else none) else (B6 x3 x6 (x7.1,x7.2.1,x7.2.2.1,2,(x0.getD (2:Int).toNat AA),x7.2.2.2.2.2))) else none) else none) else (B6 x3 x6 x7)))
def D2 (x0:List ByteArray) (x1 x2:Int) (x3:Bool) (x4:E):Option (E×Bool):=(if 0<=(1:Int) then (if 1<(x0.length:Int) then ((DI (x0.getD (1:Int).toNat AA)).bind fun y2=>(if (x1==2)=true then (B7 x0 x2 y2.1 y2.2 x1 (x1==2) x4 (x1,y2.1,0,0,AA,AA)) else (if (x1==3)=true then (B7 x0 x2 y2.1 y2.2 x1 (x1==3) x4 (x1,y2.1,0,0,AA,AA)) else (B7 x0 x2 y2.1 y2.2 x1 (x1==4) x4 (x1,y2.1,0,0,AA,AA))))) else none) else none)
def Ly (x0:List ByteArray):Option (E×Bool):=(if 0<=(0:Int) then (if 0<(x0.length:Int) then ((Jk (x0.getD (0:Int).toNat AA)).bind fun y1=>(if (y1.1==0)=false then (if ((x0.length:Int) != y1.2)=true then (some ((0,0,0,0,AA,AA),false)) else (D0 x0 y1.1 y1.2 ((x0.length:Int) != y1.2) (0,0,0,0,AA,AA))) else (some ((0,0,0,0,AA,AA),false)))) else none) else none)
theorem Ok:R5 JQ B6:=jS (by kernel_rfl)
theorem Fq:aM D1 B7:=jS (by kernel_rfl)
theorem Fs:Y5 D2 D0:=jS (by kernel_rfl)
theorem SS:PZ Ly IL:=cT BI rfl ⟨rfl,rfl⟩ (by kernel_rfl)
def P0:=cG I6 (AI BW) (AI BW) kx
def KR:=kE 0 [] [3,4] 0 P0 kx
def JR:St->Option (RT (B_.outs BW)):=lG KJ [] [0,3,4] 0 (AI BW) KR
def KS:=kB [] [0,3,4] 0 JR
def P1:=kB [] [0,3,4] 0 KS
def P2:=kE 1 [] [0,3,4] 0 KS KR
def Ft (x0:Int) (x1:Bool) (x2:ByteArray) (x3:Int):Option ByteArray:=cG KI P1 (AI BW) P2 ⟨[(0,.int .i64 x0),(3,.bool x1),(4,.str x2),(5,.int .i64 x3)],[]⟩
def D3 (x0:Int) (x1:Bool) (x2:ByteArray):Option ByteArray:=JR ⟨[(0,.int .i64 x0),(3,.bool x1),(4,.str x2)],[]⟩
def JS (x0:Int) (x1:Bool) (x2:ByteArray) (x3:Int):Option ByteArray:=((GM x3).bind fun y1=>(if (Dj ([y1]:List Int)).size+x2.size<=1099511627776 then (if 10=0 then none else (D3 (i64.wrap (Int.tdiv x0 10)) x1 ((Dj ([y1]:List Int))++x2))) else none))
def D4 (x0:Int) (x1:Bool) (x2:ByteArray):Option ByteArray:=(if (x0 != 0)=true then (if 10=0 then none else (if (decide ((Int.tmod x0 10)<0))=true then (Ft x0 x1 x2 (i64.wrap (0-(Int.tmod x0 10)))) else (Ft x0 x1 x2 (Int.tmod x0 10)))) else (if x1=true then (if (⟨#[45]⟩:ByteArray).size+x2.size<=1099511627776 then (some ((⟨#[45]⟩:ByteArray)++x2)) else none) else (some x2)))
def Lz (x0:Int):Option ByteArray:=(if (x0==0)=true then (some (⟨#[48]⟩:ByteArray)) else (D3 x0 (decide (x0<0)) (⟨#[]⟩:ByteArray)))
theorem Ol:V0 JS Ft:=jS (by kernel_rfl)
theorem Fu:R5 D4 D3:=lS (by kernel_rfl)
theorem ST:PZ Lz IM:=cT BW rfl ⟨rfl,rfl⟩ (by kernel_rfl)
def SU:=cG Ld (AI Cl) (AI Cl) kx
def SV:=kE 0 [] [] 0 SU kx
def Qx:St->Option (RT (B_.outs Cl)):=lG Lc [] [0,1,5] 0 (AI Cl) SV
def Ex (x0:List Int) (x1 x2:Int):Option Bool:=Qx ⟨[(0,.lst .W x0),(1,.int .i64 x1),(5,.int .i64 x2)],[]⟩
def HK (x0:List Int) (x1 x2:Int):Option Bool:=(if (decide (x2<(x0.length:Int)))=true then (if 0<=x2 then (if x2<(x0.length:Int) then (if ((x0.getD x2.toNat 0)==x1)=true then (some true) else (Ex x0 x1 (i64.wrap (x2+1)))) else none) else none) else (some false))
def Om (x0:List Int) (x1:Int):Option Bool:=(Ex x0 x1 0)
theorem LC:R5 HK Ex:=lS (by kernel_rfl)
theorem T7:Qf Om Kq:=cT Cl rfl ⟨rfl,rfl⟩ (by kernel_rfl)
def Cs (x0 x1:ByteArray):Option Bool:=(if (decide ((x0.size:Int)>=(x1.size:Int)))=true then (if 0<=(0:Int) then (if 0<=(x1.size:Int) then (if (x1.size:Int)<=(x0.size:Int) then (some ((x0.extract (0:Int).toNat (x1.size:Int).toNat).toList==x1.toList)) else none) else none) else none) else (some false))
theorem Fv:Qf Cs BX:=cT BF rfl ⟨rfl,rfl⟩ (by kernel_rfl)
def Qy:=cG K9 (AI CH) (AI CH) kx
def Qz:=kE 0 [(4,1)] [4] 2 Qy kx
def P3:St->Option (RT (B_.outs CH)):=lG K8 [(4,1)] [4,10,11,12] 2 (AI CH) Qz
def Eb (x0:List ByteArray) (x1 x2:Int) (x3 x4:List Int):Option (List Int×Bool):=P3 ⟨[(4,.row 1),(10,.lst .str x0),(11,.int .i64 x1),(12,.int .i64 x2)],[.rows 3 .W x3,.rows 3 .W x4]⟩
def GO (x0:List ByteArray) (x1 x2:Int) (x3 x4:List Int):Option (List Int×Bool):=(if (decide (x2<x1))=true then (if 0<=x2 then (if x2<(x0.length:Int) then ((DI (x0.getD x2.toNat AA)).bind fun y2=>(if (!y2.2)=true then (some (([]:List Int),false)) else (if x4.length+([y2.1]:List Int).length<=68719476736 then (Eb x0 x1 (i64.wrap (x2+1)) x3 (x4++([y2.1]:List Int))) else none))) else none) else none) else (some (x4,true)))
def Mt (x0:ByteArray):Option (List Int×Bool):=((Cg x0 (⟨#[44]⟩:ByteArray)).bind fun y1=>(Eb y1 (y1.length:Int) 0 ([]:List Int) ([]:List Int)))
theorem KT:Y5 GO Eb:=lS (by kernel_rfl)
theorem S3:PZ Mt Jj:=cT CH rfl ⟨rfl,rfl⟩ (by kernel_rfl)
def P4:=cG I9 (AI Ax) (AI Ax) kx
def GP:=kE 0 [] [0] 0 P4 kx
def JT:St->Option (RT (B_.outs Ax)):=lG I8 [] [0,7,8,9] 0 (AI Ax) GP
def P5:=kB [] [0,7,8,9] 0 JT
def KU:=cG I7 P5 (AI Ax) GP
def KV:=kB [] [0,7,8,9] 0 KU
def GQ:=kE 1 [] [0,7,8,9] 0 KU GP
def P6:=cG GJ KV (AI Ax) GQ
def P7:=kE 2 [] [0,4,7,8,9] 0 P6 GQ
def On:St->Option (RT (B_.outs Ax)):=lG KK [] [0,4,7,8,9,13,14,15] 0 (AI Ax) P7
def Fw (x0:List (List Int)) (x1:List Int) (x2:List (List Int)) (x3 x4:Int):Option Bool:=cG GJ KV (AI Ax) GQ ⟨[(0,.lst .S x0),(4,.lst .W x1),(7,.lst .S x2),(8,.int .i64 x3),(9,.int .i64 x4)],[]⟩
def D5 (x0:List (List Int)) (x1:List Int) (x2:List (List Int)) (x3 x4:Int) (x5:List Int) (x6 x7:Int):Option Bool:=On ⟨[(0,.lst .S x0),(4,.lst .W x1),(7,.lst .S x2),(8,.int .i64 x3),(9,.int .i64 x4),(13,.lst .W x5),(14,.int .i64 x6),(15,.int .i64 x7)],[]⟩
def D6 (x0 x1:List (List Int)) (x2 x3:Int):Option Bool:=JT ⟨[(0,.lst .S x0),(7,.lst .S x1),(8,.int .i64 x2),(9,.int .i64 x3)],[]⟩
def JU (x0:List (List Int)) (x1:List Int) (x2:List (List Int)) (x3 x4:Int):Option Bool:=((BY (x1.length:Int) 1 4).bind fun y3=>(if (!y3)=true then (some false) else (D6 x0 x2 x3 (i64.wrap (x4+1)))))
def Fx (x0:List (List Int)) (x1:List Int) (x2:List (List Int)) (x3 x4:Int) (x5:List Int) (x6 x7:Int):Option Bool:=(if (decide (x7<x6))=true then (if 0<=x7 then (if x7<(x5.length:Int) then ((GX (x5.getD x7.toNat 0)).bind fun y1=>(if (!y1)=false then ((DJ x1 (x5.getD x7.toNat 0)).bind fun y2=>(if (y2 != x7)=true then (some false) else (D5 x0 x1 x2 x3 x4 x5 x6 (i64.wrap (x7+1))))) else (some false))) else none) else none) else (Fw x0 x1 x2 x3 x4))
def Fy (x0 x1:List (List Int)) (x2 x3:Int):Option Bool:=(if (decide (x3<x2))=true then (if 0<=x3 then (if x3<(x1.length:Int) then (D5 x0 (x1.getD x3.toNat ([]:List Int)) x1 x2 x3 (x1.getD x3.toNat ([]:List Int)) ((x1.getD x3.toNat ([]:List Int)).length:Int) 0) else none) else none) else ((BY (x0.length:Int) 1 9).bind fun y4=>(some y4)))
def L0 (x0:List (List Int)):Option Bool:=(D6 x0 x0 (x0.length:Int) 0)
theorem Oo:Y5 JU Fw:=jS (by kernel_rfl)
theorem JV:aM Fx D5:=lS (by kernel_rfl)
theorem JW:V0 Fy D6:=lS (by kernel_rfl)
theorem SW:PZ L0 Fh:=cT Ax rfl ⟨rfl,rfl⟩ (by kernel_rfl)
def Mu (x0:ByteArray):Option (Int×Int):=(if (x0.toList==(⟨#[112,117,116]⟩:ByteArray).toList)=true then (some (1,4)) else (if (x0.toList==(⟨#[103,101,116]⟩:ByteArray).toList)=true then (some (1,3)) else (if (x0.toList==(⟨#[100,101,108,105,118,101,114]⟩:ByteArray).toList)=true then (some (2,2)) else (if (x0.toList==(⟨#[100,114,111,112]⟩:ByteArray).toList)=true then (some (3,2)) else (if (x0.toList==(⟨#[99,111,112,121]⟩:ByteArray).toList)=true then (some (4,2)) else (if (x0.toList==(⟨#[97,100,111,112,116]⟩:ByteArray).toList)=true then (some (5,2)) else (if (x0.toList==(⟨#[102,97,108,108]⟩:ByteArray).toList)=true then (some (6,2)) else (some (0,0)))))))))
theorem S4:PZ Mu Jk:=cT GV rfl ⟨rfl,rfl⟩ (by kernel_rfl)
def L1:=cG Dd (AI Aa) (AI Aa) kx
def L2:=kE 0 [] [0,4] 0 L1 kx
def LJ:St->Option (RT (B_.outs Aa)):=lG Gw [] [0,4,5] 0 (AI Aa) L2
def F9 (x0:ByteArray) (x1:Int):Option (Int×Bool):=cG Dd (AI Aa) (AI Aa) kx ⟨[(0,.str x0),(4,.int .i64 x1)],[]⟩
def CX (x0:ByteArray) (x1 x2:Int):Option (Int×Bool):=LJ ⟨[(0,.str x0),(4,.int .i64 x1),(5,.int .i64 x2)],[]⟩
def F_ (x0:ByteArray) (x1:Bool):Option (Int×Bool):=cG F3 (AI Aa) (AI Aa) kx ⟨[(0,.str x0),(13,.bool x1)],[]⟩
def GA (x0:ByteArray) (x1:Int):Option (Int×Bool):=(if (decide (x1>1000000000))=false then ((IP x1).bind fun y1=>(if (!(y1.toList==x0.toList))=true then (some (0,false)) else (some (x1,true)))) else (some (0,false)))
def Di (x0:ByteArray) (x1 x2:Int):Option (Int×Bool):=(if (decide (x2<(x0.size:Int)))=true then (if 0<=x2 then (if x2<(x0.size:Int) then (if (decide (((x0.data.toList.getD x2.toNat 0).toNat:Int)<48))=false then (if 0<=x2 then (if x2<(x0.size:Int) then (if (decide (((x0.data.toList.getD x2.toNat 0).toNat:Int)>57))=true then (some (0,false)) else (if 0<=x2 then (if x2<(x0.size:Int) then (CX x0 (i64.wrap ((i64.wrap (x1*10))+(i64.wrap (IntKind.u8.wrap (((x0.data.toList.getD x2.toNat 0).toNat:Int)-48))))) (i64.wrap (x2+1))) else none) else none)) else none) else none) else (some (0,false))) else none) else none) else (F9 x0 x1))
def GB (x0:ByteArray) (x1:Bool):Option (Int×Bool):=(CX x0 0 0)
def Id (x0:ByteArray):Option (Int×Bool):=(if ((x0.size:Int)==0)=false then (if (decide ((x0.size:Int)>10))=true then (some (0,false)) else (F_ x0 (decide ((x0.size:Int)>10)))) else (some (0,false)))
theorem LK:Qf GA F9:=jS (by kernel_rfl)
theorem GC:R5 Di CX:=lS (by kernel_rfl)
theorem LL:Qf GB F_:=jS (by kernel_rfl)
theorem NW:PZ Id DI:=cT Aa rfl ⟨rfl,rfl⟩ (by kernel_rfl)
def Fz (x0:Bool) (x1:E):Option Bool:=cG KL (AI C9) (AI C9) kx ⟨[(1,.ptr 0 0),(17,.bool x0)],[.var (AD.enc x1)]⟩
def JX (x0:Bool) (x1:E):Option Bool:=(if (x1.1==1)=true then ((Kr x1.2.2.2.1 0 x1.2.2.2.2.1 x1.2.2.2.2.2).bind fun y3=>(some y3)) else (if (x1.2.2.2.1==0)=true then (if (x1.2.2.2.2.1.toList==(⟨#[]⟩:ByteArray).toList)=true then (some (x1.2.2.2.2.2.toList==(⟨#[]⟩:ByteArray).toList)) else (some false)) else (some false)))
def L3 (x0:E):Option Bool:=((BY x0.1 1 6).bind fun y1=>(if (!y1)=false then ((GX x0.2.1).bind fun y2=>(if (!y2)=false then (if (decide (x0.2.2.1<0))=true then (some false) else (Fz (decide (x0.2.2.1<0)) x0)) else (some false))) else (some false)))
theorem Oq:Qf JX Fz:=jS (by kernel_rfl)
theorem SX:PZ L3 IN:=cT C9 rfl ⟨rfl,rfl⟩ (by kernel_rfl)
def KW (x0:Int):Option Int:=(if (decide (x0<10))=true then (some (IntKind.u8.wrap (i64.wrap (48+x0)))) else (some (IntKind.u8.wrap (i64.wrap ((i64.wrap (97+x0))-10)))))
theorem P8:PZ KW GM:=cT EX rfl ⟨rfl,rfl⟩ (by kernel_rfl)
def Mv (x0:Int):Option Bool:=((BY x0 1 6).bind fun y1=>(some y1))
theorem S5:PZ Mv GX:=cT GW rfl ⟨rfl,rfl⟩ (by kernel_rfl)
def Jm:=cG Em (AI Ao) (AI Ao) kx
def Jn:=kE 0 [] [] 0 Jm kx
def Ii:St->Option (RT (B_.outs Ao)):=lG El [] [0,1,7,8] 0 (AI Ao) Jn
def Bk (x0:List Int) (x1 x2 x3:Int):Option Int:=Ii ⟨[(0,.lst .W x0),(1,.int .i64 x1),(7,.int .i64 x2),(8,.int .i64 x3)],[]⟩
def Bl (x0:List Int) (x1 x2 x3:Int):Option Int:=(if (decide (x3<x2))=true then (if 0<=x3 then (if x3<(x0.length:Int) then (if (x1==(x0.getD x3.toNat 0))=true then (some x3) else (Bk x0 x1 x2 (i64.wrap (x3+1)))) else none) else none) else (some (-1:Int)))
def Ku (x0:List Int) (x1:Int):Option Int:=(Bk x0 x1 (x0.length:Int) 0)
theorem Cf:V0 Bl Bk:=lS (by kernel_rfl)
theorem Kv:Qf Ku DJ:=cT Ao rfl ⟨rfl,rfl⟩ (by kernel_rfl)
def L4 (x0 x1 x2:Int):Option Bool:=(if (decide (x0>=x1))=true then (some (decide (x0<=x2))) else (some false))
theorem SY:R5 L4 BY:=cT Fb rfl ⟨rfl,rfl⟩ (by kernel_rfl)
def L5 (x0:Int):Option ByteArray:=((IQ x0).bind fun y1=>(some y1))
theorem SZ:PZ L5 IP:=cT Fc rfl ⟨rfl,rfl⟩ (by kernel_rfl)
def HL (x0:Int) (x1:ByteArray) (x2:Bool):Option Bool:=cG Le (AI EY) (AI EY) kx ⟨[(0,.int .i64 x0),(3,.str x1),(26,.bool x2)],[]⟩
def LD (x0:Int) (x1:ByteArray) (x2:Bool):Option Bool:=(if (x0==1)=false then (some (x1.toList==(⟨#[]⟩:ByteArray).toList)) else (some true))
def Or (x0 x1:Int) (x2 x3:ByteArray):Option Bool:=((BY x0 1 2).bind fun y1=>(if (!y1)=false then ((BY x1 0 1000).bind fun y2=>(if (!y2)=false then ((Kt x2).bind fun y3=>(if (!y3)=false then (if (decide ((x3.size:Int)>20))=true then (some false) else (HL x0 x3 (decide ((x3.size:Int)>20)))) else (some false))) else (some false))) else (some false)))
theorem Q0:R5 LD HL:=jS (by kernel_rfl)
theorem T8:V0 Or Kr:=cT EY rfl ⟨rfl,rfl⟩ (by kernel_rfl)
def Ot (x0:ByteArray):Option Bool:=((BY (x0.size:Int) 1 12).bind fun y1=>(some y1))
theorem T9:PZ Ot Kt:=cT Hg rfl ⟨rfl,rfl⟩ (by kernel_rfl)
end
end Go.Proofs.YtfcgblnlopemkaaDoor.Core


namespace Go.Proofs.YtfcgblnlopemkaaDoor.Core
open Go
theorem BK {n:Int} (h:-9223372036854775808<=n/\n<=9223372036854775807):IntKind.i64.wrap n=n:=IntWalk.i64_in n h
theorem AZ {i:Nat} (h:i<9223372036854775807):IntKind.i64.wrap ((i:Int)+1)=((i+1:Nat):Int):=by
 rw [BK (by omega)]
 omega
theorem VU {P:Nat->Prop} {n:Nat} (h0:P n) (h:∀ i,i<n->P (i+1)->P i):∀ i,i<=n->P i:=by
 intro i hi
 induction hk:n-i generalizing i with
 | zero =>
  have:i=n:=by omega
  subst this
  exact h0
 | succ k ih=>exact h i (by omega) (ih (i+1) (by omega) (by omega))
theorem DS {α:Type} {xs:List α} {i:Nat} {d:α} (h:i<xs.length):xs.getD i d=xs[i]:=by
 simp [List.getD,h]
end Go.Proofs.YtfcgblnlopemkaaDoor.Core
