/- Texts of the proof, packed: part 3. -/
import Derived.Test.YtffahmnodgnohaaP1
import Derived.OrdersHeld
import Derived.ChangeArms
import Derived.Below
import Derived.Test.YtffahmnodgnohaaProg
import Derived.Shelf.SlLaysE0
import Derived.Shelf.RegionOpenPlain
import Derived.WalkKit
import Derived.Deep.LoopGhost
import Derived.Lib.Walk
import Derived.Lib.SliceRun
import Derived.Shelf.Lays2
import Derived.Lib.JoinLaws
import Derived.Lib.AppendZeros
import Derived.Lib.Overlaps
import Derived.Laws.Externs
import Derived.Laws.IdiomCopy
import Derived.Laws.CopyRow
import Derived.Maps.AppendAt
import Derived.Shelf.Small.Strs
import Derived.Shelf.Spec.SlicesInsert
import Derived.Shelf.SlicesE.DeleteFunc
set_option linter.unusedVariables false
set_option linter.unusedSimpArgs false
namespace Go.Proofs.Ytffahmnodgnohaa.Core
open Go
variable {P:Program}
abbrev Rf:=List (Nat×(World->Prop))
def KZ (anc:List Nat):Rf->Rf
 | []=>[]
 | p::r=>if Az anc p.1=true then KZ anc r else p::KZ anc r
theorem Du {anc:List Nat}:∀ {T:Rf},∀ p∈KZ anc T,p∈T/\Az anc p.1=false
 | [],p,h=>by cases h
 | q::r,p,h=>by
  simp only [KZ] at h
  split at h
  ·obtain ⟨h1,h2⟩:=Du p h
   exact ⟨by simp [h1],h2⟩
  ·rename_i hq
   rcases AQ.1 h with rfl | h
   ·exact ⟨by simp,by simpa using hq⟩
   ·obtain ⟨h1,h2⟩:=Du p h
    exact ⟨by simp [h1],h2⟩
theorem Sn {anc:List Nat}:∀ {T:Rf} {p},p∈T->Az anc p.1=false->p∈KZ anc T
 | [],p,h,_=>by cases h
 | q::r,p,h,hn=>by
  simp only [KZ]
  rcases AQ.1 h with rfl | h
  ·rw [if_neg (by rw [hn]; simp)]; simp
  ·split
   ·exact Sn h hn
   ·exact List.mem_cons_of_mem _ (Sn h hn)
theorem XC {anc:List Nat} {i:Nat} {C:World->Prop} {T:Rf} (h:Az anc i=false):KZ anc ((i,C)::T)=(i,C)::KZ anc T:=by
 show (if Az anc i=true then KZ anc T else (i,C)::KZ anc T)=_
 rw [h]
 rfl
def ON (P:Program) (ops:Array Oper) (Q:Exit->Act->World->Prop) (anc:Nat->List Nat):Nat->Rf->Array Bool->Act->World->Prop
 | 0,_,listed,a,w=>Region.ready .any ops listed=[]/\Q .normal a w
 | fuel+1,T,listed,a,w =>
  (Region.ready .any ops listed=[]->Q .normal a w) /\
  ∀ i∈Region.ready .any ops listed,wpOp P ops Q i (fun a' w'=>(∀ p∈KZ (anc i) T,p.2 w')/\ON P ops Q anc fuel (KZ (anc i) T) (listed.setIfInBounds i true) a' w') a w
theorem So {ops:Array Oper} {Q:Exit->Act->World->Prop} {anc:Nat->List Nat}:∀ (fuel:Nat) (T:Rf) (listed:Array Bool) (a:Act) (w:World),ON P ops Q anc fuel T listed a w->wpAny P .any ops Q fuel listed a w
 | 0,_,_,_,_,h=>h
 | fuel+1,_,_,_,_,h=>⟨h.1,fun i hi=>wpOp_mono (fun a' w' h'=>So fuel _ _ a' w' h'.2) (h.2 i hi)⟩
theorem N4 {ops:Array Oper} {Q:Exit->Act->World->Prop} {anc:Nat->List Nat}:∀ (fuel:Nat) {T T':Rf} (listed:Array Bool) (a:Act) (w:World),(∀ p∈T',p∈T)->ON P ops Q anc fuel T listed a w->ON P ops Q anc fuel T' listed a w
 | 0,_,_,_,_,_,_,h=>h
 | fuel+1,T,T',_,_,_,hs,h=>⟨h.1,fun i hi=>wpOp_mono (fun a' w' h'=>by
   have hsub:∀ p∈KZ (anc i) T',p∈KZ (anc i) T:=fun p hp=>by
    obtain ⟨h1,h2⟩:=Du p hp
    exact Sn (hs p h1) h2
   exact ⟨fun p hp=>h'.1 p (hsub p hp),N4 fuel _ a' w' hsub h'.2⟩) (h.2 i hi)⟩
def TU (ops:Array Oper) (listed:Array Bool):Prop:=∀ k o,listed.getD k false=true->ops[k]? = some o->∀ e∈o.after,Region.binds .any e=true->listed.getD e.on false=true
def Sp (ops:Array Oper) (i:Nat):List Nat:=match ops[i]? with
 | some o=>(o.after.filter fun e=>Region.binds .any e).toList.map (·.on)
 | none=>[]
def Vz (ops:Array Oper) (anc:List (List Nat)):Bool :=
 (List.range ops.size).all fun i=>(Sp ops i).all (fun p=>decide (p<i))&&(anc.getD i []).all fun j=>(Sp ops i).any (fun p=>p==j)||(Sp ops i).any fun p=>Az (anc.getD p []) j
theorem It {ops:Array Oper} {anc:List (List Nat)} (hA:Vz ops anc=true) {listed:Array Bool} (hs:TU ops listed):∀ (i:Nat),(∀ p∈Sp ops i,listed.getD p false=true)->i<ops.size->∀ j∈anc.getD i [],listed.getD j false=true:=by
 intro i
 induction i using Nat.strongRecOn with
 | _ i ih =>
  intro hp hi j hj
  have h1:=Ax.1 hA i (List.mem_range.2 hi)
  simp only [AD,Ax,List.any_eq_true,Ez,beq_iff_eq,decide_eq_true_eq] at h1
  rcases h1.2 j hj with ⟨p,hpm,rfl⟩ | ⟨p,hpm,hpj⟩
  ·exact hp p hpm
  ·have hlt:=h1.1 p hpm
   refine ih p hlt (fun q hq=>?_) (by omega) j (Bx.1 hpj)
   unfold Sp at hq
   split at hq
   ·rename_i o ho
    simp only [List.mem_map,Array.mem_toList_iff,Array.mem_filter] at hq
    obtain ⟨e,⟨he,hb⟩,rfl⟩:=hq
    exact hs p o (hp p hpm) ho e he hb
   ·cases hq
theorem CW {ops:Array Oper} {listed:Array Bool} {i:Nat} (h:i∈Region.ready .any ops listed):(∀ p∈Sp ops i,listed.getD p false=true)/\i<ops.size:=by
 obtain ⟨_,o,ho,hall⟩:=mem_ready.1 h
 refine ⟨fun p hp=>?_,(Array.getElem?_eq_some_iff.1 ho).1⟩
 unfold Sp at hp
 rw [ho] at hp
 simp only [List.mem_map,Array.mem_toList_iff,Array.mem_filter] at hp
 obtain ⟨e,⟨he,hb⟩,rfl⟩:=hp
 exact hall e he hb
theorem TU.set {ops:Array Oper} {listed:Array Bool} (hs:TU ops listed) {i:Nat} (h:i∈Region.ready .any ops listed):TU ops (listed.setIfInBounds i true):=by
 intro k o hk ho e he hb
 by_cases hik:i=k
 ·subst hik
  obtain ⟨_,o',ho',hall⟩:=mem_ready.1 h
  rw [ho] at ho'
  cases ho'
  exact getD_set_true (hall e he hb)
 ·rw [getD_set_ne false hik] at hk
  exact getD_set_true (hs k o hk ho e he hb)
theorem Cv {ops:Array Oper} {listed:Array Bool} {i:Nat} (h:i∈Region.ready .any ops listed):listed.getD i false=false:=by
 have h0:=(mem_ready.1 h).1
 rcases BI i listed.size with h' | h'
 ·simp [h'] at h0 ⊢; exact h0
 ·simp [Array.getElem?_eq_none h']
theorem Pj {ops:Array Oper} {Q:Exit->Act->World->Prop} {anc:List (List Nat)} (hA:Vz ops anc=true) {i:Nat} {oi:Oper} {v:Value} {C:World->Prop} (hi:ops[i]? = some oi)
  (hsel:∀ (j:Nat) (o:Oper) cs b,ops[j]? = some o->o.op≠.select cs b) (hQ:∀ c a w,Q (.panic c) (a.put oi.dst v) w->Q (.panic c) a w) :
  ∀ (fuel:Nat) (T:Rf) (listed:Array Bool) (a:Act) (w:World),TU ops listed ->
   (∀ j oj,ops[j]? = some oj->j≠i->listed.getD j true=false->(∀ e∈oj.after,Region.binds .any e=true->e.on≠i)->oi.apart ops oj=true) ->
   i∈Region.ready .any ops listed->YieldsIf P ops C oi v a->C w->(∀ p∈T,p.2 w) ->
   ON P ops Q (fun i=>anc.getD i []) fuel ((i,C)::T) (listed.setIfInBounds i true) (a.put oi.dst v) w->ON P ops Q (fun i=>anc.getD i []) (fuel+1) T listed a w:=by
 intro fuel
 induction fuel with
 | zero =>
  intro T listed a w hsh _ hr hy hC hT H
  refine ⟨fun h=>(by rw [h] at hr; cases hr),fun j hj=>?_⟩
  by_cases hji:j=i
  ·subst hji; exact hy.wpOp hi hC ⟨fun p hp=>hT p (Du p hp).1,H⟩
  ·have:=ready_mono hj hji
   rw [H.1] at this
   cases this
 | succ fuel ih =>
  intro T listed a w hsh hfree hr hy hC hT H
  refine ⟨fun h=>(by rw [h] at hr; cases hr),fun j hj=>?_⟩
  by_cases hji:j=i
  ·subst hji
   refine hy.wpOp hi hC ⟨fun p hp=>hT p (Du p hp).1,N4 _ _ _ _ (fun p hp=>?_) H⟩
   exact List.mem_cons_of_mem _ (Du p hp).1
  ·have h1:=H.2 j (ready_mono hj hji)
   obtain ⟨hjun,oj,hoj,hall⟩:=mem_ready.1 hj
   have hnot:∀ e∈oj.after,Region.binds .any e=true->e.on≠i:=fun e he hb heq=>by
    have h1:=hall e he hb
    have h0:=Cv hr
    rw [heq] at h1
    rw [h0] at h1
    cases h1
   have hnanc:Az (anc.getD j []) i=false:=by
    rw [Ak]
    intro hm
    have:=It hA hsh j (CW hj).1 (CW hj).2 i hm
    rw [Cv hr] at this
    cases this
   have hcut:KZ (anc.getD j []) ((i,C)::T)=(i,C)::KZ (anc.getD j []) T:=XC hnanc
   simp only [hcut] at h1
   have h2:=wpOp_putIf hoj (hfree j oj hoj hji hjun hnot) (fun cs b=>hsel i oi cs b hi) (fun cs b=>hsel j oj cs b hoj) hQ hy h1
   have hfree':∀ k ok,ops[k]? = some ok->k≠i->(listed.setIfInBounds j true).getD k true=false ->
     (∀ e∈ok.after,Region.binds .any e=true->e.on≠i)->oi.apart ops ok=true:=fun k ok hk hki hun hno=>by
    refine hfree k ok hk hki ?_ hno
    by_cases hjk:j=k
    ·subst hjk; exact hjun
    ·rw [getD_set_ne true hjk] at hun; exact hun
   refine wpOp_mono (fun a' w' h3=>?_) h2
   obtain ⟨hy',hp',hG⟩:=h3
   have hC':C w':=hp' (i,C) (by simp)
   have hT':∀ p∈KZ (anc.getD j []) T,p.2 w':=fun p hp=>hp' p (List.mem_cons_of_mem _ hp)
   refine ⟨hT',ih _ (listed.setIfInBounds j true) a' w' (hsh.set hj) hfree' (ready_mono hr (Ne.symm hji)) hy' hC' hT' ?_⟩
   rw [Array.setIfInBounds_comm _ _ hji]
   exact hG
theorem Yz {o:Oper} {a:Act} {w:World} {I:Prop} (h:o.wp P a w (fun _ _=>I) (fun _ _ _=>I)):I:=by
 unfold Oper.wp at h
 generalize (execOp a.eval o).run P w=r at h
 cases r with
 | ok n w' =>
  cases n<;>simp only [Oper.upon] at h<;>try exact h
  case enter f args =>
   obtain ⟨e,w2,fr,hr,_⟩:=h []
   cases e with
   | returned v=>exact hr
   | panicked c=>exact hr
   | outgrown=>exact hr.elim fun _ h=>h.elim fun _ h=>h
  case row row args =>
   obtain ⟨v,w2,hr,_⟩:=h default []
   exact hr
 | halt x w' =>
  cases x<;>simp only [Oper.upon] at h
  case panic v=>exact h
def gB (ops:Array Oper) (o:Oper):Option (Nat×Bool)->Bool
 | none=>o.guard.isNone
 | some g=>match o.guard with
  | some (j,want)=>want==g.2&&Re ops j==some g.1
  | none=>false
def XD (L:Array Bool) (fl:List Nat):Array Bool:=fl.foldl (fun L i=>L.setIfInBounds i true) L
def Xx (ops:Array Oper) (i:Nat) (js:List Nat):Bool :=
 js.all fun j=>match ops[i]?,ops[j]? with
  | some a,some b=>a.apart ops b&&b.apart ops a
  | _,_=>false
def Kr (ops:Array Oper):List Nat->Bool
 | []=>true
 | i::r=>!Az r i&&Xx ops i r&&Kr ops r
def V0 (P:Program) (n:Nat) (ops:Array Oper) (L:Array Bool) (f:Nat×Cj):Bool :=
 (Region.ready .any ops L).contains f.1&&f.2.isFloat&&(match ops[f.1]? with
  | some o=>SI P n o f.2&&decide (o.dst.toList=f.2.dsts)&&o.guard.isNone&&(match o.dst with
   | some d=>!(o.looksAt ops).contains d&&decide (d<n)
   | none=>false)
  | none=>false)
def SJ (P:Program) (n:Nat) (ops:Array Oper):DT->Array Bool->List Nat->Bool
 | .done,L,F=>(Region.ready .any ops L).isEmpty&&F.isEmpty
 | .take i g ao r,L,F=>(Region.ready .any ops L).contains i&&Region.free .any ops L i&&!Az F i&&ao.isVal&&(match ops[i]? with
   | some o=>gB ops o g&&SI P n o ao&&decide (o.dst.toList=ao.dsts)
   | none=>false)&&SJ P n ops r (L.setIfInBounds i true) F
 | .skip i g d r,L,F=>(Region.ready .any ops L).contains i&&Region.free .any ops L i&&!Az F i&&(match ops[i]? with
   | some o=>gB ops o (some g)&&decide (o.dst=d)&&(match d with | some d=>decide (d<n) | none=>true)
   | none=>false)&&SJ P n ops r (L.setIfInBounds i true) F
 | .only i g ao e fl r,L,F=>(Region.ready .any ops L).contains i&&(Region.ready .any ops (XD L (fl.map (·.1)))).all (· == i)&&F.all (fun f=>f==i||Az (fl.map (·.1)) f)&&(!Az F i||(e&&ao.isFloat))
   && fl.all (V0 P n ops L)&&Kr ops (i::fl.map (·.1))&&(match ops[i]? with
   | some o=>gB ops o g&&SI P n o ao&&decide (o.dst.toList=ao.dsts)
   | none=>false)&&SJ P n ops r (L.setIfInBounds i true) (fl.map (·.1))
 | .test _ a b,L,F=>SJ P n ops a L F&&SJ P n ops b L F
 | .fork i ai ri j aj rj,L,F=>F.isEmpty&&(Region.ready .any ops L).contains i&&(Region.ready .any ops L).all (fun k=>k==i||k==j)
   && (match ops[i]? with
   | some o=>gB ops o none&&SI P n o ai&&decide (o.dst.toList=ai.dsts)
   | none=>false)&&(match ops[j]? with
   | some o=>gB ops o none&&SI P n o aj&&decide (o.dst.toList=aj.dsts)
   | none=>false)&&SJ P n ops ri (L.setIfInBounds i true) []&&SJ P n ops rj (L.setIfInBounds j true) []
def WV (P:Program) (n:Nat) (ops:Array Oper) (anc:List (List Nat)) (t:DT):Bool :=
 P.follows .mixedOrders&&Region.noSelect ops&&Vz ops anc&&SJ P n ops t (Array.replicate ops.size false) []
theorem VH {H:HP} {φ:BF} {s:St} {act:Act} (hf:Ca H φ s.st s.fr act.tmps) {c:Nat} {t:Bool} (h:Cd s.fr c=.bool t):act.tmps[c]? = some (.bool t):=by
 have hfc:=hf c
 rw [h] at hfc
 have hfc:act.tmps.getD c undef=.bool t:=hfc
 rw [Array.getD_eq_getD_getElem?] at hfc
 cases hq:act.tmps[c]? with
 | none=>rw [hq] at hfc; cases hfc
 | some v=>rw [hq] at hfc; simpa using hfc
theorem Lb {H:HP} {φ:BF} {s:St} {act:Act} {ops:Array Oper} {o:Oper} {g:Option (Nat×Bool)} (hf:Ca H φ s.st s.fr act.tmps) (h:aL s g=true) (hb:gB ops o g=true):Region.wanted o (yielded ops act.tmps)=true:=by
 cases g with
 | none =>
  simp only [gB,Option.isNone_iff_eq_none] at hb
  exact Is hb trivial
 | some g =>
  simp only [gB] at hb
  split at hb
  ·rename_i j want hg
   simp only [AD,beq_iff_eq] at hb
   obtain ⟨rfl,hb2⟩:=hb
   simp only [aL] at h
   split at h
   ·rename_i t ht
    simp only [beq_iff_eq] at h
    subst h
    exact Is hg ⟨g.1,hb2,VH hf ht⟩
   ·cases h
  ·cases hb
theorem VI {H:HP} {φ:BF} {s:St} {act:Act} {ops:Array Oper} {o:Oper} {g:Nat×Bool} (hf:Ca H φ s.st s.fr act.tmps) (h:ZW s g=true) (hb:gB ops o (some g)=true):Region.wanted o (yielded ops act.tmps)=false:=by
 simp only [gB] at hb
 split at hb
 ·rename_i j want hg
  simp only [AD,beq_iff_eq] at hb
  obtain ⟨rfl,hb2⟩:=hb
  refine OL hg hb2 ?_
  unfold ZW at h
  split at h
  ·rename_i t ht
   rw [VH hf ht]
   intro e
   cases e
   simp at h
  ·rename_i ht
   have hv:=hf g.1
   rw [ht] at hv
   have hv:act.tmps.getD g.1 undef=undef:=hv
   intro e
   rw [Array.getD_eq_getD_getElem?,e] at hv
   cases hv
  ·cases h
 ·cases hb
def RS (act:Act) (w:World) (T:List (Nat×Nat)) (TT:Rf):Prop :=
 ∀ p∈TT,p.2 w/\((∀ w2,p.2 w2)\/∃ x,(p.1,x)∈T/\∃ w0:World,p.2=fun w2=>∀ b,BQ (act.tmps.getD x undef) b->w2.heap[b]? = w0.heap[b]?)
theorem Il {ds:List Nat}:∀ {T:List (Nat×Nat)},ES ds T=true->∀ p∈T,p.2∉ds
 | [],_,p,hp=>by cases hp
 | q::r,h,p,hp=>by
  simp only [ES,AD,DH] at h
  rcases AQ.1 hp with rfl | hp
  ·exact Ak.1 h.1
  ·exact Il h.2 p hp
theorem G6 {act:Act} {dst:Option Tmp} {v:Value} {t:Nat} (h:dst≠some t):(act.put dst v).tmps.getD t undef=act.tmps.getD t undef:=by
 rw [Array.getD_eq_getD_getElem?,Array.getD_eq_getD_getElem?,Fs h]
theorem RS.put {act:Act} {w:World} {T:List (Nat×Nat)} {TT:Rf} (h:RS act w T TT) {dst:Option Tmp} {v:Value} (hf:ES dst.toList T=true):RS (act.put dst v) w T TT:=by
 intro p hp
 obtain ⟨h1,h2⟩:=h p hp
 refine ⟨h1,?_⟩
 rcases h2 with h2 | ⟨x,hx,w0,e⟩
 ·exact .inl h2
 ·refine .inr ⟨x,hx,w0,?_⟩
  have:=Il hf _ hx
  rw [G6 (fun e=>this (by rw [e]; simp))]
  exact e
theorem Ft {anc:List Nat}:∀ {T:List (Nat×Nat)} {p},p∈T->Az anc p.1=false->p∈D4 anc T
 | [],p,h,_=>by cases h
 | q::r,p,h,hn=>by
  simp only [D4]
  rcases AQ.1 h with rfl | h
  ·rw [if_neg (by rw [hn]; simp)]; simp
  ·split
   ·exact Ft h hn
   ·exact List.mem_cons_of_mem _ (Ft h hn)
theorem Kt {anc tch:List Nat} {s:St}:∀ {T:List (Nat×Nat)},LR anc tch s T=true->∀ p∈T,Az anc p.1=false->(Cd s.fr p.2).clear tch=true
 | [],_,p,hp,_=>by cases hp
 | q::r,h,p,hp,hn=>by
  simp only [LR,AD,Ez] at h
  rcases AQ.1 hp with rfl | hp
  ·rcases h.1 with h1 | h1
   ·rw [hn] at h1; cases h1
   ·exact h1
  ·exact Kt h.2 p hp hn
theorem NN {H H':HP} {φ φ':BF} {s:St} {st':List AH} {w w':World} {v:Value} {a:AV} {tch:List Nat} (hs:SR H φ s.st w) (hst:AP H φ s.st w H' φ' st' w') (hm:SD tch φ s.st w w') (hv:VA H φ s.st a v)
  (h:a.clear tch=true):∀ b,BQ v b->w'.heap[b]? = w.heap[b]? := by
 intro b hb
 have keepH:∀ o,H b=some o->w'.heap[b]? = w.heap[b]? := fun o ho=>by rw [hst.sr.hp b o (hst.le b o ho),hs.hp b o ho]
 cases a with
 | ptr id off =>
  obtain ⟨hva,b0,e1,e2⟩:=hv
  rw [e2] at hb
  cases hb
  unfold AS at hva
  split at hva
  ·rename_i cs hid
   exact hm id _ hid rfl (Ak.1 (by simpa [AV.clear] using h)) b0 (PQ (by rw [e1]; rfl))
  ·cases hva
 | eptr id i off =>
  obtain ⟨b0,n,cap,K,hk,hi,e1,e2⟩:=hv
  rw [e2] at hb
  cases hb
  unfold AE at hk
  split at hk
  ·rename_i t K' xs hid
   exact hm id _ hid rfl (Ak.1 (by simpa [AV.clear] using h)) b0 (PQ (by rw [e1]; rfl))
  ·rename_i K' xs hid
   cases hk
   obtain ⟨⟨sl,cap',e3,_,hr⟩,_⟩:=hs.box id _ hid
   rcases hr with rfl | ⟨b1,o1,c,el,fz,e4,e5,_⟩
   ·simp at hi
   ·rw [e1] at e3
    simp only [Value.slice.injEq] at e3
    rw [e4] at e3
    obtain ⟨e6,_⟩:=e3
    simp only [Af,Addr.mk.injEq] at e6
    obtain ⟨rfl,_⟩:=e6
    exact keepH _ e5
  ·rename_i t K' xs hid
   exact hm id _ hid rfl (Ak.1 (by simpa [AV.clear] using h)) b0 (PQ (by rw [e1]; rfl))
  ·rename_i t xs hid
   cases hk
   exact hm id _ hid rfl (Ak.1 (by simpa [AV.clear] using h)) b0 (PQ (by rw [e1]; rfl))
  ·rename_i m t K' xs i' q hid
   exact hm id _ hid rfl (Ak.1 (by simpa [AV.clear] using h)) b0 (PQ (by rw [e1]; rfl))
  ·cases hk
 | fptr cs off =>
  obtain ⟨b0,o,c,el,fz,e,hb0,_⟩:=hv
  rw [e] at hb
  cases hb
  exact keepH _ hb0
 | _=>cases h
theorem Xy {n:Nat} {o:Oper} {d x:Nat} {m:Option Nat} (h:SW P n o d (.t x) m=true):∃ t,o.op=.load t (.tmp x):=by
 simp only [SW,AD] at h
 have h2:=h.2
 split at h2
 ·rename_i t y ho
  simp only [AD] at h2
  have:=h2.1
  cases y<;>simp [Bw] at this
  subst this
  exact ⟨t,ho⟩
 ·cases h2
theorem XE {n:Nat} {o:Oper} {ao:Cj} {t:TypeId} {y:Operand} {ρ:Type} {kn:St->Option ρ} {r:ρ} {cal:Cz} {s:St} (hb:SI P n o ao=true) (hop:o.op=.load t y) (hv:ao.isVal=true) (hk:CN cal kn s ao=some r) :
  ∃ d x m,ao=.load d (.t x) m:=by
 cases ao<;>first | cases hv | skip
 case load d x m =>
  cases x with
  | t x=>exact ⟨d,x,m,rfl⟩
  | c a =>
   exfalso
   simp only [SI,SW,hop,AD] at hb
   simp only [CN,St.opd] at hk
   have h2:=hb.2.1
   cases y with
   | const v =>
    have h3:a=.undef\/Qb v a=true:=by cases a<;>first | exact .inl rfl | exact .inr h2
    rcases h3 with rfl | h3
    ·simp [St.behind] at hk
    ·have:=NH (H:=fun _=>none) (v:=v) (a:=a) h3
     cases a<;>first | exact this.elim | (simp [St.behind] at hk)
   | func f =>
    cases a<;>first | (simp [Bw] at h2; done) | (simp [St.behind] at hk)
   | tmp t=>simp [Bw] at h2
   | global g=>simp [Bw] at h2
 all_goals (exfalso; simp [SI,aM,RN,WJ,Ye,Yf,aN,Yc,Yb,UQ,Yj,WM,WN,aP,aO,Yt,Yv,Yg,Yd,UT,hop] at hb)
def LS (M L:Array Bool) (S:List Nat):Prop:=M.size=L.size/\∀ k,M.getD k true=(L.getD k true||Az S k)
theorem LS.refl (L:Array Bool):LS L L []:=⟨rfl,fun k=>by simp [Az]⟩
theorem OO {M:Array Bool} {k:Nat}:M.getD k false=(M.getD k true&&decide (k<M.size)):=by
 rw [Array.getD_eq_getD_getElem?,Array.getD_eq_getD_getElem?]
 by_cases h:k<M.size
 ·simp [h]
 ·simp [h]
theorem LS.getF {M L:Array Bool} {S:List Nat} (h:LS M L S) (k:Nat):M.getD k false=(L.getD k false||(Az S k&&decide (k<L.size))):=by
 rw [OO,OO,h.2,h.1]
 cases L.getD k true<;>cases Az S k<;>simp
theorem Ku {M:Array Bool} {i k:Nat}:(M.setIfInBounds i true).getD k true=(M.getD k true||(i==k)):=by
 by_cases h:i=k
 ·subst h
  rw [Array.getD_eq_getD_getElem?]
  by_cases h2:i<M.size
  ·simp [h2]
  ·simp [h2]
 ·rw [getD_set_ne true h]
  simp [h]
theorem LS.set {M L:Array Bool} {S:List Nat} (h:LS M L S) (i:Nat):LS (M.setIfInBounds i true) (L.setIfInBounds i true) S:=by
 refine ⟨by simp [h.1],fun k=>?_⟩
 rw [Ku,Ku,h.2]
 cases L.getD k true<;>cases Az S k<;>cases (i==k)<;>rfl
theorem LS.early {M L:Array Bool} {S:List Nat} (h:LS M L S) (f:Nat):LS (M.setIfInBounds f true) L (f::S):=by
 refine ⟨by simp [h.1],fun k=>?_⟩
 rw [Ku,h.2]
 simp only [Az]
 by_cases e:f=k<;>simp [e]
theorem LS.adopt {M L:Array Bool} {a b:List Nat} {i:Nat} (h:LS M L (a++i::b)):LS M (L.setIfInBounds i true) (a++b):=by
 refine ⟨by simp [h.1],fun k=>?_⟩
 rw [Ku,h.2,Jo,Jo]
 simp only [Az]
 by_cases e:i=k
 ·simp [e]
 ·have:(i==k)=false:=by simpa using e
  rw [this]
  cases L.getD k true<;>cases Az a k<;>cases Az b k<;>simp [e]
theorem Y0 (L:Array Bool):∀ (fl:List Nat),(XD L fl).size=L.size/\∀ k,(XD L fl).getD k true=(L.getD k true||Az fl k):=by
 intro fl
 unfold XD
 induction fl generalizing L with
 | nil=>exact ⟨rfl,fun k=>by simp [Az]⟩
 | cons f fl ih =>
  obtain ⟨h1,h2⟩:=ih (L.setIfInBounds f true)
  refine ⟨by simpa using h1,fun k=>?_⟩
  rw [List.foldl_cons,h2,Ku]
  simp only [Az]
  by_cases e:f=k
  ·simp [e]
  ·have:(f==k)=false:=by simpa using e
   rw [this,if_neg e,Bool.or_false]
def TV:List Bool->Nat
 | []=>0
 | b::r=>(if b=true then 0 else 1)+TV r
theorem VJ:∀ (l:List Bool) (i:Nat),l[i]? = some false->TV (l.set i true)+1=TV l
 | [],i,h=>by simp at h
 | b::l,0,h=>by simp at h; subst h; simp [TV]; omega
 | b::l,i+1,h=>by
  have:=VJ l i (by simpa using h)
  simp only [List.set_cons_succ,TV]
  omega
theorem NO {M:Array Bool} {i:Nat} (h:M.getD i true=false):TV (M.setIfInBounds i true).toList+1=TV M.toList:=by
 rw [Array.toList_setIfInBounds]
 apply VJ
 rw [Array.getD_eq_getD_getElem?] at h
 cases hq:M[i]? with
 | none=>rw [hq] at h; cases h
 | some b=>rw [hq] at h; simp at h; subst h; simpa using hq
theorem Y1 (n:Nat):TV (List.replicate n false)=n:=by
 induction n with
 | zero=>rfl
 | succ n ih=>rw [List.replicate_succ]; simp [TV,ih]; omega
def WW (P:Program) (ops:Array Oper) (wb:World) (H:HP) (φ:BF) (st:List AH) (act:Act) (w:World) (f b:Nat):Prop :=
 ∃ o d obj,ops[f]? = some o/\o.dst=some d/\d<act.tmps.size/\Yx P o act obj/\act.tmps.getD d undef=RO o.op b/\OM H φ st w b obj/\wb.heap.size<=b
theorem WW.put {ops:Array Oper} {wb:World} {H H':HP} {φ φ':BF} {st st':List AH} {act:Act} {w w':World} {f b:Nat} (h:WW P ops wb H φ st act w f b) {oi:Oper} {v:Value}
  (hsel:∀ (j:Nat) (o:Oper) cs b,ops[j]? = some o->o.op≠.select cs b) (hap:∀ o,ops[f]? = some o->oi.apart ops o=true) (hl:∀ obj,OM H φ st w b obj->OM H' φ' st' w' b obj):WW P ops wb H' φ' st' (act.put oi.dst v) w' f b:=by
 obtain ⟨o,d,obj,h1,h2,h3,h4,h5,h6,h7⟩:=h
 obtain ⟨a1,a2,_⟩:=Oper.apart_spec (hap o h1)
 refine ⟨o,d,obj,h1,h2,by rw [EH]; exact h3,fun w2=>?_,?_,hl obj h6,h7⟩
 ·rw [execOp_put o (fun cs b=>hsel f o cs b h1) act oi.dst v a1]
  exact h4 w2
 ·rw [G6 (fun e=>a2 d e h2)]
  exact h5
theorem Tz {ops:Array Oper} {i:Nat} {js:List Nat} (h:Xx ops i js=true) {j:Nat} (hj:j∈js):∃ a b,ops[i]? = some a/\ops[j]? = some b/\a.apart ops b=true/\b.apart ops a=true:=by
 have:=Ax.1 h j hj
 split at this
 ·rename_i a b ha hb
  simp only [AD] at this
  exact ⟨a,b,ha,hb,this.1,this.2⟩
 ·cases this
theorem MV {ops:Array Oper}:∀ {l:List Nat},Kr ops l=true->∀ i∈l,∀ j∈l,i≠j->∃ a b,ops[i]? = some a/\ops[j]? = some b/\a.apart ops b=true
 | [],_,i,hi,_,_,_=>by cases hi
 | x::l,h,i,hi,j,hj,hne=>by
  simp only [Kr,AD] at h
  rcases AQ.1 hi with e1 | hi
  ·subst e1
   rcases AQ.1 hj with e2 | hj
   ·exact absurd e2.symm hne
   ·obtain ⟨a,b,h1,h2,h3,_⟩:=Tz h.1.2 hj
    exact ⟨a,b,h1,h2,h3⟩
  ·rcases AQ.1 hj with e2 | hj
   ·rw [e2]
    obtain ⟨a,b,h1,h2,_,h4⟩:=Tz h.1.2 hi
    exact ⟨b,a,h2,h1,h4⟩
   ·exact MV h.2 i hi j hj hne
theorem Pk {s:St} {T:List (Nat×Nat)}:∀ {fl:List (Nat×Cj)},PM s T fl=true->∀ f∈fl,f.2.floatOk s=true/\PL s f.2.dsts=true/\ES f.2.dsts T=true
 | [],_,f,hf=>by cases hf
 | g::fl,h,f,hf=>by
  simp only [PM,AD] at h
  rcases AQ.1 hf with rfl | hf
  ·exact ⟨h.1.1.1,h.1.1.2,h.1.2⟩
  ·exact Pk h.2 f hf
theorem aC {n:Nat} {ops:Array Oper} {anc:List (List Nat)} {cal:Cz} (hcal:D8 P cal) (hA:Vz ops anc=true) (hsel:Region.noSelect ops=true) {ρ:Type} {kn:St->Option ρ} {r:ρ} {N:Act->World->Prop}
  {Hb:HP} {φb:BF} {stb:List AH} {wb:World} {ab:Act}
  (hN:∀ s' act' w' H' φ',kn s'=some r->AP Hb φb stb wb H' φ' s'.st w'->Ca H' φ' s'.st s'.fr act'.tmps->act'.tmps.size=n->act'.defers=ab.defers->N act' w') :
  ∀ (t:DT) (fuel:Nat) (F S:List Nat) (B:Nat->Nat) (T:List (Nat×Nat)) (TT:Rf) (L M:Array Bool) (s:St) (act:Act) (w:World) (H:HP) (φ:BF),SJ P n ops t L F=true->LS M L S->(∀ f∈S,Az F f=true/\f∈Region.ready .any ops L) ->
   S.Nodup->(∀ f∈S,∀ g∈S,f≠g->B f≠B g)->TV M.toList<=fuel->TU ops L->TU ops M ->
   AP Hb φb stb wb H φ s.st w->Ca H φ s.st s.fr act.tmps->act.tmps.size=n->act.defers=ab.defers->RS act w T TT->(∀ f∈S,∀ p∈TT,Az (anc.getD f []) p.1=false)->(∀ f∈S,WW P ops wb H φ s.st act w f (B f))->dK cal anc kn t T s=some r ->
   ON P ops (fun e a w=>match e with | .normal=>N a w | _=>False) (fun i=>anc.getD i []) fuel TT M act w:=by
 have hsnd:=Region.noSelect_spec hsel
 intro t
 induction t with
 | done =>
  intro fuel F S B T TT L M s act w H φ hb hls hS _ _ hfu _ _ hB hf hn hde _ _ _ hk
  simp only [SJ,AD,List.isEmpty_iff] at hb
  have hS0:S=[]:=by
   cases S with
   | nil=>rfl
   | cons f S =>
    have:=(hS f (by simp)).2
    rw [hb.1] at this
    cases this
  subst hS0
  have hM:Region.ready .any ops M=[]:=by
   rw [List.eq_nil_iff_forall_not_mem]
   intro j hj
   obtain ⟨h1,o,h2,h3⟩:=mem_ready.1 hj
   have:j∈Region.ready .any ops L:=mem_ready.2 ⟨by have:=hls.2 j; simp only [Az,Bool.or_false] at this; rw [<- this]; exact h1,o,h2,fun e he hbi=>by have:=hls.getF e.on; simp only [Az,Bool.false_and,Bool.or_false] at this; rw [<- this]; exact h3 e he hbi⟩
   rw [hb.1] at this
   cases this
  have hq:=hN s act w H φ hk hB hf hn hde
  cases fuel with
  | zero=>exact ⟨hM,hq⟩
  | succ fuel=>exact ⟨fun _=>hq,fun i hi=>by rw [hM] at hi; cases hi⟩
 | test c a b iha ihb =>
  intro fuel F S B T TT L M s act w H φ hb hls hS hnd hBd hfu hsh hshM hB hf hn hde hp hAn hpf hk
  simp only [SJ,AD] at hb
  simp only [dK] at hk
  split at hk
  ·rename_i t ht
   have hfc:∀ t',t=t'->Ca H φ (s.put c (.bool t')).st (s.put c (.bool t')).fr act.tmps:=by
    intro t' e q
    subst e
    simp only [St.put,Cd]
    split
    ·rename_i e; subst e; have:=hf c; rw [ht] at this; exact this
    ·exact hf q
   split at hk
   ·rename_i e
    exact iha fuel F S B T TT L M (s.put c (.bool true)) act w H φ hb.1 hls hS hnd hBd hfu hsh hshM hB (hfc true e) hn hde hp hAn hpf hk
   ·rename_i e
    exact ihb fuel F S B T TT L M (s.put c (.bool false)) act w H φ hb.2 hls hS hnd hBd hfu hsh hshM hB (hfc false (by simpa using e)) hn hde hp hAn hpf hk
  ·cases hk
 | fork i ai ri j aj rj ihi ihj =>
  intro fuel F S B T TT L M s act w H φ hb hls hS hnd hBd hfu hsh hshM hB hf hn hde hp hAn hpf hk
  simp only [SJ,AD,List.isEmpty_iff] at hb
  obtain ⟨⟨⟨⟨⟨⟨hF,hri⟩,hall⟩,hoi⟩,hoj⟩,hbi⟩,hbj⟩:=hb
  have hS0:S=[]:=by
   cases S with
   | nil=>rfl
   | cons f S =>
    have:=(hS f (by simp)).1
    rw [hF] at this
    cases this
  subst hS0
  simp only [dK] at hk
  obtain ⟨hki,hkj⟩:=QS.1 hk
  have hq:∀ k∈Region.ready .any ops M,k∈Region.ready .any ops L:=fun k hk=>by
   obtain ⟨h1,o,h2,h3⟩:=mem_ready.1 hk
   exact mem_ready.2 ⟨by have:=hls.2 k; simp only [Az,Bool.or_false] at this; rw [<- this]; exact h1,o,h2,fun e he hbi=>by have:=hls.getF e.on; simp only [Az,Bool.false_and,Bool.or_false] at this; rw [<- this]; exact h3 e he hbi⟩
  have hqL:∀ k∈Region.ready .any ops L,k∈Region.ready .any ops M:=fun k hk=>by
   obtain ⟨h1,o,h2,h3⟩:=mem_ready.1 hk
   exact mem_ready.2 ⟨by rw [hls.2,h1]; rfl,o,h2,fun e he hbi=>by rw [hls.getF,h3 e he hbi]; rfl⟩
  obtain ⟨i0,hi0⟩:∃ k,k∈Region.ready .any ops L:=⟨i,by simpa using hri⟩
  obtain ⟨fuel,rfl⟩:∃ k,fuel=k+1:=⟨fuel-1,by
   have:=NO (mem_ready.1 (hqL i0 hi0)).1
   omega⟩
  refine ⟨fun h=>(by have:=hqL i0 hi0; rw [h] at this; cases this),fun k hkM=>?_⟩
  have hcnt:=NO (mem_ready.1 hkM).1
  have hkL:=hq k hkM
  have hkk:=Ax.1 hall k hkL
  simp only [Ez,beq_iff_eq] at hkk
  rcases hkk with e | e
  ·subst e
   split at hoi
   case h_2=>cases hoi
   rename_i o hoi
   simp only [AD,decide_eq_true_eq] at hoi
   obtain ⟨⟨hg,hob⟩,hds⟩:=hoi
   split at hki
   case isFalse=>cases hki
   rename_i hc
   simp only [AD] at hc
   obtain ⟨hc2,hc3⟩:=hc
   have hfr:ES o.dst.toList T=true:=by rw [hds]; exact hc2
   unfold wpOp
   simp only [hoi,Lb (g:=none) hf rfl hg,if_true]
   refine .inl (Sj hcal hob ρ (fun s'=>dK cal anc kn ri (D4 (anc.getD k []) T) s') r s act w H φ _ _ hB.sr hf hn hki fun s' v w' H' φ' h1 h2 h3 h4=>?_)
   have hpend:RS (act.put o.dst v) w' (D4 (anc.getD k []) T) (KZ (anc.getD k []) TT):=by
    intro p hp'
    obtain ⟨hp1,hp2⟩:=Du p hp'
    obtain ⟨q1,q2⟩:=hp p hp1
    rcases q2 with q2 | ⟨x,hx,w0,e⟩
    ·exact ⟨q2 w',.inl q2⟩
    ·have hxf:=Il hfr _ hx
     have hgd:(act.put o.dst v).tmps.getD x undef=act.tmps.getD x undef:=G6 (fun e=>hxf (by rw [e]; simp))
     refine ⟨?_,.inr ⟨x,Ft hx hp2,w0,by rw [hgd]; exact e⟩⟩
     have hun:=NN hB.sr h2 h4.mem (hf x) (Kt hc3 _ hx hp2)
     rw [e] at q1 ⊢
     intro b hb'
     rw [hun b hb']
     exact q1 b hb'
   exact ⟨fun p hp'=>(hpend p hp').1,ihi fuel [] [] B _ _ (L.setIfInBounds k true) _ s' _ w' H' φ' hbi (hls.set k) (fun f hf'=>by cases hf') List.nodup_nil (fun f hf'=>by cases hf') (by omega) (hsh.set hkL) (hshM.set hkM) (hB.trans h2) h3 (EH.trans hn) (Df.trans hde) hpend (fun f hf'=>by cases hf') (fun f hf'=>by cases hf') h1⟩
  ·subst e
   split at hoj
   case h_2=>cases hoj
   rename_i o hoi
   simp only [AD,decide_eq_true_eq] at hoj
   obtain ⟨⟨hg,hob⟩,hds⟩:=hoj
   split at hkj
   case isFalse=>cases hkj
   rename_i hc
   simp only [AD] at hc
   obtain ⟨hc2,hc3⟩:=hc
   have hfr:ES o.dst.toList T=true:=by rw [hds]; exact hc2
   unfold wpOp
   simp only [hoi,Lb (g:=none) hf rfl hg,if_true]
   refine .inl (Sj hcal hob ρ (fun s'=>dK cal anc kn rj (D4 (anc.getD k []) T) s') r s act w H φ _ _ hB.sr hf hn hkj fun s' v w' H' φ' h1 h2 h3 h4=>?_)
   have hpend:RS (act.put o.dst v) w' (D4 (anc.getD k []) T) (KZ (anc.getD k []) TT):=by
    intro p hp'
    obtain ⟨hp1,hp2⟩:=Du p hp'
    obtain ⟨q1,q2⟩:=hp p hp1
    rcases q2 with q2 | ⟨x,hx,w0,e⟩
    ·exact ⟨q2 w',.inl q2⟩
    ·have hxf:=Il hfr _ hx
     have hgd:(act.put o.dst v).tmps.getD x undef=act.tmps.getD x undef:=G6 (fun e=>hxf (by rw [e]; simp))
     refine ⟨?_,.inr ⟨x,Ft hx hp2,w0,by rw [hgd]; exact e⟩⟩
     have hun:=NN hB.sr h2 h4.mem (hf x) (Kt hc3 _ hx hp2)
     rw [e] at q1 ⊢
     intro b hb'
     rw [hun b hb']
     exact q1 b hb'
   exact ⟨fun p hp'=>(hpend p hp').1,ihj fuel [] [] B _ _ (L.setIfInBounds k true) _ s' _ w' H' φ' hbj (hls.set k) (fun f hf'=>by cases hf') List.nodup_nil (fun f hf'=>by cases hf') (by omega) (hsh.set hkL) (hshM.set hkM) (hB.trans h2) h3 (EH.trans hn) (Df.trans hde) hpend (fun f hf'=>by cases hf') (fun f hf'=>by cases hf') h1⟩
 | skip i g d rt ih =>
  intro fuel F S B T TT L M s act w H φ hb hls hS hnd hBd hfu hsh hshM hB hf hn hde hp hAn hpf hk
  simp only [SJ,AD,DH] at hb
  obtain ⟨⟨⟨⟨hr,hfree⟩,hiF⟩,ho⟩,hb⟩:=hb
  split at ho
  case h_2=>cases ho
  rename_i o hoi
  simp only [AD,decide_eq_true_eq] at ho
  obtain ⟨⟨hg,rfl⟩,hdn⟩:=ho
  simp only [dK] at hk
  split at hk
  case isFalse=>cases hk
  rename_i hc
  simp only [AD] at hc
  have hri:i∈Region.ready .any ops L:=by simpa using hr
  have hiS:i∉S:=fun h=>by have:=(hS i h).1; rw [hiF] at this; cases this
  have hriM:i∈Region.ready .any ops M:=by
   obtain ⟨h1,o',h2,h3⟩:=mem_ready.1 hri
   exact mem_ready.2 ⟨by rw [hls.2,h1,Ak.2 hiS]; rfl,o',h2,fun e he hbi=>by rw [hls.getF,h3 e he hbi]; rfl⟩
  have hfreeL:=Region.free_spec hoi hfree
  have hfreeM:∀ j oj,ops[j]? = some oj->j≠i->M.getD j true=false->(∀ e∈oj.after,Region.binds .any e=true->e.on≠i)->o.apart ops oj=true:=fun j oj h1 h2 h3 h4 =>
   hfreeL j oj h1 h2 (by rw [hls.2] at h3; simp only [Bool.or_eq_false_iff] at h3; exact h3.1) h4
  have hcnt:=NO (mem_ready.1 hriM).1
  obtain ⟨fuel,rfl⟩:∃ k,fuel=k+1:=⟨fuel-1,by omega⟩
  refine Pj hA (C:=fun _=>True) hoi hsnd (fun c a w h=>h) fuel TT M act w hshM hfreeM hriM (.inr ⟨VI hf hc.1 hg,rfl⟩) trivial (fun p hp'=>(hp p hp').1) ?_
  have hf2:Ca H φ s.st (Ur o.dst .void s.fr) (act.put o.dst undef).tmps:=by
   cases hdst:o.dst with
   | none=>exact hf
   | some d =>
    rw [hdst] at hdn
    simp only [decide_eq_true_eq] at hdn
    exact hf.put (a:=.void) (v:=undef) (by omega) rfl
  have hAn':∀ (C:World->Prop),∀ f∈S,∀ p∈(i,C)::TT,Az (anc.getD f []) p.1=false:=fun C f hf' p hp'=>by
   rcases AQ.1 hp' with rfl | hp'
   ·rw [Ak]
    intro hm
    have:=It hA hsh f (CW (hS f hf').2).1 (CW (hS f hf').2).2 _ hm
    rw [Cv hri] at this
    cases this
   ·exact hAn f hf' p hp'
  refine ih fuel F S B T _ (L.setIfInBounds i true) _ ⟨Ur o.dst .void s.fr,s.st⟩ _ w H φ hb (hls.set i) (fun f hf'=>⟨(hS f hf').1,ready_mono (hS f hf').2 (fun e=>hiS (e▸hf'))⟩) hnd hBd (by omega) (hsh.set hri) (hshM.set hriM) hB hf2 (EH.trans hn) (Df.trans hde) ?_ (hAn' _) (fun f hf'=>?_) hk
  ·intro p hp'
   rcases AQ.1 hp' with rfl | hp'
   ·exact ⟨trivial,.inl fun _=>trivial⟩
   ·exact (hp.put hc.2) p hp'
  ·refine (hpf f hf').put hsnd (fun of hof=>hfreeL f of hof (fun e=>hiS (e▸hf')) (mem_ready.1 (hS f hf').2).1 (fun e he hbi heq=>?_)) (fun _ h=>h)
   obtain ⟨_,o',h2,h3⟩:=mem_ready.1 (hS f hf').2
   rw [hof] at h2
   cases h2
   have:=h3 e he hbi
   rw [heq,Cv hri] at this
   cases this
 | take i g ao rt ih =>
  intro fuel F S B T TT L M s act w H φ hb hls hS hnd hBd hfu hsh hshM hB hf hn hde hp hAn hpf hk
  simp only [SJ,AD,DH] at hb
  obtain ⟨⟨⟨⟨⟨hr,hfree⟩,hiF⟩,hval⟩,ho⟩,hb⟩:=hb
  split at ho
  case h_2=>cases ho
  rename_i o hoi
  simp only [AD,decide_eq_true_eq] at ho
  obtain ⟨⟨hg,hob⟩,hds⟩:=ho
  simp only [dK] at hk
  split at hk
  case isFalse=>cases hk
  rename_i hc
  simp only [AD] at hc
  obtain ⟨hc,hns⟩:=hc
  have hri:i∈Region.ready .any ops L:=by simpa using hr
  have hiS:i∉S:=fun h=>by have:=(hS i h).1; rw [hiF] at this; cases this
  have hriM:i∈Region.ready .any ops M:=by
   obtain ⟨h1,o',h2,h3⟩:=mem_ready.1 hri
   exact mem_ready.2 ⟨by rw [hls.2,h1,Ak.2 hiS]; rfl,o',h2,fun e he hbi=>by rw [hls.getF,h3 e he hbi]; rfl⟩
  have hfreeL:=Region.free_spec hoi hfree
  have hfreeM:∀ j oj,ops[j]? = some oj->j≠i->M.getD j true=false->(∀ e∈oj.after,Region.binds .any e=true->e.on≠i)->o.apart ops oj=true:=fun j oj h1 h2 h3 h4 =>
   hfreeL j oj h1 h2 (by rw [hls.2] at h3; simp only [Bool.or_eq_false_iff] at h3; exact h3.1) h4
  have hcnt:=NO (mem_ready.1 hriM).1
  obtain ⟨fuel,rfl⟩:∃ k,fuel=k+1:=⟨fuel-1,by omega⟩
  have info:∃ s' v H' φ',dK cal anc kn rt (PJ i ao T) s'=some r/\AP H φ s.st w H' φ' s'.st w/\Ca H' φ' s'.st s'.fr (act.put o.dst v).tmps/\∀ w2,CJ o act w w2->(execOp act.eval o).run P w2=.ok (.value v) w2:=by
   refine Yz (P:=P) (o:=o) (a:=act) (w:=w) (Sj hcal hob ρ (fun s'=>dK cal anc kn rt (PJ i ao T) s') r s act w H φ _ _ hB.sr hf hn hk fun s' v w' H' φ' h1 h2 h3 h4=>?_)
   obtain ⟨e,h5⟩:=h4.val hval
   subst e
   exact ⟨s',v,H',φ',h1,h2,h3,h5⟩
  obtain ⟨s',v,H',φ',hk',hst,hf',hrun⟩:=info
  refine Pj hA (C:=CJ o act w) hoi hsnd (fun c a w h=>h) fuel TT M act w hshM hfreeM hriM (.inl ⟨Lb hf hc.1 hg,hrun⟩) (CJ.refl o act w) (fun p hp'=>(hp p hp').1) ?_
  have hfr:ES o.dst.toList T=true:=by rw [hds]; exact hc.2
  have hAn':∀ (C:World->Prop),∀ f∈S,∀ p∈(i,C)::TT,Az (anc.getD f []) p.1=false:=fun C f hf' p hp'=>by
   rcases AQ.1 hp' with rfl | hp'
   ·rw [Ak]
    intro hm
    have:=It hA hsh f (CW (hS f hf').2).1 (CW (hS f hf').2).2 _ hm
    rw [Cv hri] at this
    cases this
   ·exact hAn f hf' p hp'
  refine ih fuel F S B _ _ (L.setIfInBounds i true) _ s' _ w H' φ' hb (hls.set i) (fun f hf'=>⟨(hS f hf').1,ready_mono (hS f hf').2 (fun e=>hiS (e▸hf'))⟩) hnd hBd (by omega) (hsh.set hri) (hshM.set hriM) (hB.trans hst) hf' (EH.trans hn) (Df.trans hde) ?_ (hAn' _) (fun f hfS=>?_) hk'
  ·intro p hp'
   rcases AQ.1 hp' with rfl | hp'
   ·refine ⟨CJ.refl o act w,?_⟩
    by_cases hload:∃ d x m,ao=.load d (.t x) m
    ·obtain ⟨d,x,m,rfl⟩:=hload
     simp only [SI] at hob
     obtain ⟨t,ht⟩:=Xy hob
     right
     have hxd:o.dst≠some x:=by
      have hd1:o.dst=some d:=by
       simp only [SW,AD] at hob
       exact (BC hob.1).1
      rw [hd1]
      intro e
      cases e
      simp [Cj.notSelf] at hns
     refine ⟨x,by simp [PJ],w,?_⟩
     funext w2
     simp only [CJ,ht,Act.eval]
     rw [G6 hxd]
    ·left
     intro w2
     unfold CJ
     split
     ·rename_i t y hop
      exfalso
      apply hload
      exact XE hob hop hval hk
     ·trivial
   ·obtain ⟨h1,h2⟩:=(hp.put hfr) p hp'
    refine ⟨h1,?_⟩
    rcases h2 with h2 | ⟨x,hx,w0,e⟩
    ·exact .inl h2
    ·refine .inr ⟨x,?_,w0,e⟩
     unfold PJ
     split
     ·exact List.mem_cons_of_mem _ hx
     ·exact hx
  ·refine (hpf f hfS).put hsnd (fun of hof=>hfreeL f of hof (fun e=>hiS (e▸hfS)) (mem_ready.1 (hS f hfS).2).1 (fun e he hbi heq=>?_)) (fun _ h=>h.step hst)
   obtain ⟨_,o',h2,h3⟩:=mem_ready.1 (hS f hfS).2
   rw [hof] at h2
   cases h2
   have:=h3 e he hbi
   rw [heq,Cv hri] at this
   cases this
 | only i g ao e fl rt ih =>
  intro fuel
  induction fuel using Nat.strongRecOn with
  | _ fuel ihf =>
  intro F S B T TT L M s act w H φ hb hls hS hnd hBd hfu hsh hshM hB hf hn hde hp hAn hpf hk
  have hb0:=hb
  have hk0:=hk
  simp only [SJ,AD] at hb
  obtain ⟨⟨⟨⟨⟨⟨⟨hr,hrF⟩,hFs⟩,hFi⟩,hfl⟩,hap⟩,ho⟩,hb⟩:=hb
  split at ho
  case h_2=>cases ho
  rename_i o hoi
  simp only [AD,decide_eq_true_eq] at ho
  obtain ⟨⟨hg,hob⟩,hds⟩:=ho
  simp only [dK] at hk
  split at hk
  case isFalse=>cases hk
  rename_i hc
  simp only [AD] at hc
  obtain ⟨⟨⟨⟨⟨hc1,hc2⟩,hc3⟩,hc4⟩,hc6⟩,hc5⟩:=hc
  have hri:i∈Region.ready .any ops L:=by simpa using hr
  have hfr:ES o.dst.toList T=true:=by rw [hds]; exact hc2
  have hanc:∀ k∈anc.getD i [],k≠i:=fun k hk e=>by
   have:=It hA hsh i (CW hri).1 (CW hri).2 k hk
   rw [e,Cv hri] at this
   cases this
  have hFsub:∀ f∈S,f=i\/f∈fl.map (·.1):=fun f hfS=>by
   have h1:=(hS f hfS).1
   have h2:=Ax.1 hFs f (Bx.1 h1)
   simp only [Ez,beq_iff_eq] at h2
   exact h2.imp id Bx.1
  by_cases hiS:i∈S
  ·-- it came up before: now the boxes are told
   obtain ⟨oa,d,obj,q1,q2,q3,q4,q5,q6,q7⟩:=hpf i hiS
   rw [hoi] at q1
   cases q1
   have hfi:ao.isFloat=true:=by
    have h1:=(hS i hiS).1
    rw [h1] at hFi
    simp only [Bool.not_true,Bool.false_or,AD] at hFi
    exact hFi.2
   have hfk:ao.floatOk s=true:=by
    have h1:=(hS i hiS).1
    rw [h1] at hFi
    simp only [Bool.not_true,Bool.false_or,AD] at hFi
    rw [hFi.1] at hc5
    simpa using hc5
   obtain ⟨s',H',φ',hk',hst',hf',hoth⟩:=Xw hob hfi hfk hB hf hk q4 (fun d' hd'=>by rw [q2] at hd'; cases hd'; exact q5) q6 q7
   obtain ⟨S1,S2,rfl⟩:=List.append_of_mem hiS
   have hnd2:i∉S1++S2/\(S1++S2).Nodup:=by
    rw [List.nodup_append] at hnd
    obtain ⟨n1,n2,n3⟩:=hnd
    rw [List.nodup_cons] at n2
    refine ⟨fun h=>?_,?_⟩
    ·rcases Am.1 h with h | h
     ·exact n3 i h i (by simp) rfl
     ·exact n2.1 h
    ·rw [List.nodup_append]
     exact ⟨n1,n2.2,fun a ha b hb=>n3 a ha b (by simp [hb])⟩
   have hsub:∀ f∈S1++S2,f∈S1++i::S2:=fun f h=>by
    rcases Am.1 h with h | h
    ·simp [h]
    ·simp [h]
   refine ih fuel (fl.map (·.1)) (S1++S2) B _ _ (L.setIfInBounds i true) M s' act w H' φ' hb hls.adopt (fun f hf'=>?_) hnd2.2 (fun f hf' g hg'=>hBd f (hsub f hf') g (hsub g hg')) hfu (hsh.set hri) hshM hst' hf' hn hde ?_ (fun f hf'=>hAn f (hsub f hf')) (fun f hf'=>?_) hk'
   ·have hne:f≠i:=fun e=>hnd2.1 (e▸hf')
    refine ⟨Bx.2 ((hFsub f (hsub f hf')).resolve_left hne),ready_mono (hS f (hsub f hf')).2 hne⟩
   ·intro p hp'
    obtain ⟨h1,h2⟩:=hp p hp'
    refine ⟨h1,?_⟩
    rcases h2 with h2 | ⟨x,hx,w0,e⟩
    ·exact .inl h2
    ·exact .inr ⟨x,Ft hx (hAn i hiS p hp'),w0,e⟩
   ·obtain ⟨o2,d2,obj2,p1,p2,p3,p4,p5,p6,p7⟩:=hpf f (hsub f hf')
    have hne:f≠i:=fun e=>hnd2.1 (e▸hf')
    exact ⟨o2,d2,obj2,p1,p2,p3,p4,p5,hoth _ _ (hBd f (hsub f hf') i hiS hne) p6,p7⟩
  ·have hriM:i∈Region.ready .any ops M:=by
    obtain ⟨h1,o',h2,h3⟩:=mem_ready.1 hri
    exact mem_ready.2 ⟨by rw [hls.2,h1,Ak.2 hiS]; rfl,o',h2,fun e he hbi=>by rw [hls.getF,h3 e he hbi]; rfl⟩
   have hcnt:=NO (mem_ready.1 hriM).1
   obtain ⟨fuel,rfl⟩:∃ k,fuel=k+1:=⟨fuel-1,by omega⟩
   have hSfl:∀ f∈S,f∈fl.map (·.1):=fun f hf'=>(hFsub f hf').resolve_left (fun e=>hiS (e▸hf'))
   refine ⟨fun h=>(by rw [h] at hriM; cases hriM),fun j hj=>?_⟩
   have hcj:=NO (mem_ready.1 hj).1
   by_cases hji:j=i
   ·subst hji
    unfold wpOp
    simp only [hoi,Lb hf hc1 hg,if_true]
    refine .inl (Sj hcal hob ρ (fun s'=>dK cal anc kn rt (D4 (anc.getD j []) T) s') r s act w H φ _ _ hB.sr hf hn hk fun s' v w' H' φ' h1 h2 h3 h4=>?_)
    have hpend:RS (act.put o.dst v) w' (D4 (anc.getD j []) T) (KZ (anc.getD j []) TT):=by
     intro p hp'
     obtain ⟨hp1,hp2⟩:=Du p hp'
     obtain ⟨q1,q2⟩:=hp p hp1
     rcases q2 with q2 | ⟨x,hx,w0,e⟩
     ·exact ⟨q2 w',.inl q2⟩
     ·have hxf:=Il hfr _ hx
      have hgd:(act.put o.dst v).tmps.getD x undef=act.tmps.getD x undef:=G6 (fun e=>hxf (by rw [e]; simp))
      refine ⟨?_,.inr ⟨x,Ft hx hp2,w0,by rw [hgd]; exact e⟩⟩
      have hun:=NN hB.sr h2 h4.mem (hf x) (Kt hc3 _ hx hp2)
      rw [e] at q1 ⊢
      intro b hb'
      rw [hun b hb']
      exact q1 b hb'
    refine ⟨fun p hp'=>(hpend p hp').1,ih fuel (fl.map (·.1)) S B _ _ (L.setIfInBounds j true) _ s' _ w' H' φ' hb (hls.set j) (fun f hf'=>⟨Bx.2 (hSfl f hf'),ready_mono (hS f hf').2 (fun e=>hiS (e▸hf'))⟩) hnd hBd (by omega) (hsh.set hri) (hshM.set hj) (hB.trans h2) h3 (EH.trans hn) (Df.trans hde) hpend (fun f hf' p hp'=>hAn f hf' p (Du p hp').1) (fun f hf'=>?_) h1⟩
    obtain ⟨a,b,k1,k2,k3⟩:=MV hap j (by simp) f (List.mem_cons_of_mem _ (hSfl f hf')) (fun e=>hiS (e▸hf'))
    rw [hoi] at k1
    cases k1
    exact (hpf f hf').put hsnd (fun of hof=>by rw [k2] at hof; cases hof; exact k3) (fun _ h=>h.step h2)
   ·-- one that comes up ahead of its turn
    have hjS:j∉S:=fun h=>by
     have h1:=(mem_ready.1 hj).1
     rw [hls.2,Bx.2 h] at h1
     simp at h1
    have hjfl:j∈fl.map (·.1):=by
     rcases Classical.em (j∈fl.map (·.1)) with h | h
     ·exact h
     ·exfalso
      obtain ⟨h1,o',h2,h3⟩:=mem_ready.1 hj
      have hLF:=Y0 L (fl.map (·.1))
      have hrd:j∈Region.ready .any ops (XD L (fl.map (·.1))):=by
       refine mem_ready.2 ⟨?_,o',h2,fun e he hbi=>?_⟩
       ·rw [hLF.2,Ak.2 h]
        rw [hls.2] at h1
        simp only [Bool.or_eq_false_iff] at h1
        rw [h1.1]
        rfl
       ·have:=h3 e he hbi
        rw [OO] at this ⊢
        simp only [AD,decide_eq_true_eq] at this ⊢
        refine ⟨?_,by rw [hLF.1,<- hls.1]; exact this.2⟩
        rw [hLF.2]
        have h4:=this.1
        rw [hls.2] at h4
        simp only [Ez] at h4 ⊢
        exact h4.imp id fun h5=>Bx.2 (hSfl _ (Bx.1 h5))
      have:=Ax.1 hrF j hrd
      simp only [beq_iff_eq] at this
      exact hji this
    obtain ⟨⟨j',aj⟩,hjm,hje⟩:=List.mem_map.1 hjfl
    simp only at hje
    subst hje
    have hfb:=Ax.1 hfl _ hjm
    obtain ⟨k1,k2,k3⟩:=Pk hc4 _ hjm
    have hpk:=Ax.1 hc6 _ hjm
    simp only [V0,AD] at hfb
    obtain ⟨⟨hjr,hjfl2⟩,hfb⟩:=hfb
    split at hfb
    case h_2=>cases hfb
    rename_i oj hoj
    simp only [AD,decide_eq_true_eq] at hfb
    obtain ⟨⟨⟨hjob,hjds⟩,hjg⟩,hjd⟩:=hfb
    split at hjd
    case h_2=>cases hjd
    rename_i d hdd
    simp only [AD,DH,decide_eq_true_eq] at hjd
    have hjL:j'∈Region.ready .any ops L:=by simpa using hjr
    obtain ⟨obj,hborn⟩:=Yy hjob hjfl2 k1 hB.sr hf
    have hst:AP H φ s.st w H φ s.st (w.alloc obj):=AP.grow hB.sr (World.grownBy_alloc w obj none)
    have hfrj:ES oj.dst.toList T=true:=by rw [hjds]; exact k3
    have hund:Cd s.fr d=.undef:=by
     rw [<- hjds,hdd] at k2
     simp only [Option.toList_some,PL,Bool.and_true] at k2
     split at k2
     ·rename_i h; exact h
     ·cases k2
    have hf2:Ca H φ s.st s.fr (act.put oj.dst (RO oj.op w.heap.size)).tmps:=by
     intro t
     by_cases ht:t=d
     ·subst ht
      rw [hund]
      trivial
     ·rw [G6 (fun e=>ht (by rw [hdd] at e; cases e; rfl))]
      exact hf t
    have hpend:RS (act.put oj.dst (RO oj.op w.heap.size)) (w.alloc obj) T (KZ (anc.getD j' []) TT):=by
     intro p hp'
     obtain ⟨hp1,hp2⟩:=Du p hp'
     obtain ⟨q1,q2⟩:=hp p hp1
     rcases q2 with q2 | ⟨x,hx,w0,e⟩
     ·exact ⟨q2 _,.inl q2⟩
     ·have hxf:=Il hfrj _ hx
      have hgd:(act.put oj.dst (RO oj.op w.heap.size)).tmps.getD x undef=act.tmps.getD x undef:=G6 (fun e=>hxf (by rw [e]; simp))
      refine ⟨?_,.inr ⟨x,hx,w0,by rw [hgd]; exact e⟩⟩
      have hun:=NN hB.sr hst (SD.grown (W:=[]) hB.sr (World.grownBy_alloc w obj none)) (hf x) (Kt hpk _ hx hp2)
      rw [e] at q1 ⊢
      intro b hb'
      rw [hun b hb']
      exact q1 b hb'
    have hiff:∀ f∈S,f≠j':=fun f hf' e=>hjS (e▸hf')
    unfold wpOp
    simp only [hoj,Is (o:=oj) (Option.isNone_iff_eq_none.1 hjg) trivial,if_true]
    refine .inl (MP (hborn w) ⟨fun p hp'=>(hpend p hp').1,?_⟩)
    have hbF:SJ P n ops (.only i g ao e fl rt) L (fl.map (·.1))=true:=by
     have hni:Az (fl.map (·.1)) i=false:=by
      have:=hap
      simp only [Kr,AD,DH] at this
      exact this.1.1
     simp only [SJ,AD] at hb0 ⊢
     obtain ⟨⟨⟨⟨⟨⟨⟨z1,z2⟩,_⟩,_⟩,z5⟩,z6⟩,z7⟩,z8⟩:=hb0
     exact ⟨⟨⟨⟨⟨⟨⟨z1,z2⟩,Ax.2 fun f hf'=>by simp [Bx.2 hf']⟩,by rw [hni]; rfl⟩,z5⟩,z6⟩,z7⟩,z8⟩
    refine ihf fuel (by omega) (fl.map (·.1)) (j'::S) (fun f=>if f=j' then w.heap.size else B f) T _ L _ s _ (w.alloc obj) H φ hbF (hls.early j') ?_ (List.nodup_cons.2 ⟨hjS,hnd⟩) ?_ (by omega) hsh (hshM.set hj) (hB.trans hst) hf2 (EH.trans hn) (Df.trans hde) hpend ?_ ?_ hk0
    ·intro f hf'
     rcases AQ.1 hf' with rfl | hf'
     ·exact ⟨Bx.2 hjfl,hjL⟩
     ·exact ⟨Bx.2 (hSfl f hf'),(hS f hf').2⟩
    ·have hlt:∀ f∈S,B f<w.heap.size:=fun f hf'=>by
      obtain ⟨_,_,_,_,_,_,_,_,h6,_⟩:=hpf f hf'
      exact h6.lt
     intro f hf' g hg' hne
     rcases AQ.1 hf' with e1 | hf'
     ·rcases AQ.1 hg' with e2 | hg'
      ·exact absurd (e1.trans e2.symm) hne
      ·rw [if_pos e1,if_neg (hiff g hg')]
       have:=hlt g hg'
       omega
     ·rcases AQ.1 hg' with e2 | hg'
      ·rw [if_pos e2,if_neg (hiff f hf')]
       have:=hlt f hf'
       omega
      ·rw [if_neg (hiff f hf'),if_neg (hiff g hg')]
       exact hBd f hf' g hg' hne
    ·intro f hf' p hp'
     rcases AQ.1 hf' with rfl | hf'
     ·exact (Du p hp').2
     ·exact hAn f hf' p (Du p hp').1
    ·intro f hf'
     rcases AQ.1 hf' with e1 | hf'
     ·subst e1
      rw [if_pos rfl]
      refine ⟨oj,d,obj,hoj,hdd,by rw [EH,hn]; exact hjd.2,fun w2=>?_,?_,OM.alloc hB.sr obj,hB.size⟩
      ·rw [execOp_put oj (fun cs b=>hsnd f oj cs b hoj) act oj.dst _ (ops:=ops) (fun d' hd'=>by
        rw [hdd] at hd'
        cases hd'
        intro hm
        have:=hjd.1
        rw [List.contains_eq_mem,decide_eq_true hm] at this
        cases this)]
       exact hborn w2
      ·rw [Ip hdd,Array.getD_eq_getD_getElem?]
       simp [hn,hjd.2]
     ·rw [if_neg (hiff f hf')]
      obtain ⟨a,b,q1,q2,q3⟩:=MV hap j' (List.mem_cons_of_mem _ hjfl) f (List.mem_cons_of_mem _ (hSfl f hf')) (fun e=>hiff f hf' e.symm)
      rw [hoj] at q1
      cases q1
      exact (hpf f hf').put hsnd (fun of hof=>by rw [q2] at hof; cases hof; exact q3) (fun _ h=>h.step hst)
theorem Y2 {n:Nat} {id:Nat} {ops:Array Oper} {anc:List (List Nat)} {t:DT} {cal:Cz} (hcal:D8 P cal) (h:WV P n ops anc t=true) {ρ:Type} {kn:St->Option ρ} {r:ρ} {s:St} {act:Act} {w:World} {H:HP} {φ:BF} {Q:Exit->Act->World->Prop}
  (hs:SR H φ s.st w) (hf:Ca H φ s.st s.fr act.tmps) (hn:act.tmps.size=n) (hk:dK cal anc kn t [] s=some r)
  (hN:∀ s' act' w' H' φ',kn s'=some r->AP H φ s.st w H' φ' s'.st w'->Ca H' φ' s'.st s'.fr act'.tmps->act'.tmps.size=n->act'.defers=act.defers->Q .normal act' w'):(Code.region id ops true).wp P Q act w:=by
 simp only [WV,AD] at h
 obtain ⟨⟨⟨hm,hsel⟩,hA⟩,hb⟩:=h
 have hst:AP H φ s.st w H φ s.st { w with drawn:=w.drawn+1 }:=AP.grow hs ⟨rfl,rfl,rfl,Nat.le_refl _,fun _ _ _=>rfl⟩
 refine wp_mono (wp_region_any hm (Q:=fun e a w=>match e with | .normal=>Q .normal a w | _=>False) (So (anc:=fun i=>anc.getD i []) ops.size [] _ act _ ?_)) fun e a w h=>by cases e<;>first | exact h | exact h.elim
 have hsh:TU ops (Array.replicate ops.size false):=by
  intro k o hk' _ _ _ _
  simp [Array.getElem?_replicate] at hk'
  split at hk'<;>simp at hk'
 exact aC (ab:=act) (N:=fun a w=>Q .normal a w) hcal hA hsel (fun s' act' w' H' φ' h1 h2 h3 h4 h5=>hN s' act' w' H' φ' h1 h2 h3 h4 h5) t ops.size [] [] (fun _=>0) [] [] (Array.replicate ops.size false) _ s act _ H φ hb (LS.refl _)
  (fun f hf=>by cases hf) List.nodup_nil (fun f hf=>by cases hf) (by simp [Y1]) hsh hsh hst hf hn rfl (fun p hp=>by cases hp) (fun f hf=>by cases hf) (fun f hf=>by cases hf) hk
def Lv:List Nat->Nat
 | []=>0
 | i::r=>Nat.lor (Nat.shiftLeft 1 i) (Lv r)
def Xz (ops:Array Oper):List Nat:=ops.toList.map fun o=>Lv ((o.after.filter fun e=>Region.binds .any e).toList.map (·.on))
def Zt (m i:Nat):Bool:=Nat.beq (Nat.land (Nat.shiftRight m i) 1) 1
def Hn (pm:List Nat) (m i:Nat):Bool :=
 match pm[i]? with
 | some p=>!Zt m i&&Nat.beq (Nat.land p m) p
 | none=>false
def WX (ops:Array Oper) (anc:List (List Nat)) (i:Nat):Bool :=
 match ops[i]? with
 | none=>false
 | some oi=>(List.range ops.size).all fun j=>j==i||Az (anc.getD i []) j||match ops[j]? with
   | some oj=>oj.after.any (fun e=>Region.binds .any e&&e.on==i)||oi.apart ops oj
   | none=>true
def V1 (P:Program) (n:Nat) (ops:Array Oper) (pm:List Nat) (m:Nat) (f:Nat×Cj):Bool :=
 Hn pm m f.1&&f.2.isFloat&&(match ops[f.1]? with
  | some o=>SI P n o f.2&&decide (o.dst.toList=f.2.dsts)&&o.guard.isNone&&(match o.dst with
   | some d=>!(o.looksAt ops).contains d&&decide (d<n)
   | none=>false)
  | none=>false)
def V2 (P:Program) (n:Nat) (ops:Array Oper) (anc:List (List Nat)) (pm:List Nat):DT->Array Bool->Nat->List Nat->Bool
 | .done,_,m,F=>(List.range ops.size).all (fun i=>!Hn pm m i)&&F.isEmpty
 | .take i g ao r,L,m,F=>Hn pm m i&&(WX ops anc i||Region.free .any ops L i)&&!Az F i&&ao.isVal&&(match ops[i]? with
   | some o=>gB ops o g&&SI P n o ao&&decide (o.dst.toList=ao.dsts)
   | none=>false)&&V2 P n ops anc pm r (L.setIfInBounds i true) (Nat.lor m (Nat.shiftLeft 1 i)) F
 | .skip i g d r,L,m,F=>Hn pm m i&&(WX ops anc i||Region.free .any ops L i)&&!Az F i&&(match ops[i]? with
   | some o=>gB ops o (some g)&&decide (o.dst=d)&&(match d with | some d=>decide (d<n) | none=>true)
   | none=>false)&&V2 P n ops anc pm r (L.setIfInBounds i true) (Nat.lor m (Nat.shiftLeft 1 i)) F
 | .only i g ao e fl r,L,m,F=>Hn pm m i&&(List.range ops.size).all (fun k=>k==i||!Hn pm (Nat.lor m (Lv (fl.map (·.1)))) k)&&F.all (fun f=>f==i||Az (fl.map (·.1)) f)&&(!Az F i||(e&&ao.isFloat))
   && fl.all (V1 P n ops pm m)&&Kr ops (i::fl.map (·.1))&&(match ops[i]? with
   | some o=>gB ops o g&&SI P n o ao&&decide (o.dst.toList=ao.dsts)
   | none=>false)&&V2 P n ops anc pm r (L.setIfInBounds i true) (Nat.lor m (Nat.shiftLeft 1 i)) (fl.map (·.1))
 | .test _ a b,L,m,F=>V2 P n ops anc pm a L m F&&V2 P n ops anc pm b L m F
 | .fork i ai ri j aj rj,L,m,F=>F.isEmpty&&(Hn pm m i&&Hn pm m j)&&(List.range ops.size).all (fun k=>(k==i||k==j)||!Hn pm m k)
   && (match ops[i]? with
   | some o=>gB ops o none&&SI P n o ai&&decide (o.dst.toList=ai.dsts)
   | none=>false)&&(match ops[j]? with
   | some o=>gB ops o none&&SI P n o aj&&decide (o.dst.toList=aj.dsts)
   | none=>false)&&V2 P n ops anc pm ri (L.setIfInBounds i true) (Nat.lor m (Nat.shiftLeft 1 i)) []&&V2 P n ops anc pm rj (L.setIfInBounds j true) (Nat.lor m (Nat.shiftLeft 1 j)) []
def X0 (P:Program) (n:Nat) (ops:Array Oper) (anc:List (List Nat)) (t:DT):Bool :=
 P.follows .mixedOrders&&Region.noSelect ops&&Vz ops anc&&V2 P n ops anc (Xz ops) t (Array.replicate ops.size false) 0 []
theorem Y3 (m i:Nat):Zt m i=m.testBit i:=by
 have h:Nat.land (Nat.shiftRight m i) 1=(m >>> i) &&& 1:=rfl
 unfold Zt
 rw [h,Nat.testBit,Nat.and_comm,Nat.one_and_eq_mod_two]
 have:=Nat.mod_two_eq_zero_or_one (m >>> i)
 rcases this with e | e<;>rw [e]<;>rfl
theorem Y4 (m i j:Nat):(Nat.lor m (Nat.shiftLeft 1 i)).testBit j=(m.testBit j||decide (i=j)):=by
 have h:Nat.lor m (Nat.shiftLeft 1 i)=m ||| (1 <<< i):=rfl
 rw [h,Nat.testBit_or,Nat.one_shiftLeft,Nat.testBit_two_pow]
theorem T0 (j:Nat):∀ l:List Nat,(Lv l).testBit j=decide (j∈l)
 | []=>by simp [Lv]
 | i::r=>by
  have h:Lv (i::r)=(1 <<< i) ||| Lv r:=rfl
  rw [h,Nat.testBit_or,Nat.one_shiftLeft,Nat.testBit_two_pow,T0 j r]
  by_cases e:i=j
  ·subst e; simp
  ·simp [e,Ne.symm e]
theorem X1 (p m:Nat):Nat.beq (Nat.land p m) p=true↔∀ j,p.testBit j=true->m.testBit j=true:=by
 have h:Nat.land p m=p &&& m:=rfl
 rw [Nat.beq_eq,h]
 constructor
 ·intro e j hj
  have:=congrArg (fun x=>Nat.testBit x j) e
  simp only [Nat.testBit_and,hj,Bool.true_and] at this
  exact this
 ·intro e
  refine Nat.eq_of_testBit_eq fun j=>?_
  rw [Nat.testBit_and]
  cases hj:p.testBit j with
  | false=>rfl
  | true=>rw [e j hj]; rfl
def LM (ops:Array Oper) (L:Array Bool) (m:Nat):Prop:=L.size=ops.size/\∀ j,L.getD j false=m.testBit j
theorem Dg {ops:Array Oper} {L:Array Bool} {m:Nat} (h:LM ops L m) (i:Nat):Hn (Xz ops) m i=true↔i∈Region.ready .any ops L:=by
 unfold Hn Xz
 rw [mem_ready,BT,Array.getElem?_toList]
 cases ho:ops[i]? with
 | none=>simp
 | some o =>
  have hi:i<ops.size:=(Array.getElem?_eq_some_iff.1 ho).1
  have h0:L.getD i true=L.getD i false:=by simp [Array.getD,h.1,hi]
  simp only [Option.map_some,AD,DH,X1,T0,decide_eq_true_eq,List.mem_map,Array.mem_toList_iff,Array.mem_filter,Af,exists_eq_left',Y3,h0,h.2]
  constructor
  ·rintro ⟨a,b⟩
   exact ⟨a,fun e he hb=>b e.on ⟨e,⟨he,hb⟩,rfl⟩⟩
  ·rintro ⟨a,b⟩
   refine ⟨a,?_⟩
   rintro j ⟨e,⟨he,hb⟩,rfl⟩
   exact b e he hb
theorem LM.set {ops:Array Oper} {L:Array Bool} {m i:Nat} (h:LM ops L m) (hi:i<ops.size):LM ops (L.setIfInBounds i true) (Nat.lor m (Nat.shiftLeft 1 i)):=by
 refine ⟨by rw [Array.size_setIfInBounds]; exact h.1,fun j=>?_⟩
 rw [Y4,<- h.2 j]
 by_cases e:i=j
 ·subst e
  simp [Array.getD,h.1,hi]
 ·rw [getD_set_ne false e]; simp [e]
theorem LM.add {ops:Array Oper}:∀ (fl:List Nat) {L:Array Bool} {m:Nat},LM ops L m->(∀ f∈fl,f<ops.size)->LM ops (XD L fl) (Nat.lor m (Lv fl))
 | [],L,m,h,_=>by
  have e:Nat.lor m (Lv [])=m ||| 0:=rfl
  rw [e,Nat.or_zero]
  exact h
 | i::r,L,m,h,hl=>by
  have:=LM.add r (h.set (hl i (by simp))) fun f hf=>hl f (List.mem_cons_of_mem _ hf)
  have e:Nat.lor m (Lv (i::r))=Nat.lor (Nat.lor m (Nat.shiftLeft 1 i)) (Lv r):=(Nat.or_assoc m (1 <<< i) (Lv r)).symm
  rw [e]
  exact this
theorem F7 {ops:Array Oper} {L:Array Bool} {i:Nat} (h:i∈Region.ready .any ops L):i<ops.size:=(CW h).2
theorem WY {ops:Array Oper} {anc:List (List Nat)} (hA:Vz ops anc=true) {L:Array Bool} (hs:TU ops L) {i:Nat} (hr:i∈Region.ready .any ops L) (h:WX ops anc i=true):Region.free .any ops L i=true:=by
 unfold WX at h
 unfold Region.free
 split at h
 ·cases h
 ·rename_i oi hi
  rw [hi]
  simp only
  rw [Ax] at h ⊢
  intro j hj
  have h1:=h j hj
  simp only [Ez] at h1 ⊢
  rcases h1 with (h1 | h1) | h1
  ·exact .inl (.inl h1)
  ·have:=It hA hs i (CW hr).1 (CW hr).2 j (Bx.1 h1)
   exact .inl (.inr (by
    have hl:j<L.size:=by
     rcases BI j L.size with q | q
     ·exact q
     ·simp [Array.getD,Nat.not_lt.2 q] at this
    simp [Array.getD,hl] at this ⊢
    exact this))
  ·exact .inr h1
theorem aD {P:Program} {n:Nat} {ops:Array Oper} {anc:List (List Nat)} (hA:Vz ops anc=true):∀ (t:DT) (L:Array Bool) (m:Nat) (F:List Nat),LM ops L m->TU ops L->V2 P n ops anc (Xz ops) t L m F=true->SJ P n ops t L F=true:=by
 intro t
 induction t with
 | done =>
  intro L m F hL _ h
  simp only [V2,SJ,AD,List.isEmpty_iff] at h ⊢
  refine ⟨?_,h.2⟩
  rw [List.eq_nil_iff_forall_not_mem]
  intro j hj
  have:=Ax.1 h.1 j (List.mem_range.2 (F7 hj))
  rw [(Dg hL j).2 hj] at this
  cases this
 | test c a b iha ihb =>
  intro L m F hL hs h
  simp only [V2,SJ,AD] at h ⊢
  exact ⟨iha _ _ _ hL hs h.1,ihb _ _ _ hL hs h.2⟩
 | take i g ao r ih =>
  intro L m F hL hs h
  simp only [V2,SJ,AD] at h ⊢
  obtain ⟨⟨⟨⟨⟨h1,h2⟩,h3⟩,h4⟩,h5⟩,h6⟩:=h
  have hr:=(Dg hL i).1 h1
  refine ⟨⟨⟨⟨⟨by simpa using hr,?_⟩,h3⟩,h4⟩,h5⟩,ih _ _ _ (hL.set (F7 hr)) (hs.set hr) h6⟩
  rcases Ez _ _▸h2 with q | q
  ·exact WY hA hs hr q
  ·exact q
 | skip i g d r ih =>
  intro L m F hL hs h
  simp only [V2,SJ,AD] at h ⊢
  obtain ⟨⟨⟨⟨h1,h2⟩,h3⟩,h5⟩,h6⟩:=h
  have hr:=(Dg hL i).1 h1
  refine ⟨⟨⟨⟨by simpa using hr,?_⟩,h3⟩,h5⟩,ih _ _ _ (hL.set (F7 hr)) (hs.set hr) h6⟩
  rcases Ez _ _▸h2 with q | q
  ·exact WY hA hs hr q
  ·exact q
 | only i g ao e fl r ih =>
  intro L m F hL hs h
  simp only [V2,SJ,AD] at h ⊢
  obtain ⟨⟨⟨⟨⟨⟨⟨h1,h2⟩,h3⟩,h4⟩,h5⟩,h6⟩,h7⟩,h8⟩:=h
  have hr:=(Dg hL i).1 h1
  have hfl:∀ f∈fl,Hn (Xz ops) m f.1=true:=fun f hf=>by
   have:=Ax.1 h5 f hf
   simp only [V1,AD] at this
   exact this.1.1
  have hL2:=LM.add (fl.map (·.1)) hL fun f hf=>by
   obtain ⟨g,hg,rfl⟩:=List.mem_map.1 hf
   exact F7 ((Dg hL g.1).1 (hfl g hg))
  refine ⟨⟨⟨⟨⟨⟨⟨by simpa using hr,?_⟩,h3⟩,h4⟩,?_⟩,h6⟩,h7⟩,ih _ _ _ (hL.set (F7 hr)) (hs.set hr) h8⟩
  ·rw [Ax]
   intro k hk
   have:=Ax.1 h2 k (List.mem_range.2 (F7 hk))
   rw [(Dg hL2 k).2 hk] at this
   simpa using this
  ·rw [Ax]
   intro f hf
   have h9:=Ax.1 h5 f hf
   unfold V1 at h9
   unfold V0
   rw [hfl f hf] at h9
   have h10:(Region.ready .any ops L).contains f.1=true:=by simpa using (Dg hL f.1).1 (hfl f hf)
   rw [h10]
   exact h9
 | fork i ai ri j aj rj ihi ihj =>
  intro L m F hL hs h
  simp only [V2,SJ,AD] at h ⊢
  obtain ⟨⟨⟨⟨⟨⟨h0,h1⟩,h2⟩,h3⟩,h4⟩,h5⟩,h6⟩:=h
  have hr:=(Dg hL i).1 h1.1
  have hr2:=(Dg hL j).1 h1.2
  have hall:(Region.ready .any ops L).all (fun k=>k==i||k==j)=true:=by
   rw [Ax]
   intro k hk
   have:=Ax.1 h2 k (List.mem_range.2 (F7 hk))
   rw [(Dg hL k).2 hk] at this
   simpa using this
  exact ⟨⟨⟨⟨⟨⟨h0,by simpa using hr⟩,hall⟩,h3⟩,h4⟩,ihi _ _ _ (hL.set (F7 hr)) (hs.set hr) h5⟩,ihj _ _ _ (hL.set (F7 hr2)) (hs.set hr2) h6⟩
theorem X2 {P:Program} {n:Nat} {ops:Array Oper} {anc:List (List Nat)} {t:DT} (h:X0 P n ops anc t=true):WV P n ops anc t=true:=by
 simp only [X0,WV,AD] at h ⊢
 refine ⟨h.1,aD h.1.2 t _ 0 [] ⟨by simp,fun j=>?_⟩ ?_ h.2⟩
 ·rw [Nat.zero_testBit]
  simp [Array.getD]
 ·intro k o hk' _ _ _ _
  simp [Array.getElem?_replicate] at hk'
  split at hk'<;>simp at hk'

theorem XF {st:List AH} {N k:Nat} {cs:List AV} (h:(st.map (AH.older N))[k]? = some (.var cs)) {o i:Nat} (ho:cs[o]? = some (.row i)):i<N:=by
 rw [BT] at h
 cases hb:st[k]? with
 | none=>rw [hb] at h; cases h
 | some b =>
  rw [hb] at h
  cases b with
  | var cs0 =>
   cases h
   rw [BT] at ho
   cases hc:cs0[o]? with
   | none=>rw [hc] at ho; cases ho
   | some c =>
    rw [hc] at ho
    simp only [Option.map_some,Af] at ho
    cases c<;>simp only [AV.olderC] at ho<;>try cases ho
    split at ho
    ·rename_i hn
     cases ho
     exact hn
    ·cases ho
  | _=>cases h
theorem SR.cut {H:HP} {φ:BF} {st:List AH} {w:World} (h:SR H φ st w) (N:Nat):SR H φ ((st.take N).map (AH.older N)) w:=by
 have h2:=h.older N
 rw [List.map_take]
 have get:∀ (i:Nat) (b:AH),((st.map (AH.older N)).take N)[i]? = some b->(st.map (AH.older N))[i]? = some b:=by
  intro i b hi
  rw [BB] at hi
  split at hi
  ·exact hi
  ·cases hi
 refine ⟨h2.hp,fun i b hi=>h2.box i b (get i b hi),fun i j bi bj hi hj=>h2.sep i j bi bj (get i bi hi) (get j bj hj),fun i bi hi=>h2.out i bi (get i bi hi),fun id cs hid o i ho=>?_,h2.tb⟩
 obtain ⟨h3,h4⟩:=h2.cell id cs (get id _ hid) o i ho
 have hi:=XF (get id _ hid) ho
 refine ⟨?_,h4⟩
 unfold AE at h3 ⊢
 rw [BB,if_pos hi]
 exact h3
theorem AP.cut {H H':HP} {φ φ':BF} {st st':List AH} {w w':World} (h:AP H φ st w H' φ' st' w') {N:Nat} (hN:st.length<=N):AP H φ st w H' φ' ((st'.take N).map (AH.older N)) w':=by
 refine ⟨h.le,h.sr.cut N,fun mv m0 H0 φ0 w0 f=>?_⟩
 have f2:=h.fr mv m0 H0 φ0 w0 f
 refine { f2 with new:=fun i bi hbi hl b hb=>?_,vars:=fun j hj=>?_ }
 ·rw [BT,BB] at hbi
  split at hbi
  ·cases hb0:st'[i]? with
   | none=>rw [hb0] at hbi; cases hbi
   | some b0 =>
    rw [hb0] at hbi
    cases hbi
    exact f2.new i b0 hb0 (by cases b0<;>exact hl) b hb
  ·cases hbi
 ·have h1:=GZ (f.vars j hj)
  have h2:=f2.vars j hj
  rw [Cs (Hm N)]
  unfold AL at h2 ⊢
  rw [BB,if_pos (by omega)]
  exact h2
theorem Ca.cut {H:HP} {φ:BF} {st:List AH} {fr:List (Nat×AV)} {tmps:Array Value} (h:Ca H φ st fr tmps) (live:List Nat) (N:Nat) :
  Ca H φ ((st.take N).map (AH.older N)) (live.map fun t=>(t,(Cd fr t).older N)) tmps:=by
 intro t
 rcases To fr (fun a=>a.older N) live t with e | e
 ·rw [e]; trivial
 ·rw [e]; exact (h t).older N
theorem VK {s s':St} {i:Nat} {v a:AV} {ids:List Nat} (h:s.intoRow i v=some (a,s',ids)):s'.st.length=s.st.length:=by
 unfold St.intoRow at h
 split at h
 ·split at h
  ·cases h; rfl
  ·split at h
   ·split at h
    ·cases h; simp
    ·cases h
   ·cases h
 ·split at h
  ·cases h; simp
  ·cases h
 ·cases h
theorem Y5 {H:HP} {φ:BF} {s:St} {w:World} {tmps:Array Value} (hs:SR H φ s.st w) (hf:Ca H φ s.st s.fr tmps) (n t i:Nat) :
  ∃ φ',AP H φ s.st w H φ' (s.home n t i).st w/\Ca H φ' (s.home n t i).st (s.home n t i).fr tmps/\(s.home n t i).st.length=s.st.length:=by
 have same:∃ φ',AP H φ s.st w H φ' s.st w/\Ca H φ' s.st s.fr tmps/\s.st.length=s.st.length:=⟨φ,AP.refl hs,hf,rfl⟩
 unfold St.home
 split
 ·rename_i k hk
  split
  ·split
   ·rename_i x hx
    have hv:=hf t
    rw [hk] at hv
    obtain ⟨a,s1,ids⟩:=x
    obtain ⟨φ',h1,_,_,h4,h5,h6⟩:=PT hs (v:=.row k) (u:=tmps.getD t undef) hv hx
    exact ⟨φ',h1,Ca.cons (h6 tmps hf) ⟨h5,h4⟩,(VK hx:s1.st.length=s.st.length)⟩
   ·exact same
  ·exact same
 ·exact same
theorem VL {w:World} {tmps:Array Value} {n:Nat}:∀ (hs:List (Nat×Nat)) {H:HP} {φ:BF} {s:St},SR H φ s.st w->Ca H φ s.st s.fr tmps ->
  ∃ φ',AP H φ s.st w H φ' (St.homes n hs s).st w/\Ca H φ' (St.homes n hs s).st (St.homes n hs s).fr tmps/\(St.homes n hs s).st.length=s.st.length
 | [],H,φ,s,h,hf=>⟨φ,AP.refl h,hf,rfl⟩
 | p::r,H,φ,s,h,hf=>by
  obtain ⟨φ1,a1,a2,a3⟩:=Y5 h hf n p.1 p.2
  obtain ⟨φ2,b1,b2,b3⟩:=VL r a1.sr a2
  exact ⟨φ2,a1.trans b1,b2,b3.trans a3⟩
theorem UY {H H':HP} {φ φ':BF} {st:List AH} {s':St} {w w':World} {tmps:Array Value} (h:AP H φ st w H' φ' s'.st w') (hf:Ca H' φ' s'.st s'.fr tmps) (hs:List (Nat×Nat)) (live:List Nat) {N:Nat} (hN:st.length<=N) :
  ∃ φ2,AP H φ st w H' φ2 (s'.cutH hs live N).st w'/\Ca H' φ2 (s'.cutH hs live N).st (s'.cutH hs live N).fr tmps:=by
 obtain ⟨φ2,a1,a2,_⟩:=VL (n:=N) hs h.sr hf
 exact ⟨φ2,(h.trans a1).cut hN,a2.cut live N⟩
def OP (P:Program) (c:Code) (Q:Exit->Act->World->Prop) (a:Act) (w:World):Prop :=
 ∀ (b:Frame) (k:List Item) (cs:List Frame),∃ e a' w',Q e a' w'/\Arrives P (lone (b.at a (.code c::.inLoop c::k)) cs w) b k cs e a' w'
theorem OP.wp {c:Code} {Q:Exit->Act->World->Prop} {a:Act} {w:World} (h:OP P c Q a w):(Code.loop c).wp P Q a w:=by
 intro b k cs
 obtain ⟨e,a',w',hq,harr⟩:=h b k cs
 exact ⟨e,a',w',hq,.of_steps (.one step_loop) harr⟩
theorem OP.round {c:Code} {Q:Exit->Act->World->Prop} {a:Act} {w:World} (h:c.wp P (Exit.then (OP P c Q) Q) a w):OP P c Q a w:=by
 intro b k cs
 obtain ⟨e,a₁,w₁,hq,harr⟩:=h b (.inLoop c::k) cs
 cases e with
 | normal =>
  obtain ⟨e₂,a₂,w₂,hq₂,harr₂⟩:=hq b k cs
  exact ⟨e₂,a₂,w₂,hq₂,.of_steps (Steps.trans harr (.one step_inLoop)) harr₂⟩
 | exit id=>exact ⟨_,a₁,w₁,hq,.pass (x:=.inLoop c) rfl (fun _ _=>.inl (by simp)) harr⟩
 | goto l=>exact ⟨_,a₁,w₁,hq,.pass (x:=.inLoop c) rfl (fun _ _=>.inl (by simp)) harr⟩
 | ret=>exact ⟨_,a₁,w₁,hq,.pass (x:=.inLoop c) rfl (fun _ _=>.inl (by simp)) harr⟩
 | panic ch=>exact ⟨_,a₁,w₁,hq,.pass (x:=.inLoop c) rfl (fun _ _=>.inl (by simp)) harr⟩
 | outgrown=>exact ⟨_,a₁,w₁,hq,.pass (x:=.inLoop c) rfl (fun _ _=>.inl (by simp)) harr⟩
def C5 (P:Program) (n:Nat):Code->AO->Bool
 | .skip,.skip=>true
 | .region _ ops false,.region aos _=>decide (NQ P n ops none [] 0 aos=some ops.size)
 | .region _ ops true,.draw anc t _=>X0 P n ops anc t
 | .seq x y,.seq a b=>C5 P n x a&&C5 P n y b
 | .seq x y,.seqc _ a b=>C5 P n x a&&C5 P n y b
 | .cond c x y,.cond c' a b=>Bw c c'&&C5 P n x a&&C5 P n y b
 | .block id x,.block id' _ a=>id==id'&&C5 P n x a
 | .loop x,.loop _ a=>C5 P n x a
 | .exit id,.exit id'=>id==id'
 | .ret,.ret=>true
 | _,_=>false
def RU {ρ:Type} (n:Nat) (q:St->Option ρ) (r:ρ) (s:St) (act:Act) (w:World) (H:HP) (φ:BF) (N:Act->World->Prop):Prop :=
 ∀ s' act' w' H' φ',q s'=some r->AP H φ s.st w H' φ' s'.st w'->Ca H' φ' s'.st s'.fr act'.tmps->act'.tmps.size=n->act'.defers=act.defers->N act' w'
def X3 (P:Program) (n:Nat) (cal:Cz) (k:Nat) (c:Code) (ac:AO):Prop :=
 ∀ (ρ:Type) (kn kr:St->Option ρ) (ke:Nat->St->Option ρ) (r:ρ) (s:St) (act:Act) (w:World) (H:HP) (φ:BF) (Q:Exit->Act->World->Prop),
  SR H φ s.st w->Ca H φ s.st s.fr act.tmps->act.tmps.size=n->D1 cal k ac kn kr ke s=some r ->
  RU n kn r s act w H φ (Q .normal)->RU n kr r s act w H φ (Q .ret)->(∀ i,RU n (ke i) r s act w H φ (Q (.exit i)))->c.wp P Q act w
theorem RU.step {ρ:Type} {n:Nat} {q:St->Option ρ} {r:ρ} {s s1:St} {act act1:Act} {w w1:World} {H H1:HP} {φ φ1:BF} {N:Act->World->Prop}
  (h:RU n q r s act w H φ N) (hst:AP H φ s.st w H1 φ1 s1.st w1) (hd:act1.defers=act.defers):RU n q r s1 act1 w1 H1 φ1 N :=
 fun s' act' w' H' φ' hq hs hf hn hd'=>h s' act' w' H' φ' hq (hst.trans hs) hf hn (hd'.trans hd)
theorem VM {n:Nat} {cal:Cz} {k:Nat} (hcal:D8 P cal) {id:Nat} {ops:Array Oper} {aos:List Cj} {live:List Nat} (h:NQ P n ops none [] 0 aos=some ops.size) :
  X3 P n cal k (.region id ops false) (.region aos live):=by
 intro ρ kn kr ke r s act w H φ Q hs hf hn hk hnorm _ _
 simp only [D1] at hk
 refine XB hcal h hs hf hn hk fun s' act' w' H' φ' hk' hst hf' hn' hd'=>?_
 exact hnorm _ act' w' H' φ' hk' hst (hf'.live live) hn' hd'
theorem Y6 {n:Nat} {cal:Cz} {k:Nat} (hcal:D8 P cal):∀ (ac:AO) (c:Code),C5 P n c ac=true->X3 P n cal k c ac:=by
 intro ac
 induction ac with
 | skip =>
  intro c h
  cases c<;>first | (simp [C5] at h; done) | skip
  intro ρ kn kr ke r s act w H φ Q hs hf hn hk h1 _ _
  exact wp_skip (h1 s act w H φ hk (AP.refl hs) hf hn rfl)
 | ret =>
  intro c h
  cases c<;>first | (simp [C5] at h; done) | skip
  intro ρ kn kr ke r s act w H φ Q hs hf hn hk _ h2 _
  exact wp_ret (h2 s act w H φ hk (AP.refl hs) hf hn rfl)
 | exit id =>
  intro c h
  cases c<;>first | (simp [C5] at h; done) | skip
  rename_i id'
  simp only [C5,beq_iff_eq] at h
  subst h
  intro ρ kn kr ke r s act w H φ Q hs hf hn hk _ _ h3
  exact wp_exit (h3 id' s act w H φ hk (AP.refl hs) hf hn rfl)
 | region aos live =>
  intro c h
  cases c<;>first | (simp [C5] at h; done) | skip
  rename_i id ops draw
  cases draw
  ·simp only [C5,decide_eq_true_eq] at h
   exact VM hcal h
  ·simp [C5] at h
 | draw anc t live =>
  intro c h
  cases c<;>first | (simp [C5] at h; done) | skip
  rename_i id ops draw
  cases draw
  ·simp [C5] at h
  ·simp only [C5] at h
   intro ρ kn kr ke r s act w H φ Q hs hf hn hk hnorm _ _
   simp only [D1] at hk
   exact Y2 hcal (X2 h) hs hf hn hk fun s' act' w' H' φ' hk' hst hf' hn' hd'=>hnorm _ act' w' H' φ' hk' hst (hf'.live live) hn' hd'
 | seq a b iha ihb =>
  intro c h
  cases c<;>first | (simp [C5] at h; done) | skip
  rename_i x y
  simp only [C5,AD] at h
  intro ρ kn kr ke r s act w H φ Q hs hf hn hk h1 h2 h3
  simp only [D1] at hk
  refine wp_seq (iha x h.1 ρ (fun s'=>D1 cal k b kn kr ke s') kr ke r s act w H φ _ hs hf hn hk (fun s' act' w' H' φ' hk' hst hf' hn' hd'=>?_) h2 h3)
  exact ihb y h.2 ρ kn kr ke r s' act' w' H' φ' Q hst.sr hf' hn' hk' (h1.step hst hd') (h2.step hst hd') fun i=>(h3 i).step hst hd'
 | seqc live a b iha ihb =>
  intro c h
  cases c<;>first | (simp [C5] at h; done) | skip
  rename_i x y
  simp only [C5,AD] at h
  intro ρ kn kr ke r s act w H φ Q hs hf hn hk h1 h2 h3
  simp only [D1] at hk
  refine wp_seq (iha x h.1 ρ (fun s'=>D1 cal k b kn kr ke (s'.cutH (B9 s live) live s.st.length)) kr ke r s act w H φ _ hs hf hn hk (fun s' act' w' H' φ' hk' hst hf' hn' hd'=>?_) h2 h3)
  obtain ⟨φ2,hst',hf2⟩:=UY hst hf' (B9 s live) live (Nat.le_refl _)
  exact ihb y h.2 ρ kn kr ke r (s'.cutH (B9 s live) live s.st.length) act' w' H' φ2 Q hst'.sr hf2 hn' hk' (h1.step hst' hd') (h2.step hst' hd') fun i=>(h3 i).step hst' hd'
 | cond c' a b iha ihb =>
  intro c h
  cases c<;>first | (simp [C5] at h; done) | skip
  rename_i co x y
  simp only [C5,AD] at h
  obtain ⟨⟨hc,ha⟩,hb⟩:=h
  intro ρ kn kr ke r s act w H φ Q hs hf hn hk h1 h2 h3
  simp only [D1] at hk
  cases ht:s.opd c' with
  | bool t =>
   rw [ht] at hk
   simp only at hk
   have hv:=(An hf hc).bool ht
   cases t with
   | true=>exact wp_cond_true hv (iha x ha ρ kn kr ke r s act w H φ Q hs hf hn (by simpa using hk) h1 h2 h3)
   | false=>exact wp_cond_false hv (ihb y hb ρ kn kr ke r s act w H φ Q hs hf hn (by simpa using hk) h1 h2 h3)
  | _=>rw [ht] at hk; cases hk
 | block id live a iha =>
  intro c h
  cases c<;>first | (simp [C5] at h; done) | skip
  rename_i id' x
  simp only [C5,AD,beq_iff_eq] at h
  obtain ⟨rfl,h⟩:=h
  intro ρ kn kr ke r s act w H φ Q hs hf hn hk h1 h2 h3
  simp only [D1] at hk
  have cutOk:RU n (fun s'=>kn (s'.cutH (B9 s live) live s.st.length)) r s act w H φ (Q .normal):=fun s' act' w' H' φ' hk' hst hf' hn' hd'=>by
   obtain ⟨φ2,hst',hf2⟩:=UY hst hf' (B9 s live) live (Nat.le_refl _)
   exact h1 _ act' w' H' φ2 hk' hst' hf2 hn' hd'
  refine wp_block (iha x h ρ (fun s'=>kn (s'.cutH (B9 s live) live s.st.length)) kr (fun i s'=>if i=id' then kn (s'.cutH (B9 s live) live s.st.length) else ke i s') r s act w H φ _ hs hf hn hk cutOk h2 fun i=>?_)
  intro s' act' w' H' φ' hk' hst hf' hn' hd'
  simp only at hk'
  simp only [Exit.inBlock]
  by_cases e:i=id'
  ·rw [if_pos e] at hk' ⊢
   exact cutOk s' act' w' H' φ' hk' hst hf' hn' hd'
  ·rw [if_neg e] at hk' ⊢
   exact h3 i s' act' w' H' φ' hk' hst hf' hn' hd'
 | loop live a iha =>
  intro c h
  cases c<;>first | (simp [C5] at h; done) | skip
  rename_i x
  simp only [C5] at h
  intro ρ kn kr ke r s act w H φ Q hs hf hn hk _ h2 h3
  simp only [D1] at hk
  have key:∀ (j:Nat) (s1:St) (act1:Act) (w1:World) (H1:HP) (φ1:BF),s1.st.length<=s.st.length->AP H φ s.st w H1 φ1 s1.st w1->Ca H1 φ1 s1.st s1.fr act1.tmps->act1.tmps.size=n->act1.defers=act.defers ->
    G1 j (fun go s'=>D1 cal k a (fun s''=>go (s''.cutH (B9 s live) live s.st.length)) kr ke s') s1=some r->OP P x Q act1 w1:=by
   intro j
   induction j with
   | zero=>intro s1 act1 w1 H1 φ1 _ _ _ _ _ hk; cases hk
   | succ j ihj =>
    intro s1 act1 w1 H1 φ1 hl hst hf1 hn1 hd1 hk
    simp only [G1] at hk
    refine OP.round (iha x h ρ _ kr ke r s1 act1 w1 H1 φ1 _ hst.sr hf1 hn1 hk (fun s' act' w' H' φ' hk' hst' hf' hn' hd'=>?_) (h2.step hst hd1) fun i=>(h3 i).step hst hd1)
    obtain ⟨φ2,hst2,hf2⟩:=UY hst' hf' (B9 s live) live hl
    exact ihj (s'.cutH (B9 s live) live s.st.length) act' w' H' φ2 (by simp [St.cutH,St.cut]; omega) (hst.trans hst2) hf2 hn' (hd'.trans hd1) hk'
  refine (key k (s.cut live s.st.length) act w H φ (by simp [St.cut]) ((AP.refl hs).cut (Nat.le_refl _)) (hf.cut live _) hn rfl hk).wp
end Go.Proofs.Ytffahmnodgnohaa.Core

namespace Go.Proofs.Ytffahmnodgnohaa.Core
open Go
variable {H:HP} {φ:BF} {st:List AH} {w:World} {P:Program}
def T1 (st:List AH) (i:Nat) (b:AH):Prop :=
 (∃ (t:TypeId) (e:Kd),∃ xs:List (Kd.T e),st[i]? = some (AH.rows t e xs)/\b=AH.rows t e xs) \/
 (∃ cs ecs:List AV,st[i]? = some (AH.var cs)/\b=AH.var ecs/\ecs.length=cs.length/\∀ (o:Nat) (a:AV),ecs[o]? = some a->∃ c,cs[o]? = some c/\a.solid=true/\c.solid=true/\∀ (H:HP) (u:Value),VF H c u->VF H a u)
theorem Sq:∀ {ks:List Kd} {cs cs':List AV},Gn ks cs=some cs'->cs'.length=cs.length/\(cs'.all fun c=>c.solid&&(match c with | .nil=>false | _=>true))=true /\
  ∀ (o:Nat) (a:AV),cs'[o]? = some a->∃ c,cs[o]? = some c/\a.solid=true/\c.solid=true/\∀ (H:HP) (u:Value),VF H c u->VF H a u
 | [],[],cs',h=>by cases h; exact ⟨rfl,rfl,fun o a h=>by simp at h⟩
 | [],_::_,cs',h=>by simp [Gn] at h
 | _::_,[],cs',h=>by simp [Gn] at h
 | k::ks,v::vs,cs',h=>by
  simp only [Gn] at h
  cases h1:v.norm k with
  | none=>rw [h1] at h; cases h
  | some a =>
   rw [h1] at h
   simp only [Z] at h
   cases h2:Gn ks vs with
   | none=>rw [h2] at h; cases h
   | some r =>
    rw [h2] at h
    cases h
    obtain ⟨n1,n2,n3,n4⟩:=Pe h1
    obtain ⟨l1,l2,l3⟩:=Sq h2
    refine ⟨by simp [l1],?_,fun o b hb=>?_⟩
    ·simp only [List.all_cons,l2,n2,Bool.true_and,Bool.and_true]
     cases a<;>first | rfl | cases n1
    ·cases o with
     | zero=>simp at hb; subst hb; exact ⟨v,rfl,n2,n3,n4⟩
     | succ o=>simpa using l3 o b (by simpa using hb)
theorem V3 {s s':St} {a a':AV} (h:s.keep a=some (a',s')) {i:Nat} (hi:a≠.row i):s'.st[i]? = s.st[i]? := by
 cases a with
 | row id =>
  simp only [St.keep] at h
  split at h
  ·split at h
   case isFalse=>cases h
   cases h
   simp only [AU]
   rw [if_neg (fun e=>hi (by rw [e]))]
  ·cases h; rfl
  ·cases h
 | fn f caps=>cases caps<;>first | (cases h; rfl) | cases h
 | _=>first | (cases h; rfl) | cases h
theorem X4 {s s':St} {a a':AV} (h:s.keep a=some (a',s')) {i:Nat} (hi:AL s.st i=true):s'.st[i]? = s.st[i]? := by
 cases a with
 | row id =>
  simp only [St.keep] at h
  split at h
  ·rename_i t K xs hb
   split at h
   case isFalse=>cases h
   cases h
   simp only [AU]
   rw [if_neg (fun e=>by subst e; simp only [AL,hb] at hi; cases hi)]
  ·cases h; rfl
  ·cases h
 | fn f caps=>cases caps<;>first | (cases h; rfl) | cases h
 | _=>first | (cases h; rfl) | cases h
theorem V4 {s s':St} {i:Nat} {a':AV} (h:s.keep (.row i)=some (a',s')):a'.nilFree=true/\a'.solid=true:=by
 simp only [St.keep] at h
 split at h
 ·split at h
  ·cases h; exact ⟨rfl,rfl⟩
  ·cases h
 ·cases h; exact ⟨rfl,rfl⟩
 ·cases h
structure Cn (H:HP) (φ:BF) (w:World) (s s':St) (tk tk':List Nat) (us:List Value) (cl:List AV) (H':HP) (ids:List Nat):Prop where
 step:AP H φ s.st w H' φ s'.st w
 keeps:A_ φ s.st φ s'.st none
 fr:s'.fr=s.fr
 nf:cl.all AV.nilFree=true
 cnt:AG cl=ids.length
 tks:tk'=ids.reverse++tk
 nd:tk.Nodup->tk'.Nodup
 held:∀ i∈tk,s'.st[i]? = s.st[i]?
 vars:∀ i,AL s.st i=true->s'.st[i]? = s.st[i]?
 boxes:∀ (m:Nat) (b:AH),(Ae cl)[m]? = some b->∃ i,ids[m]? = some i/\T1 s'.st i b
 vals:∀ (k:Nat) (f:Nat->Nat),(∀ m i,ids[m]? = some i->f (k+m)=i) ->
  AX (fun a u=>VC H' φ s'.st (a.ren f) u/\(a.solid=true\/∃ m,m<ids.length/\((∃ t e,∃ xs:List (Kd.T e),a=.row (k+m)/\(Ae cl)[m]? = some (AH.rows t e xs))\/(∃ ecs,a=.ptr (k+m) 0/\(Ae cl)[m]? = some (AH.var ecs))))) (Aq k cl) us
theorem Ql {a:AV} (h:a.solid=true) (f:Nat->Nat):a.ren f=a:=by cases a<;>first | rfl | cases h
theorem Cn.plain {H:HP} {φ:BF} {s s1 s':St} {tk tk':List Nat} {u:Value} {us:List Value} {cl:List AV} {H1 H':HP} {ids:List Nat} {a:AV} (F:Cn H1 φ w s1 s' tk tk' us cl H' ids)
  (hst:AP H φ s.st w H1 φ s1.st w) (hk:A_ φ s.st φ s1.st none) (hfr:s1.fr=s.fr) (hheld:∀ i∈tk,s1.st[i]? = s.st[i]?) (hvars:∀ i,AL s.st i=true->s1.st[i]? = s.st[i]?)
  (hn:a.nilFree=true) (hs:a.solid=true) (hv:VF H1 a u):Cn H φ w s s' tk tk' (u::us) (a::cl) H' ids:=by
 have o1:∀ k,Aq k (a::cl)=a::Aq k cl:=fun k=>by cases a<;>first | rfl | cases hs
 have o2:Ae (a::cl)=Ae cl:=by cases a<;>first | rfl | cases hs
 have o3:AG (a::cl)=AG cl:=by cases a<;>first | rfl | cases hs
 refine ⟨hst.trans F.step,hk.trans F.keeps,F.fr.trans hfr,by simp [hn,F.nf],by rw [o3]; exact F.cnt,F.tks,F.nd,fun i hi=>(F.held i hi).trans (hheld i hi),fun i hi=>?_,by rw [o2]; exact F.boxes,fun k f hf=>?_⟩
 ·have h1:=hvars i hi
  rw [F.vars i (by unfold AL at hi ⊢; rw [h1]; exact hi),h1]
 ·rw [o1,o2]
  exact ⟨u,us,rfl,⟨by rw [Ql hs]; exact VC.of_VF (hv.mono F.step.le),.inl hs⟩,F.vals k f hf⟩
theorem Iu:∀ {ks:List Kd} {vs cl:List AV} {tk tk':List Nat} {s s':St} {H:HP} {us:List Value},SR H φ s.st w->AX (VC H φ s.st) vs us->s.shutAll tk ks vs=some (cl,tk',s') ->
  ∃ H' ids,Cn H φ w s s' tk tk' us cl H' ids
 | [],[],cl,tk,tk',s,s',H,us,hs,hv,h=>by
  cases h
  cases hv
  exact ⟨H,[],AP.refl hs,A_.refl _ _ _,rfl,rfl,rfl,rfl,fun h=>h,fun _ _=>rfl,fun _ _=>rfl,fun m b h=>by simp [Ae] at h,fun k f _=>rfl⟩
 | [],_::_,cl,tk,tk',s,s',H,us,hs,hv,h=>by simp [St.shutAll] at h
 | _::_,[],cl,tk,tk',s,s',H,us,hs,hv,h=>by simp [St.shutAll] at h
 | k0::ks,v::vs,cl,tk,tk',s,s',H,us,hs,hv,h=>by
  obtain ⟨u,us,rfl,hu,hr⟩:=hv
  have norm:((v.norm k0).bind fun a=>(s.shutAll tk ks vs).bind fun y=>some (a::y.1,y.2))=some (cl,tk',s')->∃ H' ids,Cn H φ w s s' tk tk' (u::us) cl H' ids:=by
   intro h
   cases hq:v.norm k0 with
   | none=>rw [hq] at h; cases h
   | some a =>
    rw [hq] at h
    simp only [Z] at h
    cases hc:s.shutAll tk ks vs with
    | none=>rw [hc] at h; cases h
    | some y =>
     obtain ⟨y1,y2,y3⟩:=y
     rw [hc] at h
     cases h
     obtain ⟨n1,n2,n3,n4⟩:=Pe hq
     obtain ⟨H',ids,F⟩:=Iu hs hr hc
     exact ⟨H',ids,F.plain (AP.refl hs) (A_.refl _ _ _) rfl (fun _ _=>rfl) (fun _ _=>rfl) n1 n2 (n4 H u (hu.solid n3))⟩
  have away:∀ (i:Nat) (a:AV) (b:AH) (y:List AV×List Nat×St),Az tk i=false->s.shutAll (i::tk) ks vs=some y->(cl,tk',s')=(a::y.1,y.2) ->
    T1 s.st i b->a.nilFree=true->(∀ k r,Aq k (a::r)=(match b with | .var _=>AV.ptr k 0 | _=>AV.row k)::Aq (k+1) r)->(∀ r,Ae (a::r)=b::Ae r)->(∀ r,AG (a::r)=AG r+1) ->
    (∀ cs,b=.var cs->v=.ptr i 0)->((∀ cs,b≠.var cs)->v=.row i)->((∀ cs,b≠.var cs)->∃ (t:TypeId) (e:Kd),∃ xs:List (Kd.T e),b=AH.rows t e xs)->∃ H' ids,Cn H φ w s s' tk tk' (u::us) cl H' ids:=by
   intro i a b y hn hy e hb hnf o1 o2 o3 e1 e2 e3
   obtain ⟨y1,y2,y3⟩:=y
   cases e
   obtain ⟨H',ids,F⟩:=Iu hs hr hy
   refine ⟨H',i::ids,F.step,F.keeps,F.fr,by simp [hnf,F.nf],by rw [o3,F.cnt]; rfl,by rw [F.tks]; simp,fun hnd=>F.nd (List.nodup_cons.2 ⟨Ak.1 hn,hnd⟩),fun j hj=>F.held j (by simp [hj]),F.vars,fun m b' hb'=>?_,fun k f hf=>?_⟩
   ·rw [o2] at hb'
    cases m with
    | zero =>
     simp at hb'
     subst hb'
     refine ⟨i,rfl,?_⟩
     have hh:=F.held i (by simp)
     unfold T1 at hb ⊢
     rw [hh]
     exact hb
    | succ m=>simpa using F.boxes m b' (by simpa using hb')
   ·rw [o1,o2]
    have f0:f k=i:=by simpa using hf 0 i rfl
    refine ⟨u,us,rfl,⟨?_,.inr ⟨0,by simp,?_⟩⟩,?_⟩
    ·have hu':=VC.mono F.step.le F.keeps hu
     cases b with
     | var cs =>
      simp only [AV.ren,f0]
      rw [e1 cs rfl] at hu'
      exact hu'
     | _ =>
      simp only [AV.ren,f0]
      rw [e2 (by simp)] at hu'
      exact hu'
    ·cases b with
     | var cs=>exact .inr ⟨cs,rfl,rfl⟩
     | rows t e xs=>exact .inl ⟨t,e,xs,rfl,rfl⟩
     | _=>obtain ⟨_,_,_,e⟩:=e3 (by simp); cases e
    ·have:=F.vals (k+1) f fun m j hj=>by rw [Nat.add_assoc,Nat.add_comm 1 m]; exact hf (m+1) j (by simpa using hj)
     refine this.imp fun a' u' ⟨g1,g2⟩=>⟨g1,?_⟩
     rcases g2 with g2 | ⟨m,hm,g2⟩
     ·exact .inl g2
     ·refine .inr ⟨m+1,by simp; omega,?_⟩
      rw [show k+(m+1)=k+1+m by omega]
      simpa using g2
  cases v with
  | row i =>
   simp only [St.shutAll] at h
   split at h
   ·cases h
   ·rename_i hn
    have hn:Az tk i=false:=by simpa using hn
    have kept:((s.keep (.row i)).bind fun x=>(x.2.shutAll tk ks vs).bind fun y=>some (x.1::y.1,y.2))=some (cl,tk',s')->∃ H' ids,Cn H φ w s s' tk tk' (u::us) cl H' ids:=by
     intro h
     cases hk:s.keep (.row i) with
     | none=>rw [hk] at h; cases h
     | some x =>
      obtain ⟨a1,s1⟩:=x
      rw [hk] at h
      simp only [Z] at h
      cases hc:s1.shutAll tk ks vs with
      | none=>rw [hc] at h; cases h
      | some y =>
       obtain ⟨y1,y2,y3⟩:=y
       rw [hc] at h
       cases h
       obtain ⟨H1,g1,k1,f1,r1,_⟩:=Ii hs hu hk
       obtain ⟨H',ids,F⟩:=Iu g1.sr (hr.imp fun _ _ h=>h.mono g1.le k1) hc
       obtain ⟨n1,n2⟩:=V4 hk
       refine ⟨H',ids,F.plain g1 k1 r1 (fun j hj=>V3 hk fun e=>?_) (fun j hj=>X4 hk hj) n1 n2 f1⟩
       cases e
       exact Ak.1 hn hj
    split at h
    ·split at h
     ·rename_i t e xs hi
      cases hc:s.shutAll (i::tk) ks vs with
      | none=>rw [hc] at h; cases h
      | some y =>
       rw [hc] at h
       simp only [Z,Af] at h
       exact away i (.new t e xs) (.rows t e xs) y hn hc h.symm (.inl ⟨t,e,xs,hi,rfl⟩) rfl (fun k r=>rfl) (fun r=>rfl) (fun r=>by simp [AG,AV.isNew]) (fun cs e=>by cases e) (fun _=>rfl) (fun _=>⟨t,e,xs,rfl⟩)
     ·cases h
    ·exact kept h
  | ptr i o =>
   cases o with
   | zero =>
    simp only [St.shutAll] at h
    split at h
    ·cases h
    ·rename_i hn
     have hn:Az tk i=false:=by simpa using hn
     split at h
     ·split at h
      ·rename_i K x0 cs hi
       cases hq:Gn K.leaves cs with
       | none=>rw [hq] at h; cases h
       | some cs' =>
        rw [hq] at h
        simp only [Z] at h
        cases hc:s.shutAll (i::tk) ks vs with
        | none=>rw [hc] at h; cases h
        | some y =>
         rw [hc] at h
         simp only [Z,Af] at h
         obtain ⟨l1,l2,l3⟩:=Sq hq
         exact away i (.ref cs') (.var cs') y hn hc h.symm (.inr ⟨cs,cs',hi,rfl,l1,l3⟩) l2 (fun k r=>rfl) (fun r=>rfl) (fun r=>by simp [AG,AV.isNew]) (fun _ _=>rfl) (fun h=>absurd rfl (h cs')) (fun h=>absurd rfl (h cs'))
      ·cases h
     ·cases h
   | succ o=>exact norm h
  | _=>exact norm h
end Go.Proofs.Ytffahmnodgnohaa.Core

namespace Go.Proofs.Ytffahmnodgnohaa.Core
open Go
variable {P:Program}
theorem Cn.append {H H1 H2:HP} {φ:BF} {w:World} {s s1 s2:St} {tk t1 t2:List Nat} {us1 us2:List Value} {c1 c2:List AV} {i1 i2:List Nat}
  (F1:Cn H φ w s s1 tk t1 us1 c1 H1 i1) (F2:Cn H1 φ w s1 s2 t1 t2 us2 c2 H2 i2):Cn H φ w s s2 tk t2 (us1++us2) (c1++c2) H2 (i1++i2):=by
 have hl:(Ae c1).length=i1.length:=by rw [CQ,F1.cnt]
 refine ⟨F1.step.trans F2.step,F1.keeps.trans F2.keeps,F2.fr.trans F1.fr,by rw [List.all_append,F1.nf,F2.nf]; rfl,by rw [Ar,F1.cnt,F2.cnt,List.length_append],by rw [F2.tks,F1.tks]; simp,fun h=>F2.nd (F1.nd h),fun i hi=>?_,fun i hi=>?_,fun m b hb=>?_,fun k f hf=>?_⟩
 ·rw [F2.held i (by rw [F1.tks]; simp [hi]),F1.held i hi]
 ·have h1:=F1.vars i hi
  rw [F2.vars i (by unfold AL at hi ⊢; rw [h1]; exact hi),h1]
 ·rw [BD] at hb
  rcases BI m (Ae c1).length with h | h
  ·rw [AZ h] at hb
   obtain ⟨i,g1,g2⟩:=F1.boxes m b hb
   refine ⟨i,by rw [AZ (by omega)]; exact g1,?_⟩
   have hh:=F2.held i (by rw [F1.tks]; simp [List.mem_of_getElem? g1])
   unfold T1 at g2 ⊢
   rw [hh]
   exact g2
  ·rw [BG h] at hb
   obtain ⟨i,g1,g2⟩:=F2.boxes _ b hb
   exact ⟨i,by rw [BG (by omega)]; rw [hl] at g1; exact g1,g2⟩
 ·rw [LX,BD]
  refine AX.append ((F1.vals k f fun m i hm=>hf m i (by rw [AZ (AT.1 hm).1]; exact hm)).imp fun a u ⟨g1,g2⟩=>⟨g1.mono F2.step.le F2.keeps,?_⟩)
   ((F2.vals (k+AG c1) f fun m i hm=>by
    rw [Nat.add_assoc]
    exact hf _ i (by rw [F1.cnt,BG (by omega),Nat.add_sub_cancel_left]; exact hm)).imp fun a u ⟨g1,g2⟩=>⟨g1,?_⟩)
  ·rcases g2 with g2 | ⟨m,hm,g2⟩
   ·exact .inl g2
   ·refine .inr ⟨m,by simp; omega,?_⟩
    rw [AZ (by omega)]
    exact g2
  ·rcases g2 with g2 | ⟨m,hm,g2⟩
   ·exact .inl g2
   ·refine .inr ⟨i1.length+m,by simp; omega,?_⟩
    rw [BG (by omega),hl,Nat.add_sub_cancel_left,<- Nat.add_assoc]
    rw [F1.cnt] at g2
    exact g2
theorem XG {H:HP} {φ:BF} {st:List AH} {w:World} (hs:SR H φ st w) {id:Nat} {cs:List AV} (hb:st[id]? = some (.var cs)) :
  ∃ b c el,φ id=.pointer (some ⟨b,0,none⟩)/\w.heap[b]? = some (.cells c el (0,0))/\AX (VC H φ st) cs c.toList:=by
 obtain ⟨b,c,el,e3,hh,hc⟩:=hs.box id _ hb
 refine ⟨b,c,el,e3,hh,Jn hc.length fun j a u ha hu=>?_⟩
 have hw:=hc.at ha hu
 cases a with
 | row i =>
  obtain ⟨g1,b2,g2,g3⟩:=hs.cell id _ hb j i ha
  rw [e3] at g2
  cases g2
  simp only [World.cell?,hh] at g3
  rw [Array.getElem?_toList] at hu
  simp only [Option.isSome_none,Bool.false_eq_true,if_false] at g3
  rw [hu] at g3
  cases g3
  exact ⟨rfl,g1⟩
 | was i=>trivial
 | self T=>trivial
 | undef=>trivial
 | _=>exact VC.of_VF hw
def Y7 (P:Program):ResultVar->YV->Bool
 | .tmp t,r=>!r.cell&&r.t==t
 | .cell a t,r=>r.cell&&r.t==a&&Pb P t (MQ r.K)
def Sr (P:Program):List ResultVar->List YV->Bool
 | [],[]=>true
 | v::vs,r::rs=>Y7 P v r&&Sr P vs rs
 | _,_=>false
def Lc (tmps:Array Value):ResultVar->Sem Value
 | .tmp t=>pure (tmps.getD t undef)
 | .cell a t=>do loadVar t (<- asAddr (tmps.getD a undef))
def Y8 (K:Kd) (v:Value):Prop:=match K with
 | .pair _ _=>∃ arr,v=.agg arr
 | _=>v.cells=#[v]
theorem X5 {H:HP} {φ:BF} {w:World} {s:St} {K:Kd} {a:AV} {v:Value} {ds:List AV} {off:Nat} {t:TypeId} (hs:SR H φ s.st w) (hv:VC H φ s.st a v) (hbh:s.behind a=some (ds,off)) (hl2:off+K.sz<=ds.length) (hp:Pb P t (MQ K)=true) :
  ∃ u,(Instr.loadAt t v).run P w=.ok u w/\VA H φ s.st (part ds off (MQ K)) u:=by
 cases K with
 | pair a b=>exact RK hs hv hbh (n:=some _) hl2 hp
 | _=>exact RK hs hv hbh (n:=none) hl2 hp
theorem VN {H:HP} {φ:BF} {w:World} {s:St} {r:YV} {rv:ResultVar} {cs:List AV} {tmps:Array Value} (hs:SR H φ s.st w) (hf:Ca H φ s.st s.fr tmps) (h:s.resCells r=some cs) (hb:Y7 P rv r=true)
  (hne:∀ c∈cs,c.full=true) (hlen:cs.length=r.K.sz) :
  ∃ v,(Lc tmps rv).run P w=.ok v w/\AX (VC H φ s.st) cs v.cells.toList/\Y8 r.K v:=by
 unfold St.resCells at h
 cases rv with
 | tmp t =>
  simp only [Y7,AD,DH,beq_iff_eq] at hb
  obtain ⟨hc,rfl⟩:=hb
  rw [if_neg (by rw [hc]; simp)] at h
  split at h
  ·rename_i hfit
   cases h
   simp only [AD] at hfit
   have hv:=hf r.t
   refine ⟨tmps.getD r.t undef,by simp [Lc],Sb hs hv hfit.2,?_⟩
   rcases hv.cases with ⟨ds,arr,ea,ev,_⟩ | ⟨vs,arr,ea,_,_⟩ | hvc
   ·rw [ea] at hfit
    unfold Y8
    cases hK:r.K with
    | pair a b=>exact ⟨arr,ev⟩
    | _=>rw [hK] at hfit; cases hfit.1
   ·rw [ea] at hfit; cases hfit.2
   ·have h1:=Sa hs hvc hfit.2
    unfold Y8
    cases hK:r.K with
    | pair a b =>
     rw [hK,Ko hvc] at hlen
     have p1:=Kd.sz_pos a
     have p2:=Kd.sz_pos b
     simp [Kd.sz] at hlen
     omega
    | _=>exact h1
  ·cases h
 | cell a t =>
  simp only [Y7,AD,beq_iff_eq] at hb
  obtain ⟨⟨hc,rfl⟩,hp⟩:=hb
  rw [if_pos hc] at h
  cases hbh:s.behind (Cd s.fr r.t) with
  | none=>rw [hbh] at h; cases h
  | some y =>
   obtain ⟨ds,off⟩:=y
   rw [hbh] at h
   simp only [Z,Af] at h
   subst h
   have hv:=(hf r.t).behind hbh
   have hl2:off+r.K.sz<=ds.length:=by
    have:=Kd.sz_pos r.K
    simp only [List.length_take,List.length_drop] at hlen
    omega
   obtain ⟨b,o,vs,ev,_,_⟩:=NE hs hv hbh
   obtain ⟨u,hrun,hu⟩:=X5 (P:=P) (t:=t) hs hv hbh hl2 hp
   have hrun2:(Lc tmps (.cell r.t t)).run P w=.ok u w:=by
    rw [ev] at hrun
    simp only [Instr.loadAt,Instr.sureAddr,Sem.run_bind,Sem.run_pure,Result.andThen_ok] at hrun
    simp only [Lc,Sem.run_bind]
    rw [ev]
    simp only [asAddr,Sem.run_pure,Result.andThen_ok]
    exact hrun
   refine ⟨u,hrun2,?_⟩
   have single:r.K.sz=1->MQ r.K=none->AX (VC H φ s.st) ((ds.drop off).take r.K.sz) u.cells.toList/\u.cells=#[u]:=by
    intro h1 h2
    rw [h1] at hl2 hne ⊢
    rw [h2] at hu
    have hlt:off<ds.length:=by omega
    have hc1:(ds.drop off).take 1=[ds[off]]:=by rw [List.drop_eq_getElem_cons hlt]; rfl
    have hpart:part ds off none=ds[off]:=by simp only [part,List.headD_eq_head?_getD]; rw [List.drop_eq_getElem_cons hlt]; rfl
    rw [hpart] at hu
    have hfc:ds[off].full=true:=hne _ (by rw [hc1]; simp)
    have hvc:VC H φ s.st ds[off] u:=by
     rcases hu.cases with ⟨e1,arr,ea,_,_⟩ | ⟨e1,arr,ea,_,_⟩ | hvc
     ·obtain ⟨b',o',vs',_,hall,_⟩:=NE hs hv hbh
      obtain ⟨u2,_,hu2⟩:=hall.get off ds[off] (by simp)
      rw [ea] at hu2
      exact hu2.elim
     ·rw [ea] at hfc; cases hfc
     ·exact hvc
    have hone:=Sa hs hvc hfc
    rw [hc1,hone]
    exact ⟨⟨u,[],rfl,hvc,rfl⟩,rfl⟩
   cases hK:r.K with
   | pair a b =>
    rw [hK] at hu
    obtain ⟨arr,e,hc⟩:=hu
    subst e
    exact ⟨hc,arr,rfl⟩
   | _=>rw [hK] at single; exact single rfl rfl
theorem F8:∀ {ks:List Kd} {vs cl:List AV} {tk tk':List Nat} {s s':St},s.shutAll tk ks vs=some (cl,tk',s')->∀ v∈vs,v.full=true
 | [],[],cl,tk,tk',s,s',h,v,hv=>by cases hv
 | [],_::_,cl,tk,tk',s,s',h,v,hv=>by simp [St.shutAll] at h
 | _::_,[],cl,tk,tk',s,s',h,v,hv=>by cases hv
 | k::ks,a::vs,cl,tk,tk',s,s',h,v,hv=>by
  have norm:((a.norm k).bind fun x=>(s.shutAll tk ks vs).bind fun y=>some (x::y.1,y.2))=some (cl,tk',s')->v.full=true:=by
   intro h
   cases hq:a.norm k with
   | none=>rw [hq] at h; cases h
   | some x =>
    rw [hq] at h
    simp only [Z] at h
    cases hc:s.shutAll tk ks vs with
    | none=>rw [hc] at h; cases h
    | some y =>
     obtain ⟨y1,y2,y3⟩:=y
     rcases AQ.1 hv with rfl | hv
     ·have:=(Pe hq).2.2.1
      cases v<;>first | rfl | cases this
     ·exact F8 hc v hv
  cases a with
  | row i =>
   rcases AQ.1 hv with rfl | hv
   ·rfl
   ·simp only [St.shutAll] at h
    split at h
    ·cases h
    ·split at h
     ·split at h
      ·cases hc:s.shutAll (i::tk) ks vs with
       | none=>rw [hc] at h; cases h
       | some y=>obtain ⟨y1,y2,y3⟩:=y; exact F8 hc v hv
      ·cases h
     ·cases hk:s.keep (.row i) with
      | none=>rw [hk] at h; cases h
      | some x =>
       rw [hk] at h
       simp only [Z] at h
       cases hc:x.2.shutAll tk ks vs with
       | none=>rw [hc] at h; cases h
       | some y=>obtain ⟨y1,y2,y3⟩:=y; exact F8 hc v hv
  | ptr i o =>
   rcases AQ.1 hv with rfl | hv'
   ·rfl
   ·cases o with
    | zero =>
     simp only [St.shutAll] at h
     split at h
     ·cases h
     ·split at h
      ·split at h
       ·rename_i K x0 cs hi
        cases hq:Gn K.leaves cs with
        | none=>rw [hq] at h; cases h
        | some cs' =>
         rw [hq] at h
         simp only [Z] at h
         cases hc:s.shutAll (i::tk) ks vs with
         | none=>rw [hc] at h; cases h
         | some y=>obtain ⟨y1,y2,y3⟩:=y; exact F8 hc v hv'
       ·cases h
      ·cases h
    | succ o=>exact norm h
  | _=>exact norm h
theorem G7:∀ {ks:List Kd} {vs cl:List AV} {tk tk':List Nat} {s s':St},s.shutAll tk ks vs=some (cl,tk',s')->vs.length=ks.length
 | [],[],cl,tk,tk',s,s',h=>rfl
 | [],_::_,cl,tk,tk',s,s',h=>by simp [St.shutAll] at h
 | _::_,[],cl,tk,tk',s,s',h=>by simp [St.shutAll] at h
 | k::ks,a::vs,cl,tk,tk',s,s',h=>by
  have norm:((a.norm k).bind fun x=>(s.shutAll tk ks vs).bind fun y=>some (x::y.1,y.2))=some (cl,tk',s')->(a::vs).length=(k::ks).length:=by
   intro h
   cases hq:a.norm k with
   | none=>rw [hq] at h; cases h
   | some x =>
    rw [hq] at h
    simp only [Z] at h
    cases hc:s.shutAll tk ks vs with
    | none=>rw [hc] at h; cases h
    | some y=>obtain ⟨y1,y2,y3⟩:=y; simp [G7 hc]
  cases a with
  | row i =>
   simp only [St.shutAll] at h
   split at h
   ·cases h
   ·split at h
    ·split at h
     ·cases hc:s.shutAll (i::tk) ks vs with
      | none=>rw [hc] at h; cases h
      | some y=>obtain ⟨y1,y2,y3⟩:=y; simp [G7 hc]
     ·cases h
    ·cases hk:s.keep (.row i) with
     | none=>rw [hk] at h; cases h
     | some x =>
      rw [hk] at h
      simp only [Z] at h
      cases hc:x.2.shutAll tk ks vs with
      | none=>rw [hc] at h; cases h
      | some y=>obtain ⟨y1,y2,y3⟩:=y; simp [G7 hc]
  | ptr i o =>
   cases o with
   | zero =>
    simp only [St.shutAll] at h
    split at h
    ·cases h
    ·split at h
     ·split at h
      ·rename_i K x0 cs hi
       cases hq:Gn K.leaves cs with
       | none=>rw [hq] at h; cases h
       | some cs' =>
        rw [hq] at h
        simp only [Z] at h
        cases hc:s.shutAll (i::tk) ks vs with
        | none=>rw [hc] at h; cases h
        | some y=>obtain ⟨y1,y2,y3⟩:=y; simp [G7 hc]
      ·cases h
     ·cases h
   | succ o=>exact norm h
  | _=>exact norm h
theorem OQ:∀ K:Kd,K.leaves.length=K.sz
 | .int _=>rfl
 | .bool=>rfl
 | .str=>rfl
 | .slice _=>rfl
 | .pair a b=>by simp [Kd.leaves,Kd.sz,OQ a,OQ b]
 | .own _ _=>rfl
 | .ref _=>rfl
 | .fun _=>rfl
 | .clo _ _=>rfl
theorem T2 {w:World} {φ:BF} {tmps:Array Value}:∀ {rs:List YV} {rvs:List ResultVar} {aw:List AV} {tk tk':List Nat} {s s':St} {H:HP},SR H φ s.st w->Ca H φ s.st s.fr tmps->s.result tk rs=some (aw,tk',s')->Sr P rvs rs=true ->
  ∃ H' ids vs,Cn H φ w s s' tk tk' (vs.flatMap fun v=>v.cells.toList) (cellsOf aw) H' ids/\(rvs.mapM (Lc tmps)).run P w=.ok vs w/\AX (fun a v=>∃ K,∃ x:Kd.T K,a=Kd.av K x/\Y8 K v/\a.cells.length=v.cells.toList.length) aw vs
 | [],[],aw,tk,tk',s,s',H,hs,hf,h,hb=>by
  cases h
  exact ⟨H,[],[],⟨AP.refl hs,A_.refl _ _ _,rfl,rfl,rfl,rfl,fun h=>h,fun _ _=>rfl,fun _ _=>rfl,fun m b h=>by simp [cellsOf,Ae] at h,fun k f _=>rfl⟩,by simp,rfl⟩
 | [],_::_,aw,tk,tk',s,s',H,hs,hf,h,hb=>by simp [Sr] at hb
 | _::_,[],aw,tk,tk',s,s',H,hs,hf,h,hb=>by simp [Sr] at hb
 | r::rs,rv::rvs,aw,tk,tk',s,s',H,hs,hf,h,hb=>by
  simp only [Sr,AD] at hb
  simp only [St.result] at h
  cases h1:s.resCells r with
  | none=>rw [h1] at h; cases h
  | some cs =>
   rw [h1] at h
   simp only [Z] at h
   cases h2:s.shutAll tk r.K.leaves cs with
   | none=>rw [h2] at h; cases h
   | some y =>
    obtain ⟨cl,t1,s1⟩:=y
    rw [h2] at h
    simp only [Z] at h
    cases h3:r.K.ofCells cl with
    | none=>rw [h3] at h; cases h
    | some x =>
     rw [h3] at h
     simp only [Z] at h
     cases h4:s1.result t1 rs with
     | none=>rw [h4] at h; cases h
     | some z =>
      obtain ⟨aw',t2,s2⟩:=z
      rw [h4] at h
      cases h
      obtain ⟨v,hrun,hv,hfit⟩:=VN hs hf h1 hb.1 (F8 h2) ((G7 h2).trans (OQ _))
      obtain ⟨H1,i1,F1⟩:=Iu hs hv h2
      have ecl:cl=r.K.enc x:=by
       have:=SF r.K cl [] x F1.nf (DI h3)
       simpa using this
      have hf1:Ca H1 φ s1.st s1.fr tmps:=by rw [F1.fr]; exact hf.mono F1.step.le F1.keeps
      obtain ⟨H2,i2,vs,F2,hrun2,hall⟩:=T2 F1.step.sr hf1 h4 hb.2
      have hcells:(r.K.av x).cells=cl:=by rw [MS,ecl]
      refine ⟨H2,i1++i2,v::vs,?_,?_,⟨v,vs,rfl,⟨r.K,x,rfl,hfit,?_⟩,hall⟩⟩
      ·have:=F1.append F2
       simp only [cellsOf,List.flatMap_cons,hcells] at this ⊢
       exact this
      ·rw [List.mapM_cons]
       simp [Sem.run_bind,hrun,hrun2]
      ·have:=(F1.vals 0 (fun m=>i1.getD m 0) fun m i hm=>by simp [List.getD,hm]).length
       rw [hcells]
       rw [E4] at this
       exact this.symm
theorem Ld {w:World} {φ:BF}:∀ {bs:List (Nat×Kd)} {aw:List AV} {tk tk':List Nat} {s s':St} {H:HP},SR H φ s.st w->s.shutBoxes tk bs=some (aw,tk',s') ->
  ∃ (H':HP) (ids:List Nat) (us:List (List Value)),Cn H φ w s s' tk tk' us.flatten (Ay aw) H' ids/\AX (fun a u=>a.cellsO.length=u.length) aw us/\aw.length=bs.length/\(∀ (j:Nat) (v:AV),aw[j]? = some v->∃ p,bs[j]? = some p/\p.2.noRef=true/\∃ x:Kd.T p.2,v=Kd.av p.2 x) /\
   ∀ (j:Nat) (p:Nat×Kd),bs[j]? = some p->(p.2.isOwn=false/\AS s'.st p.1=true/\∃ (b:Nat) (c:Array Value) (el:TypeId),φ p.1=.pointer (some ⟨b,0,none⟩)/\w.heap[b]? = some (.cells c el (0,0))/\us[j]? = some c.toList) \/
    (∃ (t:TypeId) (e:Kd),∃ xs:List (Kd.T e),p.2=.own t e/\s'.st[p.1]? = some (AH.mrow t e xs)/\aw[j]? = some (.new t e xs))
 | [],aw,tk,tk',s,s',H,hs,h=>by
  cases h
  exact ⟨H,[],[],⟨AP.refl hs,A_.refl _ _ _,rfl,rfl,rfl,rfl,fun h=>h,fun _ _=>rfl,fun _ _=>rfl,fun m b h=>by simp [Ay,Ae] at h,fun k f _=>rfl⟩,rfl,rfl,fun j v h=>by simp at h,fun j p h=>by simp at h⟩
 | (b,K)::bs,aw,tk,tk',s,s',H,hs,h=>by
  simp only [St.shutBoxes] at h
  split at h
  ·rename_i t e xs hm
   split at h
   ·rename_i hK
    subst hK
    cases h4:s.shutBoxes tk bs with
    | none=>rw [h4] at h; cases h
    | some z =>
     obtain ⟨aw',t2,s2⟩:=z
     rw [h4] at h
     cases h
     obtain ⟨H2,i2,us,F2,hl,hn,hk,hb⟩:=Ld hs h4
     refine ⟨H2,i2,[]::us,F2,⟨[],us,rfl,rfl,hl⟩,by simp [hn],fun j v hj=>?_,fun j p hj=>?_⟩
     ·cases j with
      | zero=>simp at hj; subst hj; exact ⟨(b,.own t e),rfl,rfl,xs,rfl⟩
      | succ j=>simpa using hk j v (by simpa using hj)
     ·cases j with
      | zero =>
       simp at hj
       subst hj
       exact .inr ⟨t,e,xs,rfl,by rw [F2.vars b (by simp only [AL,hm]; rfl)]; exact hm,rfl⟩
      | succ j=>simpa using hb j p (by simpa using hj)
   ·cases h
  ·rename_i cs hcs
   split at h
   case isFalse=>cases h
   rename_i hnr2
   simp only [AD,DH] at hnr2
   obtain ⟨hnr,hno⟩:=hnr2
   cases h2:s.shutAll tk K.leaves cs with
   | none=>rw [h2] at h; cases h
   | some y =>
    obtain ⟨cl,t1,s1⟩:=y
    rw [h2] at h
    simp only [Z] at h
    cases h3:K.ofCells cl with
    | none=>rw [h3] at h; cases h
    | some x =>
     rw [h3] at h
     simp only [Z] at h
     cases h4:s1.shutBoxes t1 bs with
     | none=>rw [h4] at h; cases h
     | some z =>
      obtain ⟨aw',t2,s2⟩:=z
      rw [h4] at h
      cases h
      obtain ⟨b0,c,el,e1,e2,e3⟩:=XG hs hcs
      obtain ⟨H1,i1,F1⟩:=Iu hs e3 h2
      have ecl:cl=K.enc x:=by
       have:=SF K cl [] x F1.nf (DI h3)
       simpa using this
      obtain ⟨H2,i2,us,F2,hl,hn,hk,hb⟩:=Ld F1.step.sr h4
      have hcells:(K.av x).cellsO=cl:=by rw [(E7 x hno).1,ecl]
      have hlen:cl.length=c.toList.length:=by
       have:=(F1.vals 0 (fun m=>i1.getD m 0) fun m i hm=>by simp [List.getD,hm]).length
       rw [E4] at this
       exact this.symm
      refine ⟨H2,i1++i2,c.toList::us,?_,⟨c.toList,us,rfl,by simp only [hcells]; exact hlen,hl⟩,by simp [hn],fun j v hj=>?_,fun j p hj=>?_⟩
      ·have:=F1.append F2
       simp only [Ay,List.flatMap_cons,hcells,List.flatten_cons] at this ⊢
       exact this
      ·cases j with
       | zero=>simp at hj; subst hj; exact ⟨(b,K),rfl,hnr,x,rfl⟩
       | succ j=>simpa using hk j v (by simpa using hj)
      ·cases j with
       | zero =>
        simp at hj
        subst hj
        refine .inl ⟨hno,?_,b0,c,el,e1,e2,rfl⟩
        have v0:AS s.st b=true:=by simp only [AS,hcs]
        have g1:=F1.vars b (LT v0)
        have v1:AS s1.st b=true:=by unfold AS at v0 ⊢; rw [g1]; exact v0
        have g2:=F2.vars b (LT v1)
        unfold AS at v1 ⊢; rw [g2]; exact v1
       | succ j=>simpa using hb j p (by simpa using hj)
  ·cases h
theorem OR {R:AV->Value->Prop} (c:AV->List AV):∀ {aw:List AV} {us:List (List Value)} {k:Nat},AX (fun a u=>(c a).length=u.length) aw us->AX R (Aq k (aw.flatMap c)) us.flatten ->
  ∀ (j:Nat) (a:AV) (u:List Value),aw[j]? = some a->us[j]? = some u->AX R (Aq (k+AG ((aw.take j).flatMap c)) (c a)) u
 | [],us,k,hl,h,j,a,u,ha,hu=>by simp at ha
 | a0::aw,us,k,⟨u0,us',e,l0,hl⟩,h,j,a,u,ha,hu=>by
  subst e
  simp only [List.flatMap_cons,List.flatten_cons] at h
  rw [LX] at h
  have hlen:(Aq k (c a0)).length=u0.length:=by rw [E4]; exact l0
  have h1:AX R (Aq k (c a0)) u0:=by
   have:=h.take (Aq k (c a0)).length
   rw [List.take_left,hlen,List.take_left] at this
   exact this
  have h2:AX R (Aq (k+AG (c a0)) (aw.flatMap c)) us'.flatten:=by
   have:=h.drop (Aq k (c a0)).length
   rw [List.drop_left,hlen,List.drop_left] at this
   exact this
  cases j with
  | zero =>
   simp at ha hu
   subst ha hu
   simpa [AG] using h1
  | succ j =>
   have:=OR c hl h2 j a u (by simpa using ha) (by simpa using hu)
   simpa [Ar,Nat.add_assoc] using this
def AV.isPtr:AV->Bool
 | .ptr _ _=>true
 | .ref _=>true
 | _=>false
theorem Qm:∀ (K:Kd) (x:K.T),K.noRef=true->∀ c∈K.enc x,c.isPtr=false
 | .int _,_,_,c,h=>by simp [Kd.enc] at h; subst h; rfl
 | .bool,_,_,c,h=>by simp [Kd.enc] at h; subst h; rfl
 | .str,_,_,c,h=>by simp [Kd.enc] at h; subst h; rfl
 | .slice _,_,_,c,h=>by simp [Kd.enc] at h; subst h; rfl
 | .pair a b,x,hn,c,h=>by
  simp only [Kd.noRef,AD] at hn
  simp only [Kd.enc,Am] at h
  rcases h with h | h
  ·exact Qm a x.1 hn.1 c h
  ·exact Qm b x.2 hn.2 c h
 | .own _ _,_,_,c,h=>by simp [Kd.enc] at h; subst h; rfl
 | .ref _,_,hn,_,_=>by cases hn
 | .fun _,_,_,c,h=>by simp [Kd.enc] at h; subst h; rfl
 | .clo _ _,_,_,c,h=>by simp [Kd.enc] at h; subst h; rfl
theorem RV:∀ (cs:List AV) (k:Nat),(∀ c∈cs,c.isPtr=false)->∀ a∈Aq k cs,a.isPtr=false
 | [],k,_,a,h=>by simp [Aq] at h
 | c::cs,k,hn,a,h=>by
  have h1:=hn c (by simp)
  have ih:=fun k=>RV cs k fun c hc=>hn c (by simp [hc])
  have key:∀ (d:AV) (k':Nat),d.isPtr=false->(a=d\/a∈Aq k' cs)->a.isPtr=false:=fun d k' hd h=>by
   rcases h with rfl | h
   ·exact hd
   ·exact ih k' a h
  cases c<;>simp only [Aq,AQ] at h<;>first | exact key _ _ rfl h | exact absurd h1 (by simp [AV.isPtr])
theorem Gp:∀ (vs:List AV) (k:Nat),(Bv k vs).length=vs.length
 | [],_=>rfl
 | v::r,k=>by simp [Bv,Gp r]
theorem Ss:∀ (vs:List AV) (k j:Nat) (v:AV),vs[j]? = some v->(Bv k vs)[j]? = some (PH (k+AG (cellsOf (vs.take j))) v)
 | [],k,j,v,h=>by simp at h
 | u::r,k,0,v,h=>by simp at h; subst h; simp [Bv,cellsOf,AG]
 | u::r,k,j+1,v,h=>by
  simp only [Bv,List.getElem?_cons_succ]
  rw [Ss r _ j v (by simpa using h)]
  simp [cellsOf,Ar,Nat.add_assoc]
theorem Zu {H0 H:HP} {φ0 φ:BF} {w0 w:World} {s s1 s2:St} {args bs:List AV} {ids:List (Nat×Kd)} {rsv outs:List AV} {t1 t2:List Nat} {fn:Func} {ress:List YV} {tmps:Array Value}
  (hs:SR H φ s.st w) (hf:Ca H φ s.st s.fr tmps) (hfr:Fr bs.length (BK bs args).length H0 φ0 w0 H φ s.st w) (hle:H0.le H)
  (hids:∀ (j:Nat) (p:Nat×Kd),ids[j]? = some p->p.1=j) (hbl:bs.length=ids.length)
  (hres:s.result (List.range ids.length) ress=some (rsv,t1,s1)) (hbox:s1.shutBoxes t1 ids=some (outs,t2,s2)) (hrb:Sr P fn.results.toList ress=true) :
  (∀ r∈rsv++outs,r.cells.all AV.nilFree=true)/\∃ v,(results fn tmps).run P w=.ok v w/\LZ H0 φ0 w0 args bs outs rsv v w:=by
 obtain ⟨H1,i1,vs,F1,hrun,hall⟩:=T2 (P:=P) hs hf hres hrb
 obtain ⟨H2,i2,us,F2,hul,hol,hok,hob⟩:=Ld F1.step.sr hbox
 have hnv:outs.length=bs.length:=by rw [hol,hbl]
 let nv:=bs.length
 let μ:Nat->Nat:=fun k=>if k<nv then k else (i2++i1).getD (k-nv) 0
 have μv:∀ k,k<nv->μ k=k:=fun k h=>by simp only [μ,h,if_true]
 have μb:∀ m i,i2[m]? = some i->μ (nv+m)=i:=fun m i hm=>by
  have hl:=(AT.1 hm).1
  simp only [μ,show ¬ nv+m<nv by omega,if_false,Nat.add_sub_cancel_left]
  simp [List.getD,AZ hl,hm]
 have μr:∀ m i,i1[m]? = some i->μ (nv+i2.length+m)=i:=fun m i hm=>by
  simp only [μ,show ¬ nv+i2.length+m<nv by omega,if_false]
  rw [show nv+i2.length+m-nv=i2.length+m by omega]
  simp [List.getD,BG,hm]
 have hnd:(t2).Nodup:=F2.nd (F1.nd List.nodup_range)
 have ht2:t2=i2.reverse++(i1.reverse++List.range ids.length):=by rw [F2.tks,F1.tks]
 let est:=BK outs rsv
 let φ2:BF:=fun k=>φ (μ k)
 have hc2:AG (Ay outs)=i2.length:=F2.cnt
 have hc1:AG (cellsOf rsv)=i1.length:=F1.cnt
 have elen:est.length=nv+i2.length+i1.length:=by
  show (BK outs rsv).length=_
  rw [KY,hnv,hc2,hc1]
 have evar:∀ k,k<nv->(∃ (b:Nat) (c:Array Value) (el:TypeId) (a:AV),φ k=.pointer (some ⟨b,0,none⟩)/\w.heap[b]? = some (.cells c el (0,0))/\outs[k]? = some a/\AS s2.st k=true /\
   est[k]? = some (.var (Aq (nv+AG (Ay (outs.take k))) a.cellsO)) /\
   AX (fun a u=>VC H2 φ s2.st (a.ren μ) u/\(a.solid=true\/∃ m,m<i2.length/\((∃ t e,∃ xs:List (Kd.T e),a=.row (nv+m)/\(Ae (Ay outs))[m]? = some (AH.rows t e xs))\/(∃ ecs,a=.ptr (nv+m) 0/\(Ae (Ay outs))[m]? = some (AH.var ecs)))))
    (Aq (nv+AG (Ay (outs.take k))) a.cellsO) c.toList)\/(∃ (t:TypeId) (e:Kd),∃ xs:List (Kd.T e),s2.st[k]? = some (AH.mrow t e xs)/\est[k]? = some (AH.mrow t e xs)):=by
  intro k hk
  have hk2:k<ids.length:=by omega
  have hp:ids[k]? = some ids[k]:=by simp
  have hk3:k<outs.length:=by omega
  have ha:outs[k]? = some outs[k]:=by simp
  have hget:est[k]? = some (Uo (nv+AG (Ay (outs.take k))) outs[k]):=by
   show (BK outs rsv)[k]? = _
   rw [E5,AZ (by rw [As]; exact hk3),F6 outs _ k _ ha,hnv]
  rcases hob k _ hp with ⟨hno,g1,b,c,el,e1,e2,e3⟩ | ⟨t,e,xs,hK,g1,g2⟩
  ·rw [hids k _ hp] at g1 e1
   refine .inl ⟨b,c,el,outs[k],e1,e2,ha,g1,?_,OR AV.cellsO hul (F2.vals nv μ μb) k _ _ ha e3⟩
   rw [hget]
   obtain ⟨p,hp2,_,x,hx⟩:=hok k _ ha
   rw [hp] at hp2
   cases hp2
   rw [hx,(E7 x hno).2,(E7 x hno).1]
  ·rw [hids k _ hp] at g1
   rw [ha] at g2
   refine .inr ⟨t,e,xs,g1,?_⟩
   rw [hget,Option.some.inj g2]
   rfl
 have erow:∀ k b,nv<=k->est[k]? = some b->T1 s2.st (μ k) b/\(i2++i1)[k-nv]? = some (μ k):=by
  intro k b hk hb
  have hb:(BK outs rsv)[k]? = some b:=hb
  rw [E5,BG (by rw [As,hnv]; exact hk),As,hnv,BD] at hb
  rcases BI (k-bs.length) (Ae (Ay outs)).length with h | h
  ·rw [AZ h] at hb
   obtain ⟨i,g1,g2⟩:=F2.boxes _ b hb
   have e:=μb _ i g1
   rw [show nv+(k-bs.length)=k by omega] at e
   rw [e]
   exact ⟨g2,by rw [AZ (AT.1 g1).1]; exact g1⟩
  ·rw [BG h] at hb
   obtain ⟨i,g1,g2⟩:=F1.boxes _ b hb
   rw [CQ,hc2] at h g1
   have e:=μr _ i g1
   rw [show nv+i2.length+(k-bs.length-i2.length)=k by omega] at e
   rw [e]
   refine ⟨?_,by rw [BG h]; exact g1⟩
   have hh:=F2.held i (by rw [F1.tks]; simp [List.mem_of_getElem? g1])
   unfold T1 at g2 ⊢
   rw [hh]
   exact g2
 have rowsE:∀ m t e (xs:List (Kd.T e)),(Ae (Ay outs))[m]? = some (AH.rows t e xs)->est[nv+m]? = some (AH.rows t e xs):=by
  intro m t e xs h
  show (BK outs rsv)[nv+m]? = _
  have hl:=(AT.1 h).1
  rw [E5,BG (by rw [As,hnv]; exact Nat.le_add_right _ _),As,hnv,BD,show nv+m-bs.length=m by simp only [nv]; omega,AZ hl]
  exact h
 have restE:∀ m b,(Ae (cellsOf rsv))[m]? = some b->est[nv+i2.length+m]? = some b:=by
  intro m b h
  show (BK outs rsv)[nv+i2.length+m]? = _
  rw [E5,BG (by rw [As,hnv]; simp only [nv]; omega),As,hnv,BD,BG (by rw [CQ,hc2]; simp only [nv]; omega),CQ,hc2,
   show nv+i2.length+m-bs.length-i2.length=m by simp only [nv]; omega]
  exact h
 have hs2:=F2.step.sr
 have μt:∀ k,k<est.length->(k<nv/\μ k=k)\/(nv<=k/\(i2++i1)[k-nv]? = some (μ k)):=by
  intro k hk
  rcases BI k nv with h | h
  ·exact .inl ⟨h,μv k h⟩
  ·exact .inr ⟨h,(erow k est[k] h (by simp)).2⟩
 have μinj:∀ k k',k<est.length->k'<est.length->μ k=μ k'->k=k':=by
  intro k k' hk hk' e
  have hndl:(i2++i1).Nodup/\∀ i∈i2++i1,¬ i<ids.length:=by
   rw [ht2,<- CL] at hnd
   have h1:=List.nodup_append.1 hnd
   constructor
   ·have h2:=List.nodup_append.1 h1.1
    exact List.nodup_append.2 ⟨(List.reverse_perm i2).nodup_iff.1 h2.1,(List.reverse_perm i1).nodup_iff.1 h2.2.1,fun a ha b hb=>h2.2.2 a (by simpa using ha) b (by simpa using hb)⟩
   ·intro i hi hlt
    exact h1.2.2 i (by simpa using hi) i (List.mem_range.2 hlt) rfl
  rcases μt k hk with ⟨h1,e1⟩ | ⟨h1,e1⟩<;>rcases μt k' hk' with ⟨h2,e2⟩ | ⟨h2,e2⟩
  ·omega
  ·exact absurd (show μ k'<ids.length by rw [<- e,e1]; omega) (hndl.2 _ (List.mem_of_getElem? e2))
  ·exact absurd (show μ k<ids.length by rw [e,e2]; omega) (hndl.2 _ (List.mem_of_getElem? e1))
  ·rw [<- e] at e2
   have:=(List.getElem?_inj (AT.1 e1).1 hndl.1).1 (e1.trans e2.symm)
   omega
 have vcE:∀ a u,VC H2 φ s2.st (a.ren μ) u->(a.solid=true\/(∃ k t e,∃ xs:List (Kd.T e),a=.row k/\est[k]? = some (AH.rows t e xs))\/∃ k ecs,a=.ptr k 0/\est[k]? = some (AH.var ecs))->VC H2 φ2 est a u:=by
  intro a u hv hc
  rcases hc with h | ⟨k,t,e,xs,rfl,hk⟩ | ⟨k,ecs,rfl,hk⟩
  ·rw [Ql h] at hv
   exact VC.of_VF (hv.solid h)
  ·obtain ⟨e1,_⟩:=hv
   exact ⟨e1,by simp only [AE,hk]; rfl⟩
  ·obtain ⟨_,b,e1,e2⟩:=hv
   exact ⟨by simp only [AS,hk],b,e1,e2⟩
 have hbox2:∀ k b,est[k]? = some b->Ee H2 w (φ2 k) b:=by
  intro k b hk
  rcases BI k nv with h | h
  ·rcases evar k h with ⟨b0,c,el,a,e1,e2,e3,_,e4,e5⟩ | ⟨t,e,xs,e1,e2⟩
   rotate_left
   ·rw [hk] at e2
    cases e2
    rw [show φ2 k=φ k by simp only [φ2,μv k h]]
    exact hs2.box k _ e1
   rw [hk] at e4
   cases e4
   obtain ⟨p,hp,hnr,x,hx⟩:=hok k a e3
   refine ⟨b0,c,el,by simp only [φ2,μv k h]; exact e1,e2,e5.impM fun a' ha' u ⟨g1,g2⟩=>?_⟩
   have hnp:=RV _ _ (by
    intro c hc
    rw [hx] at hc
    by_cases ho:p.2.isOwn=true
    ·revert x
     obtain ⟨t,e,ho⟩:=Se ho
     rw [ho]
     intro x _ hc
     simp [Sf x] at hc
    ·rw [(E7 x (by simpa using ho)).1] at hc
     exact Qm _ _ hnr c hc) a' ha'
   rcases g2 with g2 | ⟨m,_,⟨t,e,xs,rfl,_⟩ | ⟨ecs,rfl,g3⟩⟩
   ·rw [Ql g2] at g1
    exact VW.of_VF (g1.solid g2)
   ·trivial
   ·cases hnp
  ·obtain ⟨g1,_⟩:=erow k b h hk
   rcases g1 with ⟨t,e,xs,g2,rfl⟩ | ⟨cs,ecs,g2,rfl,g3,g4⟩
   ·exact hs2.box _ _ g2
   ·obtain ⟨b0,c,el,e1,e2,e3⟩:=hs2.box _ _ g2
    refine ⟨b0,c,el,e1,e2,Jn (by rw [e3.length,g3]) fun o a u ha hu=>?_⟩
    obtain ⟨c0,c1,c2,c3,c4⟩:=g4 o a ha
    have hw:=e3.at c1 hu
    have hf:VF H2 c0 u:=by cases c0<;>first | exact hw | cases c3
    exact VW.of_VF (c4 H2 u hf)
 have hlive:∀ (k:Nat) (b2:AH),est[k]? = some b2->b2.live=true->(∀ b,¬BQ (φ2 k) b)\/∃ b,s2.st[μ k]? = some b/\b.live=true/\φ2 k=φ (μ k):=by
  intro k b hk _
  right
  rcases BI k nv with h | h
  ·rw [μv k h]
   rcases evar k h with ⟨_,_,_,_,_,_,_,e3,_⟩ | ⟨t,e,xs,e1,_⟩
   ·unfold AS at e3
    split at e3
    ·rename_i cs e; exact ⟨_,e,rfl,by simp only [φ2,μv k h]⟩
    ·cases e3
   ·exact ⟨_,e1,rfl,by simp only [φ2,μv k h]⟩
  ·obtain ⟨g1,_⟩:=erow k b h hk
   rcases g1 with ⟨t,e,xs,g2,_⟩ | ⟨cs,ecs,g2,_⟩
   ·exact ⟨_,g2,rfl,rfl⟩
   ·exact ⟨_,g2,rfl,rfl⟩
 have hsr:SR H2 φ2 est w:=by
  refine AP.pick hs2 μ hbox2 hlive (fun k k' b b' hk hk' _ _ _ _ e=>μinj k k' (AT.1 hk).1 (AT.1 hk').1 e) (fun k cs hk o i ho=>?_)
  rcases BI k nv with h | h
  ·rcases evar k h with ⟨b0,c,el,a,e1,e2,e3,_,e4,e5⟩ | ⟨t,e,xs,_,e2⟩
   rotate_left
   ·rw [hk] at e2; cases e2
   rw [hk] at e4
   cases e4
   obtain ⟨u,hu,g1,g2⟩:=e5.get o _ ho
   rcases g2 with g2 | ⟨m,_,⟨t,e,xs,g3,g4⟩ | ⟨ecs,g3,_⟩⟩
   ·cases g2
   ·cases g3
    refine ⟨by simp only [AE,rowsE m t e xs g4]; rfl,b0,by simp only [φ2,μv k h]; exact e1,?_⟩
    obtain ⟨g5,_⟩:=g1
    simp only [World.cell?,e2]
    rw [Array.getElem?_toList] at hu
    simp only [Option.isSome_none,Bool.false_eq_true,if_false,hu]
    rw [g5]
   ·cases g3
  ·obtain ⟨g1,_⟩:=erow k _ h hk
   rcases g1 with ⟨t,e,xs,_,g3⟩ | ⟨cs0,ecs,g2,g3,_,g4⟩
   ·cases g3
   ·cases g3
    obtain ⟨_,_,g5,_⟩:=g4 o _ ho
    cases g5
 have hfr2:Fr bs.length (BK bs args).length H0 φ0 w0 H2 φ2 est w:=by
  have f2:=F2.step.fr _ _ _ _ _ (F1.step.fr _ _ _ _ _ hfr)
  refine ⟨f2.os,f2.tape,f2.output,f2.size,f2.old,fun j hj=>?_,fun i bi hi hl b hb=>?_,fun j hj=>?_,f2.frz⟩
  ·have:=f2.same j hj
   simp only [φ2,μv j hj]
   exact this
  ·rcases hlive i bi hi hl with e | ⟨b1,g1,g2,g3⟩
   ·exact (e _ hb).elim
   ·rw [g3] at hb
    exact f2.new _ b1 g1 g2 b hb
  ·rcases evar j hj with ⟨_,_,_,_,_,_,_,_,e4,_⟩ | ⟨t,e,xs,_,e4⟩
   ·simp only [AL,e4]; rfl
   ·simp only [AL,e4]; rfl
 have hhan:C6 outs=nv+i2.length:=by rw [Qe,hnv,hc2]
 have hvals:AX (VB H2 φ2 est) (Bv (C6 outs) rsv) vs:=by
  rw [hhan]
  have h1:=F1.vals (nv+i2.length) μ μr
  have h2:AX (VC H2 φ2 est) (Aq (nv+i2.length) (cellsOf rsv)) (vs.map fun v=>v.cells.toList).flatten:=by
   rw [<- List.flatMap_def]
   refine h1.imp fun a u ⟨g1,g2⟩=>vcE a u (g1.mono F2.step.le F2.keeps) ?_
   rcases g2 with g2 | ⟨m,_,⟨t,e,xs,g3,g4⟩ | ⟨ecs,g3,g4⟩⟩
   ·exact .inl g2
   ·exact .inr (.inl ⟨_,t,e,xs,g3,restE m _ g4⟩)
   ·exact .inr (.inr ⟨_,ecs,g3,restE m _ g4⟩)
  have h3:AX (fun a u=>a.cells.length=u.length) rsv (vs.map fun v=>v.cells.toList):=by
   refine Jn (by rw [List.length_map,hall.length]) fun j a u ha hu=>?_
   rw [BT] at hu
   obtain ⟨v,hv,_,_,_,_,hl⟩:=hall.get j a ha
   rw [hv] at hu
   cases hu
   exact hl
  refine Jn (by rw [Gp,hall.length]) fun j a v ha hv=>?_
  have hj:j<rsv.length:=by rw [<- Gp rsv (nv+i2.length)]; exact (AT.1 ha).1
  have hr:rsv[j]? = some rsv[j]:=by simp
  rw [Ss rsv _ j _ hr] at ha
  cases ha
  have h4:=OR AV.cells h3 h2 j rsv[j] v.cells.toList hr (by rw [BT,hv]; rfl)
  obtain ⟨v',hv',K,x,hK,hfit,_⟩:=hall.get j _ hr
  rw [hv] at hv'
  cases hv'
  rw [hK] at h4 ⊢
  change AX _ (Aq (nv+i2.length+AG (cellsOf (List.take j rsv))) _) _ at h4
  generalize nv+i2.length+AG (cellsOf (List.take j rsv))=kk at h4 ⊢
  have single:(K.av x).cells=[K.av x]->v.cells=#[v]->PH kk (K.av x)=(Aq kk [K.av x]).headD .undef->VB H2 φ2 est (PH kk (K.av x)) v:=by
   intro e1 e2 e3
   rw [e1,e2] at h4
   rw [e3]
   cases hq:Aq kk [K.av x] with
   | nil=>rw [hq] at h4; simp [AX] at h4
   | cons c r =>
    rw [hq] at h4
    obtain ⟨v',r',e,h5,_⟩:=h4
    cases e
    exact VB.of_VC h5
  cases K with
  | pair k l =>
   obtain ⟨arr,rfl⟩:=hfit
   exact ⟨arr,rfl,h4⟩
  | _=>exact single rfl hfit rfl
 have nfs:∀ {l:List AV},(cellsOf l).all AV.nilFree=true->∀ r∈l,r.cells.all AV.nilFree=true:=by
  intro l h r hr
  refine Ax.2 fun c hc=>Ax.1 h c ?_
  exact List.mem_flatMap.2 ⟨r,hr,hc⟩
 refine ⟨fun r hr=>?_,match vs with | [v]=>v | vs=>.tuple vs.toArray,?_,H2,φ2,HP.le_trans hle (HP.le_trans F1.step.le F2.step.le),hsr,hfr2,?_⟩
 ·rcases Am.1 hr with h | h
  ·exact nfs F1.nf r h
  ·obtain ⟨j,hj⟩:=List.mem_iff_getElem?.1 h
   obtain ⟨p,_,_,x,hx⟩:=hok j r hj
   by_cases ho:p.2.isOwn=true
   ·subst hx
    revert x
    obtain ⟨t,e,ho⟩:=Se ho
    rw [ho]
    intro x
    intros
    rfl
   ·refine Ax.2 fun c hc=>Ax.1 F2.nf c (List.mem_flatMap.2 ⟨r,h,?_⟩)
    subst hx
    rw [(E7 x (by simpa using ho)).1]
    rw [MS] at hc
    exact hc
 ·have hm:(fn.results.mapM (Lc tmps)).run P w=.ok vs.toArray w:=by
   rw [Array.mapM_eq_mapM_toList,<- bind_pure_comp,Sem.run_bind,hrun]
   rfl
  have hr:results fn tmps=(fn.results.mapM (Lc tmps)) >>= fun vs=>pure (if h:vs.size=1 then vs[0] else .tuple vs):=by
   unfold results
   first | rfl | (congr 1; done) | (congr 1; congr 1; done) | (congr 1; congr 1; funext rv; cases rv<;>rfl)
  rw [hr,Sem.run_bind,hm]
  cases vs with
  | nil=>rfl
  | cons v vs =>
   cases vs with
   | nil=>rfl
   | cons v2 vs=>rfl
 ·cases vs with
  | nil =>
   have:rsv=[]:=by
    have:=hall.length
    exact Dk.1 (by simpa using this.symm)
   subst this
   exact ⟨_,rfl,rfl⟩
  | cons v vs =>
   cases vs with
   | nil =>
    have h1:rsv.length=1:=by have:=hall.length; simpa using this.symm
    obtain ⟨a,rfl⟩:=List.length_eq_one_iff.1 h1
    obtain ⟨v',r,e,h2,_⟩:=hvals
    cases e
    exact h2
   | cons v2 vs =>
    have h1:rsv.length=vs.length+2:=by have:=hall.length; simpa using this.symm
    obtain ⟨a,b,r,rfl⟩:∃ a b r,rsv=a::b::r:=by
     match rsv,h1 with
     | a::b::r,_=>exact ⟨a,b,r,rfl⟩
    exact ⟨_,rfl,hvals⟩
def Kd.sol:Kd->Bool
 | .pair a b=>a.sol&&b.sol
 | .own _ _ | .ref _=>false
 | _=>true
def Kd.okOut:Kd->Bool
 | .pair a b=>a.okOut&&b.okOut
 | .ref K=>K.sol
 | _=>true
theorem UZ:∀ (K:Kd) (x:K.T),K.sol=true->(K.enc x).all (fun c=>c.solid&&(match c with | .nil=>false | _=>true))=true
 | .int _,_,_=>rfl
 | .bool,_,_=>rfl
 | .str,_,_=>rfl
 | .slice _,_,_=>rfl
 | .pair a b,x,h=>by
  simp only [Kd.sol,AD] at h
  simp only [Kd.enc,List.all_append,UZ a x.1 h.1,UZ b x.2 h.2,Bool.and_self]
 | .own _ _,_,h=>by cases h
 | .ref _,_,h=>by cases h
 | .fun _,_,_=>rfl
 | .clo _ _,_,_=>rfl
theorem Qn:∀ (K:Kd) (x:K.T),K.okOut=true->(K.enc x).all AV.nilFree=true
 | .int _,_,_=>rfl
 | .bool,_,_=>rfl
 | .str,_,_=>rfl
 | .slice _,_,_=>rfl
 | .pair a b,x,h=>by
  simp only [Kd.okOut,AD] at h
  simp only [Kd.enc,List.all_append,Qn a x.1 h.1,Qn b x.2 h.2,Bool.and_self]
 | .own _ _,_,_=>rfl
 | .fun _,_,_=>rfl
 | .clo _ _,_,_=>rfl
 | .ref K,x,h=>by
  simp only [Kd.enc,List.all_cons,List.all_nil,Bool.and_true,AV.nilFree]
  exact UZ K x h
def X6 (P:Program) (f:Nat) (a:CU):Bool :=
 match P.funcs[f]? with
 | some fn=>(match fn.body with
  | some c=>!(fn.name == "runtime.NumGoroutine")&&C5 P fn.ntmps c a.body&&Sr P fn.results.toList a.res&&decide (a.params.length≤fn.ntmps)&&a.outs.all Kd.okOut
  | none=>false)
 | none=>false
theorem T3:∀ (ks:List Kd) (j0:Nat),(RH ks j0).length=ks.length/\∀ (j:Nat) (p:Nat×Kd),(RH ks j0)[j]? = some p->p.1=j0+j
 | [],j0=>⟨rfl,fun j p h=>by simp [RH] at h⟩
 | k::ks,j0=>by
  obtain ⟨h1,h2⟩:=T3 ks (j0+1)
  refine ⟨by simp [RH,h1],fun j p h=>?_⟩
  simp only [RH] at h
  cases j with
  | zero=>simp at h; subst h; rfl
  | succ j=>have:=h2 j p (by simpa using h); omega
theorem CR:∀ (ps:List PK) (j0 j:Nat) (p:Nat×Kd),(CV ps j0)[j]? = some p->p.1=j0+j
 | [],j0,j,p,h=>by simp [CV] at h
 | .val _::r,j0,j,p,h=>CR r j0 j p h
 | .bor _::r,j0,j,p,h=>CR r j0 j p h
 | .mov _::r,j0,j,p,h=>CR r j0 j p h
 | .movS _::r,j0,j,p,h=>CR r j0 j p h
 | .ept::r,j0,j,p,h=>CR r j0 j p h
 | .cap _ _::r,j0,j,p,h=>CR r j0 j p h
 | .cap0 _::r,j0,j,p,h=>CR r j0 j p h
 | .ptr K::r,j0,j,p,h=>by
  simp only [CV] at h
  cases j with
  | zero=>simp at h; subst h; rfl
  | succ j=>have:=CR r (j0+1) j p (by simpa using h); omega
 | .mut K::r,j0,j,p,h=>by
  simp only [CV] at h
  obtain ⟨hl,hm⟩:=T3 K.owns j0
  rcases BI j (RH K.owns j0).length with h1 | h1
  ·rw [AZ h1] at h; exact hm j p h
  ·rw [BG h1,hl] at h
   rw [hl] at h1
   have:=CR r _ _ p h
   omega
theorem RW:∀ (vs:List AV) (i t:Nat),Cd (IZ i vs) t=if i<=t/\t<i+vs.length then vs.getD (t-i) .undef else .undef
 | [],i,t=>by simp [IZ,Cd]
 | v::vs,i,t=>by
  simp only [IZ,Cd]
  by_cases h:i=t
  ·subst h
   rw [if_pos rfl,if_pos ⟨Nat.le_refl _,by simp⟩]
   simp
  ·rw [if_neg h,RW vs (i+1) t]
   by_cases h1:i+1<=t/\t<i+1+vs.length
   ·rw [if_pos h1,if_pos ⟨by omega,by simp; omega⟩,show t-i=(t-(i+1))+1 by omega]
    simp
   ·rw [if_neg h1,if_neg (by simp; omega)]
theorem T4:∀ {rs:List YV} {aw:List AV} {tk tk':List Nat} {s s':St},s.result tk rs=some (aw,tk',s')->aw.length=rs.length
 | [],aw,tk,tk',s,s',h=>by cases h; rfl
 | r::rs,aw,tk,tk',s,s',h=>by
  simp only [St.result] at h
  cases h1:s.resCells r with
  | none=>rw [h1] at h; cases h
  | some cs =>
   rw [h1] at h
   simp only [Z] at h
   cases h2:s.shutAll tk r.K.leaves cs with
   | none=>rw [h2] at h; cases h
   | some y =>
    rw [h2] at h
    simp only [Z] at h
    cases h3:r.K.ofCells y.1 with
    | none=>rw [h3] at h; cases h
    | some x =>
     rw [h3] at h
     simp only [Z] at h
     cases h4:y.2.2.result y.2.1 rs with
     | none=>rw [h4] at h; cases h
     | some z =>
      obtain ⟨aw',t2,s2⟩:=z
      rw [h4] at h
      cases h
      simp [T4 h4]
theorem Y9 {cal:Cz} {k f:Nat} {a:CU} {args bs rs:List AV} (hcal:D8 P cal) (hb:X6 P f a=true) (hl:args.length=a.params.length/\bs.length=(CV a.params 0).length)
  (h:(WC cal k a args bs).map (B6 a.outs)=some rs):Sg P f/\(∀ r∈rs,r.cells.all AV.nilFree=true)/\∃ n,n+bs.length=rs.length /\
  ∀ (H:HP) (φ:BF) (w:World) (cargs:List Value),SR H φ (BK bs args) w->AX (VB H φ (BK bs args)) (Bv (C6 bs) args) cargs ->
   Calls P f cargs.toArray w fun out w'=>match out with
    | .returned v=>LZ H φ w args bs (rs.drop n) (rs.take n) v w'
    | _=>False:=by
 unfold X6 at hb
 split at hb
 case h_2=>cases hb
 rename_i fn hfn
 split at hb
 case h_2=>cases hb
 rename_i c hc
 simp only [AD,DH,decide_eq_true_eq] at hb
 obtain ⟨⟨⟨⟨hname,hcode⟩,hress⟩,hlen⟩,hout⟩:=hb
 cases hr:WC cal k a args bs with
 | none=>rw [hr] at h; cases h
 | some r =>
 rw [hr] at h
 simp only [Option.map_some,Af] at h
 subst h
 have hol:a.outs.length=a.res.length+bs.length:=by rw [hl.2]; simp [CU.outs]
 have el:(B6 a.outs r).length=a.outs.length:=by
  have:∀ (Ks:List Kd) (y:RT Ks),(B6 Ks y).length=Ks.length:=by
   intro Ks
   induction Ks with
   | nil=>intro y; rfl
   | cons K Ks ih =>
    intro y
    cases Ks with
    | nil=>rfl
    | cons L Ks=>simp only [B6,List.length_cons] at ih ⊢; rw [ih y.2]
  exact this _ _
 refine ⟨⟨fn,c,hfn,hname,hc⟩,fun q hq=>?_,a.res.length,by rw [el,hol],fun H φ w cargs hs hargs=>?_⟩
 ·obtain ⟨j,hj⟩:=List.mem_iff_getElem?.1 hq
  have hjl:j<a.outs.length:=by rw [<- el]; exact (AT.1 hj).1
  obtain ⟨x,hx⟩:=Qg a.outs r j a.outs[j] (by simp)
  rw [hx] at hj
  cases hj
  rw [MS]
  exact Qn _ _ (Ax.1 hout _ (DG hjl))
 ·have hcl:cargs.length=args.length:=by rw [hargs.length,Gp]
  have hsz:(cargs.toArray++Array.replicate (fn.ntmps-cargs.toArray.size) undef).size=fn.ntmps:=by
   simp only [Array.size_append,List.size_toArray,Array.size_replicate]
   omega
  have hf0:Ca H φ (BK bs args) (IZ 0 (Bv (C6 bs) args)) (cargs.toArray++Array.replicate (fn.ntmps-cargs.toArray.size) undef):=by
   intro t
   rw [RW]
   split
   ·rename_i ht
    have ht2:t<(Bv (C6 bs) args).length:=by omega
    have h1:(Bv (C6 bs) args)[t]? = some (Bv (C6 bs) args)[t]:=by simp
    obtain ⟨v,hv,hvb⟩:=hargs.get t _ h1
    have e1:(Bv (C6 bs) args).getD (t-0) .undef=(Bv (C6 bs) args)[t]:=by simp [List.getD,ht2]
    have ht3:t<cargs.length:=(AT.1 hv).1
    have e2:(cargs.toArray++Array.replicate (fn.ntmps-cargs.toArray.size) undef).getD t undef=v:=by
     rw [Array.getD_eq_getD_getElem?,Array.getElem?_append_left (by simpa using ht3)]
     simp only [List.getElem?_toArray,hv,Option.getD_some]
    rw [e1,e2]
    exact VA.of_VB hvb
   ·trivial
  have fr0:Fr bs.length (BK bs args).length H φ w H φ (BK bs args) w:=by
   refine ⟨rfl,rfl,rfl,Nat.le_refl _,fun _ _ _=>rfl,fun _ _=>rfl,fun i bi hi _ b hb=>.inr ⟨i,(AT.1 hi).1,hb⟩,fun j hj=>?_,fun _ _ _=>rfl⟩
   have hv:bs[j]? = some bs[j]:=by simp
   unfold AL
   rw [E5,AZ (by rw [As]; exact hj),F6 bs _ j _ hv]
   generalize bs[j]=v
   cases v<;>rfl
  have fin:RU fn.ntmps (AW a) r ⟨IZ 0 (Bv (C6 bs) args),BK bs args⟩ { tmps:=cargs.toArray++Array.replicate (fn.ntmps-cargs.toArray.size) undef,defers:=[] } w H φ
    (fun act' w'=>act'.defers=[]/\∃ v,(results fn act'.tmps).run P w'=.ok v w'/\LZ H φ w args bs ((B6 a.outs r).drop a.res.length) ((B6 a.outs r).take a.res.length) v w'):=by
   intro s' act' w' H' φ' hk hst hf' hn' hd'
   refine ⟨hd',?_⟩
   unfold AW at hk
   cases h1:s'.result (List.range (CV a.params 0).length) a.res with
   | none=>rw [h1] at hk; cases hk
   | some y =>
    obtain ⟨rsv,t1,s1⟩:=y
    rw [h1] at hk
    simp only [Z] at hk
    cases h2:s1.shutBoxes t1 (CV a.params 0) with
    | none=>rw [h2] at hk; cases hk
    | some z =>
     obtain ⟨outs,t2,s2⟩:=z
     rw [h2] at hk
     simp only [Z] at hk
     obtain ⟨nf,v,hv,hend⟩:=Zu (P:=P) (args:=args) hst.sr hf' (hst.fr _ _ _ _ _ fr0) hst.le (fun j p hp=>by have:=CR a.params 0 j p hp; omega) hl.2 h1 h2 hress
     have henc:=Tx _ _ r hk nf
     have hrl:=T4 h1
     rw [henc,<- hrl,List.drop_left,List.take_left]
     exact ⟨v,hv,hend⟩
  have hwp:=Y6 (P:=P) (n:=fn.ntmps) (k:=k) hcal a.body c hcode (RT a.outs) (AW a) (AW a) (fun _ _=>none) r ⟨IZ 0 (Bv (C6 bs) args),BK bs args⟩
   { tmps:=cargs.toArray++Array.replicate (fn.ntmps-cargs.toArray.size) undef,defers:=[] } w H φ
   (bodyPost P fn fun out w'=>match out with
    | .returned v=>LZ H φ w args bs ((B6 a.outs r).drop a.res.length) ((B6 a.outs r).take a.res.length) v w'
    | _=>False) hs hf0 hsz hr fin fin (fun i s' act' w' H' φ' hk=>by cases hk)
  exact calls_of_wp hfn hc hwp
def CE (P:Program) (f:Nat) (a:CU):Bool:=(decide (f<B8)||decide (2*B8<=f))&&X6 P (f % B8) a
def X7 (P:Program) (NT:Nat->Option CU):Prop:=∀ f a,NT f=some a->CE P f a=true
theorem VO {NT:Nat->Option CU} {DL:Cz} (ht:X7 P NT) (hp:D8 P DL):∀ k,D8 P (PN NT DL k)
 | 0=>⟨fun f k t T _ h=>(by cases h),fun f args bs rs _ h=>by cases h⟩
 | k+1=>⟨fun f q t T hf h=>(by
  simp only [PN] at h
  split at h
  ·rename_i a ha
   have:=ht _ a ha
   simp only [CE,AD,Ez,decide_eq_true_eq] at this
   omega
  ·exact hp.1 f q t T hf h),fun f args bs rs hlt h=>by
  simp only [PN] at h
  split at h
  ·rename_i a ha
   split at h
   ·rename_i hl
    exact Y9 (VO ht hp k) (by have:=ht f a ha; simp only [CE,AD] at this; exact this.2) hl h
   ·cases h
  ·exact hp.2 f args bs rs hlt h⟩
end Go.Proofs.Ytffahmnodgnohaa.Core

namespace Go.Proofs.Ytffahmnodgnohaa.Core
open Go
def Kd.ok:(K:Kd)->K.T->Prop
 | .int k,n=>k.min<=n/\n<=k.max
 | .bool,_=>True
 | .str,s=>s.size<=maxLen
 | .slice e,xs=>xs.length<=maxLen/\∀ x∈xs,Kd.ok e x
 | .pair a b,x=>a.ok x.1/\b.ok x.2
 | .own _ _,_=>False
 | .ref _,_=>False
 | .fun _,_=>False
 | .clo _ _,_=>False
mutual
def N5 (P:Program):Nat->TypeId->Kd->Bool
 | 0,_,_=>false
 | D+1,t,K=>match P.underlying t with
  | some (.int k)=>(match K with | .int k'=>decide (k=k') | _=>false)
  | some .bool=>(match K with | .bool=>true | _=>false)
  | some .string=>(match K with | .str=>true | _=>false)
  | some (.slice te)=>(match K with | .slice e=>P.cellsOf te==e.sz&&N5 P D te e | _=>false)
  | some (.struct fs)=>P.cellsOf t==K.sz&&(match K with | .pair _ _=>true | _=>false)&&Le P D fs.toList 0 K
  | _=>false
def Le (P:Program):Nat->List Field->Nat->Kd->Bool
 | 0,_,_,_=>false
 | _+1,[],_,_=>false
 | D+1,[f],off,K=>f.offset==off&&P.cellsOf f.type==K.sz&&N5 P D f.type K
 | D+1,f::g::fs,off,K=>match K with
  | .pair a b=>f.offset==off&&P.cellsOf f.type==a.sz&&N5 P D f.type a&&Le P D (g::fs) (off+a.sz) b
  | _=>false
end
def Kv (w:World):HP:=fun b=>w.heap[b]?
theorem Su {w:World} {base:Nat} {a:Addr} {n:Nat} {cs:List Value} (h:w.cells? base a n=some cs):cs.length=n/\∀ i,i<n->w.cell? (a.add i)=cs[i]? := by
 unfold World.cells? at h
 split at h
 ·exact ⟨by simpa using mapM_some_length h,fun i hi=>mapM_some_get h i i (by simp [hi])⟩
 ·cases h
theorem T5 (a:Addr):a.add 0=a:=by unfold Addr.add; split<;>simp_all
theorem T6 {w:World} {a:Addr} {u:Value} (h:w.cell? a=some u):a=⟨a.block,a.off,none⟩/\∃ c el fz,w.heap[a.block]? = some (.cells c el fz)/\c[a.off]? = some u:=by
 obtain ⟨b,o,sp⟩:=a
 simp only [World.cell?] at h
 split at h
 ·rename_i c el fz hc
  cases sp with
  | some sp=>simp at h
  | none =>
   simp only [Option.isSome_none,Bool.false_eq_true,if_false] at h
   exact ⟨rfl,c,el,fz,hc,h⟩
 ·cases h
mutual
theorem SK {H:Type} {enc:TypeId×Value->H} {P:Program} {w:World} {base:Nat} {spare:Nat->Bool} {held:Bool}:∀ (D:Nat) (t:TypeId) (K:Kd) (fuel:Nat) (cs:List Value) (x:DataW H×List MemPlace),N5 P D t K=true ->
  DataW.trod enc P w base spare held fuel t cs=some x->∃ y:K.T,C4 (Kv w) K y cs/\Kd.ok K y
 | 0,t,K,fuel,cs,x,h,_=>by simp [N5] at h
 | D+1,t,K,fuel,cs,x,h,hd=>by
  unfold N5 at h
  split at h
  ·rename_i k hu
   cases K<;>first | cases h | skip
   simp only [decide_eq_true_eq] at h
   subst h
   obtain ⟨n,rfl,_,hw⟩:=DataW.trod_int hu hd
   simp only [Lit.wf,AD,decide_eq_true_eq] at hw
   exact ⟨n,rfl,hw⟩
  ·rename_i hu
   cases K<;>first | cases h | skip
   obtain ⟨b,rfl,_⟩:=DataW.trod_bool hu hd
   exact ⟨b,rfl,trivial⟩
  ·rename_i hu
   cases K<;>first | cases h | skip
   obtain ⟨s,rfl,_,hs⟩:=DataW.trod_string hu hd
   exact ⟨s,rfl,hs⟩
  ·rename_i te hu
   cases K<;>first | cases h | skip
   rename_i e
   simp only [AD,beq_iff_eq] at h
   rcases DataW.trod_slice hu hd with ⟨rfl,_⟩ | ⟨a,len,cap,elems,rest,n,_,rfl,_,_,hl,hm,hlen,hel,_⟩
   ·exact ⟨[],⟨_,rfl,F4⟩,by simp [Kd.ok]⟩
   ·have each:∀ i,i<len->∃ y:e.T,∃ cs',w.cells? base (a.add (i*e.sz)) e.sz=some cs'/\C4 (Kv w) e y cs'/\Kd.ok e y:=by
     intro i hi
     have h1:=hel i hi
     rw [h.1] at h1
     have h2:elems[i]? = some (elems[i]'(by omega)):=by simp
     rw [h2] at h1
     cases hq:w.cells? base (a.add (i*e.sz)) e.sz with
     | none=>rw [hq] at h1; cases h1
     | some cs' =>
      rw [hq] at h1
      simp only [Z] at h1
      obtain ⟨y,h3,h4⟩:=SK D te e n cs' _ h.2 h1
      exact ⟨y,cs',rfl,h3,h4⟩
    have all:∀ m,m<=len->∃ ys:List e.T,ys.length=m/\∀ i y,ys[i]? = some y->∃ cs',w.cells? base (a.add (i*e.sz)) e.sz=some cs'/\C4 (Kv w) e y cs'/\Kd.ok e y:=by
     intro m
     induction m with
     | zero=>intro _; exact ⟨[],rfl,fun i y h=>by simp at h⟩
     | succ m ih =>
      intro hm
      obtain ⟨ys,l,hy⟩:=ih (by omega)
      obtain ⟨y,cs',g1,g2,g3⟩:=each m (by omega)
      refine ⟨ys++[y],by simp [l],fun i z hz=>?_⟩
      rcases BI i ys.length with hi | hi
      ·rw [AZ hi] at hz
       exact hy i z hz
      ·rw [BG hi] at hz
       have hi0:i-ys.length=0:=by
        have:=(AT.1 hz).1
        simp at this
        omega
       rw [hi0] at hz
       simp at hz
       subst hz
       have:i=m:=by omega
       subst this
       exact ⟨cs',g1,g2,g3⟩
    obtain ⟨ys,l,hy⟩:=all len (Nat.le_refl _)
    have hok:ys.length<=maxLen/\∀ y∈ys,Kd.ok e y:=by
     refine ⟨by omega,fun y hm=>?_⟩
     obtain ⟨i,hi⟩:=List.mem_iff_getElem?.1 hm
     obtain ⟨_,_,_,g⟩:=hy i y hi
     exact g
    refine ⟨ys,⟨_,rfl,some a,cap,by rw [l],by omega,?_⟩,hok⟩
    cases hys:ys with
    | nil=>exact .inl rfl
    | cons y0 yr =>
     right
     have hsz:=Kd.sz_pos e
     obtain ⟨cs0,g1,g2,_⟩:=hy 0 y0 (by rw [hys]; rfl)
     obtain ⟨l0,c0⟩:=Su g1
     have hc0:=c0 0 hsz
     have hcs0:cs0[0]? = some (cs0[0]'(by omega)):=by simp
     rw [hcs0,Nat.zero_mul,T5,T5] at hc0
     obtain ⟨ea,c,el,fz,hb,_⟩:=T6 hc0
     have addadd:∀ x y:Nat,(a.add x).add y=⟨a.block,a.off+(x+y),none⟩:=by
      intro x y
      rw [ea,Addr.add_none,Addr.add_none,Nat.add_assoc]
     refine ⟨a.block,a.off,c,el,fz,by rw [<- ea],hb,fun j y hj=>?_⟩
     obtain ⟨cs',g3,g4,_⟩:=hy j y (by rw [hys]; exact hj)
     obtain ⟨l1,c1⟩:=Su g3
     refine ⟨cs',g4,l1,fun i u hu=>?_⟩
     have hi:i<e.sz:=by rw [<- l1]; exact (AT.1 hu).1
     have h3:=c1 i hi
     rw [hu,addadd] at h3
     obtain ⟨_,c2,el2,fz2,hb2,h4⟩:=T6 h3
     rw [hb] at hb2
     cases hb2
     rw [Nat.add_assoc]
     exact h4
  ·rename_i fs hu
   simp only [AD,beq_iff_eq] at h
   obtain ⟨⟨hc,_⟩,h⟩:=h
   obtain ⟨xs,n,_,_,hl,_,hf⟩:=DataW.trod_struct hu hd
   have:=RX (w:=w) (P:=P) D fs.toList 0 K n cs xs h (fun i f hi=>hf i f (by simpa using hi)) (by
    have:xs.length=fs.size:=by assumption
    simpa using this)
   obtain ⟨y,h1,h2⟩:=this
   refine ⟨y,?_,h2⟩
   rw [hc] at hl
   rw [List.drop_zero,List.take_of_length_le (by omega)] at h1
   exact h1
  ·cases h
theorem RX {H:Type} {enc:TypeId×Value->H} {P:Program} {w:World} {base:Nat} {spare:Nat->Bool} {held:Bool}:∀ (D:Nat) (fs:List Field) (off:Nat) (K:Kd) (fuel:Nat) (cs:List Value) (xs:List (DataW H×List MemPlace)),Le P D fs off K=true ->
  (∀ (i:Nat) (f:Field),fs[i]? = some f->DataW.trod enc P w base spare held fuel f.type ((cs.drop f.offset).take (P.cellsOf f.type))=xs[i]?)->xs.length=fs.length->∃ y:K.T,C4 (Kv w) K y ((cs.drop off).take K.sz)/\Kd.ok K y
 | 0,fs,off,K,fuel,cs,xs,h,_,_=>by simp [Le] at h
 | D+1,[],off,K,fuel,cs,xs,h,_,_=>by simp [Le] at h
 | D+1,[f],off,K,fuel,cs,xs,h,hf,hl=>by
  simp only [Le,AD,beq_iff_eq] at h
  obtain ⟨⟨rfl,hc⟩,ht⟩:=h
  have h1:=hf 0 f rfl
  rw [hc] at h1
  have h2:xs[0]? = some (xs[0]'(by simp at hl; omega)):=by simp
  rw [h2] at h1
  exact SK D f.type K fuel _ _ ht h1
 | D+1,f::g::fs,off,K,fuel,cs,xs,h,hf,hl=>by
  simp only [Le] at h
  cases K with
  | pair a b =>
   simp only [AD,beq_iff_eq] at h
   obtain ⟨⟨⟨rfl,hc⟩,ht⟩,hr⟩:=h
   have h1:=hf 0 f rfl
   rw [hc] at h1
   have h2:xs[0]? = some (xs[0]'(by simp at hl; omega)):=by simp
   rw [h2] at h1
   obtain ⟨y1,r1,o1⟩:=SK D f.type a fuel _ _ ht h1
   obtain ⟨y2,r2,o2⟩:=RX (w:=w) (P:=P) D (g::fs) (f.offset+a.sz) b fuel cs (xs.drop 1) hr (fun i q hi=>by
    have:=hf (i+1) q (by simpa using hi)
    rw [this,Ba,Nat.add_comm]) (by simp at hl ⊢; omega)
   refine ⟨(y1,y2),⟨_,_,?_,r1,r2⟩,o1,o2⟩
   apply List.ext_getElem?
   intro i
   have l1:=r1.length
   have l2:=r2.length
   simp only [Kd.sz]
   rcases BI i a.sz with hi | hi
   ·rw [AZ (by omega)]
    simp only [BB,Ba]
    rw [if_pos (by omega),if_pos hi]
   ·rw [BG (by omega),l1]
    simp only [BB,Ba]
    by_cases h3:i<a.sz+b.sz
    ·rw [if_pos h3,if_pos (by omega)]
     congr 1
     omega
    ·rw [if_neg h3,if_neg (by omega)]
  | _=>cases h
end
theorem X8 {H:Type} {enc:TypeId×Value->H} {P:Program} {w:World} {base:Nat} {spare:Nat->Bool} {held:Bool} {t:TypeId} {K:Kd} {v:Value} {d:DataW H} {p:List MemPlace} (h:N5 P 40 t K=true) (hf:G3 K v)
  (hd:DataW.Trod enc P w base spare held t v d p):∃ x:K.T,VE (Kv w) (K.av x) v/\Kd.ok K x:=by
 obtain ⟨fuel,hd⟩:=hd
 obtain ⟨x,h1,h2⟩:=SK 40 t K fuel _ _ h hd
 exact ⟨x,Xp h1 hf,h2⟩
theorem Y_ {P:Program} {W:World} {r:Reach} {base:Nat} {t:TypeId} {K:Kd} {v:Value} (h:N5 P 40 t K=true) (hv:Value.okWide P W r base t v):G3 K v:=by
 unfold N5 at h
 split at h
 ·rename_i k hu
  obtain ⟨n,rfl⟩:=WideShapes.okWide_int hu hv
  cases K<;>first | cases h | rfl
 ·rename_i hu
  obtain ⟨n,rfl⟩:=WideShapes.okWide_bool hu hv
  cases K<;>first | rfl | cases h
 ·rename_i hu
  obtain ⟨n,rfl⟩:=WideShapes.okWide_string hu hv
  cases K<;>first | rfl | cases h
 ·rename_i te hu
  obtain ⟨a,l,c,rfl⟩:=WideShapes.okWide_slice hu hv
  cases K<;>first | cases h | rfl
 ·rename_i fs hu
  obtain ⟨cs,rfl,_⟩:=WideShapes.okWide_struct hu hv
  simp only [AD] at h
  cases K<;>first | exact ⟨_,rfl⟩ | cases h.1.2
 ·cases h
theorem X9 (w:World) (φ:BF) (ht:Uu (Kv w)):SR (Kv w) φ [] w:=by
 refine ⟨fun b o h=>h,fun id bx h=>by simp at h,fun i j bi bj h=>by simp at h,fun i bi h=>by simp at h,fun id cs h=>by simp at h,ht⟩
theorem XH {P:Program} {NT:Nat->Option CU} {DL:Cz} (ht:X7 P NT) (hp:D8 P DL) {k f:Nat} {args:List AV} (h:PN NT DL k f args []=some [.bool true]) {W:World} {cargs:List Value}
  (ha:AX (VE (Kv W)) args cargs) (hlt:f<B8:=by decide) (htab:Uu (Kv W):=by exact fun p h=>by cases h):Calls P f cargs.toArray W fun e W'=>e=.returned (.bool true)/\RowKit.Below W.heap.size W W':=by
 obtain ⟨_,_,n,hn,hc⟩:=(VO ht hp k).2 f args [] _ (.inl hlt) h
 rw [Nat.mod_eq_of_lt hlt] at hc
 have hn:n=1:=by simpa using hn
 subst hn
 have opens:∀ {aw:List AV} {vs:List Value} (k:Nat),AX (VE (Kv W)) aw vs->Bv k aw=aw/\Ae (cellsOf aw)=[]:=by
  intro aw
  induction aw with
  | nil=>intro vs k _; exact ⟨rfl,rfl⟩
  | cons a aw ih =>
   intro vs k h
   obtain ⟨v,r,rfl,h1,h2⟩:=h
   obtain ⟨o1,o2,o3⟩:=h1.opens k
   obtain ⟨i1,i2⟩:=ih (k+AG a.cells) h2
   refine ⟨by simp only [Bv,o1,i1],?_⟩
   simp only [cellsOf,List.flatMap_cons] at i2 ⊢
   rw [BD,o3,i2]
   rfl
 have hst:BK [] args=[]:=by
  rw [E5,BD,(opens 0 ha).2]
  rfl
 have:=hc (Kv W) (fun _=>.nilIface) W cargs (by rw [hst]; exact X9 W _ htab) (by rw [(opens _ ha).1,hst]; exact ha.imp fun _ _ h=>VB.of_VE h)
 refine this.mono fun e W' he=>?_
 cases e with
 | returned v =>
  obtain ⟨H',φ',_,_,f,hr⟩:=he
  have hv:v=.bool true:=hr
  subst hv
  rw [hst] at f
  exact ⟨rfl,f.os,f.tape,f.output,f.size,fun k hk=>f.old k hk fun j hj=>by simp at hj⟩
 | panicked c=>exact he.elim
 | outgrown=>exact he.elim

def Ev (p:Nat->Prop):Prop:=∃ m,∀ k,m<=k->p k
theorem Ev.mono {p q:Nat->Prop} (h:Ev p) (f:∀ k,p k->q k):Ev q:=h.elim fun m hm=>⟨m,fun k hk=>f k (hm k hk)⟩
theorem Ev.const {p:Prop} (h:p):Ev fun _=>p:=⟨0,fun _ _=>h⟩
theorem Ev.all {p:Nat->Prop} (h:∀ k,p k):Ev p:=⟨0,fun k _=>h k⟩
theorem Ev.and {p q:Nat->Prop} (h:Ev p) (g:Ev q):Ev fun k=>p k/\q k:=by
 obtain ⟨m,hm⟩:=h
 obtain ⟨n,hn⟩:=g
 exact ⟨max m n,fun k hk=>⟨hm k (by omega),hn k (by omega)⟩⟩
noncomputable def Lm {ρ:Type} (u:Nat->Option ρ):Option ρ :=
 @dite _ (∃ r,Ev fun k=>u k=some r) (Classical.propDecidable _) (fun h=>some (Classical.choose h)) (fun _=>none)
theorem VP {ρ:Type} {u:Nat->Option ρ} {r:ρ} (h:Lm u=some r):Ev fun k=>u k=some r:=by
 unfold Lm at h
 split at h
 ·rename_i hx
  cases h
  exact Classical.choose_spec hx
 ·cases h
theorem X_ {ρ:Type} {u:Nat->Option ρ} {r:ρ} (h:Ev fun k=>u k=some r):Lm u=some r:=by
 have hx:∃ r,Ev fun k=>u k=some r:=⟨r,h⟩
 unfold Lm
 rw [dif_pos hx]
 obtain ⟨m,hm⟩:=(Classical.choose_spec hx).and h
 obtain ⟨a,b⟩:=hm m (Nat.le_refl _)
 rw [<- b,a]
def Conv {ρ:Type} (kn:Nat->St->Option ρ) (kl:St->Option ρ):Prop:=∀ s r,kl s=some r->Ev fun j=>kn j s=some r
theorem Conv.refl {ρ:Type} (kl:St->Option ρ):Conv (fun _=>kl) kl:=fun _ _ h=>.const h
def Ka (cal:Nat->Cz) (c:Cz):Prop:=∀ f a b r,c f a b=some r->Ev fun j=>cal j f a b=some r
theorem Ka.refl (c:Cz):Ka (fun _=>c) c:=fun _ _ _ _ h=>.const h
abbrev Lp (ρ:Type):Type:=((St->Option ρ)->St->Option ρ)->St->Option ρ
def YA {ρ:Type} (F:Nat->(St->Option ρ)->St->Option ρ) (FL:(St->Option ρ)->St->Option ρ):Prop :=
 ∀ (go:Nat->St->Option ρ) (gl:St->Option ρ),Conv go gl->Conv (fun j=>F j (go j)) (FL gl)
def YB {ρ:Type} (lp:Nat->Lp ρ) (ll:Lp ρ):Prop:=∀ (F:Nat->(St->Option ρ)->St->Option ρ) (FL:(St->Option ρ)->St->Option ρ),YA F FL->(∀ j,YA (fun _=>F j) (F j))->Conv (fun j=>lp j (F j)) (ll FL)
noncomputable def Fu {ρ:Type}:Lp ρ:=fun F s=>Lm fun n=>G1 n F s
theorem YC {ρ:Type}:YB (ρ:=ρ) G1 Fu:=by
 intro F FL hF _ s r h
 have h:=VP h
 obtain ⟨m,hm⟩:=h
 have key:∀ n,∀ g:Nat->Nat,(∀ j,n<=g j)->Conv (fun j=>G1 (g j) (F j)) (G1 n FL):=by
  intro n
  induction n with
  | zero=>intro g _ s r h; cases h
  | succ n ih =>
   intro g hg s r h
   refine (hF (fun j=>G1 (g j-1) (F j)) (G1 n FL) (ih (fun j=>g j-1) fun j=>by have:=hg j; omega) s r h).mono fun j hj=>?_
   have e:g j=(g j-1)+1:=by have:=hg j; omega
   show G1 (g j) (F j) s=some r
   rw [e]
   exact hj
 obtain ⟨k,hk⟩:=key m (fun j=>max j m) (fun j=>by omega) s r (hm m (Nat.le_refl _))
 refine ⟨max k m,fun j hj=>?_⟩
 have:=hk j (by omega)
 simp only [show max j m=j by omega] at this
 exact this
theorem VQ {ρ:Type} (k:Nat):YB (ρ:=ρ) (fun _=>G1 k) (G1 k):=by
 intro F FL hF _
 induction k with
 | zero=>intro s r h; cases h
 | succ k ih=>exact hF _ _ ih
theorem Sv {ρ:Type} {F:(St->Option ρ)->St->Option ρ} (hF:YA (fun _=>F) F) {s:St} {r:ρ} (h:F (Fu F) s=some r):Fu F s=some r:=by
 obtain ⟨m,hm⟩:=hF (fun j=>G1 j F) (Fu F) (fun s r h=>VP h) s r h
 exact X_ ⟨m+1,fun k hk=>by
  cases k with
  | zero=>omega
  | succ k=>exact hm k (by omega)⟩
theorem VR {ρ:Type}:YB (ρ:=ρ) (fun _=>Fu) Fu:=by
 intro F FL hF hs s r h
 obtain ⟨m,hm⟩:=VP h
 have key:∀ n,Conv (fun j=>Fu (F j)) (G1 n FL):=by
  intro n
  induction n with
  | zero=>intro s r h; cases h
  | succ n ih=>intro s r h; exact (hF _ _ ih s r h).mono fun j hj=>Sv (hs j) hj
 exact key m s r (hm m (Nat.le_refl _))
theorem BL {α β:Type} {x:Option α} {f:Nat->α->Option β} {g:α->Option β} (h:∀ a r,g a=some r->Ev fun j=>f j a=some r) (r:β) (hx:x.bind g=some r):Ev fun j=>x.bind (f j)=some r:=by
 cases x with
 | none=>cases hx
 | some a=>exact h a r hx
theorem Sw {ρ:Type} {s:St} {v:AV} {K:Kd} {kn:Nat->List K.T->Option ρ} {kl:List K.T->Option ρ} (hk:∀ a r,kl a=some r->Ev fun j=>kn j a=some r) (r:ρ) (h:s.list v K kl=some r):Ev fun j=>s.list v K (kn j)=some r:=by
 unfold St.list at h ⊢
 split at h
 ·exact hk _ _ h
 ·split at h
  ·rename_i e
   simp only [dif_pos e]
   exact hk _ _ h
  ·cases h
 ·split at h
  ·rename_i e0
   split at h
   ·rename_i e
    split at h
    ·rename_i ep
     simp only [e0,dif_pos e,if_pos ep]
     exact hk _ _ h
    ·cases h
   ·cases h
  ·rename_i e0
   split at h
   ·rename_i e
    simp only [e0,dif_pos e]
    exact hk _ _ h
   ·cases h
  ·rename_i e0
   split at h
   ·rename_i e
    split at h
    ·rename_i ep
     simp only [e0,dif_pos e,if_pos ep]
     exact hk _ _ h
    ·cases h
   ·cases h
  ·rename_i e0
   split at h
   ·rename_i e
    simp only [e0,dif_pos e]
    exact hk _ _ h
   ·cases h
  ·cases h
 ·cases h
theorem VS {ρ:Type} {s:St} {d id:Nat} {e:TypeId} {K:Kd} {b:AV} {kn:Nat->St->Option ρ} {kl:St->Option ρ} (hk:Conv kn kl) (r:ρ) (h:s.appR d e K id b kl=some r):Ev fun j=>s.appR d e K id b (kn j)=some r:=by
 unfold St.appR at h ⊢
 split at h
 ·rename_i e1
  split at h
  ·rename_i e2
   split at h
   ·rename_i e3
    split at h
    ·rename_i e4
     simp only [e1,dif_pos e2,if_pos e3,if_pos e4]
     refine Sw (fun a r h=>?_) r h
     split at h
     ·rename_i e5
      simp only [if_pos e5]
      exact hk _ _ h
     ·cases h
    ·rename_i e4
     split at h
     ·rename_i j
      split at h
      ·cases h
      ·rename_i e5
       split at h
       ·rename_i e6
        split at h
        ·rename_i e7
         split at h
         ·rename_i e8
          simp only [e1,dif_pos e2,if_pos e3,if_neg e4,if_neg e5,e6,dif_pos e7,if_pos e8]
          exact hk _ _ h
         ·cases h
        ·cases h
       ·cases h
     ·cases h
   ·cases h
  ·cases h
 ·cases h
theorem XI {ρ:Type} {op:BinOp} {x y:AV} {kn:Nat->AV->Option ρ} {kl:AV->Option ρ} (hk:∀ a r,kl a=some r->Ev fun j=>kn j a=some r) (r:ρ) (h:RG op x y kl=some r):Ev fun j=>RG op x y (kn j)=some r:=by
 have e:∀ k:AV->Option ρ,RG op x y k=(RG op x y some).bind k:=by
  intro k
  unfold RG
  repeat' split
  all_goals rfl
 rw [e] at h
 simp only [e (kn _)]
 exact BL hk r h
theorem YD {ρ:Type} {op:UnOp} {x:AV} {kn:Nat->AV->Option ρ} {kl:AV->Option ρ} (hk:∀ a r,kl a=some r->Ev fun j=>kn j a=some r) (r:ρ) (h:Wm op x kl=some r):Ev fun j=>Wm op x (kn j)=some r:=by
 unfold Wm at h ⊢
 split at h<;>first | exact hk _ _ h | cases h
theorem VT {α β:Type} {x:Nat->Option α} {xl:Option α} {f:Nat->α->Option β} {g:α->Option β} (hx:∀ a,xl=some a->Ev fun j=>x j=some a) (h:∀ a r,g a=some r->Ev fun j=>f j a=some r) (r:β) (hr:xl.bind g=some r):Ev fun j=>(x j).bind (f j)=some r:=by
 cases xl with
 | none=>cases hr
 | some a=>exact ((hx a rfl).and (h a r hr)).mono fun j hj=>by rw [hj.1]; exact hj.2
theorem Zv {ρ:Type} {cal:Nat->Cz} {c:Cz} {d z:Nat} {x:BS} {lo hi:Option BS} {kn:Nat->St->Option ρ} {kl:St->Option ρ} (hk:Conv kn kl) (s:St) (r:ρ) (h:CN c kl s (.sl d z x lo hi)=some r):Ev fun j=>CN (cal j) (kn j) s (.sl d z x lo hi)=some r:=by
 simp only [CN] at h ⊢
 split at h
 ·split at h
  ·rename_i ez
   split at h
   ·split at h
    ·rename_i g1
     split at h
     ·rename_i g2
      split at h
      ·rename_i g3
       simp only [if_pos ez,if_pos g1,if_pos g2,if_pos g3]
       exact hk _ _ h
      ·cases h
     ·cases h
    ·cases h
   ·cases h
  ·cases h
 ·split at h
  ·rename_i ez
   split at h
   ·split at h
    ·rename_i g1
     split at h
     ·rename_i g2
      split at h
      ·rename_i g3
       simp only [if_pos ez,if_pos g1,if_pos g2,if_pos g3]
       exact hk _ _ h
      ·cases h
     ·cases h
    ·cases h
   ·cases h
  ·cases h
 ·cases h
theorem T7 {ρ:Type} {cal:Nat->Cz} {c:Cz} (hc:Ka cal c) {d:Option Nat} {f:Nat} {args:List (BS×PK)} {res:List Kd} {kn:Nat->St->Option ρ} {kl:St->Option ρ} (hk:Conv kn kl) (s:St) (r:ρ) (h:SP c kl s d f args res=some r):Ev fun j=>SP (cal j) (kn j) s d f args res=some r:=by
 simp only [SP] at h ⊢
 refine BL (fun q r h=>BL (fun bx r h=>?_) r h) r h
 split at h
 ·rename_i e
  simp only [if_pos e]
  refine VT (fun a ha=>?_) (fun y r h=>?_) r h
  ·exact VT (f:=fun _=>Cp _) (g:=Cp _) (fun a ha=>hc _ _ _ _ ha) (fun y r h=>.const h) a ha
  ·split at h
   ·rename_i e
    simp only [if_pos e]
    exact hk _ _ h
   ·cases h
 ·cases h
mutual
theorem Sx {ρ:Type} {cal:Nat->Cz} {c:Cz} (hc:Ka cal c):∀ (ao:Cj) {kn:Nat->St->Option ρ} {kl:St->Option ρ},Conv kn kl->∀ s r,CN c kl s ao=some r->Ev fun j=>CN (cal j) (kn j) s ao=some r
 | .mv d x,kn,kl,hk,s,r,h=>hk _ _ h
 | .nilrow d t K,kn,kl,hk,s,r,h=>hk _ _ h
 | .pick d c a b,kn,kl,hk,s,r,h=>by
  simp only [CN] at h ⊢
  split at h
  ·split at h<;>rename_i e<;>simp only [e,if_true,if_false,Bool.false_eq_true]<;>exact hk _ _ h
  ·cases h
 | .sc c want ops d a b,kn,kl,hk,s,r,h=>by
  simp only [CN] at h ⊢
  split at h
  ·split at h
   ·rename_i e
    simp only [e,if_true]
    exact Ua hc ops (kn:=fun j s'=>kn j (s'.put d (if want then s'.opd a else s'.opd b))) (kl:=fun s'=>kl (s'.put d (if want then s'.opd a else s'.opd b))) (fun s r h=>hk _ _ h) s r h
   ·rename_i e
    simp only [if_neg e]
    exact hk _ _ h
  ·cases h
 | .alloc d cs,kn,kl,hk,s,r,h=>hk _ _ h
 | .box d x own,kn,kl,hk,s,r,h=>by
  simp only [CN] at h ⊢
  exact BL (fun a r h=>hk _ _ h) r h
 | .build d zero parts,kn,kl,hk,s,r,h=>by
  simp only [CN] at h ⊢
  exact BL (fun a r h=>hk _ _ h) r h
 | .bnew d zero parts,kn,kl,hk,s,r,h=>by
  simp only [CN] at h ⊢
  exact BL (fun a r h=>hk _ _ h) r h
 | .brow d t K parts,kn,kl,hk,s,r,h=>by
  simp only [CN] at h ⊢
  split at h
  ·rename_i ep
   simp only [if_pos ep]
   exact BL (fun a r h=>BL (fun a r h=>hk _ _ h) r h) r h
  ·rename_i ep
   simp only [if_neg ep]
   refine BL (fun a r h=>?_) r h
   split at h
   ·rename_i e2
    simp only [if_pos e2]
    exact BL (fun a r h=>hk _ _ h) r h
   ·cases h
 | .blst d K parts,kn,kl,hk,s,r,h=>by
  simp only [CN] at h ⊢
  exact BL (fun a r h=>BL (fun a r h=>hk _ _ h) r h) r h
 | .load d x n,kn,kl,hk,s,r,h=>by
  simp only [CN] at h ⊢
  refine BL (fun a r h=>?_) r h
  split at h
  ·rename_i e
   simp only [if_pos e]
   exact hk _ _ h
  ·cases h
 | .store x y m own,kn,kl,hk,s,r,h=>by
  simp only [CN] at h ⊢
  split at h
  ·rename_i e
   simp only [if_pos e]
   cases e1:s.holeI (s.opd x) with
   | some p =>
    simp only [e1] at h ⊢
    split at h
    ·rename_i e2
     simp only [if_pos e2]
     exact BL (fun a r h=>hk _ _ h) r h
    ·cases h
   | none =>
    simp only [e1] at h ⊢
    exact BL (fun a r h=>hk _ _ h) r h
  ·cases h
 | .nilc d x,kn,kl,hk,s,r,h=>by
  simp only [CN] at h ⊢
  split at h<;>first | exact hk _ _ h | cases h
 | .bin d op x y,kn,kl,hk,s,r,h=>by
  simp only [CN] at h ⊢
  exact XI (fun a r h=>hk _ _ h) r h
 | .eqs d neg K x y,kn,kl,hk,s,r,h=>by
  simp only [CN] at h ⊢
  exact BL (fun a r h=>BL (fun a r h=>hk _ _ h) r h) r h
 | .un d op x,kn,kl,hk,s,r,h=>by
  simp only [CN] at h ⊢
  exact YD (fun a r h=>hk _ _ h) r h
 | .cvi d k x,kn,kl,hk,s,r,h=>by
  simp only [CN] at h ⊢
  split at h<;>first | exact hk _ _ h | cases h
 | .bts d x,kn,kl,hk,s,r,h=>by
  simp only [CN] at h ⊢
  exact Sw (fun a r h=>hk _ _ h) r h
 | .fld d x off,kn,kl,hk,s,r,h=>by
  simp only [CN] at h ⊢
  split at h<;>first | exact hk _ _ h | cases h
 | .field d x off n,kn,kl,hk,s,r,h=>by
  simp only [CN] at h ⊢
  split at h
  ·split at h
   ·rename_i e
    simp only [if_pos e]
    exact hk _ _ h
   ·cases h
  ·cases h
 | .idx d z x i,kn,kl,hk,s,r,h=>by
  have e:∀ k:St->Option ρ,CN (cal 0) k s (.idx d z x i)=(CN (cal 0) some s (.idx d z x i)).bind k:=by
   intro k
   simp only [CN]
   repeat' split
   all_goals rfl
  have e2:∀ k:St->Option ρ,∀ c:Cz,CN c k s (.idx d z x i)=CN (cal 0) k s (.idx d z x i):=fun k c=>by simp only [CN]
  rw [e2,e] at h
  simp only [e2 (kn _),e (kn _)]
  exact BL (fun a r h=>hk _ _ h) r h
 | .aidx d n x i,kn,kl,hk,s,r,h=>by
  simp only [CN] at h ⊢
  split at h
  ·refine BL (fun xs r h=>?_) r h
   split at h
   ·rename_i e1
    split at h
    ·rename_i e2
     split at h
     ·rename_i e3
      simp only [if_pos e1,if_pos e2,if_pos e3]
      exact hk _ _ h
     ·cases h
    ·cases h
   ·cases h
  ·cases h
 | .sidx d x i,kn,kl,hk,s,r,h=>by
  have e:∀ k:St->Option ρ,CN (cal 0) k s (.sidx d x i)=(CN (cal 0) some s (.sidx d x i)).bind k:=by
   intro k
   simp only [CN]
   repeat' split
   all_goals rfl
  have e2:∀ k:St->Option ρ,∀ c:Cz,CN c k s (.sidx d x i)=CN (cal 0) k s (.sidx d x i):=fun k c=>by simp only [CN]
  rw [e2,e] at h
  simp only [e2 (kn _),e (kn _)]
  exact BL (fun a r h=>hk _ _ h) r h
 | .sl d z x lo hi,kn,kl,hk,s,r,h=>Zv hk s r h
 | .mk d t K n,kn,kl,hk,s,r,h=>by
  have e:∀ k:St->Option ρ,CN (cal 0) k s (.mk d t K n)=(CN (cal 0) some s (.mk d t K n)).bind k:=by
   intro k
   simp only [CN]
   repeat' split
   all_goals rfl
  have e2:∀ k:St->Option ρ,∀ c:Cz,CN c k s (.mk d t K n)=CN (cal 0) k s (.mk d t K n):=fun k c=>by simp only [CN]
  rw [e2,e] at h
  simp only [e2 (kn _),e (kn _)]
  exact BL (fun a r h=>hk _ _ h) r h
 | .fn d f caps,kn,kl,hk,s,r,h=>hk _ _ h
 | .clo d f K x,kn,kl,hk,s,r,h=>by
  simp only [CN] at h ⊢
  split at h
  ·exact BL (fun a r h=>hk _ _ h) r h
  ·cases h
 | .fbox d x,kn,kl,hk,s,r,h=>by
  simp only [CN] at h ⊢
  exact BL (fun a r h=>hk _ _ h) r h
 | .min d x y,kn,kl,hk,s,r,h=>by
  simp only [CN] at h ⊢
  split at h
  ·split at h
   ·rename_i e
    simp only [if_pos e]
    exact hk _ _ h
   ·cases h
  ·cases h
 | .app d e K a b,kn,kl,hk,s,r,h=>by
  simp only [CN] at h ⊢
  split at h
  ·exact VS hk r h
  ·split at h
   ·exact BL (fun y r h=>VS hk r h) r h
   ·cases h
  ·cases h
 | .apz d e K a b,kn,kl,hk,s,r,h=>by
  simp only [CN] at h ⊢
  split at h
  ·split at h
   ·rename_i e1
    split at h
    ·rename_i e2
     split at h
     ·rename_i e3
      simp only [e1,dif_pos e2,if_pos e3]
      refine Sw (fun a r h=>?_) r h
      split at h
      ·rename_i e4
       simp only [if_pos e4]
       exact hk _ _ h
      ·cases h
     ·cases h
    ·cases h
   ·cases h
  ·cases h
 | .len d t x,kn,kl,hk,s,r,h=>by
  have e:∀ k:St->Option ρ,CN (cal 0) k s (.len d t x)=(CN (cal 0) some s (.len d t x)).bind k:=by
   intro k
   simp only [CN]
   repeat' split
   all_goals first | rfl | (rw [Option.bind_assoc]; rfl)
  have e2:∀ k:St->Option ρ,∀ c:Cz,CN c k s (.len d t x)=CN (cal 0) k s (.len d t x):=fun k c=>by simp only [CN]
  rw [e2,e] at h
  simp only [e2 (kn _),e (kn _)]
  exact BL (fun a r h=>hk _ _ h) r h
 | .call d f args res,kn,kl,hk,s,r,h=>by
  simp only [CN] at h ⊢
  exact T7 hc hk s r h
 | .icall n rd d f args res,kn,kl,hk,s,r,h=>by
  simp only [CN] at h ⊢
  refine BL (fun y r h=>?_) r h
  split at h
  ·cases h
  ·rename_i e1
   simp only [if_neg e1]
   by_cases e2:(if rd=true then !Az (KV y.2 args) s.st.length else Az (Us y.2 args) s.st.length)=true
   ·rw [if_pos e2] at h
    simp only [if_pos e2]
    exact T7 hc (kn:=fun j s2=>(s2.closeAt y.1 s.st.length rd).bind (kn j)) (kl:=fun s2=>(s2.closeAt y.1 s.st.length rd).bind kl) (fun s r h=>BL (fun a r h=>hk _ _ h) r h) y.2 r h
   ·rw [if_neg e2] at h; cases h
 | .bld d k f t x y,kn,kl,hk,s,r,h=>by
  simp only [CN] at h ⊢
  split at h
  ·rename_i id e1
   split at h
   ·rename_i T j e2
    split at h
    ·rename_i t' xs e3
     split at h
     ·rename_i e4
      cases e5:c (B8+f) [.int .i64 k,.int .i64 t,.int .i64 T] [] with
      | none=>rw [e5] at h; cases h
      | some q =>
       have hq:=hc _ _ _ _ e5
       rw [e5,Z] at h
       cases e8:Cp [] q with
       | none=>rw [e8] at h; cases h
       | some u =>
        rw [e8,Z] at h
        split at h
        ·rename_i e6
         split at h
         ·rename_i e7
          refine (hq.and (hk _ _ h)).mono fun j hj=>?_
          simp only [e2,e3,if_pos e4,hj.1,Z,e8,if_pos e6,if_pos e7]
          exact hj.2
         ·cases h
        ·rename_i e6
         cases ha:YT k (s.opd y) with
         | none=>rw [ha] at h; cases h
         | some ys =>
          rw [ha,Z] at h
          split at h
          ·rename_i e7
           refine (hq.and (hk _ _ h)).mono fun j hj=>?_
           simp only [e2,e3,if_pos e4,hj.1,Z,e8,if_neg e6,ha,if_pos e7]
           exact hj.2
          ·cases h
     ·cases h
    ·cases h
   ·cases h
  ·cases h
 | .stb d t x,kn,kl,hk,s,r,h=>by
  simp only [CN] at h ⊢
  split at h
  ·exact hk _ _ h
  ·cases h
 | .ext d x i,kn,kl,hk,s,r,h=>by
  simp only [CN] at h ⊢
  split at h
  ·split at h
   ·rename_i e
    simp only [if_pos e]
    exact hk _ _ h
   ·cases h
  ·cases h
theorem Ua {ρ:Type} {cal:Nat->Cz} {c:Cz} (hc:Ka cal c):∀ (aos:List Cj) {kn:Nat->St->Option ρ} {kl:St->Option ρ},Conv kn kl->∀ s r,QR c kl s aos=some r->Ev fun j=>QR (cal j) (kn j) s aos=some r
 | [],kn,kl,hk,s,r,h=>by simp only [QR] at h ⊢; exact hk _ _ h
 | o::os,kn,kl,hk,s,r,h=>by
  simp only [QR] at h ⊢
  exact Sx hc o (fun s r h=>Ua hc os hk s r h) s r h
end
theorem MW {ρ:Type} {cal:Nat->Cz} {c:Cz} (hc:Ka cal c) (anc:List (List Nat)) {kn:Nat->St->Option ρ} {kl:St->Option ρ} (hk:Conv kn kl):∀ (t:DT) (T:List (Nat×Nat)) s r,dK c anc kl t T s=some r->Ev fun j=>dK (cal j) anc (kn j) t T s=some r
 | .done,T,s,r,h=>hk _ _ h
 | .take i g ao d,T,s,r,h=>by
  simp only [dK] at h ⊢
  split at h
  ·rename_i e
   simp only [if_pos e]
   exact Sx hc ao (fun s r h=>MW hc anc hk d _ s r h) s r h
  ·cases h
 | .skip i g d t,T,s,r,h=>by
  simp only [dK] at h ⊢
  split at h
  ·rename_i e
   simp only [if_pos e]
   exact MW hc anc hk t _ _ r h
  ·cases h
 | .only i g ao e fl d,T,s,r,h=>by
  simp only [dK] at h ⊢
  split at h
  ·rename_i e
   simp only [if_pos e]
   exact Sx hc ao (fun s r h=>MW hc anc hk d _ s r h) s r h
  ·cases h
 | .test c a b,T,s,r,h=>by
  simp only [dK] at h ⊢
  split at h
  ·split at h
   ·rename_i e
    simp only [if_pos e]
    exact MW hc anc hk a _ _ r h
   ·rename_i e
    simp only [if_neg e]
    exact MW hc anc hk b _ _ r h
  ·cases h
 | .fork i ai ri j aj rj,T,s,r,h=>by
  simp only [dK] at h ⊢
  obtain ⟨ha,hb⟩:=QS.1 h
  have ea:Ev fun n=>(if (ES ai.dsts T&&LR (anc.getD i []) (ai.touch s) s T)=true then CN (cal n) (fun s'=>dK (cal n) anc (kn n) ri (D4 (anc.getD i []) T) s') s ai else none)=some r:=by
   split at ha
   ·rename_i e
    simp only [if_pos e]
    exact Sx hc ai (fun s r h=>MW hc anc hk ri _ s r h) s r ha
   ·cases ha
  have eb:Ev fun n=>(if (ES aj.dsts T&&LR (anc.getD j []) (aj.touch s) s T)=true then CN (cal n) (fun s'=>dK (cal n) anc (kn n) rj (D4 (anc.getD j []) T) s') s aj else none)=some r:=by
   split at hb
   ·rename_i e
    simp only [if_pos e]
    exact Sx hc aj (fun s r h=>MW hc anc hk rj _ s r h) s r hb
   ·cases hb
  exact (ea.and eb).mono fun n h=>QS.2 h
noncomputable def Dv {ρ:Type} (cal:Cz) (lp:Lp ρ):AO->(kn kr:St->Option ρ)->(ke:Nat->St->Option ρ)->St->Option ρ
 | .skip,kn,_,_,s=>kn s
 | .region ops live,kn,_,_,s=>QR cal (fun s'=>kn ⟨live.map fun t=>(t,Cd s'.fr t),s'.st⟩) s ops
 | .draw anc t live,kn,_,_,s=>dK cal anc (fun s'=>kn ⟨live.map fun t=>(t,Cd s'.fr t),s'.st⟩) t [] s
 | .seqc live a b,kn,kr,ke,s=>Dv cal lp a (fun s'=>Dv cal lp b kn kr ke (s'.cutH (B9 s live) live s.st.length)) kr ke s
 | .seq a b,kn,kr,ke,s=>Dv cal lp a (fun s'=>Dv cal lp b kn kr ke s') kr ke s
 | .cond c a b,kn,kr,ke,s=>match s.opd c with
  | .bool t=>if t=true then Dv cal lp a kn kr ke s else Dv cal lp b kn kr ke s
  | _=>none
 | .block id live body,kn,kr,ke,s=>Dv cal lp body (fun s'=>kn (s'.cutH (B9 s live) live s.st.length)) kr (fun i s'=>if i=id then kn (s'.cutH (B9 s live) live s.st.length) else ke i s') s
 | .loop live body,_,kr,ke,s=>lp (fun go s'=>Dv cal lp body (fun s''=>go (s''.cutH (B9 s live) live s.st.length)) kr ke s') (s.cut live s.st.length)
 | .exit id,_,_,ke,s=>ke id s
 | .ret,_,kr,_,s=>kr s
theorem Id {ρ:Type} (cal:Cz) (k:Nat):∀ (a:AO) (kn kr:St->Option ρ) (ke:Nat->St->Option ρ) (s:St),D1 cal k a kn kr ke s=Dv cal (G1 k) a kn kr ke s
 | .skip,_,_,_,_=>rfl
 | .region ..,_,_,_,_=>rfl
 | .draw ..,_,_,_,_=>rfl
 | .seqc live a b,kn,kr,ke,s=>by simp only [D1,Dv,Id cal k a,Id cal k b]
 | .seq a b,kn,kr,ke,s=>by simp only [D1,Dv,Id cal k a,Id cal k b]
 | .cond c a b,kn,kr,ke,s=>by
  simp only [D1,Dv,Id cal k a,Id cal k b]
  cases s.opd c<;>rfl
 | .block id live a,kn,kr,ke,s=>by simp only [D1,Dv,Id cal k a]
 | .loop live a,kn,kr,ke,s=>by simp only [D1,Dv,Id cal k a]
 | .exit _,_,_,_,_=>rfl
 | .ret,_,_,_,_=>rfl
theorem Eg {ρ:Type}:∀ (a:AO) {cal:Nat->Cz} {c:Cz} {lp:Nat->Lp ρ} {ll:Lp ρ} {kn kr:Nat->St->Option ρ} {kl krl:St->Option ρ} {ke:Nat->Nat->St->Option ρ} {kel:Nat->St->Option ρ},Ka cal c->YB lp ll->(∀ j,YB (fun _=>lp j) (lp j)) ->
  Conv kn kl->Conv kr krl->(∀ i,Conv (fun j=>ke j i) (kel i))->Conv (fun j=>Dv (cal j) (lp j) a (kn j) (kr j) (ke j)) (Dv c ll a kl krl kel)
 | .skip,_,_,_,_,_,_,_,_,_,_,hc,hl,hl',hk,hr,he=>hk
 | .region ops live,_,_,_,_,_,_,_,_,_,_,hc,hl,hl',hk,hr,he=>fun s r h=>Ua hc ops (fun s r h=>hk _ r h) s r h
 | .draw anc t live,_,_,_,_,_,_,_,_,_,_,hc,hl,hl',hk,hr,he=>fun s r h=>MW hc anc (fun s r h=>hk _ r h) t [] s r h
 | .seqc live a b,_,_,_,_,_,_,_,_,_,_,hc,hl,hl',hk,hr,he=>fun s r h=>Eg a hc hl hl' (fun s' r h=>Eg b hc hl hl' hk hr he _ r h) hr he s r h
 | .seq a b,_,_,_,_,_,_,_,_,_,_,hc,hl,hl',hk,hr,he=>fun s r h=>Eg a hc hl hl' (fun s' r h=>Eg b hc hl hl' hk hr he _ r h) hr he s r h
 | .cond c a b,_,_,_,_,_,_,_,_,_,_,hc,hl,hl',hk,hr,he=>fun s r h=>by
  simp only [Dv] at h ⊢
  split at h
  ·split at h
   ·rename_i e
    simp only [if_pos e]
    exact Eg a hc hl hl' hk hr he s r h
   ·rename_i e
    simp only [if_neg e]
    exact Eg b hc hl hl' hk hr he s r h
  ·cases h
 | .block id live a,_,_,_,_,_,_,_,_,_,_,hc,hl,hl',hk,hr,he=>fun s r h=>by
  simp only [Dv] at h ⊢
  refine Eg a hc hl hl' (fun s r h=>hk _ r h) hr (fun i s' r h=>?_) s r h
  split at h
  ·rename_i e
   simp only [if_pos e]
   exact hk _ r h
  ·rename_i e
   simp only [if_neg e]
   exact he i _ r h
 | .loop live a,cal,c,lp,ll,kn,kr,kl,krl,ke,kel,hc,hl,hl',hk,hr,he=>fun s r h=>by
  simp only [Dv] at h ⊢
  refine hl _ _ (fun go gl hgo s' r h=>?_) (fun j go gl hgo s' r h=>?_) _ r h
  ·exact Eg a hc hl hl' (fun s r h=>hgo _ r h) hr he s' r h
  ·exact Eg (cal:=fun _=>cal j) (lp:=fun _=>lp j) (kn:=fun i s'=>go i (s'.cutH (B9 s live) live s.st.length)) (kl:=fun s'=>gl (s'.cutH (B9 s live) live s.st.length)) (kr:=fun _=>kr j) (krl:=kr j) (ke:=fun _=>ke j) (kel:=ke j) a (Ka.refl _) (hl' j) (fun _=>hl' j) (fun s r h=>hgo _ r h) (Conv.refl _) (fun i=>Conv.refl _) s' r h
 | .exit id,_,_,_,_,_,_,_,_,_,_,hc,hl,hl',hk,hr,he=>fun s r h=>he id s r h
 | .ret,_,_,_,_,_,_,_,_,_,_,hc,hl,hl',hk,hr,he=>hr
theorem XJ {ρ:Type} {cal:Cz} {a:AO} {hs:List (Nat×Nat)} {live:List Nat} {n:Nat} {kr:St->Option ρ} {ke:Nat->St->Option ρ} {s:St} {r:ρ}
  (h:Dv cal Fu a (fun s''=>Fu (fun go s'=>Dv cal Fu a (fun s''=>go (s''.cutH hs live n)) kr ke s') (s''.cutH hs live n)) kr ke s=some r) :
  Fu (fun go s'=>Dv cal Fu a (fun s''=>go (s''.cutH hs live n)) kr ke s') s=some r :=
 Sv (F:=fun go s'=>Dv cal Fu a (fun s''=>go (s''.cutH hs live n)) kr ke s') (fun go gl hgo s' r h=>Eg (cal:=fun _=>cal) (lp:=fun _=>Fu) (kn:=fun i s'=>go i (s'.cutH hs live n)) (kl:=fun s'=>gl (s'.cutH hs live n)) (kr:=fun _=>kr) (krl:=kr) (ke:=fun _=>ke) (kel:=ke) a (Ka.refl _) VR (fun _=>VR) (fun s r h=>hgo _ r h) (Conv.refl _) (fun i=>Conv.refl _) s' r h) h
noncomputable def YE (cal:Cz) (fn:CU) (args bs:List AV):Option (RT fn.outs) :=
 Dv cal Fu fn.body (AW fn) (AW fn) (fun _ _=>none) ⟨IZ 0 (Bv (C6 bs) args),BK bs args⟩
noncomputable def Ub (NT:Nat->Option CU) (DL:Cz):Cz:=fun f a b=>Lm fun k=>PN NT DL k f a b
theorem XK {NT:Nat->Option CU} {DL:Cz} {f:Nat} {args bs r:List AV} (hf:NT f=none) (h:DL f args bs=some r):Ub NT DL f args bs=some r:=by
 refine X_ ⟨1,fun k hk=>?_⟩
 cases k with
 | zero=>omega
 | succ k=>simp only [PN,hf,h]
theorem XL {NT:Nat->Option CU} {DL:Cz} {f:Nat} {fn:CU} {args bs:List AV} {r:RT fn.outs} (hf:NT f=some fn) (hl:args.length=fn.params.length/\bs.length=(CV fn.params 0).length)
  (h:YE (Ub NT DL) fn args bs=some r):Ub NT DL f args bs=some (B6 fn.outs r):=by
 have hc:Ka (fun k=>PN NT DL k) (Ub NT DL):=fun f a b r h=>VP h
 obtain ⟨m,hm⟩:=Eg (lp:=G1) (ll:=Fu) fn.body (kn:=fun _=>AW fn) (kr:=fun _=>AW fn) (ke:=fun _ _ _=>none) hc YC VQ (Conv.refl _) (Conv.refl _) (fun i=>Conv.refl _) _ r h
 refine X_ ⟨m+1,fun k hk=>?_⟩
 cases k with
 | zero=>omega
 | succ k =>
  simp only [PN,hf,if_pos hl]
  have:=hm k (by omega)
  simp only [<- Id] at this
  unfold WC
  rw [this]
  rfl
theorem Jr:∀ (K:Kd) (x:K.T) (r:List AV),K.dec (K.enc x++r)=some (x,r)
 | .int k,x,r=>by simp [Kd.enc,Kd.dec]
 | .bool,x,r=>rfl
 | .str,x,r=>rfl
 | .slice e,x,r=>by simp [Kd.enc,Kd.dec]
 | .pair a b,x,r=>by simp [Kd.enc,Kd.dec,CL,Jr a,Jr b]
 | .own t e,x,r=>by simp [Kd.enc,Kd.dec]
 | .ref K,x,r=>by
  have:=Jr K x []
  rw [List.append_nil] at this
  simp [Kd.enc,Kd.dec,this]
 | .fun f,x,r=>by simp [Kd.enc,Kd.dec]
 | .clo f K,x,r=>by simp [Kd.enc,Kd.dec]
theorem Sy (K:Kd) (x:K.T):K.of (K.av x)=some x:=by
 have h:K.ofCells (K.enc x)=some x:=by
  have:=Jr K x []
  rw [List.append_nil] at this
  simp [Kd.ofCells,this]
 unfold Kd.of
 cases K<;>exact h
theorem Sz:∀ (Ks:List Kd) (x:RT Ks),Cp Ks (B6 Ks x)=some x
 | [],_=>rfl
 | [K],x=>Sy K x
 | K::L::Ks,x=>by
  simp only [B6,Cp,Sy,Z]
  rw [Sz (L::Ks) x.2]
  rfl
theorem V5 {NT:Nat->Option CU} {DL:Cz} {f:Nat} {fn:CU} {args bs:List AV} {r:RT fn.outs} (hf:NT f=some fn) (hl:args.length=fn.params.length/\bs.length=(CV fn.params 0).length)
  (h:YE (Ub NT DL) fn args bs=some r):(Ub NT DL f args bs).bind (Cp fn.outs)=some r:=by
 rw [XL hf hl h,Z,Sz]
theorem YF {P:Program} {NT:Nat->Option CU} {DL:Cz} (ht:X7 P NT) (hp:D8 P DL) {f:Nat} {args:List AV} (h:(Ub NT DL f args []).bind (Cp [.bool])=some true) {W:World} {cargs:List Value}
  (ha:AX (VE (Kv W)) args cargs) (hlt:f<B8:=by decide) (htab:Uu (Kv W):=by exact fun p h=>by cases h):Calls P f cargs.toArray W fun e W'=>e=.returned (.bool true)/\RowKit.Below W.heap.size W W':=by
 cases hq:Ub NT DL f args [] with
 | none=>rw [hq] at h; cases h
 | some v =>
  rw [hq,Z] at h
  obtain ⟨m,hm⟩:=VP hq
  have hm:=hm m (Nat.le_refl _)
  have e:v=[.bool true]:=by
   match v,h with
   | [a],h =>
    have h:Kd.of .bool a=some true:=h
    unfold Kd.of Kd.ofCells at h
    cases a<;>simp [AV.cells,Kd.dec,AV.fits] at h<;>first | rw [h] | skip
  subst e
  exact XH ht hp hm ha hlt htab
def ZA (f:Nat):List (Nat×CU)->Option CU
 | []=>none
 | (g,a)::r=>if g=f then some a else ZA f r
inductive WZ (P:Program):List (Nat×CU)->Prop where
 | nil:WZ P []
 | cons {f:Nat} {a:CU} {r:List (Nat×CU)} (h:CE P f a=true) (t:WZ P r):WZ P ((f,a)::r)
theorem XM {P:Program} {tab:List (Nat×CU)} (h:WZ P tab):X7 P fun f=>ZA f tab:=by
 intro f a hf
 induction h with
 | nil=>cases hf
 | cons h _ ih =>
  simp only [ZA] at hf
  split at hf
  ·rename_i e
   cases hf
   rw [<- e]
   exact h
  ·exact ih hf
end Go.Proofs.Ytffahmnodgnohaa.Core

namespace Go.Proofs.Ytffahmnodgnohaa.Core
open Go IntKind
set_option maxRecDepth 100000
noncomputable section
abbrev Kd.W:Kd:=.int .i64
abbrev Kd.S:Kd:=.slice .W
abbrev AB:Kd:=(.pair .W (.pair .W (.pair .W (.pair .W (.pair .W .str)))))
abbrev U:Type:=Int×Int×Int×Int×Int×ByteArray
abbrev AM:Kd:=(.pair .W (.pair .W (.pair .W .str)))
abbrev AI:Type:=Int×Int×Int×ByteArray
abbrev AK:Kd:=(.pair .W (.pair .W .str))
abbrev AF:Type:=Int×Int×ByteArray
abbrev Ah:Kd:=(.pair .W (.pair .W (.pair .str (.pair (.own 183 AB) (.pair .bool (.pair (.own 3 .W) .bool))))))
abbrev AC:Type:=Int×Int×ByteArray×List U×Bool×List Int×Bool
abbrev Ab:Kd:=(.pair (.own 94 AK) (.pair (.own 89 Ah) (.pair (.own 183 AB) (.own 9 .str))))
abbrev J:Type:=List AF×List AC×List U×List ByteArray
abbrev Cw:Kd:=(.pair .W (.pair .W (.pair .str (.pair (.slice AB) (.pair .bool (.pair .S .bool))))))
abbrev AJ:Kd:=(.pair (.slice AK) (.pair (.slice Cw) (.pair (.slice AB) (.slice .str))))
abbrev Bl:Kd:=(.pair (.slice AK) (.pair (.own 89 Cw) (.pair (.slice AB) (.slice .str))))
abbrev BV:Kd:=(.pair (.slice (.int .u8)) (.pair .W .W))
abbrev AY:Type:=List Int×Int×Int
abbrev OS:Kd:=(.pair .W (.pair .W (.slice AM)))
abbrev Dh:Type:=Int×Int×List AI
abbrev MX:Kd:=(.pair .W (.pair .W (.own 83 AM)))
def V6:Nat×List PK×List Kd:=(21,[.bor (.slice (.int .u8))],[.bool])
def Js:Nat×List PK×List Kd:=(37,[.val .W,.val .W],[AJ,.bool])
def Pl:Nat×List PK×List Kd:=(38,[.val .W,.val .W],[Ab,.bool])
def Pm:Nat×List PK×List Kd:=(47,[.val .W,.val .W,.bor (.slice AM)],[Ab,(.own 3 .W),.bool])
def Qo:Nat×List PK×List Kd:=(48,[.bor (.slice .str),.bor (.slice .str)],[.bool])
def OT:Nat×List PK×List Kd:=(49,[.val (.slice (.int .u8))],[.W,.W,(.slice AM)])
def Qp:Nat×List PK×List Kd:=(50,[.bor AJ],[.bool])
def N6:Nat×List PK×List Kd:=(51,[.val .W],[.W])
def Pn:Nat×List PK×List Kd:=(52,[.val .W,.val .W,.val (.slice AM)],[AJ,.S,.bool])
def Rg:Nat×List PK×List Kd:=(53,[.bor .S,.bor .S],[.bool])
def Qq:Nat×List PK×List Kd:=(54,[.bor AJ],[.bool])
def MY:Nat×List PK×List Kd:=(55,[.val AK],[.bool])
def TW:Nat×List PK×List Kd:=(79,[.val (.slice (.int .u8))],[(.ref BV)])
def DJ:Nat×List PK×List Kd:=(80,[.val .W,.val .W,.val .W],[.bool])
def Bm:Nat×List PK×List Kd:=(82,[.val .W,.val .W,.val .W],[.bool])
def DB:Nat×List PK×List Kd:=(85,[.ptr BV,.val .W],[.W])
def Eh:Nat×List PK×List Kd:=(87,[.ptr BV],[.W])
def Uc:Nat×List PK×List Kd:=(90,[.bor .S,.val .W],[.bool])
def Je:Nat×List PK×List Kd:=(93,[.bor .S,.val .W],[.bool])
def Rh:Nat×List PK×List Kd:=(124,[.val AM,.val .W],[.bool])
def TX:Nat×List PK×List Kd:=(125,[.val .bool],[.W])
def MD:Nat×List PK×List Kd:=(126,[.ptr Ab,.val AM],[.bool])
def S0:Nat×List PK×List Kd:=(127,[.ptr BV,.val (.slice (.int .u8))],[OS])
def Ud:Nat×List PK×List Kd:=(128,[.val .W,.val AM],[.bool])
def Po:Nat×List PK×List Kd:=(129,[.ptr AJ,.val AM],[.W])
def S3:Nat×List PK×List Kd:=(130,[.val AJ],[AJ])
def Pp:Nat×List PK×List Kd:=(143,[.ptr BV,.val .S],[.W])
def Lf:Nat×List PK×List Kd:=(148,[.bor .S,.val .W],[.W])
def Lg:Nat×List PK×List Kd:=(154,[.ptr Ab,.val AM],[.bool])
def FT:Nat×List PK×List Kd:=(155,[.mov (.own 183 AB),.val .W,.val .W],[(.own 183 AB)])
def MZ:Nat×List PK×List Kd:=(156,[.ptr Ab,.val AB],[.bool])
def Ri:Nat×List PK×List Kd:=(157,[.ptr BV],[.str])
def Pq:Nat×List PK×List Kd:=(158,[.ptr AJ,.val AM],[.W])
def Gq:Nat×List PK×List Kd:=(159,[.ptr AJ,.val AB],[])
def Rj:Nat×List PK×List Kd:=(160,[.ptr AJ,.val AB],[.W])
def S4:Nat×List PK×List Kd:=(166,[.ptr BV,.val (.slice .str)],[.str])
def Iv:Nat×List PK×List Kd:=(169,[.ptr Ab,.ept,.val .W,.val .str],[])
def NR:Nat×List PK×List Kd:=(170,[.ptr Ab,.val AB],[.bool])
def Kw:Nat×List PK×List Kd:=(171,[.ptr Ab,.ept,.val AB],[.bool])
def Ma:Nat×List PK×List Kd:=(172,[.ptr Ab,.ept,.val AB],[.bool])
def Kb:Nat×List PK×List Kd:=(173,[.ptr AJ,.val Cw],[])
def Pr:Nat×List PK×List Kd:=(174,[.ptr AJ,.val AB],[.W])
def Rk:Nat×List PK×List Kd:=(175,[.ptr AJ,.val AB],[.W])
def Rl:Nat×List PK×List Kd:=(176,[.val AK,.val AB],[AK,AB,.bool])
def Rm:Nat×List PK×List Kd:=(182,[.val AK,.val AB],[AK,AB,.bool])
def EI:Nat×List PK×List Kd:=(183,[.bor (.slice AB),.val (.clo 184 AB)],[.bool])
def Qr:Nat×List PK×List Kd:=(185,[.bor (.slice AB),.val .str],[.str])
def N7:Nat×List PK×List Kd:=(186,[.val .W],[.W])
def Qs:Nat×List PK×List Kd:=(187,[.bor (.slice AB),.val .str],[.str])
def S5:Nat×List PK×List Kd:=(188,[.val AK],[.bool])
def Ei:Nat×List PK×List Kd:=(189,[.bor (.slice AB),.val (.clo 184 AB)],[.W])
abbrev Wa {A0 ρ:Type} (t W:A0->Option ρ):Prop:=∀ {a0 r},t a0=some r->W a0=some r
abbrev MI {A0 A1 ρ:Type} (t W:A0->A1->Option ρ):Prop:=∀ {a0 a1 r},t a0 a1=some r->W a0 a1=some r
abbrev YG {A0 A1 A2 ρ:Type} (t W:A0->A1->A2->Option ρ):Prop:=∀ {a0 a1 a2 r},t a0 a1 a2=some r->W a0 a1 a2=some r
abbrev YR {A0 A1 A2 A3 ρ:Type} (t W:A0->A1->A2->A3->Option ρ):Prop:=∀ {a0 a1 a2 a3 r},t a0 a1 a2 a3=some r->W a0 a1 a2 a3=some r
abbrev YS {A0 A1 A2 A3 A4 ρ:Type} (t W:A0->A1->A2->A3->A4->Option ρ):Prop:=∀ {a0 a1 a2 a3 a4 r},t a0 a1 a2 a3 a4=some r->W a0 a1 a2 a3 a4=some r
abbrev aR {A0 A1 A2 A3 A4 A5 ρ:Type} (t W:A0->A1->A2->A3->A4->A5->Option ρ):Prop:=∀ {a0 a1 a2 a3 a4 a5 r},t a0 a1 a2 a3 a4 a5=some r->W a0 a1 a2 a3 a4 a5=some r
abbrev Z1 {A0 A1 A2 A3 A4 A5 A6 ρ:Type} (t W:A0->A1->A2->A3->A4->A5->A6->Option ρ):Prop:=∀ {a0 a1 a2 a3 a4 a5 a6 r},t a0 a1 a2 a3 a4 a5 a6=some r->W a0 a1 a2 a3 a4 a5 a6=some r
abbrev an {A0 A1 A2 A3 A4 A5 A6 A7 ρ:Type} (t W:A0->A1->A2->A3->A4->A5->A6->A7->Option ρ):Prop:=∀ {a0 a1 a2 a3 a4 a5 a6 a7 r},t a0 a1 a2 a3 a4 a5 a6 a7=some r->W a0 a1 a2 a3 a4 a5 a6 a7=some r
abbrev aY {A0 A1 A2 A3 A4 A5 A6 A7 A8 ρ:Type} (t W:A0->A1->A2->A3->A4->A5->A6->A7->A8->Option ρ):Prop:=∀ {a0 a1 a2 a3 a4 a5 a6 a7 a8 r},t a0 a1 a2 a3 a4 a5 a6 a7 a8=some r->W a0 a1 a2 a3 a4 a5 a6 a7 a8=some r
abbrev aE {A0 A1 A2 A3 A4 A5 A6 A7 A8 A9 ρ:Type} (t W:A0->A1->A2->A3->A4->A5->A6->A7->A8->A9->Option ρ):Prop:=∀ {a0 a1 a2 a3 a4 a5 a6 a7 a8 a9 r},t a0 a1 a2 a3 a4 a5 a6 a7 a8 a9=some r->W a0 a1 a2 a3 a4 a5 a6 a7 a8 a9=some r
abbrev YH {A0 A1 A2 A3 A4 A5 A6 A7 A8 A9 A10 ρ:Type} (t W:A0->A1->A2->A3->A4->A5->A6->A7->A8->A9->A10->Option ρ):Prop:=∀ {a0 a1 a2 a3 a4 a5 a6 a7 a8 a9 a10 r},t a0 a1 a2 a3 a4 a5 a6 a7 a8 a9 a10=some r->W a0 a1 a2 a3 a4 a5 a6 a7 a8 a9 a10=some r
abbrev aF {A0 A1 A2 A3 A4 A5 A6 A7 A8 A9 A10 A11 ρ:Type} (t W:A0->A1->A2->A3->A4->A5->A6->A7->A8->A9->A10->A11->Option ρ):Prop:=∀ {a0 a1 a2 a3 a4 a5 a6 a7 a8 a9 a10 a11 r},t a0 a1 a2 a3 a4 a5 a6 a7 a8 a9 a10 a11=some r->W a0 a1 a2 a3 a4 a5 a6 a7 a8 a9 a10 a11=some r
abbrev aZ {A0 A1 A2 A3 A4 A5 A6 A7 A8 A9 A10 A11 A12 ρ:Type} (t W:A0->A1->A2->A3->A4->A5->A6->A7->A8->A9->A10->A11->A12->Option ρ):Prop:=∀ {a0 a1 a2 a3 a4 a5 a6 a7 a8 a9 a10 a11 a12 r},t a0 a1 a2 a3 a4 a5 a6 a7 a8 a9 a10 a11 a12=some r->W a0 a1 a2 a3 a4 a5 a6 a7 a8 a9 a10 a11 a12=some r
abbrev aa {A0 A1 A2 A3 A4 A5 A6 A7 A8 A9 A10 A11 A12 A13 ρ:Type} (t W:A0->A1->A2->A3->A4->A5->A6->A7->A8->A9->A10->A11->A12->A13->Option ρ):Prop:=∀ {a0 a1 a2 a3 a4 a5 a6 a7 a8 a9 a10 a11 a12 a13 r},t a0 a1 a2 a3 a4 a5 a6 a7 a8 a9 a10 a11 a12 a13=some r->W a0 a1 a2 a3 a4 a5 a6 a7 a8 a9 a10 a11 a12 a13=some r
abbrev ad {A0 A1 A2 A3 A4 A5 A6 A7 A8 A9 A10 A11 A12 A13 A14 A15 ρ:Type} (t W:A0->A1->A2->A3->A4->A5->A6->A7->A8->A9->A10->A11->A12->A13->A14->A15->Option ρ):Prop:=∀ {a0 a1 a2 a3 a4 a5 a6 a7 a8 a9 a10 a11 a12 a13 a14 a15 r},t a0 a1 a2 a3 a4 a5 a6 a7 a8 a9 a10 a11 a12 a13 a14 a15=some r->W a0 a1 a2 a3 a4 a5 a6 a7 a8 a9 a10 a11 a12 a13 a14 a15=some r
instance (n:Nat):OfNat BS n:=⟨.t n⟩
abbrev BS.F:BS:=.c (.bool false)
abbrev BS.V:BS:=.c (.bool true)
abbrev BS.z:BS:=.c .nil
abbrev AO.R (a:List Cj) (b:List Nat) (c:AO):AO:=.seq (.region a b) c
abbrev AO.r (a:List Cj) (b:List Nat):AO:=.region a b
abbrev AO.s (a b:AO):AO:=.seq a b
abbrev AO.q (c:BS) (a b:AO):AO:=.cond c a b
abbrev AO.Q (c:BS) (a:AO):AO:=.cond c a .skip
abbrev AO.k:AO:=.skip
abbrev AO.e:AO:=.ret
abbrev AO.D (n:Nat) (l:List (Nat×List Nat)) (t:DT) (v:List Nat):AO:=.draw (am n l) t v
abbrev AO.b (n:Nat) (l:List Nat) (c:AO):AO:=.block n l c
abbrev DT.O (i:Nat) (a:Cj) (e:Bool) (fl:List (Nat×Cj)) (r:DT):DT:=.only i none a e fl r
abbrev DT.z:DT:=.done

def Iw:DT:=(.tg 87 false 21 [.pick 106 94 105 .F] (.tk 23 [.m 13 107,.pick 107 87 .V 106] .z))
def Ix:AO:=(.s (.R [.m 80 14,.m 81 5,.len 82 false 81,.b 83 .lss 80 82] [3,5,6,12,13,14,83] (.cond 83 .k (.exit 2))) (.s (.b 3 [3,5,6,12,13,14] (.D 23 [(3,[1]),(4,[2,3]),(10,[8]),(11,[9,10]),(14,[8]),(16,[8]),(17,[15,16]),(19,[13,18])] (.tk 2 [.m 87 86,.m 86 13] (.test 87 (.sk 87 false 7 9 95 (.sk 94 true 11 20 106 (.sk 87 false 1 21 107 (.tk 23 [.m 13 107,.pick 107 87 .V 106] .z)))) (.tg 87 false 9 [.m 94 93,.bin 93 .eql 92 (.i 1),.l 92 91,.f 91 90 0,.idx 90 4 88 89,.m 89 14,.m 88 5] (.test 94 (.tg 94 true 20 [.b 105 .eql 99 104,.l 104 103,.idx 103 1 101 102,.m 102 12,.l 101 100,.f 100 6 3,.l 99 98,.f 98 97 3,.idx 97 4 95 96,.m 96 14,.m 95 5] Iw) (.sk 94 true 11 20 106 Iw))))) [3,5,6,12,13,14])) (.r [.m 84 14,.bin 85 .add 84 (.i 1),.m 14 85] [3,5,6,12,13,14])))
def Hx:AO:=(.R [.m 108 13,.un 109 .not 108] [3,5,6,12,109] (.cond 109 (.R [.mv 2 .F] [2] .e) .k))
def Hy:AO:=(.r [.m 78 12,.bin 79 .add 78 (.i 1),.m 12 79] [3,5,6,12])
def Hz:AO:=(.s (.R [.m 73 12,.f 74 6 3,.l 75 74,.len 76 false 75,.b 77 .lss 73 76] [3,5,6,12,77] (.cond 77 .k (.exit 0))) (.s (.b 1 [3,5,6,12] (.R [.mv 13 .F] [3,5,6,12,13] (.s (.R [.mv 14 (.i 0)] [3,5,6,12,13,14] (.b 2 [3,5,6,12,13] (.loop [3,5,6,12,13,14] Ix))) Hx))) Hy))
def H5:AO:=(.s (.R [.m 110 15,.m 111 3,.b 112 .lss 110 111] [3,6,15,112] (.cond 112 .k (.exit 4))) (.s (.b 5 [3,6,15] (.R [.f 115 6 0,.l 116 115,.m 117 15,.idx 118 3 116 117,.ls 119 118 3,.cl 120 [119] MY,.un 121 .not 120] [3,6,15,121] (.cond 121 (.R [.mv 2 .F] [2] .e) .k))) (.r [.m 113 15,.bin 114 .add 113 (.i 1),.m 15 114] [3,6,15])))
def H6:AO:=(.R [.mv 2 .V] [2] .e)
def H7:AO:=(.s (.R [.mv 15 (.i 0)] [3,6,15] (.b 4 [] (.loop [3,6,15] H5))) H6)
def Ai:CU:=⟨[.val (.slice (.int .u8))],[⟨2,false,.bool⟩],(.R [.mv 2 .F] [0] (.s (.R [.m 16 0,.cl 17 [16] V6] [0,17] (.cond 17 (.R [.mv 2 .V] [2] .e) .k)) (.R [.m 19 0,.cl 20 [19] OT,.m 18 20,.ext 21 18 0,.ext 22 18 1,.ext 23 18 2,.m 3 21,.m 4 22,.m 5 23] [3,4,5] (.R [.m 25 3,.m 26 4,.m 27 5,.cl 28 [25,26,27] Pm,.m 24 28,.ext 29 24 0,.ext 30 24 1,.ext 31 24 2,.al 6 Ab,.store 6 29 4 false,.m 7 30,.m 8 31] [3,4,5,6,7,8] (.R [.m 33 3,.m 34 4,.m 35 5,.cl 36 [33,34,35] Pn,.m 32 36,.ext 37 32 0,.ext 38 32 1,.ext 39 32 2,.al 9 AJ,.store 9 37 4 false,.m 10 38,.m 11 39] [3,5,6,7,8,9,10] (.s (.R [.m 40 8,.un 41 .not 40,.m 42 41,.sc 42 false [.m 43 7,.m 44 10,.cl 45 [43,44] Rg,.un 46 .not 45] 47 .V 46,.m 48 47,.sc 48 false [.f 49 6 3,.l 50 49,.f 51 9 3,.l 52 51,.cl 53 [50,52] Qo,.un 54 .not 53] 55 .V 54,.m 56 55,.sc 56 false [.f 57 6 0,.l 58 57,.len 59 false 58,.m 60 3,.b 61 .neq 59 60] 62 .V 61,.m 63 62,.sc 63 false [.ls 64 6 4,.cl 65 [64] Qp,.un 66 .not 65] 67 .V 66,.m 68 67,.sc 68 false [.ls 69 6 4,.cl 70 [69] Qq,.un 71 .not 70] 72 .V 71] [3,5,6,72] (.cond 72 (.R [.mv 2 .F] [2] .e) .k)) (.s (.R [.mv 12 (.i 0)] [3,5,6,12] (.b 0 [3,6] (.loop [3,5,6,12] Hz))) H7)))))))⟩
theorem Qt:CE Try.prog 11 Ai=true:=by kernel_rfl
def Lh:CU:=⟨[.val (.slice (.int .u8))],[⟨2,false,.bool⟩],(.R [.mv 2 .F] [0] (.R [.m 3 0,.len 4 false 3,.bin 5 .gtr 4 (.i 1048576),.m 2 5] [2] .e))⟩
theorem V7:CE Try.prog 21 Lh=true:=by kernel_rfl
def H8:AO:=(.s (.R [.m 20 7,.m 21 1,.b 22 .leq 20 21] [1,4,6,7,22] (.cond 22 .k (.exit 0))) (.s (.b 1 [1,4,6,7] (.r [.f 25 6 1,.l 26 25,.m 27 7,.bu 28 Cw [(0,1,27)],.blst 29 Cw [28],.app 30 89 Cw 26 29,.f 31 6 1,.store 31 30 1 false] [1,4,6,7])) (.r [.m 23 7,.bin 24 .add 23 (.i 1),.m 7 24] [1,4,6,7])))
def H9:AO:=(.R [.ls 32 6 4,.store 4 32 4 false,.mv 5 .V] [4,5] .e)
def H_:AO:=(.R [.m 17 0,.mk 18 94 AK 17,.build 19 [.nil,.nil,.nil,.nil] [(0,1,18)],.al 6 Bl,.store 6 19 4 false] [1,4,6] (.s (.R [.mv 7 (.i 1)] [1,4,6,7] (.b 0 [4,6] (.loop [1,4,6,7] H8))) H9))
def BN:CU:=⟨[.val .W,.val .W],[⟨4,true,AJ⟩,⟨5,false,.bool⟩],(.R [.al 4 Bl,.mv 5 .F] [0,1,4] (.s (.R [.m 8 0,.cx (some 9) [8,.c (.int .i64 1),.c (.int .i64 5)] DJ,.un 10 .not 9,.m 11 10,.sc 11 false [.m 12 1,.cx (some 13) [12,.c (.int .i64 1),.c (.int .i64 4)] DJ,.un 14 .not 13] 15 .V 14] [0,1,4,15] (.cond 15 (.R [.build 16 [.nil,.nil,.nil,.nil] [],.store 4 16 4 false,.mv 5 .F] [4,5] .e) .k)) H_))⟩
theorem Ps:CE Try.prog 37 BN=true:=by kernel_rfl
def IA:AO:=(.R [.b 22 .lss 21 20] [4,6,20,21,22] (.s (.cond 22 .k (.exit 0)) (.s (.b 1 [4,6,20,21] (.R [.m 23 21,.m 7 23] [4,6,7,20,21] (.r [.f 24 6 1,.l 25 24,.m 26 7,.bin 27 .add 26 (.i 1),.bnew 28 [.int .i64 0,.int .i64 0,.str AA,.new 183 AB [],.bool false,.new 3 .W [],.bool false] [(0,1,27)],.brow 29 89 Ah [28],.app 30 89 Ah 25 29,.f 31 6 1,.store 31 30 1 false] [4,6,20,21]))) (.r [.bin 32 .add 21 (.i 1),.m 21 32] [4,6,20,21]))))
def IB:AO:=(.R [.ls 33 6 4,.store 4 33 4 false,.mv 5 .V] [4,5] .e)
def IC:AO:=(.R [.m 17 0,.mk 18 94 AK 17,.bnew 19 [.new 94 AK [],.new 89 Ah [],.new 183 AB [],.new 9 .str []] [(0,1,18)],.al 6 Ab,.store 6 19 4 false] [1,4,6] (.s (.R [.m 20 1,.mv 21 (.i 0)] [4,6,20,21] (.b 0 [4,6] (.loop [4,6,20,21] IA))) IB))
def BO:CU:=⟨[.val .W,.val .W],[⟨4,true,Ab⟩,⟨5,false,.bool⟩],(.R [.al 4 Ab,.mv 5 .F] [0,1,4] (.s (.R [.m 8 0,.cx (some 9) [8,.c (.int .i64 1),.c (.int .i64 5)] Bm,.un 10 .not 9,.m 11 10,.sc 11 false [.m 12 1,.cx (some 13) [12,.c (.int .i64 1),.c (.int .i64 4)] Bm,.un 14 .not 13] 15 .V 14] [0,1,4,15] (.cond 15 (.R [.bnew 16 [.new 94 AK [],.new 89 Ah [],.new 183 AB [],.new 9 .str []] [],.store 4 16 4 false,.mv 5 .F] [4,5] .e) .k)) IC))⟩
theorem Pt:CE Try.prog 38 BO=true:=by kernel_rfl
def ID:AO:=(.R [.b 33 .lss 32 31] [1,2,6,9,30,31,32,33] (.s (.cond 33 .k (.exit 0)) (.s (.b 1 [1,2,6,9,30,31,32] (.R [.idx 34 4 30 32,.ls 35 34 4,.al 12 AM,.store 12 35 4 false] [1,2,6,9,12,30,31,32] (.R [.ls 36 12 4,.m 37 1,.cl 38 [36,37] Rh,.un 39 .not 38] [1,2,6,9,30,31,32,39] (.cond 39 (.R [.bnew 40 [.new 94 AK [],.new 89 Ah [],.new 183 AB [],.new 9 .str []] [],.store 6 40 4 false,.nilrow 7 3 .W,.mv 8 .F] [6,7,8] .e) .k)))) (.r [.bin 41 .add 32 (.i 1),.m 32 41] [1,2,6,9,30,31,32]))))
def G8:AO:=(.R [.b 45 .lss 44 43] [6,9,13,42,43,44,45] (.s (.cond 45 .k (.exit 2)) (.s (.b 3 [6,9,13,42,43,44] (.R [.idx 46 4 42 44,.ls 47 46 4,.al 15 AM,.store 15 47 4 false] [6,9,13,15,42,43,44] (.r [.m 48 13,.ls 49 15 4,.cl 50 [9,49] MD,.cl 51 [50] TX,.blst 52 .W [51],.app 53 3 .W 48 52,.m 13 53] [6,9,13,42,43,44]))) (.r [.bin 54 .add 44 (.i 1),.m 44 54] [6,9,13,42,43,44]))))
def G9:AO:=(.R [.ls 55 9 4,.m 56 13,.store 6 55 4 false,.m 7 56,.mv 8 .V] [6,7,8] .e)
def Ej:AO:=(.R [.nilrow 13 3 .W] [2,6,9,13] (.s (.R [.m 42 2,.len 43 false 42,.mv 44 (.i 0)] [6,9,13,42,43,44] (.b 2 [6,9,13] (.loop [6,9,13,42,43,44] G8))) G9))
def G_:AO:=(.s (.R [.m 30 2,.len 31 false 30,.mv 32 (.i 0)] [1,2,6,9,30,31,32] (.b 0 [2,6,9] (.loop [1,2,6,9,30,31,32] ID))) Ej)
def Ac:CU:=⟨[.val .W,.val .W,.val (.slice AM)],[⟨6,true,Ab⟩,⟨7,false,(.own 3 .W)⟩,⟨8,false,.bool⟩],(.R [.al 6 Ab,.nilrow 7 3 .W,.mv 8 .F] [0,1,2,6] (.R [.m 17 0,.m 18 1,.cl 19 [17,18] Pl,.m 16 19,.ext 20 16 0,.ext 21 16 1,.al 9 Ab,.store 9 20 4 false,.m 10 21] [1,2,6,9,10] (.s (.R [.m 22 10,.un 23 .not 22,.m 24 23,.sc 24 false [.m 25 2,.len 26 false 25,.bin 27 .gtr 26 (.i 80)] 28 .V 27] [1,2,6,9,28] (.cond 28 (.R [.bnew 29 [.new 94 AK [],.new 89 Ah [],.new 183 AB [],.new 9 .str []] [],.store 6 29 4 false,.nilrow 7 3 .W,.mv 8 .F] [6,7,8] .e) .k)) G_)))⟩
theorem Pu:CE Try.prog 47 Ac=true:=by kernel_rfl
def Iy:AO:=(.s (.R [.m 11 5,.m 12 0,.len 13 false 12,.b 14 .lss 11 13] [0,1,5,14] (.cond 14 .k (.exit 0))) (.s (.b 1 [0,1,5] (.s (.D 9 [(1,[]),(2,[0,1]),(4,[]),(5,[]),(6,[4,5]),(8,[3,7])] (.tk 9 [.b 25 .neq 20 24,.l 24 23,.idx 23 1 21 22,.m 22 5,.m 21 1,.l 20 19,.idx 19 1 17 18,.m 18 5,.m 17 0] .z) [0,1,5,25]) (.cond 25 (.R [.mv 4 .F] [4] .e) .k))) (.r [.m 15 5,.bin 16 .add 15 (.i 1),.m 5 16] [0,1,5])))
def Iz:AO:=(.R [.mv 4 .V] [4] .e)
def Bp:CU:=⟨[.val (.slice .str),.val (.slice .str)],[⟨4,false,.bool⟩],(.R [.mv 4 .F] [0,1] (.s (.R [.m 6 0,.len 7 false 6,.m 8 1,.len 9 false 8,.b 10 .neq 7 9] [0,1,10] (.cond 10 (.R [.mv 4 .F] [4] .e) .k)) (.s (.R [.mv 5 (.i 0)] [0,1,5] (.b 0 [] (.loop [0,1,5] Iy))) Iz)))⟩
theorem Qu:CE Try.prog 48 Bp=true:=by kernel_rfl
def D9:CU:=⟨[.val (.slice (.int .u8))],[⟨2,false,.W⟩,⟨3,false,.W⟩,⟨4,false,(.slice AM)⟩],(.R [.mv 2 (.i 0),.mv 3 (.i 0),.mv 4 .z] [0] (.R [.m 6 0,.cl 7 [6] TW,.m 8 0,.cl 9 [7,8] S0,.al 5 OS,.store 5 9 3 false] [5] (.s (.D 9 [(2,[]),(4,[]),(6,[1]),(7,[3,6]),(8,[5,7])] (.tk 9 [.m 4 15,.m 3 13,.m 2 11,.l 15 14,.f 14 5 2,.l 13 12,.f 12 5 1,.l 11 10,.f 10 5 0] .z) [2,3,4]) .e)))⟩
theorem OU:CE Try.prog 49 D9=true:=by kernel_rfl
def I0:AO:=(.R [.b 9 .lss 8 7] [1,6,7,8,9] (.s (.cond 9 .k (.exit 0)) (.s (.b 1 [1,6,7,8] (.R [.idx 10 1 6 8,.l 11 10,.m 4 11] [1,4,6,7,8] (.R [.m 12 4,.f 13 1 3,.l 14 13,.idx 15 1 14 (.i 0),.l 16 15,.b 17 .neq 12 16] [1,6,7,8,17] (.cond 17 (.R [.mv 2 .F] [2] .e) .k)))) (.r [.bin 18 .add 8 (.i 1),.m 8 18] [1,6,7,8]))))
def I1:AO:=(.R [.mv 2 .V] [2] .e)
def Bq:CU:=⟨[.val AJ],[⟨2,false,.bool⟩],(.R [.box 1 0 true,.mv 2 .F] [1] (.s (.R [.f 5 1 3,.l 6 5,.len 7 false 6,.mv 8 (.i 0)] [1,6,7,8] (.b 0 [] (.loop [1,6,7,8] I0))) I1))⟩
theorem Qv:CE Try.prog 50 Bq=true:=by kernel_rfl
def Gr:CU:=⟨[.val .W],[⟨2,false,.W⟩],(.R [.mv 2 (.i 0)] [0] (.s (.R [.m 3 0,.bin 4 .lss 3 (.i 0)] [0,4] (.cond 4 (.R [.mv 2 (.i 0)] [2] .e) .k)) (.R [.m 5 0,.bin 6 .quo 5 (.i 2),.bin 7 .add 6 (.i 1),.m 2 7] [2] .e)))⟩
theorem TY:CE Try.prog 51 Gr=true:=by kernel_rfl
def IE:AO:=(.s (.b 1 [1,2,6,9,10,11] (.r [.m 29 2,.len 30 false 29,.bin 31 .leq 30 (.i 80),.m 32 31,.sc 32 true [.m 33 1,.m 34 2,.m 35 11,.idx 36 4 34 35,.ls 37 36 4,.cl 38 [33,37] Ud] 39 38 .F,.m 10 39] [1,2,6,9,10,11])) (.r [.m 27 11,.bin 28 .add 27 (.i 1),.m 11 28] [1,2,6,9,10,11]))
def IF:AO:=(.s (.R [.m 20 11,.m 21 2,.len 22 false 21,.b 23 .lss 20 22,.m 24 23,.sc 24 true [.m 25 10] 26 25 .F] [1,2,6,9,10,11,26] (.cond 26 .k (.exit 0))) IE)
def IG:AO:=(.s (.R [.m 45 13,.m 46 2,.len 47 false 46,.b 48 .lss 45 47] [2,6,9,12,13,48] (.cond 48 .k (.exit 2))) (.s (.b 3 [2,6,9,12,13] (.r [.m 51 12,.m 52 2,.m 53 13,.idx 54 4 52 53,.ls 55 54 4,.cl 56 [9,55] Po,.blst 57 .W [56],.app 58 3 .W 51 57,.m 12 58] [2,6,9,12,13])) (.r [.m 49 13,.bin 50 .add 49 (.i 1),.m 13 50] [2,6,9,12,13])))
def HA:AO:=(.R [.ls 59 9 4,.cl 60 [59] S3,.m 61 12,.store 6 60 4 false,.m 7 61,.mv 8 .V] [6,7,8] .e)
def Ek:AO:=(.s (.R [.m 40 10,.un 41 .not 40] [2,6,9,41] (.cond 41 (.R [.bu 42 AJ [],.blst 43 .W [],.store 6 42 4 false,.m 7 43,.mv 8 .F] [6,7,8] .e) .k)) (.R [.brow 44 3 .W [],.m 12 44] [2,6,9,12] (.s (.R [.mv 13 (.i 0)] [2,6,9,12,13] (.b 2 [6,9,12] (.loop [2,6,9,12,13] IG))) HA)))
def Ag:CU:=⟨[.val .W,.val .W,.val (.slice AM)],[⟨6,true,AJ⟩,⟨7,false,.S⟩,⟨8,false,.bool⟩],(.R [.al 6 AJ,.mv 7 .z,.mv 8 .F] [0,1,2,6] (.R [.m 15 0,.m 16 1,.cl 17 [15,16] Js,.m 14 17,.ext 18 14 0,.ext 19 14 1,.al 9 AJ,.store 9 18 4 false,.m 10 19] [1,2,6,9,10] (.s (.R [.mv 11 (.i 0)] [1,2,6,9,10,11] (.b 0 [2,6,9,10] (.loop [1,2,6,9,10,11] IF))) Ek)))⟩
theorem Pv:CE Try.prog 52 Ag=true:=by kernel_rfl
def Jt:AO:=(.s (.R [.m 11 5,.m 12 0,.len 13 false 12,.b 14 .lss 11 13] [0,1,5,14] (.cond 14 .k (.exit 0))) (.s (.b 1 [0,1,5] (.s (.D 9 [(1,[]),(2,[0,1]),(4,[]),(5,[]),(6,[4,5]),(8,[3,7])] (.tk 9 [.b 25 .neq 20 24,.l 24 23,.idx 23 1 21 22,.m 22 5,.m 21 1,.l 20 19,.idx 19 1 17 18,.m 18 5,.m 17 0] .z) [0,1,5,25]) (.cond 25 (.R [.mv 4 .F] [4] .e) .k))) (.r [.m 15 5,.bin 16 .add 15 (.i 1),.m 5 16] [0,1,5])))
def Ju:AO:=(.R [.mv 4 .V] [4] .e)
def B3:CU:=⟨[.val .S,.val .S],[⟨4,false,.bool⟩],(.R [.mv 4 .F] [0,1] (.s (.R [.m 6 0,.len 7 false 6,.m 8 1,.len 9 false 8,.b 10 .neq 7 9] [0,1,10] (.cond 10 (.R [.mv 4 .F] [4] .e) .k)) (.s (.R [.mv 5 (.i 0)] [0,1,5] (.b 0 [] (.loop [0,1,5] Jt))) Ju)))⟩
theorem Rn:CE Try.prog 53 B3=true:=by kernel_rfl
def I2:AO:=(.s (.R [.m 4 3,.f 5 1 3,.l 6 5,.len 7 false 6,.b 8 .lss 4 7] [1,3,8] (.cond 8 .k (.exit 0))) (.s (.b 1 [1,3] (.s (.D 10 [(2,[]),(3,[1,2]),(5,[]),(9,[4,8])] (.tk 10 [.b 20 .neq 15 19,.l 19 18,.idx 18 1 17 (.i 0),.l 17 16,.f 16 1 3,.l 15 14,.idx 14 1 12 13,.m 13 3,.l 12 11,.f 11 1 3] .z) [1,3,20]) (.cond 20 (.R [.mv 2 .F] [2] .e) .k))) (.r [.m 9 3,.bin 10 .add 9 (.i 1),.m 3 10] [1,3])))
def I3:AO:=(.R [.mv 2 .V] [2] .e)
def Br:CU:=⟨[.val AJ],[⟨2,false,.bool⟩],(.R [.box 1 0 false,.mv 2 .F] [1] (.s (.R [.mv 3 (.i 1)] [1,3] (.b 0 [] (.loop [1,3] I2))) I3))⟩
theorem Qw:CE Try.prog 54 Br=true:=by kernel_rfl
def Kx:AO:=(.R [.f 21 1 1,.l 22 21,.bin 23 .gtr 22 (.i 0),.m 24 23,.sc 24 false [.f 25 1 2,.l 26 25,.bin 27 .eql 26 (.c (.str ⟨#[]⟩))] 28 .V 27,.m 2 28] [2] .e)
def Dw:CU:=⟨[.val AK],[⟨2,false,.bool⟩],(.R [.box 1 0 false,.mv 2 .F] [1] (.s (.R [.f 3 1 0,.l 4 3,.cx (some 5) [4,.c (.int .i64 0),.c (.int .i64 10000)] Bm,.un 6 .not 5,.m 7 6,.sc 7 false [.f 8 1 1,.l 9 8,.f 10 1 0,.l 11 10,.cx (some 12) [9,.c (.int .i64 0),11] Bm,.un 13 .not 12] 14 .V 13,.m 15 14,.sc 15 false [.f 16 1 2,.l 17 16,.len 18 true 17,.bin 19 .gtr 18 (.i 40)] 20 .V 19] [1,20] (.cond 20 (.R [.mv 2 .F] [2] .e) .k)) Kx))⟩
theorem S6:CE Try.prog 55 Dw=true:=by kernel_rfl
def Lw:AO:=(.s (.b 1 [0,3,4] (.r [.m 18 3,.bin 19 .mul 18 (.i 131),.m 20 0,.m 21 4,.idx 22 1 20 21,.l 23 22,.cvi 24 .i64 23,.b 25 .add 19 24,.bin 26 .add 25 (.i 7),.bin 27 .and 26 (.i 1073741823),.m 3 27] [0,3,4])) (.r [.m 16 4,.bin 17 .add 16 (.i 1),.m 4 17] [0,3,4]))
def Lx:AO:=(.s (.R [.m 8 4,.m 9 0,.len 10 false 9,.b 11 .lss 8 10,.m 12 11,.sc 12 true [.m 13 4,.bin 14 .lss 13 (.i 4000)] 15 14 .F] [0,3,4,15] (.cond 15 .k (.exit 0))) Lw)
def Ly:AO:=(.R [.m 28 0,.m 29 3,.bu 30 BV [(0,1,28),(2,1,29)],.box 31 30 false,.m 2 31] [2] .e)
def CS:CU:=⟨[.val (.slice (.int .u8))],[⟨2,false,(.ref BV)⟩],(.R [.mv 2 (.c (.undef))] [0] (.R [.m 5 0,.len 6 false 5,.bin 7 .add (.i 14301) 6,.m 3 7] [0,3] (.s (.R [.mv 4 (.i 0)] [0,3,4] (.b 0 [0,3] (.loop [0,3,4] Lx))) Ly)))⟩
theorem TZ:CE Try.prog 79 CS=true:=by kernel_rfl
def Ie:CU:=⟨[.val .W,.val .W,.val .W],[⟨6,false,.bool⟩],(.R [.mv 6 .F] [0,1,2] (.R [.m 7 0,.m 8 1,.b 9 .geq 7 8,.m 10 9,.sc 10 true [.m 11 0,.m 12 2,.b 13 .leq 11 12] 14 13 .F,.m 6 14] [6] .e))⟩
theorem Ue:CE Try.prog 80 Ie=true:=by kernel_rfl
def F9:CU:=⟨[.val .W,.val .W,.val .W],[⟨6,false,.bool⟩],(.R [.mv 6 .F] [0,1,2] (.R [.m 7 0,.m 8 1,.b 9 .geq 7 8,.m 10 9,.sc 10 true [.m 11 0,.m 12 2,.b 13 .leq 11 12] 14 13 .F,.m 6 14] [6] .e))⟩
theorem S7:CE Try.prog 82 F9=true:=by kernel_rfl
def Fa:CU:=⟨[.ptr BV,.val .W],[⟨4,false,.W⟩],(.R [.mv 4 (.i 0)] [0,1] (.s (.R [.m 9 1,.bin 10 .leq 9 (.i 0)] [0,1,10] (.cond 10 (.R [.mv 4 (.i 0)] [4] .e) .k)) (.s (.R [.m 11 1,.bin 12 .leq 11 (.i 256)] [0,1,12] (.cond 12 (.R [.m 13 0,.cl 14 [13] Eh,.m 15 1,.b 16 .rem 14 15,.m 4 16] [4] .e) .k)) (.R [.m 17 0,.cl 18 [17] Eh,.m 5 18] [0,1,5] (.R [.m 19 0,.cl 20 [19] Eh,.m 6 20] [0,1,5,6] (.R [.m 21 0,.cl 22 [21] Eh,.m 7 22] [0,1,5,6,7] (.R [.m 23 0,.cl 24 [23] Eh,.m 8 24] [1,5,6,7,8] (.R [.m 25 5,.bin 26 .mul 25 (.i 16777216),.m 27 6,.bin 28 .mul 27 (.i 65536),.b 29 .add 26 28,.m 30 7,.bin 31 .mul 30 (.i 256),.b 32 .add 29 31,.m 33 8,.b 34 .add 32 33,.m 35 1,.b 36 .rem 34 35,.m 4 36] [4] .e))))))))⟩
theorem Ro:CE Try.prog 85 Fa=true:=by kernel_rfl
def F_:CU:=⟨[.ptr BV],[⟨2,false,.W⟩],(.R [.mv 2 (.i 0)] [0] (.R [.m 4 0,.m 5 0,.n 6 5,.f 7 6 2,.l 8 7,.bin 9 .mul 8 (.i 6364136223846793005),.bin 10 .add 9 (.i 1442695040888963407),.n 11 4,.f 12 11 2,.store 12 10 1 false] [0] (.s (.D 13 [(5,[]),(10,[4,9])] (.tk 13 [.m 3 24,.bin 24 .and 23 (.i 255),.b 23 .xor 17 22,.bin 22 .shr 21 (.c (.int .u64 45)),.l 21 20,.f 20 19 2,.n 19 18,.m 18 0,.bin 17 .shr 16 (.c (.int .u64 33)),.l 16 15,.f 15 14 2,.n 14 13,.m 13 0] .z) [0,3]) (.seqc [3] (.s (.D 10 [(4,[]),(9,[3,8])] (.tk 10 [.b 34 .lss 28 33,.len 33 false 32,.l 32 31,.f 31 30 0,.n 30 29,.m 29 0,.l 28 27,.f 27 26 1,.n 26 25,.m 25 0] .z) [0,3,34]) (.cond 34 (.s (.D 15 [(1,[]),(5,[]),(9,[4,8]),(12,[0,11])] (.tk 15 [.m 3 48,.bin 48 .and 47 (.i 255),.b 47 .add 35 46,.cvi 46 .i64 45,.l 45 44,.idx 44 1 39 43,.l 43 42,.f 42 41 1,.n 41 40,.m 40 0,.l 39 38,.f 38 37 0,.n 37 36,.m 36 0,.m 35 3] .z) [0,3]) (.r [.m 49 0,.m 50 0,.n 51 50,.f 52 51 1,.l 53 52,.bin 54 .add 53 (.i 1),.n 55 49,.f 56 55 1,.store 56 54 1 false] [3])) .k)) (.R [.m 57 3,.m 2 57] [2] .e)))))⟩
theorem S8:CE Try.prog 87 F_=true:=by kernel_rfl
def Mb:AO:=(.s (.R [.m 6 5,.m 7 0,.len 8 false 7,.b 9 .lss 6 8] [0,1,5,9] (.cond 9 .k (.exit 0))) (.s (.b 1 [0,1,5] (.R [.m 12 0,.m 13 5,.idx 14 1 12 13,.l 15 14,.m 16 1,.b 17 .eql 15 16] [0,1,5,17] (.cond 17 (.R [.mv 4 .V] [4] .e) .k))) (.r [.m 10 5,.bin 11 .add 10 (.i 1),.m 5 11] [0,1,5])))
def Mc:AO:=(.R [.mv 4 .F] [4] .e)
def DK:CU:=⟨[.val .S,.val .W],[⟨4,false,.bool⟩],(.R [.mv 4 .F] [0,1] (.s (.R [.mv 5 (.i 0)] [0,1,5] (.b 0 [] (.loop [0,1,5] Mb))) Mc))⟩
theorem Uf:CE Try.prog 90 DK=true:=by kernel_rfl
def B_:CU:=⟨[.val .S,.val .W],[⟨4,false,.bool⟩],(.R [.mv 4 .F] [0,1] (.R [.m 5 0,.m 6 1,.cl 7 [5,6] Lf,.bin 8 .geq 7 (.i 0),.m 4 8] [4] .e))⟩
theorem Jf:CE Try.prog 93 B_=true:=by kernel_rfl
def Jv:AO:=(.s (.R [.f 21 2 0,.l 22 21,.bin 23 .eql 22 (.i 1)] [2,23] (.cond 23 (.R [.f 24 2 3,.l 25 24,.len 26 true 25,.cx (some 27) [26,.c (.int .i64 1),.c (.int .i64 40)] Bm,.m 4 27] [4] .e) .k)) (.R [.f 28 2 3,.l 29 28,.bin 30 .eql 29 (.c (.str ⟨#[]⟩)),.m 4 30] [4] .e))
def DC:CU:=⟨[.val AM,.val .W],[⟨4,false,.bool⟩],(.R [.box 2 0 false,.mv 4 .F] [1,2] (.s (.R [.f 5 2 0,.l 6 5,.cx (some 7) [6,.c (.int .i64 1),.c (.int .i64 4)] Bm,.un 8 .not 7,.m 9 8,.sc 9 false [.f 10 2 1,.l 11 10,.m 12 1,.cx (some 13) [11,.c (.int .i64 1),12] Bm,.un 14 .not 13] 15 .V 14,.m 16 15,.sc 16 false [.f 17 2 2,.l 18 17,.bin 19 .lss 18 (.i 0)] 20 .V 19] [2,20] (.cond 20 (.R [.mv 4 .F] [4] .e) .k)) Jv))⟩
theorem Rp:CE Try.prog 124 DC=true:=by kernel_rfl
def Gs:CU:=⟨[.val .bool],[⟨2,false,.W⟩],(.R [.mv 2 (.i 0)] [0] (.s (.R [.m 3 0] [3] (.cond 3 (.R [.mv 2 (.i 0)] [2] .e) .k)) (.R [.mv 2 (.i 1)] [2] .e)))⟩
theorem Ta:CE Try.prog 125 Gs=true:=by kernel_rfl
def C0:CU:=⟨[.ptr Ab,.val AM],[⟨4,false,.bool⟩],(.R [.box 3 1 false,.mv 4 .F] [0,3] (.s (.R [.f 7 3 0,.l 8 7,.bin 9 .eql 8 (.i 1)] [0,3,9] (.cond 9 (.R [.m 10 0,.ls 11 3 4,.cl 12 [10,11] Lg,.m 4 12] [4] .e) .k)) (.s (.R [.m 13 0,.n 14 13,.f 15 14 2,.l 16 15,.len 17 false 16,.bin 18 .eql 17 (.i 0)] [0,3,18] (.cond 18 (.R [.mv 4 .F] [4] .e) .k)) (.s (.D 9 [(2,[]),(7,[1,6])] (.tk 9 [.m 5 26,.b 26 .rem 20 25,.len 25 false 24,.l 24 23,.f 23 22 2,.n 22 21,.m 21 0,.l 20 19,.f 19 3 2] .z) [0,3,5]) (.R [.m 27 0,.n 28 27,.f 29 28 2,.l 30 29,.m 31 5,.idx 32 6 30 31,.ls 33 32 6,.al 6 AB,.store 6 33 6 false] [0,3,5,6] (.s (.R [.f 34 3 0,.l 35 34,.bin 36 .eql 35 (.i 4)] [0,3,5,6,36] (.cond 36 (.s (.D 11 [(1,[]),(5,[]),(7,[4,6]),(8,[0,7])] (.tk 6 [.ls 42 6 6,.l 41 40,.f 40 39 2,.n 39 38,.m 38 0,.m 37 0] (.O 6 (.blst 43 AB [42]) false [] (.O 7 (.app 44 183 AB 41 43) false [] (.tk 10 [.f 46 45 2,.n 45 37] (.O 10 (.store 46 44 1 false) false [] .z))))) []) (.R [.mv 4 .V] [4] .e)) .k)) (.R [.m 47 0,.m 48 0,.n 49 48,.f 50 49 2,.l 51 50,.m 52 5,.m 53 5,.bin 54 .add 53 (.i 1),.cl 55 [51,52,54] FT,.n 56 47,.f 57 56 2,.store 57 55 1 false] [0,3,6] (.R [.f 58 3 0,.l 59 58,.bin 60 .eql 59 (.i 3),.m 61 60,.sc 61 false [.m 62 0,.ls 63 6 6,.cl 64 [62,63] MZ] 65 .V 64,.m 4 65] [4] .e))))))))⟩
theorem ME:CE Try.prog 126 C0=true:=by kernel_rfl
def Ky:AO:=(.R [.ls 59 10 4,.cl 60 [6,59] Po] [0,4,5,6,8,9,10] (.r [.f 61 5 2,.l 62 61,.ls 63 10 4,.blst 64 AM [63],.app 65 83 AM 62 64,.f 66 5 2,.store 66 65 1 false] [0,4,5,6,8,9]))
def Kz:AO:=(.seqc [0,4,5,6,8,9,10] (.R [.f 53 10 0,.l 54 53,.bin 55 .eql 54 (.i 1)] [0,4,5,6,8,9,10,55] (.cond 55 (.r [.m 56 0,.cl 57 [56] Ri,.f 58 10 3,.store 58 57 1 false] [0,4,5,6,8,9,10]) .k)) Ky)
def K3:AO:=(.seqc [0,4,5,6,8,9,10] (.R [.f 48 6 2,.l 49 48,.len 50 false 49,.bin 51 .eql 50 (.i 0)] [0,4,5,6,8,9,10,51] (.cond 51 (.r [.f 52 10 0,.store 52 (.i 1) 1 false] [0,4,5,6,8,9,10]) .k)) Kz)
def K4:AO:=(.r [.m 35 9,.bin 36 .add 35 (.i 1),.m 9 36] [0,4,5,6,8,9])
def Jw:AO:=(.s (.R [.m 32 9,.m 33 8,.b 34 .lss 32 33] [0,4,5,6,8,9,34] (.cond 34 .k (.exit 0))) (.s (.b 1 [0,4,5,6,8,9] (.s (.D 13 [(1,[]),(2,[0,1]),(3,[]),(4,[]),(6,[2,3,5]),(8,[]),(9,[6,8]),(10,[7,9]),(11,[]),(12,[10,11])] (.tk 1 [.m 37 0] (.tk 6 [.l 42 41,.f 41 5 1,.m 40 0] (.tk 9 [.m 45 0] (.O 1 (.blst 38 .W [.c (.int .i64 1),.c (.int .i64 2),.c (.int .i64 2),.c (.int .i64 2),.c (.int .i64 2),.c (.int .i64 2),.c (.int .i64 2),.c (.int .i64 2),.c (.int .i64 2),.c (.int .i64 3),.c (.int .i64 4)]) false [(11,.al 10 AM)] (.O 2 (.cl 39 [37,38] Pp) false [(11,.al 10 AM)] (.O 6 (.cl 43 [40,42] DB) false [(11,.al 10 AM)] (.tk 8 [.bin 44 .add (.i 1) 43] (.O 9 (.cx (some 46) [45,.c (.int .i64 12)] DB) false [(11,.al 10 AM)] (.tk 11 [.bu 47 AM [(0,1,39),(1,1,44),(2,1,46)]] (.O 11 (.al 10 AM) true [] (.O 12 (.store 10 47 4 false) false [] .z))))))))))) [0,4,5,6,8,9,10]) K3)) K4))
def Jx:AO:=(.R [.ls 67 5 3,.store 4 67 3 false] [4] .e)
def BW:CU:=⟨[.ptr BV,.val (.slice (.int .u8))],[⟨4,true,OS⟩],(.R [.al 4 MX] [0,1,4] (.R [.m 11 0,.cx (some 12) [11,.c (.int .i64 5)] DB,.bin 13 .add (.i 1) 12,.m 14 0,.cx (some 15) [14,.c (.int .i64 3)] DB,.bin 16 .add (.i 1) 15,.build 17 [.int .i64 0,.int .i64 0,.nil] [(0,1,13),(1,1,16)],.al 5 MX,.store 5 17 3 false] [0,1,4,5] (.R [.f 19 5 0,.l 20 19,.f 21 5 1,.l 22 21,.cl 23 [20,22] Js,.m 18 23,.ext 24 18 0,.ext 25 18 1,.al 6 AJ,.store 6 24 4 false,.m 7 25] [0,1,4,5,6] (.R [.m 26 1,.len 27 false 26,.bin 28 .quo 27 (.i 3),.bin 29 .add (.i 20) 28,.m 8 29] [0,4,5,6,8] (.seqc [0,4,5,6,8] (.R [.m 30 8,.bin 31 .gtr 30 (.i 79)] [0,4,5,6,8,31] (.cond 31 (.r [.mv 8 (.i 79)] [0,4,5,6,8]) .k)) (.s (.R [.mv 9 (.i 0)] [0,4,5,6,8,9] (.b 0 [4,5] (.loop [0,4,5,6,8,9] Jw))) Jx))))))⟩
theorem S9:CE Try.prog 127 BW=true:=by kernel_rfl
def Md:AO:=(.s (.R [.f 21 3 0,.l 22 21,.bin 23 .eql 22 (.i 1)] [3,23] (.cond 23 (.R [.f 24 3 3,.l 25 24,.len 26 true 25,.cx (some 27) [26,.c (.int .i64 1),.c (.int .i64 40)] DJ,.m 4 27] [4] .e) .k)) (.R [.f 28 3 3,.l 29 28,.bin 30 .eql 29 (.c (.str ⟨#[]⟩)),.m 4 30] [4] .e))
def E9:CU:=⟨[.val .W,.val AM],[⟨4,false,.bool⟩],(.R [.box 3 1 false,.mv 4 .F] [0,3] (.s (.R [.f 5 3 0,.l 6 5,.cx (some 7) [6,.c (.int .i64 1),.c (.int .i64 4)] DJ,.un 8 .not 7,.m 9 8,.sc 9 false [.f 10 3 1,.l 11 10,.m 12 0,.cx (some 13) [11,.c (.int .i64 1),12] DJ,.un 14 .not 13] 15 .V 14,.m 16 15,.sc 16 false [.f 17 3 2,.l 18 17,.bin 19 .lss 18 (.i 0)] 20 .V 19] [3,20] (.cond 20 (.R [.mv 4 .F] [4] .e) .k)) Md))⟩
theorem Ug:CE Try.prog 128 E9=true:=by kernel_rfl
def If:CU:=⟨[.ptr AJ,.val AM],[⟨4,false,.W⟩],(.R [.box 3 1 false,.mv 4 (.i 0)] [0,3] (.s (.R [.f 7 3 0,.l 8 7,.bin 9 .eql 8 (.i 1)] [0,3,9] (.cond 9 (.R [.m 10 0,.ls 11 3 4,.cl 12 [10,11] Pq,.m 4 12] [4] .e) .k)) (.s (.R [.m 13 0,.n 14 13,.f 15 14 2,.l 16 15,.len 17 false 16,.bin 18 .eql 17 (.i 0)] [0,3,18] (.cond 18 (.R [.mv 4 (.i 1)] [4] .e) .k)) (.s (.D 9 [(2,[]),(7,[1,6])] (.tk 9 [.m 5 26,.b 26 .rem 20 25,.len 25 false 24,.l 24 23,.f 23 22 2,.n 22 21,.m 21 0,.l 20 19,.f 19 3 2] .z) [0,3,5]) (.R [.m 27 0,.n 28 27,.f 29 28 2,.l 30 29,.m 31 5,.idx 32 6 30 31,.ls 33 32 6,.al 6 AB,.store 6 33 6 false] [0,3,5,6] (.s (.R [.f 34 3 0,.l 35 34,.bin 36 .eql 35 (.i 4)] [0,3,5,6,36] (.cond 36 (.R [.m 37 0,.ls 38 6 6,.cl 39 [37,38] Gq] [] (.R [.mv 4 (.i 0)] [4] .e)) .k)) (.s (.D 20 [(1,[]),(2,[]),(6,[]),(7,[5,6]),(8,[1,7]),(9,[]),(13,[]),(15,[12,14]),(16,[8,15]),(17,[0,16])] (.tk 1 [.m 40 0] (.tk 8 [.sl 47 6 45 none (some 46),.m 46 5,.l 45 44,.f 44 43 2,.n 43 42,.m 42 0] (.tk 16 [.sl 55 6 52 (some 54) none,.bin 54 .add 53 (.i 1),.m 53 5,.l 52 51,.f 51 50 2,.n 50 49,.m 49 0] (.O 1 (.brow 41 183 AB []) false [] (.O 8 (.app 48 183 AB 41 47) false [] (.O 16 (.app 56 183 AB 48 55) false [] (.tk 19 [.f 58 57 2,.n 57 40] (.O 19 (.store 58 56 1 false) false [] .z)))))))) [0,3,6]) (.s (.R [.f 59 3 0,.l 60 59,.bin 61 .eql 60 (.i 3)] [0,6,61] (.cond 61 (.R [.mv 4 (.i 0)] [4] .e) .k)) (.R [.m 62 0,.ls 63 6 6,.cl 64 [62,63] Rj,.m 4 64] [4] .e)))))))))⟩
theorem Uh:CE Try.prog 129 If=true:=by kernel_rfl
def K5:AO:=(.s (.R [.m 19 4,.f 20 1 1,.l 21 20,.len 22 false 21,.b 23 .lss 19 22] [1,2,3,4,23] (.cond 23 .k (.exit 0))) (.s (.b 1 [1,2,3,4] (.R [.f 26 1 1,.l 27 26,.m 28 4,.idx 29 7 27 28,.ls 30 29 7,.al 5 Cw,.store 5 30 7 false] [1,2,3,4,5] (.R [.brow 31 183 AB [],.f 32 5 3,.l 33 32,.app 34 183 AB 31 33,.f 35 5 3,.store 35 34 1 false] [1,2,3,4,5] (.R [.brow 36 3 .W [],.f 37 5 5,.l 38 37,.app 39 3 .W 36 38,.f 40 5 5,.store 40 39 1 false] [1,2,3,4,5] (.r [.f 41 3 1,.l 42 41,.ls 43 5 7,.blst 44 Cw [43],.app 45 89 Cw 42 44,.f 46 3 1,.store 46 45 1 false] [1,2,3,4]))))) (.r [.m 24 4,.bin 25 .add 24 (.i 1),.m 4 25] [1,2,3,4])))
def K6:AO:=(.R [.ls 47 3 4,.store 2 47 4 false] [2] .e)
def CX:CU:=⟨[.val AJ],[⟨2,true,AJ⟩],(.R [.box 1 0 true,.al 2 Bl] [1,2] (.s (.D 15 [(1,[]),(3,[0,2]),(4,[]),(5,[]),(7,[3,4,6]),(8,[]),(9,[]),(11,[7,8,10]),(13,[]),(14,[12,13])] (.tk 3 [.l 8 7,.f 7 1 0] (.tk 7 [.l 12 11,.f 11 1 2] (.tk 11 [.l 16 15,.f 15 1 3] (.O 0 (.brow 6 94 AK []) false [(4,.brow 10 183 AB []),(8,.brow 14 9 .str []),(13,.al 3 Bl)] (.O 3 (.app 9 94 AK 6 8) false [(4,.brow 10 183 AB []),(8,.brow 14 9 .str []),(13,.al 3 Bl)] (.O 4 (.brow 10 183 AB []) true [(8,.brow 14 9 .str []),(13,.al 3 Bl)] (.O 7 (.app 13 183 AB 10 12) false [(8,.brow 14 9 .str []),(13,.al 3 Bl)] (.O 8 (.brow 14 9 .str []) true [(13,.al 3 Bl)] (.O 11 (.app 17 9 .str 14 16) false [(13,.al 3 Bl)] (.tk 13 [.build 18 [.nil,.nil,.nil,.nil] [(0,1,9),(2,1,13),(3,1,17)]] (.O 13 (.al 3 Bl) true [] (.O 14 (.store 3 18 4 false) false [] .z)))))))))))) [1,2,3]) (.s (.R [.mv 4 (.i 0)] [1,2,3,4] (.b 0 [2,3] (.loop [1,2,3,4] K5))) K6)))⟩
theorem S_:CE Try.prog 130 CX=true:=by kernel_rfl
def EY:CU:=⟨[.ptr BV,.val .S],[⟨4,false,.W⟩],(.R [.mv 4 (.i 0)] [0,1] (.R [.m 5 1,.m 6 0,.m 7 1,.len 8 false 7,.cl 9 [6,8] DB,.idx 10 1 5 9,.l 11 10,.m 4 11] [4] .e))⟩
theorem Pw:CE Try.prog 143 EY=true:=by kernel_rfl
def FU:AO:=(.R [.b 9 .lss 8 7] [0,1,7,8,9] (.s (.cond 9 .k (.exit 0)) (.s (.b 1 [0,1,7,8] (.R [.m 10 8,.m 5 10] [0,1,5,7,8] (.R [.m 11 1,.m 12 0,.m 13 5,.idx 14 1 12 13,.l 15 14,.b 16 .eql 11 15] [0,1,5,7,8,16] (.cond 16 (.R [.m 17 5,.m 4 17] [4] .e) .k)))) (.r [.bin 18 .add 8 (.i 1),.m 8 18] [0,1,7,8]))))
def FV:AO:=(.R [.mv 4 (.c (.int .i64 (-1)))] [4] .e)
def BE:CU:=⟨[.val .S,.val .W],[⟨4,false,.W⟩],(.R [.mv 4 (.i 0)] [0,1] (.s (.R [.m 6 0,.len 7 false 6,.mv 8 (.i 0)] [0,1,7,8] (.b 0 [] (.loop [0,1,7,8] FU))) FV))⟩
theorem Li:CE Try.prog 148 BE=true:=by kernel_rfl
def FW:AO:=(.s (.R [.m 29 6,.bin 30 .gtr 29 (.i 10000)] [0,3,5,6,30] (.cond 30 (.R [.mv 4 .F] [4] .e) .k)) (.s (.D 23 [(1,[]),(2,[]),(3,[]),(4,[]),(5,[]),(6,[]),(8,[0,5]),(11,[1,7,10]),(14,[2,13]),(17,[3,16]),(20,[4,19])] (.tk 10 [.f 40 39 1,.n 39 31,.l 38 37,.f 37 3 3,.m 36 6,.m 35 5,.m 34 5,.m 33 5,.m 32 5,.m 31 5] (.O 10 (.store 40 36 1 false) false [] (.tk 13 [.f 42 41 2,.n 41 32] (.O 13 (.store 42 38 1 false) false [] (.tk 16 [.f 44 43 3,.n 43 33] (.O 16 (.store 44 .z 1 false) false [] (.tk 19 [.f 46 45 4,.n 45 34] (.O 19 (.store 46 .F 1 false) false [] (.tk 22 [.f 48 47 5,.n 47 35] (.O 22 (.store 48 .z 1 false) false [] .z)))))))))) [0,5]) (.R [.m 49 0,.m 50 5,.cx (some 51) [49,50,.c (.int .i64 1),.c (.str ⟨#[]⟩)] Iv] [] (.R [.mv 4 .V] [4] .e))))
def Bh:CU:=⟨[.ptr Ab,.val AM],[⟨4,false,.bool⟩],(.R [.box 3 1 false,.mv 4 .F] [0,3] (.s (.D 9 [(4,[]),(7,[3,6])] (.tk 9 [.m 5 14,.idx 14 7 10 13,.bin 13 .sub 12 (.i 1),.l 12 11,.f 11 3 1,.l 10 9,.f 9 8 1,.n 8 7,.m 7 0] .z) [0,3,5]) (.R [.m 15 5,.n 16 15,.f 17 16 1,.l 18 17,.bin 19 .add 18 (.i 10),.m 6 19] [0,3,5,6] (.seqc [0,3,5,6] (.R [.m 20 5,.n 21 20,.f 22 21 1,.l 23 22,.bin 24 .eql 23 (.i 0)] [0,3,5,6,24] (.cond 24 (.r [.m 25 5,.n 26 25,.f 27 26 0,.l 28 27,.m 6 28] [0,3,5,6]) .k)) FW))))⟩
theorem Lj:CE Try.prog 154 Bh=true:=by kernel_rfl
def GA:AO:=(.s (.s (.D 9 [(2,[]),(7,[1,6])] (.tk 7 [.len 23 false 22,.l 22 21,.f 21 20 1,.n 20 19,.m 19 0,.l 18 17,.f 17 3 2] (.O 7 (.cx (some 24) [18,.c (.int .i64 1),23] Bm) false [] (.tk 9 [.un 25 .not 24] .z))) [0,3,25]) (.cond 25 (.R [.mv 4 .F] [4] .e) .k)) (.s (.D 9 [(4,[]),(7,[3,6])] (.tk 9 [.m 5 33,.idx 33 7 29 32,.bin 32 .sub 31 (.i 1),.l 31 30,.f 30 3 2,.l 29 28,.f 28 27 1,.n 27 26,.m 26 0] .z) [0,3,5]) (.s (.R [.f 34 3 0,.l 35 34,.bin 36 .eql 35 (.i 2)] [0,3,5,36] (.cond 36 (.R [.m 37 0,.m 38 5,.ls 39 3 6,.cl 40 [37,38,39] Kw,.m 4 40] [4] .e) .k)) (.R [.m 41 0,.m 42 5,.ls 43 3 6,.cl 44 [41,42,43] Ma,.m 4 44] [4] .e))))
def Bs:CU:=⟨[.ptr Ab,.val AB],[⟨4,false,.bool⟩],(.R [.box 3 1 false,.mv 4 .F] [0,3] (.s (.R [.f 6 3 0,.l 7 6,.bin 8 .eql 7 (.i 1),.m 9 8,.sc 9 false [.f 10 3 0,.l 11 10,.bin 12 .eql 11 (.i 3)] 13 .V 12] [0,3,13] (.cond 13 (.R [.m 14 0,.ls 15 3 6,.cl 16 [14,15] NR,.m 4 16] [4] .e) .k)) GA))⟩
theorem Me:CE Try.prog 156 Bs=true:=by kernel_rfl
def Fb:CU:=⟨[.ptr BV],[⟨2,false,.str⟩],(.R [.mv 2 (.c (.str ⟨#[]⟩))] [0] (.R [.m 3 0,.blst 4 .str [.c (.str ⟨#[120]⟩),.c (.str ⟨#[121]⟩),.c (.str ⟨#[122]⟩),.c (.str ⟨#[49,44,50]⟩),.c (.str ⟨#[50,44,51]⟩)],.cl 5 [3,4] S4,.m 2 5] [2] .e))⟩
theorem Rq:CE Try.prog 157 Fb=true:=by kernel_rfl
def IH:AO:=(.s (.R [.m 35 7,.m 36 0,.n 37 36,.f 38 37 0,.l 39 38,.len 40 false 39,.b 41 .leq 35 40] [0,3,6,7,41] (.cond 41 .k (.exit 0))) (.s (.b 1 [0,3,6,7] (.r [.m 44 0,.f 45 3 1,.l 46 45,.m 47 7,.m 48 6,.bu 49 AB [(0,1,.c (.int .i64 1)),(1,1,46),(2,1,47),(3,1,48)],.cl 50 [44,49] Gq] [0,3,6,7])) (.r [.m 42 7,.bin 43 .add 42 (.i 1),.m 7 43] [0,3,6,7])))
def II:AO:=(.R [.mv 4 (.i 0)] [4] .e)
def HB:AO:=(.s (.R [.m 25 6,.bin 26 .gtr 25 (.i 10000)] [0,3,6,26] (.cond 26 (.R [.mv 4 (.i 1)] [4] .e) .k)) (.R [.m 27 0,.f 28 3 1,.l 29 28,.m 30 6,.f 31 3 3,.l 32 31,.bu 33 Cw [(0,1,29),(1,1,30),(2,1,32)],.cl 34 [27,33] Kb] [0,3,6] (.s (.R [.mv 7 (.i 1)] [0,3,6,7] (.b 0 [] (.loop [0,3,6,7] IH))) II)))
def BP:CU:=⟨[.ptr AJ,.val AM],[⟨4,false,.W⟩],(.R [.box 3 1 false,.mv 4 (.i 0)] [0,3] (.s (.D 11 [(4,[]),(7,[3,6]),(9,[]),(10,[8,9])] (.tk 9 [.ls 16 15 7,.idx 15 7 11 14,.bin 14 .sub 13 (.i 1),.l 13 12,.f 12 3 1,.l 11 10,.f 10 9 1,.n 9 8,.m 8 0] (.O 9 (.al 5 Cw) false [] (.O 10 (.store 5 16 7 false) false [] .z))) [0,3,5]) (.R [.f 17 3 1,.l 18 17,.m 6 18] [0,3,5,6] (.seqc [0,3,6] (.R [.f 19 5 1,.l 20 19,.bin 21 .gtr 20 (.i 0)] [0,3,5,6,21] (.cond 21 (.r [.f 22 5 1,.l 23 22,.bin 24 .add 23 (.i 10),.m 6 24] [0,3,6]) .k)) HB))))⟩
theorem Px:CE Try.prog 158 BP=true:=by kernel_rfl
def Gt:CU:=⟨[.ptr AJ,.val AB],[],(.R [.box 3 1 false] [0,3] (.D 13 [(1,[]),(2,[]),(6,[1,5]),(7,[]),(9,[6,8]),(10,[0,9])] (.tk 1 [.m 4 0] (.tk 6 [.l 9 8,.f 8 7 2,.n 7 6,.m 6 0] (.tk 8 [.ls 11 3 6] (.O 1 (.brow 5 183 AB []) false [(8,.blst 12 AB [11])] (.O 6 (.app 10 183 AB 5 9) false [(8,.blst 12 AB [11])] (.O 8 (.blst 12 AB [11]) true [] (.O 9 (.app 13 183 AB 10 12) false [] (.tk 12 [.f 15 14 2,.n 14 4] (.O 12 (.store 15 13 1 false) false [] .z))))))))) []))⟩
theorem Tb:CE Try.prog 159 Gt=true:=by kernel_rfl
def I4:AO:=(.s (.D 20 [(4,[]),(7,[3,6]),(9,[]),(10,[8,9]),(13,[11]),(14,[11]),(15,[]),(16,[]),(17,[12,15,16]),(18,[13,17]),(19,[14,18])] (.tk 10 [.ls 31 3 6,.ls 30 29 3,.idx 29 3 25 28,.bin 28 .sub 27 (.i 1),.l 27 26,.f 26 3 2,.l 25 24,.f 24 23 0,.n 23 22,.m 22 0] (.O 10 (.cl 32 [30,31] Rl) false [(15,.al 5 AK),(16,.al 6 AB)] (.tk 15 [.ext 35 21 2,.ext 34 21 1,.ext 33 21 0,.m 21 32] (.O 15 (.al 5 AK) true [(16,.al 6 AB)] (.O 16 (.al 6 AB) true [] (.O 17 (.store 5 33 3 false) false [] (.O 18 (.store 6 34 6 false) false [] (.tk 20 [.m 7 35] .z)))))))) [0,3,5,6,7]) (.s (.R [.m 36 7,.un 37 .not 36] [0,3,5,6,37] (.cond 37 (.R [.mv 4 (.i 1)] [4] .e) .k)) (.R [.brow 38 94 AK [],.m 39 0,.n 40 39,.f 41 40 0,.l 42 41,.app 43 94 AK 38 42,.m 8 43] [0,3,5,6,8] (.R [.m 44 8,.f 45 3 2,.l 46 45,.bin 47 .sub 46 (.i 1),.ls 48 5 3,.idx 49 3 44 47,.store 49 48 3 false] [0,6,8] (.R [.m 50 0,.m 51 8,.n 52 50,.f 53 52 0,.store 53 51 1 false] [0,6] (.R [.m 54 0,.ls 55 6 6,.cl 56 [54,55] Gq] [] (.R [.mv 4 (.i 0)] [4] .e)))))))
def DD:CU:=⟨[.ptr AJ,.val AB],[⟨4,false,.W⟩],(.R [.box 3 1 false,.mv 4 (.i 0)] [0,3] (.s (.R [.f 9 3 0,.l 10 9] [0,3,10] (.b 0 [0,3] (.R [.bin 12 .eql 10 (.i 2),.m 11 12] [0,3,10,11] (.cond 11 (.R [.m 13 0,.ls 14 3 6,.cl 15 [13,14] Pr,.m 4 15] [4] .e) (.R [.bin 17 .eql 10 (.i 4),.m 16 17] [0,3,16] (.cond 16 (.R [.m 18 0,.ls 19 3 6,.cl 20 [18,19] Rk,.m 4 20] [4] .e) .k)))))) I4))⟩
theorem Rr:CE Try.prog 160 DD=true:=by kernel_rfl
def GB:CU:=⟨[.ptr BV,.val (.slice .str)],[⟨4,false,.str⟩],(.R [.mv 4 (.c (.str ⟨#[]⟩))] [0,1] (.R [.m 5 1,.m 6 0,.m 7 1,.len 8 false 7,.cl 9 [6,8] DB,.idx 10 1 5 9,.l 11 10,.m 4 11] [4] .e))⟩
theorem TA:CE Try.prog 166 GB=true:=by kernel_rfl
def HC:AO:=(.R [.b 15 .lss 14 13] [0,1,2,3,13,14,15] (.s (.cond 15 .k (.exit 0)) (.s (.b 1 [0,1,2,3,13,14] (.R [.m 16 14,.m 8 16] [0,1,2,3,8,13,14] (.D 23 [(1,[]),(5,[]),(6,[]),(10,[]),(12,[]),(16,[]),(17,[5,9,11,15,16]),(19,[4,18]),(20,[0,19])] (.tk 18 [.bu 34 AB [(0,1,22),(1,1,26),(2,1,28),(3,1,32),(5,1,33)],.m 33 3,.l 32 31,.f 31 30 1,.n 30 29,.m 29 1,.bin 28 .add 27 (.i 1),.m 27 8,.l 26 25,.f 25 24 0,.n 24 23,.m 23 1,.m 22 2,.l 21 20,.f 20 19 2,.n 19 18,.m 18 0,.m 17 0] (.O 18 (.blst 35 AB [34]) false [] (.O 19 (.app 36 183 AB 21 35) false [] (.tk 22 [.f 38 37 2,.n 37 17] (.O 22 (.store 38 36 1 false) false [] .z))))) [0,1,2,3,13,14]))) (.r [.bin 39 .add 14 (.i 1),.m 14 39] [0,1,2,3,13,14]))))
def Bo:CU:=⟨[.ptr Ab,.ept,.val .W,.val .str],[],(.R [.m 9 0,.n 10 9,.f 11 10 0,.l 12 11,.len 13 false 12,.mv 14 (.i 0)] [0,1,2,3,13,14] (.b 0 [] (.loop [0,1,2,3,13,14] HC)))⟩
theorem OV:CE Try.prog 169 Bo=true:=by kernel_rfl
def Dm:CU:=⟨[.ptr Ab,.val AB],[⟨4,false,.bool⟩],(.R [.box 3 1 false,.mv 4 .F] [0,3] (.s (.s (.D 9 [(2,[]),(7,[1,6])] (.tk 7 [.len 14 false 13,.l 13 12,.f 12 11 0,.n 11 10,.m 10 0,.l 9 8,.f 8 3 2] (.O 7 (.cx (some 15) [9,.c (.int .i64 1),14] Bm) false [] (.tk 9 [.un 16 .not 15] .z))) [0,3,16]) (.cond 16 (.R [.mv 4 .F] [4] .e) .k)) (.s (.D 20 [(4,[]),(7,[3,6]),(9,[]),(10,[8,9]),(13,[11]),(14,[11]),(15,[]),(16,[]),(17,[12,15,16]),(18,[13,17]),(19,[14,18])] (.tk 10 [.ls 27 3 6,.ls 26 25 3,.idx 25 3 21 24,.bin 24 .sub 23 (.i 1),.l 23 22,.f 22 3 2,.l 21 20,.f 20 19 0,.n 19 18,.m 18 0] (.O 10 (.cl 28 [26,27] Rm) false [(15,.al 5 AK),(16,.al 6 AB)] (.tk 15 [.ext 31 17 2,.ext 30 17 1,.ext 29 17 0,.m 17 28] (.O 15 (.al 5 AK) true [(16,.al 6 AB)] (.O 16 (.al 6 AB) true [] (.O 17 (.store 5 29 3 false) false [] (.O 18 (.store 6 30 6 false) false [] (.tk 20 [.m 7 31] .z)))))))) [0,3,5,6,7]) (.s (.D 10 [(4,[]),(7,[]),(8,[3,6,7])] (.tk 9 [.idx 40 3 35 38,.ls 39 5 3,.bin 38 .sub 37 (.i 1),.l 37 36,.f 36 3 2,.l 35 34,.f 34 33 0,.n 33 32,.m 32 0] (.O 9 (.store 40 39 3 false) false [] .z)) [0,6,7]) (.seqc [7] (.R [.m 41 7] [0,6,7,41] (.cond 41 (.D 11 [(1,[]),(5,[]),(7,[4,6]),(8,[0,7])] (.tk 6 [.ls 47 6 6,.l 46 45,.f 45 44 2,.n 44 43,.m 43 0,.m 42 0] (.O 6 (.blst 48 AB [47]) false [] (.O 7 (.app 49 183 AB 46 48) false [] (.tk 10 [.f 51 50 2,.n 50 42] (.O 10 (.store 51 49 1 false) false [] .z))))) [7]) .k)) (.R [.m 52 7,.m 4 52] [4] .e))))))⟩
theorem NS:CE Try.prog 170 Dm=true:=by kernel_rfl
def FD:AO:=(.s (.D 11 [(1,[]),(5,[]),(7,[4,6]),(8,[0,7])] (.tk 6 [.ls 35 5 6,.l 34 33,.f 33 32 3,.n 32 31,.m 31 1,.m 30 1] (.O 6 (.blst 36 AB [35]) false [] (.O 7 (.app 37 183 AB 34 36) false [] (.tk 10 [.f 39 38 3,.n 38 30] (.O 10 (.store 39 37 1 false) false [] .z))))) [0,1]) (.seqc [] (.s (.D 12 [(5,[]),(11,[4,10])] (.tk 10 [.len 49 false 48,.l 48 47,.f 47 46 0,.n 46 45,.m 45 0,.len 44 false 43,.l 43 42,.f 42 41 3,.n 41 40,.m 40 1] (.O 10 (.cl 50 [49] N6) false [] (.tk 12 [.b 51 .eql 44 50] .z))) [0,1,51]) (.cond 51 (.R [.m 52 1,.n 53 52,.f 54 53 4,.store 54 .V 1 false] [0,1] (.s (.D 13 [(1,[]),(5,[]),(9,[4,8]),(10,[0,9])] (.tk 9 [.l 63 62,.f 62 61 2,.n 61 60,.m 60 1,.l 59 58,.f 58 57 3,.n 57 56,.m 56 1,.m 55 1] (.O 9 (.icx 59 true (some 64) [59,63] Qr) false [] (.tk 12 [.f 66 65 2,.n 65 55] (.O 12 (.store 66 64 1 false) false [] .z)))) [0,1]) (.r [.m 67 0,.m 68 1,.m 69 1,.n 70 69,.f 71 70 2,.l 72 71,.cx (some 73) [67,68,.c (.int .i64 3),72] Iv] []))) .k)) (.R [.mv 6 .V] [6] .e)))
def Be:CU:=⟨[.ptr Ab,.ept,.val AB],[⟨6,false,.bool⟩],(.R [.fbox 5 2,.mv 6 .F] [0,1,5] (.R [.m 8 1,.n 9 8,.f 10 9 3,.l 11 10,.clo 12 184 AB 5,.icx 11 true (some 13) [11,12] EI,.m 7 13] [0,1,5,7] (.s (.s (.D 16 [(2,[]),(6,[1,5])] (.tk 8 [.m 21 20,.b 20 .neq 15 19,.l 19 18,.f 18 17 1,.n 17 16,.m 16 1,.l 15 14,.f 14 5 3] (.test 21 (.sk 21 false 4 12 26 (.tk 14 [.m 27 26,.pick 26 21 .V 25] (.sk 27 false 1 15 29 (.tk 16 [.pick 29 27 .V 28] .z)))) (.tg 21 false 12 [.l 25 24,.f 24 23 4,.n 23 22,.m 22 1] (.tk 14 [.m 27 26,.pick 26 21 .V 25] (.test 27 (.sk 27 false 1 15 29 (.tk 16 [.pick 29 27 .V 28] .z)) (.tg 27 false 15 [.m 28 7] (.tk 16 [.pick 29 27 .V 28] .z))))))) [0,1,5,29]) (.cond 29 (.R [.mv 6 .F] [6] .e) .k)) FD)))⟩
theorem K7:CE Try.prog 171 Be=true:=by kernel_rfl
def GC:AO:=(.s (.D 12 [(1,[]),(5,[]),(8,[4,7]),(9,[0,8])] (.tk 7 [.l 29 28,.f 28 5 1,.l 27 26,.f 26 25 5,.n 25 24,.m 24 1,.m 23 1] (.O 7 (.blst 30 .W [29]) false [] (.O 8 (.app 31 3 .W 27 30) false [] (.tk 11 [.f 33 32 5,.n 32 23] (.O 11 (.store 33 31 1 false) false [] .z))))) [0,1]) (.seqc [] (.s (.D 12 [(5,[]),(11,[4,10])] (.tk 10 [.len 43 false 42,.l 42 41,.f 41 40 0,.n 40 39,.m 39 0,.len 38 false 37,.l 37 36,.f 36 35 5,.n 35 34,.m 34 1] (.O 10 (.cl 44 [43] N6) false [] (.tk 12 [.b 45 .eql 38 44] .z))) [0,1,45]) (.cond 45 (.R [.m 46 1,.n 47 46,.f 48 47 6,.store 48 .V 1 false] [0,1] (.D 14 [(1,[]),(5,[]),(10,[4,9]),(11,[0,10])] (.tk 9 [.l 57 56,.f 56 55 2,.n 55 54,.m 54 1,.l 53 52,.f 52 51 3,.n 51 50,.m 50 0,.m 49 0] (.O 9 (.blst 58 .str [57]) false [] (.O 10 (.app 59 9 .str 53 58) false [] (.tk 13 [.f 61 60 3,.n 60 49] (.O 13 (.store 61 59 1 false) false [] .z))))) [])) .k)) (.R [.mv 6 .V] [6] .e)))
def Bt:CU:=⟨[.ptr Ab,.ept,.val AB],[⟨6,false,.bool⟩],(.R [.box 5 2 false,.mv 6 .F] [0,1,5] (.s (.s (.D 16 [(2,[]),(6,[1,5]),(12,[7]),(14,[11,13])] (.tk 8 [.m 14 13,.b 13 .neq 8 12,.l 12 11,.f 11 10 1,.n 10 9,.m 9 1,.l 8 7,.f 7 5 3] (.test 14 (.sk 14 false 7 15 22 (.tk 16 [.pick 22 14 .V 21] .z)) (.tg 14 false 14 [.l 20 19,.f 19 5 1,.l 18 17,.f 17 16 5,.n 16 15,.m 15 1] (.only 14 (some (14,false)) (.icx 18 true (some 21) [18,20] Je) false [] (.tk 16 [.pick 22 14 .V 21] .z))))) [0,1,5,22]) (.cond 22 (.R [.mv 6 .F] [6] .e) .k)) GC))⟩
theorem Mf:CE Try.prog 172 Bt=true:=by kernel_rfl
def Gu:CU:=⟨[.ptr AJ,.val Cw],[],(.R [.box 3 1 false] [0,3] (.R [.brow 5 89 Cw [],.m 6 0,.n 7 6,.f 8 7 1,.l 9 8,.app 10 89 Cw 5 9,.m 4 10] [0,3,4] (.R [.m 11 4,.f 12 3 0,.l 13 12,.bin 14 .sub 13 (.i 1),.ls 15 3 7,.idx 16 7 11 14,.store 16 15 7 false] [0,4] (.r [.m 17 0,.m 18 4,.n 19 17,.f 20 19 1,.store 20 18 1 false] []))))⟩
theorem Tc:CE Try.prog 173 Gu=true:=by kernel_rfl

def IJ:AO:=(.s (.R [.m 26 6,.f 27 5 3,.l 28 27,.len 29 false 28,.b 30 .lss 26 29] [0,3,5,6,30] (.cond 30 .k (.exit 0))) (.s (.b 1 [0,3,5,6] (.s (.D 9 [(2,[]),(3,[1,2]),(6,[]),(8,[5,7])] (.tk 9 [.b 41 .eql 38 40,.l 40 39,.f 39 3 1,.l 38 37,.f 37 36 1,.idx 36 6 34 35,.m 35 6,.l 34 33,.f 33 5 3] .z) [0,3,5,6,41]) (.cond 41 (.R [.mv 4 (.i 1)] [4] .e) .k))) (.r [.m 31 6,.bin 32 .add 31 (.i 1),.m 6 32] [0,3,5,6])))
def HD:AO:=(.s (.R [.m 67 7,.m 68 0,.n 69 68,.f 70 69 0,.l 71 70,.len 72 false 71,.b 73 .leq 67 72] [0,5,7,73] (.cond 73 .k (.exit 2))) (.s (.b 3 [0,5,7] (.r [.m 76 0,.f 77 5 0,.l 78 77,.m 79 7,.f 80 5 1,.l 81 80,.f 82 5 2,.l 83 82,.bu 84 AB [(0,1,.c (.int .i64 3)),(1,1,78),(2,1,79),(3,1,81),(5,1,83)],.cl 85 [76,84] Gq] [0,5,7])) (.r [.m 74 7,.bin 75 .add 74 (.i 1),.m 7 75] [0,5,7])))
def HE:AO:=(.R [.m 86 0,.ls 87 5 7,.cl 88 [86,87] Kb] [] (.R [.mv 4 (.i 0)] [4] .e))
def El:AO:=(.s (.D 9 [(1,[]),(3,[0,2]),(4,[]),(6,[3,5])] (.tk 3 [.l 44 43,.f 43 5 3] (.tk 5 [.ls 46 3 6] (.O 0 (.brow 42 183 AB []) false [(5,.blst 47 AB [46])] (.O 3 (.app 45 183 AB 42 44) false [(5,.blst 47 AB [46])] (.O 5 (.blst 47 AB [46]) true [] (.O 6 (.app 48 183 AB 45 47) false [] (.tk 8 [.f 49 5 3] (.O 8 (.store 49 48 1 false) false [] .z)))))))) [0,5]) (.seqc [0,5] (.s (.D 10 [(3,[]),(9,[2,8])] (.tk 8 [.len 57 false 56,.l 56 55,.f 55 54 0,.n 54 53,.m 53 0,.len 52 false 51,.l 51 50,.f 50 5 3] (.O 8 (.cl 58 [57] N7) false [] (.tk 10 [.b 59 .eql 52 58] .z))) [0,5,59]) (.cond 59 (.R [.f 60 5 4,.store 60 .V 1 false] [0,5] (.R [.f 61 5 3,.l 62 61,.f 63 5 2,.l 64 63,.cl 65 [62,64] Qs,.f 66 5 2,.store 66 65 1 false] [0,5] (.R [.mv 7 (.i 1)] [0,5,7] (.b 2 [0,5] (.loop [0,5,7] HD))))) .k)) HE))
def HF:AO:=(.s (.R [.mv 6 (.i 0)] [0,3,5,6] (.b 0 [0,3,5] (.loop [0,3,5,6] IJ))) El)
def Ad:CU:=⟨[.ptr AJ,.val AB],[⟨4,false,.W⟩],(.R [.box 3 1 false,.mv 4 (.i 0)] [0,3] (.s (.D 11 [(4,[]),(7,[3,6]),(9,[]),(10,[8,9])] (.tk 9 [.ls 16 15 7,.idx 15 7 11 14,.bin 14 .sub 13 (.i 1),.l 13 12,.f 12 3 2,.l 11 10,.f 10 9 1,.n 9 8,.m 8 0] (.O 9 (.al 5 Cw) false [] (.O 10 (.store 5 16 7 false) false [] .z))) [0,3,5]) (.s (.R [.f 17 5 1,.l 18 17,.f 19 3 3,.l 20 19,.b 21 .neq 18 20,.m 22 21,.sc 22 false [.f 23 5 4,.l 24 23] 25 .V 24] [0,3,5,25] (.cond 25 (.R [.mv 4 (.i 1)] [4] .e) .k)) HF)))⟩
theorem Py:CE Try.prog 174 Ad=true:=by kernel_rfl
def Jy:AO:=(.s (.D 10 [(1,[]),(3,[0,2]),(4,[]),(7,[3,6])] (.tk 3 [.l 29 28,.f 28 5 5] (.tk 6 [.l 32 31,.f 31 3 1] (.O 0 (.brow 27 3 .W []) false [(6,.blst 33 .W [32])] (.O 3 (.app 30 3 .W 27 29) false [(6,.blst 33 .W [32])] (.O 6 (.blst 33 .W [32]) true [] (.O 7 (.app 34 3 .W 30 33) false [] (.tk 9 [.f 35 5 5] (.O 9 (.store 35 34 1 false) false [] .z)))))))) [0,5]) (.seqc [0,5] (.s (.D 10 [(3,[]),(9,[2,8])] (.tk 8 [.len 43 false 42,.l 42 41,.f 41 40 0,.n 40 39,.m 39 0,.len 38 false 37,.l 37 36,.f 36 5 5] (.O 8 (.cl 44 [43] N7) false [] (.tk 10 [.b 45 .eql 38 44] .z))) [0,5,45]) (.cond 45 (.R [.f 46 5 6,.store 46 .V 1 false] [0,5] (.D 14 [(1,[]),(2,[]),(6,[1,5]),(7,[]),(10,[6,9]),(11,[0,10])] (.tk 1 [.m 47 0] (.tk 6 [.l 52 51,.f 51 50 3,.n 50 49,.m 49 0] (.tk 9 [.l 55 54,.f 54 5 2] (.O 1 (.brow 48 9 .str []) false [(9,.blst 56 .str [55])] (.O 6 (.app 53 9 .str 48 52) false [(9,.blst 56 .str [55])] (.O 9 (.blst 56 .str [55]) true [] (.O 10 (.app 57 9 .str 53 56) false [] (.tk 13 [.f 59 58 3,.n 58 47] (.O 13 (.store 59 57 1 false) false [] .z))))))))) [0,5])) .k)) (.R [.m 60 0,.ls 61 5 7,.cl 62 [60,61] Kb] [] (.R [.mv 4 (.i 0)] [4] .e))))
def DE:CU:=⟨[.ptr AJ,.val AB],[⟨4,false,.W⟩],(.R [.box 3 1 false,.mv 4 (.i 0)] [0,3] (.s (.D 11 [(4,[]),(7,[3,6]),(9,[]),(10,[8,9])] (.tk 9 [.ls 14 13 7,.idx 13 7 9 12,.bin 12 .sub 11 (.i 1),.l 11 10,.f 10 3 2,.l 9 8,.f 8 7 1,.n 7 6,.m 6 0] (.O 9 (.al 5 Cw) false [] (.O 10 (.store 5 14 7 false) false [] .z))) [0,3,5]) (.s (.R [.f 15 5 1,.l 16 15,.f 17 3 3,.l 18 17,.b 19 .neq 16 18,.m 20 19,.sc 20 false [.f 21 5 5,.l 22 21,.f 23 3 1,.l 24 23,.cl 25 [22,24] Uc] 26 .V 25] [0,3,5,26] (.cond 26 (.R [.mv 4 (.i 1)] [4] .e) .k)) Jy)))⟩
theorem Rs:CE Try.prog 175 DE=true:=by kernel_rfl
def Jz:AO:=(.cond 35 (.R [.f 36 3 3,.l 37 36,.f 38 2 1,.l 39 38,.f 40 2 2,.l 41 40,.bu 42 AK [(0,1,37),(1,1,39),(2,1,41)],.al 7 AK,.store 7 42 3 false] [2,3,4,5,7] (.s (.D 15 [(1,[]),(3,[]),(5,[]),(7,[]),(9,[]),(11,[2,4,6,8,10]),(12,[0]),(13,[11,12])] (.tk 12 [.bu 54 AB [(0,1,.c (.int .i64 2)),(1,1,45),(2,1,47),(3,1,49),(4,1,51),(5,1,53)],.l 53 52,.f 52 2 2,.l 51 50,.f 50 2 1,.l 49 48,.f 48 3 3,.l 47 46,.f 46 3 1,.l 45 44,.f 44 3 2,.ls 43 7 3] (.O 12 (.store 4 43 3 false) false [] (.O 13 (.store 5 54 6 false) false [] (.tk 15 [.mv 6 .V] .z)))) [4,5,6]) .e)) .k)
def J4:AO:=(.cond 64 (.R [.f 65 3 3,.l 66 65,.f 67 3 3,.l 68 67,.f 69 3 5,.l 70 69,.bu 71 AK [(0,1,66),(1,1,68),(2,1,70)],.al 8 AK,.store 8 71 3 false] [3,4,5,8] (.s (.D 13 [(1,[]),(3,[]),(5,[]),(7,[]),(9,[2,4,6,8]),(10,[0]),(11,[9,10])] (.tk 10 [.bu 81 AB [(0,1,.c (.int .i64 4)),(1,1,74),(2,1,76),(3,1,78),(5,1,80)],.l 80 79,.f 79 3 5,.l 78 77,.f 77 3 3,.l 76 75,.f 75 3 1,.l 74 73,.f 73 3 2,.ls 72 8 3] (.O 10 (.store 4 72 3 false) false [] (.O 11 (.store 5 81 6 false) false [] (.tk 13 [.mv 6 .V] .z)))) [4,5,6]) .e)) .k)
def J5:AO:=(.R [.ls 82 2 3,.bu 83 AB [],.store 4 82 3 false,.store 5 83 6 false,.mv 6 .F] [4,5,6] .e)
def GD:AO:=(.s (.R [.f 55 3 0,.l 56 55,.bin 57 .eql 56 (.i 3),.m 58 57,.sc 58 true [.f 59 3 3,.l 60 59,.f 61 2 0,.l 62 61,.b 63 .geq 60 62] 64 63 .F] [2,3,4,5,64] J4) J5)
def J6:AO:=(.s (.R [.f 26 3 0,.l 27 26,.bin 28 .eql 27 (.i 1),.m 29 28,.sc 29 true [.f 30 3 3,.l 31 30,.f 32 2 0,.l 33 32,.b 34 .gtr 31 33] 35 34 .F] [2,3,4,5,35] Jz) GD)
def At:CU:=⟨[.val AK,.val AB],[⟨4,true,AK⟩,⟨5,true,AB⟩,⟨6,false,.bool⟩],(.R [.box 2 0 false,.box 3 1 false,.al 4 AK,.al 5 AB,.mv 6 .F] [2,3,4,5] (.s (.R [.ls 9 2 3,.cl 10 [9] S5,.un 11 .not 10,.m 12 11,.sc 12 false [.f 13 3 3,.l 14 13,.cx (some 15) [14,.c (.int .i64 1),.c (.int .i64 10000)] DJ,.un 16 .not 15] 17 .V 16,.m 18 17,.sc 18 false [.f 19 3 5,.l 20 19,.len 21 true 20,.bin 22 .gtr 21 (.i 40)] 23 .V 22] [2,3,4,5,23] (.cond 23 (.R [.ls 24 2 3,.bu 25 AB [],.store 4 24 3 false,.store 5 25 6 false,.mv 6 .F] [4,5,6] .e) .k)) J6))⟩
theorem Rt:CE Try.prog 176 At=true:=by kernel_rfl
def J7:AO:=(.cond 55 (.s (.D 6 [(2,[]),(4,[1,3])] (.tk 3 [.f 68 7 0,.l 67 66,.f 66 3 5] (.O 3 (.store 68 (.i 4) 1 false) false [] (.tk 5 [.f 69 7 5] (.O 5 (.store 69 67 1 false) false [] .z)))) [2,3,4,5,7]) (.r [.f 70 3 3,.l 71 70,.f 72 3 3,.l 73 72,.f 74 3 5,.l 75 74,.bu 76 AK [(0,1,71),(1,1,73),(2,1,75)],.store 2 76 3 false] [2,4,5,7])) (.R [.ls 32 2 3,.bu 33 AB [],.store 4 32 3 false,.store 5 33 6 false,.mv 6 .F] [4,5,6] .e))
def J8:AO:=(.cond 34 (.s (.D 10 [(2,[]),(4,[]),(6,[1,5]),(8,[3,7])] (.tk 5 [.f 49 7 0,.l 48 47,.f 47 2 2,.l 46 45,.f 45 2 1] (.O 5 (.store 49 (.i 2) 1 false) false [] (.tk 7 [.f 50 7 4] (.O 7 (.store 50 46 1 false) false [] (.tk 9 [.f 51 7 5] (.O 9 (.store 51 48 1 false) false [] .z)))))) [2,3,4,5,7]) (.r [.f 52 3 3,.l 53 52,.f 54 2 0,.store 54 53 1 false] [2,4,5,7])) (.R [.f 56 3 0,.l 57 56,.bin 58 .eql 57 (.i 3),.m 59 58,.sc 59 true [.f 60 3 3,.l 61 60,.f 62 2 0,.l 63 62,.b 64 .geq 61 63] 65 64 .F,.m 55 65] [2,3,4,5,7,55] J7))
def J9:AO:=(.s (.D 5 [(1,[]),(2,[0]),(3,[1,2])] (.tk 2 [.ls 78 7 6,.ls 77 2 3] (.O 2 (.store 4 77 3 false) false [] (.O 3 (.store 5 78 6 false) false [] (.tk 5 [.mv 6 .V] .z)))) [4,5,6]) .e)
def J_:AO:=(.R [.f 25 3 2,.l 26 25,.f 27 3 1,.l 28 27,.f 29 3 3,.l 30 29,.bu 31 AB [(1,1,26),(2,1,28),(3,1,30)],.al 7 AB,.store 7 31 6 false] [2,3,4,5,7] (.s (.b 0 [2,4,5,7] (.R [.f 35 3 0,.l 36 35,.bin 37 .eql 36 (.i 1),.m 38 37,.sc 38 true [.f 39 3 3,.l 40 39,.f 41 2 0,.l 42 41,.b 43 .gtr 40 42] 44 43 .F,.m 34 44] [2,3,4,5,7,34] J8)) J9))
def Bg:CU:=⟨[.val AK,.val AB],[⟨4,true,AK⟩,⟨5,true,AB⟩,⟨6,false,.bool⟩],(.R [.box 2 0 false,.box 3 1 false,.al 4 AK,.al 5 AB,.mv 6 .F] [2,3,4,5] (.s (.R [.f 8 3 3,.l 9 8,.cx (some 10) [9,.c (.int .i64 1),.c (.int .i64 10000)] Bm,.un 11 .not 10,.m 12 11,.sc 12 false [.f 13 3 5,.l 14 13,.len 15 true 14,.bin 16 .gtr 15 (.i 40)] 17 .V 16,.m 18 17,.sc 18 false [.ls 19 2 3,.cl 20 [19] MY,.un 21 .not 20] 22 .V 21] [2,3,4,5,22] (.cond 22 (.R [.ls 23 2 3,.bu 24 AB [],.store 4 23 3 false,.store 5 24 6 false,.mv 6 .F] [4,5,6] .e) .k)) J_))⟩
theorem Ru:CE Try.prog 182 Bg=true:=by kernel_rfl
def Au:CU:=⟨[.val (.slice AB),.val (.clo 184 AB)],[⟨4,false,.bool⟩],(.R [.mv 4 .F] [0,1] (.R [.m 5 0,.m 6 1,.cl 7 [5,6] Ei,.bin 8 .geq 7 (.i 0),.m 4 8] [4] .e))⟩
theorem EJ:CE Try.prog 183 Au=true:=by kernel_rfl
def CA:CU:=⟨[.val AB,.val AB],[⟨3,false,.bool⟩],(.R [.box 2 0 false,.mv 3 .F] [1,2] (.R [.f 4 2 1,.l 5 4,.f 6 1 1,.l 7 6,.b 8 .eql 5 7,.m 3 8] [3] .e))⟩
theorem Jg:CE Try.prog 184 CA=true:=by kernel_rfl
def I5:AO:=(.R [.b 13 .lss 12 11] [5,6,10,11,12,13] (.s (.cond 13 .k (.exit 0)) (.s (.b 1 [5,6,10,11,12] (.R [.idx 14 6 10 12,.ls 15 14 6,.al 8 AB,.store 8 15 6 false] [5,6,8,10,11,12] (.R [.f 16 8 0,.l 17 16,.bin 18 .eql 17 (.i 2),.m 19 18,.sc 19 true [.f 20 8 4,.l 21 20,.m 22 5,.b 23 .gtr 21 22] 24 23 .F] [5,6,8,10,11,12,24] (.cond 24 (.D 6 [(2,[]),(4,[1]),(5,[3,4])] (.tk 6 [.m 6 28,.m 5 26,.l 28 27,.f 27 8 5,.l 26 25,.f 25 8 4] .z) [5,6,10,11,12]) .k)))) (.r [.bin 29 .add 12 (.i 1),.m 12 29] [5,6,10,11,12]))))
def I6:AO:=(.R [.m 30 6,.m 4 30] [4] .e)
def Bu:CU:=⟨[.val (.slice AB),.val .str],[⟨4,false,.str⟩],(.R [.mv 4 (.c (.str ⟨#[]⟩))] [0,1] (.R [.m 9 1,.mv 5 (.i 0),.m 6 9] [0,5,6] (.s (.R [.m 10 0,.len 11 false 10,.mv 12 (.i 0)] [5,6,10,11,12] (.b 0 [6] (.loop [5,6,10,11,12] I5))) I6)))⟩
theorem Qx:CE Try.prog 185 Bu=true:=by kernel_rfl
def Gv:CU:=⟨[.val .W],[⟨2,false,.W⟩],(.R [.mv 2 (.i 0)] [0] (.s (.R [.m 3 0,.bin 4 .lss 3 (.i 0)] [0,4] (.cond 4 (.R [.mv 2 (.i 0)] [2] .e) .k)) (.R [.m 5 0,.bin 6 .quo 5 (.i 2),.bin 7 .add 6 (.i 1),.m 2 7] [2] .e)))⟩
theorem Td:CE Try.prog 186 Gv=true:=by kernel_rfl
def I7:AO:=(.cond 29 (.R [.m 30 0,.m 31 7,.idx 32 6 30 31,.f 33 32 4,.l 34 33,.m 5 34] [0,5,7] (.r [.m 35 0,.m 36 7,.idx 37 6 35 36,.f 38 37 5,.l 39 38,.m 6 39] [0,5,6,7])) .k)
def I8:AO:=(.r [.m 13 7,.bin 14 .add 13 (.i 1),.m 7 14] [0,5,6,7])
def I9:AO:=(.s (.R [.m 9 7,.m 10 0,.len 11 false 10,.b 12 .lss 9 11] [0,5,6,7,12] (.cond 12 .k (.exit 0))) (.s (.b 1 [0,5,6,7] (.R [.m 15 0,.m 16 7,.idx 17 6 15 16,.f 18 17 0,.l 19 18,.bin 20 .eql 19 (.i 2),.m 21 20,.sc 21 true [.m 22 0,.m 23 7,.idx 24 6 22 23,.f 25 24 4,.l 26 25,.m 27 5,.b 28 .gtr 26 27] 29 28 .F] [0,5,6,7,29] I7)) I8))
def I_:AO:=(.R [.m 40 6,.m 4 40] [4] .e)
def Bb:CU:=⟨[.val (.slice AB),.val .str],[⟨4,false,.str⟩],(.R [.mv 4 (.c (.str ⟨#[]⟩))] [0,1] (.R [.mv 5 (.i 0)] [0,1,5] (.R [.m 8 1,.m 6 8] [0,5,6] (.s (.R [.mv 7 (.i 0)] [0,5,6,7] (.b 0 [6] (.loop [0,5,6,7] I9))) I_))))⟩
theorem Qy:CE Try.prog 187 Bb=true:=by kernel_rfl
def GE:CU:=⟨[.val AK],[⟨2,false,.bool⟩],(.R [.box 1 0 false,.mv 2 .F] [1] (.R [.f 3 1 0,.l 4 3,.cx (some 5) [4,.c (.int .i64 0),.c (.int .i64 10000)] DJ,.m 6 5,.sc 6 true [.f 7 1 1,.l 8 7,.f 9 1 0,.l 10 9,.cx (some 11) [8,.c (.int .i64 0),10] DJ] 12 11 .F,.m 13 12,.sc 13 true [.f 14 1 2,.l 15 14,.len 16 true 15,.bin 17 .leq 16 (.i 40)] 18 17 .F,.m 19 18,.sc 19 true [.f 20 1 1,.l 21 20,.bin 22 .gtr 21 (.i 0),.m 23 22,.sc 23 false [.f 24 1 2,.l 25 24,.bin 26 .eql 25 (.c (.str ⟨#[]⟩))] 27 .V 26] 28 27 .F,.m 2 28] [2] .e))⟩
theorem TB:CE Try.prog 188 GE=true:=by kernel_rfl
def CF:AO:=(.R [.b 9 .lss 8 7] [0,1,7,8,9] (.s (.cond 9 .k (.exit 0)) (.s (.b 1 [0,1,7,8] (.R [.m 10 8,.m 5 10] [0,1,5,7,8] (.R [.m 11 1,.m 12 0,.m 13 5,.idx 14 6 12 13,.ls 15 14 6,.call (some 16) 184 [(.t 15,.val AB),(.t 11,.cap 184 AB)] [.bool]] [0,1,5,7,8,16] (.cond 16 (.R [.m 17 5,.m 4 17] [4] .e) .k)))) (.r [.bin 18 .add 8 (.i 1),.m 8 18] [0,1,7,8]))))
def CG:AO:=(.R [.mv 4 (.c (.int .i64 (-1)))] [4] .e)
def AR:CU:=⟨[.val (.slice AB),.val (.clo 184 AB)],[⟨4,false,.W⟩],(.R [.mv 4 (.i 0)] [0,1] (.s (.R [.m 6 0,.len 7 false 6,.mv 8 (.i 0)] [0,1,7,8] (.b 0 [] (.loop [0,1,7,8] CF))) CG))⟩
theorem Em:CE Try.prog 189 AR=true:=by kernel_rfl
end
end Go.Proofs.Ytffahmnodgnohaa.Core

namespace Go.Proofs.Ytffahmnodgnohaa.Core
open Go Go.Shelf Go.RowKit Go.Lib
variable {P:Program} {ρ:Ren}
theorem Wb {α:Type} {c:Prop} [Decidable c] {a b r:α} (h:(if c then a else b)=r):(c/\a=r)\/(¬ c/\b=r):=by
 by_cases hc:c
 ·rw [if_pos hc] at h; exact .inl ⟨hc,h⟩
 ·rw [if_neg hc] at h; exact .inr ⟨hc,h⟩
def YI (P:Program) (f:Nat) (args bs rs:List AV):Prop :=
 Sg P f/\(∀ r∈rs,r.cells.all AV.nilFree=true)/\∃ n,n+bs.length=rs.length /\
  ∀ (H:HP) (φ:BF) (w:World) (cargs:List Value),SR H φ (BK bs args) w->AX (VB H φ (BK bs args)) (Bv (C6 bs) args) cargs ->
   Calls P f cargs.toArray w fun out w'=>match out with
    | .returned v=>LZ H φ w args bs (rs.drop n) (rs.take n) v w'
    | _=>False

structure ap (P:Program) (ρ:Ren):Prop where
 mixed:P.follows .mixedOrders=true
 f22:Bears P (ρ.f 22) (Body2.n22 ρ)
 ov:∀ args w,(callFunc (ρ.f 29) args).run P w=((Extern.SlicesOverlaps.overlaps #[(ρ.t 24),(ρ.t 24)] #[(ρ.t 4)] args).run P w).andThen fun v w'=>.ok (.value v) w'
 t3:P.underlying (ρ.t 3)=some (TypeDesc.int IntKind.i64)
 a3:∀ w,(isAgg (ρ.t 3)).run P w=.ok false w
 z3:∀ w,(Go.sizeOf (ρ.t 3)).run P w=.ok 1 w
 v3:∀ w,(zeroValue (ρ.t 3)).run P w=.ok (Value.int IntKind.i64 0) w
 t4:P.underlying (ρ.t 4)=some (TypeDesc.bool)
 a4:∀ w,(isAgg (ρ.t 4)).run P w=.ok false w
 z4:∀ w,(Go.sizeOf (ρ.t 4)).run P w=.ok 1 w
 v4:∀ w,(zeroValue (ρ.t 4)).run P w=.ok (Value.bool false) w
 t24:P.underlying (ρ.t 24)=some (TypeDesc.slice (ρ.t 9))
 a24:∀ w,(isAgg (ρ.t 24)).run P w=.ok false w
 z24:∀ w,(Go.sizeOf (ρ.t 24)).run P w=.ok 1 w
 v24:∀ w,(zeroValue (ρ.t 24)).run P w=.ok (Value.slice none 0 0) w
theorem Pz (w:World) (g:Nat) (c:Array Value):(w.setRow g c).heap.size=w.heap.size:=by
 unfold World.setRow
 exact Array.size_modify
theorem ZB {w:World} {b o:Nat} {c:Array Value} {t:TypeId} {fz:Nat×Nat} (h:w.heap[b]? = some (.cells c t fz)):w.cell? ⟨b,o,none⟩=c[o]? := by simp [World.cell?,h]
theorem VU {H:HP} {K:Kd} {xs:List K.T} {f:List Value} (h:CI H K xs f) (i:Nat):CI H K (xs.take i) (f.take (i*K.sz)):=by
 intro j x hx
 rw [BB] at hx
 split at hx
 ·rename_i hj
  have:=h j x hx
  have hle:(j+1)*K.sz<=i*K.sz:=Bj _ hj
  rw [Nat.succ_mul] at hle
  rw [List.drop_take,List.take_take,Nat.min_eq_left (by omega)]
  exact this
 ·cases hx
theorem VV {H:HP} {K:Kd} {xs:List K.T} {f:List Value} (h:CI H K xs f) (i:Nat):CI H K (xs.drop i) (f.drop (i*K.sz)):=by
 intro j x hx
 rw [Ba] at hx
 have:=h _ x hx
 rw [List.drop_drop,<- Nat.add_mul]
 exact this
theorem Wc {H:HP} {φ:BF} {w w':World} {t:TypeId} {K:Kd} {xs ys:List K.T} {ags:List AV} {v':Value} {flat:List Value} (hst:BK [] (.new t K xs::ags)=[.rows t K xs])
  (hs:SR H φ (BK [] (.new t K xs::ags)) w) (hg:w.grownBy w' (Dc (φ 0))) (hb:∀ b,BQ v' b->BQ (φ 0) b\/w.heap.size<=b)
  (ho:w'.ownsRow 0 t K.sz v' ys.length flat) (hr:CI H K ys flat):LZ H φ w (.new t K xs::ags) [] [] [.new t K ys] v' w':=by
 have hbx:(BK [] (.new t K xs::ags))[0]? = some (.rows t K xs):=by rw [hst]; rfl
 have hout:∀ b,BQ (φ 0) b->H b=none:=fun b h=>hs.out 0 (.rows t K xs) hbx rfl b h
 have hlt:∀ b o,H b=some o->b<w.heap.size:=fun b o h=>(Array.getElem?_eq_some_iff.1 (hs.hp b o h)).1
 refine ⟨H,fun _=>v',HP.le_refl H,⟨fun b o h=>?_,fun id bx hid=>?_,fun i j bi bj hi hj _ _ hne=>?_,fun i bi hi _ b hv=>?_,fun id cs hid=>?_,hs.tb⟩,⟨hg.os,hg.tape,hg.output,hg.size,fun b hlt hne=>hg.block b hlt (fun e=>hne 0 (by rw [hst]; show 0<1; omega) (.of e.symm)),fun j hj=>by simp at hj,fun i bi hi _ b hv=>?_,fun j hj=>by simp at hj,fun _ _ _=>rfl⟩,⟨(Uw ho).symm,rfl⟩⟩
 ·rw [hg.block b (hlt b o h) (fun e=>by rw [hout b (.of e.symm)] at h; cases h)]
  exact hs.hp b o h
 ·cases id with
  | zero=>cases hid; exact Aj.of_flat ho hr
  | succ k=>cases hid
 ·cases i with
  | succ k=>cases hi
  | zero =>
   cases j with
   | succ k=>cases hj
   | zero=>exact absurd rfl hne
 ·cases hh:H b with
  | none=>rfl
  | some o =>
   rcases hb b hv with h | h
   ·rw [hout b h] at hh; cases hh
   ·have:=hlt b o hh; omega
 ·cases id with
  | zero=>cases hid
  | succ k=>cases hid
 ·rcases hb b hv with h | h
  ·exact .inr ⟨0,(by rw [hst]; show 0<1; omega),h⟩
  ·exact .inl h

structure aq (P:Program) (g:Nat):Prop where
 eg:∀ args w,(callFunc g args).run P w=.ok (.enter g args) w
 says:∀ (n x:Int) (b o:Nat) (W:World),W.cell? ⟨b,o,none⟩=some (.int .i64 n) ->
  Calls P g #[.int .i64 x,.pointer (some ⟨b,o,none⟩)] W fun e w'=>e=.returned (.bool (x==n))/\∃ q,w'=W.drewN q

theorem Ui (w:World) (t e ty:TypeId) (z:Value) (ht:P.underlying t=some (.slice e)) (hz:∀ w,(zeroValue e).run P w=.ok z w) (g o n c:Nat) (cur:Array Value) (te:TypeId) (hg:w.heap[g]? = some (.cells cur te (0,0))) (hn:0<n)
  (hfit:o+n*z.cells.size<=cur.size) (h1:∀ v∈(Builtin.zeroCells z.cells n).toList,v.oneCell'=true) :
  (Builtin.clear_ #[t] ty #[.slice (some ⟨g,o,none⟩) n c]).run P w=.ok (.tuple #[]) (w.setRow g (cur.toList.take o++(Builtin.zeroCells z.cells n).toList++cur.toList.drop (o+(Builtin.zeroCells z.cells n).toList.length)).toArray):=by
 have hl:(Builtin.zeroCells z.cells n).toList.length=n*z.cells.size:=by rw [Array.length_toList,size_zeroCells]
 have hst:=run_storeCells_at P g o te (Builtin.zeroCells z.cells n).toList 0 cur w hg (by rw [hl]; simpa using hfit) h1
 cases n with
 | zero=>omega
 | succ n=>simp [Builtin.clear_,run_underlying ht,hz,hst]
theorem Qz {ops:Array Oper} {o:Oper} {a:Act} {w:World} {K:Act->World->Prop} {Q:Exit->Act->World->Prop} {E:Prop}
  (hg:o.guard=none) (d x:Operand) (dT sT:TypeId) (hop:o.op=Op.call { callee:=Callee.builtin Builtin.append,args:=#[d,x],argTypes:=#[dT,sT] })
  (v u:Value) (hd:a.eval d=v) (hx:a.eval x=u) {v':Value} {w':World} (hr:(Builtin.append_ #[dT,sT] o.type #[v,u]).run P w=.ok v' w') (hK:K (a.put o.dst v') w') :
  if Region.wanted o (yielded ops a.tmps)=true then Oper.wp P o a w K Q else E:=by
 have hw:Region.wanted o (yielded ops a.tmps)=true:=by simp [Region.wanted,hg]
 rw [if_pos hw]
 unfold Oper.wp
 simp [execOp,hop,resolve,invoke,builtin,hd,hx,hr,Result.andThen]
 exact hK
theorem P0 (w:World) {ops:Array Oper} {rest:List Oper} {o:Oper} {a:Act} {Q:Exit->Act->World->Prop} (hgd:o.guard=none) (s:Operand) (t:TypeId)
  (ho:o.op=.call { callee:=.builtin .clear,args:=#[s],argTypes:=#[t] }) (v:Value) (hs:a.eval s=v) {v':Value} {w':World}
  (hr:(Builtin.clear_ #[t] o.type #[v]).run P w=.ok v' w') (h:wpList P ops Q rest (a.put o.dst v') w'):wpList P ops Q (o::rest) a w :=
 wpList_plain hgd fun K hK=>by
  unfold Oper.wp execOp
  simp only [ho,resolve,invoke,builtin,Sem.run_bind,Sem.run_pure,Result.andThen_ok,List.map_toArray,List.map_cons,List.map_nil,hs,hr]
  exact hK _ _ h
set_option maxHeartbeats 8000000 in
set_option maxRecDepth 100000 in
theorem VX (L:SlLaysE0.n45 P ρ) (i0:TypeInfo) (size:Nat) (hi:P.info? (ρ.t 23)=some i0) (hz1:i0.size=size) (z23:∀ w,(Go.sizeOf (ρ.t 23)).run P w=.ok size w) (base:Option Addr) (n cap i:Nat) (w:World) (hin:i<=n) (hnc:n<=cap) (hcm:cap<=maxLen) :
  Calls P (ρ.f 45) #[.slice base n cap,.int .i64 i,.int .i64 i] w fun e w'=>e=.returned (.slice base n cap)/\w'=w:=by
 have mixed:=L.mixed; have t0:=L.t0; have a0:=L.a0; have z0:=L.z0; have v0:=L.v0; have t3:=L.t3; have a3:=L.a3; have z3:=L.z3; have v3:=L.v3; have t4:=L.t4; have a4:=L.a4; have z4:=L.z4; have v4:=L.v4; have t22:=L.t22; have a22:=L.a22; have z22:=L.z22; have v22:=L.v22
 obtain ⟨_,_,FG⟩:=L.f45
 go_enter FG,SlBodyN.n45_ntmps ρ
 go_wp2
 all_goals (go_ret; exact ⟨rfl,rfl⟩)
set_option maxHeartbeats 8000000 in
set_option maxRecDepth 100000 in
theorem VY (L:SlLaysE0.n45 P ρ) (i0:TypeInfo) (z:Value) (size bytes:Nat) (hi:P.info? (ρ.t 23)=some i0) (hz0:i0.zero=some z) (hz1:i0.size=size) (hzs:z.cells.size=size) (hzo:∀ v∈z.cells.toList,v.oneCell'=true) (hsz:0<size)
  (z23:∀ w,(Go.sizeOf (ρ.t 23)).run P w=.ok size w) (v23:∀ w,(zeroValue (ρ.t 23)).run P w=.ok z w) (g n cap i j:Nat) (cur:Array Value) (w:World) (hg:w.heap[g]? = some (.cells cur (ρ.t 23) (0,0))) (hcs:cur.size=cap*size) (hij:i<j) (hjn:j<=n) (hnc:n<=cap) (hcm:cap<=maxLen)
  (h1:∀ u∈cur.toList.take (n*size),u.oneCell'=true) :
  Calls P (ρ.f 45) #[.slice (some ⟨g,0,none⟩) n cap,.int .i64 i,.int .i64 j] w fun e w'=>e=.returned (.slice (some ⟨g,0,none⟩) (n-(j-i)) cap) /\
   ∃ cur',w'.heap[g]? = some (.cells cur' (ρ.t 23) (0,0))/\cur'.size=cap*size/\cur'.toList.take ((n-(j-i))*size)=cur.toList.take (i*size)++(cur.toList.take (n*size)).drop (j*size)/\w.grownBy w' (some g):=by
 have mixed:=L.mixed; have t0:=L.t0; have a0:=L.a0; have z0:=L.z0; have v0:=L.v0; have t3:=L.t3; have a3:=L.a3; have z3:=L.z3; have v3:=L.v3; have t4:=L.t4; have a4:=L.a4; have z4:=L.z4; have v4:=L.v4; have t22:=L.t22; have a22:=L.a22; have z22:=L.z22; have v22:=L.v22
 have hcm':cap<=9223372036854775807:=hcm
 have hij1:¬ ((i:Int)=(j:Int)):=by omega
 have hb1:(i:Int)<=(j:Int):=by omega
 have hb2:¬ (cap=0):=by omega
 have hb3:(j:Int)<=(n:Int):=by omega
 have hb4:¬ (cap=i):=by omega
 have e4:j*size<=n*size:=Bj size hjn
 have e5:n*size<=cur.size:=by rw [hcs]; exact Bj size hnc
 have e6:i*size<=j*size:=Bj size (by omega)
 have e3:(n-j)*size=n*size-j*size:=Nat.sub_mul n j size
 have e7:(i+(n-j))*size=i*size+(n-j)*size:=Nat.add_mul _ _ size
 have hln:cur.toList.length=cur.size:=Array.length_toList
 have lm:((cur.toList.take (n*size)).drop (j*size)).length=(n-j)*size:=by rw [List.length_drop,List.length_take,hln,e3]; omega
 have hap:∀ (A:Addr) (c:Nat),(A=(⟨g,j*size,none⟩:Addr)\/n=j)->∀ ty,(Builtin.append_ #[(ρ.t 22),(ρ.t 22)] ty #[.slice (some ⟨g,0,none⟩) i cap,.slice (some A) (n-j) c]).run P w.drew=.ok (.slice (some ⟨g,0,none⟩) (i+(n-j)) cap) (w.drew.setRow g (cur.toList.take (i*size)++(cur.toList.take (n*size)).drop (j*size)++cur.toList.drop (i*size+((cur.toList.take (n*size)).drop (j*size)).length)).toArray):=fun A c hA ty=>by
  have:=run_append_room (P:=P) w.drew (ρ.t 22) ty (ρ.t 23) i0 L.t22 hi g i cap cur hg A (n-j) c ((cur.toList.take (n*size)).drop (j*size)) (by rw [lm,hz1]) (fun k u hk=>by
   have hk2:=(AT.1 hk).1
   rw [lm] at hk2
   rcases hA with rfl | rfl
   ·rw [Addr.add_none]
    have h5:w.drew.cell? ⟨g,j*size+k,none⟩=cur[j*size+k]? := ZB hg
    rw [h5,<- hk,Ba,BB,if_pos (by omega),Array.getElem?_toList]
   ·simp at hk2) (fun u hu=>h1 u (List.mem_of_mem_drop hu)) (by omega) (by rw [lm,hz1,e3]; omega)
  rw [hz1] at this
  exact this
 obtain ⟨cur1,hcur1⟩:∃ c1,c1=(cur.toList.take (i*size)++(cur.toList.take (n*size)).drop (j*size)++cur.toList.drop (i*size+((cur.toList.take (n*size)).drop (j*size)).length)).toArray:=⟨_,rfl⟩
 rw [<- hcur1] at hap
 have hs1:cur1.size=cap*size:=by
  rw [hcur1,List.size_toArray,<- hcs]
  simp only [List.length_append,List.length_take,List.length_drop,hln,lm]
  omega
 have ht1:cur1.toList.take ((i+(n-j))*size)=cur.toList.take (i*size)++(cur.toList.take (n*size)).drop (j*size):=by
  have l3:(cur.toList.take (i*size)++(cur.toList.take (n*size)).drop (j*size)).length=(i+(n-j))*size:=by
   simp only [List.length_append,List.length_take,hln,lm,e7]
   omega
  rw [hcur1]
  exact (congrArg (fun k=>List.take k _) l3.symm).trans (by rw [List.take_left])
 have hg1:(w.drew.setRow g cur1).heap[g]? = some (.cells cur1 (ρ.t 23) (0,0)):=setRow_heap w.drew g cur cur1 (ρ.t 23) _ hg
 obtain ⟨d,hd⟩:∃ d,d=n-(i+(n-j)):=⟨_,rfl⟩
 have hdp:0<d:=by omega
 have e8:(i+(n-j))*size+d*size<=cur1.size:=by rw [hs1,<- Nat.add_mul]; exact Bj size (by omega)
 have hzc:∀ v∈(Builtin.zeroCells z.cells d).toList,v.oneCell'=true:=by
  intro v hv
  simp only [Builtin.zeroCells,Array.toList_map,List.mem_map] at hv
  obtain ⟨k,_,rfl⟩:=hv
  refine hzo _ ?_
  have hk:k % z.cells.size<z.cells.size:=Nat.mod_lt _ (by omega)
  rw [getElem!_pos z.cells _ hk]
  exact Array.getElem_mem_toList hk
 have hcl:∀ ty c,(Builtin.clear_ #[(ρ.t 22)] ty #[.slice (some ⟨g,(i+(n-j))*size,none⟩) (n-(i+(n-j))) c]).run P (w.drew.setRow g cur1)=.ok (.tuple #[]) ((w.drew.setRow g cur1).setRow g (cur1.toList.take ((i+(n-j))*size)++(Builtin.zeroCells z.cells d).toList++cur1.toList.drop ((i+(n-j))*size+(Builtin.zeroCells z.cells d).toList.length)).toArray):=fun ty c=>by
  rw [<- hd]
  exact Ui _ _ (ρ.t 23) ty z L.t22 v23 g _ d c cur1 (ρ.t 23) hg1 hdp (by rw [hzs]; exact e8) hzc
 have lz:(Builtin.zeroCells z.cells d).toList.length=d*size:=by rw [Array.length_toList,size_zeroCells,hzs]
 obtain ⟨cur2,hcur2⟩:∃ c2,c2=(cur1.toList.take ((i+(n-j))*size)++(Builtin.zeroCells z.cells d).toList++cur1.toList.drop ((i+(n-j))*size+(Builtin.zeroCells z.cells d).toList.length)).toArray:=⟨_,rfl⟩
 rw [<- hcur2] at hcl
 have hs2:cur2.size=cap*size:=by
  rw [hcur2,List.size_toArray,<- hs1]
  simp only [List.length_append,List.length_take,List.length_drop,Array.length_toList,lz]
  rw [Array.length_toList] at lz
  omega
 have ht2:cur2.toList.take ((i+(n-j))*size)=cur.toList.take (i*size)++(cur.toList.take (n*size)).drop (j*size):=by
  have l4:(cur1.toList.take ((i+(n-j))*size)).length=(i+(n-j))*size:=by rw [List.length_take,Array.length_toList]; omega
  rw [hcur2,<- ht1,CL]
  exact (congrArg (fun k=>List.take k _) l4.symm).trans (by rw [List.take_left])
 have hkn:n-(j-i)=i+(n-j):=by omega
 rw [hkn]
 have hW1s:((w.drew.setRow g cur1).setRow g cur2).heap[g]? = some (.cells cur2 (ρ.t 23) (0,0)):=setRow_heap _ g cur1 cur2 _ _ hg1
 have hgr:w.grownBy ((w.drew.setRow g cur1).setRow g cur2) (some g):=by
  refine ⟨rfl,rfl,rfl,by rw [Pz,Pz]; exact Nat.le_refl _,fun k hk hne=>?_⟩
  have hk':k≠g:=fun e=>hne (by rw [e])
  rw [setRow_other _ g k _ hk',setRow_other _ g k _ hk']
  rfl
 obtain ⟨W1,hW1⟩:∃ W1,W1=w.drew.setRow g cur1:=⟨_,rfl⟩
 obtain ⟨W2,hW2⟩:∃ W2,W2=W1.setRow g cur2:=⟨_,rfl⟩
 rw [<- hW1,<- hW2] at hcl hW1s hgr
 rw [<- hW1] at hap
 have hb6:¬ (cap=i+(n-j)):=by omega
 have hb7:i+(n-j)<=n:=by omega
 have hb8:i<=cap:=by omega
 clear e3 e4 e5 e6 e7 e8 hcur1 hcur2 lm hW1 hW2 hd hkn hs1 ht1 hg1 lz
 obtain ⟨A,hAe,hAd⟩:∃ A:Addr,(if cap=j then some (⟨g,0,none⟩:Addr) else some ⟨g,j*size,none⟩)=some A/\(A=(⟨g,j*size,none⟩:Addr)\/n=j):=by
  by_cases h:cap=j
  ·exact ⟨⟨g,0,none⟩,by simp [h],.inr (by omega)⟩
  ·exact ⟨⟨g,j*size,none⟩,by simp [h],.inl rfl⟩
 have hap2:=hap A (cap-j) hAd
 clear hap hAd
 obtain ⟨_,_,FG⟩:=L.f45
 go_enter FG,SlBodyN.n45_ntmps ρ
 go_wp2
 go_region_law_o (refine Qz rfl _ _ (ρ.t 22) (ρ.t 22) rfl _ _ (by simp [Act.eval,Act.put]) (by simp [Act.eval,Act.put,hAe]) (hap2 _) ?_)
 go_wp2_with (at_builtin; refine P0 _ rfl _ (ρ.t 22) rfl _ rfl (hcl _ _) ?_)
 go_ret
 exact ⟨rfl,cur2,hW1s,hs2,ht2,hgr⟩
theorem XN {K:Kd} (L:SlLaysE0.n45 P ρ) (he:XP P (ρ.t 23) K=true) (hp:K.plain=true) {xs:List K.T} {i j:Nat} (hij:i<=j) (hj:j<=xs.length) :
  YI P (ρ.f 45) [.new (ρ.t 23) K xs,.int .i64 i,.int .i64 j] [] [.new (ρ.t 23) K (xs.take i++xs.drop j)]:=by
 obtain ⟨i0,z,hi0,hz,h1,h2,h3,h4⟩:=PW he
 have hsz:=Kd.sz_pos K
 have z23:∀ w,(Go.sizeOf (ρ.t 23)).run P w=.ok K.sz w:=fun w=>by simp [sizeOf,typeInfo,hi0,h1]
 have v23:∀ w,(zeroValue (ρ.t 23)).run P w=.ok z w:=fun w=>by simp [zeroValue,typeInfo,hi0,hz]
 refine ⟨?_,?_,1,rfl,fun H φ w cargs hs ha=>?_⟩
 ·obtain ⟨nm,hnm,hf⟩:=L.f45
  exact ⟨_,_,hf,hnm,rfl⟩
 ·intro r hr
  simp only [CM] at hr
  subst hr
  rfl
 ·obtain ⟨v0,r0,rfl,hv0,ha⟩:=ha
  obtain ⟨v1,r1,rfl,hv1,ha⟩:=ha
  obtain ⟨v2,r2,rfl,hv2,ha⟩:=ha
  have hr2:r2=[]:=ha
  subst hr2
  obtain ⟨flat,ho,hr⟩:=Aj.flat (Kd.plain_ok hp) (hs.box 0 (.rows (ρ.t 23) K xs) rfl)
  have e0:v0=φ 0:=hv0.1.trans (Uw ho)
  have e1:v1=.int .i64 i:=hv1
  have e2:v2=.int .i64 j:=hv2
  subst e0 e1 e2
  have hnew:(xs.take i++xs.drop j).length=xs.length-(j-i):=by simp only [List.length_append,List.length_take,List.length_drop]; omega
  have hstk:BK [] [AV.new (ρ.t 23) K xs,.int .i64 i,.int .i64 j]=[.rows (ρ.t 23) K xs]:=rfl
  by_cases hlt:i=j
  ·subst hlt
   obtain ⟨base,n,cap,e0,hnn,hcap,hcm⟩:∃ base n cap,φ 0=.slice base n cap/\n=xs.length/\n<=cap/\cap<=maxLen:=by
    rcases ho.2 with ⟨e,h⟩ | ⟨g,cap,cur,e,_,_,hc,hm,_⟩
    ·exact ⟨none,0,0,e,h.symm,Nat.le_refl _,Nat.zero_le _⟩
    ·exact ⟨_,_,_,e,rfl,hc,hm⟩
   subst hnn
   rw [e0]
   refine Calls.mono (VX L i0 K.sz hi0 h1 z23 base _ cap i w hj hcap hcm) fun out w' h=>?_
   obtain ⟨rfl,rfl⟩:=h
   refine Wc hstk hs ⟨rfl,rfl,rfl,Nat.le_refl _,fun _ _ _=>rfl⟩ (fun b hb=>.inl (by rw [e0]; exact hb)) (flat:=flat) ?_ ?_
   ·rw [List.take_append_drop,<- e0]; exact ho
   ·rw [List.take_append_drop]; exact hr
  ·obtain ⟨g,cap,cur,e0,_,hg,hc,hcm,hsc,ht⟩:=ho.2.resolve_left (fun h=>by omega)
   rw [e0]
   have hzo:∀ v∈z.cells.toList,v.oneCell'=true:=MN (h4.plain (Kd.plain_ok hp) H)
   refine Calls.mono (VY L i0 z K.sz i0.bytes hi0 hz h1 h3 hzo hsz z23 v23 g xs.length cap i j cur w hg hsc (by omega) hj hc hcm (by rw [ht]; exact MO hr ho.1)) fun out w' h=>?_
   obtain ⟨rfl,cur',g1,g2,g3,g4⟩:=h
   have htk:cur.toList.take (i*K.sz)=flat.take (i*K.sz):=by
    rw [<- ht,List.take_take,Nat.min_eq_left (Bj _ (by omega))]
   have l1:(flat.take (i*K.sz)).length=(xs.take i).length*K.sz:=by
    have h5:=ho.1
    have h7:i*K.sz<=xs.length*K.sz:=Bj _ (by omega)
    rw [List.length_take,List.length_take,Nat.min_eq_left (show i<=xs.length by omega),h5]; omega
   have l2:(flat.drop (j*K.sz)).length=(xs.drop j).length*K.sz:=by rw [List.length_drop,List.length_drop,ho.1,Nat.sub_mul]
   refine Wc hstk hs (by rw [e0]; exact g4) (fun b hb=>.inl (by rw [e0]; exact hb)) (flat:=flat.take (i*K.sz)++flat.drop (j*K.sz)) ?_ (KX (VU hr i) l1 (VV hr j))
   rw [hnew]
   refine ⟨?_,.inr ⟨g,cap,cur',rfl,Nat.zero_le _,g1,by omega,hcm,g2,by rw [g3,htk,ht]⟩⟩
   rw [List.length_append,l1,l2,<- Nat.add_mul,<- hnew,List.length_append]
def YJ (t:TypeId) (K:Kd) (args bs:List AV):Option (List AV) :=
 match args,bs with
 | [.new t1 K1 xs,.int k i,.int k2 j],[]=>if h1:K1=K then (if t1=t/\k=.i64/\k2=.i64/\0<=i/\i<=j/\j<=xs.length then
   some [.new t K ((h1▸xs).take i.toNat++(h1▸xs).drop j.toNat)] else none) else none
 | _,_=>none
theorem ZD {t:TypeId} {K:Kd} {xs:List K.T} {i j:Nat} (hi:i<=j) (hj:j<=xs.length):YJ t K [.new t K xs,.int .i64 i,.int .i64 j] []=some [.new t K (xs.take i++xs.drop j)]:=by
 have h0:(0:Int)<=(i:Int):=by omega
 have h1:(i:Int)<=(j:Int):=by omega
 have h2:(j:Int)<=(xs.length:Int):=by omega
 simp only [YJ,dif_pos,true_and]
 rw [if_pos ⟨h0,h1,h2⟩,CH,CH]
theorem ZE {K:Kd} (L:SlLaysE0.n45 P ρ) (he:XP P (ρ.t 23) K=true) (hp:K.plain=true) {args bs rs:List AV} (h:YJ (ρ.t 23) K args bs=some rs):YI P (ρ.f 45) args bs rs:=by
 unfold YJ at h
 split at h
 ·split at h
  ·rename_i hk
   subst hk
   split at h
   ·rename_i hc
    obtain ⟨rfl,rfl,rfl,h0,hij,hj⟩:=hc
    cases h
    rename_i i _ j _
    obtain ⟨a,rfl⟩:=Int.eq_ofNat_of_zero_le h0
    obtain ⟨b,rfl⟩:=Int.eq_ofNat_of_zero_le (Int.le_trans h0 hij)
    exact XN L he hp (by omega) (by omega)
   ·cases h
  ·cases h
 ·cases h
end Go.Proofs.Ytffahmnodgnohaa.Core

namespace Go.Proofs.Ytffahmnodgnohaa.Core
open Go IntKind
set_option maxRecDepth 100000
noncomputable section
def ZF:Go.Shelf.Ren:=⟨fun | 45=>155 | n=>n,fun | 22=>63 | 23=>183 | n=>n,fun | n=>n⟩
theorem YK:SlLaysE0.n45 Try.prog ZF:={
 mixed:=by kernel_rfl
 f45:=⟨Try.f155.name,by decide,Try.func155.trans (congrArg some (by kernel_rfl))⟩
 t0:=Try.underlying0
 a0:=Try.isAgg0
 z0:=Try.sizeOf0
 v0:=Try.zeroValue0
 t3:=Try.underlying3
 a3:=Try.isAgg3
 z3:=Try.sizeOf3
 v3:=Try.zeroValue3
 t4:=Try.underlying4
 a4:=Try.isAgg4
 z4:=Try.sizeOf4
 v4:=Try.zeroValue4
 t22:=Try.underlying63
 a22:=Try.isAgg63
 z22:=Try.sizeOf63
 v22:=Try.zeroValue63 }
theorem Zw:XP Try.prog 183 AB=true:=by kernel_rfl

def aG:List (Nat×CU):=[(11,Ai),(21,Lh),(37,BN),(38,BO),(47,Ac),(48,Bp),(49,D9),(50,Bq),(51,Gr),(52,Ag),(53,B3),(54,Br),(55,Dw),(79,CS),(80,Ie),(82,F9),(85,Fa),(87,F_),(90,DK),(93,B_),(124,DC),(125,Gs),(126,C0),(127,BW),(128,E9),(129,If),(130,CX),(143,EY),(148,BE),(154,Bh),(156,Bs),(157,Fb),(158,BP),(159,Gt),(160,DD),(166,GB),(169,Bo),(170,Dm),(171,Be),(172,Bt),(173,Gu),(174,Ad),(175,DE),(176,At),(182,Bg),(183,Au),(184,CA),(185,Bu),(186,Gv),(187,Bb),(188,GE),(189,AR)]
def NT (f:Nat):Option CU:=ZA f aG
theorem ae:X7 Try.prog NT:=XM (.cons Qt <| .cons V7 <| .cons Ps <| .cons Pt <| .cons Pu <| .cons Qu <| .cons OU <| .cons Qv <| .cons TY <| .cons Pv <| .cons Rn <| .cons Qw <| .cons S6 <| .cons TZ <| .cons Ue <| .cons S7 <| .cons Ro <| .cons S8 <| .cons Uf <| .cons Jf <| .cons Rp <| .cons Ta <| .cons ME <| .cons S9 <| .cons Ug <| .cons Uh <| .cons S_ <| .cons Pw <| .cons Li <| .cons Lj <| .cons Me <| .cons Rq <| .cons Px <| .cons Tb <| .cons Rr <| .cons TA <| .cons OV <| .cons NS <| .cons K7 <| .cons Mf <| .cons Tc <| .cons Py <| .cons Rs <| .cons Rt <| .cons Ru <| .cons EJ <| .cons Jg <| .cons Qx <| .cons Td <| .cons Qy <| .cons TB <| .cons Em .nil)
def DL:Cz:=fun f args bs=>if f=155 then YJ 183 AB args bs else none
theorem ZG:D8 Try.prog DL:=by
 refine ⟨fun f k t T hf h=>?_,fun f args bs rs hf h=>?_⟩<;>unfold DL at h
 ·rcases Wb h with ⟨e,h⟩ | ⟨_,h⟩
  ·exfalso; unfold B8 at e; omega
  cases h
 ·rcases Wb h with ⟨e,h⟩ | ⟨_,h⟩
  ·subst e; exact ZE YK Zw rfl h
  cases h
abbrev cP:Cz:=Ub NT DL
def cG {ρ:Type} (c:AO) (kn kr:St->Option ρ) (ke:Nat->St->Option ρ):St->Option ρ:=Dv cP Fu c kn kr ke
def lG {ρ:Type} (c:AO) (hs:List (Nat×Nat)) (l:List Nat) (n:Nat) (kr:St->Option ρ) (ke:Nat->St->Option ρ):St->Option ρ:=Fu fun go s'=>Dv cP Fu c (fun s''=>go (s''.cutH hs l n)) kr ke s'
def kJ {ρ:Type} (c:AO) (hs:List (Nat×Nat)) (l:List Nat) (n:Nat) (kn kr:St->Option ρ) (ke:Nat->St->Option ρ):St->Option ρ:=fun s=>cG c kn kr ke (s.cutH hs l n)
def kB {ρ:Type} (hs:List (Nat×Nat)) (l:List Nat) (n:Nat) (kn:St->Option ρ):St->Option ρ:=fun s=>kn (s.cutH hs l n)
def kE {ρ:Type} (b:Nat) (hs:List (Nat×Nat)) (l:List Nat) (n:Nat) (kn:St->Option ρ) (ke:Nat->St->Option ρ):Nat->St->Option ρ:=fun i s=>if i=b then kn (s.cutH hs l n) else ke i s
def kx {ρ:Type}:Nat->St->Option ρ:=fun _ _=>none
def cF (f:Nat) (a:CU) (x b:List AV):Option (RT a.outs):=(cP f x b).bind (Cp a.outs)
theorem cT (a:CU) {f:Nat} {x b:List AV} {t:Option (RT a.outs)} {r:RT a.outs} (hf:NT f=some a) (hl:x.length=a.params.length/\b.length=(CV a.params 0).length) (e:YE cP a x b=t) (h:t=some r):cF f a x b=some r:=V5 hf hl (e.trans h)
theorem jS {ρ:Type} {t w:Option ρ} {r:ρ} (e:w=t) (h:t=some r):w=some r:=e.trans h
theorem lS {ρ:Type} {c:AO} {hs:List (Nat×Nat)} {l:List Nat} {n:Nat} {kr:St->Option ρ} {ke:Nat->St->Option ρ} {s:St} {t:Option ρ} {r:ρ} (e:Dv cP Fu c (fun s=>lG c hs l n kr ke (s.cutH hs l n)) kr ke s=t) (h:t=some r):lG c hs l n kr ke s=some r:=XJ (e.trans h)
def K8 (x0:List Int):Option Bool:=cF 11 Ai [.lst (.int .u8) x0] []
def OW (x0:List Int):Option Bool:=cF 21 Lh [.lst (.int .u8) x0] []
def EZ (x0 x1:Int):Option (J×Bool):=cF 37 BN [.int .i64 x0,.int .i64 x1] []
def GF (x0 x1:Int):Option (J×Bool):=cF 38 BO [.int .i64 x0,.int .i64 x1] []
def GG (x0 x1:Int) (x2:List AI):Option (J×List Int×Bool):=cF 47 Ac [.int .i64 x0,.int .i64 x1,.lst AM x2] []
def Gd (x0 x1:List ByteArray):Option Bool:=cF 48 Bp [.lst .str x0,.lst .str x1] []
def Ff (x0:List Int):Option (Int×Int×List AI):=cF 49 D9 [.lst (.int .u8) x0] []
def E_ (x0:J):Option Bool:=cF 50 Bq [.agg (AJ.enc x0)] []
def Gw (x0:Int):Option Int:=cF 51 Gr [.int .i64 x0] []
def GH (x0 x1:Int) (x2:List AI):Option (J×List Int×Bool):=cF 52 Ag [.int .i64 x0,.int .i64 x1,.lst AM x2] []
def Ho (x0 x1:List Int):Option Bool:=cF 53 B3 [.lst .W x0,.lst .W x1] []
def Ge (x0:J):Option Bool:=cF 54 Br [.agg (AJ.enc x0)] []
def GI (x0:AF):Option Bool:=cF 55 Dw [.agg (AK.enc x0)] []
def Kc (x0:List Int):Option AY:=cF 79 CS [.lst (.int .u8) x0] []
def CT (x0 x1 x2:Int):Option Bool:=cF 80 Ie [.int .i64 x0,.int .i64 x1,.int .i64 x2] []
def BX (x0 x1 x2:Int):Option Bool:=cF 82 F9 [.int .i64 x0,.int .i64 x1,.int .i64 x2] []
def B4 (x1:Int) (b0:AY):Option (Int×AY):=cF 85 Fa [.ptr 0 0,.int .i64 x1] [.agg (BV.enc b0)]
def Cx (b0:AY):Option (Int×AY):=cF 87 F_ [.ptr 0 0] [.agg (BV.enc b0)]
def Lk (x0:List Int) (x1:Int):Option Bool:=cF 90 DK [.lst .W x0,.int .i64 x1] []
def C8 (x0:List Int) (x1:Int):Option Bool:=cF 93 B_ [.lst .W x0,.int .i64 x1] []
def Hp (x0:AI) (x1:Int):Option Bool:=cF 124 DC [.agg (AM.enc x0),.int .i64 x1] []
def Ke (x0:Bool):Option Int:=cF 125 Gs [.bool x0] []
def C1 (x1:AI) (b0:J):Option (Bool×J):=cF 126 C0 [.ptr 0 0,.agg (AM.enc x1)] [.agg [.new 94 AK b0.1,.new 89 Ah b0.2.1,.new 183 AB b0.2.2.1,.new 9 .str b0.2.2.2]]
def JA (x1:List Int) (b0:AY):Option (Dh×AY):=cF 127 BW [.ptr 0 0,.lst (.int .u8) x1] [.agg (BV.enc b0)]
def Ll (x0:Int) (x1:AI):Option Bool:=cF 128 E9 [.int .i64 x0,.agg (AM.enc x1)] []
def Ig (x1:AI) (b0:J):Option (Int×J):=cF 129 If [.ptr 0 0,.agg (AM.enc x1)] [.agg (AJ.enc b0)]
def JB (x0:J):Option J:=cF 130 CX [.agg (AJ.enc x0)] []
def GJ (x1:List Int) (b0:AY):Option (Int×AY):=cF 143 EY [.ptr 0 0,.lst .W x1] [.agg (BV.enc b0)]
def D_ (x0:List Int) (x1:Int):Option Int:=cF 148 BE [.lst .W x0,.int .i64 x1] []
def EA (x1:AI) (b0:J):Option (Bool×J):=cF 154 Bh [.ptr 0 0,.agg (AM.enc x1)] [.agg [.new 94 AK b0.1,.new 89 Ah b0.2.1,.new 183 AB b0.2.2.1,.new 9 .str b0.2.2.2]]
def DM (x1:U) (b0:J):Option (Bool×J):=cF 156 Bs [.ptr 0 0,.agg (AB.enc x1)] [.agg [.new 94 AK b0.1,.new 89 Ah b0.2.1,.new 183 AB b0.2.2.1,.new 9 .str b0.2.2.2]]
def Hq (b0:AY):Option (ByteArray×AY):=cF 157 Fb [.ptr 0 0] [.agg (BV.enc b0)]
def GK (x1:AI) (b0:J):Option (Int×J):=cF 158 BP [.ptr 0 0,.agg (AM.enc x1)] [.agg (AJ.enc b0)]
def ER (x1:U) (b0:J):Option J:=cF 159 Gt [.ptr 0 0,.agg (AB.enc x1)] [.agg (AJ.enc b0)]
def Fc (x1:U) (b0:J):Option (Int×J):=cF 160 DD [.ptr 0 0,.agg (AB.enc x1)] [.agg (AJ.enc b0)]
def JC (x1:List ByteArray) (b0:AY):Option (ByteArray×AY):=cF 166 GB [.ptr 0 0,.lst .str x1] [.agg (BV.enc b0)]
def EB (x1:Nat) (x2:Int) (x3:ByteArray) (b0:J):Option J:=cF 169 Bo [.ptr 0 0,.eptr 2 x1 0,.int .i64 x2,.str x3] [.agg [.new 94 AK b0.1,.new 89 Ah b0.2.1,.new 183 AB b0.2.2.1,.new 9 .str b0.2.2.2]]
def Dn (x1:U) (b0:J):Option (Bool×J):=cF 170 Dm [.ptr 0 0,.agg (AB.enc x1)] [.agg [.new 94 AK b0.1,.new 89 Ah b0.2.1,.new 183 AB b0.2.2.1,.new 9 .str b0.2.2.2]]
def Cc (x1:Nat) (x2:U) (b0:J):Option (Bool×J):=cF 171 Be [.ptr 0 0,.eptr 2 x1 0,.agg (AB.enc x2)] [.agg [.new 94 AK b0.1,.new 89 Ah b0.2.1,.new 183 AB b0.2.2.1,.new 9 .str b0.2.2.2]]
def DN (x1:Nat) (x2:U) (b0:J):Option (Bool×J):=cF 172 Bt [.ptr 0 0,.eptr 2 x1 0,.agg (AB.enc x2)] [.agg [.new 94 AK b0.1,.new 89 Ah b0.2.1,.new 183 AB b0.2.2.1,.new 9 .str b0.2.2.2]]
def Di (x1:AC) (b0:J):Option J:=cF 173 Gu [.ptr 0 0,.agg (Cw.enc x1)] [.agg (AJ.enc b0)]
def GL (x1:U) (b0:J):Option (Int×J):=cF 174 Ad [.ptr 0 0,.agg (AB.enc x1)] [.agg (AJ.enc b0)]
def Hr (x1:U) (b0:J):Option (Int×J):=cF 175 DE [.ptr 0 0,.agg (AB.enc x1)] [.agg (AJ.enc b0)]
def Hs (x0:AF) (x1:U):Option (AF×U×Bool):=cF 176 At [.agg (AK.enc x0),.agg (AB.enc x1)] []
def Ht (x0:AF) (x1:U):Option (AF×U×Bool):=cF 182 Bg [.agg (AK.enc x0),.agg (AB.enc x1)] []
def BY (x0:List U) (x1:U):Option Bool:=cF 183 Au [.lst AB x0,.clo 184 AB x1] []
def C9 (x0 x1:U):Option Bool:=cF 184 CA [.agg (AB.enc x0),.fptr [.int .i64 x1.1,.int .i64 x1.2.1,.int .i64 x1.2.2.1,.int .i64 x1.2.2.2.1,.int .i64 x1.2.2.2.2.1,.str x1.2.2.2.2.2] 0] []
def Gf (x0:List U) (x1:ByteArray):Option ByteArray:=cF 185 Bu [.lst AB x0,.str x1] []
def Gx (x0:Int):Option Int:=cF 186 Gv [.int .i64 x0] []
def Gg (x0:List U) (x1:ByteArray):Option ByteArray:=cF 187 Bb [.lst AB x0,.str x1] []
def JD (x0:AF):Option Bool:=cF 188 GE [.agg (AK.enc x0)] []
def Bf (x0:List U) (x1:U):Option Int:=cF 189 AR [.lst AB x0,.clo 184 AB x1] []
def Bn (q0:List U) (q1 q2:Int):Option (List U):=(cP 155 [.new 183 AB q0,.int .i64 q1,.int .i64 q2] []).bind (Cp [(.own 183 AB)])
theorem FX {x0:List U} {i j:Nat} (hi:i<=j) (hj:j<=x0.length):Bn x0 (i:Int) (j:Int)=some (x0.take i++x0.drop j):=by
 unfold Bn cP
 rw [XK (r:=[.new 183 AB (x0.take i++x0.drop j)]) rfl (ZD (t:=183) (K:=AB) (xs:=x0) hi hj)]
 rfl

def OX:=cG H7 (AW Ai) (AW Ai) kx
def Fg:=kE 0 [] [3,6] 11 OX kx
def IK:St->Option (RT (CU.outs Ai)):=lG Hz [] [3,5,6,12] 11 (AW Ai) Fg
def OY:=kB [] [3,5,6,12] 11 IK
def JE:=cG Hy OY (AW Ai) Fg
def OZ:=kB [] [3,5,6,12] 11 JE
def JF:=kE 1 [] [3,5,6,12] 11 JE Fg
def Oa:=cG Hx OZ (AW Ai) JF
def Ob:=kE 2 [] [3,5,6,12,13] 11 Oa JF
def NU:St->Option (RT (CU.outs Ai)):=lG Ix [] [3,5,6,12,13,14] 11 (AW Ai) Ob
def Oc:=cG H6 (AW Ai) (AW Ai) kx
def Od:=kE 4 [] [] 11 Oc kx
def NV:St->Option (RT (CU.outs Ai)):=lG H5 [] [3,6,15] 11 (AW Ai) Od
def By (x0:Int) (x1:List AI) (x2:Int) (x3:Bool) (x4:Int) (x5:List Int) (x6:List AF) (x7:List AC) (x8:List U) (x9:List ByteArray) (x10:J):Option Bool:=NU ⟨[(3,.int .i64 x0),(5,.lst AM x1),(6,.ptr 9 0),(12,.int .i64 x2),(13,.bool x3),(14,.int .i64 x4)],[.dead,.dead,.dead,.dead,.rows 3 .W x5,.rows 94 AK x6,.rows 89 Ah x7,.rows 183 AB x8,.rows 9 .str x9,.var [.row 5,.row 6,.row 7,.row 8],.var (AJ.enc x10)]⟩
def Cg (x0 x1:Int) (x2:List Int) (x3:List AF) (x4:List AC) (x5:List U) (x6:List ByteArray) (x7:J):Option Bool:=NV ⟨[(3,.int .i64 x0),(6,.ptr 9 0),(15,.int .i64 x1)],[.dead,.dead,.dead,.dead,.rows 3 .W x2,.rows 94 AK x3,.rows 89 Ah x4,.rows 183 AB x5,.rows 9 .str x6,.var [.row 5,.row 6,.row 7,.row 8],.var (AJ.enc x7)]⟩
def Ch (x0:Int) (x1:List AI) (x2:Int) (x3:List Int) (x4:List AF) (x5:List AC) (x6:List U) (x7:List ByteArray) (x8:J):Option Bool:=IK ⟨[(3,.int .i64 x0),(5,.lst AM x1),(6,.ptr 9 0),(12,.int .i64 x2)],[.dead,.dead,.dead,.dead,.rows 3 .W x3,.rows 94 AK x4,.rows 89 Ah x5,.rows 183 AB x6,.rows 9 .str x7,.var [.row 5,.row 6,.row 7,.row 8],.var (AJ.enc x8)]⟩
def FJ (x0:Int) (x1:List AI) (x2:Int) (x3:Bool) (x4:Int) (x5:List Int) (x6:List AF) (x7:List AC) (x8:List U) (x9:List ByteArray) (x10:J):Option Bool:=(if (decide (x4<(x1.length:Int)))=true then (if x3=true then (By x0 x1 x2 true (i64.wrap (x4+1)) x5 x6 x7 x8 x9 x10) else (if 0<=x4 then (if x4<(x1.length:Int) then (if (((x1.getD x4.toNat (0,0,0,AA)).1)==1)=true then (if 0<=x4 then (if x4<(x1.length:Int) then (if 0<=x2 then (if x2<(x9.length:Int) then (By x0 x1 x2 (((((x1.getD x4.toNat (0,0,0,AA)).2).2).2).toList==(x9.getD x2.toNat AA).toList) (i64.wrap (x4+1)) x5 x6 x7 x8 x9 x10) else none) else none) else none) else none) else (By x0 x1 x2 false (i64.wrap (x4+1)) x5 x6 x7 x8 x9 x10)) else none) else none)) else (if (!x3)=true then (some false) else (Ch x0 x1 (i64.wrap (x2+1)) x5 x6 x7 x8 x9 x10)))
def FK (x0 x1:Int) (x2:List Int) (x3:List AF) (x4:List AC) (x5:List U) (x6:List ByteArray) (x7:J):Option Bool:=(if (decide (x1<x0))=true then (if 0<=x1 then (if x1<(x3.length:Int) then ((GI (x3.getD x1.toNat (0,0,AA))).bind fun y9=>(if (!y9)=true then (some false) else (Cg x0 (i64.wrap (x1+1)) x2 x3 x4 x5 x6 x7))) else none) else none) else (some true))
def FM (x0:Int) (x1:List AI) (x2:Int) (x3:List Int) (x4:List AF) (x5:List AC) (x6:List U) (x7:List ByteArray) (x8:J):Option Bool:=(if (decide (x2<(x7.length:Int)))=true then (By x0 x1 x2 false 0 x3 x4 x5 x6 x7 x8) else (Cg x0 0 x3 x4 x5 x6 x7 x8))
def K9 (x0:List Int):Option Bool:=((OW x0).bind fun y1=>(if y1=true then (some true) else ((Ff x0).bind fun y2=>((GG y2.1 y2.2.1 y2.2.2).bind fun y3=>((GH y2.1 y2.2.1 y2.2.2).bind fun y4=>(if (!y3.2.2)=false then ((Ho y3.2.1 y4.2.1).bind fun y5=>(if (!y5)=false then ((Gd y3.1.2.2.2 y4.1.2.2.2).bind fun y6=>(if (!y6)=false then (if ((y3.1.1.length:Int) != y2.1)=false then ((E_ y3.1).bind fun y7=>(if (!y7)=false then ((Ge y3.1).bind fun y8=>(if (!y8)=true then (some false) else (Ch y2.1 y2.2.2 0 y3.2.1 y3.1.1 y3.1.2.1 y3.1.2.2.1 y3.1.2.2.2 y4.1))) else (some false))) else (some false)) else (some false))) else (some false))) else (some false)))))))
theorem IL:YH FJ By:=lS (by kernel_rfl)
theorem IM:an FK Cg:=lS (by kernel_rfl)
theorem IN:aY FM Ch:=lS (by kernel_rfl)
theorem Q0:Wa K9 K8:=cT Ai rfl ⟨rfl,rfl⟩ (by kernel_rfl)
def V8 (x0:List Int):Option Bool:=(some (decide ((x0.length:Int)>1048576)))
theorem V9:Wa V8 OW:=cT Lh rfl ⟨rfl,rfl⟩ (by kernel_rfl)
def NW:=cG H9 (AW BN) (AW BN) kx
def NX:=kE 0 [] [4,6] 5 NW kx
def Mg:St->Option (RT (CU.outs BN)):=lG H8 [] [1,4,6,7] 5 (AW BN) NX
def DO (x0 x1:Int) (x2:List AC) (x3:List AF) (x4:List U) (x5:List ByteArray) (x6:List AF) (x7:List AC) (x8:List AF):Option (J×Bool):=Mg ⟨[(1,.int .i64 x0),(4,.ptr 1 0),(6,.ptr 4 0),(7,.int .i64 x1)],[.rows 89 Cw x2,.var [.lst AK x3,.row 0,.lst AB x4,.lst .str x5],.frz AK x6,.rows 89 Cw x7,.var [.lst AK x8,.row 3,.nil,.nil]]⟩
def HG (x0 x1:Int) (x2:Bool) (x3:List AC) (x4:List AF) (x5:List U) (x6:List ByteArray):Option (J×Bool):=cG H_ (AW BN) (AW BN) kx ⟨[(0,.int .i64 x0),(1,.int .i64 x1),(4,.ptr 1 0),(15,.bool x2)],[.rows 89 Cw x3,.var [.lst AK x4,.row 0,.lst AB x5,.lst .str x6]]⟩
def En (x0 x1:Int) (x2:List AC) (x3:List AF) (x4:List U) (x5:List ByteArray) (x6:List AF) (x7:List AC) (x8:List AF):Option (J×Bool):=(if (decide (x1<=x0))=true then (if x7.length+([(x1,0,AA,([]:List U),false,([]:List Int),false)]:List AC).length<=68719476736 then (DO x0 (i64.wrap (x1+1)) x2 x3 x4 x5 x6 (x7++([(x1,0,AA,([]:List U),false,([]:List Int),false)]:List AC)) x8) else none) else (some ((x8,x7,[],[]),true)))
def HH (x0 x1:Int) (x2:Bool) (x3:List AC) (x4:List AF) (x5:List U) (x6:List ByteArray):Option (J×Bool):=(if 0<=x0 then (if x0<=68719476736 then (DO x1 1 x3 x4 x5 x6 (List.replicate x0.toNat (0,0,AA)) ([]:List AC) (List.replicate x0.toNat (0,0,AA))) else none) else none)
def KA (x0 x1:Int):Option (J×Bool):=((CT x0 1 5).bind fun y1=>(if (!y1)=false then ((CT x1 1 4).bind fun y2=>(if (!y2)=true then (some (([],([]:List AC),[],[]),false)) else (HG x0 x1 (!y2) ([]:List AC) ([]:List AF) ([]:List U) ([]:List ByteArray)))) else (some (([],([]:List AC),[],[]),false))))
theorem HI:aY En DO:=lS (by kernel_rfl)
theorem Mh:Z1 HH HG:=jS (by kernel_rfl)
theorem P3:MI KA EZ:=cT BN rfl ⟨rfl,rfl⟩ (by kernel_rfl)
def NY:=cG IB (AW BO) (AW BO) kx
def NZ:=kE 0 [] [4,6] 15 NY kx
def Mi:St->Option (RT (CU.outs BO)):=lG IA [] [4,6,20,21] 15 (AW BO) NZ
def DP (x0 x1:Int) (x2:List AF) (x3:List AC) (x4:List U) (x5:List ByteArray) (x6 x7:List AF) (x8:List AC) (x9:List U) (x10:List ByteArray):Option (J×Bool):=Mi ⟨[(4,.ptr 4 0),(6,.ptr 14 0),(20,.int .i64 x0),(21,.int .i64 x1)],[.rows 94 AK x2,.rows 89 Ah x3,.rows 183 AB x4,.rows 9 .str x5,.var [.row 0,.row 1,.row 2,.row 3],.dead,.rows 94 AK x6,.dead,.dead,.dead,.rows 94 AK x7,.rows 89 Ah x8,.rows 183 AB x9,.rows 9 .str x10,.var [.row 10,.row 11,.row 12,.row 13]]⟩
def HJ (x0 x1:Int) (x2:Bool) (x3:List AF) (x4:List AC) (x5:List U) (x6:List ByteArray):Option (J×Bool):=cG IC (AW BO) (AW BO) kx ⟨[(0,.int .i64 x0),(1,.int .i64 x1),(4,.ptr 4 0),(15,.bool x2)],[.rows 94 AK x3,.rows 89 Ah x4,.rows 183 AB x5,.rows 9 .str x6,.var [.row 0,.row 1,.row 2,.row 3]]⟩
def Eo (x0 x1:Int) (x2:List AF) (x3:List AC) (x4:List U) (x5:List ByteArray) (x6 x7:List AF) (x8:List AC) (x9:List U) (x10:List ByteArray):Option (J×Bool):=(if (decide (x1<x0))=true then (if x8.length+([((i64.wrap (x1+1)),0,AA,([]:List U),false,([]:List Int),false)]:List AC).length<=68719476736 then (DP x0 (i64.wrap (x1+1)) x2 x3 x4 x5 x6 x7 (x8++([((i64.wrap (x1+1)),0,AA,([]:List U),false,([]:List Int),false)]:List AC)) x9 x10) else none) else (some ((x7,x8,x9,x10),true)))
def HK (x0 x1:Int) (x2:Bool) (x3:List AF) (x4:List AC) (x5:List U) (x6:List ByteArray):Option (J×Bool):=(if 0<=x0 then (if x0<=68719476736 then (DP x1 0 x3 x4 x5 x6 ([]:List AF) (List.replicate x0.toNat (0,0,AA)) ([]:List AC) ([]:List U) ([]:List ByteArray)) else none) else none)
def KB (x0 x1:Int):Option (J×Bool):=((BX x0 1 5).bind fun y1=>(if (!y1)=false then ((BX x1 1 4).bind fun y2=>(if (!y2)=true then (some ((([]:List AF),([]:List AC),([]:List U),([]:List ByteArray)),false)) else (HJ x0 x1 (!y2) ([]:List AF) ([]:List AC) ([]:List U) ([]:List ByteArray)))) else (some ((([]:List AF),([]:List AC),([]:List U),([]:List ByteArray)),false))))
theorem HL:YH Eo DP:=lS (by kernel_rfl)
theorem Mj:Z1 HK HJ:=jS (by kernel_rfl)
theorem P4:MI KB GF:=cT BO rfl ⟨rfl,rfl⟩ (by kernel_rfl)
def Na:=cG G9 (AW Ac) (AW Ac) kx
def Nb:=kE 2 [(13,15)] [6,9,13] 16 Na kx
def Mk:St->Option (RT (CU.outs Ac)):=lG G8 [(13,15)] [6,9,13,42,43,44] 16 (AW Ac) Nb
def Nc:=cG Ej (AW Ac) (AW Ac) kx
def Nd:=kE 0 [] [2,6,9] 15 Nc kx
def Ml:St->Option (RT (CU.outs Ac)):=lG ID [] [1,2,6,9,30,31,32] 15 (AW Ac) Nd
def DQ (x0:List AI) (x1 x2:Int) (x3:List AF) (x4:List AC) (x5:List U) (x6:List ByteArray) (x7:List Int) (x8:List AF) (x9:List AC) (x10:List U) (x11:List ByteArray) (x12:List Int):Option (J×List Int×Bool):=Mk ⟨[(6,.ptr 4 0),(9,.ptr 14 0),(13,.row 15),(42,.lst AM x0),(43,.int .i64 x1),(44,.int .i64 x2)],[.rows 94 AK x3,.rows 89 Ah x4,.rows 183 AB x5,.rows 9 .str x6,.var [.row 0,.row 1,.row 2,.row 3],.rows 3 .W x7,.dead,.dead,.dead,.dead,.rows 94 AK x8,.rows 89 Ah x9,.rows 183 AB x10,.rows 9 .str x11,.var [.row 10,.row 11,.row 12,.row 13],.rows 3 .W x12]⟩
def HM (x0:List AI) (x1:List AF) (x2:List AC) (x3:List U) (x4:List ByteArray) (x5:List Int) (x6:List AF) (x7:List AC) (x8:List U) (x9:List ByteArray):Option (J×List Int×Bool):=cG Ej (AW Ac) (AW Ac) kx ⟨[(2,.lst AM x0),(6,.ptr 4 0),(9,.ptr 14 0)],[.rows 94 AK x1,.rows 89 Ah x2,.rows 183 AB x3,.rows 9 .str x4,.var [.row 0,.row 1,.row 2,.row 3],.rows 3 .W x5,.dead,.dead,.dead,.dead,.rows 94 AK x6,.rows 89 Ah x7,.rows 183 AB x8,.rows 9 .str x9,.var [.row 10,.row 11,.row 12,.row 13]]⟩
def DR (x0:Int) (x1 x2:List AI) (x3 x4:Int) (x5:List AF) (x6:List AC) (x7:List U) (x8:List ByteArray) (x9:List Int) (x10:List AF) (x11:List AC) (x12:List U) (x13:List ByteArray):Option (J×List Int×Bool):=Ml ⟨[(1,.int .i64 x0),(2,.lst AM x1),(6,.ptr 4 0),(9,.ptr 14 0),(30,.lst AM x2),(31,.int .i64 x3),(32,.int .i64 x4)],[.rows 94 AK x5,.rows 89 Ah x6,.rows 183 AB x7,.rows 9 .str x8,.var [.row 0,.row 1,.row 2,.row 3],.rows 3 .W x9,.dead,.dead,.dead,.dead,.rows 94 AK x10,.rows 89 Ah x11,.rows 183 AB x12,.rows 9 .str x13,.var [.row 10,.row 11,.row 12,.row 13]]⟩
def HN (x0:Int) (x1:List AI) (x2:Bool) (x3:List AF) (x4:List AC) (x5:List U) (x6:List ByteArray) (x7:List Int) (x8:List AF) (x9:List AC) (x10:List U) (x11:List ByteArray):Option (J×List Int×Bool):=cG G_ (AW Ac) (AW Ac) kx ⟨[(1,.int .i64 x0),(2,.lst AM x1),(6,.ptr 4 0),(9,.ptr 14 0),(28,.bool x2)],[.rows 94 AK x3,.rows 89 Ah x4,.rows 183 AB x5,.rows 9 .str x6,.var [.row 0,.row 1,.row 2,.row 3],.rows 3 .W x7,.dead,.dead,.dead,.dead,.rows 94 AK x8,.rows 89 Ah x9,.rows 183 AB x10,.rows 9 .str x11,.var [.row 10,.row 11,.row 12,.row 13]]⟩
def Ep (x0:List AI) (x1 x2:Int) (x3:List AF) (x4:List AC) (x5:List U) (x6:List ByteArray) (x7:List Int) (x8:List AF) (x9:List AC) (x10:List U) (x11:List ByteArray) (x12:List Int):Option (J×List Int×Bool):=(if (decide (x2<x1))=true then (if 0<=x2 then (if x2<(x0.length:Int) then ((C1 (x0.getD x2.toNat (0,0,0,AA)) (x8,x9,x10,x11)).bind fun y3=>((Ke y3.1).bind fun y4=>(if x12.length+([y4]:List Int).length<=68719476736 then (DQ x0 x1 (i64.wrap (x2+1)) x3 x4 x5 x6 x7 y3.2.1 y3.2.2.1 y3.2.2.2.1 y3.2.2.2.2 (x12++([y4]:List Int))) else none))) else none) else none) else (some ((x8,x9,x10,x11),x12,true)))
def HO (x0:List AI) (x1:List AF) (x2:List AC) (x3:List U) (x4:List ByteArray) (x5:List Int) (x6:List AF) (x7:List AC) (x8:List U) (x9:List ByteArray):Option (J×List Int×Bool):=(DQ x0 (x0.length:Int) 0 x1 x2 x3 x4 x5 x6 x7 x8 x9 ([]:List Int))
def Eq (x0:Int) (x1 x2:List AI) (x3 x4:Int) (x5:List AF) (x6:List AC) (x7:List U) (x8:List ByteArray) (x9:List Int) (x10:List AF) (x11:List AC) (x12:List U) (x13:List ByteArray):Option (J×List Int×Bool):=(if (decide (x4<x3))=true then (if 0<=x4 then (if x4<(x2.length:Int) then ((Hp (x2.getD x4.toNat (0,0,0,AA)) x0).bind fun y2=>(if (!y2)=true then (some ((([]:List AF),([]:List AC),([]:List U),([]:List ByteArray)),([]:List Int),false)) else (DR x0 x1 x2 x3 (i64.wrap (x4+1)) x5 x6 x7 x8 x9 x10 x11 x12 x13))) else none) else none) else (HM x1 x5 x6 x7 x8 x9 x10 x11 x12 x13))
def HQ (x0:Int) (x1:List AI) (x2:Bool) (x3:List AF) (x4:List AC) (x5:List U) (x6:List ByteArray) (x7:List Int) (x8:List AF) (x9:List AC) (x10:List U) (x11:List ByteArray):Option (J×List Int×Bool):=(DR x0 x1 x1 (x1.length:Int) 0 x3 x4 x5 x6 x7 x8 x9 x10 x11)
def KC (x0 x1:Int) (x2:List AI):Option (J×List Int×Bool):=((GF x0 x1).bind fun y1=>(if (!y1.2)=false then (if (decide ((x2.length:Int)>80))=true then (some ((([]:List AF),([]:List AC),([]:List U),([]:List ByteArray)),([]:List Int),false)) else (HN x1 x2 (decide ((x2.length:Int)>80)) ([]:List AF) ([]:List AC) ([]:List U) ([]:List ByteArray) ([]:List Int) y1.1.1 y1.1.2.1 y1.1.2.2.1 y1.1.2.2.2)) else (some ((([]:List AF),([]:List AC),([]:List U),([]:List ByteArray)),([]:List Int),false))))
theorem HR:aZ Ep DQ:=lS (by kernel_rfl)
theorem Mm:aE HO HM:=jS (by kernel_rfl)
theorem HS:aa Eq DR:=lS (by kernel_rfl)
theorem Mn:aF HQ HN:=jS (by kernel_rfl)
theorem P5:YG KC GG:=cT Ac rfl ⟨rfl,rfl⟩ (by kernel_rfl)
def Oe:=cG Iz (AW Bp) (AW Bp) kx
def Of:=kE 0 [] [] 0 Oe kx
def Nf:St->Option (RT (CU.outs Bp)):=lG Iy [] [0,1,5] 0 (AW Bp) Of
def Do (x0 x1:List ByteArray) (x2:Int):Option Bool:=Nf ⟨[(0,.lst .str x0),(1,.lst .str x1),(5,.int .i64 x2)],[]⟩
def FN (x0 x1:List ByteArray) (x2:Int):Option Bool:=(if (decide (x2<(x0.length:Int)))=true then (if 0<=x2 then (if x2<(x0.length:Int) then (if 0<=x2 then (if x2<(x1.length:Int) then (if (!((x0.getD x2.toNat AA).toList==(x1.getD x2.toNat AA).toList))=true then (some false) else (Do x0 x1 (i64.wrap (x2+1)))) else none) else none) else none) else none) else (some true))
def K_ (x0 x1:List ByteArray):Option Bool:=(if ((x0.length:Int) != (x1.length:Int))=true then (some false) else (Do x0 x1 0))
theorem IP:YG FN Do:=lS (by kernel_rfl)
theorem Q1:MI K_ Gd:=cT Bp rfl ⟨rfl,rfl⟩ (by kernel_rfl)
def JG (x0:List Int):Option (Int×Int×List AI):=((Kc x0).bind fun y1=>((JA x0 y1).bind fun y2=>(some (y2.1.1,y2.1.2.1,y2.1.2.2))))
theorem Og:Wa JG Ff:=cT D9 rfl ⟨rfl,rfl⟩ (by kernel_rfl)
def Oh:=cG I1 (AW Bq) (AW Bq) kx
def Oi:=kE 0 [] [] 1 Oh kx
def Ng:St->Option (RT (CU.outs Bq)):=lG I0 [] [1,6,7,8] 1 (AW Bq) Oi
def Dp (x0:List ByteArray) (x1 x2:Int) (x3:List AF) (x4:List AC) (x5:List U) (x6:List ByteArray):Option Bool:=Ng ⟨[(1,.ptr 0 0),(6,.lst .str x0),(7,.int .i64 x1),(8,.int .i64 x2)],[.var [.lst AK x3,.lst Cw x4,.lst AB x5,.lst .str x6]]⟩
def FO (x0:List ByteArray) (x1 x2:Int) (x3:List AF) (x4:List AC) (x5:List U) (x6:List ByteArray):Option Bool:=(if (decide (x2<x1))=true then (if 0<=x2 then (if x2<(x0.length:Int) then (if 0<=(0:Int) then (if 0<(x6.length:Int) then (if (!((x0.getD x2.toNat AA).toList==(x6.getD (0:Int).toNat AA).toList))=true then (some false) else (Dp x0 x1 (i64.wrap (x2+1)) x3 x4 x5 x6)) else none) else none) else none) else none) else (some true))
def LA (x0:J):Option Bool:=(Dp x0.2.2.2 (x0.2.2.2.length:Int) 0 x0.1 x0.2.1 x0.2.2.1 x0.2.2.2)
theorem IQ:Z1 FO Dp:=lS (by kernel_rfl)
theorem Q2:Wa LA E_:=cT Bq rfl ⟨rfl,rfl⟩ (by kernel_rfl)
def N8 (x0:Int):Option Int:=(if (decide (x0<0))=true then (some 0) else (if 2=0 then none else (some (i64.wrap ((i64.wrap (Int.tdiv x0 2))+1)))))
theorem Te:Wa N8 Gw:=cT Gr rfl ⟨rfl,rfl⟩ (by kernel_rfl)
def Nh:=cG HA (AW Ag) (AW Ag) kx
def Ni:=kE 2 [(12,2)] [6,9,12] 3 Nh kx
def Mo:St->Option (RT (CU.outs Ag)):=lG IG [(12,2)] [2,6,9,12,13] 3 (AW Ag) Ni
def Nj:=cG Ek (AW Ag) (AW Ag) kx
def IR:=kE 0 [] [2,6,9,10] 2 Nj kx
def HT:St->Option (RT (CU.outs Ag)):=lG IF [] [1,2,6,9,10,11] 2 (AW Ag) IR
def Nk:=kB [] [1,2,6,9,10,11] 2 HT
def HU (x0:Int) (x1:List AI) (x2:Bool) (x3:Int) (x4:Bool) (x5 x6:J):Option (J×List Int×Bool):=cG IE Nk (AW Ag) IR ⟨[(1,.int .i64 x0),(2,.lst AM x1),(6,.ptr 0 0),(9,.ptr 1 0),(10,.bool x2),(11,.int .i64 x3),(26,.bool x4)],[.var (AJ.enc x5),.var (AJ.enc x6)]⟩
def DS (x0:List AI) (x1:Int) (x2 x3:J) (x4:List Int):Option (J×List Int×Bool):=Mo ⟨[(2,.lst AM x0),(6,.ptr 0 0),(9,.ptr 1 0),(12,.row 2),(13,.int .i64 x1)],[.var (AJ.enc x2),.var (AJ.enc x3),.rows 3 .W x4]⟩
def DU (x0:List AI) (x1:Bool) (x2 x3:J):Option (J×List Int×Bool):=cG Ek (AW Ag) (AW Ag) kx ⟨[(2,.lst AM x0),(6,.ptr 0 0),(9,.ptr 1 0),(10,.bool x1)],[.var (AJ.enc x2),.var (AJ.enc x3)]⟩
def CY (x0:Int) (x1:List AI) (x2:Bool) (x3:Int) (x4 x5:J):Option (J×List Int×Bool):=HT ⟨[(1,.int .i64 x0),(2,.lst AM x1),(6,.ptr 0 0),(9,.ptr 1 0),(10,.bool x2),(11,.int .i64 x3)],[.var (AJ.enc x4),.var (AJ.enc x5)]⟩
def HV (x0:Int) (x1:List AI) (x2:Bool) (x3:Int) (x4:Bool) (x5 x6:J):Option (J×List Int×Bool):=(if (decide ((x1.length:Int)<=80))=true then (if 0<=x3 then (if x3<(x1.length:Int) then ((Ll x0 (x1.getD x3.toNat (0,0,0,AA))).bind fun y2=>(CY x0 x1 y2 (i64.wrap (x3+1)) x5 x6)) else none) else none) else (CY x0 x1 false (i64.wrap (x3+1)) x5 x6))
def Er (x0:List AI) (x1:Int) (x2 x3:J) (x4:List Int):Option (J×List Int×Bool):=(if (decide (x1<(x0.length:Int)))=true then (if 0<=x1 then (if x1<(x0.length:Int) then ((Ig (x0.getD x1.toNat (0,0,0,AA)) x3).bind fun y3=>(if x4.length+([y3.1]:List Int).length<=68719476736 then (DS x0 (i64.wrap (x1+1)) x2 y3.2 (x4++([y3.1]:List Int))) else none)) else none) else none) else ((JB x3).bind fun y4=>(some (y4,x4,true))))
def HW (x0:List AI) (x1:Bool) (x2 x3:J):Option (J×List Int×Bool):=(if (!x1)=true then (some ((([]:List AF),([]:List AC),([]:List U),([]:List ByteArray)),([]:List Int),false)) else (DS x0 0 x2 x3 ([]:List Int)))
def Es (x0:Int) (x1:List AI) (x2:Bool) (x3:Int) (x4 x5:J):Option (J×List Int×Bool):=(if (decide (x3<(x1.length:Int)))=true then (if x2=true then (HU x0 x1 x2 x3 x2 x4 x5) else (DU x1 x2 x4 x5)) else (DU x1 x2 x4 x5))
def KD (x0 x1:Int) (x2:List AI):Option (J×List Int×Bool):=((EZ x0 x1).bind fun y1=>(CY x1 x2 y1.2 0 (([]:List AF),([]:List AC),([]:List U),([]:List ByteArray)) y1.1))
theorem Mp:Z1 HV HU:=jS (by kernel_rfl)
theorem HX:YS Er DS:=lS (by kernel_rfl)
theorem Mq:YR HW DU:=jS (by kernel_rfl)
theorem HY:aR Es CY:=lS (by kernel_rfl)
theorem P6:YG KD GH:=cT Ag rfl ⟨rfl,rfl⟩ (by kernel_rfl)
def P7:=cG Ju (AW B3) (AW B3) kx
def P8:=kE 0 [] [] 0 P7 kx
def Oj:St->Option (RT (CU.outs B3)):=lG Jt [] [0,1,5] 0 (AW B3) P8
def EC (x0 x1:List Int) (x2:Int):Option Bool:=Oj ⟨[(0,.lst .W x0),(1,.lst .W x1),(5,.int .i64 x2)],[]⟩
def Fh (x0 x1:List Int) (x2:Int):Option Bool:=(if (decide (x2<(x0.length:Int)))=true then (if 0<=x2 then (if x2<(x0.length:Int) then (if 0<=x2 then (if x2<(x1.length:Int) then (if ((x0.getD x2.toNat 0) != (x1.getD x2.toNat 0))=true then (some false) else (EC x0 x1 (i64.wrap (x2+1)))) else none) else none) else none) else none) else (some true))
def Lz (x0 x1:List Int):Option Bool:=(if ((x0.length:Int) != (x1.length:Int))=true then (some false) else (EC x0 x1 0))
theorem JH:YG Fh EC:=lS (by kernel_rfl)
theorem Rv:MI Lz Ho:=cT B3 rfl ⟨rfl,rfl⟩ (by kernel_rfl)
def Ok:=cG I3 (AW Br) (AW Br) kx
def Ol:=kE 0 [] [] 1 Ok kx
def Nl:St->Option (RT (CU.outs Br)):=lG I2 [] [1,3] 1 (AW Br) Ol
def Dq (x0:Int) (x1:J):Option Bool:=Nl ⟨[(1,.ptr 0 0),(3,.int .i64 x0)],[.var (AJ.enc x1)]⟩
def Dr (x0:Int) (x1:J):Option Bool:=(if (decide (x0<(x1.2.2.2.length:Int)))=true then (if 0<=x0 then (if x0<(x1.2.2.2.length:Int) then (if 0<=(0:Int) then (if 0<(x1.2.2.2.length:Int) then (if (!((x1.2.2.2.getD x0.toNat AA).toList==(x1.2.2.2.getD (0:Int).toNat AA).toList))=true then (some false) else (Dq (i64.wrap (x0+1)) x1)) else none) else none) else none) else none) else (some true))
def LB (x0:J):Option Bool:=(Dq 1 x0)
theorem FP:MI Dr Dq:=lS (by kernel_rfl)
theorem Q3:Wa LB Ge:=cT Br rfl ⟨rfl,rfl⟩ (by kernel_rfl)
def GM (x0:Bool) (x1:AF):Option Bool:=cG Kx (AW Dw) (AW Dw) kx ⟨[(1,.ptr 0 0),(20,.bool x0)],[.var (AK.enc x1)]⟩
def KE (x0:Bool) (x1:AF):Option Bool:=(if (decide (x1.2.1>0))=false then (some (x1.2.2.toList==(⟨#[]⟩:ByteArray).toList)) else (some true))
def Mr (x0:AF):Option Bool:=((BX x0.1 0 10000).bind fun y1=>(if (!y1)=false then ((BX x0.2.1 0 x0.1).bind fun y2=>(if (!y2)=false then (if (decide ((x0.2.2.size:Int)>40))=true then (some false) else (GM (decide ((x0.2.2.size:Int)>40)) x0)) else (some false))) else (some false)))
theorem P9:MI KE GM:=jS (by kernel_rfl)
theorem TC:Wa Mr GI:=cT Dw rfl ⟨rfl,rfl⟩ (by kernel_rfl)
def Rw:=cG Ly (AW CS) (AW CS) kx
def L0:=kE 0 [] [0,3] 0 Rw kx
def LC:St->Option (RT (CU.outs CS)):=lG Lx [] [0,3,4] 0 (AW CS) L0
def Rx:=kB [] [0,3,4] 0 LC
def LD (x0:List Int) (x1 x2:Int) (x3:Bool):Option AY:=cG Lw Rx (AW CS) L0 ⟨[(0,.lst (.int .u8) x0),(3,.int .i64 x1),(4,.int .i64 x2),(15,.bool x3)],[]⟩
def FA (x0:List Int) (x1 x2:Int):Option AY:=LC ⟨[(0,.lst (.int .u8) x0),(3,.int .i64 x1),(4,.int .i64 x2)],[]⟩
def LE (x0:List Int) (x1 x2:Int) (x3:Bool):Option AY:=(if 0<=x2 then (if x2<(x0.length:Int) then (FA x0 (F0 .i64 (i64.wrap ((i64.wrap ((i64.wrap (x1*131))+(i64.wrap (x0.getD x2.toNat 0))))+7)) 1073741823) (i64.wrap (x2+1))) else none) else none)
def FB (x0:List Int) (x1 x2:Int):Option AY:=(if (decide (x2<(x0.length:Int)))=true then (if (decide (x2<4000))=true then (LD x0 x1 x2 (decide (x2<4000))) else (some (x0,0,x1))) else (some (x0,0,x1)))
def Tf (x0:List Int):Option AY:=(FA x0 (i64.wrap (14301+(x0.length:Int))) 0)
theorem Q4:YR LE LD:=jS (by kernel_rfl)
theorem Gh:YG FB FA:=lS (by kernel_rfl)
theorem Tg:Wa Tf Kc:=cT CS rfl ⟨rfl,rfl⟩ (by kernel_rfl)
def P_ (x0 x1 x2:Int):Option Bool:=(if (decide (x0>=x1))=true then (some (decide (x0<=x2))) else (some false))
theorem Uj:YG P_ CT:=cT Ie rfl ⟨rfl,rfl⟩ (by kernel_rfl)
def Ms (x0 x1 x2:Int):Option Bool:=(if (decide (x0>=x1))=true then (some (decide (x0<=x2))) else (some false))
theorem TD:YG Ms BX:=cT F9 rfl ⟨rfl,rfl⟩ (by kernel_rfl)
def Hu (x1:Int) (b0:AY):Option (Int×AY):=(if (decide (x1<=0))=true then (some (0,b0)) else (if (decide (x1<=256))=true then ((Cx b0).bind fun y1=>(if x1=0 then none else (some ((Int.tmod y1.1 x1),y1.2)))) else ((Cx b0).bind fun y2=>((Cx y2.2).bind fun y3=>((Cx y3.2).bind fun y4=>((Cx y4.2).bind fun y5=>(if x1=0 then none else (some ((Int.tmod (i64.wrap ((i64.wrap ((i64.wrap ((i64.wrap (y2.1*16777216))+(i64.wrap (y3.1*65536))))+(i64.wrap (y4.1*256))))+y5.1)) x1),y5.2)))))))))
theorem Ry:MI Hu B4:=cT Fa rfl ⟨rfl,rfl⟩ (by kernel_rfl)
def JI (b0:AY):Option (Int×AY):=(if 33<0 then none else (if 45<0 then none else (if (decide (b0.2.1<(b0.1.length:Int)))=true then (if 0<=b0.2.1 then (if b0.2.1<(b0.1.length:Int) then (some ((F0 .i64 (i64.wrap ((F0 .i64 (PG .i64 (Int.fdiv (i64.wrap ((i64.wrap (b0.2.2*6364136223846793005))+1442695040888963407)) (2^(min (33:Int).toNat (IntKind.bits .i64)))) (Int.fdiv (i64.wrap ((i64.wrap (b0.2.2*6364136223846793005))+1442695040888963407)) (2^(min (45:Int).toNat (IntKind.bits .i64))))) 255)+(i64.wrap (b0.1.getD b0.2.1.toNat 0)))) 255),(b0.1,(i64.wrap (b0.2.1+1)),(i64.wrap ((i64.wrap (b0.2.2*6364136223846793005))+1442695040888963407))))) else none) else none) else (some ((F0 .i64 (PG .i64 (Int.fdiv (i64.wrap ((i64.wrap (b0.2.2*6364136223846793005))+1442695040888963407)) (2^(min (33:Int).toNat (IntKind.bits .i64)))) (Int.fdiv (i64.wrap ((i64.wrap (b0.2.2*6364136223846793005))+1442695040888963407)) (2^(min (45:Int).toNat (IntKind.bits .i64))))) 255),(b0.1,b0.2.1,(i64.wrap ((i64.wrap (b0.2.2*6364136223846793005))+1442695040888963407))))))))
theorem TE:Wa JI Cx:=cT F_ rfl ⟨rfl,rfl⟩ (by kernel_rfl)
def TF:=cG Mc (AW DK) (AW DK) kx
def TG:=kE 0 [] [] 0 TF kx
def Rz:St->Option (RT (CU.outs DK)):=lG Mb [] [0,1,5] 0 (AW DK) TG
def Fd (x0:List Int) (x1 x2:Int):Option Bool:=Rz ⟨[(0,.lst .W x0),(1,.int .i64 x1),(5,.int .i64 x2)],[]⟩
def Hv (x0:List Int) (x1 x2:Int):Option Bool:=(if (decide (x2<(x0.length:Int)))=true then (if 0<=x2 then (if x2<(x0.length:Int) then (if ((x0.getD x2.toNat 0)==x1)=true then (some true) else (Fd x0 x1 (i64.wrap (x2+1)))) else none) else none) else (some false))
def QA (x0:List Int) (x1:Int):Option Bool:=(Fd x0 x1 0)
theorem L1:YG Hv Fd:=lS (by kernel_rfl)
theorem Uk:MI QA Lk:=cT DK rfl ⟨rfl,rfl⟩ (by kernel_rfl)
def FE (x0:List Int) (x1:Int):Option Bool:=((D_ x0 x1).bind fun y1=>(some (decide (y1>=0))))
theorem Jh:MI FE C8:=cT B_ rfl ⟨rfl,rfl⟩ (by kernel_rfl)
def JJ (x0:Bool) (x1:AI):Option Bool:=cG Jv (AW DC) (AW DC) kx ⟨[(2,.ptr 0 0),(20,.bool x0)],[.var (AM.enc x1)]⟩
def JK (x0:Bool) (x1:AI):Option Bool:=(if (x1.1==1)=true then ((BX (x1.2.2.2.size:Int) 1 40).bind fun y3=>(some y3)) else (some (x1.2.2.2.toList==(⟨#[]⟩:ByteArray).toList)))
def L3 (x0:AI) (x1:Int):Option Bool:=((BX x0.1 1 4).bind fun y1=>(if (!y1)=false then ((BX x0.2.1 1 x1).bind fun y2=>(if (!y2)=false then (if (decide (x0.2.2.1<0))=true then (some false) else (JJ (decide (x0.2.2.1<0)) x0)) else (some false))) else (some false)))
theorem Om:MI JK JJ:=jS (by kernel_rfl)
theorem R0:MI L3 Hp:=cT DC rfl ⟨rfl,rfl⟩ (by kernel_rfl)
def N9 (x0:Bool):Option Int:=(if x0=true then (some 0) else (some 1))
theorem Th:Wa N9 Ke:=cT Gs rfl ⟨rfl,rfl⟩ (by kernel_rfl)
def GW (x1:AI) (b0:J):Option (Bool×J):=(if (x1.1==1)=true then ((EA x1 b0).bind fun y1=>(some (y1.1,y1.2))) else (if ((b0.2.2.1.length:Int)==0)=true then (some (false,b0)) else (if (b0.2.2.1.length:Int)=0 then none else (if 0<=(Int.tmod x1.2.2.1 (b0.2.2.1.length:Int)) then (if (Int.tmod x1.2.2.1 (b0.2.2.1.length:Int))<(b0.2.2.1.length:Int) then (if (x1.1==4)=true then (if b0.2.2.1.length+([b0.2.2.1.getD ((Int.tmod x1.2.2.1 (b0.2.2.1.length:Int)).toNat) (0,0,0,0,0,AA)]:List U).length<=68719476736 then (some (true,(b0.1,b0.2.1,(b0.2.2.1++([b0.2.2.1.getD ((Int.tmod x1.2.2.1 (b0.2.2.1.length:Int)).toNat) (0,0,0,0,0,AA)]:List U)),b0.2.2.2))) else none) else ((Bn b0.2.2.1 (Int.tmod x1.2.2.1 (b0.2.2.1.length:Int)) (i64.wrap ((Int.tmod x1.2.2.1 (b0.2.2.1.length:Int))+1))).bind fun y2=>(if (x1.1==3)=false then ((DM (b0.2.2.1.getD ((Int.tmod x1.2.2.1 (b0.2.2.1.length:Int)).toNat) (0,0,0,0,0,AA)) (b0.1,b0.2.1,y2,b0.2.2.2)).bind fun y3=>(some (y3.1,y3.2))) else (some (true,(b0.1,b0.2.1,y2,b0.2.2.2)))))) else none) else none))))
theorem MF:MI GW C1:=cT C0 rfl ⟨rfl,rfl⟩ (by kernel_rfl)
def Q5:=cG Jx (AW BW) (AW BW) kx
def Gi:=kE 0 [] [4,5] 6 Q5 kx
def KF:St->Option (RT (CU.outs BW)):=lG Jw [] [0,4,5,6,8,9] 6 (AW BW) Gi
def Q6:=kB [] [0,4,5,6,8,9] 6 KF
def LF:=cG K4 Q6 (AW BW) Gi
def Gj:=kB [] [0,4,5,6,8,9] 6 LF
def Gk:=kE 1 [] [0,4,5,6,8,9] 6 LF Gi
def Ea (x0 x1:Int) (x2:AY) (x3:List AI) (x4 x5:Int) (x6:List AI) (x7 x8:Int) (x9:J) (x10:AI):Option (Dh×AY):=cG Ky Gj (AW BW) Gk ⟨[(0,.ptr 0 0),(4,.ptr 2 0),(5,.ptr 4 0),(6,.ptr 5 0),(8,.int .i64 x0),(9,.int .i64 x1),(10,.ptr 6 0)],[.var (BV.enc x2),.rows 83 AM x3,.var [.int .i64 x4,.int .i64 x5,.row 1],.rows 83 AM x6,.var [.int .i64 x7,.int .i64 x8,.row 3],.var (AJ.enc x9),.var (AM.enc x10)]⟩
def Eb (x0 x1:Int) (x2:AY) (x3:List AI) (x4 x5:Int) (x6:List AI) (x7 x8:Int) (x9:J) (x10:AI):Option (Dh×AY):=cG Kz Gj (AW BW) Gk ⟨[(0,.ptr 0 0),(4,.ptr 2 0),(5,.ptr 4 0),(6,.ptr 5 0),(8,.int .i64 x0),(9,.int .i64 x1),(10,.ptr 6 0)],[.var (BV.enc x2),.rows 83 AM x3,.var [.int .i64 x4,.int .i64 x5,.row 1],.rows 83 AM x6,.var [.int .i64 x7,.int .i64 x8,.row 3],.var (AJ.enc x9),.var (AM.enc x10)]⟩
def GN (x0 x1:Int) (x2:AY) (x3:List AI) (x4 x5:Int) (x6:List AI) (x7 x8:Int) (x9:J) (x10:AI):Option (Dh×AY):=cG K3 Gj (AW BW) Gk ⟨[(0,.ptr 0 0),(4,.ptr 2 0),(5,.ptr 4 0),(6,.ptr 5 0),(8,.int .i64 x0),(9,.int .i64 x1),(10,.ptr 6 0)],[.var (BV.enc x2),.rows 83 AM x3,.var [.int .i64 x4,.int .i64 x5,.row 1],.rows 83 AM x6,.var [.int .i64 x7,.int .i64 x8,.row 3],.var (AJ.enc x9),.var (AM.enc x10)]⟩
def Bk (x0 x1:Int) (x2:AY) (x3:List AI) (x4 x5:Int) (x6:List AI) (x7 x8:Int) (x9:J):Option (Dh×AY):=KF ⟨[(0,.ptr 0 0),(4,.ptr 2 0),(5,.ptr 4 0),(6,.ptr 5 0),(8,.int .i64 x0),(9,.int .i64 x1)],[.var (BV.enc x2),.rows 83 AM x3,.var [.int .i64 x4,.int .i64 x5,.row 1],.rows 83 AM x6,.var [.int .i64 x7,.int .i64 x8,.row 3],.var (AJ.enc x9)]⟩
def KG (x0 x1:Int) (x2:AY) (x3:List AI) (x4 x5:Int) (x6:List AI) (x7 x8:Int) (x9:J) (x10:AI):Option (Dh×AY):=((Ig x10 x9).bind fun y8=>(if x6.length+([x10]:List AI).length<=68719476736 then (Bk x0 (i64.wrap (x1+1)) x2 x3 x4 x5 (x6++([x10]:List AI)) x7 x8 y8.2) else none))
def GO (x0 x1:Int) (x2:AY) (x3:List AI) (x4 x5:Int) (x6:List AI) (x7 x8:Int) (x9:J) (x10:AI):Option (Dh×AY):=(if (x10.1==1)=true then ((Hq x2).bind fun y7=>(Ea x0 x1 y7.2 x3 x4 x5 x6 x7 x8 x9 (x10.1,x10.2.1,x10.2.2.1,y7.1))) else (Ea x0 x1 x2 x3 x4 x5 x6 x7 x8 x9 x10))
def GP (x0 x1:Int) (x2:AY) (x3:List AI) (x4 x5:Int) (x6:List AI) (x7 x8:Int) (x9:J) (x10:AI):Option (Dh×AY):=(if ((x9.2.2.1.length:Int)==0)=true then (Eb x0 x1 x2 x3 x4 x5 x6 x7 x8 x9 (1,x10.2)) else (Eb x0 x1 x2 x3 x4 x5 x6 x7 x8 x9 x10))
def GQ (x0 x1:Int) (x2:AY) (x3:List AI) (x4 x5:Int) (x6:List AI) (x7 x8:Int) (x9:J):Option (Dh×AY):=(if (decide (x1<x0))=true then ((GJ ([1,2,2,2,2,2,2,2,2,3,4]:List Int) x2).bind fun y4=>((B4 x8 y4.2).bind fun y5=>((B4 12 y5.2).bind fun y6=>(GN x0 x1 y6.2 x3 x4 x5 x6 x7 x8 x9 (y4.1,(i64.wrap (1+y5.1)),y6.1,AA))))) else (some ((x7,x8,x6),x2)))
def Mt (x1:List Int) (b0:AY):Option (Dh×AY):=((B4 5 b0).bind fun y1=>((B4 3 y1.2).bind fun y2=>((EZ (i64.wrap (1+y1.1)) (i64.wrap (1+y2.1))).bind fun y3=>(if 3=0 then none else (if (decide ((i64.wrap (20+(i64.wrap (Int.tdiv (x1.length:Int) 3))))>79))=true then (Bk 79 0 y2.2 ([]:List AI) 0 0 ([]:List AI) (i64.wrap (1+y1.1)) (i64.wrap (1+y2.1)) y3.1) else (Bk (i64.wrap (20+(i64.wrap (Int.tdiv (x1.length:Int) 3)))) 0 y2.2 ([]:List AI) 0 0 ([]:List AI) (i64.wrap (1+y1.1)) (i64.wrap (1+y2.1)) y3.1))))))
theorem QB:YH KG Ea:=jS (by kernel_rfl)
theorem KH:YH GO Eb:=jS (by kernel_rfl)
theorem KI:YH GP GN:=jS (by kernel_rfl)
theorem KJ:aE GQ Bk:=lS (by kernel_rfl)
theorem TH:MI Mt JA:=cT BW rfl ⟨rfl,rfl⟩ (by kernel_rfl)
def L4 (x0:Bool) (x1:AI):Option Bool:=cG Md (AW E9) (AW E9) kx ⟨[(3,.ptr 0 0),(20,.bool x0)],[.var (AM.enc x1)]⟩
def L5 (x0:Bool) (x1:AI):Option Bool:=(if (x1.1==1)=true then ((CT (x1.2.2.2.size:Int) 1 40).bind fun y3=>(some y3)) else (some (x1.2.2.2.toList==(⟨#[]⟩:ByteArray).toList)))
def QC (x0:Int) (x1:AI):Option Bool:=((CT x1.1 1 4).bind fun y1=>(if (!y1)=false then ((CT x1.2.1 1 x0).bind fun y2=>(if (!y2)=false then (if (decide (x1.2.2.1<0))=true then (some false) else (L4 (decide (x1.2.2.1<0)) x1)) else (some false))) else (some false)))
theorem R1:MI L5 L4:=jS (by kernel_rfl)
theorem Ul:MI QC Ll:=cT E9 rfl ⟨rfl,rfl⟩ (by kernel_rfl)
def QD (x1:AI) (b0:J):Option (Int×J):=(if (x1.1==1)=true then ((GK x1 b0).bind fun y1=>(some (y1.1,y1.2))) else (if ((b0.2.2.1.length:Int)==0)=true then (some (1,b0)) else (if (b0.2.2.1.length:Int)=0 then none else (if 0<=(Int.tmod x1.2.2.1 (b0.2.2.1.length:Int)) then (if (Int.tmod x1.2.2.1 (b0.2.2.1.length:Int))<(b0.2.2.1.length:Int) then (if (x1.1==4)=true then ((ER (b0.2.2.1.getD (Int.tmod x1.2.2.1 (b0.2.2.1.length:Int)).toNat (0,0,0,0,0,AA)) b0).bind fun y2=>(some (0,y2))) else (if 0<=(0:Int) then (if 0<=(Int.tmod x1.2.2.1 (b0.2.2.1.length:Int)) then (if (Int.tmod x1.2.2.1 (b0.2.2.1.length:Int))<=(b0.2.2.1.length:Int) then (if 0<=(i64.wrap ((Int.tmod x1.2.2.1 (b0.2.2.1.length:Int))+1)) then (if (i64.wrap ((Int.tmod x1.2.2.1 (b0.2.2.1.length:Int))+1))<=(b0.2.2.1.length:Int) then (if (b0.2.2.1.length:Int)<=(b0.2.2.1.length:Int) then (if ([]:List U).length+((b0.2.2.1.take (Int.tmod x1.2.2.1 (b0.2.2.1.length:Int)).toNat).drop (0:Int).toNat).length<=68719476736 then (if (([]:List U)++((b0.2.2.1.take (Int.tmod x1.2.2.1 (b0.2.2.1.length:Int)).toNat).drop (0:Int).toNat)).length+((b0.2.2.1.take (b0.2.2.1.length:Int).toNat).drop (i64.wrap ((Int.tmod x1.2.2.1 (b0.2.2.1.length:Int))+1)).toNat).length<=68719476736 then (if (x1.1==3)=true then (some (0,(b0.1,b0.2.1,((([]:List U)++((b0.2.2.1.take (Int.tmod x1.2.2.1 (b0.2.2.1.length:Int)).toNat).drop (0:Int).toNat))++((b0.2.2.1.take (b0.2.2.1.length:Int).toNat).drop (i64.wrap ((Int.tmod x1.2.2.1 (b0.2.2.1.length:Int))+1)).toNat)),b0.2.2.2))) else ((Fc (b0.2.2.1.getD (Int.tmod x1.2.2.1 (b0.2.2.1.length:Int)).toNat (0,0,0,0,0,AA)) (b0.1,b0.2.1,((([]:List U)++((b0.2.2.1.take (Int.tmod x1.2.2.1 (b0.2.2.1.length:Int)).toNat).drop (0:Int).toNat))++((b0.2.2.1.take (b0.2.2.1.length:Int).toNat).drop (i64.wrap ((Int.tmod x1.2.2.1 (b0.2.2.1.length:Int))+1)).toNat)),b0.2.2.2)).bind fun y3=>(some (y3.1,y3.2)))) else none) else none) else none) else none) else none) else none) else none) else none)) else none) else none))))
theorem Um:MI QD Ig:=cT If rfl ⟨rfl,rfl⟩ (by kernel_rfl)
def Q7:=cG K6 (AW CX) (AW CX) kx
def Q8:=kE 0 [] [2,3] 8 Q7 kx
def QE:St->Option (RT (CU.outs CX)):=lG K5 [] [1,2,3,4] 8 (AW CX) Q8
def DV (x0:Int) (x1:List AF) (x2:List AC) (x3:List U) (x4:List ByteArray) (x5:List AC) (x6:List AF) (x7:List U) (x8:List ByteArray) (x9:List AF) (x10:List U) (x11:List ByteArray) (x12:List AC) (x13:List AF) (x14:List U) (x15:List ByteArray):Option J:=QE ⟨[(1,.ptr 0 0),(2,.ptr 2 0),(3,.ptr 7 0),(4,.int .i64 x0)],[.var [.lst AK x1,.lst Cw x2,.lst AB x3,.lst .str x4],.rows 89 Cw x5,.var [.lst AK x6,.row 1,.lst AB x7,.lst .str x8],.frz AK x9,.frz AB x10,.frz .str x11,.rows 89 Cw x12,.var [.lst AK x13,.row 6,.lst AB x14,.lst .str x15]]⟩
def GR (x0:Int) (x1:List AF) (x2:List AC) (x3:List U) (x4:List ByteArray) (x5:List AC) (x6:List AF) (x7:List U) (x8:List ByteArray) (x9:List AF) (x10:List U) (x11:List ByteArray) (x12:List AC) (x13:List AF) (x14:List U) (x15:List ByteArray):Option J:=(if (decide (x0<(x2.length:Int)))=true then (if 0<=x0 then (if x0<(x2.length:Int) then (if ([]:List U).length+(((((x2.getD x0.toNat (0,0,AA,([]:List U),false,([]:List Int),false)).2).2).2).1).length<=68719476736 then (if ([]:List Int).length+(((((((x2.getD x0.toNat (0,0,AA,([]:List U),false,([]:List Int),false)).2).2).2).2).2).1).length<=68719476736 then (if x12.length+([((x2.getD x0.toNat (0,0,AA,([]:List U),false,([]:List Int),false)).1,((x2.getD x0.toNat (0,0,AA,([]:List U),false,([]:List Int),false)).2).1,(((x2.getD x0.toNat (0,0,AA,([]:List U),false,([]:List Int),false)).2).2).1,(([]:List U)++(((((x2.getD x0.toNat (0,0,AA,([]:List U),false,([]:List Int),false)).2).2).2).1)),(((((x2.getD x0.toNat (0,0,AA,([]:List U),false,([]:List Int),false)).2).2).2).2).1,(([]:List Int)++(((((((x2.getD x0.toNat (0,0,AA,([]:List U),false,([]:List Int),false)).2).2).2).2).2).1)),((((((x2.getD x0.toNat (0,0,AA,([]:List U),false,([]:List Int),false)).2).2).2).2).2).2)]:List AC).length<=68719476736 then (DV (i64.wrap (x0+1)) x1 x2 x3 x4 x5 x6 x7 x8 x9 x10 x11 (x12++([((x2.getD x0.toNat (0,0,AA,([]:List U),false,([]:List Int),false)).1,((x2.getD x0.toNat (0,0,AA,([]:List U),false,([]:List Int),false)).2).1,(((x2.getD x0.toNat (0,0,AA,([]:List U),false,([]:List Int),false)).2).2).1,(([]:List U)++(((((x2.getD x0.toNat (0,0,AA,([]:List U),false,([]:List Int),false)).2).2).2).1)),(((((x2.getD x0.toNat (0,0,AA,([]:List U),false,([]:List Int),false)).2).2).2).2).1,(([]:List Int)++(((((((x2.getD x0.toNat (0,0,AA,([]:List U),false,([]:List Int),false)).2).2).2).2).2).1)),((((((x2.getD x0.toNat (0,0,AA,([]:List U),false,([]:List Int),false)).2).2).2).2).2).2)]:List AC)) x13 x14 x15) else none) else none) else none) else none) else none) else (some (x13,x12,x14,x15)))
def Mu (x0:J):Option J:=(if ([]:List AF).length+x0.1.length<=68719476736 then (if ([]:List U).length+x0.2.2.1.length<=68719476736 then (if ([]:List ByteArray).length+x0.2.2.2.length<=68719476736 then (DV 0 x0.1 x0.2.1 x0.2.2.1 x0.2.2.2 ([]:List AC) ([]:List AF) ([]:List U) ([]:List ByteArray) (([]:List AF)++x0.1) (([]:List U)++x0.2.2.1) (([]:List ByteArray)++x0.2.2.2) ([]:List AC) (([]:List AF)++x0.1) (([]:List U)++x0.2.2.1) (([]:List ByteArray)++x0.2.2.2)) else none) else none) else none)
theorem KK:ad GR DV:=lS (by kernel_rfl)
theorem TI:Wa Mu JB:=cT CX rfl ⟨rfl,rfl⟩ (by kernel_rfl)
def KL (x1:List Int) (b0:AY):Option (Int×AY):=((B4 (x1.length:Int) b0).bind fun y1=>(if 0<=y1.1 then (if y1.1<(x1.length:Int) then (some ((x1.getD y1.1.toNat 0),y1.2)) else none) else none))
theorem QF:MI KL GJ:=cT EY rfl ⟨rfl,rfl⟩ (by kernel_rfl)
def Kf:=cG FV (AW BE) (AW BE) kx
def Kg:=kE 0 [] [] 0 Kf kx
def Ji:St->Option (RT (CU.outs BE)):=lG FU [] [0,1,7,8] 0 (AW BE) Kg
def CB (x0:List Int) (x1 x2 x3:Int):Option Int:=Ji ⟨[(0,.lst .W x0),(1,.int .i64 x1),(7,.int .i64 x2),(8,.int .i64 x3)],[]⟩
def CC (x0:List Int) (x1 x2 x3:Int):Option Int:=(if (decide (x3<x2))=true then (if 0<=x3 then (if x3<(x0.length:Int) then (if (x1==(x0.getD x3.toNat 0))=true then (some x3) else (CB x0 x1 x2 (i64.wrap (x3+1)))) else none) else none) else (some (-1:Int)))
def Ln (x0:List Int) (x1:Int):Option Int:=(CB x0 x1 (x0.length:Int) 0)
theorem C_:YR CC CB:=lS (by kernel_rfl)
theorem Lo:MI Ln D_:=cT BE rfl ⟨rfl,rfl⟩ (by kernel_rfl)
end
end Go.Proofs.Ytffahmnodgnohaa.Core
