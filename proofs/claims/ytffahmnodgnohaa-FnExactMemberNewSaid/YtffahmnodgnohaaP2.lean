/- Texts of the proof, packed: part 3. -/
import Derived.Test.YtffahmnodgnohaaP1
import Derived.OrdersHeld
import Derived.ChangeArms
import Derived.Below
import Derived.Test.YtffahmnodgnohaaProg
import Derived.IntWalk
import Derived.JoinedOf
import Derived.Test.YtffahmnodgnohaaRows
import Derived.ProofKit
set_option linter.unusedVariables false
set_option linter.unusedSimpArgs false
namespace Go.Proofs.Ytffahmnodgnohaa.Core
open Go
variable {P:Program}
abbrev Lo:=List (Nat×(World->Prop))
def GX (anc:List Nat):Lo->Lo
 | []=>[]
 | p::r=>if AZ anc p.1=true then GX anc r else p::GX anc r
theorem CM {anc:List Nat}:∀ {T:Lo},∀ p∈GX anc T,p∈T/\AZ anc p.1=false
 | [],p,h=>by cases h
 | q::r,p,h=>by
  simp only [GX] at h
  split at h
  ·obtain ⟨h1,h2⟩:=CM p h
   exact ⟨by simp [h1],h2⟩
  ·rename_i hq
   rcases AH.1 h with rfl | h
   ·exact ⟨by simp,by simpa using hq⟩
   ·obtain ⟨h1,h2⟩:=CM p h
    exact ⟨by simp [h1],h2⟩
theorem Mi {anc:List Nat}:∀ {T:Lo} {p},p∈T->AZ anc p.1=false->p∈GX anc T
 | [],p,h,_=>by cases h
 | q::r,p,h,hn=>by
  simp only [GX]
  rcases AH.1 h with rfl | h
  ·rw [if_neg (by rw [hn]; simp)]; simp
  ·split
   ·exact Mi h hn
   ·exact List.mem_cons_of_mem _ (Mi h hn)
theorem Qc {anc:List Nat} {i:Nat} {C:World->Prop} {T:Lo} (h:AZ anc i=false):GX anc ((i,C)::T)=(i,C)::GX anc T:=by
 show (if AZ anc i=true then GX anc T else (i,C)::GX anc T)=_
 rw [h]
 rfl
def I0 (P:Program) (ops:Array Oper) (Q:Exit->Act->World->Prop) (anc:Nat->List Nat):Nat->Lo->Array Bool->Act->World->Prop
 | 0,_,listed,a,w=>Region.ready .any ops listed=[]/\Q .normal a w
 | fuel+1,T,listed,a,w =>
  (Region.ready .any ops listed=[]->Q .normal a w) /\
  ∀ i∈Region.ready .any ops listed,wpOp P ops Q i (fun a' w'=>(∀ p∈GX (anc i) T,p.2 w')/\I0 P ops Q anc fuel (GX (anc i) T) (listed.setIfInBounds i true) a' w') a w
theorem Mj {ops:Array Oper} {Q:Exit->Act->World->Prop} {anc:Nat->List Nat}:∀ (fuel:Nat) (T:Lo) (listed:Array Bool) (a:Act) (w:World),I0 P ops Q anc fuel T listed a w->wpAny P .any ops Q fuel listed a w
 | 0,_,_,_,_,h=>h
 | fuel+1,_,_,_,_,h=>⟨h.1,fun i hi=>wpOp_mono (fun a' w' h'=>Mj fuel _ _ a' w' h'.2) (h.2 i hi)⟩
theorem Il {ops:Array Oper} {Q:Exit->Act->World->Prop} {anc:Nat->List Nat}:∀ (fuel:Nat) {T T':Lo} (listed:Array Bool) (a:Act) (w:World),(∀ p∈T',p∈T)->I0 P ops Q anc fuel T listed a w->I0 P ops Q anc fuel T' listed a w
 | 0,_,_,_,_,_,_,h=>h
 | fuel+1,T,T',_,_,_,hs,h=>⟨h.1,fun i hi=>wpOp_mono (fun a' w' h'=>by
   have hsub:∀ p∈GX (anc i) T',p∈GX (anc i) T:=fun p hp=>by
    obtain ⟨h1,h2⟩:=CM p hp
    exact Mi (hs p h1) h2
   exact ⟨fun p hp=>h'.1 p (hsub p hp),Il fuel _ a' w' hsub h'.2⟩) (h.2 i hi)⟩
def NP (ops:Array Oper) (listed:Array Bool):Prop:=∀ k o,listed.getD k false=true->ops[k]? = some o->∀ e∈o.after,Region.binds .any e=true->listed.getD e.on false=true
def Mk (ops:Array Oper) (i:Nat):List Nat:=match ops[i]? with
 | some o=>(o.after.filter fun e=>Region.binds .any e).toList.map (·.on)
 | none=>[]
def PW (ops:Array Oper) (anc:List (List Nat)):Bool :=
 (List.range ops.size).all fun i=>(Mk ops i).all (fun p=>decide (p<i))&&(anc.getD i []).all fun j=>(Mk ops i).any (fun p=>p==j)||(Mk ops i).any fun p=>AZ (anc.getD p []) j
theorem FY {ops:Array Oper} {anc:List (List Nat)} (hA:PW ops anc=true) {listed:Array Bool} (hs:NP ops listed):∀ (i:Nat),(∀ p∈Mk ops i,listed.getD p false=true)->i<ops.size->∀ j∈anc.getD i [],listed.getD j false=true:=by
 intro i
 induction i using Nat.strongRecOn with
 | _ i ih =>
  intro hp hi j hj
  have h1:=Ac.1 hA i (List.mem_range.2 hi)
  simp only [E,Ac,List.any_eq_true,Dd,beq_iff_eq,decide_eq_true_eq] at h1
  rcases h1.2 j hj with ⟨p,hpm,rfl⟩ | ⟨p,hpm,hpj⟩
  ·exact hp p hpm
  ·have hlt:=h1.1 p hpm
   refine ih p hlt (fun q hq=>?_) (by omega) j (BI.1 hpj)
   unfold Mk at hq
   split at hq
   ·rename_i o ho
    simp only [List.mem_map,Array.mem_toList_iff,Array.mem_filter] at hq
    obtain ⟨e,⟨he,hb⟩,rfl⟩:=hq
    exact hs p o (hp p hpm) ho e he hb
   ·cases hq
theorem BY {ops:Array Oper} {listed:Array Bool} {i:Nat} (h:i∈Region.ready .any ops listed):(∀ p∈Mk ops i,listed.getD p false=true)/\i<ops.size:=by
 obtain ⟨_,o,ho,hall⟩:=mem_ready.1 h
 refine ⟨fun p hp=>?_,(Array.getElem?_eq_some_iff.1 ho).1⟩
 unfold Mk at hp
 rw [ho] at hp
 simp only [List.mem_map,Array.mem_toList_iff,Array.mem_filter] at hp
 obtain ⟨e,⟨he,hb⟩,rfl⟩:=hp
 exact hall e he hb
theorem NP.set {ops:Array Oper} {listed:Array Bool} (hs:NP ops listed) {i:Nat} (h:i∈Region.ready .any ops listed):NP ops (listed.setIfInBounds i true):=by
 intro k o hk ho e he hb
 by_cases hik:i=k
 ·subst hik
  obtain ⟨_,o',ho',hall⟩:=mem_ready.1 h
  rw [ho] at ho'
  cases ho'
  exact getD_set_true (hall e he hb)
 ·rw [getD_set_ne false hik] at hk
  exact getD_set_true (hs k o hk ho e he hb)
theorem Bw {ops:Array Oper} {listed:Array Bool} {i:Nat} (h:i∈Region.ready .any ops listed):listed.getD i false=false:=by
 have h0:=(mem_ready.1 h).1
 rcases Ai i listed.size with h' | h'
 ·simp [h'] at h0 ⊢; exact h0
 ·simp [Array.getElem?_eq_none h']
theorem Jm {ops:Array Oper} {Q:Exit->Act->World->Prop} {anc:List (List Nat)} (hA:PW ops anc=true) {i:Nat} {oi:Oper} {v:Value} {C:World->Prop} (hi:ops[i]? = some oi)
  (hsel:∀ (j:Nat) (o:Oper) cs b,ops[j]? = some o->o.op≠.select cs b) (hQ:∀ c a w,Q (.panic c) (a.put oi.dst v) w->Q (.panic c) a w) :
  ∀ (fuel:Nat) (T:Lo) (listed:Array Bool) (a:Act) (w:World),NP ops listed ->
   (∀ j oj,ops[j]? = some oj->j≠i->listed.getD j true=false->(∀ e∈oj.after,Region.binds .any e=true->e.on≠i)->oi.apart ops oj=true) ->
   i∈Region.ready .any ops listed->YieldsIf P ops C oi v a->C w->(∀ p∈T,p.2 w) ->
   I0 P ops Q (fun i=>anc.getD i []) fuel ((i,C)::T) (listed.setIfInBounds i true) (a.put oi.dst v) w->I0 P ops Q (fun i=>anc.getD i []) (fuel+1) T listed a w:=by
 intro fuel
 induction fuel with
 | zero =>
  intro T listed a w hsh _ hr hy hC hT H
  refine ⟨fun h=>(by rw [h] at hr; cases hr),fun j hj=>?_⟩
  by_cases hji:j=i
  ·subst hji; exact hy.wpOp hi hC ⟨fun p hp=>hT p (CM p hp).1,H⟩
  ·have:=ready_mono hj hji
   rw [H.1] at this
   cases this
 | succ fuel ih =>
  intro T listed a w hsh hfree hr hy hC hT H
  refine ⟨fun h=>(by rw [h] at hr; cases hr),fun j hj=>?_⟩
  by_cases hji:j=i
  ·subst hji
   refine hy.wpOp hi hC ⟨fun p hp=>hT p (CM p hp).1,Il _ _ _ _ (fun p hp=>?_) H⟩
   exact List.mem_cons_of_mem _ (CM p hp).1
  ·have h1:=H.2 j (ready_mono hj hji)
   obtain ⟨hjun,oj,hoj,hall⟩:=mem_ready.1 hj
   have hnot:∀ e∈oj.after,Region.binds .any e=true->e.on≠i:=fun e he hb heq=>by
    have h1:=hall e he hb
    have h0:=Bw hr
    rw [heq] at h1
    rw [h0] at h1
    cases h1
   have hnanc:AZ (anc.getD j []) i=false:=by
    rw [AO]
    intro hm
    have:=FY hA hsh j (BY hj).1 (BY hj).2 i hm
    rw [Bw hr] at this
    cases this
   have hcut:GX (anc.getD j []) ((i,C)::T)=(i,C)::GX (anc.getD j []) T:=Qc hnanc
   simp only [hcut] at h1
   have h2:=wpOp_putIf hoj (hfree j oj hoj hji hjun hnot) (fun cs b=>hsel i oi cs b hi) (fun cs b=>hsel j oj cs b hoj) hQ hy h1
   have hfree':∀ k ok,ops[k]? = some ok->k≠i->(listed.setIfInBounds j true).getD k true=false ->
     (∀ e∈ok.after,Region.binds .any e=true->e.on≠i)->oi.apart ops ok=true:=fun k ok hk hki hun hno=>by
    refine hfree k ok hk hki ?_ hno
    by_cases hjk:j=k
    ·subst hjk; exact hjun
    ·rw [getD_set_ne true hjk] at hun; exact hun
   refine wpOp_mono (fun a' w' h3=>?_) h2
   obtain ⟨hy',hp',hG⟩:=h3
   have hC':C w':=hp' (i,C) (by simp)
   have hT':∀ p∈GX (anc.getD j []) T,p.2 w':=fun p hp=>hp' p (List.mem_cons_of_mem _ hp)
   refine ⟨hT',ih _ (listed.setIfInBounds j true) a' w' (hsh.set hj) hfree' (ready_mono hr (Ne.symm hji)) hy' hC' hT' ?_⟩
   rw [Array.setIfInBounds_comm _ _ hji]
   exact hG
theorem SJ {o:Oper} {a:Act} {w:World} {I:Prop} (h:o.wp P a w (fun _ _=>I) (fun _ _ _=>I)):I:=by
 unfold Oper.wp at h
 generalize (execOp a.eval o).run P w=r at h
 cases r with
 | ok n w' =>
  cases n<;>simp only [Oper.upon] at h<;>try exact h
  case enter f args =>
   obtain ⟨e,w2,fr,hr,_⟩:=h []
   cases e with
   | returned v=>exact hr
   | panicked c=>exact hr
   | outgrown=>exact hr.elim fun _ h=>h.elim fun _ h=>h
  case row row args =>
   obtain ⟨v,w2,hr,_⟩:=h default []
   exact hr
 | halt x w' =>
  cases x<;>simp only [Oper.upon] at h
  case panic v=>exact h
def gB (ops:Array Oper) (o:Oper):Option (Nat×Bool)->Bool
 | none=>o.guard.isNone
 | some g=>match o.guard with
  | some (j,want)=>want==g.2&&Ln ops j==some g.1
  | none=>false
def Qd (L:Array Bool) (fl:List Nat):Array Bool:=fl.foldl (fun L i=>L.setIfInBounds i true) L
def RK (ops:Array Oper) (i:Nat) (js:List Nat):Bool :=
 js.all fun j=>match ops[i]?,ops[j]? with
  | some a,some b=>a.apart ops b&&b.apart ops a
  | _,_=>false
def Gq (ops:Array Oper):List Nat->Bool
 | []=>true
 | i::r=>!AZ r i&&RK ops i r&&Gq ops r
def PX (P:Program) (n:Nat) (ops:Array Oper) (L:Array Bool) (f:Nat×Bi):Bool :=
 (Region.ready .any ops L).contains f.1&&f.2.isFloat&&(match ops[f.1]? with
  | some o=>ME P n o f.2&&decide (o.dst.toList=f.2.dsts)&&o.guard.isNone&&(match o.dst with
   | some d=>!(o.looksAt ops).contains d&&decide (d<n)
   | none=>false)
  | none=>false)
def MF (P:Program) (n:Nat) (ops:Array Oper):DT->Array Bool->List Nat->Bool
 | .done,L,F=>(Region.ready .any ops L).isEmpty&&F.isEmpty
 | .take i g ao r,L,F=>(Region.ready .any ops L).contains i&&Region.free .any ops L i&&!AZ F i&&ao.isVal&&(match ops[i]? with
   | some o=>gB ops o g&&ME P n o ao&&decide (o.dst.toList=ao.dsts)
   | none=>false)&&MF P n ops r (L.setIfInBounds i true) F
 | .skip i g d r,L,F=>(Region.ready .any ops L).contains i&&Region.free .any ops L i&&!AZ F i&&(match ops[i]? with
   | some o=>gB ops o (some g)&&decide (o.dst=d)&&(match d with | some d=>decide (d<n) | none=>true)
   | none=>false)&&MF P n ops r (L.setIfInBounds i true) F
 | .only i g ao e fl r,L,F=>(Region.ready .any ops L).contains i&&(Region.ready .any ops (Qd L (fl.map (·.1)))).all (· == i)&&F.all (fun f=>f==i||AZ (fl.map (·.1)) f)&&(!AZ F i||(e&&ao.isFloat))
   && fl.all (PX P n ops L)&&Gq ops (i::fl.map (·.1))&&(match ops[i]? with
   | some o=>gB ops o g&&ME P n o ao&&decide (o.dst.toList=ao.dsts)
   | none=>false)&&MF P n ops r (L.setIfInBounds i true) (fl.map (·.1))
 | .test _ a b,L,F=>MF P n ops a L F&&MF P n ops b L F
 | .fork i ai ri j aj rj,L,F=>F.isEmpty&&(Region.ready .any ops L).contains i&&(Region.ready .any ops L).all (fun k=>k==i||k==j)
   && (match ops[i]? with
   | some o=>gB ops o none&&ME P n o ai&&decide (o.dst.toList=ai.dsts)
   | none=>false)&&(match ops[j]? with
   | some o=>gB ops o none&&ME P n o aj&&decide (o.dst.toList=aj.dsts)
   | none=>false)&&MF P n ops ri (L.setIfInBounds i true) []&&MF P n ops rj (L.setIfInBounds j true) []
def P3 (P:Program) (n:Nat) (ops:Array Oper) (anc:List (List Nat)) (t:DT):Bool :=
 P.follows .mixedOrders&&Region.noSelect ops&&PW ops anc&&MF P n ops t (Array.replicate ops.size false) []
theorem Ov {H:HP} {φ:Aj} {s:St} {act:Act} (hf:Bf H φ s.st s.fr act.tmps) {c:Nat} {t:Bool} (h:Bg s.fr c=.bool t):act.tmps[c]? = some (.bool t):=by
 have hfc:=hf c
 rw [h] at hfc
 have hfc:act.tmps.getD c undef=.bool t:=hfc
 rw [Array.getD_eq_getD_getElem?] at hfc
 cases hq:act.tmps[c]? with
 | none=>rw [hq] at hfc; cases hfc
 | some v=>rw [hq] at hfc; simpa using hfc
theorem HM {H:HP} {φ:Aj} {s:St} {act:Act} {ops:Array Oper} {o:Oper} {g:Option (Nat×Bool)} (hf:Bf H φ s.st s.fr act.tmps) (h:TW s g=true) (hb:gB ops o g=true):Region.wanted o (yielded ops act.tmps)=true:=by
 cases g with
 | none =>
  simp only [gB,Option.isNone_iff_eq_none] at hb
  exact FX hb trivial
 | some g =>
  simp only [gB] at hb
  split at hb
  ·rename_i j want hg
   simp only [E,beq_iff_eq] at hb
   obtain ⟨rfl,hb2⟩:=hb
   simp only [TW] at h
   split at h
   ·rename_i t ht
    simp only [beq_iff_eq] at h
    subst h
    exact FX hg ⟨g.1,hb2,Ov hf ht⟩
   ·cases h
  ·cases hb
theorem Ow {H:HP} {φ:Aj} {s:St} {act:Act} {ops:Array Oper} {o:Oper} {g:Nat×Bool} (hf:Bf H φ s.st s.fr act.tmps) (h:Sk s g=true) (hb:gB ops o (some g)=true):Region.wanted o (yielded ops act.tmps)=false:=by
 simp only [gB] at hb
 split at hb
 ·rename_i j want hg
  simp only [E,beq_iff_eq] at hb
  obtain ⟨rfl,hb2⟩:=hb
  refine Iy hg hb2 ?_
  unfold Sk at h
  split at h
  ·rename_i t ht
   rw [Ov hf ht]
   intro e
   cases e
   simp at h
  ·rename_i ht
   have hv:=hf g.1
   rw [ht] at hv
   have hv:act.tmps.getD g.1 undef=undef:=hv
   intro e
   rw [Array.getD_eq_getD_getElem?,e] at hv
   cases hv
  ·cases h
 ·cases hb
def Le (act:Act) (w:World) (T:List (Nat×Nat)) (TT:Lo):Prop :=
 ∀ p∈TT,p.2 w/\((∀ w2,p.2 w2)\/∃ x,(p.1,x)∈T/\∃ w0:World,p.2=fun w2=>∀ b,Ap (act.tmps.getD x undef) b->w2.heap[b]? = w0.heap[b]?)
theorem FP {ds:List Nat}:∀ {T:List (Nat×Nat)},Ci ds T=true->∀ p∈T,p.2∉ds
 | [],_,p,hp=>by cases hp
 | q::r,h,p,hp=>by
  simp only [Ci,E,B9] at h
  rcases AH.1 hp with rfl | hp
  ·exact AO.1 h.1
  ·exact FP h.2 p hp
theorem En {act:Act} {dst:Option Tmp} {v:Value} {t:Nat} (h:dst≠some t):(act.put dst v).tmps.getD t undef=act.tmps.getD t undef:=by
 rw [Array.getD_eq_getD_getElem?,Array.getD_eq_getD_getElem?,Ds h]
theorem Le.put {act:Act} {w:World} {T:List (Nat×Nat)} {TT:Lo} (h:Le act w T TT) {dst:Option Tmp} {v:Value} (hf:Ci dst.toList T=true):Le (act.put dst v) w T TT:=by
 intro p hp
 obtain ⟨h1,h2⟩:=h p hp
 refine ⟨h1,?_⟩
 rcases h2 with h2 | ⟨x,hx,w0,e⟩
 ·exact .inl h2
 ·refine .inr ⟨x,hx,w0,?_⟩
  have:=FP hf _ hx
  rw [En (fun e=>this (by rw [e]; simp))]
  exact e
theorem Dt {anc:List Nat}:∀ {T:List (Nat×Nat)} {p},p∈T->AZ anc p.1=false->p∈CU anc T
 | [],p,h,_=>by cases h
 | q::r,p,h,hn=>by
  simp only [CU]
  rcases AH.1 h with rfl | h
  ·rw [if_neg (by rw [hn]; simp)]; simp
  ·split
   ·exact Dt h hn
   ·exact List.mem_cons_of_mem _ (Dt h hn)
theorem Gr {anc tch:List Nat} {s:St}:∀ {T:List (Nat×Nat)},HE anc tch s T=true->∀ p∈T,AZ anc p.1=false->(Bg s.fr p.2).clear tch=true
 | [],_,p,hp,_=>by cases hp
 | q::r,h,p,hp,hn=>by
  simp only [HE,E,Dd] at h
  rcases AH.1 hp with rfl | hp
  ·rcases h.1 with h1 | h1
   ·rw [hn] at h1; cases h1
   ·exact h1
  ·exact Gr h.2 p hp hn
theorem IQ {H H':HP} {φ φ':Aj} {s:St} {st':List AA} {w w':World} {v:Value} {a:AV} {tch:List Nat} (hs:SR H φ s.st w) (hst:AD H φ s.st w H' φ' st' w') (hm:L_ tch φ s.st w w') (hv:VA H φ s.st a v)
  (h:a.clear tch=true):∀ b,Ap v b->w'.heap[b]? = w.heap[b]? := by
 intro b hb
 have keepH:∀ o,H b=some o->w'.heap[b]? = w.heap[b]? := fun o ho=>by rw [hst.sr.hp b o (hst.le b o ho),hs.hp b o ho]
 cases a with
 | ptr id off =>
  obtain ⟨hva,b0,e1,e2⟩:=hv
  rw [e2] at hb
  cases hb
  unfold AE at hva
  split at hva
  ·rename_i cs hid
   exact hm id _ hid rfl (AO.1 (by simpa [AV.clear] using h)) b0 (JT (by rw [e1]; rfl))
  ·cases hva
 | eptr id i off =>
  obtain ⟨b0,n,cap,K,hk,hi,e1,e2⟩:=hv
  rw [e2] at hb
  cases hb
  unfold J at hk
  split at hk
  ·rename_i t K' xs hid
   exact hm id _ hid rfl (AO.1 (by simpa [AV.clear] using h)) b0 (JT (by rw [e1]; rfl))
  ·rename_i K' xs hid
   cases hk
   obtain ⟨⟨sl,cap',e3,_,hr⟩,_⟩:=hs.box id _ hid
   rcases hr with rfl | ⟨b1,o1,c,el,fz,e4,e5,_⟩
   ·simp at hi
   ·rw [e1] at e3
    simp only [Value.slice.injEq] at e3
    rw [e4] at e3
    obtain ⟨e6,_⟩:=e3
    simp only [AN,Addr.mk.injEq] at e6
    obtain ⟨rfl,_⟩:=e6
    exact keepH _ e5
  ·rename_i t K' xs hid
   exact hm id _ hid rfl (AO.1 (by simpa [AV.clear] using h)) b0 (JT (by rw [e1]; rfl))
  ·rename_i t xs hid
   cases hk
   exact hm id _ hid rfl (AO.1 (by simpa [AV.clear] using h)) b0 (JT (by rw [e1]; rfl))
  ·rename_i m t K' xs i' q hid
   exact hm id _ hid rfl (AO.1 (by simpa [AV.clear] using h)) b0 (JT (by rw [e1]; rfl))
  ·cases hk
 | fptr cs off =>
  obtain ⟨b0,o,c,el,fz,e,hb0,_⟩:=hv
  rw [e] at hb
  cases hb
  exact keepH _ hb0
 | _=>cases h
theorem RL {n:Nat} {o:Oper} {d x:Nat} {m:Option Nat} (h:MS P n o d (.t x) m=true):∃ t,o.op=.load t (.tmp x):=by
 simp only [MS,E] at h
 have h2:=h.2
 split at h2
 ·rename_i t y ho
  simp only [E] at h2
  have:=h2.1
  cases y<;>simp [BF] at this
  subst this
  exact ⟨t,ho⟩
 ·cases h2
theorem Qe {n:Nat} {o:Oper} {ao:Bi} {t:TypeId} {y:Operand} {ρ:Type} {kn:St->Option ρ} {r:ρ} {cal:Bx} {s:St} (hb:ME P n o ao=true) (hop:o.op=.load t y) (hv:ao.isVal=true) (hk:BS cal kn s ao=some r) :
  ∃ d x m,ao=.load d (.t x) m:=by
 cases ao<;>first | cases hv | skip
 case load d x m =>
  cases x with
  | t x=>exact ⟨d,x,m,rfl⟩
  | c a =>
   exfalso
   simp only [ME,MS,hop,E] at hb
   simp only [BS,St.opd] at hk
   have h2:=hb.2.1
   cases y with
   | const v =>
    have h3:a=.undef\/KV v a=true:=by cases a<;>first | exact .inl rfl | exact .inr h2
    rcases h3 with rfl | h3
    ·simp [St.behind] at hk
    ·have:=IJ (H:=fun _=>none) (v:=v) (a:=a) h3
     cases a<;>first | exact this.elim | (simp [St.behind] at hk)
   | func f =>
    cases a<;>first | (simp [BF] at h2; done) | (simp [St.behind] at hk)
   | tmp t=>simp [BF] at h2
   | global g=>simp [BF] at h2
 all_goals (exfalso; simp [ME,TX,LZ,Pr,Rz,R0,TY,Rx,Rw,OF,R4,Pu,Pv,Ta,TZ,SD,SF,R1,Ry,OI,hop] at hb)
def LS (M L:Array Bool) (S:List Nat):Prop:=M.size=L.size/\∀ k,M.getD k true=(L.getD k true||AZ S k)
theorem LS.refl (L:Array Bool):LS L L []:=⟨rfl,fun k=>by simp [AZ]⟩
theorem I1 {M:Array Bool} {k:Nat}:M.getD k false=(M.getD k true&&decide (k<M.size)):=by
 rw [Array.getD_eq_getD_getElem?,Array.getD_eq_getD_getElem?]
 by_cases h:k<M.size
 ·simp [h]
 ·simp [h]
theorem LS.getF {M L:Array Bool} {S:List Nat} (h:LS M L S) (k:Nat):M.getD k false=(L.getD k false||(AZ S k&&decide (k<L.size))):=by
 rw [I1,I1,h.2,h.1]
 cases L.getD k true<;>cases AZ S k<;>simp
theorem Gs {M:Array Bool} {i k:Nat}:(M.setIfInBounds i true).getD k true=(M.getD k true||(i==k)):=by
 by_cases h:i=k
 ·subst h
  rw [Array.getD_eq_getD_getElem?]
  by_cases h2:i<M.size
  ·simp [h2]
  ·simp [h2]
 ·rw [getD_set_ne true h]
  simp [h]
theorem LS.set {M L:Array Bool} {S:List Nat} (h:LS M L S) (i:Nat):LS (M.setIfInBounds i true) (L.setIfInBounds i true) S:=by
 refine ⟨by simp [h.1],fun k=>?_⟩
 rw [Gs,Gs,h.2]
 cases L.getD k true<;>cases AZ S k<;>cases (i==k)<;>rfl
theorem LS.early {M L:Array Bool} {S:List Nat} (h:LS M L S) (f:Nat):LS (M.setIfInBounds f true) L (f::S):=by
 refine ⟨by simp [h.1],fun k=>?_⟩
 rw [Gs,h.2]
 simp only [AZ]
 by_cases e:f=k<;>simp [e]
theorem LS.adopt {M L:Array Bool} {a b:List Nat} {i:Nat} (h:LS M L (a++i::b)):LS M (L.setIfInBounds i true) (a++b):=by
 refine ⟨by simp [h.1],fun k=>?_⟩
 rw [Gs,h.2,F7,F7]
 simp only [AZ]
 by_cases e:i=k
 ·simp [e]
 ·have:(i==k)=false:=by simpa using e
  rw [this]
  cases L.getD k true<;>cases AZ a k<;>cases AZ b k<;>simp [e]
theorem SK (L:Array Bool):∀ (fl:List Nat),(Qd L fl).size=L.size/\∀ k,(Qd L fl).getD k true=(L.getD k true||AZ fl k):=by
 intro fl
 unfold Qd
 induction fl generalizing L with
 | nil=>exact ⟨rfl,fun k=>by simp [AZ]⟩
 | cons f fl ih =>
  obtain ⟨h1,h2⟩:=ih (L.setIfInBounds f true)
  refine ⟨by simpa using h1,fun k=>?_⟩
  rw [List.foldl_cons,h2,Gs]
  simp only [AZ]
  by_cases e:f=k
  ·simp [e]
  ·have:(f==k)=false:=by simpa using e
   rw [this,if_neg e,Bool.or_false]
def NQ:List Bool->Nat
 | []=>0
 | b::r=>(if b=true then 0 else 1)+NQ r
theorem Ox:∀ (l:List Bool) (i:Nat),l[i]? = some false->NQ (l.set i true)+1=NQ l
 | [],i,h=>by simp at h
 | b::l,0,h=>by simp at h; subst h; simp [NQ]; omega
 | b::l,i+1,h=>by
  have:=Ox l i (by simpa using h)
  simp only [List.set_cons_succ,NQ]
  omega
theorem IR {M:Array Bool} {i:Nat} (h:M.getD i true=false):NQ (M.setIfInBounds i true).toList+1=NQ M.toList:=by
 rw [Array.toList_setIfInBounds]
 apply Ox
 rw [Array.getD_eq_getD_getElem?] at h
 cases hq:M[i]? with
 | none=>rw [hq] at h; cases h
 | some b=>rw [hq] at h; simp at h; subst h; simpa using hq
theorem SL (n:Nat):NQ (List.replicate n false)=n:=by
 induction n with
 | zero=>rfl
 | succ n ih=>rw [List.replicate_succ]; simp [NQ,ih]; omega
def P4 (P:Program) (ops:Array Oper) (wb:World) (H:HP) (φ:Aj) (st:List AA) (act:Act) (w:World) (f b:Nat):Prop :=
 ∃ o d obj,ops[f]? = some o/\o.dst=some d/\d<act.tmps.size/\SH P o act obj/\act.tmps.getD d undef=La o.op b/\Iz H φ st w b obj/\wb.heap.size<=b
theorem P4.put {ops:Array Oper} {wb:World} {H H':HP} {φ φ':Aj} {st st':List AA} {act:Act} {w w':World} {f b:Nat} (h:P4 P ops wb H φ st act w f b) {oi:Oper} {v:Value}
  (hsel:∀ (j:Nat) (o:Oper) cs b,ops[j]? = some o->o.op≠.select cs b) (hap:∀ o,ops[f]? = some o->oi.apart ops o=true) (hl:∀ obj,Iz H φ st w b obj->Iz H' φ' st' w' b obj):P4 P ops wb H' φ' st' (act.put oi.dst v) w' f b:=by
 obtain ⟨o,d,obj,h1,h2,h3,h4,h5,h6,h7⟩:=h
 obtain ⟨a1,a2,_⟩:=Oper.apart_spec (hap o h1)
 refine ⟨o,d,obj,h1,h2,by rw [Cc]; exact h3,fun w2=>?_,?_,hl obj h6,h7⟩
 ·rw [execOp_put o (fun cs b=>hsel f o cs b h1) act oi.dst v a1]
  exact h4 w2
 ·rw [En (fun e=>a2 d e h2)]
  exact h5
theorem Nt {ops:Array Oper} {i:Nat} {js:List Nat} (h:RK ops i js=true) {j:Nat} (hj:j∈js):∃ a b,ops[i]? = some a/\ops[j]? = some b/\a.apart ops b=true/\b.apart ops a=true:=by
 have:=Ac.1 h j hj
 split at this
 ·rename_i a b ha hb
  simp only [E] at this
  exact ⟨a,b,ha,hb,this.1,this.2⟩
 ·cases this
theorem Hu {ops:Array Oper}:∀ {l:List Nat},Gq ops l=true->∀ i∈l,∀ j∈l,i≠j->∃ a b,ops[i]? = some a/\ops[j]? = some b/\a.apart ops b=true
 | [],_,i,hi,_,_,_=>by cases hi
 | x::l,h,i,hi,j,hj,hne=>by
  simp only [Gq,E] at h
  rcases AH.1 hi with e1 | hi
  ·subst e1
   rcases AH.1 hj with e2 | hj
   ·exact absurd e2.symm hne
   ·obtain ⟨a,b,h1,h2,h3,_⟩:=Nt h.1.2 hj
    exact ⟨a,b,h1,h2,h3⟩
  ·rcases AH.1 hj with e2 | hj
   ·rw [e2]
    obtain ⟨a,b,h1,h2,_,h4⟩:=Nt h.1.2 hi
    exact ⟨b,a,h2,h1,h4⟩
   ·exact Hu h.2 i hi j hj hne
theorem Jn {s:St} {T:List (Nat×Nat)}:∀ {fl:List (Nat×Bi)},JQ s T fl=true->∀ f∈fl,f.2.floatOk s=true/\JP s f.2.dsts=true/\Ci f.2.dsts T=true
 | [],_,f,hf=>by cases hf
 | g::fl,h,f,hf=>by
  simp only [JQ,E] at h
  rcases AH.1 hf with rfl | hf
  ·exact ⟨h.1.1.1,h.1.1.2,h.1.2⟩
  ·exact Jn h.2 f hf
theorem TR {n:Nat} {ops:Array Oper} {anc:List (List Nat)} {cal:Bx} (hcal:CY P cal) (hA:PW ops anc=true) (hsel:Region.noSelect ops=true) {ρ:Type} {kn:St->Option ρ} {r:ρ} {N:Act->World->Prop}
  {Hb:HP} {φb:Aj} {stb:List AA} {wb:World} {ab:Act}
  (hN:∀ s' act' w' H' φ',kn s'=some r->AD Hb φb stb wb H' φ' s'.st w'->Bf H' φ' s'.st s'.fr act'.tmps->act'.tmps.size=n->act'.defers=ab.defers->N act' w') :
  ∀ (t:DT) (fuel:Nat) (F S:List Nat) (B:Nat->Nat) (T:List (Nat×Nat)) (TT:Lo) (L M:Array Bool) (s:St) (act:Act) (w:World) (H:HP) (φ:Aj),MF P n ops t L F=true->LS M L S->(∀ f∈S,AZ F f=true/\f∈Region.ready .any ops L) ->
   S.Nodup->(∀ f∈S,∀ g∈S,f≠g->B f≠B g)->NQ M.toList<=fuel->NP ops L->NP ops M ->
   AD Hb φb stb wb H φ s.st w->Bf H φ s.st s.fr act.tmps->act.tmps.size=n->act.defers=ab.defers->Le act w T TT->(∀ f∈S,∀ p∈TT,AZ (anc.getD f []) p.1=false)->(∀ f∈S,P4 P ops wb H φ s.st act w f (B f))->dK cal anc kn t T s=some r ->
   I0 P ops (fun e a w=>match e with | .normal=>N a w | _=>False) (fun i=>anc.getD i []) fuel TT M act w:=by
 have hsnd:=Region.noSelect_spec hsel
 intro t
 induction t with
 | done =>
  intro fuel F S B T TT L M s act w H φ hb hls hS _ _ hfu _ _ hB hf hn hde _ _ _ hk
  simp only [MF,E,List.isEmpty_iff] at hb
  have hS0:S=[]:=by
   cases S with
   | nil=>rfl
   | cons f S =>
    have:=(hS f (by simp)).2
    rw [hb.1] at this
    cases this
  subst hS0
  have hM:Region.ready .any ops M=[]:=by
   rw [List.eq_nil_iff_forall_not_mem]
   intro j hj
   obtain ⟨h1,o,h2,h3⟩:=mem_ready.1 hj
   have:j∈Region.ready .any ops L:=mem_ready.2 ⟨by have:=hls.2 j; simp only [AZ,Bool.or_false] at this; rw [<- this]; exact h1,o,h2,fun e he hbi=>by have:=hls.getF e.on; simp only [AZ,Bool.false_and,Bool.or_false] at this; rw [<- this]; exact h3 e he hbi⟩
   rw [hb.1] at this
   cases this
  have hq:=hN s act w H φ hk hB hf hn hde
  cases fuel with
  | zero=>exact ⟨hM,hq⟩
  | succ fuel=>exact ⟨fun _=>hq,fun i hi=>by rw [hM] at hi; cases hi⟩
 | test c a b iha ihb =>
  intro fuel F S B T TT L M s act w H φ hb hls hS hnd hBd hfu hsh hshM hB hf hn hde hp hAn hpf hk
  simp only [MF,E] at hb
  simp only [dK] at hk
  split at hk
  ·rename_i t ht
   have hfc:∀ t',t=t'->Bf H φ (s.put c (.bool t')).st (s.put c (.bool t')).fr act.tmps:=by
    intro t' e q
    subst e
    simp only [St.put,Bg]
    split
    ·rename_i e; subst e; have:=hf c; rw [ht] at this; exact this
    ·exact hf q
   split at hk
   ·rename_i e
    exact iha fuel F S B T TT L M (s.put c (.bool true)) act w H φ hb.1 hls hS hnd hBd hfu hsh hshM hB (hfc true e) hn hde hp hAn hpf hk
   ·rename_i e
    exact ihb fuel F S B T TT L M (s.put c (.bool false)) act w H φ hb.2 hls hS hnd hBd hfu hsh hshM hB (hfc false (by simpa using e)) hn hde hp hAn hpf hk
  ·cases hk
 | fork i ai ri j aj rj ihi ihj =>
  intro fuel F S B T TT L M s act w H φ hb hls hS hnd hBd hfu hsh hshM hB hf hn hde hp hAn hpf hk
  simp only [MF,E,List.isEmpty_iff] at hb
  obtain ⟨⟨⟨⟨⟨⟨hF,hri⟩,hall⟩,hoi⟩,hoj⟩,hbi⟩,hbj⟩:=hb
  have hS0:S=[]:=by
   cases S with
   | nil=>rfl
   | cons f S =>
    have:=(hS f (by simp)).1
    rw [hF] at this
    cases this
  subst hS0
  simp only [dK] at hk
  obtain ⟨hki,hkj⟩:=KM.1 hk
  have hq:∀ k∈Region.ready .any ops M,k∈Region.ready .any ops L:=fun k hk=>by
   obtain ⟨h1,o,h2,h3⟩:=mem_ready.1 hk
   exact mem_ready.2 ⟨by have:=hls.2 k; simp only [AZ,Bool.or_false] at this; rw [<- this]; exact h1,o,h2,fun e he hbi=>by have:=hls.getF e.on; simp only [AZ,Bool.false_and,Bool.or_false] at this; rw [<- this]; exact h3 e he hbi⟩
  have hqL:∀ k∈Region.ready .any ops L,k∈Region.ready .any ops M:=fun k hk=>by
   obtain ⟨h1,o,h2,h3⟩:=mem_ready.1 hk
   exact mem_ready.2 ⟨by rw [hls.2,h1]; rfl,o,h2,fun e he hbi=>by rw [hls.getF,h3 e he hbi]; rfl⟩
  obtain ⟨i0,hi0⟩:∃ k,k∈Region.ready .any ops L:=⟨i,by simpa using hri⟩
  obtain ⟨fuel,rfl⟩:∃ k,fuel=k+1:=⟨fuel-1,by
   have:=IR (mem_ready.1 (hqL i0 hi0)).1
   omega⟩
  refine ⟨fun h=>(by have:=hqL i0 hi0; rw [h] at this; cases this),fun k hkM=>?_⟩
  have hcnt:=IR (mem_ready.1 hkM).1
  have hkL:=hq k hkM
  have hkk:=Ac.1 hall k hkL
  simp only [Dd,beq_iff_eq] at hkk
  rcases hkk with e | e
  ·subst e
   split at hoi
   case h_2=>cases hoi
   rename_i o hoi
   simp only [E,decide_eq_true_eq] at hoi
   obtain ⟨⟨hg,hob⟩,hds⟩:=hoi
   split at hki
   case isFalse=>cases hki
   rename_i hc
   simp only [E] at hc
   obtain ⟨hc2,hc3⟩:=hc
   have hfr:Ci o.dst.toList T=true:=by rw [hds]; exact hc2
   unfold wpOp
   simp only [hoi,HM (g:=none) hf rfl hg,if_true]
   refine .inl (Me hcal hob ρ (fun s'=>dK cal anc kn ri (CU (anc.getD k []) T) s') r s act w H φ _ _ hB.sr hf hn hki fun s' v w' H' φ' h1 h2 h3 h4=>?_)
   have hpend:Le (act.put o.dst v) w' (CU (anc.getD k []) T) (GX (anc.getD k []) TT):=by
    intro p hp'
    obtain ⟨hp1,hp2⟩:=CM p hp'
    obtain ⟨q1,q2⟩:=hp p hp1
    rcases q2 with q2 | ⟨x,hx,w0,e⟩
    ·exact ⟨q2 w',.inl q2⟩
    ·have hxf:=FP hfr _ hx
     have hgd:(act.put o.dst v).tmps.getD x undef=act.tmps.getD x undef:=En (fun e=>hxf (by rw [e]; simp))
     refine ⟨?_,.inr ⟨x,Dt hx hp2,w0,by rw [hgd]; exact e⟩⟩
     have hun:=IQ hB.sr h2 h4.mem (hf x) (Gr hc3 _ hx hp2)
     rw [e] at q1 ⊢
     intro b hb'
     rw [hun b hb']
     exact q1 b hb'
   exact ⟨fun p hp'=>(hpend p hp').1,ihi fuel [] [] B _ _ (L.setIfInBounds k true) _ s' _ w' H' φ' hbi (hls.set k) (fun f hf'=>by cases hf') List.nodup_nil (fun f hf'=>by cases hf') (by omega) (hsh.set hkL) (hshM.set hkM) (hB.trans h2) h3 (Cc.trans hn) (CF.trans hde) hpend (fun f hf'=>by cases hf') (fun f hf'=>by cases hf') h1⟩
  ·subst e
   split at hoj
   case h_2=>cases hoj
   rename_i o hoi
   simp only [E,decide_eq_true_eq] at hoj
   obtain ⟨⟨hg,hob⟩,hds⟩:=hoj
   split at hkj
   case isFalse=>cases hkj
   rename_i hc
   simp only [E] at hc
   obtain ⟨hc2,hc3⟩:=hc
   have hfr:Ci o.dst.toList T=true:=by rw [hds]; exact hc2
   unfold wpOp
   simp only [hoi,HM (g:=none) hf rfl hg,if_true]
   refine .inl (Me hcal hob ρ (fun s'=>dK cal anc kn rj (CU (anc.getD k []) T) s') r s act w H φ _ _ hB.sr hf hn hkj fun s' v w' H' φ' h1 h2 h3 h4=>?_)
   have hpend:Le (act.put o.dst v) w' (CU (anc.getD k []) T) (GX (anc.getD k []) TT):=by
    intro p hp'
    obtain ⟨hp1,hp2⟩:=CM p hp'
    obtain ⟨q1,q2⟩:=hp p hp1
    rcases q2 with q2 | ⟨x,hx,w0,e⟩
    ·exact ⟨q2 w',.inl q2⟩
    ·have hxf:=FP hfr _ hx
     have hgd:(act.put o.dst v).tmps.getD x undef=act.tmps.getD x undef:=En (fun e=>hxf (by rw [e]; simp))
     refine ⟨?_,.inr ⟨x,Dt hx hp2,w0,by rw [hgd]; exact e⟩⟩
     have hun:=IQ hB.sr h2 h4.mem (hf x) (Gr hc3 _ hx hp2)
     rw [e] at q1 ⊢
     intro b hb'
     rw [hun b hb']
     exact q1 b hb'
   exact ⟨fun p hp'=>(hpend p hp').1,ihj fuel [] [] B _ _ (L.setIfInBounds k true) _ s' _ w' H' φ' hbj (hls.set k) (fun f hf'=>by cases hf') List.nodup_nil (fun f hf'=>by cases hf') (by omega) (hsh.set hkL) (hshM.set hkM) (hB.trans h2) h3 (Cc.trans hn) (CF.trans hde) hpend (fun f hf'=>by cases hf') (fun f hf'=>by cases hf') h1⟩
 | skip i g d rt ih =>
  intro fuel F S B T TT L M s act w H φ hb hls hS hnd hBd hfu hsh hshM hB hf hn hde hp hAn hpf hk
  simp only [MF,E,B9] at hb
  obtain ⟨⟨⟨⟨hr,hfree⟩,hiF⟩,ho⟩,hb⟩:=hb
  split at ho
  case h_2=>cases ho
  rename_i o hoi
  simp only [E,decide_eq_true_eq] at ho
  obtain ⟨⟨hg,rfl⟩,hdn⟩:=ho
  simp only [dK] at hk
  split at hk
  case isFalse=>cases hk
  rename_i hc
  simp only [E] at hc
  have hri:i∈Region.ready .any ops L:=by simpa using hr
  have hiS:i∉S:=fun h=>by have:=(hS i h).1; rw [hiF] at this; cases this
  have hriM:i∈Region.ready .any ops M:=by
   obtain ⟨h1,o',h2,h3⟩:=mem_ready.1 hri
   exact mem_ready.2 ⟨by rw [hls.2,h1,AO.2 hiS]; rfl,o',h2,fun e he hbi=>by rw [hls.getF,h3 e he hbi]; rfl⟩
  have hfreeL:=Region.free_spec hoi hfree
  have hfreeM:∀ j oj,ops[j]? = some oj->j≠i->M.getD j true=false->(∀ e∈oj.after,Region.binds .any e=true->e.on≠i)->o.apart ops oj=true:=fun j oj h1 h2 h3 h4 =>
   hfreeL j oj h1 h2 (by rw [hls.2] at h3; simp only [Bool.or_eq_false_iff] at h3; exact h3.1) h4
  have hcnt:=IR (mem_ready.1 hriM).1
  obtain ⟨fuel,rfl⟩:∃ k,fuel=k+1:=⟨fuel-1,by omega⟩
  refine Jm hA (C:=fun _=>True) hoi hsnd (fun c a w h=>h) fuel TT M act w hshM hfreeM hriM (.inr ⟨Ow hf hc.1 hg,rfl⟩) trivial (fun p hp'=>(hp p hp').1) ?_
  have hf2:Bf H φ s.st (OY o.dst .void s.fr) (act.put o.dst undef).tmps:=by
   cases hdst:o.dst with
   | none=>exact hf
   | some d =>
    rw [hdst] at hdn
    simp only [decide_eq_true_eq] at hdn
    exact hf.put (a:=.void) (v:=undef) (by omega) rfl
  have hAn':∀ (C:World->Prop),∀ f∈S,∀ p∈(i,C)::TT,AZ (anc.getD f []) p.1=false:=fun C f hf' p hp'=>by
   rcases AH.1 hp' with rfl | hp'
   ·rw [AO]
    intro hm
    have:=FY hA hsh f (BY (hS f hf').2).1 (BY (hS f hf').2).2 _ hm
    rw [Bw hri] at this
    cases this
   ·exact hAn f hf' p hp'
  refine ih fuel F S B T _ (L.setIfInBounds i true) _ ⟨OY o.dst .void s.fr,s.st⟩ _ w H φ hb (hls.set i) (fun f hf'=>⟨(hS f hf').1,ready_mono (hS f hf').2 (fun e=>hiS (e▸hf'))⟩) hnd hBd (by omega) (hsh.set hri) (hshM.set hriM) hB hf2 (Cc.trans hn) (CF.trans hde) ?_ (hAn' _) (fun f hf'=>?_) hk
  ·intro p hp'
   rcases AH.1 hp' with rfl | hp'
   ·exact ⟨trivial,.inl fun _=>trivial⟩
   ·exact (hp.put hc.2) p hp'
  ·refine (hpf f hf').put hsnd (fun of hof=>hfreeL f of hof (fun e=>hiS (e▸hf')) (mem_ready.1 (hS f hf').2).1 (fun e he hbi heq=>?_)) (fun _ h=>h)
   obtain ⟨_,o',h2,h3⟩:=mem_ready.1 (hS f hf').2
   rw [hof] at h2
   cases h2
   have:=h3 e he hbi
   rw [heq,Bw hri] at this
   cases this
 | take i g ao rt ih =>
  intro fuel F S B T TT L M s act w H φ hb hls hS hnd hBd hfu hsh hshM hB hf hn hde hp hAn hpf hk
  simp only [MF,E,B9] at hb
  obtain ⟨⟨⟨⟨⟨hr,hfree⟩,hiF⟩,hval⟩,ho⟩,hb⟩:=hb
  split at ho
  case h_2=>cases ho
  rename_i o hoi
  simp only [E,decide_eq_true_eq] at ho
  obtain ⟨⟨hg,hob⟩,hds⟩:=ho
  simp only [dK] at hk
  split at hk
  case isFalse=>cases hk
  rename_i hc
  simp only [E] at hc
  obtain ⟨hc,hns⟩:=hc
  have hri:i∈Region.ready .any ops L:=by simpa using hr
  have hiS:i∉S:=fun h=>by have:=(hS i h).1; rw [hiF] at this; cases this
  have hriM:i∈Region.ready .any ops M:=by
   obtain ⟨h1,o',h2,h3⟩:=mem_ready.1 hri
   exact mem_ready.2 ⟨by rw [hls.2,h1,AO.2 hiS]; rfl,o',h2,fun e he hbi=>by rw [hls.getF,h3 e he hbi]; rfl⟩
  have hfreeL:=Region.free_spec hoi hfree
  have hfreeM:∀ j oj,ops[j]? = some oj->j≠i->M.getD j true=false->(∀ e∈oj.after,Region.binds .any e=true->e.on≠i)->o.apart ops oj=true:=fun j oj h1 h2 h3 h4 =>
   hfreeL j oj h1 h2 (by rw [hls.2] at h3; simp only [Bool.or_eq_false_iff] at h3; exact h3.1) h4
  have hcnt:=IR (mem_ready.1 hriM).1
  obtain ⟨fuel,rfl⟩:∃ k,fuel=k+1:=⟨fuel-1,by omega⟩
  have info:∃ s' v H' φ',dK cal anc kn rt (JO i ao T) s'=some r/\AD H φ s.st w H' φ' s'.st w/\Bf H' φ' s'.st s'.fr (act.put o.dst v).tmps/\∀ w2,BQ o act w w2->(execOp act.eval o).run P w2=.ok (.value v) w2:=by
   refine SJ (P:=P) (o:=o) (a:=act) (w:=w) (Me hcal hob ρ (fun s'=>dK cal anc kn rt (JO i ao T) s') r s act w H φ _ _ hB.sr hf hn hk fun s' v w' H' φ' h1 h2 h3 h4=>?_)
   obtain ⟨e,h5⟩:=h4.val hval
   subst e
   exact ⟨s',v,H',φ',h1,h2,h3,h5⟩
  obtain ⟨s',v,H',φ',hk',hst,hf',hrun⟩:=info
  refine Jm hA (C:=BQ o act w) hoi hsnd (fun c a w h=>h) fuel TT M act w hshM hfreeM hriM (.inl ⟨HM hf hc.1 hg,hrun⟩) (BQ.refl o act w) (fun p hp'=>(hp p hp').1) ?_
  have hfr:Ci o.dst.toList T=true:=by rw [hds]; exact hc.2
  have hAn':∀ (C:World->Prop),∀ f∈S,∀ p∈(i,C)::TT,AZ (anc.getD f []) p.1=false:=fun C f hf' p hp'=>by
   rcases AH.1 hp' with rfl | hp'
   ·rw [AO]
    intro hm
    have:=FY hA hsh f (BY (hS f hf').2).1 (BY (hS f hf').2).2 _ hm
    rw [Bw hri] at this
    cases this
   ·exact hAn f hf' p hp'
  refine ih fuel F S B _ _ (L.setIfInBounds i true) _ s' _ w H' φ' hb (hls.set i) (fun f hf'=>⟨(hS f hf').1,ready_mono (hS f hf').2 (fun e=>hiS (e▸hf'))⟩) hnd hBd (by omega) (hsh.set hri) (hshM.set hriM) (hB.trans hst) hf' (Cc.trans hn) (CF.trans hde) ?_ (hAn' _) (fun f hfS=>?_) hk'
  ·intro p hp'
   rcases AH.1 hp' with rfl | hp'
   ·refine ⟨BQ.refl o act w,?_⟩
    by_cases hload:∃ d x m,ao=.load d (.t x) m
    ·obtain ⟨d,x,m,rfl⟩:=hload
     simp only [ME] at hob
     obtain ⟨t,ht⟩:=RL hob
     right
     have hxd:o.dst≠some x:=by
      have hd1:o.dst=some d:=by
       simp only [MS,E] at hob
       exact (Af hob.1).1
      rw [hd1]
      intro e
      cases e
      simp [Bi.notSelf] at hns
     refine ⟨x,by simp [JO],w,?_⟩
     funext w2
     simp only [BQ,ht,Act.eval]
     rw [En hxd]
    ·left
     intro w2
     unfold BQ
     split
     ·rename_i t y hop
      exfalso
      apply hload
      exact Qe hob hop hval hk
     ·trivial
   ·obtain ⟨h1,h2⟩:=(hp.put hfr) p hp'
    refine ⟨h1,?_⟩
    rcases h2 with h2 | ⟨x,hx,w0,e⟩
    ·exact .inl h2
    ·refine .inr ⟨x,?_,w0,e⟩
     unfold JO
     split
     ·exact List.mem_cons_of_mem _ hx
     ·exact hx
  ·refine (hpf f hfS).put hsnd (fun of hof=>hfreeL f of hof (fun e=>hiS (e▸hfS)) (mem_ready.1 (hS f hfS).2).1 (fun e he hbi heq=>?_)) (fun _ h=>h.step hst)
   obtain ⟨_,o',h2,h3⟩:=mem_ready.1 (hS f hfS).2
   rw [hof] at h2
   cases h2
   have:=h3 e he hbi
   rw [heq,Bw hri] at this
   cases this
 | only i g ao e fl rt ih =>
  intro fuel
  induction fuel using Nat.strongRecOn with
  | _ fuel ihf =>
  intro F S B T TT L M s act w H φ hb hls hS hnd hBd hfu hsh hshM hB hf hn hde hp hAn hpf hk
  have hb0:=hb
  have hk0:=hk
  simp only [MF,E] at hb
  obtain ⟨⟨⟨⟨⟨⟨⟨hr,hrF⟩,hFs⟩,hFi⟩,hfl⟩,hap⟩,ho⟩,hb⟩:=hb
  split at ho
  case h_2=>cases ho
  rename_i o hoi
  simp only [E,decide_eq_true_eq] at ho
  obtain ⟨⟨hg,hob⟩,hds⟩:=ho
  simp only [dK] at hk
  split at hk
  case isFalse=>cases hk
  rename_i hc
  simp only [E] at hc
  obtain ⟨⟨⟨⟨⟨hc1,hc2⟩,hc3⟩,hc4⟩,hc6⟩,hc5⟩:=hc
  have hri:i∈Region.ready .any ops L:=by simpa using hr
  have hfr:Ci o.dst.toList T=true:=by rw [hds]; exact hc2
  have hanc:∀ k∈anc.getD i [],k≠i:=fun k hk e=>by
   have:=FY hA hsh i (BY hri).1 (BY hri).2 k hk
   rw [e,Bw hri] at this
   cases this
  have hFsub:∀ f∈S,f=i\/f∈fl.map (·.1):=fun f hfS=>by
   have h1:=(hS f hfS).1
   have h2:=Ac.1 hFs f (BI.1 h1)
   simp only [Dd,beq_iff_eq] at h2
   exact h2.imp id BI.1
  by_cases hiS:i∈S
  ·-- it came up before: now the boxes are told
   obtain ⟨oa,d,obj,q1,q2,q3,q4,q5,q6,q7⟩:=hpf i hiS
   rw [hoi] at q1
   cases q1
   have hfi:ao.isFloat=true:=by
    have h1:=(hS i hiS).1
    rw [h1] at hFi
    simp only [Bool.not_true,Bool.false_or,E] at hFi
    exact hFi.2
   have hfk:ao.floatOk s=true:=by
    have h1:=(hS i hiS).1
    rw [h1] at hFi
    simp only [Bool.not_true,Bool.false_or,E] at hFi
    rw [hFi.1] at hc5
    simpa using hc5
   obtain ⟨s',H',φ',hk',hst',hf',hoth⟩:=RJ hob hfi hfk hB hf hk q4 (fun d' hd'=>by rw [q2] at hd'; cases hd'; exact q5) q6 q7
   obtain ⟨S1,S2,rfl⟩:=List.append_of_mem hiS
   have hnd2:i∉S1++S2/\(S1++S2).Nodup:=by
    rw [List.nodup_append] at hnd
    obtain ⟨n1,n2,n3⟩:=hnd
    rw [List.nodup_cons] at n2
    refine ⟨fun h=>?_,?_⟩
    ·rcases A_.1 h with h | h
     ·exact n3 i h i (by simp) rfl
     ·exact n2.1 h
    ·rw [List.nodup_append]
     exact ⟨n1,n2.2,fun a ha b hb=>n3 a ha b (by simp [hb])⟩
   have hsub:∀ f∈S1++S2,f∈S1++i::S2:=fun f h=>by
    rcases A_.1 h with h | h
    ·simp [h]
    ·simp [h]
   refine ih fuel (fl.map (·.1)) (S1++S2) B _ _ (L.setIfInBounds i true) M s' act w H' φ' hb hls.adopt (fun f hf'=>?_) hnd2.2 (fun f hf' g hg'=>hBd f (hsub f hf') g (hsub g hg')) hfu (hsh.set hri) hshM hst' hf' hn hde ?_ (fun f hf'=>hAn f (hsub f hf')) (fun f hf'=>?_) hk'
   ·have hne:f≠i:=fun e=>hnd2.1 (e▸hf')
    refine ⟨BI.2 ((hFsub f (hsub f hf')).resolve_left hne),ready_mono (hS f (hsub f hf')).2 hne⟩
   ·intro p hp'
    obtain ⟨h1,h2⟩:=hp p hp'
    refine ⟨h1,?_⟩
    rcases h2 with h2 | ⟨x,hx,w0,e⟩
    ·exact .inl h2
    ·exact .inr ⟨x,Dt hx (hAn i hiS p hp'),w0,e⟩
   ·obtain ⟨o2,d2,obj2,p1,p2,p3,p4,p5,p6,p7⟩:=hpf f (hsub f hf')
    have hne:f≠i:=fun e=>hnd2.1 (e▸hf')
    exact ⟨o2,d2,obj2,p1,p2,p3,p4,p5,hoth _ _ (hBd f (hsub f hf') i hiS hne) p6,p7⟩
  ·have hriM:i∈Region.ready .any ops M:=by
    obtain ⟨h1,o',h2,h3⟩:=mem_ready.1 hri
    exact mem_ready.2 ⟨by rw [hls.2,h1,AO.2 hiS]; rfl,o',h2,fun e he hbi=>by rw [hls.getF,h3 e he hbi]; rfl⟩
   have hcnt:=IR (mem_ready.1 hriM).1
   obtain ⟨fuel,rfl⟩:∃ k,fuel=k+1:=⟨fuel-1,by omega⟩
   have hSfl:∀ f∈S,f∈fl.map (·.1):=fun f hf'=>(hFsub f hf').resolve_left (fun e=>hiS (e▸hf'))
   refine ⟨fun h=>(by rw [h] at hriM; cases hriM),fun j hj=>?_⟩
   have hcj:=IR (mem_ready.1 hj).1
   by_cases hji:j=i
   ·subst hji
    unfold wpOp
    simp only [hoi,HM hf hc1 hg,if_true]
    refine .inl (Me hcal hob ρ (fun s'=>dK cal anc kn rt (CU (anc.getD j []) T) s') r s act w H φ _ _ hB.sr hf hn hk fun s' v w' H' φ' h1 h2 h3 h4=>?_)
    have hpend:Le (act.put o.dst v) w' (CU (anc.getD j []) T) (GX (anc.getD j []) TT):=by
     intro p hp'
     obtain ⟨hp1,hp2⟩:=CM p hp'
     obtain ⟨q1,q2⟩:=hp p hp1
     rcases q2 with q2 | ⟨x,hx,w0,e⟩
     ·exact ⟨q2 w',.inl q2⟩
     ·have hxf:=FP hfr _ hx
      have hgd:(act.put o.dst v).tmps.getD x undef=act.tmps.getD x undef:=En (fun e=>hxf (by rw [e]; simp))
      refine ⟨?_,.inr ⟨x,Dt hx hp2,w0,by rw [hgd]; exact e⟩⟩
      have hun:=IQ hB.sr h2 h4.mem (hf x) (Gr hc3 _ hx hp2)
      rw [e] at q1 ⊢
      intro b hb'
      rw [hun b hb']
      exact q1 b hb'
    refine ⟨fun p hp'=>(hpend p hp').1,ih fuel (fl.map (·.1)) S B _ _ (L.setIfInBounds j true) _ s' _ w' H' φ' hb (hls.set j) (fun f hf'=>⟨BI.2 (hSfl f hf'),ready_mono (hS f hf').2 (fun e=>hiS (e▸hf'))⟩) hnd hBd (by omega) (hsh.set hri) (hshM.set hj) (hB.trans h2) h3 (Cc.trans hn) (CF.trans hde) hpend (fun f hf' p hp'=>hAn f hf' p (CM p hp').1) (fun f hf'=>?_) h1⟩
    obtain ⟨a,b,k1,k2,k3⟩:=Hu hap j (by simp) f (List.mem_cons_of_mem _ (hSfl f hf')) (fun e=>hiS (e▸hf'))
    rw [hoi] at k1
    cases k1
    exact (hpf f hf').put hsnd (fun of hof=>by rw [k2] at hof; cases hof; exact k3) (fun _ h=>h.step h2)
   ·-- one that comes up ahead of its turn
    have hjS:j∉S:=fun h=>by
     have h1:=(mem_ready.1 hj).1
     rw [hls.2,BI.2 h] at h1
     simp at h1
    have hjfl:j∈fl.map (·.1):=by
     rcases Classical.em (j∈fl.map (·.1)) with h | h
     ·exact h
     ·exfalso
      obtain ⟨h1,o',h2,h3⟩:=mem_ready.1 hj
      have hLF:=SK L (fl.map (·.1))
      have hrd:j∈Region.ready .any ops (Qd L (fl.map (·.1))):=by
       refine mem_ready.2 ⟨?_,o',h2,fun e he hbi=>?_⟩
       ·rw [hLF.2,AO.2 h]
        rw [hls.2] at h1
        simp only [Bool.or_eq_false_iff] at h1
        rw [h1.1]
        rfl
       ·have:=h3 e he hbi
        rw [I1] at this ⊢
        simp only [E,decide_eq_true_eq] at this ⊢
        refine ⟨?_,by rw [hLF.1,<- hls.1]; exact this.2⟩
        rw [hLF.2]
        have h4:=this.1
        rw [hls.2] at h4
        simp only [Dd] at h4 ⊢
        exact h4.imp id fun h5=>BI.2 (hSfl _ (BI.1 h5))
      have:=Ac.1 hrF j hrd
      simp only [beq_iff_eq] at this
      exact hji this
    obtain ⟨⟨j',aj⟩,hjm,hje⟩:=List.mem_map.1 hjfl
    simp only at hje
    subst hje
    have hfb:=Ac.1 hfl _ hjm
    obtain ⟨k1,k2,k3⟩:=Jn hc4 _ hjm
    have hpk:=Ac.1 hc6 _ hjm
    simp only [PX,E] at hfb
    obtain ⟨⟨hjr,hjfl2⟩,hfb⟩:=hfb
    split at hfb
    case h_2=>cases hfb
    rename_i oj hoj
    simp only [E,decide_eq_true_eq] at hfb
    obtain ⟨⟨⟨hjob,hjds⟩,hjg⟩,hjd⟩:=hfb
    split at hjd
    case h_2=>cases hjd
    rename_i d hdd
    simp only [E,B9,decide_eq_true_eq] at hjd
    have hjL:j'∈Region.ready .any ops L:=by simpa using hjr
    obtain ⟨obj,hborn⟩:=SI hjob hjfl2 k1 hB.sr hf
    have hst:AD H φ s.st w H φ s.st (w.alloc obj):=AD.grow hB.sr (World.grownBy_alloc w obj none)
    have hfrj:Ci oj.dst.toList T=true:=by rw [hjds]; exact k3
    have hund:Bg s.fr d=.undef:=by
     rw [<- hjds,hdd] at k2
     simp only [Option.toList_some,JP,Bool.and_true] at k2
     split at k2
     ·rename_i h; exact h
     ·cases k2
    have hf2:Bf H φ s.st s.fr (act.put oj.dst (La oj.op w.heap.size)).tmps:=by
     intro t
     by_cases ht:t=d
     ·subst ht
      rw [hund]
      trivial
     ·rw [En (fun e=>ht (by rw [hdd] at e; cases e; rfl))]
      exact hf t
    have hpend:Le (act.put oj.dst (La oj.op w.heap.size)) (w.alloc obj) T (GX (anc.getD j' []) TT):=by
     intro p hp'
     obtain ⟨hp1,hp2⟩:=CM p hp'
     obtain ⟨q1,q2⟩:=hp p hp1
     rcases q2 with q2 | ⟨x,hx,w0,e⟩
     ·exact ⟨q2 _,.inl q2⟩
     ·have hxf:=FP hfrj _ hx
      have hgd:(act.put oj.dst (La oj.op w.heap.size)).tmps.getD x undef=act.tmps.getD x undef:=En (fun e=>hxf (by rw [e]; simp))
      refine ⟨?_,.inr ⟨x,hx,w0,by rw [hgd]; exact e⟩⟩
      have hun:=IQ hB.sr hst (L_.grown (W:=[]) hB.sr (World.grownBy_alloc w obj none)) (hf x) (Gr hpk _ hx hp2)
      rw [e] at q1 ⊢
      intro b hb'
      rw [hun b hb']
      exact q1 b hb'
    have hiff:∀ f∈S,f≠j':=fun f hf' e=>hjS (e▸hf')
    unfold wpOp
    simp only [hoj,FX (o:=oj) (Option.isNone_iff_eq_none.1 hjg) trivial,if_true]
    refine .inl (Ho (hborn w) ⟨fun p hp'=>(hpend p hp').1,?_⟩)
    have hbF:MF P n ops (.only i g ao e fl rt) L (fl.map (·.1))=true:=by
     have hni:AZ (fl.map (·.1)) i=false:=by
      have:=hap
      simp only [Gq,E,B9] at this
      exact this.1.1
     simp only [MF,E] at hb0 ⊢
     obtain ⟨⟨⟨⟨⟨⟨⟨z1,z2⟩,_⟩,_⟩,z5⟩,z6⟩,z7⟩,z8⟩:=hb0
     exact ⟨⟨⟨⟨⟨⟨⟨z1,z2⟩,Ac.2 fun f hf'=>by simp [BI.2 hf']⟩,by rw [hni]; rfl⟩,z5⟩,z6⟩,z7⟩,z8⟩
    refine ihf fuel (by omega) (fl.map (·.1)) (j'::S) (fun f=>if f=j' then w.heap.size else B f) T _ L _ s _ (w.alloc obj) H φ hbF (hls.early j') ?_ (List.nodup_cons.2 ⟨hjS,hnd⟩) ?_ (by omega) hsh (hshM.set hj) (hB.trans hst) hf2 (Cc.trans hn) (CF.trans hde) hpend ?_ ?_ hk0
    ·intro f hf'
     rcases AH.1 hf' with rfl | hf'
     ·exact ⟨BI.2 hjfl,hjL⟩
     ·exact ⟨BI.2 (hSfl f hf'),(hS f hf').2⟩
    ·have hlt:∀ f∈S,B f<w.heap.size:=fun f hf'=>by
      obtain ⟨_,_,_,_,_,_,_,_,h6,_⟩:=hpf f hf'
      exact h6.lt
     intro f hf' g hg' hne
     rcases AH.1 hf' with e1 | hf'
     ·rcases AH.1 hg' with e2 | hg'
      ·exact absurd (e1.trans e2.symm) hne
      ·rw [if_pos e1,if_neg (hiff g hg')]
       have:=hlt g hg'
       omega
     ·rcases AH.1 hg' with e2 | hg'
      ·rw [if_pos e2,if_neg (hiff f hf')]
       have:=hlt f hf'
       omega
      ·rw [if_neg (hiff f hf'),if_neg (hiff g hg')]
       exact hBd f hf' g hg' hne
    ·intro f hf' p hp'
     rcases AH.1 hf' with rfl | hf'
     ·exact (CM p hp').2
     ·exact hAn f hf' p (CM p hp').1
    ·intro f hf'
     rcases AH.1 hf' with e1 | hf'
     ·subst e1
      rw [if_pos rfl]
      refine ⟨oj,d,obj,hoj,hdd,by rw [Cc,hn]; exact hjd.2,fun w2=>?_,?_,Iz.alloc hB.sr obj,hB.size⟩
      ·rw [execOp_put oj (fun cs b=>hsnd f oj cs b hoj) act oj.dst _ (ops:=ops) (fun d' hd'=>by
        rw [hdd] at hd'
        cases hd'
        intro hm
        have:=hjd.1
        rw [List.contains_eq_mem,decide_eq_true hm] at this
        cases this)]
       exact hborn w2
      ·rw [FU hdd,Array.getD_eq_getD_getElem?]
       simp [hn,hjd.2]
     ·rw [if_neg (hiff f hf')]
      obtain ⟨a,b,q1,q2,q3⟩:=Hu hap j' (List.mem_cons_of_mem _ hjfl) f (List.mem_cons_of_mem _ (hSfl f hf')) (fun e=>hiff f hf' e.symm)
      rw [hoj] at q1
      cases q1
      exact (hpf f hf').put hsnd (fun of hof=>by rw [q2] at hof; cases hof; exact q3) (fun _ h=>h.step hst)
theorem SM {n:Nat} {id:Nat} {ops:Array Oper} {anc:List (List Nat)} {t:DT} {cal:Bx} (hcal:CY P cal) (h:P3 P n ops anc t=true) {ρ:Type} {kn:St->Option ρ} {r:ρ} {s:St} {act:Act} {w:World} {H:HP} {φ:Aj} {Q:Exit->Act->World->Prop}
  (hs:SR H φ s.st w) (hf:Bf H φ s.st s.fr act.tmps) (hn:act.tmps.size=n) (hk:dK cal anc kn t [] s=some r)
  (hN:∀ s' act' w' H' φ',kn s'=some r->AD H φ s.st w H' φ' s'.st w'->Bf H' φ' s'.st s'.fr act'.tmps->act'.tmps.size=n->act'.defers=act.defers->Q .normal act' w'):(Code.region id ops true).wp P Q act w:=by
 simp only [P3,E] at h
 obtain ⟨⟨⟨hm,hsel⟩,hA⟩,hb⟩:=h
 have hst:AD H φ s.st w H φ s.st { w with drawn:=w.drawn+1 }:=AD.grow hs ⟨rfl,rfl,rfl,Nat.le_refl _,fun _ _ _=>rfl⟩
 refine wp_mono (wp_region_any hm (Q:=fun e a w=>match e with | .normal=>Q .normal a w | _=>False) (Mj (anc:=fun i=>anc.getD i []) ops.size [] _ act _ ?_)) fun e a w h=>by cases e<;>first | exact h | exact h.elim
 have hsh:NP ops (Array.replicate ops.size false):=by
  intro k o hk' _ _ _ _
  simp [Array.getElem?_replicate] at hk'
  split at hk'<;>simp at hk'
 exact TR (ab:=act) (N:=fun a w=>Q .normal a w) hcal hA hsel (fun s' act' w' H' φ' h1 h2 h3 h4 h5=>hN s' act' w' H' φ' h1 h2 h3 h4 h5) t ops.size [] [] (fun _=>0) [] [] (Array.replicate ops.size false) _ s act _ H φ hb (LS.refl _)
  (fun f hf=>by cases hf) List.nodup_nil (fun f hf=>by cases hf) (by simp [SL]) hsh hsh hst hf hn rfl (fun p hp=>by cases hp) (fun f hf=>by cases hf) (fun f hf=>by cases hf) hk
def HV:List Nat->Nat
 | []=>0
 | i::r=>Nat.lor (Nat.shiftLeft 1 i) (HV r)
def RM (ops:Array Oper):List Nat:=ops.toList.map fun o=>HV ((o.after.filter fun e=>Region.binds .any e).toList.map (·.on))
def S_ (m i:Nat):Bool:=Nat.beq (Nat.land (Nat.shiftRight m i) 1) 1
def Er (pm:List Nat) (m i:Nat):Bool :=
 match pm[i]? with
 | some p=>!S_ m i&&Nat.beq (Nat.land p m) p
 | none=>false
def P5 (ops:Array Oper) (anc:List (List Nat)) (i:Nat):Bool :=
 match ops[i]? with
 | none=>false
 | some oi=>(List.range ops.size).all fun j=>j==i||AZ (anc.getD i []) j||match ops[j]? with
   | some oj=>oj.after.any (fun e=>Region.binds .any e&&e.on==i)||oi.apart ops oj
   | none=>true
def PY (P:Program) (n:Nat) (ops:Array Oper) (pm:List Nat) (m:Nat) (f:Nat×Bi):Bool :=
 Er pm m f.1&&f.2.isFloat&&(match ops[f.1]? with
  | some o=>ME P n o f.2&&decide (o.dst.toList=f.2.dsts)&&o.guard.isNone&&(match o.dst with
   | some d=>!(o.looksAt ops).contains d&&decide (d<n)
   | none=>false)
  | none=>false)
def PZ (P:Program) (n:Nat) (ops:Array Oper) (anc:List (List Nat)) (pm:List Nat):DT->Array Bool->Nat->List Nat->Bool
 | .done,_,m,F=>(List.range ops.size).all (fun i=>!Er pm m i)&&F.isEmpty
 | .take i g ao r,L,m,F=>Er pm m i&&(P5 ops anc i||Region.free .any ops L i)&&!AZ F i&&ao.isVal&&(match ops[i]? with
   | some o=>gB ops o g&&ME P n o ao&&decide (o.dst.toList=ao.dsts)
   | none=>false)&&PZ P n ops anc pm r (L.setIfInBounds i true) (Nat.lor m (Nat.shiftLeft 1 i)) F
 | .skip i g d r,L,m,F=>Er pm m i&&(P5 ops anc i||Region.free .any ops L i)&&!AZ F i&&(match ops[i]? with
   | some o=>gB ops o (some g)&&decide (o.dst=d)&&(match d with | some d=>decide (d<n) | none=>true)
   | none=>false)&&PZ P n ops anc pm r (L.setIfInBounds i true) (Nat.lor m (Nat.shiftLeft 1 i)) F
 | .only i g ao e fl r,L,m,F=>Er pm m i&&(List.range ops.size).all (fun k=>k==i||!Er pm (Nat.lor m (HV (fl.map (·.1)))) k)&&F.all (fun f=>f==i||AZ (fl.map (·.1)) f)&&(!AZ F i||(e&&ao.isFloat))
   && fl.all (PY P n ops pm m)&&Gq ops (i::fl.map (·.1))&&(match ops[i]? with
   | some o=>gB ops o g&&ME P n o ao&&decide (o.dst.toList=ao.dsts)
   | none=>false)&&PZ P n ops anc pm r (L.setIfInBounds i true) (Nat.lor m (Nat.shiftLeft 1 i)) (fl.map (·.1))
 | .test _ a b,L,m,F=>PZ P n ops anc pm a L m F&&PZ P n ops anc pm b L m F
 | .fork i ai ri j aj rj,L,m,F=>F.isEmpty&&(Er pm m i&&Er pm m j)&&(List.range ops.size).all (fun k=>(k==i||k==j)||!Er pm m k)
   && (match ops[i]? with
   | some o=>gB ops o none&&ME P n o ai&&decide (o.dst.toList=ai.dsts)
   | none=>false)&&(match ops[j]? with
   | some o=>gB ops o none&&ME P n o aj&&decide (o.dst.toList=aj.dsts)
   | none=>false)&&PZ P n ops anc pm ri (L.setIfInBounds i true) (Nat.lor m (Nat.shiftLeft 1 i)) []&&PZ P n ops anc pm rj (L.setIfInBounds j true) (Nat.lor m (Nat.shiftLeft 1 j)) []
def RN (P:Program) (n:Nat) (ops:Array Oper) (anc:List (List Nat)) (t:DT):Bool :=
 P.follows .mixedOrders&&Region.noSelect ops&&PW ops anc&&PZ P n ops anc (RM ops) t (Array.replicate ops.size false) 0 []
theorem SN (m i:Nat):S_ m i=m.testBit i:=by
 have h:Nat.land (Nat.shiftRight m i) 1=(m >>> i) &&& 1:=rfl
 unfold S_
 rw [h,Nat.testBit,Nat.and_comm,Nat.one_and_eq_mod_two]
 have:=Nat.mod_two_eq_zero_or_one (m >>> i)
 rcases this with e | e<;>rw [e]<;>rfl
theorem SO (m i j:Nat):(Nat.lor m (Nat.shiftLeft 1 i)).testBit j=(m.testBit j||decide (i=j)):=by
 have h:Nat.lor m (Nat.shiftLeft 1 i)=m ||| (1 <<< i):=rfl
 rw [h,Nat.testBit_or,Nat.one_shiftLeft,Nat.testBit_two_pow]
theorem Nu (j:Nat):∀ l:List Nat,(HV l).testBit j=decide (j∈l)
 | []=>by simp [HV]
 | i::r=>by
  have h:HV (i::r)=(1 <<< i) ||| HV r:=rfl
  rw [h,Nat.testBit_or,Nat.one_shiftLeft,Nat.testBit_two_pow,Nu j r]
  by_cases e:i=j
  ·subst e; simp
  ·simp [e,Ne.symm e]
theorem RO (p m:Nat):Nat.beq (Nat.land p m) p=true↔∀ j,p.testBit j=true->m.testBit j=true:=by
 have h:Nat.land p m=p &&& m:=rfl
 rw [Nat.beq_eq,h]
 constructor
 ·intro e j hj
  have:=congrArg (fun x=>Nat.testBit x j) e
  simp only [Nat.testBit_and,hj,Bool.true_and] at this
  exact this
 ·intro e
  refine Nat.eq_of_testBit_eq fun j=>?_
  rw [Nat.testBit_and]
  cases hj:p.testBit j with
  | false=>rfl
  | true=>rw [e j hj]; rfl
def LM (ops:Array Oper) (L:Array Bool) (m:Nat):Prop:=L.size=ops.size/\∀ j,L.getD j false=m.testBit j
theorem CG {ops:Array Oper} {L:Array Bool} {m:Nat} (h:LM ops L m) (i:Nat):Er (RM ops) m i=true↔i∈Region.ready .any ops L:=by
 unfold Er RM
 rw [mem_ready,As,Array.getElem?_toList]
 cases ho:ops[i]? with
 | none=>simp
 | some o =>
  have hi:i<ops.size:=(Array.getElem?_eq_some_iff.1 ho).1
  have h0:L.getD i true=L.getD i false:=by simp [Array.getD,h.1,hi]
  simp only [Option.map_some,E,B9,RO,Nu,decide_eq_true_eq,List.mem_map,Array.mem_toList_iff,Array.mem_filter,AN,exists_eq_left',SN,h0,h.2]
  constructor
  ·rintro ⟨a,b⟩
   exact ⟨a,fun e he hb=>b e.on ⟨e,⟨he,hb⟩,rfl⟩⟩
  ·rintro ⟨a,b⟩
   refine ⟨a,?_⟩
   rintro j ⟨e,⟨he,hb⟩,rfl⟩
   exact b e he hb
theorem LM.set {ops:Array Oper} {L:Array Bool} {m i:Nat} (h:LM ops L m) (hi:i<ops.size):LM ops (L.setIfInBounds i true) (Nat.lor m (Nat.shiftLeft 1 i)):=by
 refine ⟨by rw [Array.size_setIfInBounds]; exact h.1,fun j=>?_⟩
 rw [SO,<- h.2 j]
 by_cases e:i=j
 ·subst e
  simp [Array.getD,h.1,hi]
 ·rw [getD_set_ne false e]; simp [e]
theorem LM.add {ops:Array Oper}:∀ (fl:List Nat) {L:Array Bool} {m:Nat},LM ops L m->(∀ f∈fl,f<ops.size)->LM ops (Qd L fl) (Nat.lor m (HV fl))
 | [],L,m,h,_=>by
  have e:Nat.lor m (HV [])=m ||| 0:=rfl
  rw [e,Nat.or_zero]
  exact h
 | i::r,L,m,h,hl=>by
  have:=LM.add r (h.set (hl i (by simp))) fun f hf=>hl f (List.mem_cons_of_mem _ hf)
  have e:Nat.lor m (HV (i::r))=Nat.lor (Nat.lor m (Nat.shiftLeft 1 i)) (HV r):=(Nat.or_assoc m (1 <<< i) (HV r)).symm
  rw [e]
  exact this
theorem D2 {ops:Array Oper} {L:Array Bool} {i:Nat} (h:i∈Region.ready .any ops L):i<ops.size:=(BY h).2
theorem P6 {ops:Array Oper} {anc:List (List Nat)} (hA:PW ops anc=true) {L:Array Bool} (hs:NP ops L) {i:Nat} (hr:i∈Region.ready .any ops L) (h:P5 ops anc i=true):Region.free .any ops L i=true:=by
 unfold P5 at h
 unfold Region.free
 split at h
 ·cases h
 ·rename_i oi hi
  rw [hi]
  simp only
  rw [Ac] at h ⊢
  intro j hj
  have h1:=h j hj
  simp only [Dd] at h1 ⊢
  rcases h1 with (h1 | h1) | h1
  ·exact .inl (.inl h1)
  ·have:=FY hA hs i (BY hr).1 (BY hr).2 j (BI.1 h1)
   exact .inl (.inr (by
    have hl:j<L.size:=by
     rcases Ai j L.size with q | q
     ·exact q
     ·simp [Array.getD,Nat.not_lt.2 q] at this
    simp [Array.getD,hl] at this ⊢
    exact this))
  ·exact .inr h1
theorem TS {P:Program} {n:Nat} {ops:Array Oper} {anc:List (List Nat)} (hA:PW ops anc=true):∀ (t:DT) (L:Array Bool) (m:Nat) (F:List Nat),LM ops L m->NP ops L->PZ P n ops anc (RM ops) t L m F=true->MF P n ops t L F=true:=by
 intro t
 induction t with
 | done =>
  intro L m F hL _ h
  simp only [PZ,MF,E,List.isEmpty_iff] at h ⊢
  refine ⟨?_,h.2⟩
  rw [List.eq_nil_iff_forall_not_mem]
  intro j hj
  have:=Ac.1 h.1 j (List.mem_range.2 (D2 hj))
  rw [(CG hL j).2 hj] at this
  cases this
 | test c a b iha ihb =>
  intro L m F hL hs h
  simp only [PZ,MF,E] at h ⊢
  exact ⟨iha _ _ _ hL hs h.1,ihb _ _ _ hL hs h.2⟩
 | take i g ao r ih =>
  intro L m F hL hs h
  simp only [PZ,MF,E] at h ⊢
  obtain ⟨⟨⟨⟨⟨h1,h2⟩,h3⟩,h4⟩,h5⟩,h6⟩:=h
  have hr:=(CG hL i).1 h1
  refine ⟨⟨⟨⟨⟨by simpa using hr,?_⟩,h3⟩,h4⟩,h5⟩,ih _ _ _ (hL.set (D2 hr)) (hs.set hr) h6⟩
  rcases Dd _ _▸h2 with q | q
  ·exact P6 hA hs hr q
  ·exact q
 | skip i g d r ih =>
  intro L m F hL hs h
  simp only [PZ,MF,E] at h ⊢
  obtain ⟨⟨⟨⟨h1,h2⟩,h3⟩,h5⟩,h6⟩:=h
  have hr:=(CG hL i).1 h1
  refine ⟨⟨⟨⟨by simpa using hr,?_⟩,h3⟩,h5⟩,ih _ _ _ (hL.set (D2 hr)) (hs.set hr) h6⟩
  rcases Dd _ _▸h2 with q | q
  ·exact P6 hA hs hr q
  ·exact q
 | only i g ao e fl r ih =>
  intro L m F hL hs h
  simp only [PZ,MF,E] at h ⊢
  obtain ⟨⟨⟨⟨⟨⟨⟨h1,h2⟩,h3⟩,h4⟩,h5⟩,h6⟩,h7⟩,h8⟩:=h
  have hr:=(CG hL i).1 h1
  have hfl:∀ f∈fl,Er (RM ops) m f.1=true:=fun f hf=>by
   have:=Ac.1 h5 f hf
   simp only [PY,E] at this
   exact this.1.1
  have hL2:=LM.add (fl.map (·.1)) hL fun f hf=>by
   obtain ⟨g,hg,rfl⟩:=List.mem_map.1 hf
   exact D2 ((CG hL g.1).1 (hfl g hg))
  refine ⟨⟨⟨⟨⟨⟨⟨by simpa using hr,?_⟩,h3⟩,h4⟩,?_⟩,h6⟩,h7⟩,ih _ _ _ (hL.set (D2 hr)) (hs.set hr) h8⟩
  ·rw [Ac]
   intro k hk
   have:=Ac.1 h2 k (List.mem_range.2 (D2 hk))
   rw [(CG hL2 k).2 hk] at this
   simpa using this
  ·rw [Ac]
   intro f hf
   have h9:=Ac.1 h5 f hf
   unfold PY at h9
   unfold PX
   rw [hfl f hf] at h9
   have h10:(Region.ready .any ops L).contains f.1=true:=by simpa using (CG hL f.1).1 (hfl f hf)
   rw [h10]
   exact h9
 | fork i ai ri j aj rj ihi ihj =>
  intro L m F hL hs h
  simp only [PZ,MF,E] at h ⊢
  obtain ⟨⟨⟨⟨⟨⟨h0,h1⟩,h2⟩,h3⟩,h4⟩,h5⟩,h6⟩:=h
  have hr:=(CG hL i).1 h1.1
  have hr2:=(CG hL j).1 h1.2
  have hall:(Region.ready .any ops L).all (fun k=>k==i||k==j)=true:=by
   rw [Ac]
   intro k hk
   have:=Ac.1 h2 k (List.mem_range.2 (D2 hk))
   rw [(CG hL k).2 hk] at this
   simpa using this
  exact ⟨⟨⟨⟨⟨⟨h0,by simpa using hr⟩,hall⟩,h3⟩,h4⟩,ihi _ _ _ (hL.set (D2 hr)) (hs.set hr) h5⟩,ihj _ _ _ (hL.set (D2 hr2)) (hs.set hr2) h6⟩
theorem RP {P:Program} {n:Nat} {ops:Array Oper} {anc:List (List Nat)} {t:DT} (h:RN P n ops anc t=true):P3 P n ops anc t=true:=by
 simp only [RN,P3,E] at h ⊢
 refine ⟨h.1,TS h.1.2 t _ 0 [] ⟨by simp,fun j=>?_⟩ ?_ h.2⟩
 ·rw [Nat.zero_testBit]
  simp [Array.getD]
 ·intro k o hk' _ _ _ _
  simp [Array.getElem?_replicate] at hk'
  split at hk'<;>simp at hk'

theorem Qf {st:List AA} {N k:Nat} {cs:List AV} (h:(st.map (AA.older N))[k]? = some (.var cs)) {o i:Nat} (ho:cs[o]? = some (.row i)):i<N:=by
 rw [As] at h
 cases hb:st[k]? with
 | none=>rw [hb] at h; cases h
 | some b =>
  rw [hb] at h
  cases b with
  | var cs0 =>
   cases h
   rw [As] at ho
   cases hc:cs0[o]? with
   | none=>rw [hc] at ho; cases ho
   | some c =>
    rw [hc] at ho
    simp only [Option.map_some,AN] at ho
    cases c<;>simp only [AV.olderC] at ho<;>try cases ho
    split at ho
    ·rename_i hn
     cases ho
     exact hn
    ·cases ho
  | _=>cases h
theorem SR.cut {H:HP} {φ:Aj} {st:List AA} {w:World} (h:SR H φ st w) (N:Nat):SR H φ ((st.take N).map (AA.older N)) w:=by
 have h2:=h.older N
 rw [List.map_take]
 have get:∀ (i:Nat) (b:AA),((st.map (AA.older N)).take N)[i]? = some b->(st.map (AA.older N))[i]? = some b:=by
  intro i b hi
  rw [Al] at hi
  split at hi
  ·exact hi
  ·cases hi
 refine ⟨h2.hp,fun i b hi=>h2.box i b (get i b hi),fun i j bi bj hi hj=>h2.sep i j bi bj (get i bi hi) (get j bj hj),fun i bi hi=>h2.out i bi (get i bi hi),fun id cs hid o i ho=>?_,h2.tb⟩
 obtain ⟨h3,h4⟩:=h2.cell id cs (get id _ hid) o i ho
 have hi:=Qf (get id _ hid) ho
 refine ⟨?_,h4⟩
 unfold J at h3 ⊢
 rw [Al,if_pos hi]
 exact h3
theorem AD.cut {H H':HP} {φ φ':Aj} {st st':List AA} {w w':World} (h:AD H φ st w H' φ' st' w') {N:Nat} (hN:st.length<=N):AD H φ st w H' φ' ((st'.take N).map (AA.older N)) w':=by
 refine ⟨h.le,h.sr.cut N,fun mv m0 H0 φ0 w0 f=>?_⟩
 have f2:=h.fr mv m0 H0 φ0 w0 f
 refine { f2 with new:=fun i bi hbi hl b hb=>?_,vars:=fun j hj=>?_ }
 ·rw [As,Al] at hbi
  split at hbi
  ·cases hb0:st'[i]? with
   | none=>rw [hb0] at hbi; cases hbi
   | some b0 =>
    rw [hb0] at hbi
    cases hbi
    exact f2.new i b0 hb0 (by cases b0<;>exact hl) b hb
  ·cases hbi
 ·have h1:=EH (f.vars j hj)
  have h2:=f2.vars j hj
  rw [Bt (Ep N)]
  unfold AB at h2 ⊢
  rw [Al,if_pos (by omega)]
  exact h2
theorem Bf.cut {H:HP} {φ:Aj} {st:List AA} {fr:List (Nat×AV)} {tmps:Array Value} (h:Bf H φ st fr tmps) (live:List Nat) (N:Nat) :
  Bf H φ ((st.take N).map (AA.older N)) (live.map fun t=>(t,(Bg fr t).older N)) tmps:=by
 intro t
 rcases Ni fr (fun a=>a.older N) live t with e | e
 ·rw [e]; trivial
 ·rw [e]; exact (h t).older N
theorem Oy {s s':St} {i:Nat} {v a:AV} {ids:List Nat} (h:s.intoRow i v=some (a,s',ids)):s'.st.length=s.st.length:=by
 unfold St.intoRow at h
 split at h
 ·split at h
  ·cases h; rfl
  ·split at h
   ·split at h
    ·cases h; simp
    ·cases h
   ·cases h
 ·split at h
  ·cases h; simp
  ·cases h
 ·cases h
theorem SP {H:HP} {φ:Aj} {s:St} {w:World} {tmps:Array Value} (hs:SR H φ s.st w) (hf:Bf H φ s.st s.fr tmps) (n t i:Nat) :
  ∃ φ',AD H φ s.st w H φ' (s.home n t i).st w/\Bf H φ' (s.home n t i).st (s.home n t i).fr tmps/\(s.home n t i).st.length=s.st.length:=by
 have same:∃ φ',AD H φ s.st w H φ' s.st w/\Bf H φ' s.st s.fr tmps/\s.st.length=s.st.length:=⟨φ,AD.refl hs,hf,rfl⟩
 unfold St.home
 split
 ·rename_i k hk
  split
  ·split
   ·rename_i x hx
    have hv:=hf t
    rw [hk] at hv
    obtain ⟨a,s1,ids⟩:=x
    obtain ⟨φ',h1,_,_,h4,h5,h6⟩:=JW hs (v:=.row k) (u:=tmps.getD t undef) hv hx
    exact ⟨φ',h1,Bf.cons (h6 tmps hf) ⟨h5,h4⟩,(Oy hx:s1.st.length=s.st.length)⟩
   ·exact same
  ·exact same
 ·exact same
theorem Oz {w:World} {tmps:Array Value} {n:Nat}:∀ (hs:List (Nat×Nat)) {H:HP} {φ:Aj} {s:St},SR H φ s.st w->Bf H φ s.st s.fr tmps ->
  ∃ φ',AD H φ s.st w H φ' (St.homes n hs s).st w/\Bf H φ' (St.homes n hs s).st (St.homes n hs s).fr tmps/\(St.homes n hs s).st.length=s.st.length
 | [],H,φ,s,h,hf=>⟨φ,AD.refl h,hf,rfl⟩
 | p::r,H,φ,s,h,hf=>by
  obtain ⟨φ1,a1,a2,a3⟩:=SP h hf n p.1 p.2
  obtain ⟨φ2,b1,b2,b3⟩:=Oz r a1.sr a2
  exact ⟨φ2,a1.trans b1,b2,b3.trans a3⟩
theorem OO {H H':HP} {φ φ':Aj} {st:List AA} {s':St} {w w':World} {tmps:Array Value} (h:AD H φ st w H' φ' s'.st w') (hf:Bf H' φ' s'.st s'.fr tmps) (hs:List (Nat×Nat)) (live:List Nat) {N:Nat} (hN:st.length<=N) :
  ∃ φ2,AD H φ st w H' φ2 (s'.cutH hs live N).st w'/\Bf H' φ2 (s'.cutH hs live N).st (s'.cutH hs live N).fr tmps:=by
 obtain ⟨φ2,a1,a2,_⟩:=Oz (n:=N) hs h.sr hf
 exact ⟨φ2,(h.trans a1).cut hN,a2.cut live N⟩
def I2 (P:Program) (c:Code) (Q:Exit->Act->World->Prop) (a:Act) (w:World):Prop :=
 ∀ (b:Frame) (k:List Item) (cs:List Frame),∃ e a' w',Q e a' w'/\Arrives P (lone (b.at a (.code c::.inLoop c::k)) cs w) b k cs e a' w'
theorem I2.wp {c:Code} {Q:Exit->Act->World->Prop} {a:Act} {w:World} (h:I2 P c Q a w):(Code.loop c).wp P Q a w:=by
 intro b k cs
 obtain ⟨e,a',w',hq,harr⟩:=h b k cs
 exact ⟨e,a',w',hq,.of_steps (.one step_loop) harr⟩
theorem I2.round {c:Code} {Q:Exit->Act->World->Prop} {a:Act} {w:World} (h:c.wp P (Exit.then (I2 P c Q) Q) a w):I2 P c Q a w:=by
 intro b k cs
 obtain ⟨e,a₁,w₁,hq,harr⟩:=h b (.inLoop c::k) cs
 cases e with
 | normal =>
  obtain ⟨e₂,a₂,w₂,hq₂,harr₂⟩:=hq b k cs
  exact ⟨e₂,a₂,w₂,hq₂,.of_steps (Steps.trans harr (.one step_inLoop)) harr₂⟩
 | exit id=>exact ⟨_,a₁,w₁,hq,.pass (x:=.inLoop c) rfl (fun _ _=>.inl (by simp)) harr⟩
 | goto l=>exact ⟨_,a₁,w₁,hq,.pass (x:=.inLoop c) rfl (fun _ _=>.inl (by simp)) harr⟩
 | ret=>exact ⟨_,a₁,w₁,hq,.pass (x:=.inLoop c) rfl (fun _ _=>.inl (by simp)) harr⟩
 | panic ch=>exact ⟨_,a₁,w₁,hq,.pass (x:=.inLoop c) rfl (fun _ _=>.inl (by simp)) harr⟩
 | outgrown=>exact ⟨_,a₁,w₁,hq,.pass (x:=.inLoop c) rfl (fun _ _=>.inl (by simp)) harr⟩
def Bz (P:Program) (n:Nat):Code->AL->Bool
 | .skip,.skip=>true
 | .region _ ops false,.region aos _=>decide (IT P n ops none [] 0 aos=some ops.size)
 | .region _ ops true,.draw anc t _=>RN P n ops anc t
 | .seq x y,.seq a b=>Bz P n x a&&Bz P n y b
 | .seq x y,.seqc _ a b=>Bz P n x a&&Bz P n y b
 | .cond c x y,.cond c' a b=>BF c c'&&Bz P n x a&&Bz P n y b
 | .block id x,.block id' _ a=>id==id'&&Bz P n x a
 | .loop x,.loop _ a=>Bz P n x a
 | .exit id,.exit id'=>id==id'
 | .ret,.ret=>true
 | _,_=>false
def Lf {ρ:Type} (n:Nat) (q:St->Option ρ) (r:ρ) (s:St) (act:Act) (w:World) (H:HP) (φ:Aj) (N:Act->World->Prop):Prop :=
 ∀ s' act' w' H' φ',q s'=some r->AD H φ s.st w H' φ' s'.st w'->Bf H' φ' s'.st s'.fr act'.tmps->act'.tmps.size=n->act'.defers=act.defers->N act' w'
def RQ (P:Program) (n:Nat) (cal:Bx) (k:Nat) (c:Code) (ac:AL):Prop :=
 ∀ (ρ:Type) (kn kr:St->Option ρ) (ke:Nat->St->Option ρ) (r:ρ) (s:St) (act:Act) (w:World) (H:HP) (φ:Aj) (Q:Exit->Act->World->Prop),
  SR H φ s.st w->Bf H φ s.st s.fr act.tmps->act.tmps.size=n->CP cal k ac kn kr ke s=some r ->
  Lf n kn r s act w H φ (Q .normal)->Lf n kr r s act w H φ (Q .ret)->(∀ i,Lf n (ke i) r s act w H φ (Q (.exit i)))->c.wp P Q act w
theorem Lf.step {ρ:Type} {n:Nat} {q:St->Option ρ} {r:ρ} {s s1:St} {act act1:Act} {w w1:World} {H H1:HP} {φ φ1:Aj} {N:Act->World->Prop}
  (h:Lf n q r s act w H φ N) (hst:AD H φ s.st w H1 φ1 s1.st w1) (hd:act1.defers=act.defers):Lf n q r s1 act1 w1 H1 φ1 N :=
 fun s' act' w' H' φ' hq hs hf hn hd'=>h s' act' w' H' φ' hq (hst.trans hs) hf hn (hd'.trans hd)
theorem O0 {n:Nat} {cal:Bx} {k:Nat} (hcal:CY P cal) {id:Nat} {ops:Array Oper} {aos:List Bi} {live:List Nat} (h:IT P n ops none [] 0 aos=some ops.size) :
  RQ P n cal k (.region id ops false) (.region aos live):=by
 intro ρ kn kr ke r s act w H φ Q hs hf hn hk hnorm _ _
 simp only [CP] at hk
 refine Qb hcal h hs hf hn hk fun s' act' w' H' φ' hk' hst hf' hn' hd'=>?_
 exact hnorm _ act' w' H' φ' hk' hst (hf'.live live) hn' hd'
theorem SQ {n:Nat} {cal:Bx} {k:Nat} (hcal:CY P cal):∀ (ac:AL) (c:Code),Bz P n c ac=true->RQ P n cal k c ac:=by
 intro ac
 induction ac with
 | skip =>
  intro c h
  cases c<;>first | (simp [Bz] at h; done) | skip
  intro ρ kn kr ke r s act w H φ Q hs hf hn hk h1 _ _
  exact wp_skip (h1 s act w H φ hk (AD.refl hs) hf hn rfl)
 | ret =>
  intro c h
  cases c<;>first | (simp [Bz] at h; done) | skip
  intro ρ kn kr ke r s act w H φ Q hs hf hn hk _ h2 _
  exact wp_ret (h2 s act w H φ hk (AD.refl hs) hf hn rfl)
 | exit id =>
  intro c h
  cases c<;>first | (simp [Bz] at h; done) | skip
  rename_i id'
  simp only [Bz,beq_iff_eq] at h
  subst h
  intro ρ kn kr ke r s act w H φ Q hs hf hn hk _ _ h3
  exact wp_exit (h3 id' s act w H φ hk (AD.refl hs) hf hn rfl)
 | region aos live =>
  intro c h
  cases c<;>first | (simp [Bz] at h; done) | skip
  rename_i id ops draw
  cases draw
  ·simp only [Bz,decide_eq_true_eq] at h
   exact O0 hcal h
  ·simp [Bz] at h
 | draw anc t live =>
  intro c h
  cases c<;>first | (simp [Bz] at h; done) | skip
  rename_i id ops draw
  cases draw
  ·simp [Bz] at h
  ·simp only [Bz] at h
   intro ρ kn kr ke r s act w H φ Q hs hf hn hk hnorm _ _
   simp only [CP] at hk
   exact SM hcal (RP h) hs hf hn hk fun s' act' w' H' φ' hk' hst hf' hn' hd'=>hnorm _ act' w' H' φ' hk' hst (hf'.live live) hn' hd'
 | seq a b iha ihb =>
  intro c h
  cases c<;>first | (simp [Bz] at h; done) | skip
  rename_i x y
  simp only [Bz,E] at h
  intro ρ kn kr ke r s act w H φ Q hs hf hn hk h1 h2 h3
  simp only [CP] at hk
  refine wp_seq (iha x h.1 ρ (fun s'=>CP cal k b kn kr ke s') kr ke r s act w H φ _ hs hf hn hk (fun s' act' w' H' φ' hk' hst hf' hn' hd'=>?_) h2 h3)
  exact ihb y h.2 ρ kn kr ke r s' act' w' H' φ' Q hst.sr hf' hn' hk' (h1.step hst hd') (h2.step hst hd') fun i=>(h3 i).step hst hd'
 | seqc live a b iha ihb =>
  intro c h
  cases c<;>first | (simp [Bz] at h; done) | skip
  rename_i x y
  simp only [Bz,E] at h
  intro ρ kn kr ke r s act w H φ Q hs hf hn hk h1 h2 h3
  simp only [CP] at hk
  refine wp_seq (iha x h.1 ρ (fun s'=>CP cal k b kn kr ke (s'.cutH (BO s live) live s.st.length)) kr ke r s act w H φ _ hs hf hn hk (fun s' act' w' H' φ' hk' hst hf' hn' hd'=>?_) h2 h3)
  obtain ⟨φ2,hst',hf2⟩:=OO hst hf' (BO s live) live (Nat.le_refl _)
  exact ihb y h.2 ρ kn kr ke r (s'.cutH (BO s live) live s.st.length) act' w' H' φ2 Q hst'.sr hf2 hn' hk' (h1.step hst' hd') (h2.step hst' hd') fun i=>(h3 i).step hst' hd'
 | cond c' a b iha ihb =>
  intro c h
  cases c<;>first | (simp [Bz] at h; done) | skip
  rename_i co x y
  simp only [Bz,E] at h
  obtain ⟨⟨hc,ha⟩,hb⟩:=h
  intro ρ kn kr ke r s act w H φ Q hs hf hn hk h1 h2 h3
  simp only [CP] at hk
  cases ht:s.opd c' with
  | bool t =>
   rw [ht] at hk
   simp only at hk
   have hv:=(AS hf hc).bool ht
   cases t with
   | true=>exact wp_cond_true hv (iha x ha ρ kn kr ke r s act w H φ Q hs hf hn (by simpa using hk) h1 h2 h3)
   | false=>exact wp_cond_false hv (ihb y hb ρ kn kr ke r s act w H φ Q hs hf hn (by simpa using hk) h1 h2 h3)
  | _=>rw [ht] at hk; cases hk
 | block id live a iha =>
  intro c h
  cases c<;>first | (simp [Bz] at h; done) | skip
  rename_i id' x
  simp only [Bz,E,beq_iff_eq] at h
  obtain ⟨rfl,h⟩:=h
  intro ρ kn kr ke r s act w H φ Q hs hf hn hk h1 h2 h3
  simp only [CP] at hk
  have cutOk:Lf n (fun s'=>kn (s'.cutH (BO s live) live s.st.length)) r s act w H φ (Q .normal):=fun s' act' w' H' φ' hk' hst hf' hn' hd'=>by
   obtain ⟨φ2,hst',hf2⟩:=OO hst hf' (BO s live) live (Nat.le_refl _)
   exact h1 _ act' w' H' φ2 hk' hst' hf2 hn' hd'
  refine wp_block (iha x h ρ (fun s'=>kn (s'.cutH (BO s live) live s.st.length)) kr (fun i s'=>if i=id' then kn (s'.cutH (BO s live) live s.st.length) else ke i s') r s act w H φ _ hs hf hn hk cutOk h2 fun i=>?_)
  intro s' act' w' H' φ' hk' hst hf' hn' hd'
  simp only at hk'
  simp only [Exit.inBlock]
  by_cases e:i=id'
  ·rw [if_pos e] at hk' ⊢
   exact cutOk s' act' w' H' φ' hk' hst hf' hn' hd'
  ·rw [if_neg e] at hk' ⊢
   exact h3 i s' act' w' H' φ' hk' hst hf' hn' hd'
 | loop live a iha =>
  intro c h
  cases c<;>first | (simp [Bz] at h; done) | skip
  rename_i x
  simp only [Bz] at h
  intro ρ kn kr ke r s act w H φ Q hs hf hn hk _ h2 h3
  simp only [CP] at hk
  have key:∀ (j:Nat) (s1:St) (act1:Act) (w1:World) (H1:HP) (φ1:Aj),s1.st.length<=s.st.length->AD H φ s.st w H1 φ1 s1.st w1->Bf H1 φ1 s1.st s1.fr act1.tmps->act1.tmps.size=n->act1.defers=act.defers ->
    Ei j (fun go s'=>CP cal k a (fun s''=>go (s''.cutH (BO s live) live s.st.length)) kr ke s') s1=some r->I2 P x Q act1 w1:=by
   intro j
   induction j with
   | zero=>intro s1 act1 w1 H1 φ1 _ _ _ _ _ hk; cases hk
   | succ j ihj =>
    intro s1 act1 w1 H1 φ1 hl hst hf1 hn1 hd1 hk
    simp only [Ei] at hk
    refine I2.round (iha x h ρ _ kr ke r s1 act1 w1 H1 φ1 _ hst.sr hf1 hn1 hk (fun s' act' w' H' φ' hk' hst' hf' hn' hd'=>?_) (h2.step hst hd1) fun i=>(h3 i).step hst hd1)
    obtain ⟨φ2,hst2,hf2⟩:=OO hst' hf' (BO s live) live hl
    exact ihj (s'.cutH (BO s live) live s.st.length) act' w' H' φ2 (by simp [St.cutH,St.cut]; omega) (hst.trans hst2) hf2 hn' (hd'.trans hd1) hk'
  refine (key k (s.cut live s.st.length) act w H φ (by simp [St.cut]) ((AD.refl hs).cut (Nat.le_refl _)) (hf.cut live _) hn rfl hk).wp
end Go.Proofs.Ytffahmnodgnohaa.Core

namespace Go.Proofs.Ytffahmnodgnohaa.Core
open Go
variable {H:HP} {φ:Aj} {st:List AA} {w:World} {P:Program}
def Nv (st:List AA) (i:Nat) (b:AA):Prop :=
 (∃ (t:TypeId) (e:Kd),∃ xs:List (Kd.T e),st[i]? = some (AA.rows t e xs)/\b=AA.rows t e xs) \/
 (∃ cs ecs:List AV,st[i]? = some (AA.var cs)/\b=AA.var ecs/\ecs.length=cs.length/\∀ (o:Nat) (a:AV),ecs[o]? = some a->∃ c,cs[o]? = some c/\a.solid=true/\c.solid=true/\∀ (H:HP) (u:Value),VF H c u->VF H a u)
theorem Ml:∀ {ks:List Kd} {cs cs':List AV},EW ks cs=some cs'->cs'.length=cs.length/\(cs'.all fun c=>c.solid&&(match c with | .nil=>false | _=>true))=true /\
  ∀ (o:Nat) (a:AV),cs'[o]? = some a->∃ c,cs[o]? = some c/\a.solid=true/\c.solid=true/\∀ (H:HP) (u:Value),VF H c u->VF H a u
 | [],[],cs',h=>by cases h; exact ⟨rfl,rfl,fun o a h=>by simp at h⟩
 | [],_::_,cs',h=>by simp [EW] at h
 | _::_,[],cs',h=>by simp [EW] at h
 | k::ks,v::vs,cs',h=>by
  simp only [EW] at h
  cases h1:v.norm k with
  | none=>rw [h1] at h; cases h
  | some a =>
   rw [h1] at h
   simp only [U] at h
   cases h2:EW ks vs with
   | none=>rw [h2] at h; cases h
   | some r =>
    rw [h2] at h
    cases h
    obtain ⟨n1,n2,n3,n4⟩:=Jg h1
    obtain ⟨l1,l2,l3⟩:=Ml h2
    refine ⟨by simp [l1],?_,fun o b hb=>?_⟩
    ·simp only [List.all_cons,l2,n2,Bool.true_and,Bool.and_true]
     cases a<;>first | rfl | cases n1
    ·cases o with
     | zero=>simp at hb; subst hb; exact ⟨v,rfl,n2,n3,n4⟩
     | succ o=>simpa using l3 o b (by simpa using hb)
theorem Pa {s s':St} {a a':AV} (h:s.keep a=some (a',s')) {i:Nat} (hi:a≠.row i):s'.st[i]? = s.st[i]? := by
 cases a with
 | row id =>
  simp only [St.keep] at h
  split at h
  ·split at h
   case isFalse=>cases h
   cases h
   simp only [AG]
   rw [if_neg (fun e=>hi (by rw [e]))]
  ·cases h; rfl
  ·cases h
 | fn f caps=>cases caps<;>first | (cases h; rfl) | cases h
 | _=>first | (cases h; rfl) | cases h
theorem RR {s s':St} {a a':AV} (h:s.keep a=some (a',s')) {i:Nat} (hi:AB s.st i=true):s'.st[i]? = s.st[i]? := by
 cases a with
 | row id =>
  simp only [St.keep] at h
  split at h
  ·rename_i t K xs hb
   split at h
   case isFalse=>cases h
   cases h
   simp only [AG]
   rw [if_neg (fun e=>by subst e; simp only [AB,hb] at hi; cases hi)]
  ·cases h; rfl
  ·cases h
 | fn f caps=>cases caps<;>first | (cases h; rfl) | cases h
 | _=>first | (cases h; rfl) | cases h
theorem Pb {s s':St} {i:Nat} {a':AV} (h:s.keep (.row i)=some (a',s')):a'.nilFree=true/\a'.solid=true:=by
 simp only [St.keep] at h
 split at h
 ·split at h
  ·cases h; exact ⟨rfl,rfl⟩
  ·cases h
 ·cases h; exact ⟨rfl,rfl⟩
 ·cases h
structure Bo (H:HP) (φ:Aj) (w:World) (s s':St) (tk tk':List Nat) (us:List Value) (cl:List AV) (H':HP) (ids:List Nat):Prop where
 step:AD H φ s.st w H' φ s'.st w
 keeps:Ab φ s.st φ s'.st none
 fr:s'.fr=s.fr
 nf:cl.all AV.nilFree=true
 cnt:Z cl=ids.length
 tks:tk'=ids.reverse++tk
 nd:tk.Nodup->tk'.Nodup
 held:∀ i∈tk,s'.st[i]? = s.st[i]?
 vars:∀ i,AB s.st i=true->s'.st[i]? = s.st[i]?
 boxes:∀ (m:Nat) (b:AA),(AM cl)[m]? = some b->∃ i,ids[m]? = some i/\Nv s'.st i b
 vals:∀ (k:Nat) (f:Nat->Nat),(∀ m i,ids[m]? = some i->f (k+m)=i) ->
  AI (fun a u=>VC H' φ s'.st (a.ren f) u/\(a.solid=true\/∃ m,m<ids.length/\((∃ t e,∃ xs:List (Kd.T e),a=.row (k+m)/\(AM cl)[m]? = some (AA.rows t e xs))\/(∃ ecs,a=.ptr (k+m) 0/\(AM cl)[m]? = some (AA.var ecs))))) (AU k cl) us
theorem Kg {a:AV} (h:a.solid=true) (f:Nat->Nat):a.ren f=a:=by cases a<;>first | rfl | cases h
theorem Bo.plain {H:HP} {φ:Aj} {s s1 s':St} {tk tk':List Nat} {u:Value} {us:List Value} {cl:List AV} {H1 H':HP} {ids:List Nat} {a:AV} (F:Bo H1 φ w s1 s' tk tk' us cl H' ids)
  (hst:AD H φ s.st w H1 φ s1.st w) (hk:Ab φ s.st φ s1.st none) (hfr:s1.fr=s.fr) (hheld:∀ i∈tk,s1.st[i]? = s.st[i]?) (hvars:∀ i,AB s.st i=true->s1.st[i]? = s.st[i]?)
  (hn:a.nilFree=true) (hs:a.solid=true) (hv:VF H1 a u):Bo H φ w s s' tk tk' (u::us) (a::cl) H' ids:=by
 have o1:∀ k,AU k (a::cl)=a::AU k cl:=fun k=>by cases a<;>first | rfl | cases hs
 have o2:AM (a::cl)=AM cl:=by cases a<;>first | rfl | cases hs
 have o3:Z (a::cl)=Z cl:=by cases a<;>first | rfl | cases hs
 refine ⟨hst.trans F.step,hk.trans F.keeps,F.fr.trans hfr,by simp [hn,F.nf],by rw [o3]; exact F.cnt,F.tks,F.nd,fun i hi=>(F.held i hi).trans (hheld i hi),fun i hi=>?_,by rw [o2]; exact F.boxes,fun k f hf=>?_⟩
 ·have h1:=hvars i hi
  rw [F.vars i (by unfold AB at hi ⊢; rw [h1]; exact hi),h1]
 ·rw [o1,o2]
  exact ⟨u,us,rfl,⟨by rw [Kg hs]; exact VC.of_VF (hv.mono F.step.le),.inl hs⟩,F.vals k f hf⟩
theorem FZ:∀ {ks:List Kd} {vs cl:List AV} {tk tk':List Nat} {s s':St} {H:HP} {us:List Value},SR H φ s.st w->AI (VC H φ s.st) vs us->s.shutAll tk ks vs=some (cl,tk',s') ->
  ∃ H' ids,Bo H φ w s s' tk tk' us cl H' ids
 | [],[],cl,tk,tk',s,s',H,us,hs,hv,h=>by
  cases h
  cases hv
  exact ⟨H,[],AD.refl hs,Ab.refl _ _ _,rfl,rfl,rfl,rfl,fun h=>h,fun _ _=>rfl,fun _ _=>rfl,fun m b h=>by simp [AM] at h,fun k f _=>rfl⟩
 | [],_::_,cl,tk,tk',s,s',H,us,hs,hv,h=>by simp [St.shutAll] at h
 | _::_,[],cl,tk,tk',s,s',H,us,hs,hv,h=>by simp [St.shutAll] at h
 | k0::ks,v::vs,cl,tk,tk',s,s',H,us,hs,hv,h=>by
  obtain ⟨u,us,rfl,hu,hr⟩:=hv
  have norm:((v.norm k0).bind fun a=>(s.shutAll tk ks vs).bind fun y=>some (a::y.1,y.2))=some (cl,tk',s')->∃ H' ids,Bo H φ w s s' tk tk' (u::us) cl H' ids:=by
   intro h
   cases hq:v.norm k0 with
   | none=>rw [hq] at h; cases h
   | some a =>
    rw [hq] at h
    simp only [U] at h
    cases hc:s.shutAll tk ks vs with
    | none=>rw [hc] at h; cases h
    | some y =>
     obtain ⟨y1,y2,y3⟩:=y
     rw [hc] at h
     cases h
     obtain ⟨n1,n2,n3,n4⟩:=Jg hq
     obtain ⟨H',ids,F⟩:=FZ hs hr hc
     exact ⟨H',ids,F.plain (AD.refl hs) (Ab.refl _ _ _) rfl (fun _ _=>rfl) (fun _ _=>rfl) n1 n2 (n4 H u (hu.solid n3))⟩
  have away:∀ (i:Nat) (a:AV) (b:AA) (y:List AV×List Nat×St),AZ tk i=false->s.shutAll (i::tk) ks vs=some y->(cl,tk',s')=(a::y.1,y.2) ->
    Nv s.st i b->a.nilFree=true->(∀ k r,AU k (a::r)=(match b with | .var _=>AV.ptr k 0 | _=>AV.row k)::AU (k+1) r)->(∀ r,AM (a::r)=b::AM r)->(∀ r,Z (a::r)=Z r+1) ->
    (∀ cs,b=.var cs->v=.ptr i 0)->((∀ cs,b≠.var cs)->v=.row i)->((∀ cs,b≠.var cs)->∃ (t:TypeId) (e:Kd),∃ xs:List (Kd.T e),b=AA.rows t e xs)->∃ H' ids,Bo H φ w s s' tk tk' (u::us) cl H' ids:=by
   intro i a b y hn hy e hb hnf o1 o2 o3 e1 e2 e3
   obtain ⟨y1,y2,y3⟩:=y
   cases e
   obtain ⟨H',ids,F⟩:=FZ hs hr hy
   refine ⟨H',i::ids,F.step,F.keeps,F.fr,by simp [hnf,F.nf],by rw [o3,F.cnt]; rfl,by rw [F.tks]; simp,fun hnd=>F.nd (List.nodup_cons.2 ⟨AO.1 hn,hnd⟩),fun j hj=>F.held j (by simp [hj]),F.vars,fun m b' hb'=>?_,fun k f hf=>?_⟩
   ·rw [o2] at hb'
    cases m with
    | zero =>
     simp at hb'
     subst hb'
     refine ⟨i,rfl,?_⟩
     have hh:=F.held i (by simp)
     unfold Nv at hb ⊢
     rw [hh]
     exact hb
    | succ m=>simpa using F.boxes m b' (by simpa using hb')
   ·rw [o1,o2]
    have f0:f k=i:=by simpa using hf 0 i rfl
    refine ⟨u,us,rfl,⟨?_,.inr ⟨0,by simp,?_⟩⟩,?_⟩
    ·have hu':=VC.mono F.step.le F.keeps hu
     cases b with
     | var cs =>
      simp only [AV.ren,f0]
      rw [e1 cs rfl] at hu'
      exact hu'
     | _ =>
      simp only [AV.ren,f0]
      rw [e2 (by simp)] at hu'
      exact hu'
    ·cases b with
     | var cs=>exact .inr ⟨cs,rfl,rfl⟩
     | rows t e xs=>exact .inl ⟨t,e,xs,rfl,rfl⟩
     | _=>obtain ⟨_,_,_,e⟩:=e3 (by simp); cases e
    ·have:=F.vals (k+1) f fun m j hj=>by rw [Nat.add_assoc,Nat.add_comm 1 m]; exact hf (m+1) j (by simpa using hj)
     refine this.imp fun a' u' ⟨g1,g2⟩=>⟨g1,?_⟩
     rcases g2 with g2 | ⟨m,hm,g2⟩
     ·exact .inl g2
     ·refine .inr ⟨m+1,by simp; omega,?_⟩
      rw [show k+(m+1)=k+1+m by omega]
      simpa using g2
  cases v with
  | row i =>
   simp only [St.shutAll] at h
   split at h
   ·cases h
   ·rename_i hn
    have hn:AZ tk i=false:=by simpa using hn
    have kept:((s.keep (.row i)).bind fun x=>(x.2.shutAll tk ks vs).bind fun y=>some (x.1::y.1,y.2))=some (cl,tk',s')->∃ H' ids,Bo H φ w s s' tk tk' (u::us) cl H' ids:=by
     intro h
     cases hk:s.keep (.row i) with
     | none=>rw [hk] at h; cases h
     | some x =>
      obtain ⟨a1,s1⟩:=x
      rw [hk] at h
      simp only [U] at h
      cases hc:s1.shutAll tk ks vs with
      | none=>rw [hc] at h; cases h
      | some y =>
       obtain ⟨y1,y2,y3⟩:=y
       rw [hc] at h
       cases h
       obtain ⟨H1,g1,k1,f1,r1,_⟩:=FM hs hu hk
       obtain ⟨H',ids,F⟩:=FZ g1.sr (hr.imp fun _ _ h=>h.mono g1.le k1) hc
       obtain ⟨n1,n2⟩:=Pb hk
       refine ⟨H',ids,F.plain g1 k1 r1 (fun j hj=>Pa hk fun e=>?_) (fun j hj=>RR hk hj) n1 n2 f1⟩
       cases e
       exact AO.1 hn hj
    split at h
    ·split at h
     ·rename_i t e xs hi
      cases hc:s.shutAll (i::tk) ks vs with
      | none=>rw [hc] at h; cases h
      | some y =>
       rw [hc] at h
       simp only [U,AN] at h
       exact away i (.new t e xs) (.rows t e xs) y hn hc h.symm (.inl ⟨t,e,xs,hi,rfl⟩) rfl (fun k r=>rfl) (fun r=>rfl) (fun r=>by simp [Z,AV.isNew]) (fun cs e=>by cases e) (fun _=>rfl) (fun _=>⟨t,e,xs,rfl⟩)
     ·cases h
    ·exact kept h
  | ptr i o =>
   cases o with
   | zero =>
    simp only [St.shutAll] at h
    split at h
    ·cases h
    ·rename_i hn
     have hn:AZ tk i=false:=by simpa using hn
     split at h
     ·split at h
      ·rename_i K x0 cs hi
       cases hq:EW K.leaves cs with
       | none=>rw [hq] at h; cases h
       | some cs' =>
        rw [hq] at h
        simp only [U] at h
        cases hc:s.shutAll (i::tk) ks vs with
        | none=>rw [hc] at h; cases h
        | some y =>
         rw [hc] at h
         simp only [U,AN] at h
         obtain ⟨l1,l2,l3⟩:=Ml hq
         exact away i (.ref cs') (.var cs') y hn hc h.symm (.inr ⟨cs,cs',hi,rfl,l1,l3⟩) l2 (fun k r=>rfl) (fun r=>rfl) (fun r=>by simp [Z,AV.isNew]) (fun _ _=>rfl) (fun h=>absurd rfl (h cs')) (fun h=>absurd rfl (h cs'))
      ·cases h
     ·cases h
   | succ o=>exact norm h
  | _=>exact norm h
end Go.Proofs.Ytffahmnodgnohaa.Core

namespace Go.Proofs.Ytffahmnodgnohaa.Core
open Go
variable {P:Program}
theorem Bo.append {H H1 H2:HP} {φ:Aj} {w:World} {s s1 s2:St} {tk t1 t2:List Nat} {us1 us2:List Value} {c1 c2:List AV} {i1 i2:List Nat}
  (F1:Bo H φ w s s1 tk t1 us1 c1 H1 i1) (F2:Bo H1 φ w s1 s2 t1 t2 us2 c2 H2 i2):Bo H φ w s s2 tk t2 (us1++us2) (c1++c2) H2 (i1++i2):=by
 have hl:(AM c1).length=i1.length:=by rw [BV,F1.cnt]
 refine ⟨F1.step.trans F2.step,F1.keeps.trans F2.keeps,F2.fr.trans F1.fr,by rw [List.all_append,F1.nf,F2.nf]; rfl,by rw [AW,F1.cnt,F2.cnt,List.length_append],by rw [F2.tks,F1.tks]; simp,fun h=>F2.nd (F1.nd h),fun i hi=>?_,fun i hi=>?_,fun m b hb=>?_,fun k f hf=>?_⟩
 ·rw [F2.held i (by rw [F1.tks]; simp [hi]),F1.held i hi]
 ·have h1:=F1.vars i hi
  rw [F2.vars i (by unfold AB at hi ⊢; rw [h1]; exact hi),h1]
 ·rw [Ag] at hb
  rcases Ai m (AM c1).length with h | h
  ·rw [AJ h] at hb
   obtain ⟨i,g1,g2⟩:=F1.boxes m b hb
   refine ⟨i,by rw [AJ (by omega)]; exact g1,?_⟩
   have hh:=F2.held i (by rw [F1.tks]; simp [List.mem_of_getElem? g1])
   unfold Nv at g2 ⊢
   rw [hh]
   exact g2
  ·rw [Ak h] at hb
   obtain ⟨i,g1,g2⟩:=F2.boxes _ b hb
   exact ⟨i,by rw [Ak (by omega)]; rw [hl] at g1; exact g1,g2⟩
 ·rw [HJ,Ag]
  refine AI.append ((F1.vals k f fun m i hm=>hf m i (by rw [AJ (AF.1 hm).1]; exact hm)).imp fun a u ⟨g1,g2⟩=>⟨g1.mono F2.step.le F2.keeps,?_⟩)
   ((F2.vals (k+Z c1) f fun m i hm=>by
    rw [Nat.add_assoc]
    exact hf _ i (by rw [F1.cnt,Ak (by omega),Nat.add_sub_cancel_left]; exact hm)).imp fun a u ⟨g1,g2⟩=>⟨g1,?_⟩)
  ·rcases g2 with g2 | ⟨m,hm,g2⟩
   ·exact .inl g2
   ·refine .inr ⟨m,by simp; omega,?_⟩
    rw [AJ (by omega)]
    exact g2
  ·rcases g2 with g2 | ⟨m,hm,g2⟩
   ·exact .inl g2
   ·refine .inr ⟨i1.length+m,by simp; omega,?_⟩
    rw [Ak (by omega),hl,Nat.add_sub_cancel_left,<- Nat.add_assoc]
    rw [F1.cnt] at g2
    exact g2
theorem Qg {H:HP} {φ:Aj} {st:List AA} {w:World} (hs:SR H φ st w) {id:Nat} {cs:List AV} (hb:st[id]? = some (.var cs)) :
  ∃ b c el,φ id=.pointer (some ⟨b,0,none⟩)/\w.heap[b]? = some (.cells c el (0,0))/\AI (VC H φ st) cs c.toList:=by
 obtain ⟨b,c,el,e3,hh,hc⟩:=hs.box id _ hb
 refine ⟨b,c,el,e3,hh,F6 hc.length fun j a u ha hu=>?_⟩
 have hw:=hc.at ha hu
 cases a with
 | row i =>
  obtain ⟨g1,b2,g2,g3⟩:=hs.cell id _ hb j i ha
  rw [e3] at g2
  cases g2
  simp only [World.cell?,hh] at g3
  rw [Array.getElem?_toList] at hu
  simp only [Option.isSome_none,Bool.false_eq_true,if_false] at g3
  rw [hu] at g3
  cases g3
  exact ⟨rfl,g1⟩
 | was i=>trivial
 | self T=>trivial
 | undef=>trivial
 | _=>exact VC.of_VF hw
def SS (P:Program):ResultVar->Rp->Bool
 | .tmp t,r=>!r.cell&&r.t==t
 | .cell a t,r=>r.cell&&r.t==a&&Jd P t (Hp r.K)
def Mm (P:Program):List ResultVar->List Rp->Bool
 | [],[]=>true
 | v::vs,r::rs=>SS P v r&&Mm P vs rs
 | _,_=>false
def HN (tmps:Array Value):ResultVar->Sem Value
 | .tmp t=>pure (tmps.getD t undef)
 | .cell a t=>do loadVar t (<- asAddr (tmps.getD a undef))
def ST (K:Kd) (v:Value):Prop:=match K with
 | .pair _ _=>∃ arr,v=.agg arr
 | _=>v.cells=#[v]
theorem RS {H:HP} {φ:Aj} {w:World} {s:St} {K:Kd} {a:AV} {v:Value} {ds:List AV} {off:Nat} {t:TypeId} (hs:SR H φ s.st w) (hv:VC H φ s.st a v) (hbh:s.behind a=some (ds,off)) (hl2:off+K.sz<=ds.length) (hp:Jd P t (Hp K)=true) :
  ∃ u,(Instr.loadAt t v).run P w=.ok u w/\VA H φ s.st (part ds off (Hp K)) u:=by
 cases K with
 | pair a b=>exact LW hs hv hbh (n:=some _) hl2 hp
 | _=>exact LW hs hv hbh (n:=none) hl2 hp
theorem O1 {H:HP} {φ:Aj} {w:World} {s:St} {r:Rp} {rv:ResultVar} {cs:List AV} {tmps:Array Value} (hs:SR H φ s.st w) (hf:Bf H φ s.st s.fr tmps) (h:s.resCells r=some cs) (hb:SS P rv r=true)
  (hne:∀ c∈cs,c.full=true) (hlen:cs.length=r.K.sz) :
  ∃ v,(HN tmps rv).run P w=.ok v w/\AI (VC H φ s.st) cs v.cells.toList/\ST r.K v:=by
 unfold St.resCells at h
 cases rv with
 | tmp t =>
  simp only [SS,E,B9,beq_iff_eq] at hb
  obtain ⟨hc,rfl⟩:=hb
  rw [if_neg (by rw [hc]; simp)] at h
  split at h
  ·rename_i hfit
   cases h
   simp only [E] at hfit
   have hv:=hf r.t
   refine ⟨tmps.getD r.t undef,by simp [HN],MX hs hv hfit.2,?_⟩
   rcases hv.cases with ⟨ds,arr,ea,ev,_⟩ | ⟨vs,arr,ea,_,_⟩ | hvc
   ·rw [ea] at hfit
    unfold ST
    cases hK:r.K with
    | pair a b=>exact ⟨arr,ev⟩
    | _=>rw [hK] at hfit; cases hfit.1
   ·rw [ea] at hfit; cases hfit.2
   ·have h1:=MW hs hvc hfit.2
    unfold ST
    cases hK:r.K with
    | pair a b =>
     rw [hK,Gm hvc] at hlen
     have p1:=Kd.sz_pos a
     have p2:=Kd.sz_pos b
     simp [Kd.sz] at hlen
     omega
    | _=>exact h1
  ·cases h
 | cell a t =>
  simp only [SS,E,beq_iff_eq] at hb
  obtain ⟨⟨hc,rfl⟩,hp⟩:=hb
  rw [if_pos hc] at h
  cases hbh:s.behind (Bg s.fr r.t) with
  | none=>rw [hbh] at h; cases h
  | some y =>
   obtain ⟨ds,off⟩:=y
   rw [hbh] at h
   simp only [U,AN] at h
   subst h
   have hv:=(hf r.t).behind hbh
   have hl2:off+r.K.sz<=ds.length:=by
    have:=Kd.sz_pos r.K
    simp only [List.length_take,List.length_drop] at hlen
    omega
   obtain ⟨b,o,vs,ev,_,_⟩:=IG hs hv hbh
   obtain ⟨u,hrun,hu⟩:=RS (P:=P) (t:=t) hs hv hbh hl2 hp
   have hrun2:(HN tmps (.cell r.t t)).run P w=.ok u w:=by
    rw [ev] at hrun
    simp only [Instr.loadAt,Instr.sureAddr,Sem.run_bind,Sem.run_pure,Result.andThen_ok] at hrun
    simp only [HN,Sem.run_bind]
    rw [ev]
    simp only [asAddr,Sem.run_pure,Result.andThen_ok]
    exact hrun
   refine ⟨u,hrun2,?_⟩
   have single:r.K.sz=1->Hp r.K=none->AI (VC H φ s.st) ((ds.drop off).take r.K.sz) u.cells.toList/\u.cells=#[u]:=by
    intro h1 h2
    rw [h1] at hl2 hne ⊢
    rw [h2] at hu
    have hlt:off<ds.length:=by omega
    have hc1:(ds.drop off).take 1=[ds[off]]:=by rw [List.drop_eq_getElem_cons hlt]; rfl
    have hpart:part ds off none=ds[off]:=by simp only [part,List.headD_eq_head?_getD]; rw [List.drop_eq_getElem_cons hlt]; rfl
    rw [hpart] at hu
    have hfc:ds[off].full=true:=hne _ (by rw [hc1]; simp)
    have hvc:VC H φ s.st ds[off] u:=by
     rcases hu.cases with ⟨e1,arr,ea,_,_⟩ | ⟨e1,arr,ea,_,_⟩ | hvc
     ·obtain ⟨b',o',vs',_,hall,_⟩:=IG hs hv hbh
      obtain ⟨u2,_,hu2⟩:=hall.get off ds[off] (by simp)
      rw [ea] at hu2
      exact hu2.elim
     ·rw [ea] at hfc; cases hfc
     ·exact hvc
    have hone:=MW hs hvc hfc
    rw [hc1,hone]
    exact ⟨⟨u,[],rfl,hvc,rfl⟩,rfl⟩
   cases hK:r.K with
   | pair a b =>
    rw [hK] at hu
    obtain ⟨arr,e,hc⟩:=hu
    subst e
    exact ⟨hc,arr,rfl⟩
   | _=>rw [hK] at single; exact single rfl rfl
theorem D3:∀ {ks:List Kd} {vs cl:List AV} {tk tk':List Nat} {s s':St},s.shutAll tk ks vs=some (cl,tk',s')->∀ v∈vs,v.full=true
 | [],[],cl,tk,tk',s,s',h,v,hv=>by cases hv
 | [],_::_,cl,tk,tk',s,s',h,v,hv=>by simp [St.shutAll] at h
 | _::_,[],cl,tk,tk',s,s',h,v,hv=>by cases hv
 | k::ks,a::vs,cl,tk,tk',s,s',h,v,hv=>by
  have norm:((a.norm k).bind fun x=>(s.shutAll tk ks vs).bind fun y=>some (x::y.1,y.2))=some (cl,tk',s')->v.full=true:=by
   intro h
   cases hq:a.norm k with
   | none=>rw [hq] at h; cases h
   | some x =>
    rw [hq] at h
    simp only [U] at h
    cases hc:s.shutAll tk ks vs with
    | none=>rw [hc] at h; cases h
    | some y =>
     obtain ⟨y1,y2,y3⟩:=y
     rcases AH.1 hv with rfl | hv
     ·have:=(Jg hq).2.2.1
      cases v<;>first | rfl | cases this
     ·exact D3 hc v hv
  cases a with
  | row i =>
   rcases AH.1 hv with rfl | hv
   ·rfl
   ·simp only [St.shutAll] at h
    split at h
    ·cases h
    ·split at h
     ·split at h
      ·cases hc:s.shutAll (i::tk) ks vs with
       | none=>rw [hc] at h; cases h
       | some y=>obtain ⟨y1,y2,y3⟩:=y; exact D3 hc v hv
      ·cases h
     ·cases hk:s.keep (.row i) with
      | none=>rw [hk] at h; cases h
      | some x =>
       rw [hk] at h
       simp only [U] at h
       cases hc:x.2.shutAll tk ks vs with
       | none=>rw [hc] at h; cases h
       | some y=>obtain ⟨y1,y2,y3⟩:=y; exact D3 hc v hv
  | ptr i o =>
   rcases AH.1 hv with rfl | hv'
   ·rfl
   ·cases o with
    | zero =>
     simp only [St.shutAll] at h
     split at h
     ·cases h
     ·split at h
      ·split at h
       ·rename_i K x0 cs hi
        cases hq:EW K.leaves cs with
        | none=>rw [hq] at h; cases h
        | some cs' =>
         rw [hq] at h
         simp only [U] at h
         cases hc:s.shutAll (i::tk) ks vs with
         | none=>rw [hc] at h; cases h
         | some y=>obtain ⟨y1,y2,y3⟩:=y; exact D3 hc v hv'
       ·cases h
      ·cases h
    | succ o=>exact norm h
  | _=>exact norm h
theorem Eo:∀ {ks:List Kd} {vs cl:List AV} {tk tk':List Nat} {s s':St},s.shutAll tk ks vs=some (cl,tk',s')->vs.length=ks.length
 | [],[],cl,tk,tk',s,s',h=>rfl
 | [],_::_,cl,tk,tk',s,s',h=>by simp [St.shutAll] at h
 | _::_,[],cl,tk,tk',s,s',h=>by simp [St.shutAll] at h
 | k::ks,a::vs,cl,tk,tk',s,s',h=>by
  have norm:((a.norm k).bind fun x=>(s.shutAll tk ks vs).bind fun y=>some (x::y.1,y.2))=some (cl,tk',s')->(a::vs).length=(k::ks).length:=by
   intro h
   cases hq:a.norm k with
   | none=>rw [hq] at h; cases h
   | some x =>
    rw [hq] at h
    simp only [U] at h
    cases hc:s.shutAll tk ks vs with
    | none=>rw [hc] at h; cases h
    | some y=>obtain ⟨y1,y2,y3⟩:=y; simp [Eo hc]
  cases a with
  | row i =>
   simp only [St.shutAll] at h
   split at h
   ·cases h
   ·split at h
    ·split at h
     ·cases hc:s.shutAll (i::tk) ks vs with
      | none=>rw [hc] at h; cases h
      | some y=>obtain ⟨y1,y2,y3⟩:=y; simp [Eo hc]
     ·cases h
    ·cases hk:s.keep (.row i) with
     | none=>rw [hk] at h; cases h
     | some x =>
      rw [hk] at h
      simp only [U] at h
      cases hc:x.2.shutAll tk ks vs with
      | none=>rw [hc] at h; cases h
      | some y=>obtain ⟨y1,y2,y3⟩:=y; simp [Eo hc]
  | ptr i o =>
   cases o with
   | zero =>
    simp only [St.shutAll] at h
    split at h
    ·cases h
    ·split at h
     ·split at h
      ·rename_i K x0 cs hi
       cases hq:EW K.leaves cs with
       | none=>rw [hq] at h; cases h
       | some cs' =>
        rw [hq] at h
        simp only [U] at h
        cases hc:s.shutAll (i::tk) ks vs with
        | none=>rw [hc] at h; cases h
        | some y=>obtain ⟨y1,y2,y3⟩:=y; simp [Eo hc]
      ·cases h
     ·cases h
   | succ o=>exact norm h
  | _=>exact norm h
theorem I3:∀ K:Kd,K.leaves.length=K.sz
 | .int _=>rfl
 | .bool=>rfl
 | .str=>rfl
 | .slice _=>rfl
 | .pair a b=>by simp [Kd.leaves,Kd.sz,I3 a,I3 b]
 | .own _ _=>rfl
 | .ref _=>rfl
 | .fun _=>rfl
 | .clo _ _=>rfl
theorem Nw {w:World} {φ:Aj} {tmps:Array Value}:∀ {rs:List Rp} {rvs:List ResultVar} {aw:List AV} {tk tk':List Nat} {s s':St} {H:HP},SR H φ s.st w->Bf H φ s.st s.fr tmps->s.result tk rs=some (aw,tk',s')->Mm P rvs rs=true ->
  ∃ H' ids vs,Bo H φ w s s' tk tk' (vs.flatMap fun v=>v.cells.toList) (cellsOf aw) H' ids/\(rvs.mapM (HN tmps)).run P w=.ok vs w/\AI (fun a v=>∃ K,∃ x:Kd.T K,a=Kd.av K x/\ST K v/\a.cells.length=v.cells.toList.length) aw vs
 | [],[],aw,tk,tk',s,s',H,hs,hf,h,hb=>by
  cases h
  exact ⟨H,[],[],⟨AD.refl hs,Ab.refl _ _ _,rfl,rfl,rfl,rfl,fun h=>h,fun _ _=>rfl,fun _ _=>rfl,fun m b h=>by simp [cellsOf,AM] at h,fun k f _=>rfl⟩,by simp,rfl⟩
 | [],_::_,aw,tk,tk',s,s',H,hs,hf,h,hb=>by simp [Mm] at hb
 | _::_,[],aw,tk,tk',s,s',H,hs,hf,h,hb=>by simp [Mm] at hb
 | r::rs,rv::rvs,aw,tk,tk',s,s',H,hs,hf,h,hb=>by
  simp only [Mm,E] at hb
  simp only [St.result] at h
  cases h1:s.resCells r with
  | none=>rw [h1] at h; cases h
  | some cs =>
   rw [h1] at h
   simp only [U] at h
   cases h2:s.shutAll tk r.K.leaves cs with
   | none=>rw [h2] at h; cases h
   | some y =>
    obtain ⟨cl,t1,s1⟩:=y
    rw [h2] at h
    simp only [U] at h
    cases h3:r.K.ofCells cl with
    | none=>rw [h3] at h; cases h
    | some x =>
     rw [h3] at h
     simp only [U] at h
     cases h4:s1.result t1 rs with
     | none=>rw [h4] at h; cases h
     | some z =>
      obtain ⟨aw',t2,s2⟩:=z
      rw [h4] at h
      cases h
      obtain ⟨v,hrun,hv,hfit⟩:=O1 hs hf h1 hb.1 (D3 h2) ((Eo h2).trans (I3 _))
      obtain ⟨H1,i1,F1⟩:=FZ hs hv h2
      have ecl:cl=r.K.enc x:=by
       have:=MB r.K cl [] x F1.nf (B_ h3)
       simpa using this
      have hf1:Bf H1 φ s1.st s1.fr tmps:=by rw [F1.fr]; exact hf.mono F1.step.le F1.keeps
      obtain ⟨H2,i2,vs,F2,hrun2,hall⟩:=Nw F1.step.sr hf1 h4 hb.2
      have hcells:(r.K.av x).cells=cl:=by rw [Hr,ecl]
      refine ⟨H2,i1++i2,v::vs,?_,?_,⟨v,vs,rfl,⟨r.K,x,rfl,hfit,?_⟩,hall⟩⟩
      ·have:=F1.append F2
       simp only [cellsOf,List.flatMap_cons,hcells] at this ⊢
       exact this
      ·rw [List.mapM_cons]
       simp [Sem.run_bind,hrun,hrun2]
      ·have:=(F1.vals 0 (fun m=>i1.getD m 0) fun m i hm=>by simp [List.getD,hm]).length
       rw [hcells]
       rw [DH] at this
       exact this.symm
theorem HO {w:World} {φ:Aj}:∀ {bs:List (Nat×Kd)} {aw:List AV} {tk tk':List Nat} {s s':St} {H:HP},SR H φ s.st w->s.shutBoxes tk bs=some (aw,tk',s') ->
  ∃ (H':HP) (ids:List Nat) (us:List (List Value)),Bo H φ w s s' tk tk' us.flatten (AY aw) H' ids/\AI (fun a u=>a.cellsO.length=u.length) aw us/\aw.length=bs.length/\(∀ (j:Nat) (v:AV),aw[j]? = some v->∃ p,bs[j]? = some p/\p.2.noRef=true/\∃ x:Kd.T p.2,v=Kd.av p.2 x) /\
   ∀ (j:Nat) (p:Nat×Kd),bs[j]? = some p->(p.2.isOwn=false/\AE s'.st p.1=true/\∃ (b:Nat) (c:Array Value) (el:TypeId),φ p.1=.pointer (some ⟨b,0,none⟩)/\w.heap[b]? = some (.cells c el (0,0))/\us[j]? = some c.toList) \/
    (∃ (t:TypeId) (e:Kd),∃ xs:List (Kd.T e),p.2=.own t e/\s'.st[p.1]? = some (AA.mrow t e xs)/\aw[j]? = some (.new t e xs))
 | [],aw,tk,tk',s,s',H,hs,h=>by
  cases h
  exact ⟨H,[],[],⟨AD.refl hs,Ab.refl _ _ _,rfl,rfl,rfl,rfl,fun h=>h,fun _ _=>rfl,fun _ _=>rfl,fun m b h=>by simp [AY,AM] at h,fun k f _=>rfl⟩,rfl,rfl,fun j v h=>by simp at h,fun j p h=>by simp at h⟩
 | (b,K)::bs,aw,tk,tk',s,s',H,hs,h=>by
  simp only [St.shutBoxes] at h
  split at h
  ·rename_i t e xs hm
   split at h
   ·rename_i hK
    subst hK
    cases h4:s.shutBoxes tk bs with
    | none=>rw [h4] at h; cases h
    | some z =>
     obtain ⟨aw',t2,s2⟩:=z
     rw [h4] at h
     cases h
     obtain ⟨H2,i2,us,F2,hl,hn,hk,hb⟩:=HO hs h4
     refine ⟨H2,i2,[]::us,F2,⟨[],us,rfl,rfl,hl⟩,by simp [hn],fun j v hj=>?_,fun j p hj=>?_⟩
     ·cases j with
      | zero=>simp at hj; subst hj; exact ⟨(b,.own t e),rfl,rfl,xs,rfl⟩
      | succ j=>simpa using hk j v (by simpa using hj)
     ·cases j with
      | zero =>
       simp at hj
       subst hj
       exact .inr ⟨t,e,xs,rfl,by rw [F2.vars b (by simp only [AB,hm]; rfl)]; exact hm,rfl⟩
      | succ j=>simpa using hb j p (by simpa using hj)
   ·cases h
  ·rename_i cs hcs
   split at h
   case isFalse=>cases h
   rename_i hnr2
   simp only [E,B9] at hnr2
   obtain ⟨hnr,hno⟩:=hnr2
   cases h2:s.shutAll tk K.leaves cs with
   | none=>rw [h2] at h; cases h
   | some y =>
    obtain ⟨cl,t1,s1⟩:=y
    rw [h2] at h
    simp only [U] at h
    cases h3:K.ofCells cl with
    | none=>rw [h3] at h; cases h
    | some x =>
     rw [h3] at h
     simp only [U] at h
     cases h4:s1.shutBoxes t1 bs with
     | none=>rw [h4] at h; cases h
     | some z =>
      obtain ⟨aw',t2,s2⟩:=z
      rw [h4] at h
      cases h
      obtain ⟨b0,c,el,e1,e2,e3⟩:=Qg hs hcs
      obtain ⟨H1,i1,F1⟩:=FZ hs e3 h2
      have ecl:cl=K.enc x:=by
       have:=MB K cl [] x F1.nf (B_ h3)
       simpa using this
      obtain ⟨H2,i2,us,F2,hl,hn,hk,hb⟩:=HO F1.step.sr h4
      have hcells:(K.av x).cellsO=cl:=by rw [(DJ x hno).1,ecl]
      have hlen:cl.length=c.toList.length:=by
       have:=(F1.vals 0 (fun m=>i1.getD m 0) fun m i hm=>by simp [List.getD,hm]).length
       rw [DH] at this
       exact this.symm
      refine ⟨H2,i1++i2,c.toList::us,?_,⟨c.toList,us,rfl,by simp only [hcells]; exact hlen,hl⟩,by simp [hn],fun j v hj=>?_,fun j p hj=>?_⟩
      ·have:=F1.append F2
       simp only [AY,List.flatMap_cons,hcells,List.flatten_cons] at this ⊢
       exact this
      ·cases j with
       | zero=>simp at hj; subst hj; exact ⟨(b,K),rfl,hnr,x,rfl⟩
       | succ j=>simpa using hk j v (by simpa using hj)
      ·cases j with
       | zero =>
        simp at hj
        subst hj
        refine .inl ⟨hno,?_,b0,c,el,e1,e2,rfl⟩
        have v0:AE s.st b=true:=by simp only [AE,hcs]
        have g1:=F1.vars b (HF v0)
        have v1:AE s1.st b=true:=by unfold AE at v0 ⊢; rw [g1]; exact v0
        have g2:=F2.vars b (HF v1)
        unfold AE at v1 ⊢; rw [g2]; exact v1
       | succ j=>simpa using hb j p (by simpa using hj)
  ·cases h
theorem I4 {R:AV->Value->Prop} (c:AV->List AV):∀ {aw:List AV} {us:List (List Value)} {k:Nat},AI (fun a u=>(c a).length=u.length) aw us->AI R (AU k (aw.flatMap c)) us.flatten ->
  ∀ (j:Nat) (a:AV) (u:List Value),aw[j]? = some a->us[j]? = some u->AI R (AU (k+Z ((aw.take j).flatMap c)) (c a)) u
 | [],us,k,hl,h,j,a,u,ha,hu=>by simp at ha
 | a0::aw,us,k,⟨u0,us',e,l0,hl⟩,h,j,a,u,ha,hu=>by
  subst e
  simp only [List.flatMap_cons,List.flatten_cons] at h
  rw [HJ] at h
  have hlen:(AU k (c a0)).length=u0.length:=by rw [DH]; exact l0
  have h1:AI R (AU k (c a0)) u0:=by
   have:=h.take (AU k (c a0)).length
   rw [List.take_left,hlen,List.take_left] at this
   exact this
  have h2:AI R (AU (k+Z (c a0)) (aw.flatMap c)) us'.flatten:=by
   have:=h.drop (AU k (c a0)).length
   rw [List.drop_left,hlen,List.drop_left] at this
   exact this
  cases j with
  | zero =>
   simp at ha hu
   subst ha hu
   simpa [Z] using h1
  | succ j =>
   have:=I4 c hl h2 j a u (by simpa using ha) (by simpa using hu)
   simpa [AW,Nat.add_assoc] using this
def AV.isPtr:AV->Bool
 | .ptr _ _=>true
 | .ref _=>true
 | _=>false
theorem Kh:∀ (K:Kd) (x:K.T),K.noRef=true->∀ c∈K.enc x,c.isPtr=false
 | .int _,_,_,c,h=>by simp [Kd.enc] at h; subst h; rfl
 | .bool,_,_,c,h=>by simp [Kd.enc] at h; subst h; rfl
 | .str,_,_,c,h=>by simp [Kd.enc] at h; subst h; rfl
 | .slice _,_,_,c,h=>by simp [Kd.enc] at h; subst h; rfl
 | .pair a b,x,hn,c,h=>by
  simp only [Kd.noRef,E] at hn
  simp only [Kd.enc,A_] at h
  rcases h with h | h
  ·exact Kh a x.1 hn.1 c h
  ·exact Kh b x.2 hn.2 c h
 | .own _ _,_,_,c,h=>by simp [Kd.enc] at h; subst h; rfl
 | .ref _,_,hn,_,_=>by cases hn
 | .fun _,_,_,c,h=>by simp [Kd.enc] at h; subst h; rfl
 | .clo _ _,_,_,c,h=>by simp [Kd.enc] at h; subst h; rfl
theorem Lg:∀ (cs:List AV) (k:Nat),(∀ c∈cs,c.isPtr=false)->∀ a∈AU k cs,a.isPtr=false
 | [],k,_,a,h=>by simp [AU] at h
 | c::cs,k,hn,a,h=>by
  have h1:=hn c (by simp)
  have ih:=fun k=>Lg cs k fun c hc=>hn c (by simp [hc])
  have key:∀ (d:AV) (k':Nat),d.isPtr=false->(a=d\/a∈AU k' cs)->a.isPtr=false:=fun d k' hd h=>by
   rcases h with rfl | h
   ·exact hd
   ·exact ih k' a h
  cases c<;>simp only [AU,AH] at h<;>first | exact key _ _ rfl h | exact absurd h1 (by simp [AV.isPtr])
theorem EX:∀ (vs:List AV) (k:Nat),(BG k vs).length=vs.length
 | [],_=>rfl
 | v::r,k=>by simp [BG,EX r]
theorem Mn:∀ (vs:List AV) (k j:Nat) (v:AV),vs[j]? = some v->(BG k vs)[j]? = some (JM (k+Z (cellsOf (vs.take j))) v)
 | [],k,j,v,h=>by simp at h
 | u::r,k,0,v,h=>by simp at h; subst h; simp [BG,cellsOf,Z]
 | u::r,k,j+1,v,h=>by
  simp only [BG,List.getElem?_cons_succ]
  rw [Mn r _ j v (by simpa using h)]
  simp [cellsOf,AW,Nat.add_assoc]
theorem TA {H0 H:HP} {φ0 φ:Aj} {w0 w:World} {s s1 s2:St} {args bs:List AV} {ids:List (Nat×Kd)} {rsv outs:List AV} {t1 t2:List Nat} {fn:Func} {ress:List Rp} {tmps:Array Value}
  (hs:SR H φ s.st w) (hf:Bf H φ s.st s.fr tmps) (hfr:Fr bs.length (Ax bs args).length H0 φ0 w0 H φ s.st w) (hle:H0.le H)
  (hids:∀ (j:Nat) (p:Nat×Kd),ids[j]? = some p->p.1=j) (hbl:bs.length=ids.length)
  (hres:s.result (List.range ids.length) ress=some (rsv,t1,s1)) (hbox:s1.shutBoxes t1 ids=some (outs,t2,s2)) (hrb:Mm P fn.results.toList ress=true) :
  (∀ r∈rsv++outs,r.cells.all AV.nilFree=true)/\∃ v,(results fn tmps).run P w=.ok v w/\Jj H0 φ0 w0 args bs outs rsv v w:=by
 obtain ⟨H1,i1,vs,F1,hrun,hall⟩:=Nw (P:=P) hs hf hres hrb
 obtain ⟨H2,i2,us,F2,hul,hol,hok,hob⟩:=HO F1.step.sr hbox
 have hnv:outs.length=bs.length:=by rw [hol,hbl]
 let nv:=bs.length
 let μ:Nat->Nat:=fun k=>if k<nv then k else (i2++i1).getD (k-nv) 0
 have μv:∀ k,k<nv->μ k=k:=fun k h=>by simp only [μ,h,if_true]
 have μb:∀ m i,i2[m]? = some i->μ (nv+m)=i:=fun m i hm=>by
  have hl:=(AF.1 hm).1
  simp only [μ,show ¬ nv+m<nv by omega,if_false,Nat.add_sub_cancel_left]
  simp [List.getD,AJ hl,hm]
 have μr:∀ m i,i1[m]? = some i->μ (nv+i2.length+m)=i:=fun m i hm=>by
  simp only [μ,show ¬ nv+i2.length+m<nv by omega,if_false]
  rw [show nv+i2.length+m-nv=i2.length+m by omega]
  simp [List.getD,Ak,hm]
 have hnd:(t2).Nodup:=F2.nd (F1.nd List.nodup_range)
 have ht2:t2=i2.reverse++(i1.reverse++List.range ids.length):=by rw [F2.tks,F1.tks]
 let est:=Ax outs rsv
 let φ2:Aj:=fun k=>φ (μ k)
 have hc2:Z (AY outs)=i2.length:=F2.cnt
 have hc1:Z (cellsOf rsv)=i1.length:=F1.cnt
 have elen:est.length=nv+i2.length+i1.length:=by
  show (Ax outs rsv).length=_
  rw [GW,hnv,hc2,hc1]
 have evar:∀ k,k<nv->(∃ (b:Nat) (c:Array Value) (el:TypeId) (a:AV),φ k=.pointer (some ⟨b,0,none⟩)/\w.heap[b]? = some (.cells c el (0,0))/\outs[k]? = some a/\AE s2.st k=true /\
   est[k]? = some (.var (AU (nv+Z (AY (outs.take k))) a.cellsO)) /\
   AI (fun a u=>VC H2 φ s2.st (a.ren μ) u/\(a.solid=true\/∃ m,m<i2.length/\((∃ t e,∃ xs:List (Kd.T e),a=.row (nv+m)/\(AM (AY outs))[m]? = some (AA.rows t e xs))\/(∃ ecs,a=.ptr (nv+m) 0/\(AM (AY outs))[m]? = some (AA.var ecs)))))
    (AU (nv+Z (AY (outs.take k))) a.cellsO) c.toList)\/(∃ (t:TypeId) (e:Kd),∃ xs:List (Kd.T e),s2.st[k]? = some (AA.mrow t e xs)/\est[k]? = some (AA.mrow t e xs)):=by
  intro k hk
  have hk2:k<ids.length:=by omega
  have hp:ids[k]? = some ids[k]:=by simp
  have hk3:k<outs.length:=by omega
  have ha:outs[k]? = some outs[k]:=by simp
  have hget:est[k]? = some (OW (nv+Z (AY (outs.take k))) outs[k]):=by
   show (Ax outs rsv)[k]? = _
   rw [DI,AJ (by rw [AX]; exact hk3),D1 outs _ k _ ha,hnv]
  rcases hob k _ hp with ⟨hno,g1,b,c,el,e1,e2,e3⟩ | ⟨t,e,xs,hK,g1,g2⟩
  ·rw [hids k _ hp] at g1 e1
   refine .inl ⟨b,c,el,outs[k],e1,e2,ha,g1,?_,I4 AV.cellsO hul (F2.vals nv μ μb) k _ _ ha e3⟩
   rw [hget]
   obtain ⟨p,hp2,_,x,hx⟩:=hok k _ ha
   rw [hp] at hp2
   cases hp2
   rw [hx,(DJ x hno).2,(DJ x hno).1]
  ·rw [hids k _ hp] at g1
   rw [ha] at g2
   refine .inr ⟨t,e,xs,g1,?_⟩
   rw [hget,Option.some.inj g2]
   rfl
 have erow:∀ k b,nv<=k->est[k]? = some b->Nv s2.st (μ k) b/\(i2++i1)[k-nv]? = some (μ k):=by
  intro k b hk hb
  have hb:(Ax outs rsv)[k]? = some b:=hb
  rw [DI,Ak (by rw [AX,hnv]; exact hk),AX,hnv,Ag] at hb
  rcases Ai (k-bs.length) (AM (AY outs)).length with h | h
  ·rw [AJ h] at hb
   obtain ⟨i,g1,g2⟩:=F2.boxes _ b hb
   have e:=μb _ i g1
   rw [show nv+(k-bs.length)=k by omega] at e
   rw [e]
   exact ⟨g2,by rw [AJ (AF.1 g1).1]; exact g1⟩
  ·rw [Ak h] at hb
   obtain ⟨i,g1,g2⟩:=F1.boxes _ b hb
   rw [BV,hc2] at h g1
   have e:=μr _ i g1
   rw [show nv+i2.length+(k-bs.length-i2.length)=k by omega] at e
   rw [e]
   refine ⟨?_,by rw [Ak h]; exact g1⟩
   have hh:=F2.held i (by rw [F1.tks]; simp [List.mem_of_getElem? g1])
   unfold Nv at g2 ⊢
   rw [hh]
   exact g2
 have rowsE:∀ m t e (xs:List (Kd.T e)),(AM (AY outs))[m]? = some (AA.rows t e xs)->est[nv+m]? = some (AA.rows t e xs):=by
  intro m t e xs h
  show (Ax outs rsv)[nv+m]? = _
  have hl:=(AF.1 h).1
  rw [DI,Ak (by rw [AX,hnv]; exact Nat.le_add_right _ _),AX,hnv,Ag,show nv+m-bs.length=m by simp only [nv]; omega,AJ hl]
  exact h
 have restE:∀ m b,(AM (cellsOf rsv))[m]? = some b->est[nv+i2.length+m]? = some b:=by
  intro m b h
  show (Ax outs rsv)[nv+i2.length+m]? = _
  rw [DI,Ak (by rw [AX,hnv]; simp only [nv]; omega),AX,hnv,Ag,Ak (by rw [BV,hc2]; simp only [nv]; omega),BV,hc2,
   show nv+i2.length+m-bs.length-i2.length=m by simp only [nv]; omega]
  exact h
 have hs2:=F2.step.sr
 have μt:∀ k,k<est.length->(k<nv/\μ k=k)\/(nv<=k/\(i2++i1)[k-nv]? = some (μ k)):=by
  intro k hk
  rcases Ai k nv with h | h
  ·exact .inl ⟨h,μv k h⟩
  ·exact .inr ⟨h,(erow k est[k] h (by simp)).2⟩
 have μinj:∀ k k',k<est.length->k'<est.length->μ k=μ k'->k=k':=by
  intro k k' hk hk' e
  have hndl:(i2++i1).Nodup/\∀ i∈i2++i1,¬ i<ids.length:=by
   rw [ht2,<- BN] at hnd
   have h1:=List.nodup_append.1 hnd
   constructor
   ·have h2:=List.nodup_append.1 h1.1
    exact List.nodup_append.2 ⟨(List.reverse_perm i2).nodup_iff.1 h2.1,(List.reverse_perm i1).nodup_iff.1 h2.2.1,fun a ha b hb=>h2.2.2 a (by simpa using ha) b (by simpa using hb)⟩
   ·intro i hi hlt
    exact h1.2.2 i (by simpa using hi) i (List.mem_range.2 hlt) rfl
  rcases μt k hk with ⟨h1,e1⟩ | ⟨h1,e1⟩<;>rcases μt k' hk' with ⟨h2,e2⟩ | ⟨h2,e2⟩
  ·omega
  ·exact absurd (show μ k'<ids.length by rw [<- e,e1]; omega) (hndl.2 _ (List.mem_of_getElem? e2))
  ·exact absurd (show μ k<ids.length by rw [e,e2]; omega) (hndl.2 _ (List.mem_of_getElem? e1))
  ·rw [<- e] at e2
   have:=(List.getElem?_inj (AF.1 e1).1 hndl.1).1 (e1.trans e2.symm)
   omega
 have vcE:∀ a u,VC H2 φ s2.st (a.ren μ) u->(a.solid=true\/(∃ k t e,∃ xs:List (Kd.T e),a=.row k/\est[k]? = some (AA.rows t e xs))\/∃ k ecs,a=.ptr k 0/\est[k]? = some (AA.var ecs))->VC H2 φ2 est a u:=by
  intro a u hv hc
  rcases hc with h | ⟨k,t,e,xs,rfl,hk⟩ | ⟨k,ecs,rfl,hk⟩
  ·rw [Kg h] at hv
   exact VC.of_VF (hv.solid h)
  ·obtain ⟨e1,_⟩:=hv
   exact ⟨e1,by simp only [J,hk]; rfl⟩
  ·obtain ⟨_,b,e1,e2⟩:=hv
   exact ⟨by simp only [AE,hk],b,e1,e2⟩
 have hbox2:∀ k b,est[k]? = some b->C0 H2 w (φ2 k) b:=by
  intro k b hk
  rcases Ai k nv with h | h
  ·rcases evar k h with ⟨b0,c,el,a,e1,e2,e3,_,e4,e5⟩ | ⟨t,e,xs,e1,e2⟩
   rotate_left
   ·rw [hk] at e2
    cases e2
    rw [show φ2 k=φ k by simp only [φ2,μv k h]]
    exact hs2.box k _ e1
   rw [hk] at e4
   cases e4
   obtain ⟨p,hp,hnr,x,hx⟩:=hok k a e3
   refine ⟨b0,c,el,by simp only [φ2,μv k h]; exact e1,e2,e5.impM fun a' ha' u ⟨g1,g2⟩=>?_⟩
   have hnp:=Lg _ _ (by
    intro c hc
    rw [hx] at hc
    by_cases ho:p.2.isOwn=true
    ·revert x
     obtain ⟨t,e,ho⟩:=Ma ho
     rw [ho]
     intro x _ hc
     simp [Mb x] at hc
    ·rw [(DJ x (by simpa using ho)).1] at hc
     exact Kh _ _ hnr c hc) a' ha'
   rcases g2 with g2 | ⟨m,_,⟨t,e,xs,rfl,_⟩ | ⟨ecs,rfl,g3⟩⟩
   ·rw [Kg g2] at g1
    exact VW.of_VF (g1.solid g2)
   ·trivial
   ·cases hnp
  ·obtain ⟨g1,_⟩:=erow k b h hk
   rcases g1 with ⟨t,e,xs,g2,rfl⟩ | ⟨cs,ecs,g2,rfl,g3,g4⟩
   ·exact hs2.box _ _ g2
   ·obtain ⟨b0,c,el,e1,e2,e3⟩:=hs2.box _ _ g2
    refine ⟨b0,c,el,e1,e2,F6 (by rw [e3.length,g3]) fun o a u ha hu=>?_⟩
    obtain ⟨c0,c1,c2,c3,c4⟩:=g4 o a ha
    have hw:=e3.at c1 hu
    have hf:VF H2 c0 u:=by cases c0<;>first | exact hw | cases c3
    exact VW.of_VF (c4 H2 u hf)
 have hlive:∀ (k:Nat) (b2:AA),est[k]? = some b2->b2.live=true->(∀ b,¬Ap (φ2 k) b)\/∃ b,s2.st[μ k]? = some b/\b.live=true/\φ2 k=φ (μ k):=by
  intro k b hk _
  right
  rcases Ai k nv with h | h
  ·rw [μv k h]
   rcases evar k h with ⟨_,_,_,_,_,_,_,e3,_⟩ | ⟨t,e,xs,e1,_⟩
   ·unfold AE at e3
    split at e3
    ·rename_i cs e; exact ⟨_,e,rfl,by simp only [φ2,μv k h]⟩
    ·cases e3
   ·exact ⟨_,e1,rfl,by simp only [φ2,μv k h]⟩
  ·obtain ⟨g1,_⟩:=erow k b h hk
   rcases g1 with ⟨t,e,xs,g2,_⟩ | ⟨cs,ecs,g2,_⟩
   ·exact ⟨_,g2,rfl,rfl⟩
   ·exact ⟨_,g2,rfl,rfl⟩
 have hsr:SR H2 φ2 est w:=by
  refine AD.pick hs2 μ hbox2 hlive (fun k k' b b' hk hk' _ _ _ _ e=>μinj k k' (AF.1 hk).1 (AF.1 hk').1 e) (fun k cs hk o i ho=>?_)
  rcases Ai k nv with h | h
  ·rcases evar k h with ⟨b0,c,el,a,e1,e2,e3,_,e4,e5⟩ | ⟨t,e,xs,_,e2⟩
   rotate_left
   ·rw [hk] at e2; cases e2
   rw [hk] at e4
   cases e4
   obtain ⟨u,hu,g1,g2⟩:=e5.get o _ ho
   rcases g2 with g2 | ⟨m,_,⟨t,e,xs,g3,g4⟩ | ⟨ecs,g3,_⟩⟩
   ·cases g2
   ·cases g3
    refine ⟨by simp only [J,rowsE m t e xs g4]; rfl,b0,by simp only [φ2,μv k h]; exact e1,?_⟩
    obtain ⟨g5,_⟩:=g1
    simp only [World.cell?,e2]
    rw [Array.getElem?_toList] at hu
    simp only [Option.isSome_none,Bool.false_eq_true,if_false,hu]
    rw [g5]
   ·cases g3
  ·obtain ⟨g1,_⟩:=erow k _ h hk
   rcases g1 with ⟨t,e,xs,_,g3⟩ | ⟨cs0,ecs,g2,g3,_,g4⟩
   ·cases g3
   ·cases g3
    obtain ⟨_,_,g5,_⟩:=g4 o _ ho
    cases g5
 have hfr2:Fr bs.length (Ax bs args).length H0 φ0 w0 H2 φ2 est w:=by
  have f2:=F2.step.fr _ _ _ _ _ (F1.step.fr _ _ _ _ _ hfr)
  refine ⟨f2.os,f2.tape,f2.output,f2.size,f2.old,fun j hj=>?_,fun i bi hi hl b hb=>?_,fun j hj=>?_,f2.frz⟩
  ·have:=f2.same j hj
   simp only [φ2,μv j hj]
   exact this
  ·rcases hlive i bi hi hl with e | ⟨b1,g1,g2,g3⟩
   ·exact (e _ hb).elim
   ·rw [g3] at hb
    exact f2.new _ b1 g1 g2 b hb
  ·rcases evar j hj with ⟨_,_,_,_,_,_,_,_,e4,_⟩ | ⟨t,e,xs,_,e4⟩
   ·simp only [AB,e4]; rfl
   ·simp only [AB,e4]; rfl
 have hhan:CB outs=nv+i2.length:=by rw [KY,hnv,hc2]
 have hvals:AI (VB H2 φ2 est) (BG (CB outs) rsv) vs:=by
  rw [hhan]
  have h1:=F1.vals (nv+i2.length) μ μr
  have h2:AI (VC H2 φ2 est) (AU (nv+i2.length) (cellsOf rsv)) (vs.map fun v=>v.cells.toList).flatten:=by
   rw [<- List.flatMap_def]
   refine h1.imp fun a u ⟨g1,g2⟩=>vcE a u (g1.mono F2.step.le F2.keeps) ?_
   rcases g2 with g2 | ⟨m,_,⟨t,e,xs,g3,g4⟩ | ⟨ecs,g3,g4⟩⟩
   ·exact .inl g2
   ·exact .inr (.inl ⟨_,t,e,xs,g3,restE m _ g4⟩)
   ·exact .inr (.inr ⟨_,ecs,g3,restE m _ g4⟩)
  have h3:AI (fun a u=>a.cells.length=u.length) rsv (vs.map fun v=>v.cells.toList):=by
   refine F6 (by rw [List.length_map,hall.length]) fun j a u ha hu=>?_
   rw [As] at hu
   obtain ⟨v,hv,_,_,_,_,hl⟩:=hall.get j a ha
   rw [hv] at hu
   cases hu
   exact hl
  refine F6 (by rw [EX,hall.length]) fun j a v ha hv=>?_
  have hj:j<rsv.length:=by rw [<- EX rsv (nv+i2.length)]; exact (AF.1 ha).1
  have hr:rsv[j]? = some rsv[j]:=by simp
  rw [Mn rsv _ j _ hr] at ha
  cases ha
  have h4:=I4 AV.cells h3 h2 j rsv[j] v.cells.toList hr (by rw [As,hv]; rfl)
  obtain ⟨v',hv',K,x,hK,hfit,_⟩:=hall.get j _ hr
  rw [hv] at hv'
  cases hv'
  rw [hK] at h4 ⊢
  change AI _ (AU (nv+i2.length+Z (cellsOf (List.take j rsv))) _) _ at h4
  generalize nv+i2.length+Z (cellsOf (List.take j rsv))=kk at h4 ⊢
  have single:(K.av x).cells=[K.av x]->v.cells=#[v]->JM kk (K.av x)=(AU kk [K.av x]).headD .undef->VB H2 φ2 est (JM kk (K.av x)) v:=by
   intro e1 e2 e3
   rw [e1,e2] at h4
   rw [e3]
   cases hq:AU kk [K.av x] with
   | nil=>rw [hq] at h4; simp [AI] at h4
   | cons c r =>
    rw [hq] at h4
    obtain ⟨v',r',e,h5,_⟩:=h4
    cases e
    exact VB.of_VC h5
  cases K with
  | pair k l =>
   obtain ⟨arr,rfl⟩:=hfit
   exact ⟨arr,rfl,h4⟩
  | _=>exact single rfl hfit rfl
 have nfs:∀ {l:List AV},(cellsOf l).all AV.nilFree=true->∀ r∈l,r.cells.all AV.nilFree=true:=by
  intro l h r hr
  refine Ac.2 fun c hc=>Ac.1 h c ?_
  exact List.mem_flatMap.2 ⟨r,hr,hc⟩
 refine ⟨fun r hr=>?_,match vs with | [v]=>v | vs=>.tuple vs.toArray,?_,H2,φ2,HP.le_trans hle (HP.le_trans F1.step.le F2.step.le),hsr,hfr2,?_⟩
 ·rcases A_.1 hr with h | h
  ·exact nfs F1.nf r h
  ·obtain ⟨j,hj⟩:=List.mem_iff_getElem?.1 h
   obtain ⟨p,_,_,x,hx⟩:=hok j r hj
   by_cases ho:p.2.isOwn=true
   ·subst hx
    revert x
    obtain ⟨t,e,ho⟩:=Ma ho
    rw [ho]
    intro x
    intros
    rfl
   ·refine Ac.2 fun c hc=>Ac.1 F2.nf c (List.mem_flatMap.2 ⟨r,h,?_⟩)
    subst hx
    rw [(DJ x (by simpa using ho)).1]
    rw [Hr] at hc
    exact hc
 ·have hm:(fn.results.mapM (HN tmps)).run P w=.ok vs.toArray w:=by
   rw [Array.mapM_eq_mapM_toList,<- bind_pure_comp,Sem.run_bind,hrun]
   rfl
  have hr:results fn tmps=(fn.results.mapM (HN tmps)) >>= fun vs=>pure (if h:vs.size=1 then vs[0] else .tuple vs):=by
   unfold results
   first | rfl | (congr 1; done) | (congr 1; congr 1; done) | (congr 1; congr 1; funext rv; cases rv<;>rfl)
  rw [hr,Sem.run_bind,hm]
  cases vs with
  | nil=>rfl
  | cons v vs =>
   cases vs with
   | nil=>rfl
   | cons v2 vs=>rfl
 ·cases vs with
  | nil =>
   have:rsv=[]:=by
    have:=hall.length
    exact CI.1 (by simpa using this.symm)
   subst this
   exact ⟨_,rfl,rfl⟩
  | cons v vs =>
   cases vs with
   | nil =>
    have h1:rsv.length=1:=by have:=hall.length; simpa using this.symm
    obtain ⟨a,rfl⟩:=List.length_eq_one_iff.1 h1
    obtain ⟨v',r,e,h2,_⟩:=hvals
    cases e
    exact h2
   | cons v2 vs =>
    have h1:rsv.length=vs.length+2:=by have:=hall.length; simpa using this.symm
    obtain ⟨a,b,r,rfl⟩:∃ a b r,rsv=a::b::r:=by
     match rsv,h1 with
     | a::b::r,_=>exact ⟨a,b,r,rfl⟩
    exact ⟨_,rfl,hvals⟩
def Kd.sol:Kd->Bool
 | .pair a b=>a.sol&&b.sol
 | .own _ _ | .ref _=>false
 | _=>true
def Kd.okOut:Kd->Bool
 | .pair a b=>a.okOut&&b.okOut
 | .ref K=>K.sol
 | _=>true
theorem OP:∀ (K:Kd) (x:K.T),K.sol=true->(K.enc x).all (fun c=>c.solid&&(match c with | .nil=>false | _=>true))=true
 | .int _,_,_=>rfl
 | .bool,_,_=>rfl
 | .str,_,_=>rfl
 | .slice _,_,_=>rfl
 | .pair a b,x,h=>by
  simp only [Kd.sol,E] at h
  simp only [Kd.enc,List.all_append,OP a x.1 h.1,OP b x.2 h.2,Bool.and_self]
 | .own _ _,_,h=>by cases h
 | .ref _,_,h=>by cases h
 | .fun _,_,_=>rfl
 | .clo _ _,_,_=>rfl
theorem Ki:∀ (K:Kd) (x:K.T),K.okOut=true->(K.enc x).all AV.nilFree=true
 | .int _,_,_=>rfl
 | .bool,_,_=>rfl
 | .str,_,_=>rfl
 | .slice _,_,_=>rfl
 | .pair a b,x,h=>by
  simp only [Kd.okOut,E] at h
  simp only [Kd.enc,List.all_append,Ki a x.1 h.1,Ki b x.2 h.2,Bool.and_self]
 | .own _ _,_,_=>rfl
 | .fun _,_,_=>rfl
 | .clo _ _,_,_=>rfl
 | .ref K,x,h=>by
  simp only [Kd.enc,List.all_cons,List.all_nil,Bool.and_true,AV.nilFree]
  exact OP K x h
def RU (P:Program) (f:Nat) (a:CQ):Bool :=
 match P.funcs[f]? with
 | some fn=>(match fn.body with
  | some c=>!(fn.name == "runtime.NumGoroutine")&&Bz P fn.ntmps c a.body&&Mm P fn.results.toList a.res&&decide (a.params.length≤fn.ntmps)&&a.outs.all Kd.okOut
  | none=>false)
 | none=>false
theorem Nx:∀ (ks:List Kd) (j0:Nat),(LR ks j0).length=ks.length/\∀ (j:Nat) (p:Nat×Kd),(LR ks j0)[j]? = some p->p.1=j0+j
 | [],j0=>⟨rfl,fun j p h=>by simp [LR] at h⟩
 | k::ks,j0=>by
  obtain ⟨h1,h2⟩:=Nx ks (j0+1)
  refine ⟨by simp [LR,h1],fun j p h=>?_⟩
  simp only [LR] at h
  cases j with
  | zero=>simp at h; subst h; rfl
  | succ j=>have:=h2 j p (by simpa using h); omega
theorem BW:∀ (ps:List PK) (j0 j:Nat) (p:Nat×Kd),(BX ps j0)[j]? = some p->p.1=j0+j
 | [],j0,j,p,h=>by simp [BX] at h
 | .val _::r,j0,j,p,h=>BW r j0 j p h
 | .bor _::r,j0,j,p,h=>BW r j0 j p h
 | .mov _::r,j0,j,p,h=>BW r j0 j p h
 | .movS _::r,j0,j,p,h=>BW r j0 j p h
 | .ept::r,j0,j,p,h=>BW r j0 j p h
 | .cap _ _::r,j0,j,p,h=>BW r j0 j p h
 | .cap0 _::r,j0,j,p,h=>BW r j0 j p h
 | .ptr K::r,j0,j,p,h=>by
  simp only [BX] at h
  cases j with
  | zero=>simp at h; subst h; rfl
  | succ j=>have:=BW r (j0+1) j p (by simpa using h); omega
 | .mut K::r,j0,j,p,h=>by
  simp only [BX] at h
  obtain ⟨hl,hm⟩:=Nx K.owns j0
  rcases Ai j (LR K.owns j0).length with h1 | h1
  ·rw [AJ h1] at h; exact hm j p h
  ·rw [Ak h1,hl] at h
   rw [hl] at h1
   have:=BW r _ _ p h
   omega
theorem Lh:∀ (vs:List AV) (i t:Nat),Bg (FC i vs) t=if i<=t/\t<i+vs.length then vs.getD (t-i) .undef else .undef
 | [],i,t=>by simp [FC,Bg]
 | v::vs,i,t=>by
  simp only [FC,Bg]
  by_cases h:i=t
  ·subst h
   rw [if_pos rfl,if_pos ⟨Nat.le_refl _,by simp⟩]
   simp
  ·rw [if_neg h,Lh vs (i+1) t]
   by_cases h1:i+1<=t/\t<i+1+vs.length
   ·rw [if_pos h1,if_pos ⟨by omega,by simp; omega⟩,show t-i=(t-(i+1))+1 by omega]
    simp
   ·rw [if_neg h1,if_neg (by simp; omega)]
theorem Ny:∀ {rs:List Rp} {aw:List AV} {tk tk':List Nat} {s s':St},s.result tk rs=some (aw,tk',s')->aw.length=rs.length
 | [],aw,tk,tk',s,s',h=>by cases h; rfl
 | r::rs,aw,tk,tk',s,s',h=>by
  simp only [St.result] at h
  cases h1:s.resCells r with
  | none=>rw [h1] at h; cases h
  | some cs =>
   rw [h1] at h
   simp only [U] at h
   cases h2:s.shutAll tk r.K.leaves cs with
   | none=>rw [h2] at h; cases h
   | some y =>
    rw [h2] at h
    simp only [U] at h
    cases h3:r.K.ofCells y.1 with
    | none=>rw [h3] at h; cases h
    | some x =>
     rw [h3] at h
     simp only [U] at h
     cases h4:y.2.2.result y.2.1 rs with
     | none=>rw [h4] at h; cases h
     | some z =>
      obtain ⟨aw',t2,s2⟩:=z
      rw [h4] at h
      cases h
      simp [Ny h4]
theorem SU {cal:Bx} {k f:Nat} {a:CQ} {args bs rs:List AV} (hcal:CY P cal) (hb:RU P f a=true) (hl:args.length=a.params.length/\bs.length=(BX a.params 0).length)
  (h:(Pk cal k a args bs).map (BM a.outs)=some rs):OK P f/\(∀ r∈rs,r.cells.all AV.nilFree=true)/\∃ n,n+bs.length=rs.length /\
  ∀ (H:HP) (φ:Aj) (w:World) (cargs:List Value),SR H φ (Ax bs args) w->AI (VB H φ (Ax bs args)) (BG (CB bs) args) cargs ->
   Calls P f cargs.toArray w fun out w'=>match out with
    | .returned v=>Jj H φ w args bs (rs.drop n) (rs.take n) v w'
    | _=>False:=by
 unfold RU at hb
 split at hb
 case h_2=>cases hb
 rename_i fn hfn
 split at hb
 case h_2=>cases hb
 rename_i c hc
 simp only [E,B9,decide_eq_true_eq] at hb
 obtain ⟨⟨⟨⟨hname,hcode⟩,hress⟩,hlen⟩,hout⟩:=hb
 cases hr:Pk cal k a args bs with
 | none=>rw [hr] at h; cases h
 | some r =>
 rw [hr] at h
 simp only [Option.map_some,AN] at h
 subst h
 have hol:a.outs.length=a.res.length+bs.length:=by rw [hl.2]; simp [CQ.outs]
 have el:(BM a.outs r).length=a.outs.length:=by
  have:∀ (Ks:List Kd) (y:RT Ks),(BM Ks y).length=Ks.length:=by
   intro Ks
   induction Ks with
   | nil=>intro y; rfl
   | cons K Ks ih =>
    intro y
    cases Ks with
    | nil=>rfl
    | cons L Ks=>simp only [BM,List.length_cons] at ih ⊢; rw [ih y.2]
  exact this _ _
 refine ⟨⟨fn,c,hfn,hname,hc⟩,fun q hq=>?_,a.res.length,by rw [el,hol],fun H φ w cargs hs hargs=>?_⟩
 ·obtain ⟨j,hj⟩:=List.mem_iff_getElem?.1 hq
  have hjl:j<a.outs.length:=by rw [<- el]; exact (AF.1 hj).1
  obtain ⟨x,hx⟩:=Ka a.outs r j a.outs[j] (by simp)
  rw [hx] at hj
  cases hj
  rw [Hr]
  exact Ki _ _ (Ac.1 hout _ (FB hjl))
 ·have hcl:cargs.length=args.length:=by rw [hargs.length,EX]
  have hsz:(cargs.toArray++Array.replicate (fn.ntmps-cargs.toArray.size) undef).size=fn.ntmps:=by
   simp only [Array.size_append,List.size_toArray,Array.size_replicate]
   omega
  have hf0:Bf H φ (Ax bs args) (FC 0 (BG (CB bs) args)) (cargs.toArray++Array.replicate (fn.ntmps-cargs.toArray.size) undef):=by
   intro t
   rw [Lh]
   split
   ·rename_i ht
    have ht2:t<(BG (CB bs) args).length:=by omega
    have h1:(BG (CB bs) args)[t]? = some (BG (CB bs) args)[t]:=by simp
    obtain ⟨v,hv,hvb⟩:=hargs.get t _ h1
    have e1:(BG (CB bs) args).getD (t-0) .undef=(BG (CB bs) args)[t]:=by simp [List.getD,ht2]
    have ht3:t<cargs.length:=(AF.1 hv).1
    have e2:(cargs.toArray++Array.replicate (fn.ntmps-cargs.toArray.size) undef).getD t undef=v:=by
     rw [Array.getD_eq_getD_getElem?,Array.getElem?_append_left (by simpa using ht3)]
     simp only [List.getElem?_toArray,hv,Option.getD_some]
    rw [e1,e2]
    exact VA.of_VB hvb
   ·trivial
  have fr0:Fr bs.length (Ax bs args).length H φ w H φ (Ax bs args) w:=by
   refine ⟨rfl,rfl,rfl,Nat.le_refl _,fun _ _ _=>rfl,fun _ _=>rfl,fun i bi hi _ b hb=>.inr ⟨i,(AF.1 hi).1,hb⟩,fun j hj=>?_,fun _ _ _=>rfl⟩
   have hv:bs[j]? = some bs[j]:=by simp
   unfold AB
   rw [DI,AJ (by rw [AX]; exact hj),D1 bs _ j _ hv]
   generalize bs[j]=v
   cases v<;>rfl
  have fin:Lf fn.ntmps (Au a) r ⟨FC 0 (BG (CB bs) args),Ax bs args⟩ { tmps:=cargs.toArray++Array.replicate (fn.ntmps-cargs.toArray.size) undef,defers:=[] } w H φ
    (fun act' w'=>act'.defers=[]/\∃ v,(results fn act'.tmps).run P w'=.ok v w'/\Jj H φ w args bs ((BM a.outs r).drop a.res.length) ((BM a.outs r).take a.res.length) v w'):=by
   intro s' act' w' H' φ' hk hst hf' hn' hd'
   refine ⟨hd',?_⟩
   unfold Au at hk
   cases h1:s'.result (List.range (BX a.params 0).length) a.res with
   | none=>rw [h1] at hk; cases hk
   | some y =>
    obtain ⟨rsv,t1,s1⟩:=y
    rw [h1] at hk
    simp only [U] at hk
    cases h2:s1.shutBoxes t1 (BX a.params 0) with
    | none=>rw [h2] at hk; cases hk
    | some z =>
     obtain ⟨outs,t2,s2⟩:=z
     rw [h2] at hk
     simp only [U] at hk
     obtain ⟨nf,v,hv,hend⟩:=TA (P:=P) (args:=args) hst.sr hf' (hst.fr _ _ _ _ _ fr0) hst.le (fun j p hp=>by have:=BW a.params 0 j p hp; omega) hl.2 h1 h2 hress
     have henc:=Nr _ _ r hk nf
     have hrl:=Ny h1
     rw [henc,<- hrl,List.drop_left,List.take_left]
     exact ⟨v,hv,hend⟩
  have hwp:=SQ (P:=P) (n:=fn.ntmps) (k:=k) hcal a.body c hcode (RT a.outs) (Au a) (Au a) (fun _ _=>none) r ⟨FC 0 (BG (CB bs) args),Ax bs args⟩
   { tmps:=cargs.toArray++Array.replicate (fn.ntmps-cargs.toArray.size) undef,defers:=[] } w H φ
   (bodyPost P fn fun out w'=>match out with
    | .returned v=>Jj H φ w args bs ((BM a.outs r).drop a.res.length) ((BM a.outs r).take a.res.length) v w'
    | _=>False) hs hf0 hsz hr fin fin (fun i s' act' w' H' φ' hk=>by cases hk)
  exact calls_of_wp hfn hc hwp
def Ck (P:Program) (f:Nat) (a:CQ):Bool:=(decide (f<BR)||decide (2*BR<=f))&&RU P (f % BR) a
def RV (P:Program) (JL:Nat->Option CQ):Prop:=∀ f a,JL f=some a->Ck P f a=true
theorem O2 {JL:Nat->Option CQ} {CS:Bx} (ht:RV P JL) (hp:CY P CS):∀ k,CY P (LT JL CS k)
 | 0=>⟨fun f k t T _ h=>(by cases h),fun f args bs rs _ h=>by cases h⟩
 | k+1=>⟨fun f q t T hf h=>(by
  simp only [LT] at h
  split at h
  ·rename_i a ha
   have:=ht _ a ha
   simp only [Ck,E,Dd,decide_eq_true_eq] at this
   omega
  ·exact hp.1 f q t T hf h),fun f args bs rs hlt h=>by
  simp only [LT] at h
  split at h
  ·rename_i a ha
   split at h
   ·rename_i hl
    exact SU (O2 ht hp k) (by have:=ht f a ha; simp only [Ck,E] at this; exact this.2) hl h
   ·cases h
  ·exact hp.2 f args bs rs hlt h⟩
end Go.Proofs.Ytffahmnodgnohaa.Core

namespace Go.Proofs.Ytffahmnodgnohaa.Core
open Go
def Kd.ok:(K:Kd)->K.T->Prop
 | .int k,n=>k.min<=n/\n<=k.max
 | .bool,_=>True
 | .str,s=>s.size<=maxLen
 | .slice e,xs=>xs.length<=maxLen/\∀ x∈xs,Kd.ok e x
 | .pair a b,x=>a.ok x.1/\b.ok x.2
 | .own _ _,_=>False
 | .ref _,_=>False
 | .fun _,_=>False
 | .clo _ _,_=>False
mutual
def Hv (P:Program):Nat->TypeId->Kd->Bool
 | 0,_,_=>false
 | D+1,t,K=>match P.underlying t with
  | some (.int k)=>(match K with | .int k'=>decide (k=k') | _=>false)
  | some .bool=>(match K with | .bool=>true | _=>false)
  | some .string=>(match K with | .str=>true | _=>false)
  | some (.slice te)=>(match K with | .slice e=>P.cellsOf te==e.sz&&Hv P D te e | _=>false)
  | some (.struct fs)=>P.cellsOf t==K.sz&&(match K with | .pair _ _=>true | _=>false)&&HQ P D fs.toList 0 K
  | _=>false
def HQ (P:Program):Nat->List Field->Nat->Kd->Bool
 | 0,_,_,_=>false
 | _+1,[],_,_=>false
 | D+1,[f],off,K=>f.offset==off&&P.cellsOf f.type==K.sz&&Hv P D f.type K
 | D+1,f::g::fs,off,K=>match K with
  | .pair a b=>f.offset==off&&P.cellsOf f.type==a.sz&&Hv P D f.type a&&HQ P D (g::fs) (off+a.sz) b
  | _=>false
end
def Gt (w:World):HP:=fun b=>w.heap[b]?
theorem Mo {w:World} {base:Nat} {a:Addr} {n:Nat} {cs:List Value} (h:w.cells? base a n=some cs):cs.length=n/\∀ i,i<n->w.cell? (a.add i)=cs[i]? := by
 unfold World.cells? at h
 split at h
 ·exact ⟨by simpa using mapM_some_length h,fun i hi=>mapM_some_get h i i (by simp [hi])⟩
 ·cases h
theorem Nz (a:Addr):a.add 0=a:=by unfold Addr.add; split<;>simp_all
theorem N0 {w:World} {a:Addr} {u:Value} (h:w.cell? a=some u):a=⟨a.block,a.off,none⟩/\∃ c el fz,w.heap[a.block]? = some (.cells c el fz)/\c[a.off]? = some u:=by
 obtain ⟨b,o,sp⟩:=a
 simp only [World.cell?] at h
 split at h
 ·rename_i c el fz hc
  cases sp with
  | some sp=>simp at h
  | none =>
   simp only [Option.isSome_none,Bool.false_eq_true,if_false] at h
   exact ⟨rfl,c,el,fz,hc,h⟩
 ·cases h
mutual
theorem MG {H:Type} {enc:TypeId×Value->H} {P:Program} {w:World} {base:Nat} {spare:Nat->Bool} {held:Bool}:∀ (D:Nat) (t:TypeId) (K:Kd) (fuel:Nat) (cs:List Value) (x:DataW H×List MemPlace),Hv P D t K=true ->
  DataW.trod enc P w base spare held fuel t cs=some x->∃ y:K.T,By (Gt w) K y cs/\Kd.ok K y
 | 0,t,K,fuel,cs,x,h,_=>by simp [Hv] at h
 | D+1,t,K,fuel,cs,x,h,hd=>by
  unfold Hv at h
  split at h
  ·rename_i k hu
   cases K<;>first | cases h | skip
   simp only [decide_eq_true_eq] at h
   subst h
   obtain ⟨n,rfl,_,hw⟩:=DataW.trod_int hu hd
   simp only [Lit.wf,E,decide_eq_true_eq] at hw
   exact ⟨n,rfl,hw⟩
  ·rename_i hu
   cases K<;>first | cases h | skip
   obtain ⟨b,rfl,_⟩:=DataW.trod_bool hu hd
   exact ⟨b,rfl,trivial⟩
  ·rename_i hu
   cases K<;>first | cases h | skip
   obtain ⟨s,rfl,_,hs⟩:=DataW.trod_string hu hd
   exact ⟨s,rfl,hs⟩
  ·rename_i te hu
   cases K<;>first | cases h | skip
   rename_i e
   simp only [E,beq_iff_eq] at h
   rcases DataW.trod_slice hu hd with ⟨rfl,_⟩ | ⟨a,len,cap,elems,rest,n,_,rfl,_,_,hl,hm,hlen,hel,_⟩
   ·exact ⟨[],⟨_,rfl,Dz⟩,by simp [Kd.ok]⟩
   ·have each:∀ i,i<len->∃ y:e.T,∃ cs',w.cells? base (a.add (i*e.sz)) e.sz=some cs'/\By (Gt w) e y cs'/\Kd.ok e y:=by
     intro i hi
     have h1:=hel i hi
     rw [h.1] at h1
     have h2:elems[i]? = some (elems[i]'(by omega)):=by simp
     rw [h2] at h1
     cases hq:w.cells? base (a.add (i*e.sz)) e.sz with
     | none=>rw [hq] at h1; cases h1
     | some cs' =>
      rw [hq] at h1
      simp only [U] at h1
      obtain ⟨y,h3,h4⟩:=MG D te e n cs' _ h.2 h1
      exact ⟨y,cs',rfl,h3,h4⟩
    have all:∀ m,m<=len->∃ ys:List e.T,ys.length=m/\∀ i y,ys[i]? = some y->∃ cs',w.cells? base (a.add (i*e.sz)) e.sz=some cs'/\By (Gt w) e y cs'/\Kd.ok e y:=by
     intro m
     induction m with
     | zero=>intro _; exact ⟨[],rfl,fun i y h=>by simp at h⟩
     | succ m ih =>
      intro hm
      obtain ⟨ys,l,hy⟩:=ih (by omega)
      obtain ⟨y,cs',g1,g2,g3⟩:=each m (by omega)
      refine ⟨ys++[y],by simp [l],fun i z hz=>?_⟩
      rcases Ai i ys.length with hi | hi
      ·rw [AJ hi] at hz
       exact hy i z hz
      ·rw [Ak hi] at hz
       have hi0:i-ys.length=0:=by
        have:=(AF.1 hz).1
        simp at this
        omega
       rw [hi0] at hz
       simp at hz
       subst hz
       have:i=m:=by omega
       subst this
       exact ⟨cs',g1,g2,g3⟩
    obtain ⟨ys,l,hy⟩:=all len (Nat.le_refl _)
    have hok:ys.length<=maxLen/\∀ y∈ys,Kd.ok e y:=by
     refine ⟨by omega,fun y hm=>?_⟩
     obtain ⟨i,hi⟩:=List.mem_iff_getElem?.1 hm
     obtain ⟨_,_,_,g⟩:=hy i y hi
     exact g
    refine ⟨ys,⟨_,rfl,some a,cap,by rw [l],by omega,?_⟩,hok⟩
    cases hys:ys with
    | nil=>exact .inl rfl
    | cons y0 yr =>
     right
     have hsz:=Kd.sz_pos e
     obtain ⟨cs0,g1,g2,_⟩:=hy 0 y0 (by rw [hys]; rfl)
     obtain ⟨l0,c0⟩:=Mo g1
     have hc0:=c0 0 hsz
     have hcs0:cs0[0]? = some (cs0[0]'(by omega)):=by simp
     rw [hcs0,Nat.zero_mul,Nz,Nz] at hc0
     obtain ⟨ea,c,el,fz,hb,_⟩:=N0 hc0
     have addadd:∀ x y:Nat,(a.add x).add y=⟨a.block,a.off+(x+y),none⟩:=by
      intro x y
      rw [ea,Addr.add_none,Addr.add_none,Nat.add_assoc]
     refine ⟨a.block,a.off,c,el,fz,by rw [<- ea],hb,fun j y hj=>?_⟩
     obtain ⟨cs',g3,g4,_⟩:=hy j y (by rw [hys]; exact hj)
     obtain ⟨l1,c1⟩:=Mo g3
     refine ⟨cs',g4,l1,fun i u hu=>?_⟩
     have hi:i<e.sz:=by rw [<- l1]; exact (AF.1 hu).1
     have h3:=c1 i hi
     rw [hu,addadd] at h3
     obtain ⟨_,c2,el2,fz2,hb2,h4⟩:=N0 h3
     rw [hb] at hb2
     cases hb2
     rw [Nat.add_assoc]
     exact h4
  ·rename_i fs hu
   simp only [E,beq_iff_eq] at h
   obtain ⟨⟨hc,_⟩,h⟩:=h
   obtain ⟨xs,n,_,_,hl,_,hf⟩:=DataW.trod_struct hu hd
   have:=Li (w:=w) (P:=P) D fs.toList 0 K n cs xs h (fun i f hi=>hf i f (by simpa using hi)) (by
    have:xs.length=fs.size:=by assumption
    simpa using this)
   obtain ⟨y,h1,h2⟩:=this
   refine ⟨y,?_,h2⟩
   rw [hc] at hl
   rw [List.drop_zero,List.take_of_length_le (by omega)] at h1
   exact h1
  ·cases h
theorem Li {H:Type} {enc:TypeId×Value->H} {P:Program} {w:World} {base:Nat} {spare:Nat->Bool} {held:Bool}:∀ (D:Nat) (fs:List Field) (off:Nat) (K:Kd) (fuel:Nat) (cs:List Value) (xs:List (DataW H×List MemPlace)),HQ P D fs off K=true ->
  (∀ (i:Nat) (f:Field),fs[i]? = some f->DataW.trod enc P w base spare held fuel f.type ((cs.drop f.offset).take (P.cellsOf f.type))=xs[i]?)->xs.length=fs.length->∃ y:K.T,By (Gt w) K y ((cs.drop off).take K.sz)/\Kd.ok K y
 | 0,fs,off,K,fuel,cs,xs,h,_,_=>by simp [HQ] at h
 | D+1,[],off,K,fuel,cs,xs,h,_,_=>by simp [HQ] at h
 | D+1,[f],off,K,fuel,cs,xs,h,hf,hl=>by
  simp only [HQ,E,beq_iff_eq] at h
  obtain ⟨⟨rfl,hc⟩,ht⟩:=h
  have h1:=hf 0 f rfl
  rw [hc] at h1
  have h2:xs[0]? = some (xs[0]'(by simp at hl; omega)):=by simp
  rw [h2] at h1
  exact MG D f.type K fuel _ _ ht h1
 | D+1,f::g::fs,off,K,fuel,cs,xs,h,hf,hl=>by
  simp only [HQ] at h
  cases K with
  | pair a b =>
   simp only [E,beq_iff_eq] at h
   obtain ⟨⟨⟨rfl,hc⟩,ht⟩,hr⟩:=h
   have h1:=hf 0 f rfl
   rw [hc] at h1
   have h2:xs[0]? = some (xs[0]'(by simp at hl; omega)):=by simp
   rw [h2] at h1
   obtain ⟨y1,r1,o1⟩:=MG D f.type a fuel _ _ ht h1
   obtain ⟨y2,r2,o2⟩:=Li (w:=w) (P:=P) D (g::fs) (f.offset+a.sz) b fuel cs (xs.drop 1) hr (fun i q hi=>by
    have:=hf (i+1) q (by simpa using hi)
    rw [this,Aw,Nat.add_comm]) (by simp at hl ⊢; omega)
   refine ⟨(y1,y2),⟨_,_,?_,r1,r2⟩,o1,o2⟩
   apply List.ext_getElem?
   intro i
   have l1:=r1.length
   have l2:=r2.length
   simp only [Kd.sz]
   rcases Ai i a.sz with hi | hi
   ·rw [AJ (by omega)]
    simp only [Al,Aw]
    rw [if_pos (by omega),if_pos hi]
   ·rw [Ak (by omega),l1]
    simp only [Al,Aw]
    by_cases h3:i<a.sz+b.sz
    ·rw [if_pos h3,if_pos (by omega)]
     congr 1
     omega
    ·rw [if_neg h3,if_neg (by omega)]
  | _=>cases h
end
theorem O3 {H:Type} {enc:TypeId×Value->H} {P:Program} {w:World} {base:Nat} {spare:Nat->Bool} {held:Bool} {t:TypeId} {K:Kd} {v:Value} {d:DataW H} {p:List MemPlace} (h:Hv P 40 t K=true) (hf:Ek K v)
  (hd:DataW.Trod enc P w base spare held t v d p):∃ x:K.T,VE (Gt w) (K.av x) v/\Kd.ok K x:=by
 obtain ⟨fuel,hd⟩:=hd
 obtain ⟨x,h1,h2⟩:=MG 40 t K fuel _ _ h hd
 exact ⟨x,RC h1 hf,h2⟩
theorem P7 {P:Program} {W:World} {r:Reach} {base:Nat} {t:TypeId} {K:Kd} {v:Value} (h:Hv P 40 t K=true) (hv:Value.okWide P W r base t v):Ek K v:=by
 unfold Hv at h
 split at h
 ·rename_i k hu
  obtain ⟨n,rfl⟩:=WideShapes.okWide_int hu hv
  cases K<;>first | cases h | rfl
 ·rename_i hu
  obtain ⟨n,rfl⟩:=WideShapes.okWide_bool hu hv
  cases K<;>first | rfl | cases h
 ·rename_i hu
  obtain ⟨n,rfl⟩:=WideShapes.okWide_string hu hv
  cases K<;>first | rfl | cases h
 ·rename_i te hu
  obtain ⟨a,l,c,rfl⟩:=WideShapes.okWide_slice hu hv
  cases K<;>first | cases h | rfl
 ·rename_i fs hu
  obtain ⟨cs,rfl,_⟩:=WideShapes.okWide_struct hu hv
  simp only [E] at h
  cases K<;>first | exact ⟨_,rfl⟩ | cases h.1.2
 ·cases h
theorem RW (w:World) (φ:Aj) (ht:Ob (Gt w)):SR (Gt w) φ [] w:=by
 refine ⟨fun b o h=>h,fun id bx h=>by simp at h,fun i j bi bj h=>by simp at h,fun i bi h=>by simp at h,fun id cs h=>by simp at h,ht⟩
theorem Qh {P:Program} {JL:Nat->Option CQ} {CS:Bx} (ht:RV P JL) (hp:CY P CS) {k f:Nat} {args:List AV} (h:LT JL CS k f args []=some [.bool true]) {W:World} {cargs:List Value}
  (ha:AI (VE (Gt W)) args cargs) (hlt:f<BR:=by decide) (htab:Ob (Gt W):=by exact fun p h=>by cases h):Calls P f cargs.toArray W fun e W'=>e=.returned (.bool true)/\RowKit.Below W.heap.size W W':=by
 obtain ⟨_,_,n,hn,hc⟩:=(O2 ht hp k).2 f args [] _ (.inl hlt) h
 rw [Nat.mod_eq_of_lt hlt] at hc
 have hn:n=1:=by simpa using hn
 subst hn
 have opens:∀ {aw:List AV} {vs:List Value} (k:Nat),AI (VE (Gt W)) aw vs->BG k aw=aw/\AM (cellsOf aw)=[]:=by
  intro aw
  induction aw with
  | nil=>intro vs k _; exact ⟨rfl,rfl⟩
  | cons a aw ih =>
   intro vs k h
   obtain ⟨v,r,rfl,h1,h2⟩:=h
   obtain ⟨o1,o2,o3⟩:=h1.opens k
   obtain ⟨i1,i2⟩:=ih (k+Z a.cells) h2
   refine ⟨by simp only [BG,o1,i1],?_⟩
   simp only [cellsOf,List.flatMap_cons] at i2 ⊢
   rw [Ag,o3,i2]
   rfl
 have hst:Ax [] args=[]:=by
  rw [DI,Ag,(opens 0 ha).2]
  rfl
 have:=hc (Gt W) (fun _=>.nilIface) W cargs (by rw [hst]; exact RW W _ htab) (by rw [(opens _ ha).1,hst]; exact ha.imp fun _ _ h=>VB.of_VE h)
 refine this.mono fun e W' he=>?_
 cases e with
 | returned v =>
  obtain ⟨H',φ',_,_,f,hr⟩:=he
  have hv:v=.bool true:=hr
  subst hv
  rw [hst] at f
  exact ⟨rfl,f.os,f.tape,f.output,f.size,fun k hk=>f.old k hk fun j hj=>by simp at hj⟩
 | panicked c=>exact he.elim
 | outgrown=>exact he.elim

def Ev (p:Nat->Prop):Prop:=∃ m,∀ k,m<=k->p k
theorem Ev.mono {p q:Nat->Prop} (h:Ev p) (f:∀ k,p k->q k):Ev q:=h.elim fun m hm=>⟨m,fun k hk=>f k (hm k hk)⟩
theorem Ev.const {p:Prop} (h:p):Ev fun _=>p:=⟨0,fun _ _=>h⟩
theorem Ev.all {p:Nat->Prop} (h:∀ k,p k):Ev p:=⟨0,fun k _=>h k⟩
theorem Ev.and {p q:Nat->Prop} (h:Ev p) (g:Ev q):Ev fun k=>p k/\q k:=by
 obtain ⟨m,hm⟩:=h
 obtain ⟨n,hn⟩:=g
 exact ⟨max m n,fun k hk=>⟨hm k (by omega),hn k (by omega)⟩⟩
noncomputable def Lm {ρ:Type} (u:Nat->Option ρ):Option ρ :=
 @dite _ (∃ r,Ev fun k=>u k=some r) (Classical.propDecidable _) (fun h=>some (Classical.choose h)) (fun _=>none)
theorem O4 {ρ:Type} {u:Nat->Option ρ} {r:ρ} (h:Lm u=some r):Ev fun k=>u k=some r:=by
 unfold Lm at h
 split at h
 ·rename_i hx
  cases h
  exact Classical.choose_spec hx
 ·cases h
theorem Sh {ρ:Type} {u:Nat->Option ρ} {r:ρ} (h:Ev fun k=>u k=some r):Lm u=some r:=by
 have hx:∃ r,Ev fun k=>u k=some r:=⟨r,h⟩
 unfold Lm
 rw [dif_pos hx]
 obtain ⟨m,hm⟩:=(Classical.choose_spec hx).and h
 obtain ⟨a,b⟩:=hm m (Nat.le_refl _)
 rw [<- b,a]
def Conv {ρ:Type} (kn:Nat->St->Option ρ) (kl:St->Option ρ):Prop:=∀ s r,kl s=some r->Ev fun j=>kn j s=some r
theorem Conv.refl {ρ:Type} (kl:St->Option ρ):Conv (fun _=>kl) kl:=fun _ _ h=>.const h
def GY (cal:Nat->Bx) (c:Bx):Prop:=∀ f a b r,c f a b=some r->Ev fun j=>cal j f a b=some r
theorem GY.refl (c:Bx):GY (fun _=>c) c:=fun _ _ _ _ h=>.const h
abbrev Lp (ρ:Type):Type:=((St->Option ρ)->St->Option ρ)->St->Option ρ
def RX {ρ:Type} (F:Nat->(St->Option ρ)->St->Option ρ) (FL:(St->Option ρ)->St->Option ρ):Prop :=
 ∀ (go:Nat->St->Option ρ) (gl:St->Option ρ),Conv go gl->Conv (fun j=>F j (go j)) (FL gl)
def RY {ρ:Type} (lp:Nat->Lp ρ) (ll:Lp ρ):Prop:=∀ (F:Nat->(St->Option ρ)->St->Option ρ) (FL:(St->Option ρ)->St->Option ρ),RX F FL->(∀ j,RX (fun _=>F j) (F j))->Conv (fun j=>lp j (F j)) (ll FL)
noncomputable def Du {ρ:Type}:Lp ρ:=fun F s=>Lm fun n=>Ei n F s
theorem RZ {ρ:Type}:RY (ρ:=ρ) Ei Du:=by
 intro F FL hF _ s r h
 have h:=O4 h
 obtain ⟨m,hm⟩:=h
 have key:∀ n,∀ g:Nat->Nat,(∀ j,n<=g j)->Conv (fun j=>Ei (g j) (F j)) (Ei n FL):=by
  intro n
  induction n with
  | zero=>intro g _ s r h; cases h
  | succ n ih =>
   intro g hg s r h
   refine (hF (fun j=>Ei (g j-1) (F j)) (Ei n FL) (ih (fun j=>g j-1) fun j=>by have:=hg j; omega) s r h).mono fun j hj=>?_
   have e:g j=(g j-1)+1:=by have:=hg j; omega
   show Ei (g j) (F j) s=some r
   rw [e]
   exact hj
 obtain ⟨k,hk⟩:=key m (fun j=>max j m) (fun j=>by omega) s r (hm m (Nat.le_refl _))
 refine ⟨max k m,fun j hj=>?_⟩
 have:=hk j (by omega)
 simp only [show max j m=j by omega] at this
 exact this
theorem O5 {ρ:Type} (k:Nat):RY (ρ:=ρ) (fun _=>Ei k) (Ei k):=by
 intro F FL hF _
 induction k with
 | zero=>intro s r h; cases h
 | succ k ih=>exact hF _ _ ih
theorem Mp {ρ:Type} {F:(St->Option ρ)->St->Option ρ} (hF:RX (fun _=>F) F) {s:St} {r:ρ} (h:F (Du F) s=some r):Du F s=some r:=by
 obtain ⟨m,hm⟩:=hF (fun j=>Ei j F) (Du F) (fun s r h=>O4 h) s r h
 exact Sh ⟨m+1,fun k hk=>by
  cases k with
  | zero=>omega
  | succ k=>exact hm k (by omega)⟩
theorem O6 {ρ:Type}:RY (ρ:=ρ) (fun _=>Du) Du:=by
 intro F FL hF hs s r h
 obtain ⟨m,hm⟩:=O4 h
 have key:∀ n,Conv (fun j=>Du (F j)) (Ei n FL):=by
  intro n
  induction n with
  | zero=>intro s r h; cases h
  | succ n ih=>intro s r h; exact (hF _ _ ih s r h).mono fun j hj=>Mp (hs j) hj
 exact key m s r (hm m (Nat.le_refl _))
theorem An {α β:Type} {x:Option α} {f:Nat->α->Option β} {g:α->Option β} (h:∀ a r,g a=some r->Ev fun j=>f j a=some r) (r:β) (hx:x.bind g=some r):Ev fun j=>x.bind (f j)=some r:=by
 cases x with
 | none=>cases hx
 | some a=>exact h a r hx
theorem Mq {ρ:Type} {s:St} {v:AV} {K:Kd} {kn:Nat->List K.T->Option ρ} {kl:List K.T->Option ρ} (hk:∀ a r,kl a=some r->Ev fun j=>kn j a=some r) (r:ρ) (h:s.list v K kl=some r):Ev fun j=>s.list v K (kn j)=some r:=by
 unfold St.list at h ⊢
 split at h
 ·exact hk _ _ h
 ·split at h
  ·rename_i e
   simp only [dif_pos e]
   exact hk _ _ h
  ·cases h
 ·split at h
  ·rename_i e0
   split at h
   ·rename_i e
    split at h
    ·rename_i ep
     simp only [e0,dif_pos e,if_pos ep]
     exact hk _ _ h
    ·cases h
   ·cases h
  ·rename_i e0
   split at h
   ·rename_i e
    simp only [e0,dif_pos e]
    exact hk _ _ h
   ·cases h
  ·rename_i e0
   split at h
   ·rename_i e
    split at h
    ·rename_i ep
     simp only [e0,dif_pos e,if_pos ep]
     exact hk _ _ h
    ·cases h
   ·cases h
  ·rename_i e0
   split at h
   ·rename_i e
    simp only [e0,dif_pos e]
    exact hk _ _ h
   ·cases h
  ·cases h
 ·cases h
theorem O7 {ρ:Type} {s:St} {d id:Nat} {e:TypeId} {K:Kd} {b:AV} {kn:Nat->St->Option ρ} {kl:St->Option ρ} (hk:Conv kn kl) (r:ρ) (h:s.appR d e K id b kl=some r):Ev fun j=>s.appR d e K id b (kn j)=some r:=by
 unfold St.appR at h ⊢
 split at h
 ·rename_i e1
  split at h
  ·rename_i e2
   split at h
   ·rename_i e3
    split at h
    ·rename_i e4
     simp only [e1,dif_pos e2,if_pos e3,if_pos e4]
     refine Mq (fun a r h=>?_) r h
     split at h
     ·rename_i e5
      simp only [if_pos e5]
      exact hk _ _ h
     ·cases h
    ·rename_i e4
     split at h
     ·rename_i j
      split at h
      ·cases h
      ·rename_i e5
       split at h
       ·rename_i e6
        split at h
        ·rename_i e7
         split at h
         ·rename_i e8
          simp only [e1,dif_pos e2,if_pos e3,if_neg e4,if_neg e5,e6,dif_pos e7,if_pos e8]
          exact hk _ _ h
         ·cases h
        ·cases h
       ·cases h
     ·cases h
   ·cases h
  ·cases h
 ·cases h
theorem Qi {ρ:Type} {op:BinOp} {x y:AV} {kn:Nat->AV->Option ρ} {kl:AV->Option ρ} (hk:∀ a r,kl a=some r->Ev fun j=>kn j a=some r) (r:ρ) (h:LQ op x y kl=some r):Ev fun j=>LQ op x y (kn j)=some r:=by
 have e:∀ k:AV->Option ρ,LQ op x y k=(LQ op x y some).bind k:=by
  intro k
  unfold LQ
  repeat' split
  all_goals rfl
 rw [e] at h
 simp only [e (kn _)]
 exact An hk r h
theorem Ra {ρ:Type} {op:UnOp} {x:AV} {kn:Nat->AV->Option ρ} {kl:AV->Option ρ} (hk:∀ a r,kl a=some r->Ev fun j=>kn j a=some r) (r:ρ) (h:QD op x kl=some r):Ev fun j=>QD op x (kn j)=some r:=by
 unfold QD at h ⊢
 split at h<;>first | exact hk _ _ h | cases h
theorem O8 {α β:Type} {x:Nat->Option α} {xl:Option α} {f:Nat->α->Option β} {g:α->Option β} (hx:∀ a,xl=some a->Ev fun j=>x j=some a) (h:∀ a r,g a=some r->Ev fun j=>f j a=some r) (r:β) (hr:xl.bind g=some r):Ev fun j=>(x j).bind (f j)=some r:=by
 cases xl with
 | none=>cases hr
 | some a=>exact ((hx a rfl).and (h a r hr)).mono fun j hj=>by rw [hj.1]; exact hj.2
theorem TB {ρ:Type} {cal:Nat->Bx} {c:Bx} {d z:Nat} {x:Ar} {lo hi:Option Ar} {kn:Nat->St->Option ρ} {kl:St->Option ρ} (hk:Conv kn kl) (s:St) (r:ρ) (h:BS c kl s (.sl d z x lo hi)=some r):Ev fun j=>BS (cal j) (kn j) s (.sl d z x lo hi)=some r:=by
 simp only [BS] at h ⊢
 split at h
 ·split at h
  ·rename_i ez
   split at h
   ·split at h
    ·rename_i g1
     split at h
     ·rename_i g2
      split at h
      ·rename_i g3
       simp only [if_pos ez,if_pos g1,if_pos g2,if_pos g3]
       exact hk _ _ h
      ·cases h
     ·cases h
    ·cases h
   ·cases h
  ·cases h
 ·split at h
  ·rename_i ez
   split at h
   ·split at h
    ·rename_i g1
     split at h
     ·rename_i g2
      split at h
      ·rename_i g3
       simp only [if_pos ez,if_pos g1,if_pos g2,if_pos g3]
       exact hk _ _ h
      ·cases h
     ·cases h
    ·cases h
   ·cases h
  ·cases h
 ·cases h
theorem N1 {ρ:Type} {cal:Nat->Bx} {c:Bx} (hc:GY cal c) {d:Option Nat} {f:Nat} {args:List (Ar×PK)} {res:List Kd} {kn:Nat->St->Option ρ} {kl:St->Option ρ} (hk:Conv kn kl) (s:St) (r:ρ) (h:MJ c kl s d f args res=some r):Ev fun j=>MJ (cal j) (kn j) s d f args res=some r:=by
 simp only [MJ] at h ⊢
 refine An (fun q r h=>An (fun bx r h=>?_) r h) r h
 split at h
 ·rename_i e
  simp only [if_pos e]
  refine O8 (fun a ha=>?_) (fun y r h=>?_) r h
  ·exact O8 (f:=fun _=>B3 _) (g:=B3 _) (fun a ha=>hc _ _ _ _ ha) (fun y r h=>.const h) a ha
  ·split at h
   ·rename_i e
    simp only [if_pos e]
    exact hk _ _ h
   ·cases h
 ·cases h
mutual
theorem Mr {ρ:Type} {cal:Nat->Bx} {c:Bx} (hc:GY cal c):∀ (ao:Bi) {kn:Nat->St->Option ρ} {kl:St->Option ρ},Conv kn kl->∀ s r,BS c kl s ao=some r->Ev fun j=>BS (cal j) (kn j) s ao=some r
 | .mv d x,kn,kl,hk,s,r,h=>hk _ _ h
 | .nilrow d t K,kn,kl,hk,s,r,h=>hk _ _ h
 | .pick d c a b,kn,kl,hk,s,r,h=>by
  simp only [BS] at h ⊢
  split at h
  ·split at h<;>rename_i e<;>simp only [e,if_true,if_false,Bool.false_eq_true]<;>exact hk _ _ h
  ·cases h
 | .sc c want ops d a b,kn,kl,hk,s,r,h=>by
  simp only [BS] at h ⊢
  split at h
  ·split at h
   ·rename_i e
    simp only [e,if_true]
    exact OQ hc ops (kn:=fun j s'=>kn j (s'.put d (if want then s'.opd a else s'.opd b))) (kl:=fun s'=>kl (s'.put d (if want then s'.opd a else s'.opd b))) (fun s r h=>hk _ _ h) s r h
   ·rename_i e
    simp only [if_neg e]
    exact hk _ _ h
  ·cases h
 | .alloc d cs,kn,kl,hk,s,r,h=>hk _ _ h
 | .box d x own,kn,kl,hk,s,r,h=>by
  simp only [BS] at h ⊢
  exact An (fun a r h=>hk _ _ h) r h
 | .build d zero parts,kn,kl,hk,s,r,h=>by
  simp only [BS] at h ⊢
  exact An (fun a r h=>hk _ _ h) r h
 | .bnew d zero parts,kn,kl,hk,s,r,h=>by
  simp only [BS] at h ⊢
  exact An (fun a r h=>hk _ _ h) r h
 | .brow d t K parts,kn,kl,hk,s,r,h=>by
  simp only [BS] at h ⊢
  split at h
  ·rename_i ep
   simp only [if_pos ep]
   exact An (fun a r h=>An (fun a r h=>hk _ _ h) r h) r h
  ·rename_i ep
   simp only [if_neg ep]
   refine An (fun a r h=>?_) r h
   split at h
   ·rename_i e2
    simp only [if_pos e2]
    exact An (fun a r h=>hk _ _ h) r h
   ·cases h
 | .blst d K parts,kn,kl,hk,s,r,h=>by
  simp only [BS] at h ⊢
  exact An (fun a r h=>An (fun a r h=>hk _ _ h) r h) r h
 | .load d x n,kn,kl,hk,s,r,h=>by
  simp only [BS] at h ⊢
  refine An (fun a r h=>?_) r h
  split at h
  ·rename_i e
   simp only [if_pos e]
   exact hk _ _ h
  ·cases h
 | .store x y m own,kn,kl,hk,s,r,h=>by
  simp only [BS] at h ⊢
  split at h
  ·rename_i e
   simp only [if_pos e]
   exact An (fun a r h=>hk _ _ h) r h
  ·cases h
 | .nilc d x,kn,kl,hk,s,r,h=>by
  simp only [BS] at h ⊢
  split at h<;>first | exact hk _ _ h | cases h
 | .bin d op x y,kn,kl,hk,s,r,h=>by
  simp only [BS] at h ⊢
  exact Qi (fun a r h=>hk _ _ h) r h
 | .eqs d neg K x y,kn,kl,hk,s,r,h=>by
  simp only [BS] at h ⊢
  exact An (fun a r h=>An (fun a r h=>hk _ _ h) r h) r h
 | .un d op x,kn,kl,hk,s,r,h=>by
  simp only [BS] at h ⊢
  exact Ra (fun a r h=>hk _ _ h) r h
 | .cvi d k x,kn,kl,hk,s,r,h=>by
  simp only [BS] at h ⊢
  split at h<;>first | exact hk _ _ h | cases h
 | .bts d x,kn,kl,hk,s,r,h=>by
  simp only [BS] at h ⊢
  exact Mq (fun a r h=>hk _ _ h) r h
 | .fld d x off,kn,kl,hk,s,r,h=>by
  simp only [BS] at h ⊢
  split at h<;>first | exact hk _ _ h | cases h
 | .field d x off n,kn,kl,hk,s,r,h=>by
  simp only [BS] at h ⊢
  split at h
  ·split at h
   ·rename_i e
    simp only [if_pos e]
    exact hk _ _ h
   ·cases h
  ·cases h
 | .idx d z x i,kn,kl,hk,s,r,h=>by
  have e:∀ k:St->Option ρ,BS (cal 0) k s (.idx d z x i)=(BS (cal 0) some s (.idx d z x i)).bind k:=by
   intro k
   simp only [BS]
   repeat' split
   all_goals rfl
  have e2:∀ k:St->Option ρ,∀ c:Bx,BS c k s (.idx d z x i)=BS (cal 0) k s (.idx d z x i):=fun k c=>by simp only [BS]
  rw [e2,e] at h
  simp only [e2 (kn _),e (kn _)]
  exact An (fun a r h=>hk _ _ h) r h
 | .aidx d n x i,kn,kl,hk,s,r,h=>by
  simp only [BS] at h ⊢
  split at h
  ·refine An (fun xs r h=>?_) r h
   split at h
   ·rename_i e1
    split at h
    ·rename_i e2
     split at h
     ·rename_i e3
      simp only [if_pos e1,if_pos e2,if_pos e3]
      exact hk _ _ h
     ·cases h
    ·cases h
   ·cases h
  ·cases h
 | .sidx d x i,kn,kl,hk,s,r,h=>by
  have e:∀ k:St->Option ρ,BS (cal 0) k s (.sidx d x i)=(BS (cal 0) some s (.sidx d x i)).bind k:=by
   intro k
   simp only [BS]
   repeat' split
   all_goals rfl
  have e2:∀ k:St->Option ρ,∀ c:Bx,BS c k s (.sidx d x i)=BS (cal 0) k s (.sidx d x i):=fun k c=>by simp only [BS]
  rw [e2,e] at h
  simp only [e2 (kn _),e (kn _)]
  exact An (fun a r h=>hk _ _ h) r h
 | .sl d z x lo hi,kn,kl,hk,s,r,h=>TB hk s r h
 | .mk d t K n,kn,kl,hk,s,r,h=>by
  have e:∀ k:St->Option ρ,BS (cal 0) k s (.mk d t K n)=(BS (cal 0) some s (.mk d t K n)).bind k:=by
   intro k
   simp only [BS]
   repeat' split
   all_goals rfl
  have e2:∀ k:St->Option ρ,∀ c:Bx,BS c k s (.mk d t K n)=BS (cal 0) k s (.mk d t K n):=fun k c=>by simp only [BS]
  rw [e2,e] at h
  simp only [e2 (kn _),e (kn _)]
  exact An (fun a r h=>hk _ _ h) r h
 | .fn d f caps,kn,kl,hk,s,r,h=>hk _ _ h
 | .clo d f K x,kn,kl,hk,s,r,h=>by
  simp only [BS] at h ⊢
  split at h
  ·exact An (fun a r h=>hk _ _ h) r h
  ·cases h
 | .fbox d x,kn,kl,hk,s,r,h=>by
  simp only [BS] at h ⊢
  exact An (fun a r h=>hk _ _ h) r h
 | .min d x y,kn,kl,hk,s,r,h=>by
  simp only [BS] at h ⊢
  split at h
  ·split at h
   ·rename_i e
    simp only [if_pos e]
    exact hk _ _ h
   ·cases h
  ·cases h
 | .app d e K a b,kn,kl,hk,s,r,h=>by
  simp only [BS] at h ⊢
  split at h
  ·exact O7 hk r h
  ·split at h
   ·exact An (fun y r h=>O7 hk r h) r h
   ·cases h
  ·cases h
 | .apz d e K a b,kn,kl,hk,s,r,h=>by
  simp only [BS] at h ⊢
  split at h
  ·split at h
   ·rename_i e1
    split at h
    ·rename_i e2
     split at h
     ·rename_i e3
      simp only [e1,dif_pos e2,if_pos e3]
      refine Mq (fun a r h=>?_) r h
      split at h
      ·rename_i e4
       simp only [if_pos e4]
       exact hk _ _ h
      ·cases h
     ·cases h
    ·cases h
   ·cases h
  ·cases h
 | .len d t x,kn,kl,hk,s,r,h=>by
  have e:∀ k:St->Option ρ,BS (cal 0) k s (.len d t x)=(BS (cal 0) some s (.len d t x)).bind k:=by
   intro k
   simp only [BS]
   repeat' split
   all_goals first | rfl | (rw [Option.bind_assoc]; rfl)
  have e2:∀ k:St->Option ρ,∀ c:Bx,BS c k s (.len d t x)=BS (cal 0) k s (.len d t x):=fun k c=>by simp only [BS]
  rw [e2,e] at h
  simp only [e2 (kn _),e (kn _)]
  exact An (fun a r h=>hk _ _ h) r h
 | .call d f args res,kn,kl,hk,s,r,h=>by
  simp only [BS] at h ⊢
  exact N1 hc hk s r h
 | .icall n rd d f args res,kn,kl,hk,s,r,h=>by
  simp only [BS] at h ⊢
  refine An (fun y r h=>?_) r h
  split at h
  ·cases h
  ·rename_i e1
   simp only [if_neg e1]
   by_cases e2:(if rd=true then !AZ (GU y.2 args) s.st.length else AZ (OZ y.2 args) s.st.length)=true
   ·rw [if_pos e2] at h
    simp only [if_pos e2]
    exact N1 hc (kn:=fun j s2=>(s2.closeAt y.1 s.st.length rd).bind (kn j)) (kl:=fun s2=>(s2.closeAt y.1 s.st.length rd).bind kl) (fun s r h=>An (fun a r h=>hk _ _ h) r h) y.2 r h
   ·rw [if_neg e2] at h; cases h
 | .bld d k f t x y,kn,kl,hk,s,r,h=>by
  simp only [BS] at h ⊢
  split at h
  ·rename_i id e1
   split at h
   ·rename_i T j e2
    split at h
    ·rename_i t' xs e3
     split at h
     ·rename_i e4
      cases e5:c (BR+f) [.int .i64 k,.int .i64 t,.int .i64 T] [] with
      | none=>rw [e5] at h; cases h
      | some q =>
       have hq:=hc _ _ _ _ e5
       rw [e5,U] at h
       cases e8:B3 [] q with
       | none=>rw [e8] at h; cases h
       | some u =>
        rw [e8,U] at h
        split at h
        ·rename_i e6
         split at h
         ·rename_i e7
          refine (hq.and (hk _ _ h)).mono fun j hj=>?_
          simp only [e2,e3,if_pos e4,hj.1,U,e8,if_pos e6,if_pos e7]
          exact hj.2
         ·cases h
        ·rename_i e6
         cases ha:Rn k (s.opd y) with
         | none=>rw [ha] at h; cases h
         | some ys =>
          rw [ha,U] at h
          split at h
          ·rename_i e7
           refine (hq.and (hk _ _ h)).mono fun j hj=>?_
           simp only [e2,e3,if_pos e4,hj.1,U,e8,if_neg e6,ha,if_pos e7]
           exact hj.2
          ·cases h
     ·cases h
    ·cases h
   ·cases h
  ·cases h
 | .stb d t x,kn,kl,hk,s,r,h=>by
  simp only [BS] at h ⊢
  split at h
  ·exact hk _ _ h
  ·cases h
 | .ext d x i,kn,kl,hk,s,r,h=>by
  simp only [BS] at h ⊢
  split at h
  ·split at h
   ·rename_i e
    simp only [if_pos e]
    exact hk _ _ h
   ·cases h
  ·cases h
theorem OQ {ρ:Type} {cal:Nat->Bx} {c:Bx} (hc:GY cal c):∀ (aos:List Bi) {kn:Nat->St->Option ρ} {kl:St->Option ρ},Conv kn kl->∀ s r,KL c kl s aos=some r->Ev fun j=>KL (cal j) (kn j) s aos=some r
 | [],kn,kl,hk,s,r,h=>by simp only [KL] at h ⊢; exact hk _ _ h
 | o::os,kn,kl,hk,s,r,h=>by
  simp only [KL] at h ⊢
  exact Mr hc o (fun s r h=>OQ hc os hk s r h) s r h
end
theorem Hw {ρ:Type} {cal:Nat->Bx} {c:Bx} (hc:GY cal c) (anc:List (List Nat)) {kn:Nat->St->Option ρ} {kl:St->Option ρ} (hk:Conv kn kl):∀ (t:DT) (T:List (Nat×Nat)) s r,dK c anc kl t T s=some r->Ev fun j=>dK (cal j) anc (kn j) t T s=some r
 | .done,T,s,r,h=>hk _ _ h
 | .take i g ao d,T,s,r,h=>by
  simp only [dK] at h ⊢
  split at h
  ·rename_i e
   simp only [if_pos e]
   exact Mr hc ao (fun s r h=>Hw hc anc hk d _ s r h) s r h
  ·cases h
 | .skip i g d t,T,s,r,h=>by
  simp only [dK] at h ⊢
  split at h
  ·rename_i e
   simp only [if_pos e]
   exact Hw hc anc hk t _ _ r h
  ·cases h
 | .only i g ao e fl d,T,s,r,h=>by
  simp only [dK] at h ⊢
  split at h
  ·rename_i e
   simp only [if_pos e]
   exact Mr hc ao (fun s r h=>Hw hc anc hk d _ s r h) s r h
  ·cases h
 | .test c a b,T,s,r,h=>by
  simp only [dK] at h ⊢
  split at h
  ·split at h
   ·rename_i e
    simp only [if_pos e]
    exact Hw hc anc hk a _ _ r h
   ·rename_i e
    simp only [if_neg e]
    exact Hw hc anc hk b _ _ r h
  ·cases h
 | .fork i ai ri j aj rj,T,s,r,h=>by
  simp only [dK] at h ⊢
  obtain ⟨ha,hb⟩:=KM.1 h
  have ea:Ev fun n=>(if (Ci ai.dsts T&&HE (anc.getD i []) (ai.touch s) s T)=true then BS (cal n) (fun s'=>dK (cal n) anc (kn n) ri (CU (anc.getD i []) T) s') s ai else none)=some r:=by
   split at ha
   ·rename_i e
    simp only [if_pos e]
    exact Mr hc ai (fun s r h=>Hw hc anc hk ri _ s r h) s r ha
   ·cases ha
  have eb:Ev fun n=>(if (Ci aj.dsts T&&HE (anc.getD j []) (aj.touch s) s T)=true then BS (cal n) (fun s'=>dK (cal n) anc (kn n) rj (CU (anc.getD j []) T) s') s aj else none)=some r:=by
   split at hb
   ·rename_i e
    simp only [if_pos e]
    exact Mr hc aj (fun s r h=>Hw hc anc hk rj _ s r h) s r hb
   ·cases hb
  exact (ea.and eb).mono fun n h=>KM.2 h
noncomputable def CN {ρ:Type} (cal:Bx) (lp:Lp ρ):AL->(kn kr:St->Option ρ)->(ke:Nat->St->Option ρ)->St->Option ρ
 | .skip,kn,_,_,s=>kn s
 | .region ops live,kn,_,_,s=>KL cal (fun s'=>kn ⟨live.map fun t=>(t,Bg s'.fr t),s'.st⟩) s ops
 | .draw anc t live,kn,_,_,s=>dK cal anc (fun s'=>kn ⟨live.map fun t=>(t,Bg s'.fr t),s'.st⟩) t [] s
 | .seqc live a b,kn,kr,ke,s=>CN cal lp a (fun s'=>CN cal lp b kn kr ke (s'.cutH (BO s live) live s.st.length)) kr ke s
 | .seq a b,kn,kr,ke,s=>CN cal lp a (fun s'=>CN cal lp b kn kr ke s') kr ke s
 | .cond c a b,kn,kr,ke,s=>match s.opd c with
  | .bool t=>if t=true then CN cal lp a kn kr ke s else CN cal lp b kn kr ke s
  | _=>none
 | .block id live body,kn,kr,ke,s=>CN cal lp body (fun s'=>kn (s'.cutH (BO s live) live s.st.length)) kr (fun i s'=>if i=id then kn (s'.cutH (BO s live) live s.st.length) else ke i s') s
 | .loop live body,_,kr,ke,s=>lp (fun go s'=>CN cal lp body (fun s''=>go (s''.cutH (BO s live) live s.st.length)) kr ke s') (s.cut live s.st.length)
 | .exit id,_,_,ke,s=>ke id s
 | .ret,_,kr,_,s=>kr s
theorem FG {ρ:Type} (cal:Bx) (k:Nat):∀ (a:AL) (kn kr:St->Option ρ) (ke:Nat->St->Option ρ) (s:St),CP cal k a kn kr ke s=CN cal (Ei k) a kn kr ke s
 | .skip,_,_,_,_=>rfl
 | .region ..,_,_,_,_=>rfl
 | .draw ..,_,_,_,_=>rfl
 | .seqc live a b,kn,kr,ke,s=>by simp only [CP,CN,FG cal k a,FG cal k b]
 | .seq a b,kn,kr,ke,s=>by simp only [CP,CN,FG cal k a,FG cal k b]
 | .cond c a b,kn,kr,ke,s=>by
  simp only [CP,CN,FG cal k a,FG cal k b]
  cases s.opd c<;>rfl
 | .block id live a,kn,kr,ke,s=>by simp only [CP,CN,FG cal k a]
 | .loop live a,kn,kr,ke,s=>by simp only [CP,CN,FG cal k a]
 | .exit _,_,_,_,_=>rfl
 | .ret,_,_,_,_=>rfl
theorem C2 {ρ:Type}:∀ (a:AL) {cal:Nat->Bx} {c:Bx} {lp:Nat->Lp ρ} {ll:Lp ρ} {kn kr:Nat->St->Option ρ} {kl krl:St->Option ρ} {ke:Nat->Nat->St->Option ρ} {kel:Nat->St->Option ρ},GY cal c->RY lp ll->(∀ j,RY (fun _=>lp j) (lp j)) ->
  Conv kn kl->Conv kr krl->(∀ i,Conv (fun j=>ke j i) (kel i))->Conv (fun j=>CN (cal j) (lp j) a (kn j) (kr j) (ke j)) (CN c ll a kl krl kel)
 | .skip,_,_,_,_,_,_,_,_,_,_,hc,hl,hl',hk,hr,he=>hk
 | .region ops live,_,_,_,_,_,_,_,_,_,_,hc,hl,hl',hk,hr,he=>fun s r h=>OQ hc ops (fun s r h=>hk _ r h) s r h
 | .draw anc t live,_,_,_,_,_,_,_,_,_,_,hc,hl,hl',hk,hr,he=>fun s r h=>Hw hc anc (fun s r h=>hk _ r h) t [] s r h
 | .seqc live a b,_,_,_,_,_,_,_,_,_,_,hc,hl,hl',hk,hr,he=>fun s r h=>C2 a hc hl hl' (fun s' r h=>C2 b hc hl hl' hk hr he _ r h) hr he s r h
 | .seq a b,_,_,_,_,_,_,_,_,_,_,hc,hl,hl',hk,hr,he=>fun s r h=>C2 a hc hl hl' (fun s' r h=>C2 b hc hl hl' hk hr he _ r h) hr he s r h
 | .cond c a b,_,_,_,_,_,_,_,_,_,_,hc,hl,hl',hk,hr,he=>fun s r h=>by
  simp only [CN] at h ⊢
  split at h
  ·split at h
   ·rename_i e
    simp only [if_pos e]
    exact C2 a hc hl hl' hk hr he s r h
   ·rename_i e
    simp only [if_neg e]
    exact C2 b hc hl hl' hk hr he s r h
  ·cases h
 | .block id live a,_,_,_,_,_,_,_,_,_,_,hc,hl,hl',hk,hr,he=>fun s r h=>by
  simp only [CN] at h ⊢
  refine C2 a hc hl hl' (fun s r h=>hk _ r h) hr (fun i s' r h=>?_) s r h
  split at h
  ·rename_i e
   simp only [if_pos e]
   exact hk _ r h
  ·rename_i e
   simp only [if_neg e]
   exact he i _ r h
 | .loop live a,cal,c,lp,ll,kn,kr,kl,krl,ke,kel,hc,hl,hl',hk,hr,he=>fun s r h=>by
  simp only [CN] at h ⊢
  refine hl _ _ (fun go gl hgo s' r h=>?_) (fun j go gl hgo s' r h=>?_) _ r h
  ·exact C2 a hc hl hl' (fun s r h=>hgo _ r h) hr he s' r h
  ·exact C2 (cal:=fun _=>cal j) (lp:=fun _=>lp j) (kn:=fun i s'=>go i (s'.cutH (BO s live) live s.st.length)) (kl:=fun s'=>gl (s'.cutH (BO s live) live s.st.length)) (kr:=fun _=>kr j) (krl:=kr j) (ke:=fun _=>ke j) (kel:=ke j) a (GY.refl _) (hl' j) (fun _=>hl' j) (fun s r h=>hgo _ r h) (Conv.refl _) (fun i=>Conv.refl _) s' r h
 | .exit id,_,_,_,_,_,_,_,_,_,_,hc,hl,hl',hk,hr,he=>fun s r h=>he id s r h
 | .ret,_,_,_,_,_,_,_,_,_,_,hc,hl,hl',hk,hr,he=>hr
theorem Qj {ρ:Type} {cal:Bx} {a:AL} {hs:List (Nat×Nat)} {live:List Nat} {n:Nat} {kr:St->Option ρ} {ke:Nat->St->Option ρ} {s:St} {r:ρ}
  (h:CN cal Du a (fun s''=>Du (fun go s'=>CN cal Du a (fun s''=>go (s''.cutH hs live n)) kr ke s') (s''.cutH hs live n)) kr ke s=some r) :
  Du (fun go s'=>CN cal Du a (fun s''=>go (s''.cutH hs live n)) kr ke s') s=some r :=
 Mp (F:=fun go s'=>CN cal Du a (fun s''=>go (s''.cutH hs live n)) kr ke s') (fun go gl hgo s' r h=>C2 (cal:=fun _=>cal) (lp:=fun _=>Du) (kn:=fun i s'=>go i (s'.cutH hs live n)) (kl:=fun s'=>gl (s'.cutH hs live n)) (kr:=fun _=>kr) (krl:=kr) (ke:=fun _=>ke) (kel:=ke) a (GY.refl _) O6 (fun _=>O6) (fun s r h=>hgo _ r h) (Conv.refl _) (fun i=>Conv.refl _) s' r h) h
noncomputable def Rb (cal:Bx) (fn:CQ) (args bs:List AV):Option (RT fn.outs) :=
 CN cal Du fn.body (Au fn) (Au fn) (fun _ _=>none) ⟨FC 0 (BG (CB bs) args),Ax bs args⟩
noncomputable def O9 (JL:Nat->Option CQ) (CS:Bx):Bx:=fun f a b=>Lm fun k=>LT JL CS k f a b
theorem Qk {JL:Nat->Option CQ} {CS:Bx} {f:Nat} {fn:CQ} {args bs:List AV} {r:RT fn.outs} (hf:JL f=some fn) (hl:args.length=fn.params.length/\bs.length=(BX fn.params 0).length)
  (h:Rb (O9 JL CS) fn args bs=some r):O9 JL CS f args bs=some (BM fn.outs r):=by
 have hc:GY (fun k=>LT JL CS k) (O9 JL CS):=fun f a b r h=>O4 h
 obtain ⟨m,hm⟩:=C2 (lp:=Ei) (ll:=Du) fn.body (kn:=fun _=>Au fn) (kr:=fun _=>Au fn) (ke:=fun _ _ _=>none) hc RZ O5 (Conv.refl _) (Conv.refl _) (fun i=>Conv.refl _) _ r h
 refine Sh ⟨m+1,fun k hk=>?_⟩
 cases k with
 | zero=>omega
 | succ k =>
  simp only [LT,hf,if_pos hl]
  have:=hm k (by omega)
  simp only [<- FG] at this
  unfold Pk
  rw [this]
  rfl
theorem F_:∀ (K:Kd) (x:K.T) (r:List AV),K.dec (K.enc x++r)=some (x,r)
 | .int k,x,r=>by simp [Kd.enc,Kd.dec]
 | .bool,x,r=>rfl
 | .str,x,r=>rfl
 | .slice e,x,r=>by simp [Kd.enc,Kd.dec]
 | .pair a b,x,r=>by simp [Kd.enc,Kd.dec,BN,F_ a,F_ b]
 | .own t e,x,r=>by simp [Kd.enc,Kd.dec]
 | .ref K,x,r=>by
  have:=F_ K x []
  rw [List.append_nil] at this
  simp [Kd.enc,Kd.dec,this]
 | .fun f,x,r=>by simp [Kd.enc,Kd.dec]
 | .clo f K,x,r=>by simp [Kd.enc,Kd.dec]
theorem Ms (K:Kd) (x:K.T):K.of (K.av x)=some x:=by
 have h:K.ofCells (K.enc x)=some x:=by
  have:=F_ K x []
  rw [List.append_nil] at this
  simp [Kd.ofCells,this]
 unfold Kd.of
 cases K<;>exact h
theorem Mt:∀ (Ks:List Kd) (x:RT Ks),B3 Ks (BM Ks x)=some x
 | [],_=>rfl
 | [K],x=>Ms K x
 | K::L::Ks,x=>by
  simp only [BM,B3,Ms,U]
  rw [Mt (L::Ks) x.2]
  rfl
theorem Pc {JL:Nat->Option CQ} {CS:Bx} {f:Nat} {fn:CQ} {args bs:List AV} {r:RT fn.outs} (hf:JL f=some fn) (hl:args.length=fn.params.length/\bs.length=(BX fn.params 0).length)
  (h:Rb (O9 JL CS) fn args bs=some r):(O9 JL CS f args bs).bind (B3 fn.outs)=some r:=by
 rw [Qk hf hl h,U,Mt]
theorem Rc {P:Program} {JL:Nat->Option CQ} {CS:Bx} (ht:RV P JL) (hp:CY P CS) {f:Nat} {args:List AV} (h:(O9 JL CS f args []).bind (B3 [.bool])=some true) {W:World} {cargs:List Value}
  (ha:AI (VE (Gt W)) args cargs) (hlt:f<BR:=by decide) (htab:Ob (Gt W):=by exact fun p h=>by cases h):Calls P f cargs.toArray W fun e W'=>e=.returned (.bool true)/\RowKit.Below W.heap.size W W':=by
 cases hq:O9 JL CS f args [] with
 | none=>rw [hq] at h; cases h
 | some v =>
  rw [hq,U] at h
  obtain ⟨m,hm⟩:=O4 hq
  have hm:=hm m (Nat.le_refl _)
  have e:v=[.bool true]:=by
   match v,h with
   | [a],h =>
    have h:Kd.of .bool a=some true:=h
    unfold Kd.of Kd.ofCells at h
    cases a<;>simp [AV.cells,Kd.dec,AV.fits] at h<;>first | rw [h] | skip
  subst e
  exact Qh ht hp hm ha hlt htab
def SV (f:Nat):List (Nat×CQ)->Option CQ
 | []=>none
 | (g,a)::r=>if g=f then some a else SV f r
inductive P8 (P:Program):List (Nat×CQ)->Prop where
 | nil:P8 P []
 | cons {f:Nat} {a:CQ} {r:List (Nat×CQ)} (h:Ck P f a=true) (t:P8 P r):P8 P ((f,a)::r)
theorem Ql {P:Program} {tab:List (Nat×CQ)} (h:P8 P tab):RV P fun f=>SV f tab:=by
 intro f a hf
 induction h with
 | nil=>cases hf
 | cons h _ ih =>
  simp only [SV] at hf
  split at hf
  ·rename_i e
   cases hf
   rw [<- e]
   exact h
  ·exact ih hf
end Go.Proofs.Ytffahmnodgnohaa.Core

namespace Go.Proofs.Ytffahmnodgnohaa.Core
open Go IntKind
set_option maxRecDepth 100000
noncomputable section
abbrev Kd.W:Kd:=.int .i64
abbrev Kd.S:Kd:=.slice .W
abbrev Av:Kd:=(.pair .str (.pair .str .W))
abbrev Aa:Type:=ByteArray×ByteArray×Int
abbrev Fa:Kd:=(.pair .W (.pair .W (.pair .W (.pair Av .S))))
abbrev OR:Type:=Int×Int×Int×Aa×List Int
abbrev Ay:Kd:=(.pair .W (.pair .W (.pair .bool (.pair .bool (.pair .bool (.pair .bool (.pair .S (.pair (.slice Av) (.pair .W Fa)))))))))
abbrev BA:Type:=Int×Int×Bool×Bool×Bool×Bool×List Int×List Aa×Int×Int×Int×Int×Aa×List Int
abbrev I5:Kd:=(.pair .W (.pair .W (.pair .W (.pair Av (.own 3 .W)))))
abbrev CZ:Kd:=(.pair .W (.pair .W (.pair .bool (.pair .bool (.pair .bool (.pair .bool (.pair (.own 3 .W) (.pair (.own 49 Av) (.pair .W I5)))))))))
def Mu:Nat×List PK×List Kd:=(28,[.bor (.slice .S),.val .W],[.W])
def Kj:Nat×List PK×List Kd:=(29,[.val .W,.val (.slice .S)],[Ay,.bool])
def Fb:Nat×List PK×List Kd:=(30,[.val (.slice .S)],[(.slice .S)])
def Gu:Nat×List PK×List Kd:=(31,[.val .W,.bor (.slice .S)],[CZ,.bool])
def Es:Nat×List PK×List Kd:=(32,[.bor Ay,.bor Ay],[.bool])
def Mv:Nat×List PK×List Kd:=(33,[.bor (.slice .S),.bor (.slice .S)],[.bool])
def Kk:Nat×List PK×List Kd:=(34,[.mut (.own 44 (.own 3 .W)),.val .W],[.W])
def Jo:Nat×List PK×List Kd:=(35,[.mut CZ,.val .W],[.W])
def GA:Nat×List PK×List Kd:=(36,[.bor Ay,.val .W],[.W])
def Mw:Nat×List PK×List Kd:=(67,[.bor (.slice Av),.bor (.slice Av)],[.bool])
def Kl:Nat×List PK×List Kd:=(76,[.mut (.own 49 Av),.val .W],[.W])
def Km:Nat×List PK×List Kd:=(77,[.bor (.slice Av),.val .W],[.W])
def FH:Nat×List PK×List Kd:=(80,[.val .W,.val .W,.val .W],[.bool])
def Fc:Nat×List PK×List Kd:=(82,[.val .W,.val .W,.val .W],[.bool])
def Im:Nat×List PK×List Kd:=(83,[.val .W],[.bool])
def NR:Nat×List PK×List Kd:=(88,[.bor .S,.val .W],[.W])
def Mx:Nat×List PK×List Kd:=(89,[.bor (.slice .S)],[.bool])
def Jp:Nat×List PK×List Kd:=(90,[.bor .S,.val .W],[.bool])
def In:Nat×List PK×List Kd:=(91,[.bor .S],[(.own 3 .W)])
def My:Nat×List PK×List Kd:=(92,[.bor (.slice .S)],[.bool])
def Fy:Nat×List PK×List Kd:=(93,[.bor .S,.val .W],[.bool])
def GZ:Nat×List PK×List Kd:=(94,[.bor .S,.bor .S],[.bool])
def NS:Nat×List PK×List Kd:=(95,[.bor Fa,.bor Fa],[.bool])
def Et:Nat×List PK×List Kd:=(96,[.mut (.own 3 .W),.val .W],[.W])
def Lq:Nat×List PK×List Kd:=(97,[.mut I5,.val .W],[.W])
def HW:Nat×List PK×List Kd:=(98,[.bor .S,.val .W],[.W])
def Lr:Nat×List PK×List Kd:=(99,[.bor Fa,.val .W],[.W])
def Io:Nat×List PK×List Kd:=(137,[.val Av,.val Av],[.bool])
def Df:Nat×List PK×List Kd:=(141,[.val .W],[.str])
def Mz:Nat×List PK×List Kd:=(147,[.bor .S],[.bool])
def D4:Nat×List PK×List Kd:=(148,[.bor .S,.val .W],[.W])
def Kn:Nat×List PK×List Kd:=(2000030,[.bor (.slice .S)],[(.own 44 (.own 3 .W))])
abbrev TC {A0 ρ:Type} (t W:A0->Option ρ):Prop:=∀ {a0 r},t a0=some r->W a0=some r
abbrev M0 {A0 A1 ρ:Type} (t W:A0->A1->Option ρ):Prop:=∀ {a0 a1 r},t a0 a1=some r->W a0 a1=some r
abbrev Pd {A0 A1 A2 ρ:Type} (t W:A0->A1->A2->Option ρ):Prop:=∀ {a0 a1 a2 r},t a0 a1 a2=some r->W a0 a1 a2=some r
abbrev Ti {A0 A1 A2 A3 ρ:Type} (t W:A0->A1->A2->A3->Option ρ):Prop:=∀ {a0 a1 a2 a3 r},t a0 a1 a2 a3=some r->W a0 a1 a2 a3=some r
abbrev Tw {A0 A1 A2 A3 A4 ρ:Type} (t W:A0->A1->A2->A3->A4->Option ρ):Prop:=∀ {a0 a1 a2 a3 a4 r},t a0 a1 a2 a3 a4=some r->W a0 a1 a2 a3 a4=some r
abbrev Ts {A0 A1 A2 A3 A4 A5 A6 A7 ρ:Type} (t W:A0->A1->A2->A3->A4->A5->A6->A7->Option ρ):Prop:=∀ {a0 a1 a2 a3 a4 a5 a6 a7 r},t a0 a1 a2 a3 a4 a5 a6 a7=some r->W a0 a1 a2 a3 a4 a5 a6 a7=some r
abbrev Tj {A0 A1 A2 A3 A4 A5 A6 A7 A8 A9 A10 A11 A12 A13 A14 A15 A16 ρ:Type} (t W:A0->A1->A2->A3->A4->A5->A6->A7->A8->A9->A10->A11->A12->A13->A14->A15->A16->Option ρ):Prop:=∀ {a0 a1 a2 a3 a4 a5 a6 a7 a8 a9 a10 a11 a12 a13 a14 a15 a16 r},t a0 a1 a2 a3 a4 a5 a6 a7 a8 a9 a10 a11 a12 a13 a14 a15 a16=some r->W a0 a1 a2 a3 a4 a5 a6 a7 a8 a9 a10 a11 a12 a13 a14 a15 a16=some r
abbrev Tk {A0 A1 A2 A3 A4 A5 A6 A7 A8 A9 A10 A11 A12 A13 A14 A15 A16 A17 A18 ρ:Type} (t W:A0->A1->A2->A3->A4->A5->A6->A7->A8->A9->A10->A11->A12->A13->A14->A15->A16->A17->A18->Option ρ):Prop:=∀ {a0 a1 a2 a3 a4 a5 a6 a7 a8 a9 a10 a11 a12 a13 a14 a15 a16 a17 a18 r},t a0 a1 a2 a3 a4 a5 a6 a7 a8 a9 a10 a11 a12 a13 a14 a15 a16 a17 a18=some r->W a0 a1 a2 a3 a4 a5 a6 a7 a8 a9 a10 a11 a12 a13 a14 a15 a16 a17 a18=some r
abbrev Tl {A0 A1 A2 A3 A4 A5 A6 A7 A8 A9 A10 A11 A12 A13 A14 A15 A16 A17 A18 A19 A20 A21 ρ:Type} (t W:A0->A1->A2->A3->A4->A5->A6->A7->A8->A9->A10->A11->A12->A13->A14->A15->A16->A17->A18->A19->A20->A21->Option ρ):Prop:=∀ {a0 a1 a2 a3 a4 a5 a6 a7 a8 a9 a10 a11 a12 a13 a14 a15 a16 a17 a18 a19 a20 a21 r},t a0 a1 a2 a3 a4 a5 a6 a7 a8 a9 a10 a11 a12 a13 a14 a15 a16 a17 a18 a19 a20 a21=some r->W a0 a1 a2 a3 a4 a5 a6 a7 a8 a9 a10 a11 a12 a13 a14 a15 a16 a17 a18 a19 a20 a21=some r
abbrev Tm {A0 A1 A2 A3 A4 A5 A6 A7 A8 A9 A10 A11 A12 A13 A14 A15 A16 A17 A18 A19 A20 A21 A22 ρ:Type} (t W:A0->A1->A2->A3->A4->A5->A6->A7->A8->A9->A10->A11->A12->A13->A14->A15->A16->A17->A18->A19->A20->A21->A22->Option ρ):Prop:=∀ {a0 a1 a2 a3 a4 a5 a6 a7 a8 a9 a10 a11 a12 a13 a14 a15 a16 a17 a18 a19 a20 a21 a22 r},t a0 a1 a2 a3 a4 a5 a6 a7 a8 a9 a10 a11 a12 a13 a14 a15 a16 a17 a18 a19 a20 a21 a22=some r->W a0 a1 a2 a3 a4 a5 a6 a7 a8 a9 a10 a11 a12 a13 a14 a15 a16 a17 a18 a19 a20 a21 a22=some r
abbrev Tn {A0 A1 A2 A3 A4 A5 A6 A7 A8 A9 A10 A11 A12 A13 A14 A15 A16 A17 A18 A19 A20 A21 A22 A23 A24 A25 A26 A27 A28 A29 A30 A31 A32 A33 A34 A35 ρ:Type} (t W:A0->A1->A2->A3->A4->A5->A6->A7->A8->A9->A10->A11->A12->A13->A14->A15->A16->A17->A18->A19->A20->A21->A22->A23->A24->A25->A26->A27->A28->A29->A30->A31->A32->A33->A34->A35->Option ρ):Prop:=∀ {a0 a1 a2 a3 a4 a5 a6 a7 a8 a9 a10 a11 a12 a13 a14 a15 a16 a17 a18 a19 a20 a21 a22 a23 a24 a25 a26 a27 a28 a29 a30 a31 a32 a33 a34 a35 r},t a0 a1 a2 a3 a4 a5 a6 a7 a8 a9 a10 a11 a12 a13 a14 a15 a16 a17 a18 a19 a20 a21 a22 a23 a24 a25 a26 a27 a28 a29 a30 a31 a32 a33 a34 a35=some r->W a0 a1 a2 a3 a4 a5 a6 a7 a8 a9 a10 a11 a12 a13 a14 a15 a16 a17 a18 a19 a20 a21 a22 a23 a24 a25 a26 a27 a28 a29 a30 a31 a32 a33 a34 a35=some r
instance (n:Nat):OfNat Ar n:=⟨.t n⟩
abbrev Ar.F:Ar:=.c (.bool false)
abbrev Ar.V:Ar:=.c (.bool true)
abbrev Ar.z:Ar:=.c .nil
abbrev AL.R (a:List Bi) (b:List Nat) (c:AL):AL:=.seq (.region a b) c
abbrev AL.r (a:List Bi) (b:List Nat):AL:=.region a b
abbrev AL.s (a b:AL):AL:=.seq a b
abbrev AL.q (c:Ar) (a b:AL):AL:=.cond c a b
abbrev AL.Q (c:Ar) (a:AL):AL:=.cond c a .skip
abbrev AL.k:AL:=.skip
abbrev AL.e:AL:=.ret
abbrev AL.D (n:Nat) (l:List (Nat×List Nat)) (t:DT) (v:List Nat):AL:=.draw (Tv n l) t v
abbrev AL.b (n:Nat) (l:List Nat) (c:AL):AL:=.block n l c
abbrev DT.O (i:Nat) (a:Bi) (e:Bool) (fl:List (Nat×Bi)) (r:DT):DT:=.only i none a e fl r
abbrev DT.z:DT:=.done

def C3:AL:=(.R [.mv 13 (.i 1)] [9,12,13] (.R [.ls 93 9 16,.m 94 13,.cl 95 [93,94] GA,.m 13 95] [12,13] (.s (.R [.m 96 13,.bin 97 .lss 96 (.i 0)] [12,13,97] (.cond 97 (.R [.mv 4 .F] [4] .e) .k)) (.s (.R [.m 98 13,.m 99 12,.b 100 .neq 98 99] [100] (.cond 100 (.R [.mv 4 .F] [4] .e) .k)) (.R [.mv 4 .V] [4] .e)))))
def C4:AL:=(.R [.mv 12 (.i 1)] [0,1,6,7,9,12] (.R [.ls 66 9 16,.m 67 12,.cl 68 [66,67] Jo,.m 12 68] [0,1,6,7,9,12] (.R [.mv 13 (.i 1)] [0,1,6,7,9,12,13] (.R [.ls 69 9 16,.m 70 13,.cl 71 [69,70] GA,.m 13 71] [0,1,6,7,9,12,13] (.s (.R [.m 72 13,.bin 73 .lss 72 (.i 0)] [0,1,6,7,9,12,13,73] (.cond 73 (.R [.mv 4 .F] [4] .e) .k)) (.s (.R [.m 74 13,.m 75 12,.b 76 .neq 74 75] [0,1,6,7,9,12,76] (.cond 76 (.R [.mv 4 .F] [4] .e) .k)) (.R [.m 78 0,.m 79 1,.cl 80 [79] Fb,.cl 81 [78,80] Gu,.m 77 81,.ext 82 77 0,.ext 83 77 1,.al 14 CZ,.store 14 82 16 false,.m 15 83] [6,7,9,12,14,15] (.s (.R [.ls 84 14 16,.ls 85 6 16,.cl 86 [84,85] Es,.un 87 .not 86,.m 88 87,.sc 88 false [.m 89 15,.m 90 7,.eqs 91 true .bool 89 90] 92 .V 91] [9,12,92] (.cond 92 (.R [.mv 4 .F] [4] .e) .k)) C3))))))))
def C5:AL:=(.s (.R [.m 45 8,.m 46 1,.cl 47 [46] Fb,.cl 48 [45,47] Mv,.un 49 .not 48] [0,1,6,7,8,9,10,49] (.cond 49 (.R [.mv 4 .F] [4] .e) .k)) (.R [.mv 11 (.i 1)] [0,1,6,7,8,9,10,11] (.R [.m 50 8,.m 51 11,.cl 52 [50,51] Kk,.m 11 52] [0,1,6,7,9,10,11] (.s (.R [.m 53 11,.bin 54 .lss 53 (.i 0),.m 55 54,.sc 55 false [.ls 56 9 16,.ls 57 6 16,.cl 58 [56,57] Es,.un 59 .not 58] 60 .V 59,.m 61 60,.sc 61 false [.m 62 10,.m 63 7,.eqs 64 true .bool 62 63] 65 .V 64] [0,1,6,7,9,65] (.cond 65 (.R [.mv 4 .F] [4] .e) .k)) C4))))
def AP:CQ:=⟨[.val .W,.val (.slice .S)],[⟨4,false,.bool⟩],(.R [.mv 4 .F] [0,1] (.R [.mv 5 (.i 1048576)] [0,1,5] (.R [.m 16 1,.m 17 5,.cl 18 [16,17] Mu,.m 5 18] [0,1,5] (.s (.R [.m 19 5,.bin 20 .lss 19 (.i 0)] [0,1,20] (.cond 20 (.R [.mv 4 .V] [4] .e) .k)) (.R [.m 22 0,.m 23 1,.cl 24 [23] Fb,.cl 25 [22,24] Kj,.m 21 25,.ext 26 21 0,.ext 27 21 1,.al 6 Ay,.store 6 26 16 false,.m 7 27] [0,1,6,7] (.R [.m 28 1,.cl 29 [28] Kn,.m 8 29] [0,1,6,7,8] (.R [.m 31 0,.m 32 8,.cl 33 [31,32] Gu,.m 30 33,.ext 34 30 0,.ext 35 30 1,.al 9 CZ,.store 9 34 16 false,.m 10 35] [0,1,6,7,8,9,10] (.s (.R [.ls 36 9 16,.ls 37 6 16,.cl 38 [36,37] Es,.un 39 .not 38,.m 40 39,.sc 40 false [.m 41 10,.m 42 7,.eqs 43 true .bool 41 42] 44 .V 43] [0,1,6,7,8,9,10,44] (.cond 44 (.R [.mv 4 .F] [4] .e) .k)) C5))))))))⟩
theorem Gv:Ck Try.prog 6 AP=true:=by kernel_rfl
def Gw:AL:=(.s (.R [.m 12 5,.m 13 0,.len 14 false 13,.b 15 .lss 12 14] [0,1,5,15] (.cond 15 .k (.exit 0))) (.s (.b 1 [0,1,5] (.R [.m 18 0,.m 19 5,.idx 20 1 18 19,.l 21 20,.m 22 1,.cl 23 [21,22] NR,.m 1 23] [0,1,5] (.R [.m 24 1,.bin 25 .lss 24 (.i 0)] [0,1,5,25] (.cond 25 (.R [.mv 4 (.c (.int .i64 (-1)))] [4] .e) .k)))) (.r [.m 16 5,.bin 17 .add 16 (.i 1),.m 5 17] [0,1,5])))
def Gx:AL:=(.R [.m 26 1,.m 4 26] [4] .e)
def BZ:CQ:=⟨[.val (.slice .S),.val .W],[⟨4,false,.W⟩],(.R [.mv 4 (.i 0)] [0,1] (.R [.m 6 1,.m 7 0,.len 8 false 7,.b 9 .sub 6 8,.m 1 9] [0,1] (.s (.R [.m 10 1,.bin 11 .lss 10 (.i 0)] [0,1,11] (.cond 11 (.R [.mv 4 (.c (.int .i64 (-1)))] [4] .e) .k)) (.s (.R [.mv 5 (.i 0)] [0,1,5] (.b 0 [1] (.loop [0,1,5] Gw))) Gx))))⟩
theorem M1:Ck Try.prog 28 BZ=true:=by kernel_rfl
def Fd:AL:=(.R [.m 16 0,.m 17 1,.idx 18 1 17 (.i 0),.l 19 18,.m 20 0,.cl 21 [19,20] Jp,.bu 22 Ay [(0,1,16),(1,1,.c (.int .i64 1)),(3,1,21)],.al 6 Ay,.store 6 22 16 false] [0,1,4,6] (.R [.m 23 1,.idx 24 1 23 (.i 0),.l 25 24,.idx 26 1 25 (.i 0),.l 27 26,.m 28 0,.b 29 .eql 27 28,.f 30 6 4,.store 30 29 1 false] [4,6] (.R [.f 31 6 4,.l 32 31,.f 33 6 5,.store 33 32 1 false] [4,6] (.R [.ls 34 6 16,.store 4 34 16 false,.mv 5 .V] [4,5] .e))))
def Bp:CQ:=⟨[.val .W,.val (.slice .S)],[⟨4,true,Ay⟩,⟨5,false,.bool⟩],(.R [.al 4 Ay,.mv 5 .F] [0,1,4] (.s (.R [.m 7 1,.cl 8 [7] Mx,.un 9 .not 8,.m 10 9,.sc 10 false [.m 11 0,.cx (some 12) [11,.c (.int .i64 1),.c (.int .i64 6)] FH,.un 13 .not 12] 14 .V 13] [0,1,4,14] (.cond 14 (.R [.bu 15 Ay [],.store 4 15 16 false,.mv 5 .F] [4,5] .e) .k)) Fd))⟩
theorem Ko:Ck Try.prog 29 Bp=true:=by kernel_rfl
def Gy:AL:=(.s (.R [.m 8 4,.m 9 0,.len 10 false 9,.b 11 .lss 8 10] [0,3,4,11] (.cond 11 .k (.exit 0))) (.s (.b 1 [0,3,4] (.r [.m 14 3,.m 15 4,.m 16 0,.m 17 4,.idx 18 1 16 17,.l 19 18,.cl 20 [19] In,.idx 21 1 14 15,.store 21 20 1 false] [0,3,4])) (.r [.m 12 4,.bin 13 .add 12 (.i 1),.m 4 13] [0,3,4])))
def Gz:AL:=(.R [.m 22 3,.m 2 22] [2] .e)
def Ba:CQ:=⟨[.val (.slice .S)],[⟨2,false,(.slice .S)⟩],(.R [.mv 2 .z] [0] (.R [.m 5 0,.len 6 false 5,.mk 7 44 .S 6,.m 3 7] [0,3] (.s (.R [.mv 4 (.i 0)] [0,3,4] (.b 0 [3] (.loop [0,3,4] Gy))) Gz)))⟩
theorem M2:Ck Try.prog 30 Ba=true:=by kernel_rfl
def Fe:AL:=(.R [.m 16 1,.idx 17 1 16 (.i 0),.l 18 17,.idx 19 1 18 (.i 0),.l 20 19,.m 21 0,.b 22 .eql 20 21,.m 6 22] [0,1,4,6] (.R [.m 23 0,.m 24 1,.idx 25 1 24 (.i 0),.l 26 25,.m 27 0,.cl 28 [26,27] Fy,.m 29 6,.m 30 6,.bnew 31 [.int .i64 0,.int .i64 0,.bool false,.bool false,.bool false,.bool false,.new 3 .W [],.new 49 Av [],.int .i64 0,.int .i64 0,.int .i64 0,.int .i64 0,.str AR,.str AR,.int .i64 0,.new 3 .W []] [(0,1,23),(1,1,.c (.int .i64 1)),(3,1,28),(4,1,29),(5,1,30)],.store 4 31 16 false,.mv 5 .V] [4,5] .e))
def Bq:CQ:=⟨[.val .W,.val (.slice .S)],[⟨4,true,CZ⟩,⟨5,false,.bool⟩],(.R [.al 4 CZ,.mv 5 .F] [0,1,4] (.s (.R [.m 7 0,.cl 8 [7] Im,.un 9 .not 8,.m 10 9,.sc 10 false [.m 11 1,.cl 12 [11] My,.un 13 .not 12] 14 .V 13] [0,1,4,14] (.cond 14 (.R [.bnew 15 [.int .i64 0,.int .i64 0,.bool false,.bool false,.bool false,.bool false,.new 3 .W [],.new 49 Av [],.int .i64 0,.int .i64 0,.int .i64 0,.int .i64 0,.str AR,.str AR,.int .i64 0,.new 3 .W []] [],.store 4 15 16 false,.mv 5 .F] [4,5] .e) .k)) Fe))⟩
theorem Kp:Ck Try.prog 31 Bq=true:=by kernel_rfl
def Dg:CQ:=⟨[.val Ay,.val Ay],[⟨4,false,.bool⟩],(.R [.box 2 0 false,.box 3 1 false,.mv 4 .F] [2,3] (.s (.R [.f 5 2 0,.l 6 5,.f 7 3 0,.l 8 7,.b 9 .neq 6 8] [2,3,9] (.cond 9 (.R [.mv 4 .F] [4] .e) .k)) (.s (.R [.f 10 2 1,.l 11 10,.f 12 3 1,.l 13 12,.b 14 .neq 11 13] [2,3,14] (.cond 14 (.R [.mv 4 .F] [4] .e) .k)) (.s (.R [.f 15 2 2,.l 16 15,.f 17 3 2,.l 18 17,.eqs 19 true .bool 16 18] [2,3,19] (.cond 19 (.R [.mv 4 .F] [4] .e) .k)) (.s (.R [.f 20 2 3,.l 21 20,.f 22 3 3,.l 23 22,.eqs 24 true .bool 21 23] [2,3,24] (.cond 24 (.R [.mv 4 .F] [4] .e) .k)) (.s (.R [.f 25 2 4,.l 26 25,.f 27 3 4,.l 28 27,.eqs 29 true .bool 26 28] [2,3,29] (.cond 29 (.R [.mv 4 .F] [4] .e) .k)) (.s (.R [.f 30 2 5,.l 31 30,.f 32 3 5,.l 33 32,.eqs 34 true .bool 31 33] [2,3,34] (.cond 34 (.R [.mv 4 .F] [4] .e) .k)) (.s (.R [.f 35 2 6,.l 36 35,.f 37 3 6,.l 38 37,.cl 39 [36,38] GZ,.un 40 .not 39] [2,3,40] (.cond 40 (.R [.mv 4 .F] [4] .e) .k)) (.s (.R [.f 41 2 7,.l 42 41,.f 43 3 7,.l 44 43,.cl 45 [42,44] Mw,.un 46 .not 45] [2,3,46] (.cond 46 (.R [.mv 4 .F] [4] .e) .k)) (.s (.R [.f 47 2 8,.l 48 47,.f 49 3 8,.l 50 49,.b 51 .neq 48 50] [2,3,51] (.cond 51 (.R [.mv 4 .F] [4] .e) .k)) (.s (.R [.f 52 2 9,.ls 53 52 7,.f 54 3 9,.ls 55 54 7,.cl 56 [53,55] NS,.un 57 .not 56] [57] (.cond 57 (.R [.mv 4 .F] [4] .e) .k)) (.R [.mv 4 .V] [4] .e))))))))))))⟩
theorem Ls:Ck Try.prog 32 Dg=true:=by kernel_rfl
def G0:AL:=(.s (.R [.m 11 5,.m 12 0,.len 13 false 12,.b 14 .lss 11 13] [0,1,5,14] (.cond 14 .k (.exit 0))) (.s (.b 1 [0,1,5] (.s (.D 10 [(1,[]),(2,[0,1]),(4,[]),(5,[]),(6,[4,5]),(8,[3,7])] (.tk 8 [.l 24 23,.idx 23 1 21 22,.m 22 5,.m 21 1,.l 20 19,.idx 19 1 17 18,.m 18 5,.m 17 0] (.O 8 (.cl 25 [20,24] GZ) false [] (.tk 10 [.un 26 .not 25] .z))) [0,1,5,26]) (.cond 26 (.R [.mv 4 .F] [4] .e) .k))) (.r [.m 15 5,.bin 16 .add 15 (.i 1),.m 5 16] [0,1,5])))
def G1:AL:=(.R [.mv 4 .V] [4] .e)
def Bb:CQ:=⟨[.val (.slice .S),.val (.slice .S)],[⟨4,false,.bool⟩],(.R [.mv 4 .F] [0,1] (.s (.R [.m 6 0,.len 7 false 6,.m 8 1,.len 9 false 8,.b 10 .neq 7 9] [0,1,10] (.cond 10 (.R [.mv 4 .F] [4] .e) .k)) (.s (.R [.mv 5 (.i 0)] [0,1,5] (.b 0 [] (.loop [0,1,5] G0))) G1)))⟩
theorem M3:Ck Try.prog 33 Bb=true:=by kernel_rfl
def Ff:AL:=(.s (.R [.m 6 5,.m 7 0,.len 8 false 7,.b 9 .lss 6 8] [0,1,5,9] (.cond 9 .k (.exit 0))) (.s (.b 1 [0,1,5] (.r [.m 12 0,.m 13 5,.idx 14 1 12 13,.l 15 14,.m 16 1,.icx 15 false (some 17) [15,16] Et,.m 1 17] [0,1,5])) (.r [.m 10 5,.bin 11 .add 10 (.i 1),.m 5 11] [0,1,5])))
def Fg:AL:=(.R [.m 18 1,.m 4 18] [4] .e)
def BB:CQ:=⟨[.mut (.own 44 (.own 3 .W)),.val .W],[⟨4,false,.W⟩],(.R [.mv 4 (.i 0)] [0,1] (.s (.R [.mv 5 (.i 0)] [0,1,5] (.b 0 [1] (.loop [0,1,5] Ff))) Fg))⟩
theorem Kq:Ck Try.prog 34 BB=true:=by kernel_rfl
def Cm:CQ:=⟨[.mut CZ,.val .W],[⟨4,false,.W⟩],(.R [.box 2 0 true,.mv 4 (.i 0)] [1,2] (.R [.f 5 2 6,.l 6 5,.m 7 1,.cl 8 [6,7] Et,.m 1 8] [1,2] (.R [.f 9 2 7,.l 10 9,.m 11 1,.cl 12 [10,11] Kl,.m 1 12] [1,2] (.R [.f 13 2 9,.ls 14 13 7,.m 15 1,.cl 16 [14,15] Lq,.m 1 16] [1] (.R [.m 17 1,.m 4 17] [4] .e)))))⟩
theorem Jq:Ck Try.prog 35 Cm=true:=by kernel_rfl
def Cn:CQ:=⟨[.val Ay,.val .W],[⟨4,false,.W⟩],(.R [.box 2 0 false,.mv 4 (.i 0)] [1,2] (.R [.f 5 2 6,.l 6 5,.m 7 1,.cl 8 [6,7] HW,.m 1 8] [1,2] (.s (.R [.m 9 1,.bin 10 .lss 9 (.i 0)] [1,2,10] (.cond 10 (.R [.mv 4 (.c (.int .i64 (-1)))] [4] .e) .k)) (.R [.f 11 2 7,.l 12 11,.m 13 1,.cl 14 [12,13] Km,.m 1 14] [1,2] (.s (.R [.m 15 1,.bin 16 .lss 15 (.i 0)] [1,2,16] (.cond 16 (.R [.mv 4 (.c (.int .i64 (-1)))] [4] .e) .k)) (.R [.f 17 2 9,.ls 18 17 7,.m 19 1,.cl 20 [18,19] Lr,.m 1 20] [1] (.s (.R [.m 21 1,.bin 22 .lss 21 (.i 0)] [1,22] (.cond 22 (.R [.mv 4 (.c (.int .i64 (-1)))] [4] .e) .k)) (.R [.m 23 1,.m 4 23] [4] .e))))))))⟩
theorem Jr:Ck Try.prog 36 Cn=true:=by kernel_rfl
def G2:AL:=(.s (.R [.m 11 5,.m 12 0,.len 13 false 12,.b 14 .lss 11 13] [0,1,5,14] (.cond 14 .k (.exit 0))) (.s (.b 1 [0,1,5] (.s (.D 10 [(1,[]),(2,[0,1]),(4,[]),(5,[]),(6,[4,5]),(8,[3,7])] (.tk 8 [.ls 24 23 3,.idx 23 3 21 22,.m 22 5,.m 21 1,.ls 20 19 3,.idx 19 3 17 18,.m 18 5,.m 17 0] (.O 8 (.cl 25 [20,24] Io) false [] (.tk 10 [.un 26 .not 25] .z))) [0,1,5,26]) (.cond 26 (.R [.mv 4 .F] [4] .e) .k))) (.r [.m 15 5,.bin 16 .add 15 (.i 1),.m 5 16] [0,1,5])))
def G3:AL:=(.R [.mv 4 .V] [4] .e)
def Bc:CQ:=⟨[.val (.slice Av),.val (.slice Av)],[⟨4,false,.bool⟩],(.R [.mv 4 .F] [0,1] (.s (.R [.m 6 0,.len 7 false 6,.m 8 1,.len 9 false 8,.b 10 .neq 7 9] [0,1,10] (.cond 10 (.R [.mv 4 .F] [4] .e) .k)) (.s (.R [.mv 5 (.i 0)] [0,1,5] (.b 0 [] (.loop [0,1,5] G2))) G3)))⟩
theorem M4:Ck Try.prog 67 Bc=true:=by kernel_rfl
def Fh:AL:=(.s (.R [.m 6 5,.m 7 0,.len 8 false 7,.b 9 .lss 6 8] [0,1,5,9] (.cond 9 .k (.exit 0))) (.s (.b 1 [0,1,5] (.R [.m 12 0,.m 13 5,.m 14 1,.cl 15 [14] Df,.idx 16 3 12 13,.f 17 16 0,.store 17 15 1 false] [0,1,5] (.R [.m 18 1,.bin 19 .add 18 (.i 1),.m 1 19] [0,1,5] (.R [.m 20 0,.m 21 5,.m 22 1,.cl 23 [22] Df,.idx 24 3 20 21,.f 25 24 1,.store 25 23 1 false] [0,1,5] (.R [.m 26 1,.bin 27 .add 26 (.i 1),.m 1 27] [0,1,5] (.R [.m 28 0,.m 29 5,.m 30 1,.idx 31 3 28 29,.f 32 31 2,.store 32 30 1 false] [0,1,5] (.r [.m 33 1,.bin 34 .add 33 (.i 1),.m 1 34] [0,1,5]))))))) (.r [.m 10 5,.bin 11 .add 10 (.i 1),.m 5 11] [0,1,5])))
def E0:AL:=(.R [.m 35 1,.m 4 35] [4] .e)
def BC:CQ:=⟨[.mut (.own 49 Av),.val .W],[⟨4,false,.W⟩],(.R [.mv 4 (.i 0)] [0,1] (.s (.R [.mv 5 (.i 0)] [0,1,5] (.b 0 [1] (.loop [0,1,5] Fh))) E0))⟩
theorem Kr:Ck Try.prog 76 BC=true:=by kernel_rfl
def E1:AL:=(.s (.R [.m 6 5,.m 7 0,.len 8 false 7,.b 9 .lss 6 8] [0,1,5,9] (.cond 9 .k (.exit 0))) (.s (.b 1 [0,1,5] (.s (.s (.D 8 [(1,[]),(2,[0,1]),(5,[]),(7,[4,6])] (.tk 6 [.m 17 1,.l 16 15,.f 15 14 0,.idx 14 3 12 13,.m 13 5,.m 12 0] (.O 6 (.cl 18 [17] Df) false [] (.tk 8 [.b 19 .neq 16 18] .z))) [0,1,5,19]) (.cond 19 (.R [.mv 4 (.c (.int .i64 (-1)))] [4] .e) .k)) (.R [.m 20 1,.bin 21 .add 20 (.i 1),.m 1 21] [0,1,5] (.s (.s (.D 8 [(1,[]),(2,[0,1]),(5,[]),(7,[4,6])] (.tk 6 [.m 27 1,.l 26 25,.f 25 24 1,.idx 24 3 22 23,.m 23 5,.m 22 0] (.O 6 (.cl 28 [27] Df) false [] (.tk 8 [.b 29 .neq 26 28] .z))) [0,1,5,29]) (.cond 29 (.R [.mv 4 (.c (.int .i64 (-1)))] [4] .e) .k)) (.R [.m 30 1,.bin 31 .add 30 (.i 1),.m 1 31] [0,1,5] (.s (.R [.m 32 0,.m 33 5,.idx 34 3 32 33,.f 35 34 2,.l 36 35,.m 37 1,.b 38 .neq 36 37] [0,1,5,38] (.cond 38 (.R [.mv 4 (.c (.int .i64 (-1)))] [4] .e) .k)) (.r [.m 39 1,.bin 40 .add 39 (.i 1),.m 1 40] [0,1,5]))))))) (.r [.m 10 5,.bin 11 .add 10 (.i 1),.m 5 11] [0,1,5])))
def E2:AL:=(.R [.m 41 1,.m 4 41] [4] .e)
def BD:CQ:=⟨[.val (.slice Av),.val .W],[⟨4,false,.W⟩],(.R [.mv 4 (.i 0)] [0,1] (.s (.R [.mv 5 (.i 0)] [0,1,5] (.b 0 [1] (.loop [0,1,5] E1))) E2))⟩
theorem Kt:Ck Try.prog 77 BD=true:=by kernel_rfl
def FI:CQ:=⟨[.val .W,.val .W,.val .W],[⟨6,false,.bool⟩],(.R [.mv 6 .F] [0,1,2] (.R [.m 7 0,.m 8 1,.b 9 .geq 7 8,.m 10 9,.sc 10 true [.m 11 0,.m 12 2,.b 13 .leq 11 12] 14 13 .F,.m 6 14] [6] .e))⟩
theorem OS:Ck Try.prog 80 FI=true:=by kernel_rfl
def D5:CQ:=⟨[.val .W,.val .W,.val .W],[⟨6,false,.bool⟩],(.R [.mv 6 .F] [0,1,2] (.R [.m 7 0,.m 8 1,.b 9 .geq 7 8,.m 10 9,.sc 10 true [.m 11 0,.m 12 2,.b 13 .leq 11 12] 14 13 .F,.m 6 14] [6] .e))⟩
theorem M5:Ck Try.prog 82 D5=true:=by kernel_rfl
def EY:CQ:=⟨[.val .W],[⟨2,false,.bool⟩],(.R [.mv 2 .F] [0] (.R [.m 3 0,.cx (some 4) [3,.c (.int .i64 1),.c (.int .i64 6)] Fc,.m 2 4] [2] .e))⟩
theorem NT:Ck Try.prog 83 EY=true:=by kernel_rfl
def EZ:CQ:=⟨[.val .S,.val .W],[⟨4,false,.W⟩],(.R [.mv 4 (.i 0)] [0,1] (.R [.m 5 1,.m 6 0,.len 7 false 6,.b 8 .sub 5 7,.m 1 8] [1] (.s (.R [.m 9 1,.bin 10 .lss 9 (.i 0)] [1,10] (.cond 10 (.R [.mv 4 (.c (.int .i64 (-1)))] [4] .e) .k)) (.R [.m 11 1,.m 4 11] [4] .e))))⟩
theorem NU:Ck Try.prog 88 EZ=true:=by kernel_rfl
def G4:AL:=(.s (.R [.m 4 3,.m 5 0,.len 6 false 5,.b 7 .lss 4 6] [0,3,7] (.cond 7 .k (.exit 0))) (.s (.b 1 [0,3] (.R [.m 10 0,.m 11 3,.idx 12 1 10 11,.l 13 12,.cl 14 [13] Mz,.un 15 .not 14] [0,3,15] (.cond 15 (.R [.mv 2 .F] [2] .e) .k))) (.r [.m 8 3,.bin 9 .add 8 (.i 1),.m 3 9] [0,3])))
def G5:AL:=(.R [.m 16 0,.len 17 false 16,.cx (some 18) [17,.c (.int .i64 1),.c (.int .i64 9)] FH,.m 2 18] [2] .e)
def Bd:CQ:=⟨[.val (.slice .S)],[⟨2,false,.bool⟩],(.R [.mv 2 .F] [0] (.s (.R [.mv 3 (.i 0)] [0,3] (.b 0 [0] (.loop [0,3] G4))) G5))⟩
theorem M6:Ck Try.prog 89 Bd=true:=by kernel_rfl
def Hx:AL:=(.s (.R [.m 6 5,.m 7 0,.len 8 false 7,.b 9 .lss 6 8] [0,1,5,9] (.cond 9 .k (.exit 0))) (.s (.b 1 [0,1,5] (.R [.m 12 0,.m 13 5,.idx 14 1 12 13,.l 15 14,.m 16 1,.b 17 .eql 15 16] [0,1,5,17] (.cond 17 (.R [.mv 4 .V] [4] .e) .k))) (.r [.m 10 5,.bin 11 .add 10 (.i 1),.m 5 11] [0,1,5])))
def Hy:AL:=(.R [.mv 4 .F] [4] .e)
def CA:CQ:=⟨[.val .S,.val .W],[⟨4,false,.bool⟩],(.R [.mv 4 .F] [0,1] (.s (.R [.mv 5 (.i 0)] [0,1,5] (.b 0 [] (.loop [0,1,5] Hx))) Hy))⟩
theorem OT:Ck Try.prog 90 CA=true:=by kernel_rfl
def HX:AL:=(.s (.R [.m 8 4,.m 9 0,.len 10 false 9,.b 11 .lss 8 10] [0,3,4,11] (.cond 11 .k (.exit 0))) (.s (.b 1 [0,3,4] (.r [.m 14 3,.m 15 4,.m 16 0,.m 17 4,.idx 18 1 16 17,.l 19 18,.idx 20 1 14 15,.store 20 19 1 false] [0,3,4])) (.r [.m 12 4,.bin 13 .add 12 (.i 1),.m 4 13] [0,3,4])))
def HY:AL:=(.R [.m 21 3,.m 2 21] [2] .e)
def Bl:CQ:=⟨[.val .S],[⟨2,false,(.own 3 .W)⟩],(.R [.mv 2 .z] [0] (.R [.m 5 0,.len 6 false 5,.mk 7 3 .W 6,.m 3 7] [0,3] (.s (.R [.mv 4 (.i 0)] [0,3,4] (.b 0 [3] (.loop [0,3,4] HX))) HY)))⟩
theorem NV:Ck Try.prog 91 Bl=true:=by kernel_rfl
def G6:AL:=(.R [.b 16 .lss 15 14] [0,4,7,8,9,13,14,15,16] (.s (.cond 16 .k (.exit 2)) (.s (.b 3 [0,4,7,8,9,13,14,15] (.R [.m 17 15,.idx 18 1 13 15,.l 19 18,.m 5 17,.m 6 19] [0,4,5,6,7,8,9,13,14,15] (.R [.m 20 6,.cl 21 [20] Im,.un 22 .not 21,.m 23 22,.sc 23 false [.m 24 4,.m 25 6,.cl 26 [24,25] D4,.m 27 5,.b 28 .neq 26 27] 29 .V 28] [0,4,7,8,9,13,14,15,29] (.cond 29 (.R [.mv 2 .F] [2] .e) .k)))) (.r [.bin 30 .add 15 (.i 1),.m 15 30] [0,4,7,8,9,13,14,15]))))
def EL:AL:=(.R [.m 31 4,.len 32 false 31,.cx (some 33) [32,.c (.int .i64 1),.c (.int .i64 4)] Fc,.un 34 .not 33] [0,7,8,9,34] (.cond 34 (.R [.mv 2 .F] [2] .e) .k))
def GB:AL:=(.r [.bin 35 .add 9 (.i 1),.m 9 35] [0,7,8,9])
def GC:AL:=(.R [.b 10 .lss 9 8] [0,7,8,9,10] (.s (.cond 10 .k (.exit 0)) (.s (.b 1 [0,7,8,9] (.R [.idx 11 1 7 9,.l 12 11,.m 4 12] [0,4,7,8,9] (.s (.R [.m 13 4,.len 14 false 13,.mv 15 (.i 0)] [0,4,7,8,9,13,14,15] (.b 2 [0,4,7,8,9] (.loop [0,4,7,8,9,13,14,15] G6))) EL))) GB)))
def GD:AL:=(.R [.m 36 0,.len 37 false 36,.cx (some 38) [37,.c (.int .i64 1),.c (.int .i64 9)] Fc,.m 2 38] [2] .e)
def Am:CQ:=⟨[.val (.slice .S)],[⟨2,false,.bool⟩],(.R [.mv 2 .F] [0] (.s (.R [.m 7 0,.len 8 false 7,.mv 9 (.i 0)] [0,7,8,9] (.b 0 [0] (.loop [0,7,8,9] GC))) GD))⟩
theorem M7:Ck Try.prog 92 Am=true:=by kernel_rfl
def BP:CQ:=⟨[.val .S,.val .W],[⟨4,false,.bool⟩],(.R [.mv 4 .F] [0,1] (.R [.m 5 0,.m 6 1,.cl 7 [5,6] D4,.bin 8 .geq 7 (.i 0),.m 4 8] [4] .e))⟩
theorem Fz:Ck Try.prog 93 BP=true:=by kernel_rfl
def HZ:AL:=(.s (.R [.m 11 5,.m 12 0,.len 13 false 12,.b 14 .lss 11 13] [0,1,5,14] (.cond 14 .k (.exit 0))) (.s (.b 1 [0,1,5] (.s (.D 9 [(1,[]),(2,[0,1]),(4,[]),(5,[]),(6,[4,5]),(8,[3,7])] (.tk 9 [.b 25 .neq 20 24,.l 24 23,.idx 23 1 21 22,.m 22 5,.m 21 1,.l 20 19,.idx 19 1 17 18,.m 18 5,.m 17 0] .z) [0,1,5,25]) (.cond 25 (.R [.mv 4 .F] [4] .e) .k))) (.r [.m 15 5,.bin 16 .add 15 (.i 1),.m 5 16] [0,1,5])))
def Ha:AL:=(.R [.mv 4 .V] [4] .e)
def Bm:CQ:=⟨[.val .S,.val .S],[⟨4,false,.bool⟩],(.R [.mv 4 .F] [0,1] (.s (.R [.m 6 0,.len 7 false 6,.m 8 1,.len 9 false 8,.b 10 .neq 7 9] [0,1,10] (.cond 10 (.R [.mv 4 .F] [4] .e) .k)) (.s (.R [.mv 5 (.i 0)] [0,1,5] (.b 0 [] (.loop [0,1,5] HZ))) Ha)))⟩
theorem NW:Ck Try.prog 94 Bm=true:=by kernel_rfl
def Ea:CQ:=⟨[.val Fa,.val Fa],[⟨4,false,.bool⟩],(.R [.box 2 0 false,.box 3 1 false,.mv 4 .F] [2,3] (.s (.R [.f 5 2 0,.l 6 5,.f 7 3 0,.l 8 7,.b 9 .neq 6 8] [2,3,9] (.cond 9 (.R [.mv 4 .F] [4] .e) .k)) (.s (.R [.f 10 2 1,.l 11 10,.f 12 3 1,.l 13 12,.b 14 .neq 11 13] [2,3,14] (.cond 14 (.R [.mv 4 .F] [4] .e) .k)) (.s (.R [.f 15 2 2,.l 16 15,.f 17 3 2,.l 18 17,.b 19 .neq 16 18] [2,3,19] (.cond 19 (.R [.mv 4 .F] [4] .e) .k)) (.s (.R [.f 20 2 3,.ls 21 20 3,.f 22 3 3,.ls 23 22 3,.cl 24 [21,23] Io,.un 25 .not 24] [2,3,25] (.cond 25 (.R [.mv 4 .F] [4] .e) .k)) (.s (.R [.f 26 2 6,.l 27 26,.f 28 3 6,.l 29 28,.cl 30 [27,29] GZ,.un 31 .not 30] [31] (.cond 31 (.R [.mv 4 .F] [4] .e) .k)) (.R [.mv 4 .V] [4] .e)))))))⟩
theorem NX:Ck Try.prog 95 Ea=true:=by kernel_rfl
def GE:AL:=(.s (.R [.m 6 5,.m 7 0,.len 8 false 7,.b 9 .lss 6 8] [0,1,5,9] (.cond 9 .k (.exit 0))) (.s (.b 1 [0,1,5] (.R [.m 12 0,.m 13 5,.m 14 1,.idx 15 1 12 13,.store 15 14 1 false] [0,1,5] (.r [.m 16 1,.bin 17 .add 16 (.i 1),.m 1 17] [0,1,5]))) (.r [.m 10 5,.bin 11 .add 10 (.i 1),.m 5 11] [0,1,5])))
def GF:AL:=(.R [.m 18 1,.m 4 18] [4] .e)
def BK:CQ:=⟨[.mut (.own 3 .W),.val .W],[⟨4,false,.W⟩],(.R [.mv 4 (.i 0)] [0,1] (.s (.R [.mv 5 (.i 0)] [0,1,5] (.b 0 [1] (.loop [0,1,5] GE))) GF))⟩
theorem Lt:Ck Try.prog 96 BK=true:=by kernel_rfl
def Dh:CQ:=⟨[.mut I5,.val .W],[⟨4,false,.W⟩],(.R [.box 2 0 true,.mv 4 (.i 0)] [1,2] (.R [.f 5 2 6,.l 6 5,.m 7 1,.cl 8 [6,7] Et,.m 1 8] [1] (.R [.m 9 1,.m 4 9] [4] .e)))⟩
theorem Lu:Ck Try.prog 97 Dh=true:=by kernel_rfl
def GG:AL:=(.s (.R [.m 6 5,.m 7 0,.len 8 false 7,.b 9 .lss 6 8] [0,1,5,9] (.cond 9 .k (.exit 0))) (.s (.b 1 [0,1,5] (.s (.R [.m 12 0,.m 13 5,.idx 14 1 12 13,.l 15 14,.m 16 1,.b 17 .neq 15 16] [0,1,5,17] (.cond 17 (.R [.mv 4 (.c (.int .i64 (-1)))] [4] .e) .k)) (.r [.m 18 1,.bin 19 .add 18 (.i 1),.m 1 19] [0,1,5]))) (.r [.m 10 5,.bin 11 .add 10 (.i 1),.m 5 11] [0,1,5])))
def GH:AL:=(.R [.m 20 1,.m 4 20] [4] .e)
def BL:CQ:=⟨[.val .S,.val .W],[⟨4,false,.W⟩],(.R [.mv 4 (.i 0)] [0,1] (.s (.R [.mv 5 (.i 0)] [0,1,5] (.b 0 [1] (.loop [0,1,5] GG))) GH))⟩
theorem Lv:Ck Try.prog 98 BL=true:=by kernel_rfl
def Di:CQ:=⟨[.val Fa,.val .W],[⟨4,false,.W⟩],(.R [.box 2 0 false,.mv 4 (.i 0)] [1,2] (.R [.f 5 2 6,.l 6 5,.m 7 1,.cl 8 [6,7] HW,.m 1 8] [1] (.s (.R [.m 9 1,.bin 10 .lss 9 (.i 0)] [1,10] (.cond 10 (.R [.mv 4 (.c (.int .i64 (-1)))] [4] .e) .k)) (.R [.m 11 1,.m 4 11] [4] .e))))⟩
theorem Lw:Ck Try.prog 99 Di=true:=by kernel_rfl
def Eb:CQ:=⟨[.val Av,.val Av],[⟨4,false,.bool⟩],(.R [.box 2 0 false,.box 3 1 false,.mv 4 .F] [2,3] (.s (.R [.f 5 2 0,.l 6 5,.f 7 3 0,.l 8 7,.b 9 .neq 6 8] [2,3,9] (.cond 9 (.R [.mv 4 .F] [4] .e) .k)) (.s (.R [.f 10 2 1,.l 11 10,.f 12 3 1,.l 13 12,.b 14 .neq 11 13] [2,3,14] (.cond 14 (.R [.mv 4 .F] [4] .e) .k)) (.s (.R [.f 15 2 2,.l 16 15,.f 17 3 2,.l 18 17,.b 19 .neq 16 18] [19] (.cond 19 (.R [.mv 4 .F] [4] .e) .k)) (.R [.mv 4 .V] [4] .e)))))⟩
theorem NY:Ck Try.prog 137 Eb=true:=by kernel_rfl
def Js:AL:=(.s (.R [.m 6 0,.bin 7 .gtr 6 (.i 0)] [0,3,7] (.cond 7 .k (.exit 0))) (.b 1 [0,3] (.R [.m 8 0,.bin 9 .rem 8 (.i 10),.bin 10 .add (.i 48) 9,.cvi 11 .u8 10,.brow 12 5 (.int .u8) [11],.bts 13 12,.m 14 3,.b 15 .add 13 14,.m 3 15] [0,3] (.r [.m 16 0,.bin 17 .quo 16 (.i 10),.m 0 17] [0,3]))))
def Jt:AL:=(.R [.m 18 3,.bin 19 .add (.c (.str ⟨#[109]⟩)) 18,.m 2 19] [2] .e)
def Eu:CQ:=⟨[.val .W],[⟨2,false,.str⟩],(.R [.mv 2 (.c (.str ⟨#[]⟩))] [0] (.s (.R [.m 4 0,.bin 5 .leq 4 (.i 0)] [0,5] (.cond 5 (.R [.mv 2 (.c (.str ⟨#[109,48]⟩))] [2] .e) .k)) (.R [.mv 3 (.c (.str ⟨#[]⟩))] [0,3] (.s (.b 0 [3] (.loop [0,3] Js)) Jt))))⟩
theorem Lx:Ck Try.prog 141 Eu=true:=by kernel_rfl
def G7:AL:=(.s (.R [.m 8 3,.m 9 0,.len 10 false 9,.b 11 .lss 8 10] [0,3,11] (.cond 11 .k (.exit 0))) (.s (.b 1 [0,3] (.s (.D 16 [(1,[]),(2,[0,1]),(8,[6]),(9,[7,8]),(10,[6]),(11,[6]),(12,[10,11]),(14,[9,13])] (.tk 4 [.l 17 16,.idx 16 1 14 15,.m 15 3,.m 14 0] (.O 4 (.cx (some 18) [17,.c (.int .i64 1),.c (.int .i64 6)] FH) false [] (.tk 7 [.m 20 19,.un 19 .not 18] (.test 20 (.sk 20 false 8 15 29 (.tk 16 [.pick 29 20 .V 28] .z)) (.tg 20 false 14 [.l 27 26,.idx 26 1 24 25,.m 25 3,.m 24 0,.sl 23 1 21 none (some 22),.m 22 3,.m 21 0] (.only 14 (some (20,false)) (.cl 28 [23,27] Jp) false [] (.tk 16 [.pick 29 20 .V 28] .z))))))) [0,3,29]) (.cond 29 (.R [.mv 2 .F] [2] .e) .k))) (.r [.m 12 3,.bin 13 .add 12 (.i 1),.m 3 13] [0,3])))
def G8:AL:=(.R [.mv 2 .V] [2] .e)
def Be:CQ:=⟨[.val .S],[⟨2,false,.bool⟩],(.R [.mv 2 .F] [0] (.s (.R [.m 4 0,.len 5 false 4,.cx (some 6) [5,.c (.int .i64 1),.c (.int .i64 4)] FH,.un 7 .not 6] [0,7] (.cond 7 (.R [.mv 2 .F] [2] .e) .k)) (.s (.R [.mv 3 (.i 0)] [0,3] (.b 0 [] (.loop [0,3] G7))) G8)))⟩
theorem M8:Ck Try.prog 147 Be=true:=by kernel_rfl
def Da:AL:=(.R [.b 9 .lss 8 7] [0,1,7,8,9] (.s (.cond 9 .k (.exit 0)) (.s (.b 1 [0,1,7,8] (.R [.m 10 8,.m 5 10] [0,1,5,7,8] (.R [.m 11 1,.m 12 0,.m 13 5,.idx 14 1 12 13,.l 15 14,.b 16 .eql 11 15] [0,1,5,7,8,16] (.cond 16 (.R [.m 17 5,.m 4 17] [4] .e) .k)))) (.r [.bin 18 .add 8 (.i 1),.m 8 18] [0,1,7,8]))))
def Db:AL:=(.R [.mv 4 (.c (.int .i64 (-1)))] [4] .e)
def Ah:CQ:=⟨[.val .S,.val .W],[⟨4,false,.W⟩],(.R [.mv 4 (.i 0)] [0,1] (.s (.R [.m 6 0,.len 7 false 6,.mv 8 (.i 0)] [0,1,7,8] (.b 0 [] (.loop [0,1,7,8] Da))) Db))⟩
theorem HR:Ck Try.prog 148 Ah=true:=by kernel_rfl
def Fi:AL:=(.s (.R [.m 8 4,.m 9 0,.len 10 false 9,.b 11 .lss 8 10] [0,3,4,11] (.cond 11 .k (.exit 0))) (.s (.b 1 [0,3,4] (.r [.m 14 3,.m 15 4,.m 16 0,.m 17 4,.idx 18 1 16 17,.l 19 18,.cl 20 [19] In,.idx 21 1 14 15,.store 21 20 1 false] [0,3,4])) (.r [.m 12 4,.bin 13 .add 12 (.i 1),.m 4 13] [0,3,4])))
def Fj:AL:=(.R [.m 22 3,.m 2 22] [2] .e)
def BE:CQ:=⟨[.val (.slice .S)],[⟨2,false,(.own 44 (.own 3 .W))⟩],(.R [.mv 2 .z] [0] (.R [.m 5 0,.len 6 false 5,.mk 7 44 (.own 3 .W) 6,.m 3 7] [0,3] (.s (.R [.mv 4 (.i 0)] [0,3,4] (.b 0 [3] (.loop [0,3,4] Fi))) Fj)))⟩
theorem Ku:Ck Try.prog 2000030 BE=true:=by kernel_rfl

def TU:List (Nat×CQ):=[(6,AP),(28,BZ),(29,Bp),(30,Ba),(31,Bq),(32,Dg),(33,Bb),(34,BB),(35,Cm),(36,Cn),(67,Bc),(76,BC),(77,BD),(80,FI),(82,D5),(83,EY),(88,EZ),(89,Bd),(90,CA),(91,Bl),(92,Am),(93,BP),(94,Bm),(95,Ea),(96,BK),(97,Dh),(98,BL),(99,Di),(137,Eb),(141,Eu),(147,Be),(148,Ah),(2000030,BE)]
def JL (f:Nat):Option CQ:=SV f TU
theorem To:RV Try.prog JL:=Ql (.cons Gv <| .cons M1 <| .cons Ko <| .cons M2 <| .cons Kp <| .cons Ls <| .cons M3 <| .cons Kq <| .cons Jq <| .cons Jr <| .cons M4 <| .cons Kr <| .cons Kt <| .cons OS <| .cons M5 <| .cons NT <| .cons NU <| .cons M6 <| .cons OT <| .cons NV <| .cons M7 <| .cons Fz <| .cons NW <| .cons NX <| .cons Lt <| .cons Lu <| .cons Lv <| .cons Lw <| .cons NY <| .cons Lx <| .cons M8 <| .cons HR <| .cons Ku .nil)
def CS:Bx:=fun f args bs=>none
theorem SW:CY Try.prog CS:=by
 refine ⟨fun f k t T hf h=>?_,fun f args bs rs hf h=>?_⟩<;>unfold CS at h
 ·cases h
 ·cases h
abbrev cP:Bx:=O9 JL CS
def cG {ρ:Type} (c:AL) (kn kr:St->Option ρ) (ke:Nat->St->Option ρ):St->Option ρ:=CN cP Du c kn kr ke
def lG {ρ:Type} (c:AL) (hs:List (Nat×Nat)) (l:List Nat) (n:Nat) (kr:St->Option ρ) (ke:Nat->St->Option ρ):St->Option ρ:=Du fun go s'=>CN cP Du c (fun s''=>go (s''.cutH hs l n)) kr ke s'
def kB {ρ:Type} (hs:List (Nat×Nat)) (l:List Nat) (n:Nat) (kn:St->Option ρ):St->Option ρ:=fun s=>kn (s.cutH hs l n)
def kE {ρ:Type} (b:Nat) (hs:List (Nat×Nat)) (l:List Nat) (n:Nat) (kn:St->Option ρ) (ke:Nat->St->Option ρ):Nat->St->Option ρ:=fun i s=>if i=b then kn (s.cutH hs l n) else ke i s
def kx {ρ:Type}:Nat->St->Option ρ:=fun _ _=>none
def cF (f:Nat) (a:CQ) (x b:List AV):Option (RT a.outs):=(cP f x b).bind (B3 a.outs)
theorem cT (a:CQ) {f:Nat} {x b:List AV} {t:Option (RT a.outs)} {r:RT a.outs} (hf:JL f=some a) (hl:x.length=a.params.length/\b.length=(BX a.params 0).length) (e:Rb cP a x b=t) (h:t=some r):cF f a x b=some r:=Pc hf hl (e.trans h)
theorem jS {ρ:Type} {t w:Option ρ} {r:ρ} (e:w=t) (h:t=some r):w=some r:=e.trans h
theorem lS {ρ:Type} {c:AL} {hs:List (Nat×Nat)} {l:List Nat} {n:Nat} {kr:St->Option ρ} {ke:Nat->St->Option ρ} {s:St} {t:Option ρ} {r:ρ} (e:CN cP Du c (fun s=>lG c hs l n kr ke (s.cutH hs l n)) kr ke s=t) (h:t=some r):lG c hs l n kr ke s=some r:=Qj (e.trans h)
def Dv (x0:Int) (x1:List (List Int)):Option Bool:=cF 6 AP [.int .i64 x0,.lst .S x1] []
def Fk (x0:List (List Int)) (x1:Int):Option Int:=cF 28 BZ [.lst .S x0,.int .i64 x1] []
def DL (x0:Int) (x1:List (List Int)):Option (BA×Bool):=cF 29 Bp [.int .i64 x0,.lst .S x1] []
def C6 (x0:List (List Int)):Option (List (List Int)):=cF 30 Ba [.lst .S x0] []
def CO (x0:Int) (x1:List (List Int)):Option (BA×Bool):=cF 31 Bq [.int .i64 x0,.lst .S x1] []
def Cd (x0 x1:BA):Option Bool:=cF 32 Dg [.agg (Ay.enc x0),.agg (Ay.enc x1)] []
def Fl (x0 x1:List (List Int)):Option Bool:=cF 33 Bb [.lst .S x0,.lst .S x1] []
def EM (x1:Int) (b0:List (List Int)):Option (Int×List (List Int)):=cF 34 BB [.row 0,.int .i64 x1] [.new 44 (.own 3 .W) b0]
def D6 (x0_0 x0_1:Int) (x0_2 x0_3 x0_4 x0_5:Bool) (x0_8 x0_9 x0_10 x0_11:Int) (x0_12 x0_13:ByteArray) (x0_14 x1:Int) (b0:List Int) (b1:List Aa) (b2:List Int):Option (Int×List Int×List Aa×List Int):=cF 35 Cm [.agg [.int .i64 x0_0,.int .i64 x0_1,.bool x0_2,.bool x0_3,.bool x0_4,.bool x0_5,.row 0,.row 1,.int .i64 x0_8,.int .i64 x0_9,.int .i64 x0_10,.int .i64 x0_11,.str x0_12,.str x0_13,.int .i64 x0_14,.row 2],.int .i64 x1] [.new 3 .W b0,.new 49 Av b1,.new 3 .W b2]
def Co (x0:BA) (x1:Int):Option Int:=cF 36 Cn [.agg (Ay.enc x0),.int .i64 x1] []
def Fm (x0 x1:List Aa):Option Bool:=cF 67 Bc [.lst Av x0,.lst Av x1] []
def EN (x1:Int) (b0:List Aa):Option (Int×List Aa):=cF 76 BC [.row 0,.int .i64 x1] [.new 49 Av b0]
def EO (x0:List Aa) (x1:Int):Option Int:=cF 77 BD [.lst Av x0,.int .i64 x1] []
def DM (x0 x1 x2:Int):Option Bool:=cF 80 FI [.int .i64 x0,.int .i64 x1,.int .i64 x2] []
def C7 (x0 x1 x2:Int):Option Bool:=cF 82 D5 [.int .i64 x0,.int .i64 x1,.int .i64 x2] []
def Ec (x0:Int):Option Bool:=cF 83 EY [.int .i64 x0] []
def Ga (x0:List Int) (x1:Int):Option Int:=cF 88 EZ [.lst .W x0,.int .i64 x1] []
def D7 (x0:List (List Int)):Option Bool:=cF 89 Bd [.lst .S x0] []
def FJ (x0:List Int) (x1:Int):Option Bool:=cF 90 CA [.lst .W x0,.int .i64 x1] []
def Ed (x0:List Int):Option (List Int):=cF 91 Bl [.lst .W x0] []
def Fn (x0:List (List Int)):Option Bool:=cF 92 Am [.lst .S x0] []
def B6 (x0:List Int) (x1:Int):Option Bool:=cF 93 BP [.lst .W x0,.int .i64 x1] []
def Dc (x0 x1:List Int):Option Bool:=cF 94 Bm [.lst .W x0,.lst .W x1] []
def Gb (x0 x1:OR):Option Bool:=cF 95 Ea [.agg (Fa.enc x0),.agg (Fa.enc x1)] []
def B7 (x1:Int) (b0:List Int):Option (Int×List Int):=cF 96 BK [.row 0,.int .i64 x1] [.new 3 .W b0]
def Ew (x0_0 x0_1 x0_2:Int) (x0_3 x0_4:ByteArray) (x0_5 x1:Int) (b0:List Int):Option (Int×List Int):=cF 97 Dh [.agg [.int .i64 x0_0,.int .i64 x0_1,.int .i64 x0_2,.str x0_3,.str x0_4,.int .i64 x0_5,.row 0],.int .i64 x1] [.new 3 .W b0]
def Dj (x0:List Int) (x1:Int):Option Int:=cF 98 BL [.lst .W x0,.int .i64 x1] []
def Ex (x0:OR) (x1:Int):Option Int:=cF 99 Di [.agg (Fa.enc x0),.int .i64 x1] []
def Ee (x0 x1:Aa):Option Bool:=cF 137 Eb [.agg (Av.enc x0),.agg (Av.enc x1)] []
def Dk (x0:Int):Option ByteArray:=cF 141 Eu [.int .i64 x0] []
def Fo (x0:List Int):Option Bool:=cF 147 Be [.lst .W x0] []
def BH (x0:List Int) (x1:Int):Option Int:=cF 148 Ah [.lst .W x0,.int .i64 x1] []
def EP (x0:List (List Int)):Option (List (List Int)):=cF 2000030 BE [.lst .S x0] []

def C8 (x0:Int) (x1:Bool) (x2:BA) (x3:List (List Int)) (x4:List Int) (x5:List Aa) (x6:List Int) (x7 x8:Int) (x9 x10 x11 x12:Bool) (x13 x14 x15 x16:Int) (x17 x18:ByteArray) (x19:Int) (x20:List Int) (x21:List Aa) (x22:List Int) (x23 x24:Int) (x25 x26 x27 x28:Bool) (x29 x30 x31 x32:Int) (x33 x34:ByteArray) (x35:Int):Option Bool:=cG C3 (Au AP) (Au AP) kx ⟨[(9,.ptr 8 0),(12,.int .i64 x0),(92,.bool x1)],[.var (Ay.enc x2),.rows 44 (.own 3 .W) x3,.dead,.dead,.dead,.rows 3 .W x4,.rows 49 Av x5,.rows 3 .W x6,.var [.int .i64 x7,.int .i64 x8,.bool x9,.bool x10,.bool x11,.bool x12,.row 5,.row 6,.int .i64 x13,.int .i64 x14,.int .i64 x15,.int .i64 x16,.str x17,.str x18,.int .i64 x19,.row 7],.dead,.dead,.dead,.rows 3 .W x20,.rows 49 Av x21,.rows 3 .W x22,.var [.int .i64 x23,.int .i64 x24,.bool x25,.bool x26,.bool x27,.bool x28,.row 12,.row 13,.int .i64 x29,.int .i64 x30,.int .i64 x31,.int .i64 x32,.str x33,.str x34,.int .i64 x35,.row 14]]⟩
def C9 (x0:Int) (x1:List (List Int)) (x2 x3:Bool) (x4:BA) (x5:List (List Int)) (x6:List Int) (x7:List Aa) (x8:List Int) (x9 x10:Int) (x11 x12 x13 x14:Bool) (x15 x16 x17 x18:Int) (x19 x20:ByteArray) (x21:Int):Option Bool:=cG C4 (Au AP) (Au AP) kx ⟨[(0,.int .i64 x0),(1,.lst .S x1),(6,.ptr 0 0),(7,.bool x2),(9,.ptr 8 0),(65,.bool x3)],[.var (Ay.enc x4),.rows 44 (.own 3 .W) x5,.dead,.dead,.dead,.rows 3 .W x6,.rows 49 Av x7,.rows 3 .W x8,.var [.int .i64 x9,.int .i64 x10,.bool x11,.bool x12,.bool x13,.bool x14,.row 5,.row 6,.int .i64 x15,.int .i64 x16,.int .i64 x17,.int .i64 x18,.str x19,.str x20,.int .i64 x21,.row 7]]⟩
def C_ (x0:Int) (x1:List (List Int)) (x2 x3 x4:Bool) (x5:BA) (x6:List (List Int)) (x7:List Int) (x8:List Aa) (x9:List Int) (x10 x11:Int) (x12 x13 x14 x15:Bool) (x16 x17 x18 x19:Int) (x20 x21:ByteArray) (x22:Int):Option Bool:=cG C5 (Au AP) (Au AP) kx ⟨[(0,.int .i64 x0),(1,.lst .S x1),(6,.ptr 0 0),(7,.bool x2),(8,.row 1),(9,.ptr 8 0),(10,.bool x3),(44,.bool x4)],[.var (Ay.enc x5),.rows 44 (.own 3 .W) x6,.dead,.dead,.dead,.rows 3 .W x7,.rows 49 Av x8,.rows 3 .W x9,.var [.int .i64 x10,.int .i64 x11,.bool x12,.bool x13,.bool x14,.bool x15,.row 5,.row 6,.int .i64 x16,.int .i64 x17,.int .i64 x18,.int .i64 x19,.str x20,.str x21,.int .i64 x22,.row 7]]⟩
def DA (x0:Int) (x1:Bool) (x2:BA) (x3:List (List Int)) (x4:List Int) (x5:List Aa) (x6:List Int) (x7 x8:Int) (x9 x10 x11 x12:Bool) (x13 x14 x15 x16:Int) (x17 x18:ByteArray) (x19:Int) (x20:List Int) (x21:List Aa) (x22:List Int) (x23 x24:Int) (x25 x26 x27 x28:Bool) (x29 x30 x31 x32:Int) (x33 x34:ByteArray) (x35:Int):Option Bool:=((Co (x7,x8,x9,x10,x11,x12,x4,x5,x13,x14,x15,x16,(x17,x18,x19),x6) 1).bind fun y16=>(if (decide (y16<0))=true then (some false) else (if (y16 != x0)=true then (some false) else (some true))))
def DB (x0:Int) (x1:List (List Int)) (x2 x3:Bool) (x4:BA) (x5:List (List Int)) (x6:List Int) (x7:List Aa) (x8:List Int) (x9 x10:Int) (x11 x12 x13 x14:Bool) (x15 x16 x17 x18:Int) (x19 x20:ByteArray) (x21:Int):Option Bool:=((D6 x9 x10 x11 x12 x13 x14 x15 x16 x17 x18 x19 x20 x21 1 x6 x7 x8).bind fun y11=>((Co (x9,x10,x11,x12,x13,x14,y11.2.1,y11.2.2.1,x15,x16,x17,x18,(x19,x20,x21),y11.2.2.2) 1).bind fun y12=>(if (decide (y12<0))=true then (some false) else (if (y12 != y11.1)=true then (some false) else ((C6 x1).bind fun y13=>((CO x0 y13).bind fun y14=>((Cd y14.1 x4).bind fun y15=>(if (!y15)=false then (if (true != It .bool y14.2 x2)=true then (some false) else (C8 y11.1 (true != It .bool y14.2 x2) x4 x5 y11.2.1 y11.2.2.1 y11.2.2.2 x9 x10 x11 x12 x13 x14 x15 x16 x17 x18 x19 x20 x21 y14.1.2.2.2.2.2.2.1 y14.1.2.2.2.2.2.2.2.1 y14.1.2.2.2.2.2.2.2.2.2.2.2.2.2 y14.1.1 y14.1.2.1 y14.1.2.2.1 y14.1.2.2.2.1 y14.1.2.2.2.2.1 y14.1.2.2.2.2.2.1 y14.1.2.2.2.2.2.2.2.2.1 y14.1.2.2.2.2.2.2.2.2.2.1 y14.1.2.2.2.2.2.2.2.2.2.2.1 y14.1.2.2.2.2.2.2.2.2.2.2.2.1 y14.1.2.2.2.2.2.2.2.2.2.2.2.2.1.1 y14.1.2.2.2.2.2.2.2.2.2.2.2.2.1.2.1 y14.1.2.2.2.2.2.2.2.2.2.2.2.2.1.2.2)) else (some false)))))))))
def DC (x0:Int) (x1:List (List Int)) (x2 x3 x4:Bool) (x5:BA) (x6:List (List Int)) (x7:List Int) (x8:List Aa) (x9:List Int) (x10 x11:Int) (x12 x13 x14 x15:Bool) (x16 x17 x18 x19:Int) (x20 x21:ByteArray) (x22:Int):Option Bool:=((C6 x1).bind fun y7=>((Fl x6 y7).bind fun y8=>(if (!y8)=true then (some false) else ((EM 1 x6).bind fun y9=>(if (decide (y9.1<0))=false then ((Cd (x10,x11,x12,x13,x14,x15,x7,x8,x16,x17,x18,x19,(x20,x21,x22),x9) x5).bind fun y10=>(if (!y10)=false then (if (true != It .bool x3 x2)=true then (some false) else (C9 x0 x1 x2 (true != It .bool x3 x2) x5 y9.2 x7 x8 x9 x10 x11 x12 x13 x14 x15 x16 x17 x18 x19 x20 x21 x22)) else (some false))) else (some false))))))
def Dw (x0:Int) (x1:List (List Int)):Option Bool:=((Fk x1 1048576).bind fun y1=>(if (decide (y1<0))=true then (some true) else ((C6 x1).bind fun y2=>((DL x0 y2).bind fun y3=>((EP x1).bind fun y4=>((CO x0 y4).bind fun y5=>((Cd y5.1 y3.1).bind fun y6=>(if (!y6)=false then (if (true != It .bool y5.2 y3.2)=true then (some false) else (C_ x0 x1 y3.2 y5.2 (true != It .bool y5.2 y3.2) y3.1 y4 y5.1.2.2.2.2.2.2.1 y5.1.2.2.2.2.2.2.2.1 y5.1.2.2.2.2.2.2.2.2.2.2.2.2.2 y5.1.1 y5.1.2.1 y5.1.2.2.1 y5.1.2.2.2.1 y5.1.2.2.2.2.1 y5.1.2.2.2.2.2.1 y5.1.2.2.2.2.2.2.2.2.1 y5.1.2.2.2.2.2.2.2.2.2.1 y5.1.2.2.2.2.2.2.2.2.2.2.1 y5.1.2.2.2.2.2.2.2.2.2.2.2.1 y5.1.2.2.2.2.2.2.2.2.2.2.2.2.1.1 y5.1.2.2.2.2.2.2.2.2.2.2.2.2.1.2.1 y5.1.2.2.2.2.2.2.2.2.2.2.2.2.1.2.2)) else (some false)))))))))
theorem Fp:Tn DA C8:=jS (by kernel_rfl)
theorem Fq:Tl DB C9:=jS (by kernel_rfl)
theorem Fs:Tm DC C_:=jS (by kernel_rfl)
theorem G9:M0 Dw Dv:=cT AP rfl ⟨rfl,rfl⟩ (by kernel_rfl)
def Kv:=cG Gx (Au BZ) (Au BZ) kx
def Kw:=kE 0 [] [1] 0 Kv kx
def Ju:St->Option (RT (CQ.outs BZ)):=lG Gw [] [0,1,5] 0 (Au BZ) Kw
def Cp (x0:List (List Int)) (x1 x2:Int):Option Int:=Ju ⟨[(0,.lst .S x0),(1,.int .i64 x1),(5,.int .i64 x2)],[]⟩
def Cq (x0:List (List Int)) (x1 x2:Int):Option Int:=(if (decide (x2<(x0.length:Int)))=true then (if 0<=x2 then (if x2<(x0.length:Int) then ((Ga (x0.getD x2.toNat ([]:List Int)) x1).bind fun y1=>(if (decide (y1<0))=true then (some (-1:Int)) else (Cp x0 y1 (i64.wrap (x2+1))))) else none) else none) else (some x1))
def Ft (x0:List (List Int)) (x1:Int):Option Int:=(if (decide ((i64.wrap (x1-(x0.length:Int)))<0))=true then (some (-1:Int)) else (Cp x0 (i64.wrap (x1-(x0.length:Int))) 0))
theorem D8:Pd Cq Cp:=lS (by kernel_rfl)
theorem Hz:M0 Ft Fk:=cT BZ rfl ⟨rfl,rfl⟩ (by kernel_rfl)
def E3 (x0:Int) (x1:List (List Int)) (x2:Bool) (x3:BA):Option (BA×Bool):=cG Fd (Au Bp) (Au Bp) kx ⟨[(0,.int .i64 x0),(1,.lst .S x1),(4,.ptr 0 0),(14,.bool x2)],[.var (Ay.enc x3)]⟩
def E4 (x0:Int) (x1:List (List Int)) (x2:Bool) (x3:BA):Option (BA×Bool):=(if 0<=(0:Int) then (if 0<(x1.length:Int) then ((FJ (x1.getD (0:Int).toNat ([]:List Int)) x0).bind fun y3=>(if 0<=(0:Int) then (if 0<(x1.length:Int) then (if 0<=(0:Int) then (if 0<((x1.getD (0:Int).toNat ([]:List Int)).length:Int) then (some ((x0,1,false,y3,(((x1.getD (0:Int).toNat ([]:List Int)).getD (0:Int).toNat 0)==x0),(((x1.getD (0:Int).toNat ([]:List Int)).getD (0:Int).toNat 0)==x0),([]:List Int),([]:List Aa),0,0,0,0,(AR,AR,0),([]:List Int)),true)) else none) else none) else none) else none)) else none) else none)
def DN (x0:Int) (x1:List (List Int)):Option (BA×Bool):=((D7 x1).bind fun y1=>(if (!y1)=false then ((DM x0 1 6).bind fun y2=>(if (!y2)=true then (some ((0,0,false,false,false,false,([]:List Int),([]:List Aa),0,0,0,0,(AR,AR,0),([]:List Int)),false)) else (E3 x0 x1 (!y2) (0,0,false,false,false,false,([]:List Int),([]:List Aa),0,0,0,0,(AR,AR,0),([]:List Int))))) else (some ((0,0,false,false,false,false,([]:List Int),([]:List Aa),0,0,0,0,(AR,AR,0),([]:List Int)),false))))
theorem IU:Ti E4 E3:=jS (by kernel_rfl)
theorem EQ:M0 DN DL:=cT Bp rfl ⟨rfl,rfl⟩ (by kernel_rfl)
def Kx:=cG Gz (Au Ba) (Au Ba) kx
def Ky:=kE 0 [(3,0)] [3] 1 Kx kx
def Jv:St->Option (RT (CQ.outs Ba)):=lG Gy [(3,0)] [0,3,4] 1 (Au Ba) Ky
def Cr (x0:List (List Int)) (x1:Int) (x2:List (List Int)):Option (List (List Int)):=Jv ⟨[(0,.lst .S x0),(3,.row 0),(4,.int .i64 x1)],[.rows 44 .S x2]⟩
def Jw (x0:List (List Int)) (x1:Int) (x2:List (List Int)):Option (List (List Int)):=(if (decide (x1<(x0.length:Int)))=true then (if 0<=x1 then (if x1<(x0.length:Int) then ((Ed (x0.getD x1.toNat ([]:List Int))).bind fun y1=>(if 0<=x1 then (if x1<(x2.length:Int) then (let z2:List (List Int):=x2.set x1.toNat y1; (Cr x0 (i64.wrap (x1+1)) z2)) else none) else none)) else none) else none) else (some x2))
def M9 (x0:List (List Int)):Option (List (List Int)):=(if 0<=(x0.length:Int) then (if (x0.length:Int)<=68719476736 then (Cr x0 0 (List.replicate (x0.length:Int).toNat ([]:List Int))) else none) else none)
theorem Jx:Pd Jw Cr:=lS (by kernel_rfl)
theorem M_:TC M9 C6:=cT Ba rfl ⟨rfl,rfl⟩ (by kernel_rfl)
def E5 (x0:Int) (x1:List (List Int)) (x2:Bool) (x3:List Int) (x4:List Aa) (x5:List Int) (x6 x7:Int) (x8 x9 x10 x11:Bool) (x12 x13 x14 x15:Int) (x16 x17:ByteArray) (x18:Int):Option (BA×Bool):=cG Fe (Au Bq) (Au Bq) kx ⟨[(0,.int .i64 x0),(1,.lst .S x1),(4,.ptr 3 0),(14,.bool x2)],[.rows 3 .W x3,.rows 49 Av x4,.rows 3 .W x5,.var [.int .i64 x6,.int .i64 x7,.bool x8,.bool x9,.bool x10,.bool x11,.row 0,.row 1,.int .i64 x12,.int .i64 x13,.int .i64 x14,.int .i64 x15,.str x16,.str x17,.int .i64 x18,.row 2]]⟩
def E6 (x0:Int) (x1:List (List Int)) (x2:Bool) (x3:List Int) (x4:List Aa) (x5:List Int) (x6 x7:Int) (x8 x9 x10 x11:Bool) (x12 x13 x14 x15:Int) (x16 x17:ByteArray) (x18:Int):Option (BA×Bool):=(if 0<=(0:Int) then (if 0<(x1.length:Int) then (if 0<=(0:Int) then (if 0<((x1.getD (0:Int).toNat ([]:List Int)).length:Int) then (if 0<=(0:Int) then (if 0<(x1.length:Int) then ((B6 (x1.getD (0:Int).toNat ([]:List Int)) x0).bind fun y3=>(some ((x0,1,false,y3,(((x1.getD (0:Int).toNat ([]:List Int)).getD (0:Int).toNat 0)==x0),(((x1.getD (0:Int).toNat ([]:List Int)).getD (0:Int).toNat 0)==x0),([]:List Int),([]:List Aa),0,0,0,0,(AR,AR,0),([]:List Int)),true))) else none) else none) else none) else none) else none) else none)
def DO (x0:Int) (x1:List (List Int)):Option (BA×Bool):=((Ec x0).bind fun y1=>(if (!y1)=false then ((Fn x1).bind fun y2=>(if (!y2)=true then (some ((0,0,false,false,false,false,([]:List Int),([]:List Aa),0,0,0,0,(AR,AR,0),([]:List Int)),false)) else (E5 x0 x1 (!y2) ([]:List Int) ([]:List Aa) ([]:List Int) 0 0 false false false false 0 0 0 0 AR AR 0))) else (some ((0,0,false,false,false,false,([]:List Int),([]:List Aa),0,0,0,0,(AR,AR,0),([]:List Int)),false))))
theorem IV:Tk E6 E5:=jS (by kernel_rfl)
theorem ER:M0 DO CO:=cT Bq rfl ⟨rfl,rfl⟩ (by kernel_rfl)
def Hc (x0 x1:BA):Option Bool:=(if (x0.1 != x1.1)=true then (some false) else (if (x0.2.1 != x1.2.1)=true then (some false) else (if (true != It .bool x0.2.2.1 x1.2.2.1)=true then (some false) else (if (true != It .bool x0.2.2.2.1 x1.2.2.2.1)=true then (some false) else (if (true != It .bool x0.2.2.2.2.1 x1.2.2.2.2.1)=true then (some false) else (if (true != It .bool x0.2.2.2.2.2.1 x1.2.2.2.2.2.1)=true then (some false) else ((Dc x0.2.2.2.2.2.2.1 x1.2.2.2.2.2.2.1).bind fun y1=>(if (!y1)=true then (some false) else ((Fm x0.2.2.2.2.2.2.2.1 x1.2.2.2.2.2.2.2.1).bind fun y2=>(if (!y2)=true then (some false) else (if (x0.2.2.2.2.2.2.2.2.1 != x1.2.2.2.2.2.2.2.2.1)=true then (some false) else ((Gb x0.2.2.2.2.2.2.2.2.2 x1.2.2.2.2.2.2.2.2.2).bind fun y3=>(if (!y3)=true then (some false) else (some true))))))))))))))
theorem Ly:M0 Hc Cd:=cT Dg rfl ⟨rfl,rfl⟩ (by kernel_rfl)
def Kz:=cG G1 (Au Bb) (Au Bb) kx
def K1:=kE 0 [] [] 0 Kz kx
def Jy:St->Option (RT (CQ.outs Bb)):=lG G0 [] [0,1,5] 0 (Au Bb) K1
def Cs (x0 x1:List (List Int)) (x2:Int):Option Bool:=Jy ⟨[(0,.lst .S x0),(1,.lst .S x1),(5,.int .i64 x2)],[]⟩
def Jz (x0 x1:List (List Int)) (x2:Int):Option Bool:=(if (decide (x2<(x0.length:Int)))=true then (if 0<=x2 then (if x2<(x0.length:Int) then (if 0<=x2 then (if x2<(x1.length:Int) then ((Dc (x0.getD x2.toNat ([]:List Int)) (x1.getD x2.toNat ([]:List Int))).bind fun y1=>(if (!y1)=true then (some false) else (Cs x0 x1 (i64.wrap (x2+1))))) else none) else none) else none) else none) else (some true))
def NA (x0 x1:List (List Int)):Option Bool:=(if ((x0.length:Int) != (x1.length:Int))=true then (some false) else (Cs x0 x1 0))
theorem J0:Pd Jz Cs:=lS (by kernel_rfl)
theorem NB:M0 NA Fl:=cT Bb rfl ⟨rfl,rfl⟩ (by kernel_rfl)
def I6:=cG Fg (Au BB) (Au BB) kx
def I7:=kE 0 [] [1] 1 I6 kx
def IW:St->Option (RT (CQ.outs BB)):=lG Ff [(0,0)] [0,1,5] 1 (Au BB) I7
def CK (x0 x1:Int) (x2:List (List Int)):Option (Int×List (List Int)):=IW ⟨[(0,.row 0),(1,.int .i64 x0),(5,.int .i64 x1)],[.mrow 44 (.own 3 .W) x2]⟩
def DW (x0 x1:Int) (x2:List (List Int)):Option (Int×List (List Int)):=(if (decide (x1<(x2.length:Int)))=true then (if 0<=x1 then (if x1<(x2.length:Int) then ((B7 x0 (x2.getD x1.toNat ([]:List Int))).bind fun y1=>(let z2:List (List Int):=x2.set x1.toNat y1.2; (CK y1.1 (i64.wrap (x1+1)) z2))) else none) else none) else (some (x0,x2)))
def G_ (x1:Int) (b0:List (List Int)):Option (Int×List (List Int)):=(CK x1 0 b0)
theorem E7:Pd DW CK:=lS (by kernel_rfl)
theorem K3:M0 G_ EM:=cT BB rfl ⟨rfl,rfl⟩ (by kernel_rfl)
def GI (x0_0 x0_1:Int) (x0_2 x0_3 x0_4 x0_5:Bool) (x0_8 x0_9 x0_10 x0_11:Int) (x0_12 x0_13:ByteArray) (x0_14 x1:Int) (b0:List Int) (b1:List Aa) (b2:List Int):Option (Int×List Int×List Aa×List Int):=((B7 x1 b0).bind fun y1=>((EN y1.1 b1).bind fun y2=>((Ew x0_9 x0_10 x0_11 x0_12 x0_13 x0_14 y2.1 b2).bind fun y3=>(some (y3.1,y1.2,y2.2,y3.2)))))
theorem J1:Tj GI D6:=cT Cm rfl ⟨rfl,rfl⟩ (by kernel_rfl)
def GJ (x0:BA) (x1:Int):Option Int:=((Dj x0.2.2.2.2.2.2.1 x1).bind fun y1=>(if (decide (y1<0))=true then (some (-1:Int)) else ((EO x0.2.2.2.2.2.2.2.1 y1).bind fun y2=>(if (decide (y2<0))=true then (some (-1:Int)) else ((Ex x0.2.2.2.2.2.2.2.2.2 y2).bind fun y3=>(if (decide (y3<0))=true then (some (-1:Int)) else (some y3)))))))
theorem J2:M0 GJ Co:=cT Cn rfl ⟨rfl,rfl⟩ (by kernel_rfl)
def K4:=cG G3 (Au Bc) (Au Bc) kx
def K5:=kE 0 [] [] 0 K4 kx
def J3:St->Option (RT (CQ.outs Bc)):=lG G2 [] [0,1,5] 0 (Au Bc) K5
def Ct (x0 x1:List Aa) (x2:Int):Option Bool:=J3 ⟨[(0,.lst Av x0),(1,.lst Av x1),(5,.int .i64 x2)],[]⟩
def J4 (x0 x1:List Aa) (x2:Int):Option Bool:=(if (decide (x2<(x0.length:Int)))=true then (if 0<=x2 then (if x2<(x0.length:Int) then (if 0<=x2 then (if x2<(x1.length:Int) then ((Ee (x0.getD x2.toNat (AR,AR,0)) (x1.getD x2.toNat (AR,AR,0))).bind fun y1=>(if (!y1)=true then (some false) else (Ct x0 x1 (i64.wrap (x2+1))))) else none) else none) else none) else none) else (some true))
def NC (x0 x1:List Aa):Option Bool:=(if ((x0.length:Int) != (x1.length:Int))=true then (some false) else (Ct x0 x1 0))
theorem J5:Pd J4 Ct:=lS (by kernel_rfl)
theorem ND:M0 NC Fm:=cT Bc rfl ⟨rfl,rfl⟩ (by kernel_rfl)
def I8:=cG E0 (Au BC) (Au BC) kx
def I9:=kE 0 [] [1] 1 I8 kx
def IX:St->Option (RT (CQ.outs BC)):=lG Fh [(0,0)] [0,1,5] 1 (Au BC) I9
def DX (x0 x1:Int) (x2:List Aa):Option (Int×List Aa):=IX ⟨[(0,.row 0),(1,.int .i64 x0),(5,.int .i64 x1)],[.mrow 49 Av x2]⟩
def E8 (x0 x1:Int) (x2:List Aa):Option (Int×List Aa):=(if (decide (x1<(x2.length:Int)))=true then ((Dk x0).bind fun y1=>(if 0<=x1 then (if x1<(x2.length:Int) then (let z2:List Aa:=x2.set x1.toNat (y1,(x2.getD x1.toNat (AR,AR,0)).2); ((Dk (i64.wrap (x0+1))).bind fun y3=>(if 0<=x1 then (if x1<(z2.length:Int) then (let z4:List Aa:=z2.set x1.toNat ((z2.getD x1.toNat (AR,AR,0)).1,y3,((z2.getD x1.toNat (AR,AR,0)).2).2); (if 0<=x1 then (if x1<(z4.length:Int) then (let z5:List Aa:=z4.set x1.toNat ((z4.getD x1.toNat (AR,AR,0)).1,((z4.getD x1.toNat (AR,AR,0)).2).1,(i64.wrap ((i64.wrap (x0+1))+1))); (DX (i64.wrap ((i64.wrap ((i64.wrap (x0+1))+1))+1)) (i64.wrap (x1+1)) z5)) else none) else none)) else none) else none))) else none) else none)) else (some (x0,x2)))
def HA (x1:Int) (b0:List Aa):Option (Int×List Aa):=(DX x1 0 b0)
theorem IY:Pd E8 DX:=lS (by kernel_rfl)
theorem K6:M0 HA EN:=cT BC rfl ⟨rfl,rfl⟩ (by kernel_rfl)
def I_:=cG E2 (Au BD) (Au BD) kx
def JA:=kE 0 [] [1] 0 I_ kx
def IZ:St->Option (RT (CQ.outs BD)):=lG E1 [] [0,1,5] 0 (Au BD) JA
def DY (x0:List Aa) (x1 x2:Int):Option Int:=IZ ⟨[(0,.lst Av x0),(1,.int .i64 x1),(5,.int .i64 x2)],[]⟩
def E9 (x0:List Aa) (x1 x2:Int):Option Int:=(if (decide (x2<(x0.length:Int)))=true then (if 0<=x2 then (if x2<(x0.length:Int) then ((Dk x1).bind fun y1=>(if (!(((x0.getD x2.toNat (AR,AR,0)).1).toList==y1.toList))=true then (some (-1:Int)) else (if 0<=x2 then (if x2<(x0.length:Int) then ((Dk (i64.wrap (x1+1))).bind fun y2=>(if (!((((x0.getD x2.toNat (AR,AR,0)).2).1).toList==y2.toList))=true then (some (-1:Int)) else (if 0<=x2 then (if x2<(x0.length:Int) then (if ((((x0.getD x2.toNat (AR,AR,0)).2).2) != (i64.wrap ((i64.wrap (x1+1))+1)))=true then (some (-1:Int)) else (DY x0 (i64.wrap ((i64.wrap ((i64.wrap (x1+1))+1))+1)) (i64.wrap (x2+1)))) else none) else none))) else none) else none))) else none) else none) else (some x1))
def HB (x0:List Aa) (x1:Int):Option Int:=(DY x0 x1 0)
theorem Ia:Pd E9 DY:=lS (by kernel_rfl)
theorem K7:M0 HB EO:=cT BD rfl ⟨rfl,rfl⟩ (by kernel_rfl)
def J6 (x0 x1 x2:Int):Option Bool:=(if (decide (x0>=x1))=true then (some (decide (x0<=x2))) else (some false))
theorem OU:Pd J6 DM:=cT FI rfl ⟨rfl,rfl⟩ (by kernel_rfl)
def H5 (x0 x1 x2:Int):Option Bool:=(if (decide (x0>=x1))=true then (some (decide (x0<=x2))) else (some false))
theorem NE:Pd H5 C7:=cT D5 rfl ⟨rfl,rfl⟩ (by kernel_rfl)
def Ip (x0:Int):Option Bool:=((C7 x0 1 6).bind fun y1=>(some y1))
theorem NZ:TC Ip Ec:=cT EY rfl ⟨rfl,rfl⟩ (by kernel_rfl)
def Gc (x0:List Int) (x1:Int):Option Int:=(if (decide ((i64.wrap (x1-(x0.length:Int)))<0))=true then (some (-1:Int)) else (some (i64.wrap (x1-(x0.length:Int)))))
theorem Iq:M0 Gc Ga:=cT EZ rfl ⟨rfl,rfl⟩ (by kernel_rfl)
def K8:=cG G5 (Au Bd) (Au Bd) kx
def K9:=kE 0 [] [0] 0 K8 kx
def J7:St->Option (RT (CQ.outs Bd)):=lG G4 [] [0,3] 0 (Au Bd) K9
def Cu (x0:List (List Int)) (x1:Int):Option Bool:=J7 ⟨[(0,.lst .S x0),(3,.int .i64 x1)],[]⟩
def D9 (x0:List (List Int)) (x1:Int):Option Bool:=(if (decide (x1<(x0.length:Int)))=true then (if 0<=x1 then (if x1<(x0.length:Int) then ((Fo (x0.getD x1.toNat ([]:List Int))).bind fun y1=>(if (!y1)=true then (some false) else (Cu x0 (i64.wrap (x1+1))))) else none) else none) else ((DM (x0.length:Int) 1 9).bind fun y2=>(some y2)))
def H6 (x0:List (List Int)):Option Bool:=(Cu x0 0)
theorem GK:M0 D9 Cu:=lS (by kernel_rfl)
theorem NF:TC H6 D7:=cT Bd rfl ⟨rfl,rfl⟩ (by kernel_rfl)
def NG:=cG Hy (Au CA) (Au CA) kx
def NH:=kE 0 [] [] 0 NG kx
def Lz:St->Option (RT (CQ.outs CA)):=lG Hx [] [0,1,5] 0 (Au CA) NH
def Dl (x0:List Int) (x1 x2:Int):Option Bool:=Lz ⟨[(0,.lst .W x0),(1,.int .i64 x1),(5,.int .i64 x2)],[]⟩
def Ey (x0:List Int) (x1 x2:Int):Option Bool:=(if (decide (x2<(x0.length:Int)))=true then (if 0<=x2 then (if x2<(x0.length:Int) then (if ((x0.getD x2.toNat 0)==x1)=true then (some true) else (Dl x0 x1 (i64.wrap (x2+1)))) else none) else none) else (some false))
def J8 (x0:List Int) (x1:Int):Option Bool:=(Dl x0 x1 0)
theorem Hd:Pd Ey Dl:=lS (by kernel_rfl)
theorem OV:M0 J8 FJ:=cT CA rfl ⟨rfl,rfl⟩ (by kernel_rfl)
def L0:=cG HY (Au Bl) (Au Bl) kx
def L1:=kE 0 [(3,0)] [3] 1 L0 kx
def K_:St->Option (RT (CQ.outs Bl)):=lG HX [(3,0)] [0,3,4] 1 (Au Bl) L1
def DP (x0:List Int) (x1:Int) (x2:List Int):Option (List Int):=K_ ⟨[(0,.lst .W x0),(3,.row 0),(4,.int .i64 x1)],[.rows 3 .W x2]⟩
def LA (x0:List Int) (x1:Int) (x2:List Int):Option (List Int):=(if (decide (x1<(x0.length:Int)))=true then (if 0<=x1 then (if x1<(x0.length:Int) then (if 0<=x1 then (if x1<(x2.length:Int) then (let z1:List Int:=x2.set x1.toNat (x0.getD x1.toNat 0); (DP x0 (i64.wrap (x1+1)) z1)) else none) else none) else none) else none) else (some x2))
def Na (x0:List Int):Option (List Int):=(if 0<=(x0.length:Int) then (if (x0.length:Int)<=68719476736 then (DP x0 0 (List.replicate (x0.length:Int).toNat 0)) else none) else none)
theorem LB:Pd LA DP:=lS (by kernel_rfl)
theorem Nb:TC Na Ed:=cT Bl rfl ⟨rfl,rfl⟩ (by kernel_rfl)
def LC:=cG GD (Au Am) (Au Am) kx
def ES:=kE 0 [] [0] 0 LC kx
def GL:St->Option (RT (CQ.outs Am)):=lG GC [] [0,7,8,9] 0 (Au Am) ES
def LD:=kB [] [0,7,8,9] 0 GL
def HC:=cG GB LD (Au Am) ES
def HD:=kB [] [0,7,8,9] 0 HC
def ET:=kE 1 [] [0,7,8,9] 0 HC ES
def LE:=cG EL HD (Au Am) ET
def LF:=kE 2 [] [0,4,7,8,9] 0 LE ET
def J9:St->Option (RT (CQ.outs Am)):=lG G6 [] [0,4,7,8,9,13,14,15] 0 (Au Am) LF
def D_ (x0:List (List Int)) (x1:List Int) (x2:List (List Int)) (x3 x4:Int):Option Bool:=cG EL HD (Au Am) ET ⟨[(0,.lst .S x0),(4,.lst .W x1),(7,.lst .S x2),(8,.int .i64 x3),(9,.int .i64 x4)],[]⟩
def Cv (x0:List (List Int)) (x1:List Int) (x2:List (List Int)) (x3 x4:Int) (x5:List Int) (x6 x7:Int):Option Bool:=J9 ⟨[(0,.lst .S x0),(4,.lst .W x1),(7,.lst .S x2),(8,.int .i64 x3),(9,.int .i64 x4),(13,.lst .W x5),(14,.int .i64 x6),(15,.int .i64 x7)],[]⟩
def Cw (x0 x1:List (List Int)) (x2 x3:Int):Option Bool:=GL ⟨[(0,.lst .S x0),(7,.lst .S x1),(8,.int .i64 x2),(9,.int .i64 x3)],[]⟩
def GM (x0:List (List Int)) (x1:List Int) (x2:List (List Int)) (x3 x4:Int):Option Bool:=((C7 (x1.length:Int) 1 4).bind fun y3=>(if (!y3)=true then (some false) else (Cw x0 x2 x3 (i64.wrap (x4+1)))))
def EA (x0:List (List Int)) (x1:List Int) (x2:List (List Int)) (x3 x4:Int) (x5:List Int) (x6 x7:Int):Option Bool:=(if (decide (x7<x6))=true then (if 0<=x7 then (if x7<(x5.length:Int) then ((Ec (x5.getD x7.toNat 0)).bind fun y1=>(if (!y1)=false then ((BH x1 (x5.getD x7.toNat 0)).bind fun y2=>(if (y2 != x7)=true then (some false) else (Cv x0 x1 x2 x3 x4 x5 x6 (i64.wrap (x7+1))))) else (some false))) else none) else none) else (D_ x0 x1 x2 x3 x4))
def EB (x0 x1:List (List Int)) (x2 x3:Int):Option Bool:=(if (decide (x3<x2))=true then (if 0<=x3 then (if x3<(x1.length:Int) then (Cv x0 (x1.getD x3.toNat ([]:List Int)) x1 x2 x3 (x1.getD x3.toNat ([]:List Int)) ((x1.getD x3.toNat ([]:List Int)).length:Int) 0) else none) else none) else ((C7 (x0.length:Int) 1 9).bind fun y4=>(some y4)))
def H7 (x0:List (List Int)):Option Bool:=(Cw x0 x0 (x0.length:Int) 0)
theorem J_:Tw GM D_:=jS (by kernel_rfl)
theorem GN:Ts EA Cv:=lS (by kernel_rfl)
theorem GO:Ti EB Cw:=lS (by kernel_rfl)
theorem NI:TC H7 Fn:=cT Am rfl ⟨rfl,rfl⟩ (by kernel_rfl)
def DS (x0:List Int) (x1:Int):Option Bool:=((BH x0 x1).bind fun y1=>(some (decide (y1>=0))))
theorem F0:M0 DS B6:=cT BP rfl ⟨rfl,rfl⟩ (by kernel_rfl)
def L2:=cG Ha (Au Bm) (Au Bm) kx
def L3:=kE 0 [] [] 0 L2 kx
def LG:St->Option (RT (CQ.outs Bm)):=lG HZ [] [0,1,5] 0 (Au Bm) L3
def DQ (x0 x1:List Int) (x2:Int):Option Bool:=LG ⟨[(0,.lst .W x0),(1,.lst .W x1),(5,.int .i64 x2)],[]⟩
def LH (x0 x1:List Int) (x2:Int):Option Bool:=(if (decide (x2<(x0.length:Int)))=true then (if 0<=x2 then (if x2<(x0.length:Int) then (if 0<=x2 then (if x2<(x1.length:Int) then (if ((x0.getD x2.toNat 0) != (x1.getD x2.toNat 0))=true then (some false) else (DQ x0 x1 (i64.wrap (x2+1)))) else none) else none) else none) else none) else (some true))
def Nc (x0 x1:List Int):Option Bool:=(if ((x0.length:Int) != (x1.length:Int))=true then (some false) else (DQ x0 x1 0))
theorem LI:Pd LH DQ:=lS (by kernel_rfl)
theorem Nd:M0 Nc Dc:=cT Bm rfl ⟨rfl,rfl⟩ (by kernel_rfl)
def Ir (x0 x1:OR):Option Bool:=(if (x0.1 != x1.1)=true then (some false) else (if (x0.2.1 != x1.2.1)=true then (some false) else (if (x0.2.2.1 != x1.2.2.1)=true then (some false) else ((Ee x0.2.2.2.1 x1.2.2.2.1).bind fun y1=>(if (!y1)=true then (some false) else ((Dc x0.2.2.2.2 x1.2.2.2.2).bind fun y2=>(if (!y2)=true then (some false) else (some true))))))))
theorem Nf:M0 Ir Gb:=cT Ea rfl ⟨rfl,rfl⟩ (by kernel_rfl)
def KA:=cG GF (Au BK) (Au BK) kx
def KB:=kE 0 [] [1] 1 KA kx
def JB:St->Option (RT (CQ.outs BK)):=lG GE [(0,0)] [0,1,5] 1 (Au BK) KB
def Ca (x0 x1:Int) (x2:List Int):Option (Int×List Int):=JB ⟨[(0,.row 0),(1,.int .i64 x0),(5,.int .i64 x1)],[.mrow 3 .W x2]⟩
def Cb (x0 x1:Int) (x2:List Int):Option (Int×List Int):=(if (decide (x1<(x2.length:Int)))=true then (if 0<=x1 then (if x1<(x2.length:Int) then (let z1:List Int:=x2.set x1.toNat x0; (Ca (i64.wrap (x0+1)) (i64.wrap (x1+1)) z1)) else none) else none) else (some (x0,x2)))
def Ez (x1:Int) (b0:List Int):Option (Int×List Int):=(Ca x1 0 b0)
theorem Dn:Pd Cb Ca:=lS (by kernel_rfl)
theorem He:M0 Ez B7:=cT BK rfl ⟨rfl,rfl⟩ (by kernel_rfl)
def Hf (x0_0 x0_1 x0_2:Int) (x0_3 x0_4:ByteArray) (x0_5 x1:Int) (b0:List Int):Option (Int×List Int):=((B7 x1 b0).bind fun y1=>(some (y1.1,y1.2)))
theorem L4:Ts Hf Ew:=cT Dh rfl ⟨rfl,rfl⟩ (by kernel_rfl)
def KC:=cG GH (Au BL) (Au BL) kx
def KD:=kE 0 [] [1] 0 KC kx
def JC:St->Option (RT (CQ.outs BL)):=lG GG [] [0,1,5] 0 (Au BL) KD
def Do (x0:List Int) (x1 x2:Int):Option Int:=JC ⟨[(0,.lst .W x0),(1,.int .i64 x1),(5,.int .i64 x2)],[]⟩
def Fu (x0:List Int) (x1 x2:Int):Option Int:=(if (decide (x2<(x0.length:Int)))=true then (if 0<=x2 then (if x2<(x0.length:Int) then (if ((x0.getD x2.toNat 0) != x1)=true then (some (-1:Int)) else (Do x0 (i64.wrap (x1+1)) (i64.wrap (x2+1)))) else none) else none) else (some x1))
def Hg (x0:List Int) (x1:Int):Option Int:=(Do x0 x1 0)
theorem JD:Pd Fu Do:=lS (by kernel_rfl)
theorem L5:M0 Hg Dj:=cT BL rfl ⟨rfl,rfl⟩ (by kernel_rfl)
def Hh (x0:OR) (x1:Int):Option Int:=((Dj x0.2.2.2.2 x1).bind fun y1=>(if (decide (y1<0))=true then (some (-1:Int)) else (some y1)))
theorem L6:M0 Hh Ex:=cT Di rfl ⟨rfl,rfl⟩ (by kernel_rfl)
def Is (x0 x1:Aa):Option Bool:=(if (!(x0.1.toList==x1.1.toList))=true then (some false) else (if (!(x0.2.1.toList==x1.2.1.toList))=true then (some false) else (if (x0.2.2 != x1.2.2)=true then (some false) else (some true))))
theorem Ng:M0 Is Ee:=cT Eb rfl ⟨rfl,rfl⟩ (by kernel_rfl)
def LJ:=cG G8 (Au Be) (Au Be) kx
def LK:=kE 0 [] [] 0 LJ kx
def KE:St->Option (RT (CQ.outs Be)):=lG G7 [] [0,3] 0 (Au Be) LK
def Cx (x0:List Int) (x1:Int):Option Bool:=KE ⟨[(0,.lst .W x0),(3,.int .i64 x1)],[]⟩
def EC (x0:List Int) (x1:Int):Option Bool:=(if (decide (x1<(x0.length:Int)))=true then (if 0<=x1 then (if x1<(x0.length:Int) then ((DM (x0.getD x1.toNat 0) 1 6).bind fun y2=>(if (!y2)=true then (some false) else (if 0<=(0:Int) then (if 0<=x1 then (if x1<=(x0.length:Int) then (if 0<=x1 then (if x1<(x0.length:Int) then ((FJ ((x0.take x1.toNat).drop (0:Int).toNat) (x0.getD x1.toNat 0)).bind fun y3=>(if y3=true then (some false) else (Cx x0 (i64.wrap (x1+1))))) else none) else none) else none) else none) else none))) else none) else none) else (some true))
def H8 (x0:List Int):Option Bool:=((DM (x0.length:Int) 1 4).bind fun y1=>(if (!y1)=true then (some false) else (Cx x0 0)))
theorem GP:M0 EC Cx:=lS (by kernel_rfl)
theorem NJ:TC H8 Fo:=cT Be rfl ⟨rfl,rfl⟩ (by kernel_rfl)
def Gd:=cG Db (Au Ah) (Au Ah) kx
def Ge:=kE 0 [] [] 0 Gd kx
def F3:St->Option (RT (CQ.outs Ah)):=lG Da [] [0,1,7,8] 0 (Au Ah) Ge
def Az (x0:List Int) (x1 x2 x3:Int):Option Int:=F3 ⟨[(0,.lst .W x0),(1,.int .i64 x1),(7,.int .i64 x2),(8,.int .i64 x3)],[]⟩
def Ae (x0:List Int) (x1 x2 x3:Int):Option Int:=(if (decide (x3<x2))=true then (if 0<=x3 then (if x3<(x0.length:Int) then (if (x1==(x0.getD x3.toNat 0))=true then (some x3) else (Az x0 x1 x2 (i64.wrap (x3+1)))) else none) else none) else (some (-1:Int)))
def HS (x0:List Int) (x1:Int):Option Int:=(Az x0 x1 (x0.length:Int) 0)
theorem Ao:Ti Ae Az:=lS (by kernel_rfl)
theorem ED:M0 HS BH:=cT Ah rfl ⟨rfl,rfl⟩ (by kernel_rfl)
def JE:=cG Fj (Au BE) (Au BE) kx
def JF:=kE 0 [(3,0)] [3] 1 JE kx
def Ib:St->Option (RT (CQ.outs BE)):=lG Fi [(3,0)] [0,3,4] 1 (Au BE) JF
def CL (x0:List (List Int)) (x1:Int) (x2:List (List Int)):Option (List (List Int)):=Ib ⟨[(0,.lst .S x0),(3,.row 0),(4,.int .i64 x1)],[.rows 44 (.own 3 .W) x2]⟩
def Ic (x0:List (List Int)) (x1:Int) (x2:List (List Int)):Option (List (List Int)):=(if (decide (x1<(x0.length:Int)))=true then (if 0<=x1 then (if x1<(x0.length:Int) then ((Ed (x0.getD x1.toNat ([]:List Int))).bind fun y1=>(if 0<=x1 then (if x1<(x2.length:Int) then (let z2:List (List Int):=x2.set x1.toNat y1; (CL x0 (i64.wrap (x1+1)) z2)) else none) else none)) else none) else none) else (some x2))
def LL (x0:List (List Int)):Option (List (List Int)):=(if 0<=(x0.length:Int) then (if (x0.length:Int)<=68719476736 then (CL x0 0 (List.replicate (x0.length:Int).toNat ([]:List Int))) else none) else none)
theorem Id:Pd Ic CL:=lS (by kernel_rfl)
theorem LN:TC LL EP:=cT BE rfl ⟨rfl,rfl⟩ (by kernel_rfl)
end
end Go.Proofs.Ytffahmnodgnohaa.Core


namespace Go.Proofs.Ytffahmnodgnohaa.Core
open Go
theorem KF {n:Int} (h:-9223372036854775808<=n/\n<=9223372036854775807):IntKind.i64.wrap n=n:=IntWalk.i64_in n h
theorem B8 {i:Nat} (h:i<9223372036854775807):IntKind.i64.wrap ((i:Int)+1)=((i+1:Nat):Int):=by
 rw [KF (by omega)]
 omega
theorem Nh {P:Nat->Prop} {n:Nat} (h0:P n) (h:∀ i,i<n->P (i+1)->P i):∀ i,i<=n->P i:=by
 intro i hi
 induction hk:n-i generalizing i with
 | zero =>
  have:i=n:=by omega
  subst this
  exact h0
 | succ k ih=>exact h i (by omega) (ih (i+1) (by omega) (by omega))
theorem Cy {α:Type} {xs:List α} {i:Nat} {d:α} (h:i<xs.length):xs.getD i d=xs[i]:=by
 simp [List.getD,h]
theorem Rd {α:Type} {x:List α} {d:α} {i:Nat} (h:i<x.length) :
  (x.take i++List.replicate (x.length-i) d).set i x[i]=x.take (i+1)++List.replicate (x.length-(i+1)) d:=by
 have e:x.length-i=(x.length-(i+1))+1:=by omega
 have l:(x.take i).length=i:=by rw [List.length_take]; omega
 rw [List.set_append_right _ _ (by omega),l,e,List.replicate_succ,Nat.sub_self,List.set_cons_zero]
 have:=List.take_append_getElem (l:=x) (i:=i) h
 rw [<- this,BN]
 rfl
theorem Re {n:Int} {m:Nat} (hm:m<=maxLen) (hn:0<=n/\n<=4611686018427387904) (h:¬ IntKind.i64.wrap (n-(m:Int))<0):(m:Int)<=n:=by
 have:m<=9223372036854775807:=hm
 rw [KF (by omega)] at h
 omega

def Kd.small:(K:Kd)->K.T->Prop
 | .slice e,xs=>xs.length<=68719476736/\∀ x∈xs,Kd.small e x
 | .pair a b,x=>a.small x.1/\b.small x.2
 | .int _,_=>True
 | .bool,_=>True
 | .str,_=>True
 | .own _ _,_=>True
 | .ref _,_=>True
 | .fun _,_=>True
 | .clo _ _,_=>True
def SX (K:Kd) (f:K.T->Option K.T):Prop:=∀ x,K.small x->f x=some x
def Pe (K:Kd) (f:K.T->K.T->Option Bool):Prop:=∀ x,K.small x->f x x=some true
theorem NK {α:Type} {x:List α} {d:α} {L:Int->List α->Option (List α)} {f:α->Option α} (hf:∀ a∈x,f a=some a) (hn:x.length<=68719476736)
  (h:∀ i z r,(if decide (i<(x.length:Int))=true then (if 0<=i then (if i<(x.length:Int) then ((f (x.getD i.toNat d)).bind fun y=>(if 0<=i then (if i<(z.length:Int) then (let z2:=z.set i.toNat y; L (IntKind.i64.wrap (i+(1:Int))) z2) else none) else none)) else none) else none) else some z)=some r->L i z=some r) :
  L 0 (List.replicate x.length d)=some x:=by
 have:=Nh (n:=x.length) (P:=fun i=>L (i:Int) (x.take i++List.replicate (x.length-i) d)=some x) (by
  refine h _ _ _ ?_
  simp) (fun i hi ih=>by
  refine h _ _ _ ?_
  simp only [show ((i:Int)<(x.length:Int)) from by omega,decide_true,if_true,show (0:Int)<=(i:Int) from by omega,DU,Cy hi,hf _ (FB _),U,B8 (show i<9223372036854775807 by omega)]
  rw [if_pos (by simp; omega),Rd hi]
  exact ih) 0 (by omega)
 simpa using this
theorem NL {α:Type} {x:List α} {d:α} {L:Int->Option Bool} {f:α->α->Option Bool} (hf:∀ a∈x,f a a=some true) (hn:x.length<=68719476736)
  (h:∀ i r,(if decide (i<(x.length:Int))=true then (if 0<=i then (if i<(x.length:Int) then (if 0<=i then (if i<(x.length:Int) then ((f (x.getD i.toNat d) (x.getD i.toNat d)).bind fun y=>(if (!y)=true then some false else L (IntKind.i64.wrap (i+(1:Int))))) else none) else none) else none) else none) else some true)=some r->L i=some r) :
  L 0=some true :=
 Nh (n:=x.length) (P:=fun i=>L (i:Int)=some true) (by
  refine h _ _ ?_
  simp) (fun i hi ih=>by
  refine h _ _ ?_
  simp only [show ((i:Int)<(x.length:Int)) from by omega,decide_true,if_true,show (0:Int)<=(i:Int) from by omega,DU,hf _ (Cy hi▸FB _),U,B8 (show i<9223372036854775807 by omega)]
  simpa using ih) 0 (by omega)
theorem P9 {e:Kd} {f:e.T->Option e.T} (hf:SX e f) {d:e.T} {x:List e.T} (hx:(Kd.slice e).small x) {L:Int->List e.T->Option (List e.T)}
  (h:∀ i z r,(if decide (i<(x.length:Int))=true then (if 0<=i then (if i<(x.length:Int) then ((f (x.getD i.toNat d)).bind fun y=>(if 0<=i then (if i<(z.length:Int) then (let z2:=z.set i.toNat y; L (IntKind.i64.wrap (i+(1:Int))) z2) else none) else none)) else none) else none) else some z)=some r->L i z=some r) :
  (if 0<=(x.length:Int) then (if (x.length:Int)<=68719476736 then L 0 (List.replicate (x.length:Int).toNat d) else none) else none)=some x:=by
 have:=hx.1
 rw [if_pos (by omega),if_pos (by omega)]
 exact NK (fun a ha=>hf a (hx.2 a ha)) hx.1 h
theorem SY {α:Type} {d:α} {x:List α} (hx:x.length<=68719476736) {L:Int->List α->Option (List α)}
  (h:∀ i z r,(if decide (i<(x.length:Int))=true then (if 0<=i then (if i<(x.length:Int) then (if 0<=i then (if i<(z.length:Int) then (let z2:=z.set i.toNat (x.getD i.toNat d); L (IntKind.i64.wrap (i+(1:Int))) z2) else none) else none) else none) else none) else some z)=some r->L i z=some r) :
  (if 0<=(x.length:Int) then (if (x.length:Int)<=68719476736 then L 0 (List.replicate (x.length:Int).toNat d) else none) else none)=some x:=by
 rw [if_pos (by omega),if_pos (by omega)]
 refine NK (f:=fun a=>some a) (fun _ _=>rfl) hx (fun i z r hr=>h i z r ?_)
 simpa only [U] using hr
theorem P_ {e:Kd} {f:e.T->e.T->Option Bool} (hf:Pe e f) {d:e.T} {x:List e.T} (hx:(Kd.slice e).small x) {L:Int->Option Bool}
  (h:∀ i r,(if decide (i<(x.length:Int))=true then (if 0<=i then (if i<(x.length:Int) then (if 0<=i then (if i<(x.length:Int) then ((f (x.getD i.toNat d) (x.getD i.toNat d)).bind fun y=>(if (!y)=true then some false else L (IntKind.i64.wrap (i+(1:Int))))) else none) else none) else none) else none) else some true)=some r->L i=some r) :
  (if ((x.length:Int) != (x.length:Int))=true then some false else L 0)=some true:=by
 rw [if_neg (by simp)]
 exact NL (fun a ha=>hf a (hx.2 a ha)) hx.1 h
theorem SZ {α:Type} {c:α->α->Bool} (hc:∀ a,c a a=false) {d:α} {x:List α} (hx:x.length<=68719476736) {L:Int->Option Bool}
  (h:∀ i r,(if decide (i<(x.length:Int))=true then (if 0<=i then (if i<(x.length:Int) then (if 0<=i then (if i<(x.length:Int) then (if c (x.getD i.toNat d) (x.getD i.toNat d)=true then some false else L (IntKind.i64.wrap (i+(1:Int)))) else none) else none) else none) else none) else some true)=some r->L i=some r) :
  (if ((x.length:Int) != (x.length:Int))=true then some false else L 0)=some true:=by
 rw [if_neg (by simp)]
 refine NL (d:=d) (f:=fun a b=>some (!c a b)) (fun a _=>by rw [hc]; rfl) hx (fun i r hr=>h i r ?_)
 simpa only [U,Bool.not_not] using hr

theorem H9:SX (.slice (.int .i64)) Ed:=fun x hx=>Nb (SY hx.1 (L:=fun i z=>DP x i z) (fun i z r h=>LB h))
theorem L7:SX (.slice (.slice (.int .i64))) C6:=fun x hx=>M_ (P9 H9 hx (L:=fun i z=>Cr x i z) (fun i z r h=>Jx h))
theorem H_:Pe Av Ee:=fun x hx=>Ng (by
 unfold Is
 simp [It])
theorem L8:Pe (.slice Av) Fm:=fun x hx=>ND (P_ H_ hx (L:=fun i=>Ct x x i) (fun i r h=>J5 h))
theorem Fv:Pe (.slice (.int .i64)) Dc:=fun x hx=>Nd (SZ (c:=fun a b:Int=>a != b) (fun a=>by simp [It]) hx.1 (L:=fun i=>DQ x x i) (fun i r h=>LI h))
theorem NM:Pe Fa Gb:=fun x hx=>Nf (by
 unfold Ir
 simp [H_ x.2.2.2.1 hx.2.2.2.1,Fv x.2.2.2.2 hx.2.2.2.2,It])
theorem LO:Pe Ay Cd:=fun x hx=>Ly (by
 unfold Hc
 simp [Fv x.2.2.2.2.2.2.1 hx.2.2.2.2.2.2.1,L8 x.2.2.2.2.2.2.2.1 hx.2.2.2.2.2.2.2.1,NM x.2.2.2.2.2.2.2.2.2 hx.2.2.2.2.2.2.2.2.2,It])
theorem L9:Pe (.slice (.slice (.int .i64))) Fl:=fun x hx=>NB (P_ Fv hx (L:=fun i=>Cs x x i) (fun i r h=>J0 h))
theorem KG:SX (.slice (.slice (.int .i64))) EP:=fun x hx=>LN (P9 H9 hx (L:=fun i z=>CL x i z) (fun i z r h=>Id h))

theorem O_ {α:Type} {p r:List α} {v w:α} {i:Nat} (h:p.length=i):(p++v::r).set i w=p++w::r:=by
 subst h
 rw [List.set_append_right _ _ (Nat.le_refl _),Nat.sub_self,List.set_cons_zero]
theorem Rf {α:Type} {p r:List α} {v d:α} {i:Nat} (h:p.length=i):(p++v::r).getD i d=v:=by
 subst h
 simp [List.getD]

theorem KH:∀ (r p:List Int) (k:Int),0<=k->k+(r.length:Int)<=4611686018427387904->p.length+r.length<=4611686018427387904 ->
  ∃ z,Ca k (p.length:Int) (p++r)=some (k+(r.length:Int),z)
 | [],p,k,h0,h1,h2=>⟨p++[],Dn (by
  unfold Cb
  rw [if_neg (by simp)]
  simp)⟩
 | v::r,p,k,h0,h1,h2=>by
  simp only [List.length_cons] at h1 h2
  obtain ⟨z,ih⟩:=KH r (p++[k]) (k+1) (by omega) (by omega) (by simp only [List.length_append,List.length_cons,List.length_nil]; omega)
  refine ⟨z,Dn ?_⟩
  unfold Cb
  have w1:IntKind.i64.wrap (k+1)=k+1:=KF (by omega)
  have hl:∀ m:Int,((p.length:Int)<((p++m::r).length:Int)):=fun m=>by simp only [List.length_append,List.length_cons]; omega
  simp only [List.length_append,List.length_cons,List.length_nil,BN,List.cons_append,List.nil_append] at ih
  simp only [hl,decide_true,if_true,show (0:Int)<=(p.length:Int) from by omega,w1,DU,O_ rfl,B8 (show p.length<9223372036854775807 by omega)]
  rw [show p.length+(0+1)=p.length+1 from rfl] at ih
  rw [ih]
  simp only [List.length_cons]
  congr 2
  omega
theorem JG (k:Int) (x:List Int) (h0:0<=k) (h1:k<=1152921504606846976) (hx:x.length<=68719476736):∃ z,B7 k x=some (k+(x.length:Int),z):=by
 obtain ⟨z,hz⟩:=KH x [] k h0 (by omega) (by simp; omega)
 refine ⟨z,He ?_⟩
 unfold Ez
 simpa using hz
theorem E_ (k:Int):B7 k []=some (k,[]):=He (by
 unfold Ez
 exact Dn (by unfold Cb; rfl))
theorem IA (k:Int):EN k []=some (k,[]):=K6 (by
 unfold HA
 exact IY (by unfold E8; rfl))
theorem FA (k:Int):Dj [] k=some k:=L5 (by
 unfold Hg
 exact JD (by unfold Fu; rfl))
theorem IB (k:Int):EO [] k=some k:=K7 (by
 unfold HB
 exact Ia (by unfold E9; rfl))
theorem PA (a b c d e f g h i j k l m:_):D6 a b c d e f g h i j k l m 1 [] [] []=some (1,[],[],[]):=J1 (by
 unfold GI
 rw [E_,U,IA,U,show Ew h i j k l m (1:Int) []=some (1,[]) from L4 (by
  unfold Hf
  rw [E_]
  rfl)]
 rfl)

theorem Ce (a b c:Int):DM a b c=some (decide (b<=a)&&decide (a<=c)):=OU (by
 unfold J6
 by_cases h:b<=a<;>simp [h])
theorem EE (a b c:Int):C7 a b c=some (decide (b<=a)&&decide (a<=c)):=NE (by
 unfold H5
 by_cases h:b<=a<;>simp [h])

theorem FQ {α:Type} {x:List α} {i:Nat} (h:i<x.length):x.drop i=x[i]::x.drop (i+1):=List.drop_eq_getElem_cons h

theorem DR n:Ec n=some (decide (1<=n)&&decide (n<=6)):=NZ (by simp [Ip,EE])

theorem LP (x:List Int) (hx:x.length<=maxLen) (n:Int) (hn:0<=n/\n<=68719476736):∃ r,Ga x n=some r/\(r<0\/((x.length:Int)<=n/\0<=r/\r<=n)):=by
 have hm:x.length<=9223372036854775807:=hx
 by_cases h:IntKind.i64.wrap (n-(x.length:Int))<0
 ·exact ⟨-1,Iq (by unfold Gc; rw [if_pos (by simpa using h)]),.inl (by omega)⟩
 ·have e:IntKind.i64.wrap (n-(x.length:Int))=n-x.length:=KF (by omega)
  exact ⟨_,Iq (by unfold Gc; rw [if_neg (by simpa using h)]),.inr (by omega)⟩
theorem KI (x:List (List Int)) (hx:x.length<=maxLen) (hok:∀ a∈x,a.length<=maxLen) (n:Int) (hn:0<=n/\n<=68719476736):∃ r,Fk x n=some r/\(r<0\/((x.length:Int)<=n/\∀ a∈x,(a.length:Int)<=n)):=by
 have hm:x.length<=9223372036854775807:=hx
 by_cases h:IntKind.i64.wrap (n-(x.length:Int))<0
 ·exact ⟨-1,Hz (by unfold Ft; rw [if_pos (by simpa using h)]),.inl (by omega)⟩
 ·have hl:=Re hx (by omega) h
  have key:=Nh (n:=x.length) (P:=fun i=>∀ m:Int,0<=m->m<=n->∃ r,Cp x m (i:Int)=some r/\(r<0\/∀ a∈x.drop i,(a.length:Int)<=n)) (fun m _ _=>⟨m,D8 (by
   unfold Cq
   rw [if_neg (by simp)]),.inr (by simp)⟩) (fun i hi ih m hm0 hmn=>by
   obtain ⟨s,hs,hso⟩:=LP x[i] (hok _ (FB _)) m (by omega)
   by_cases h3:s<0
   ·refine ⟨-1,D8 ?_,.inl (by omega)⟩
    unfold Cq
    simp only [show ((i:Int)<(x.length:Int)) from by omega,decide_true,if_true,show (0:Int)<=(i:Int) from by omega,DU,Cy hi,hs,U]
    rw [if_pos (by simpa using h3)]
   ·rcases hso with hso | ⟨hsl,hs0,hsm⟩
    ·omega
    obtain ⟨r,hr,ho⟩:=ih s (by omega) (by omega)
    refine ⟨r,D8 ?_,ho.imp id fun ho a ha=>?_⟩
    ·unfold Cq
     simp only [show ((i:Int)<(x.length:Int)) from by omega,decide_true,if_true,show (0:Int)<=(i:Int) from by omega,DU,Cy hi,hs,U,B8 (show i<9223372036854775807 by omega)]
     rw [if_neg (by simpa using h3)]
     exact hr
    ·rw [FQ hi] at ha
     rcases AH.1 ha with rfl | ha
     ·omega
     ·exact ho a ha) 0 (by omega)
  have e:IntKind.i64.wrap (n-(x.length:Int))=n-x.length:=KF (by omega)
  obtain ⟨r,hr,ho⟩:=key (n-x.length) (by omega) (by omega)
  exact ⟨r,Hz (by unfold Ft; rw [if_neg (by simpa using h),e]; exact hr),ho.imp id fun ho=>⟨hl,by simpa using ho⟩⟩
theorem Hi (x:List Int) (n:Int) (h:x.length<=maxLen):FJ x n=some (x.contains n):=OV (by
 have hm:x.length<=9223372036854775807:=h
 unfold J8
 have:=Nh (n:=x.length) (P:=fun i=>Dl x n (i:Int)=some ((x.drop i).contains n)) (Hd (by
  unfold Ey
  rw [if_neg (by simp),List.drop_length]
  rfl)) (fun i hi ih=>Hd (by
  unfold Ey
  simp only [show ((i:Int)<(x.length:Int)) from by omega,decide_true,if_true,show (0:Int)<=(i:Int) from by omega,DU,Cy hi,B8 (show i<9223372036854775807 by omega)]
  rw [FQ hi,List.contains_cons,ih]
  by_cases e:x[i]=n
  ·subst e
   simp
  ·simp [e,Ne.symm e])) 0 (by omega)
 simpa using this)
theorem TD (x:List Int) (i:Nat) (hi:i<x.length) (h:x.length<=maxLen):∃ r,BH x x[i]=some r/\((r=(i:Int))↔x[i]∉x.take i):=by
 have hm:x.length<=9223372036854775807:=h
 have key:=Nh (n:=i) (P:=fun k=>∃ r,Az x x[i] (x.length:Int) (k:Int)=some r/\(k:Int)<=r/\((r=(i:Int))↔∀ m (hm:m<i),k<=m->x[m]≠x[i])) ⟨i,Ao (by
  unfold Ae
  simp only [show ((i:Int)<(x.length:Int)) from by omega,decide_true,if_true,show (0:Int)<=(i:Int) from by omega,DU,Cy hi]
  simp),by omega,⟨fun _ m hm hk=>by omega,fun _=>rfl⟩⟩ (fun k hk ⟨r,hr,hkr,hiff⟩=>by
  have hk2:k<x.length:=by omega
  by_cases e:x[i]=x[k]
  ·refine ⟨k,Ao ?_,by omega,⟨fun he=>by omega,fun hall=>absurd e.symm (hall k hk (by omega))⟩⟩
   unfold Ae
   simp only [show ((k:Int)<(x.length:Int)) from by omega,decide_true,if_true,show (0:Int)<=(k:Int) from by omega,DU,Cy hk2]
   rw [if_pos (by simpa using e)]
  ·refine ⟨r,Ao ?_,by omega,hiff.trans ⟨fun hall m hm hkm=>?_,fun hall m hm hkm=>hall m hm (by omega)⟩⟩
   ·unfold Ae
    simp only [show ((k:Int)<(x.length:Int)) from by omega,decide_true,if_true,show (0:Int)<=(k:Int) from by omega,DU,Cy hk2,B8 (show k<9223372036854775807 by omega)]
    rw [if_neg (by simpa using e)]
    exact hr
   ·rcases Ai k m with h1 | h1
    ·exact hall m hm h1
    ·have:m=k:=by omega
     subst this
     exact fun h=>e h.symm) 0 (by omega)
 obtain ⟨r,hr,_,hiff⟩:=key
 refine ⟨r,ED hr,hiff.trans ⟨fun hall hmem=>?_,fun hn m hm _ he=>hn ?_⟩⟩
 ·obtain ⟨m,hm,he⟩:=List.mem_take_iff_getElem.1 hmem
  exact hall m (by omega) (by omega) he
 ·exact List.mem_take_iff_getElem.2 ⟨m,by omega,he⟩
def EU (v:List Int) (i:Nat):Nat->Bool
 | 0=>true
 | k+1=>(decide (1<=v.getD i 0)&&decide (v.getD i 0<=6))&&!(v.take i).contains (v.getD i 0)&&EU v (i+1) k
def JH (v:List Int):Bool:=(decide (1<=(v.length:Int))&&decide ((v.length:Int)<=4))&&EU v 0 v.length
def BJ (x:List (List Int)) (n:Nat):List (List Int)->Bool
 | []=>decide (1<=(n:Int))&&decide ((n:Int)<=9)
 | v::r=>JH v&&BJ x n r
theorem KJ (v:List Int) (h:v.length<=maxLen):Fo v=some (JH v):=NJ (by
 have hm:v.length<=9223372036854775807:=h
 unfold H8 JH
 simp only [Ce,U]
 have:=Nh (n:=v.length) (P:=fun i=>Cx v (i:Int)=some (EU v i (v.length-i))) (GP (by
  unfold EC
  rw [if_neg (by simp),Nat.sub_self]
  rfl)) (fun i hi ih=>GP (by
  unfold EC
  have e:v.length-i=(v.length-(i+1))+1:=by omega
  rw [e,EU]
  simp only [show ((i:Int)<(v.length:Int)) from by omega,show ((i:Int)<=(v.length:Int)) from by omega,decide_true,if_true,show (0:Int)<=(i:Int) from by omega,DU,Ce,U,B8 (show i<9223372036854775807 by omega),ih,Int.toNat_zero,List.drop_zero,Int.le_refl,
   Hi (v.take i) _ (by rw [List.length_take]; omega)]
  generalize (decide (1<=v.getD i 0)&&decide (v.getD i 0<=6))=a
  generalize (v.take i).contains (v.getD i 0)=b
  cases a<;>cases b<;>simp)) 0 (by omega)
 simp only [Int.ofNat_zero,Nat.sub_zero] at this
 generalize (decide (1<=(v.length:Int))&&decide ((v.length:Int)<=4))=a
 cases a
 ·simp
 ·simpa using this)
theorem EF (x:List (List Int)) (h:x.length<=maxLen) (ho:∀ a∈x,a.length<=maxLen):D7 x=some (BJ x x.length x):=NF (by
 have hm:x.length<=9223372036854775807:=h
 unfold H6
 exact Nh (n:=x.length) (P:=fun i=>Cu x (i:Int)=some (BJ x x.length (x.drop i))) (GK (by
  unfold D9
  rw [if_neg (by simp),List.drop_length,Ce]
  rfl)) (fun i hi ih=>GK (by
  unfold D9
  simp only [show ((i:Int)<(x.length:Int)) from by omega,decide_true,if_true,show (0:Int)<=(i:Int) from by omega,DU,Cy hi,KJ x[i] (ho _ (FB _)),U,B8 (show i<9223372036854775807 by omega),ih]
  rw [FQ hi,BJ]
  generalize JH x[i]=a
  cases a<;>simp)) 0 (by omega))
theorem GQ (x:List (List Int)) (h:x.length<=maxLen) (ho:∀ a∈x,a.length<=maxLen):Fn x=some (BJ x x.length x):=NI (by
 have hm:x.length<=9223372036854775807:=h
 unfold H7
 exact Nh (n:=x.length) (P:=fun i=>Cw x x (x.length:Int) (i:Int)=some (BJ x x.length (x.drop i))) (GO (by
  unfold EB
  rw [if_neg (by simp),List.drop_length,EE]
  rfl)) (fun i hi ih=>GO (by
  unfold EB
  simp only [show ((i:Int)<(x.length:Int)) from by omega,decide_true,if_true,show (0:Int)<=(i:Int) from by omega,DU,Cy hi]
  rw [FQ hi,BJ]
  have hv:=ho x[i] (FB _)
  generalize x[i]=v at hv
  have hvm:v.length<=9223372036854775807:=hv
  have wj:D_ x v x (x.length:Int) (i:Int)=some ((decide (1<=(v.length:Int))&&decide ((v.length:Int)<=4))&&BJ x x.length (x.drop (i+1))):=J_ (by
   unfold GM
   rw [EE,U,B8 (show i<9223372036854775807 by omega),ih]
   generalize (decide (1<=(v.length:Int))&&decide ((v.length:Int)<=4))=a
   cases a<;>simp)
  have:=Nh (n:=v.length) (P:=fun j=>Cv x v x (x.length:Int) (i:Int) v (v.length:Int) (j:Int)=some (EU v j (v.length-j)&&((decide (1<=(v.length:Int))&&decide ((v.length:Int)<=4))&&BJ x x.length (x.drop (i+1))))) (GN (by
   unfold EA
   rw [if_neg (by simp),Nat.sub_self,wj]
   rfl)) (fun j hj ihj=>GN (by
   unfold EA
   have e:v.length-j=(v.length-(j+1))+1:=by omega
   obtain ⟨r,hr,hiff⟩:=TD v j hj hv
   rw [e,EU]
   simp only [show ((j:Int)<(v.length:Int)) from by omega,decide_true,if_true,show (0:Int)<=(j:Int) from by omega,DU,DR,U,B8 (show j<9223372036854775807 by omega),ihj,Cy hj,hr]
   have hb:(r != (j:Int))=(v.take j).contains v[j]:=by
    by_cases e2:r=(j:Int)
    ·have:=hiff.1 e2
     simp [e2,this]
    ·have:v[j]∈v.take j:=Classical.byContradiction fun hn=>e2 (hiff.2 hn)
     simp [e2,this]
   rw [hb]
   generalize (decide (1<=v[j])&&decide (v[j]<=6))=a
   generalize (v.take j).contains v[j]=b
   cases a<;>cases b<;>simp)) 0 (by omega)
  simp only [Int.ofNat_zero,Nat.sub_zero] at this
  unfold JH
  refine Eq.trans this ?_
  congr 1
  generalize EU v 0 v.length=a
  generalize (decide (1<=(v.length:Int))&&decide ((v.length:Int)<=4))=b
  cases a<;>cases b<;>simp)) 0 (by omega))

def Sa (a:ByteArray×ByteArray×Int):Bool:=(decide (1<=(a.1.size:Int))&&decide ((a.1.size:Int)<=12))&&decide ((a.2.1.size:Int)<=20)&&(decide (1<=a.2.2)&&decide (a.2.2<=1000000000))
def N2 (x:List (ByteArray×ByteArray×Int)) (i:Nat):Nat->Bool
 | 0=>decide ((x.length:Int)<=12)
 | k+1=>Sa (x.getD i (AR,AR,0))&&(decide (i=0)||Op.bytesLess (x.getD (i-1) (AR,AR,0)).1.toList (x.getD i (AR,AR,0)).1.toList)&&N2 x (i+1) k

abbrev QA:Type:=ByteArray×ByteArray×Int
def QB (x:List QA):Bool:=N2 x 0 x.length





abbrev Rg:Type:=Int×Int×Int×(ByteArray×ByteArray×Int)×List Int
abbrev GR:Type:=Int×Int×Bool×Bool×Bool×Bool×List Int×List (ByteArray×ByteArray×Int)×Int×Rg
def TE (t:Rg):Bool:=(t.1==0)&&(t.2.1==0)&&(t.2.2.1==0)&&It (.pair .str (.pair .str (.int .i64))) t.2.2.2.1 (AR,AR,(0:Int))&&((t.2.2.2.2.length:Int)==0)
def Rh (t:Rg) (serves:Bool):Bool:=(t.1==1||t.1==2)&&serves&&(decide (0<=t.2.1)&&decide (t.2.1<=1000))&&(decide (1<=t.2.2.1)&&decide (t.2.2.1<=900))

abbrev Tp:Type:=Int×Int×Int×Int×Int×List (ByteArray×ByteArray×Int)

def Tt (v:List Int):Prop:=(∀ a∈v,1<=a/\a<=6)/\v.Pairwise (· < ·)
structure Tz (m:GR):Prop where
 id:1<=m.1/\m.1<=6
 ep:1<=m.2.1/\m.2.1<=9
 serves:m.2.2.2.2.2.1=true->m.2.2.2.1=true/\m.2.2.2.2.1=true/\m.2.2.2.2.2.2.1=[]
 fell:m.2.2.1=true->m.2.2.2.1=false/\m.2.2.2.2.1=false
 waits:Tt m.2.2.2.2.2.2.1
 left:Tt m.2.2.2.2.2.2.2.2.2.2.2.2.2
 items:QB m.2.2.2.2.2.2.2.1=true
 count:0<=m.2.2.2.2.2.2.2.2.1/\m.2.2.2.2.2.2.2.2.1<=900
 task:TE m.2.2.2.2.2.2.2.2.2=true\/Rh m.2.2.2.2.2.2.2.2.2 m.2.2.2.2.2.1=true

structure Sb (views:List (List Int)):Prop where
 ok:BJ views views.length views=true
theorem Gf {n:Nat}:∀ {l:List (List Int)} {x:List (List Int)},BJ x n l=true↔(∀ v∈l,JH v=true)/\1<=n/\n<=9
 | [],x=>by simp [BJ]; omega
 | v::l,x=>by
  rw [BJ,E,Gf]
  simp [and_assoc]
theorem Sb.len {views:List (List Int)} (h:Sb views):1<=views.length/\views.length<=9:=(Gf.1 h.ok).2
theorem Sb.view {views:List (List Int)} (h:Sb views) {v:List Int} (hv:v∈views):1<=v.length/\v.length<=4:=by
 have:=(Gf.1 h.ok).1 v hv
 unfold JH at this
 simp only [E,decide_eq_true_eq] at this
 omega
theorem Sb.get {views:List (List Int)} (h:Sb views) {i:Nat} (hi:i<views.length):1<=(views.getD i []).length/\(views.getD i []).length<=4:=by
 rw [Cy hi]
 exact h.view (FB hi)
theorem KK {views:List (List Int)} (h:Sb views):D7 views=some true:=by
 rw [EF views (by have:=h.len; unfold maxLen; omega) (fun a ha=>by have:=h.view ha; unfold maxLen; omega),h.ok]

structure T0 (x:Tp):Prop where
 kind:1<=x.1/\x.1<=8
 frm:1<=x.2.1/\x.2.1<=6
 to:1<=x.2.2.1/\x.2.2.1<=6
 ep:1<=x.2.2.2.1/\x.2.2.2.1<=9
 num:0<=x.2.2.2.2.1/\x.2.2.2.2.1<=1000000000
 items:QB x.2.2.2.2.2=true
 shape:if x.1=2\/x.1=3 then True else if x.1=5 then x.2.2.2.2.2.length=1 else x.2.2.2.2.2=[]



def Pf (id:Int) (views:List (List Int)):GR :=
 (id,(1:Int),false,(views.getD 0 []).contains id,((views.getD 0 []).getD 0 0==id),((views.getD 0 []).getD 0 0==id),([]:List Int),([]:List QA),(0:Int),(0:Int),(0:Int),(0:Int),(AR,AR,(0:Int)),([]:List Int))
theorem Ie (id:Int) (views:List (List Int)) (hi:1<=id/\id<=6) (hv:Sb views):DL id views=some (Pf id views,true):=EQ (by
 have hvl:=hv.len
 have g:=hv.get (i:=0) (by omega)
 unfold DN
 rw [KK hv,U,if_pos (by rfl),Ce,U,if_neg (by rw [<- Bool.decide_and,decide_eq_true hi]; simp)]
 refine IU ?_
 unfold E4
 rw [show views.getD (0:Int).toNat ([]:List Int)=views.getD 0 [] from rfl,Hi _ _ (by unfold maxLen; omega),U]
 repeat rw [if_pos (by omega)]
 rfl)

theorem PB (x:List Int) (n:Int) (h:x.length<=maxLen):B6 x n=some (x.contains n):=F0 (by
 have hm:x.length<=9223372036854775807:=h
 have key:=Nh (n:=x.length) (P:=fun i=>∃ r,Az x n (x.length:Int) (i:Int)=some r/\(decide (r>=0)=(x.drop i).contains n)) ⟨-1,Ao (by
  unfold Ae
  rw [if_neg (by simp)]),by simp⟩ (fun i hi ⟨r,hr,hc⟩=>by
  by_cases e:n=x[i]
  ·refine ⟨(i:Int),Ao ?_,?_⟩
   ·unfold Ae
    simp only [show ((i:Int)<(x.length:Int)) from by omega,decide_true,if_true,show (0:Int)<=(i:Int) from by omega,DU,Cy hi]
    rw [if_pos (by simpa using e)]
   ·rw [FQ hi,List.contains_cons,e]
    simp only [beq_self_eq_true,Bool.true_or]
    exact decide_eq_true (by omega)
  ·refine ⟨r,Ao ?_,?_⟩
   ·unfold Ae
    simp only [show ((i:Int)<(x.length:Int)) from by omega,decide_true,if_true,show (0:Int)<=(i:Int) from by omega,DU,Cy hi,B8 (show i<9223372036854775807 by omega)]
    rw [if_neg (by simpa using e)]
    exact hr
   ·rw [FQ hi,hc,List.contains_cons]
    simp [e]) 0 (by omega)
 obtain ⟨r,hr,hc⟩:=key
 unfold DS
 have:BH x n=some r:=ED hr
 rw [this,U,hc,List.drop_zero])

theorem IC:∀ (r p:List (List Int)) (k:Int),0<=k->k+1048576*(r.length:Int)<=1152921504606846976->p.length+r.length<=4611686018427387904->(∀ a∈r,a.length<=1048576) ->
  ∃ k' z,CK k (p.length:Int) (p++r)=some (k',z)/\0<=k'
 | [],p,k,h0,h1,h2,h3=>⟨k,p++[],E7 (by
  unfold DW
  rw [if_neg (by simp)]),h0⟩
 | v::r,p,k,h0,h1,h2,h3=>by
  simp only [List.length_cons] at h1 h2
  have hv:=h3 v (by simp)
  obtain ⟨zv,hz⟩:=JG k v h0 (by omega) (by omega)
  obtain ⟨k',z,ih,hk'⟩:=IC r (p++[zv]) (k+(v.length:Int)) (by omega) (by omega) (by simp only [List.length_append,List.length_cons,List.length_nil]; omega) fun a ha=>h3 a (by simp [ha])
  refine ⟨k',z,E7 ?_,hk'⟩
  unfold DW
  have hl:∀ m:List Int,((p.length:Int)<((p++m::r).length:Int)):=fun m=>by simp only [List.length_append,List.length_cons]; omega
  simp only [List.length_append,List.length_cons,List.length_nil,BN,List.cons_append,List.nil_append] at ih
  simp only [hl,decide_true,if_true,show (0:Int)<=(p.length:Int) from by omega,DU,O_ rfl,Rf rfl,hz,U,B8 (show p.length<9223372036854775807 by omega)]
  rw [show p.length+(0+1)=p.length+1 from rfl] at ih
  exact ih
theorem If (x:List (List Int)) (h1:x.length<=1048576) (h2:∀ a∈x,a.length<=1048576):∃ k z,EM 1 x=some (k,z)/\0<=k:=by
 obtain ⟨k,z,h,h0⟩:=IC x [] 1 (by omega) (by omega) (by simp; omega) h2
 exact ⟨k,z,K3 (by unfold G_; simpa using h),h0⟩
def TV:GR:=((0:Int),(0:Int),false,false,false,false,([]:List Int),([]:List QA),(0:Int),(0:Int),(0:Int),(0:Int),(AR,AR,(0:Int)),([]:List Int))
open Classical in
noncomputable def Pg (id:Int) (views:List (List Int)):GR×Bool:=if (1<=id/\id<=6)/\BJ views views.length views=true then (Pf id views,true) else (TV,false)
theorem JI (id:Int) (views:List (List Int)) (hi:1<=id/\id<=6) (hv:Sb views) (h:views.length<=maxLen) (ho:∀ a∈views,a.length<=maxLen):CO id views=some (Pf id views,true):=ER (by
 have hvl:=hv.len
 have g:=hv.get (i:=0) (by omega)
 unfold DO
 rw [DR,U,if_pos (by rw [<- Bool.decide_and,decide_eq_true hi]; rfl),GQ _ h ho,U,if_neg (by simp [hv.ok])]
 refine IV ?_
 unfold E6
 rw [show views.getD (0:Int).toNat ([]:List Int)=views.getD 0 [] from rfl,PB _ _ (by unfold maxLen; omega),U]
 repeat rw [if_pos (by omega)]
 rfl)
theorem JJ (id:Int) (views:List (List Int)) (h:views.length<=maxLen) (ho:∀ a∈views,a.length<=maxLen):CO id views=some (Pg id views):=by
 unfold Pg
 by_cases hi:1<=id/\id<=6
 ·by_cases hv:BJ views views.length views=true
  ·rw [if_pos ⟨hi,hv⟩]; exact JI id views hi ⟨hv⟩ h ho
  ·rw [if_neg (fun h=>hv h.2)]
   refine ER ?_
   unfold DO
   rw [DR,U,if_pos (by rw [<- Bool.decide_and,decide_eq_true hi]; rfl),GQ _ h ho,U,if_pos (by simpa using hv)]
   rfl
 ·rw [if_neg (fun h=>hi h.1)]
  refine ER ?_
  unfold DO
  rw [DR,U,if_neg (by rw [<- Bool.decide_and,decide_eq_false hi]; simp)]
  rfl
theorem JK (id:Int) (views:List (List Int)) (h:views.length<=maxLen) (ho:∀ a∈views,a.length<=maxLen):DL id views=some (Pg id views):=by
 unfold Pg
 by_cases hv:BJ views views.length views=true
 ·by_cases hi:1<=id/\id<=6
  ·rw [if_pos ⟨hi,hv⟩]; exact Ie id views hi ⟨hv⟩
  ·rw [if_neg (fun h=>hi h.1)]
   refine EQ ?_
   unfold DN
   rw [EF _ h ho,U,if_pos (by simp [hv]),Ce,U,if_pos (by rw [<- Bool.decide_and,decide_eq_false hi]; rfl)]
   rfl
 ·rw [if_neg (fun h=>hv h.2)]
  refine EQ ?_
  unfold DN
  rw [EF _ h ho,U,if_neg (by simpa using hv)]
  rfl
def Sc (m:GR):Prop:=m.2.2.2.2.2.2.1=[]/\m.2.2.2.2.2.2.2.1=[]/\m.2.2.2.2.2.2.2.2.2.2.2.2.2=[]
theorem Qm (id:Int) (views:List (List Int)):Sc (Pg id views).1:=by
 unfold Pg
 split
 ·exact ⟨rfl,rfl,rfl⟩
 ·exact ⟨rfl,rfl,rfl⟩
theorem Ph {m:GR} (h:Sc m):Ay.small m:=by
 obtain ⟨a,b,c,d,e,f,g,h0,i,j,k,l,n,o⟩:=m
 obtain ⟨h1,h2,h3⟩:=h
 simp only at h1 h2 h3
 subst h1 h2 h3
 simp [Kd.small]
theorem Qn {m:GR} (h:Sc m):Co m 1=some 1:=J2 (by
 obtain ⟨h1,h2,h3⟩:=h
 unfold GJ
 rw [h1,h2,FA,U,if_neg (by decide),IB,U,if_neg (by decide),
  show Ex m.2.2.2.2.2.2.2.2.2 1=some 1 from L6 (by
   unfold Hh
   rw [h3,FA]
   rfl)]
 rfl)
theorem Ri {m:GR} (h:Sc m):(m.1,m.2.1,m.2.2.1,m.2.2.2.1,m.2.2.2.2.1,m.2.2.2.2.2.1,([]:List Int),([]:List QA),m.2.2.2.2.2.2.2.2.1,m.2.2.2.2.2.2.2.2.2.1,m.2.2.2.2.2.2.2.2.2.2.1,m.2.2.2.2.2.2.2.2.2.2.2.1,(m.2.2.2.2.2.2.2.2.2.2.2.2.1.1,m.2.2.2.2.2.2.2.2.2.2.2.2.1.2.1,m.2.2.2.2.2.2.2.2.2.2.2.2.1.2.2),([]:List Int))=m:=by
 obtain ⟨a,b,c,d,e,f,g,h0,i,j,k,l,n,o⟩:=m
 obtain ⟨h1,h2,h3⟩:=h
 simp only at h1 h2 h3
 subst h1 h2 h3
 rfl
theorem ID (x0) (hx0:Kd.ok (.int .i64) x0) (x1) (hx1:Kd.ok (.slice (.slice (.int .i64))) x1):Dv x0 x1=some true:=G9 (by
 unfold Dw
 obtain ⟨r,hr,hl⟩:=KI x1 hx1.1 (fun a ha=>(hx1.2 a ha).1) 1048576 (by omega)
 rw [hr,U]
 by_cases h2:r<0
 ·rw [if_pos (by simpa using h2)]
 rw [if_neg (by simpa using h2)]
 obtain ⟨hl1,hl2⟩:=hl.resolve_left h2
 have hsm:Kd.small (.slice (.slice (.int .i64))) x1:=⟨by omega,fun a ha=>⟨by have:=hl2 a ha; omega,fun _ _=>trivial⟩⟩
 have et:=L7 x1 hsm
 have en:=KG x1 hsm
 have ev:=L9 x1 hsm
 have ei:=JJ x0 x1 hx1.1 (fun a ha=>(hx1.2 a ha).1)
 have es:=JK x0 x1 hx1.1 (fun a ha=>(hx1.2 a ha).1)
 have hb:=Qm x0 x1
 generalize Pg x0 x1=mb at ei es hb
 obtain ⟨m,b⟩:=mb
 simp only at hb
 have eq1:=LO m (Ph hb)
 have hh:=Qn hb
 have hk:(true != It .bool b b)=false:=by cases b<;>rfl
 obtain ⟨kk,z,hm,hkk⟩:=If x1 (by omega) (fun a ha=>by have:=hl2 a ha; omega)
 have eta:=Ri hb
 obtain ⟨b1,b2,b3⟩:=hb
 simp only [et,en,es,ei,eq1,U]
 rw [if_pos (by rfl),if_neg (by rw [hk]; simp)]
 refine Fs ?_
 unfold DC
 simp only [b1,b2,b3,et,ev,hm,U]
 rw [if_neg (by simp),if_pos (by simpa using hkk),eta,eq1,U,if_pos (by rfl),if_neg (by rw [hk]; simp)]
 refine Fq ?_
 unfold DB
 rw [PA,U,eta,hh,U,if_neg (by decide),if_neg (by decide),et,U,ei,U,eq1,U,if_pos (by rfl),if_neg (by rw [hk]; simp)]
 refine Fp ?_
 unfold DA
 rw [eta,hh,U,if_neg (by decide),if_neg (by decide)])

theorem Rj {P:Program} {c:List Char} {rest:List (List Char)} (h:behindMainWord (wordsSigns P.initOrder.toList)=c::rest) (h1:(c == "gc".toList||c == "spec".toList)=false) (h2:(c == "cut".toList||(c == "finals".toList&&rest.head? == some "cut".toList))=true):P.make=some .cut:=by
 unfold Program.make
 rw [h]
 simp only [h1,h2]
 rfl
theorem Rk {P:Program} {c:List Char} {rest:List (List Char)} (h:behindMainWord (wordsSigns P.initOrder.toList)=c::rest) (h1:((stripLifts liftWords (c::rest)).2.head? == some "cut".toList)=true) (h2:(stripLifts liftWords (c::rest)).1=[])
  (h3:P.laysLater=false) (h4:P.bearsReflect=false) (h5:P.doorFits []=true):P.mayEnter=true:=by
 unfold Program.mayEnter
 rw [h]
 simp only [h1,h2,h3,h4,h5]
 simp
theorem Rl {P:Program} {c:List Char} {rest:List (List Char)} (h:behindMainWord (wordsSigns P.initOrder.toList)=c::rest) (h1:(c == "carried".toList)=false) (h2:(stripLifts liftWords (c::rest)).1=[]):P.liftsFinal=false:=by
 have e:(some c==some "carried".toList)=false:=h1
 unfold Program.liftsFinal Program.headLifts
 rw [h]
 simp only [List.head?_cons,e,h2]
 simp
theorem Dp {a b:Bool} (h:a=true) (g:b=true):(a&&b)=true:=by rw [h,g]; rfl
theorem Rm {α:Type} [BEq α] [LawfulBEq α] {a b:α} (h:a=b):(a==b)=true:=by rw [h]; exact beq_self_eq_true b
end Go.Proofs.Ytffahmnodgnohaa.Core

namespace Go.Proofs.Ytffahmnodgnohaa.Core
open Go
set_option maxRecDepth 100000
def Tu:List Nat:=[104,97,114,110,101,115,115,32,57,52,51,54,48,100,51,54,48,102,97,48,51,101,55,56,99,49,99,55,102,52,101,50,52,51,100,50,100,97,57,53,55,57,52,98,57,49,49,99,102,51,55,51,101,101,49,49,101,100,97,49,52,100,97,99,49,98,51,56,98,51,55,99,32,99,117,116,32,97,116,32,108,111,111,112,46,101,120,97,109,112,108,101,47,103,48,48,49,56,48,47,108,97,119,115,46,70,110,69,120,97,99,116,77,115,103,84,101,120,116,32,108,111,111,112,46,101,120,97,109,112,108,101,47,103,48,48,49,56,48,47,108,97,119,115,46,70,110,69,120,97,99,116,82,101,97,100,77,115,103,32,108,111,111,112,46,101,120,97,109,112,108,101,47,103,48,48,49,56,48,47,108,97,119,115,46,70,110,77,115,103,115,32,108,111,111,112,46,101,120,97,109,112,108,101,47,103,48,48,49,56,48,47,108,97,119,115,46,70,110,69,120,97,99,116,77,101,109,98,101,114,78,101,119,32,108,111,111,112,46,101,120,97,109,112,108,101,47,103,48,48,49,56,48,47,108,97,119,115,46,70,110,69,120,97,99,116,67,111,117,110,99,105,108,78,101,119,32,108,111,111,112,46,101,120,97,109,112,108,101,47,103,48,48,49,56,48,47,108,97,119,115,46,70,110,69,120,97,99,116,71,114,111,117,112,78,101,119,32,108,111,111,112,46,101,120,97,109,112,108,101,47,103,48,48,49,56,48,47,108,97,119,115,46,70,110,65,108,111,110,101,49,50,32,108,111,111,112,46,101,120,97,109,112,108,101,47,103,48,48,49,56,48,47,108,97,119,115,46,70,110,67,104,111,115,101,110,32,108,111,111,112,46,101,120,97,109,112,108,101,47,103,48,48,49,56,48,47,108,97,119,115,46,70,110,68,101,99,105,100,101,115]
def Tx:List Nat:=[99,117,116]
def Ty:List (List Nat):=[[97,116],[108,111,111,112,46,101,120,97,109,112,108,101,47,103,48,48,49,56,48,47,108,97,119,115,46,70,110,69,120,97,99,116,77,115,103,84,101,120,116],[108,111,111,112,46,101,120,97,109,112,108,101,47,103,48,48,49,56,48,47,108,97,119,115,46,70,110,69,120,97,99,116,82,101,97,100,77,115,103],[108,111,111,112,46,101,120,97,109,112,108,101,47,103,48,48,49,56,48,47,108,97,119,115,46,70,110,77,115,103,115],[108,111,111,112,46,101,120,97,109,112,108,101,47,103,48,48,49,56,48,47,108,97,119,115,46,70,110,69,120,97,99,116,77,101,109,98,101,114,78,101,119],[108,111,111,112,46,101,120,97,109,112,108,101,47,103,48,48,49,56,48,47,108,97,119,115,46,70,110,69,120,97,99,116,67,111,117,110,99,105,108,78,101,119],[108,111,111,112,46,101,120,97,109,112,108,101,47,103,48,48,49,56,48,47,108,97,119,115,46,70,110,69,120,97,99,116,71,114,111,117,112,78,101,119],[108,111,111,112,46,101,120,97,109,112,108,101,47,103,48,48,49,56,48,47,108,97,119,115,46,70,110,65,108,111,110,101,49,50],[108,111,111,112,46,101,120,97,109,112,108,101,47,103,48,48,49,56,48,47,108,97,119,115,46,70,110,67,104,111,115,101,110],[108,111,111,112,46,101,120,97,109,112,108,101,47,103,48,48,49,56,48,47,108,97,119,115,46,70,110,68,101,99,105,100,101,115]]
theorem io:Try.prog.initOrder.toList=Tu.map Char.ofNat:=(congrArg String.toList (show Try.prog.initOrder=String.ofList (Tu.map Char.ofNat) from by kernel_rfl)).trans String.toList_ofList
theorem Tq:behindMainWord (wordsSigns Try.prog.initOrder.toList)=Tx.map Char.ofNat::Ty.map fun w=>w.map Char.ofNat:=by
 rw [io]
 kernel_rfl
theorem Tr:Try.prog.make=some .cut:=Rj Tq (by kernel_rfl) (by kernel_rfl)
theorem TF:Try.prog.mayEnter=true:=Rk Tq (by kernel_rfl) (by kernel_rfl) (by kernel_rfl) (by kernel_rfl) (by kernel_rfl)
theorem Sd:Try.prog.liftsFinal=false:=Rl Tq (by kernel_rfl) (by kernel_rfl)
theorem PC:laidOutB Try.prog=true:=by kernel_rfl
theorem Pi:mapsRowed Try.prog=true:=by kernel_rfl
theorem TG:Try.prog.stopsHeard=true:=by kernel_rfl
end Go.Proofs.Ytffahmnodgnohaa.Core
