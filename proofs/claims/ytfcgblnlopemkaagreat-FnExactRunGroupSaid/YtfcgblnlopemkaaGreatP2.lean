/- Texts of the proof, packed: part 3. -/
import Derived.Test.YtfcgblnlopemkaaGreatP1
import Derived.OrdersHeld
import Derived.ChangeArms
import Derived.Below
import Derived.Test.YtfcgblnlopemkaaGreatProg
set_option linter.unusedVariables false
set_option linter.unusedSimpArgs false
namespace Go.Proofs.YtfcgblnlopemkaaGreat.Core
open Go
variable {P:Program}
abbrev nK:=List (Nat×(World->Prop))
def UK (anc:List Nat):nK->nK
 | []=>[]
 | p::r=>if Bo anc p.1=true then UK anc r else p::UK anc r
theorem G5 {anc:List Nat}:∀ {T:nK},∀ p∈UK anc T,p∈T/\Bo anc p.1=false
 | [],p,h=>by cases h
 | q::r,p,h=>by
  simp only [UK] at h
  split at h
  ·obtain ⟨h1,h2⟩:=G5 p h
   exact ⟨by simp [h1],h2⟩
  ·rename_i hq
   rcases Ah.1 h with rfl | h
   ·exact ⟨by simp,by simpa using hq⟩
   ·obtain ⟨h1,h2⟩:=G5 p h
    exact ⟨by simp [h1],h2⟩
theorem qH {anc:List Nat}:∀ {T:nK} {p},p∈T->Bo anc p.1=false->p∈UK anc T
 | [],p,h,_=>by cases h
 | q::r,p,h,hn=>by
  simp only [UK]
  rcases Ah.1 h with rfl | h
  ·rw [if_neg (by rw [hn]; simp)]; simp
  ·split
   ·exact qH h hn
   ·exact List.mem_cons_of_mem _ (qH h hn)
theorem zh {anc:List Nat} {i:Nat} {C:World->Prop} {T:nK} (h:Bo anc i=false):UK anc ((i,C)::T)=(i,C)::UK anc T:=by
 show (if Bo anc i=true then UK anc T else (i,C)::UK anc T)=_
 rw [h]
 rfl
def cv (P:Program) (ops:Array Oper) (Q:Exit->Act->World->Prop) (anc:Nat->List Nat):Nat->nK->Array Bool->Act->World->Prop
 | 0,_,listed,a,w=>Region.ready .any ops listed=[]/\Q .normal a w
 | fuel+1,T,listed,a,w =>
  (Region.ready .any ops listed=[]->Q .normal a w) /\
  ∀ i∈Region.ready .any ops listed,wpOp P ops Q i (fun a' w'=>(∀ p∈UK (anc i) T,p.2 w')/\cv P ops Q anc fuel (UK (anc i) T) (listed.setIfInBounds i true) a' w') a w
theorem qI {ops:Array Oper} {Q:Exit->Act->World->Prop} {anc:Nat->List Nat}:∀ (fuel:Nat) (T:nK) (listed:Array Bool) (a:Act) (w:World),cv P ops Q anc fuel T listed a w->wpAny P .any ops Q fuel listed a w
 | 0,_,_,_,_,h=>h
 | fuel+1,_,_,_,_,h=>⟨h.1,fun i hi=>wpOp_mono (fun a' w' h'=>qI fuel _ _ a' w' h'.2) (h.2 i hi)⟩
theorem cM {ops:Array Oper} {Q:Exit->Act->World->Prop} {anc:Nat->List Nat}:∀ (fuel:Nat) {T T':nK} (listed:Array Bool) (a:Act) (w:World),(∀ p∈T',p∈T)->cv P ops Q anc fuel T listed a w->cv P ops Q anc fuel T' listed a w
 | 0,_,_,_,_,_,_,h=>h
 | fuel+1,T,T',_,_,_,hs,h=>⟨h.1,fun i hi=>wpOp_mono (fun a' w' h'=>by
   have hsub:∀ p∈UK (anc i) T',p∈UK (anc i) T:=fun p hp=>by
    obtain ⟨h1,h2⟩:=G5 p hp
    exact qH (hs p h1) h2
   exact ⟨fun p hp=>h'.1 p (hsub p hp),cM fuel _ a' w' hsub h'.2⟩) (h.2 i hi)⟩
def sb (ops:Array Oper) (listed:Array Bool):Prop:=∀ k o,listed.getD k false=true->ops[k]? = some o->∀ e∈o.after,Region.binds .any e=true->listed.getD e.on false=true
def qJ (ops:Array Oper) (i:Nat):List Nat:=match ops[i]? with
 | some o=>(o.after.filter fun e=>Region.binds .any e).toList.map (·.on)
 | none=>[]
def xn (ops:Array Oper) (anc:List (List Nat)):Bool :=
 (List.range ops.size).all fun i=>(qJ ops i).all (fun p=>decide (p<i))&&(anc.getD i []).all fun j=>(qJ ops i).any (fun p=>p==j)||(qJ ops i).any fun p=>Bo (anc.getD p []) j
theorem RF {ops:Array Oper} {anc:List (List Nat)} (hA:xn ops anc=true) {listed:Array Bool} (hs:sb ops listed):∀ (i:Nat),(∀ p∈qJ ops i,listed.getD p false=true)->i<ops.size->∀ j∈anc.getD i [],listed.getD j false=true:=by
 intro i
 induction i using Nat.strongRecOn with
 | _ i ih =>
  intro hp hi j hj
  have h1:=Br.1 hA i (List.mem_range.2 hi)
  simp only [AE,Br,List.any_eq_true,Ec,beq_iff_eq,decide_eq_true_eq] at h1
  rcases h1.2 j hj with ⟨p,hpm,rfl⟩ | ⟨p,hpm,hpj⟩
  ·exact hp p hpm
  ·have hlt:=h1.1 p hpm
   refine ih p hlt (fun q hq=>?_) (by omega) j (Dg.1 hpj)
   unfold qJ at hq
   split at hq
   ·rename_i o ho
    simp only [List.mem_map,Array.mem_toList_iff,Array.mem_filter] at hq
    obtain ⟨e,⟨he,hb⟩,rfl⟩:=hq
    exact hs p o (hp p hpm) ho e he hb
   ·cases hq
theorem EJ {ops:Array Oper} {listed:Array Bool} {i:Nat} (h:i∈Region.ready .any ops listed):(∀ p∈qJ ops i,listed.getD p false=true)/\i<ops.size:=by
 obtain ⟨_,o,ho,hall⟩:=mem_ready.1 h
 refine ⟨fun p hp=>?_,(Array.getElem?_eq_some_iff.1 ho).1⟩
 unfold qJ at hp
 rw [ho] at hp
 simp only [List.mem_map,Array.mem_toList_iff,Array.mem_filter] at hp
 obtain ⟨e,⟨he,hb⟩,rfl⟩:=hp
 exact hall e he hb
theorem sb.set {ops:Array Oper} {listed:Array Bool} (hs:sb ops listed) {i:Nat} (h:i∈Region.ready .any ops listed):sb ops (listed.setIfInBounds i true):=by
 intro k o hk ho e he hb
 by_cases hik:i=k
 ·subst hik
  obtain ⟨_,o',ho',hall⟩:=mem_ready.1 h
  rw [ho] at ho'
  cases ho'
  exact getD_set_true (hall e he hb)
 ·rw [getD_set_ne false hik] at hk
  exact getD_set_true (hs k o hk ho e he hb)
theorem Fi {ops:Array Oper} {listed:Array Bool} {i:Nat} (h:i∈Region.ready .any ops listed):listed.getD i false=false:=by
 have h0:=(mem_ready.1 h).1
 rcases B3 i listed.size with h' | h'
 ·simp [h'] at h0 ⊢; exact h0
 ·simp [Array.getElem?_eq_none h']
theorem f7 {ops:Array Oper} {Q:Exit->Act->World->Prop} {anc:List (List Nat)} (hA:xn ops anc=true) {i:Nat} {oi:Oper} {v:Value} {C:World->Prop} (hi:ops[i]? = some oi)
  (hsel:∀ (j:Nat) (o:Oper) cs b,ops[j]? = some o->o.op≠.select cs b) (hQ:∀ c a w,Q (.panic c) (a.put oi.dst v) w->Q (.panic c) a w) :
  ∀ (fuel:Nat) (T:nK) (listed:Array Bool) (a:Act) (w:World),sb ops listed ->
   (∀ j oj,ops[j]? = some oj->j≠i->listed.getD j true=false->(∀ e∈oj.after,Region.binds .any e=true->e.on≠i)->oi.apart ops oj=true) ->
   i∈Region.ready .any ops listed->YieldsIf P ops C oi v a->C w->(∀ p∈T,p.2 w) ->
   cv P ops Q (fun i=>anc.getD i []) fuel ((i,C)::T) (listed.setIfInBounds i true) (a.put oi.dst v) w->cv P ops Q (fun i=>anc.getD i []) (fuel+1) T listed a w:=by
 intro fuel
 induction fuel with
 | zero =>
  intro T listed a w hsh _ hr hy hC hT H
  refine ⟨fun h=>(by rw [h] at hr; cases hr),fun j hj=>?_⟩
  by_cases hji:j=i
  ·subst hji; exact hy.wpOp hi hC ⟨fun p hp=>hT p (G5 p hp).1,H⟩
  ·have:=ready_mono hj hji
   rw [H.1] at this
   cases this
 | succ fuel ih =>
  intro T listed a w hsh hfree hr hy hC hT H
  refine ⟨fun h=>(by rw [h] at hr; cases hr),fun j hj=>?_⟩
  by_cases hji:j=i
  ·subst hji
   refine hy.wpOp hi hC ⟨fun p hp=>hT p (G5 p hp).1,cM _ _ _ _ (fun p hp=>?_) H⟩
   exact List.mem_cons_of_mem _ (G5 p hp).1
  ·have h1:=H.2 j (ready_mono hj hji)
   obtain ⟨hjun,oj,hoj,hall⟩:=mem_ready.1 hj
   have hnot:∀ e∈oj.after,Region.binds .any e=true->e.on≠i:=fun e he hb heq=>by
    have h1:=hall e he hb
    have h0:=Fi hr
    rw [heq] at h1
    rw [h0] at h1
    cases h1
   have hnanc:Bo (anc.getD j []) i=false:=by
    rw [BK]
    intro hm
    have:=RF hA hsh j (EJ hj).1 (EJ hj).2 i hm
    rw [Fi hr] at this
    cases this
   have hcut:UK (anc.getD j []) ((i,C)::T)=(i,C)::UK (anc.getD j []) T:=zh hnanc
   simp only [hcut] at h1
   have h2:=wpOp_putIf hoj (hfree j oj hoj hji hjun hnot) (fun cs b=>hsel i oi cs b hi) (fun cs b=>hsel j oj cs b hoj) hQ hy h1
   have hfree':∀ k ok,ops[k]? = some ok->k≠i->(listed.setIfInBounds j true).getD k true=false ->
     (∀ e∈ok.after,Region.binds .any e=true->e.on≠i)->oi.apart ops ok=true:=fun k ok hk hki hun hno=>by
    refine hfree k ok hk hki ?_ hno
    by_cases hjk:j=k
    ·subst hjk; exact hjun
    ·rw [getD_set_ne true hjk] at hun; exact hun
   refine wpOp_mono (fun a' w' h3=>?_) h2
   obtain ⟨hy',hp',hG⟩:=h3
   have hC':C w':=hp' (i,C) (by simp)
   have hT':∀ p∈UK (anc.getD j []) T,p.2 w':=fun p hp=>hp' p (List.mem_cons_of_mem _ hp)
   refine ⟨hT',ih _ (listed.setIfInBounds j true) a' w' (hsh.set hj) hfree' (ready_mono hr (Ne.symm hji)) hy' hC' hT' ?_⟩
   rw [Array.setIfInBounds_comm _ _ hji]
   exact hG
theorem AB3 {o:Oper} {a:Act} {w:World} {I:Prop} (h:o.wp P a w (fun _ _=>I) (fun _ _ _=>I)):I:=by
 unfold Oper.wp at h
 generalize (execOp a.eval o).run P w=r at h
 cases r with
 | ok n w' =>
  cases n<;>simp only [Oper.upon] at h<;>try exact h
  case enter f args =>
   obtain ⟨e,w2,fr,hr,_⟩:=h []
   cases e with
   | returned v=>exact hr
   | panicked c=>exact hr
   | outgrown=>exact hr.elim fun _ h=>h.elim fun _ h=>h
  case row row args =>
   obtain ⟨v,w2,hr,_⟩:=h default []
   exact hr
 | halt x w' =>
  cases x<;>simp only [Oper.upon] at h
  case panic v=>exact h
def gB (ops:Array Oper) (o:Oper):Option (Nat×Bool)->Bool
 | none=>o.guard.isNone
 | some g=>match o.guard with
  | some (j,want)=>want==g.2&&nJ ops j==some g.1
  | none=>false
def zi (L:Array Bool) (fl:List Nat):Array Bool:=fl.foldl (fun L i=>L.setIfInBounds i true) L
def AAk (ops:Array Oper) (i:Nat) (js:List Nat):Bool :=
 js.all fun j=>match ops[i]?,ops[j]? with
  | some a,some b=>a.apart ops b&&b.apart ops a
  | _,_=>false
def Uo (ops:Array Oper):List Nat->Bool
 | []=>true
 | i::r=>!Bo r i&&AAk ops i r&&Uo ops r
def xo (P:Program) (n:Nat) (ops:Array Oper) (L:Array Bool) (f:Nat×Ey):Bool :=
 (Region.ready .any ops L).contains f.1&&f.2.isFloat&&(match ops[f.1]? with
  | some o=>pU P n o f.2&&decide (o.dst.toList=f.2.dsts)&&o.guard.isNone&&(match o.dst with
   | some d=>!(o.looksAt ops).contains d&&decide (d<n)
   | none=>false)
  | none=>false)
def pV (P:Program) (n:Nat) (ops:Array Oper):DT->Array Bool->List Nat->Bool
 | .done,L,F=>(Region.ready .any ops L).isEmpty&&F.isEmpty
 | .take i g ao r,L,F=>(Region.ready .any ops L).contains i&&Region.free .any ops L i&&!Bo F i&&ao.isVal&&(match ops[i]? with
   | some o=>gB ops o g&&pU P n o ao&&decide (o.dst.toList=ao.dsts)
   | none=>false)&&pV P n ops r (L.setIfInBounds i true) F
 | .skip i g d r,L,F=>(Region.ready .any ops L).contains i&&Region.free .any ops L i&&!Bo F i&&(match ops[i]? with
   | some o=>gB ops o (some g)&&decide (o.dst=d)&&(match d with | some d=>decide (d<n) | none=>true)
   | none=>false)&&pV P n ops r (L.setIfInBounds i true) F
 | .only i g ao e fl r,L,F=>(Region.ready .any ops L).contains i&&(Region.ready .any ops (zi L (fl.map (·.1)))).all (· == i)&&F.all (fun f=>f==i||Bo (fl.map (·.1)) f)&&(!Bo F i||(e&&ao.isFloat))
   && fl.all (xo P n ops L)&&Uo ops (i::fl.map (·.1))&&(match ops[i]? with
   | some o=>gB ops o g&&pU P n o ao&&decide (o.dst.toList=ao.dsts)
   | none=>false)&&pV P n ops r (L.setIfInBounds i true) (fl.map (·.1))
 | .test _ a b,L,F=>pV P n ops a L F&&pV P n ops b L F
 | .fork i ai ri j aj rj,L,F=>F.isEmpty&&(Region.ready .any ops L).contains i&&(Region.ready .any ops L).all (fun k=>k==i||k==j)
   && (match ops[i]? with
   | some o=>gB ops o none&&pU P n o ai&&decide (o.dst.toList=ai.dsts)
   | none=>false)&&(match ops[j]? with
   | some o=>gB ops o none&&pU P n o aj&&decide (o.dst.toList=aj.dsts)
   | none=>false)&&pV P n ops ri (L.setIfInBounds i true) []&&pV P n ops rj (L.setIfInBounds j true) []
def ym (P:Program) (n:Nat) (ops:Array Oper) (anc:List (List Nat)) (t:DT):Bool :=
 P.follows .mixedOrders&&Region.noSelect ops&&xn ops anc&&pV P n ops t (Array.replicate ops.size false) []
theorem wF {H:HP} {φ:Bz} {s:St} {act:Act} (hf:EZ H φ s.st s.fr act.tmps) {c:Nat} {t:Bool} (h:Eg s.fr c=.bool t):act.tmps[c]? = some (.bool t):=by
 have hfc:=hf c
 rw [h] at hfc
 have hfc:act.tmps.getD c undef=.bool t:=hfc
 rw [Array.getD_eq_getD_getElem?] at hfc
 cases hq:act.tmps[c]? with
 | none=>rw [hq] at hfc; cases hfc
 | some v=>rw [hq] at hfc; simpa using hfc
theorem WY {H:HP} {φ:Bz} {s:St} {act:Act} {ops:Array Oper} {o:Oper} {g:Option (Nat×Bool)} (hf:EZ H φ s.st s.fr act.tmps) (h:gOk s g=true) (hb:gB ops o g=true):Region.wanted o (yielded ops act.tmps)=true:=by
 cases g with
 | none =>
  simp only [gB,Option.isNone_iff_eq_none] at hb
  exact RE hb trivial
 | some g =>
  simp only [gB] at hb
  split at hb
  ·rename_i j want hg
   simp only [AE,beq_iff_eq] at hb
   obtain ⟨rfl,hb2⟩:=hb
   simp only [gOk] at h
   split at h
   ·rename_i t ht
    simp only [beq_iff_eq] at h
    subst h
    exact RE hg ⟨g.1,hb2,wF hf ht⟩
   ·cases h
  ·cases hb
theorem wG {H:HP} {φ:Bz} {s:St} {act:Act} {ops:Array Oper} {o:Oper} {g:Nat×Bool} (hf:EZ H φ s.st s.fr act.tmps) (h:ACk s g=true) (hb:gB ops o (some g)=true):Region.wanted o (yielded ops act.tmps)=false:=by
 simp only [gB] at hb
 split at hb
 ·rename_i j want hg
  simp only [AE,beq_iff_eq] at hb
  obtain ⟨rfl,hb2⟩:=hb
  refine cr hg hb2 ?_
  unfold ACk at h
  split at h
  ·rename_i t ht
   rw [wF hf ht]
   intro e
   cases e
   simp at h
  ·rename_i ht
   have hv:=hf g.1
   rw [ht] at hv
   have hv:act.tmps.getD g.1 undef=undef:=hv
   intro e
   rw [Array.getD_eq_getD_getElem?,e] at hv
   cases hv
  ·cases h
 ·cases hb
def mz (act:Act) (w:World) (T:List (Nat×Nat)) (TT:nK):Prop :=
 ∀ p∈TT,p.2 w/\((∀ w2,p.2 w2)\/∃ x,(p.1,x)∈T/\∃ w0:World,p.2=fun w2=>∀ b,CA (act.tmps.getD x undef) b->w2.heap[b]? = w0.heap[b]?)
theorem Q7 {ds:List Nat}:∀ {T:List (Nat×Nat)},IM ds T=true->∀ p∈T,p.2∉ds
 | [],_,p,hp=>by cases hp
 | q::r,h,p,hp=>by
  simp only [IM,AE,Dw] at h
  rcases Ah.1 hp with rfl | hp
  ·exact BK.1 h.1
  ·exact Q7 h.2 p hp
theorem Ou {act:Act} {dst:Option Tmp} {v:Value} {t:Nat} (h:dst≠some t):(act.put dst v).tmps.getD t undef=act.tmps.getD t undef:=by
 rw [Array.getD_eq_getD_getElem?,Array.getD_eq_getD_getElem?,Ll h]
theorem mz.put {act:Act} {w:World} {T:List (Nat×Nat)} {TT:nK} (h:mz act w T TT) {dst:Option Tmp} {v:Value} (hf:IM dst.toList T=true):mz (act.put dst v) w T TT:=by
 intro p hp
 obtain ⟨h1,h2⟩:=h p hp
 refine ⟨h1,?_⟩
 rcases h2 with h2 | ⟨x,hx,w0,e⟩
 ·exact .inl h2
 ·refine .inr ⟨x,hx,w0,?_⟩
  have:=Q7 hf _ hx
  rw [Ou (fun e=>this (by rw [e]; simp))]
  exact e
theorem Ln {anc:List Nat}:∀ {T:List (Nat×Nat)} {p},p∈T->Bo anc p.1=false->p∈HX anc T
 | [],p,h,_=>by cases h
 | q::r,p,h,hn=>by
  simp only [HX]
  rcases Ah.1 h with rfl | h
  ·rw [if_neg (by rw [hn]; simp)]; simp
  ·split
   ·exact Ln h hn
   ·exact List.mem_cons_of_mem _ (Ln h hn)
theorem Up {anc tch:List Nat} {s:St}:∀ {T:List (Nat×Nat)},WQ anc tch s T=true->∀ p∈T,Bo anc p.1=false->(Eg s.fr p.2).clear tch=true
 | [],_,p,hp,_=>by cases hp
 | q::r,h,p,hp,hn=>by
  simp only [WQ,AE,Ec] at h
  rcases Ah.1 hp with rfl | hp
  ·rcases h.1 with h1 | h1
   ·rw [hn] at h1; cases h1
   ·exact h1
  ·exact Up h.2 p hp hn
theorem ay {H H':HP} {φ φ':Bz} {s:St} {st':List AT} {w w':World} {v:Value} {a:AV} {tch:List Nat} (hs:SR H φ s.st w) (hst:Af H φ s.st w H' φ' st' w') (hm:pP tch φ s.st w w') (hv:VA H φ s.st a v)
  (h:a.clear tch=true):∀ b,CA v b->w'.heap[b]? = w.heap[b]? := by
 intro b hb
 have keepH:∀ o,H b=some o->w'.heap[b]? = w.heap[b]? := fun o ho=>by rw [hst.sr.hp b o (hst.le b o ho),hs.hp b o ho]
 cases a with
 | ptr id off =>
  obtain ⟨hva,b0,e1,e2⟩:=hv
  rw [e2] at hb
  cases hb
  unfold Ak at hva
  split at hva
  ·rename_i cs hid
   exact hm id _ hid rfl (BK.1 (by simpa [AV.clear] using h)) b0 (fX (by rw [e1]; rfl))
  ·cases hva
 | eptr id i off =>
  obtain ⟨b0,n,cap,K,hk,hi,e1,e2⟩:=hv
  rw [e2] at hb
  cases hb
  unfold AJ at hk
  split at hk
  ·rename_i t K' xs hid
   exact hm id _ hid rfl (BK.1 (by simpa [AV.clear] using h)) b0 (fX (by rw [e1]; rfl))
  ·rename_i K' xs hid
   cases hk
   obtain ⟨⟨sl,cap',e3,_,hr⟩,_⟩:=hs.box id _ hid
   rcases hr with rfl | ⟨b1,o1,c,el,fz,e4,e5,_⟩
   ·simp at hi
   ·rw [e1] at e3
    simp only [Value.slice.injEq] at e3
    rw [e4] at e3
    obtain ⟨e6,_⟩:=e3
    simp only [BB,Addr.mk.injEq] at e6
    obtain ⟨rfl,_⟩:=e6
    exact keepH _ e5
  ·rename_i t K' xs hid
   exact hm id _ hid rfl (BK.1 (by simpa [AV.clear] using h)) b0 (fX (by rw [e1]; rfl))
  ·rename_i t xs hid
   cases hk
   exact hm id _ hid rfl (BK.1 (by simpa [AV.clear] using h)) b0 (fX (by rw [e1]; rfl))
  ·rename_i m t K' xs i' q hid
   exact hm id _ hid rfl (BK.1 (by simpa [AV.clear] using h)) b0 (fX (by rw [e1]; rfl))
  ·cases hk
 | fptr cs off =>
  obtain ⟨b0,o,c,el,fz,e,hb0,_⟩:=hv
  rw [e] at hb
  cases hb
  exact keepH _ hb0
 | _=>cases h
theorem AAl {n:Nat} {o:Oper} {d x:Nat} {m:Option Nat} (h:po P n o d (.t x) m=true):∃ t,o.op=.load t (.tmp x):=by
 simp only [po,AE] at h
 have h2:=h.2
 split at h2
 ·rename_i t y ho
  simp only [AE] at h2
  have:=h2.1
  cases y<;>simp [DW] at this
  subst this
  exact ⟨t,ho⟩
 ·cases h2
theorem zj {n:Nat} {o:Oper} {ao:Ey} {t:TypeId} {y:Operand} {ρ:Type} {kn:St->Option ρ} {r:ρ} {cal:Fv} {s:St} (hb:pU P n o ao=true) (hop:o.op=.load t y) (hv:ao.isVal=true) (hk:EA cal kn s ao=some r) :
  ∃ d x m,ao=.load d (.t x) m:=by
 cases ao<;>first | cases hv | skip
 case load d x m =>
  cases x with
  | t x=>exact ⟨d,x,m,rfl⟩
  | c a =>
   exfalso
   simp only [pU,po,hop,AE] at hb
   simp only [EA,St.opd] at hk
   have h2:=hb.2.1
   cases y with
   | const v =>
    have h3:a=.undef\/jc v a=true:=by cases a<;>first | exact .inl rfl | exact .inr h2
    rcases h3 with rfl | h3
    ·simp [St.behind] at hk
    ·have:=am (H:=fun _=>none) (v:=v) (a:=a) h3
     cases a<;>first | exact this.elim | (simp [St.behind] at hk)
   | func f =>
    cases a<;>first | (simp [DW] at h2; done) | (simp [St.behind] at hk)
   | tmp t=>simp [DW] at h2
   | global g=>simp [DW] at h2
 all_goals (exfalso; simp [pU,mvB,mr,yX,ABi,ABj,unB,ABg,ABf,uX,ABn,yd,ye,slB,fnB,ABx,ABz,ABk,ABh,ua,hop] at hb)
def LS (M L:Array Bool) (S:List Nat):Prop:=M.size=L.size/\∀ k,M.getD k true=(L.getD k true||Bo S k)
theorem LS.refl (L:Array Bool):LS L L []:=⟨rfl,fun k=>by simp [Bo]⟩
theorem cw {M:Array Bool} {k:Nat}:M.getD k false=(M.getD k true&&decide (k<M.size)):=by
 rw [Array.getD_eq_getD_getElem?,Array.getD_eq_getD_getElem?]
 by_cases h:k<M.size
 ·simp [h]
 ·simp [h]
theorem LS.getF {M L:Array Bool} {S:List Nat} (h:LS M L S) (k:Nat):M.getD k false=(L.getD k false||(Bo S k&&decide (k<L.size))):=by
 rw [cw,cw,h.2,h.1]
 cases L.getD k true<;>cases Bo S k<;>simp
theorem Uq {M:Array Bool} {i k:Nat}:(M.setIfInBounds i true).getD k true=(M.getD k true||(i==k)):=by
 by_cases h:i=k
 ·subst h
  rw [Array.getD_eq_getD_getElem?]
  by_cases h2:i<M.size
  ·simp [h2]
  ·simp [h2]
 ·rw [getD_set_ne true h]
  simp [h]
theorem LS.set {M L:Array Bool} {S:List Nat} (h:LS M L S) (i:Nat):LS (M.setIfInBounds i true) (L.setIfInBounds i true) S:=by
 refine ⟨by simp [h.1],fun k=>?_⟩
 rw [Uq,Uq,h.2]
 cases L.getD k true<;>cases Bo S k<;>cases (i==k)<;>rfl
theorem LS.early {M L:Array Bool} {S:List Nat} (h:LS M L S) (f:Nat):LS (M.setIfInBounds f true) L (f::S):=by
 refine ⟨by simp [h.1],fun k=>?_⟩
 rw [Uq,h.2]
 simp only [Bo]
 by_cases e:f=k<;>simp [e]
theorem LS.adopt {M L:Array Bool} {a b:List Nat} {i:Nat} (h:LS M L (a++i::b)):LS M (L.setIfInBounds i true) (a++b):=by
 refine ⟨by simp [h.1],fun k=>?_⟩
 rw [Uq,h.2,Si,Si]
 simp only [Bo]
 by_cases e:i=k
 ·simp [e]
 ·have:(i==k)=false:=by simpa using e
  rw [this]
  cases L.getD k true<;>cases Bo a k<;>cases Bo b k<;>simp [e]
theorem AB4 (L:Array Bool):∀ (fl:List Nat),(zi L fl).size=L.size/\∀ k,(zi L fl).getD k true=(L.getD k true||Bo fl k):=by
 intro fl
 unfold zi
 induction fl generalizing L with
 | nil=>exact ⟨rfl,fun k=>by simp [Bo]⟩
 | cons f fl ih =>
  obtain ⟨h1,h2⟩:=ih (L.setIfInBounds f true)
  refine ⟨by simpa using h1,fun k=>?_⟩
  rw [List.foldl_cons,h2,Uq]
  simp only [Bo]
  by_cases e:f=k
  ·simp [e]
  ·have:(f==k)=false:=by simpa using e
   rw [this,if_neg e,Bool.or_false]
def se:List Bool->Nat
 | []=>0
 | b::r=>(if b=true then 0 else 1)+se r
theorem wH:∀ (l:List Bool) (i:Nat),l[i]? = some false->se (l.set i true)+1=se l
 | [],i,h=>by simp at h
 | b::l,0,h=>by simp at h; subst h; simp [se]; omega
 | b::l,i+1,h=>by
  have:=wH l i (by simpa using h)
  simp only [List.set_cons_succ,se]
  omega
theorem az {M:Array Bool} {i:Nat} (h:M.getD i true=false):se (M.setIfInBounds i true).toList+1=se M.toList:=by
 rw [Array.toList_setIfInBounds]
 apply wH
 rw [Array.getD_eq_getD_getElem?] at h
 cases hq:M[i]? with
 | none=>rw [hq] at h; cases h
 | some b=>rw [hq] at h; simp at h; subst h; simpa using hq
theorem AB5 (n:Nat):se (List.replicate n false)=n:=by
 induction n with
 | zero=>rfl
 | succ n ih=>rw [List.replicate_succ]; simp [se,ih]; omega
def yn (P:Program) (ops:Array Oper) (wb:World) (H:HP) (φ:Bz) (st:List AT) (act:Act) (w:World) (f b:Nat):Prop :=
 ∃ o d obj,ops[f]? = some o/\o.dst=some d/\d<act.tmps.size/\AB1 P o act obj/\act.tmps.getD d undef=mt o.op b/\ct H φ st w b obj/\wb.heap.size<=b
theorem yn.put {ops:Array Oper} {wb:World} {H H':HP} {φ φ':Bz} {st st':List AT} {act:Act} {w w':World} {f b:Nat} (h:yn P ops wb H φ st act w f b) {oi:Oper} {v:Value}
  (hsel:∀ (j:Nat) (o:Oper) cs b,ops[j]? = some o->o.op≠.select cs b) (hap:∀ o,ops[f]? = some o->oi.apart ops o=true) (hl:∀ obj,ct H φ st w b obj->ct H' φ' st' w' b obj):yn P ops wb H' φ' st' (act.put oi.dst v) w' f b:=by
 obtain ⟨o,d,obj,h1,h2,h3,h4,h5,h6,h7⟩:=h
 obtain ⟨a1,a2,_⟩:=Oper.apart_spec (hap o h1)
 refine ⟨o,d,obj,h1,h2,by rw [H9]; exact h3,fun w2=>?_,?_,hl obj h6,h7⟩
 ·rw [execOp_put o (fun cs b=>hsel f o cs b h1) act oi.dst v a1]
  exact h4 w2
 ·rw [Ou (fun e=>a2 d e h2)]
  exact h5
theorem t6 {ops:Array Oper} {i:Nat} {js:List Nat} (h:AAk ops i js=true) {j:Nat} (hj:j∈js):∃ a b,ops[i]? = some a/\ops[j]? = some b/\a.apart ops b=true/\b.apart ops a=true:=by
 have:=Br.1 h j hj
 split at this
 ·rename_i a b ha hb
  simp only [AE] at this
  exact ⟨a,b,ha,hb,this.1,this.2⟩
 ·cases this
theorem Y3 {ops:Array Oper}:∀ {l:List Nat},Uo ops l=true->∀ i∈l,∀ j∈l,i≠j->∃ a b,ops[i]? = some a/\ops[j]? = some b/\a.apart ops b=true
 | [],_,i,hi,_,_,_=>by cases hi
 | x::l,h,i,hi,j,hj,hne=>by
  simp only [Uo,AE] at h
  rcases Ah.1 hi with e1 | hi
  ·subst e1
   rcases Ah.1 hj with e2 | hj
   ·exact absurd e2.symm hne
   ·obtain ⟨a,b,h1,h2,h3,_⟩:=t6 h.1.2 hj
    exact ⟨a,b,h1,h2,h3⟩
  ·rcases Ah.1 hj with e2 | hj
   ·rw [e2]
    obtain ⟨a,b,h1,h2,_,h4⟩:=t6 h.1.2 hi
    exact ⟨b,a,h2,h1,h4⟩
   ·exact Y3 h.2 i hi j hj hne
theorem f8 {s:St} {T:List (Nat×Nat)}:∀ {fl:List (Nat×Ey)},fT s T fl=true->∀ f∈fl,f.2.floatOk s=true/\fS s f.2.dsts=true/\IM f.2.dsts T=true
 | [],_,f,hf=>by cases hf
 | g::fl,h,f,hf=>by
  simp only [fT,AE] at h
  rcases Ah.1 hf with rfl | hf
  ·exact ⟨h.1.1.1,h.1.1.2,h.1.2⟩
  ·exact f8 h.2 f hf
theorem ADX {n:Nat} {ops:Array Oper} {anc:List (List Nat)} {cal:Fv} (hcal:Hc P cal) (hA:xn ops anc=true) (hsel:Region.noSelect ops=true) {ρ:Type} {kn:St->Option ρ} {r:ρ} {N:Act->World->Prop}
  {Hb:HP} {φb:Bz} {stb:List AT} {wb:World} {ab:Act}
  (hN:∀ s' act' w' H' φ',kn s'=some r->Af Hb φb stb wb H' φ' s'.st w'->EZ H' φ' s'.st s'.fr act'.tmps->act'.tmps.size=n->act'.defers=ab.defers->N act' w') :
  ∀ (t:DT) (fuel:Nat) (F S:List Nat) (B:Nat->Nat) (T:List (Nat×Nat)) (TT:nK) (L M:Array Bool) (s:St) (act:Act) (w:World) (H:HP) (φ:Bz),pV P n ops t L F=true->LS M L S->(∀ f∈S,Bo F f=true/\f∈Region.ready .any ops L) ->
   S.Nodup->(∀ f∈S,∀ g∈S,f≠g->B f≠B g)->se M.toList<=fuel->sb ops L->sb ops M ->
   Af Hb φb stb wb H φ s.st w->EZ H φ s.st s.fr act.tmps->act.tmps.size=n->act.defers=ab.defers->mz act w T TT->(∀ f∈S,∀ p∈TT,Bo (anc.getD f []) p.1=false)->(∀ f∈S,yn P ops wb H φ s.st act w f (B f))->dK cal anc kn t T s=some r ->
   cv P ops (fun e a w=>match e with | .normal=>N a w | _=>False) (fun i=>anc.getD i []) fuel TT M act w:=by
 have hsnd:=Region.noSelect_spec hsel
 intro t
 induction t with
 | done =>
  intro fuel F S B T TT L M s act w H φ hb hls hS _ _ hfu _ _ hB hf hn hde _ _ _ hk
  simp only [pV,AE,List.isEmpty_iff] at hb
  have hS0:S=[]:=by
   cases S with
   | nil=>rfl
   | cons f S =>
    have:=(hS f (by simp)).2
    rw [hb.1] at this
    cases this
  subst hS0
  have hM:Region.ready .any ops M=[]:=by
   rw [List.eq_nil_iff_forall_not_mem]
   intro j hj
   obtain ⟨h1,o,h2,h3⟩:=mem_ready.1 hj
   have:j∈Region.ready .any ops L:=mem_ready.2 ⟨by have:=hls.2 j; simp only [Bo,Bool.or_false] at this; rw [<- this]; exact h1,o,h2,fun e he hbi=>by have:=hls.getF e.on; simp only [Bo,Bool.false_and,Bool.or_false] at this; rw [<- this]; exact h3 e he hbi⟩
   rw [hb.1] at this
   cases this
  have hq:=hN s act w H φ hk hB hf hn hde
  cases fuel with
  | zero=>exact ⟨hM,hq⟩
  | succ fuel=>exact ⟨fun _=>hq,fun i hi=>by rw [hM] at hi; cases hi⟩
 | test c a b iha ihb =>
  intro fuel F S B T TT L M s act w H φ hb hls hS hnd hBd hfu hsh hshM hB hf hn hde hp hAn hpf hk
  simp only [pV,AE] at hb
  simp only [dK] at hk
  split at hk
  ·rename_i t ht
   have hfc:∀ t',t=t'->EZ H φ (s.put c (.bool t')).st (s.put c (.bool t')).fr act.tmps:=by
    intro t' e q
    subst e
    simp only [St.put,Eg]
    split
    ·rename_i e; subst e; have:=hf c; rw [ht] at this; exact this
    ·exact hf q
   split at hk
   ·rename_i e
    exact iha fuel F S B T TT L M (s.put c (.bool true)) act w H φ hb.1 hls hS hnd hBd hfu hsh hshM hB (hfc true e) hn hde hp hAn hpf hk
   ·rename_i e
    exact ihb fuel F S B T TT L M (s.put c (.bool false)) act w H φ hb.2 hls hS hnd hBd hfu hsh hshM hB (hfc false (by simpa using e)) hn hde hp hAn hpf hk
  ·cases hk
 | fork i ai ri j aj rj ihi ihj =>
  intro fuel F S B T TT L M s act w H φ hb hls hS hnd hBd hfu hsh hshM hB hf hn hde hp hAn hpf hk
  simp only [pV,AE,List.isEmpty_iff] at hb
  obtain ⟨⟨⟨⟨⟨⟨hF,hri⟩,hall⟩,hoi⟩,hoj⟩,hbi⟩,hbj⟩:=hb
  have hS0:S=[]:=by
   cases S with
   | nil=>rfl
   | cons f S =>
    have:=(hS f (by simp)).1
    rw [hF] at this
    cases this
  subst hS0
  simp only [dK] at hk
  obtain ⟨hki,hkj⟩:=jR.1 hk
  have hq:∀ k∈Region.ready .any ops M,k∈Region.ready .any ops L:=fun k hk=>by
   obtain ⟨h1,o,h2,h3⟩:=mem_ready.1 hk
   exact mem_ready.2 ⟨by have:=hls.2 k; simp only [Bo,Bool.or_false] at this; rw [<- this]; exact h1,o,h2,fun e he hbi=>by have:=hls.getF e.on; simp only [Bo,Bool.false_and,Bool.or_false] at this; rw [<- this]; exact h3 e he hbi⟩
  have hqL:∀ k∈Region.ready .any ops L,k∈Region.ready .any ops M:=fun k hk=>by
   obtain ⟨h1,o,h2,h3⟩:=mem_ready.1 hk
   exact mem_ready.2 ⟨by rw [hls.2,h1]; rfl,o,h2,fun e he hbi=>by rw [hls.getF,h3 e he hbi]; rfl⟩
  obtain ⟨i0,hi0⟩:∃ k,k∈Region.ready .any ops L:=⟨i,by simpa using hri⟩
  obtain ⟨fuel,rfl⟩:∃ k,fuel=k+1:=⟨fuel-1,by
   have:=az (mem_ready.1 (hqL i0 hi0)).1
   omega⟩
  refine ⟨fun h=>(by have:=hqL i0 hi0; rw [h] at this; cases this),fun k hkM=>?_⟩
  have hcnt:=az (mem_ready.1 hkM).1
  have hkL:=hq k hkM
  have hkk:=Br.1 hall k hkL
  simp only [Ec,beq_iff_eq] at hkk
  rcases hkk with e | e
  ·subst e
   split at hoi
   case h_2=>cases hoi
   rename_i o hoi
   simp only [AE,decide_eq_true_eq] at hoi
   obtain ⟨⟨hg,hob⟩,hds⟩:=hoi
   split at hki
   case isFalse=>cases hki
   rename_i hc
   simp only [AE] at hc
   obtain ⟨hc2,hc3⟩:=hc
   have hfr:IM o.dst.toList T=true:=by rw [hds]; exact hc2
   unfold wpOp
   simp only [hoi,WY (g:=none) hf rfl hg,if_true]
   refine .inl (qD hcal hob ρ (fun s'=>dK cal anc kn ri (HX (anc.getD k []) T) s') r s act w H φ _ _ hB.sr hf hn hki fun s' v w' H' φ' h1 h2 h3 h4=>?_)
   have hpend:mz (act.put o.dst v) w' (HX (anc.getD k []) T) (UK (anc.getD k []) TT):=by
    intro p hp'
    obtain ⟨hp1,hp2⟩:=G5 p hp'
    obtain ⟨q1,q2⟩:=hp p hp1
    rcases q2 with q2 | ⟨x,hx,w0,e⟩
    ·exact ⟨q2 w',.inl q2⟩
    ·have hxf:=Q7 hfr _ hx
     have hgd:(act.put o.dst v).tmps.getD x undef=act.tmps.getD x undef:=Ou (fun e=>hxf (by rw [e]; simp))
     refine ⟨?_,.inr ⟨x,Ln hx hp2,w0,by rw [hgd]; exact e⟩⟩
     have hun:=ay hB.sr h2 h4.mem (hf x) (Up hc3 _ hx hp2)
     rw [e] at q1 ⊢
     intro b hb'
     rw [hun b hb']
     exact q1 b hb'
   exact ⟨fun p hp'=>(hpend p hp').1,ihi fuel [] [] B _ _ (L.setIfInBounds k true) _ s' _ w' H' φ' hbi (hls.set k) (fun f hf'=>by cases hf') List.nodup_nil (fun f hf'=>by cases hf') (by omega) (hsh.set hkL) (hshM.set hkM) (hB.trans h2) h3 (H9.trans hn) (Gi.trans hde) hpend (fun f hf'=>by cases hf') (fun f hf'=>by cases hf') h1⟩
  ·subst e
   split at hoj
   case h_2=>cases hoj
   rename_i o hoi
   simp only [AE,decide_eq_true_eq] at hoj
   obtain ⟨⟨hg,hob⟩,hds⟩:=hoj
   split at hkj
   case isFalse=>cases hkj
   rename_i hc
   simp only [AE] at hc
   obtain ⟨hc2,hc3⟩:=hc
   have hfr:IM o.dst.toList T=true:=by rw [hds]; exact hc2
   unfold wpOp
   simp only [hoi,WY (g:=none) hf rfl hg,if_true]
   refine .inl (qD hcal hob ρ (fun s'=>dK cal anc kn rj (HX (anc.getD k []) T) s') r s act w H φ _ _ hB.sr hf hn hkj fun s' v w' H' φ' h1 h2 h3 h4=>?_)
   have hpend:mz (act.put o.dst v) w' (HX (anc.getD k []) T) (UK (anc.getD k []) TT):=by
    intro p hp'
    obtain ⟨hp1,hp2⟩:=G5 p hp'
    obtain ⟨q1,q2⟩:=hp p hp1
    rcases q2 with q2 | ⟨x,hx,w0,e⟩
    ·exact ⟨q2 w',.inl q2⟩
    ·have hxf:=Q7 hfr _ hx
     have hgd:(act.put o.dst v).tmps.getD x undef=act.tmps.getD x undef:=Ou (fun e=>hxf (by rw [e]; simp))
     refine ⟨?_,.inr ⟨x,Ln hx hp2,w0,by rw [hgd]; exact e⟩⟩
     have hun:=ay hB.sr h2 h4.mem (hf x) (Up hc3 _ hx hp2)
     rw [e] at q1 ⊢
     intro b hb'
     rw [hun b hb']
     exact q1 b hb'
   exact ⟨fun p hp'=>(hpend p hp').1,ihj fuel [] [] B _ _ (L.setIfInBounds k true) _ s' _ w' H' φ' hbj (hls.set k) (fun f hf'=>by cases hf') List.nodup_nil (fun f hf'=>by cases hf') (by omega) (hsh.set hkL) (hshM.set hkM) (hB.trans h2) h3 (H9.trans hn) (Gi.trans hde) hpend (fun f hf'=>by cases hf') (fun f hf'=>by cases hf') h1⟩
 | skip i g d rt ih =>
  intro fuel F S B T TT L M s act w H φ hb hls hS hnd hBd hfu hsh hshM hB hf hn hde hp hAn hpf hk
  simp only [pV,AE,Dw] at hb
  obtain ⟨⟨⟨⟨hr,hfree⟩,hiF⟩,ho⟩,hb⟩:=hb
  split at ho
  case h_2=>cases ho
  rename_i o hoi
  simp only [AE,decide_eq_true_eq] at ho
  obtain ⟨⟨hg,rfl⟩,hdn⟩:=ho
  simp only [dK] at hk
  split at hk
  case isFalse=>cases hk
  rename_i hc
  simp only [AE] at hc
  have hri:i∈Region.ready .any ops L:=by simpa using hr
  have hiS:i∉S:=fun h=>by have:=(hS i h).1; rw [hiF] at this; cases this
  have hriM:i∈Region.ready .any ops M:=by
   obtain ⟨h1,o',h2,h3⟩:=mem_ready.1 hri
   exact mem_ready.2 ⟨by rw [hls.2,h1,BK.2 hiS]; rfl,o',h2,fun e he hbi=>by rw [hls.getF,h3 e he hbi]; rfl⟩
  have hfreeL:=Region.free_spec hoi hfree
  have hfreeM:∀ j oj,ops[j]? = some oj->j≠i->M.getD j true=false->(∀ e∈oj.after,Region.binds .any e=true->e.on≠i)->o.apart ops oj=true:=fun j oj h1 h2 h3 h4 =>
   hfreeL j oj h1 h2 (by rw [hls.2] at h3; simp only [Bool.or_eq_false_iff] at h3; exact h3.1) h4
  have hcnt:=az (mem_ready.1 hriM).1
  obtain ⟨fuel,rfl⟩:∃ k,fuel=k+1:=⟨fuel-1,by omega⟩
  refine f7 hA (C:=fun _=>True) hoi hsnd (fun c a w h=>h) fuel TT M act w hshM hfreeM hriM (.inr ⟨wG hf hc.1 hg,rfl⟩) trivial (fun p hp'=>(hp p hp').1) ?_
  have hf2:EZ H φ s.st (vd o.dst .void s.fr) (act.put o.dst undef).tmps:=by
   cases hdst:o.dst with
   | none=>exact hf
   | some d =>
    rw [hdst] at hdn
    simp only [decide_eq_true_eq] at hdn
    exact hf.put (a:=.void) (v:=undef) (by omega) rfl
  have hAn':∀ (C:World->Prop),∀ f∈S,∀ p∈(i,C)::TT,Bo (anc.getD f []) p.1=false:=fun C f hf' p hp'=>by
   rcases Ah.1 hp' with rfl | hp'
   ·rw [BK]
    intro hm
    have:=RF hA hsh f (EJ (hS f hf').2).1 (EJ (hS f hf').2).2 _ hm
    rw [Fi hri] at this
    cases this
   ·exact hAn f hf' p hp'
  refine ih fuel F S B T _ (L.setIfInBounds i true) _ ⟨vd o.dst .void s.fr,s.st⟩ _ w H φ hb (hls.set i) (fun f hf'=>⟨(hS f hf').1,ready_mono (hS f hf').2 (fun e=>hiS (e▸hf'))⟩) hnd hBd (by omega) (hsh.set hri) (hshM.set hriM) hB hf2 (H9.trans hn) (Gi.trans hde) ?_ (hAn' _) (fun f hf'=>?_) hk
  ·intro p hp'
   rcases Ah.1 hp' with rfl | hp'
   ·exact ⟨trivial,.inl fun _=>trivial⟩
   ·exact (hp.put hc.2) p hp'
  ·refine (hpf f hf').put hsnd (fun of hof=>hfreeL f of hof (fun e=>hiS (e▸hf')) (mem_ready.1 (hS f hf').2).1 (fun e he hbi heq=>?_)) (fun _ h=>h)
   obtain ⟨_,o',h2,h3⟩:=mem_ready.1 (hS f hf').2
   rw [hof] at h2
   cases h2
   have:=h3 e he hbi
   rw [heq,Fi hri] at this
   cases this
 | take i g ao rt ih =>
  intro fuel F S B T TT L M s act w H φ hb hls hS hnd hBd hfu hsh hshM hB hf hn hde hp hAn hpf hk
  simp only [pV,AE,Dw] at hb
  obtain ⟨⟨⟨⟨⟨hr,hfree⟩,hiF⟩,hval⟩,ho⟩,hb⟩:=hb
  split at ho
  case h_2=>cases ho
  rename_i o hoi
  simp only [AE,decide_eq_true_eq] at ho
  obtain ⟨⟨hg,hob⟩,hds⟩:=ho
  simp only [dK] at hk
  split at hk
  case isFalse=>cases hk
  rename_i hc
  simp only [AE] at hc
  obtain ⟨hc,hns⟩:=hc
  have hri:i∈Region.ready .any ops L:=by simpa using hr
  have hiS:i∉S:=fun h=>by have:=(hS i h).1; rw [hiF] at this; cases this
  have hriM:i∈Region.ready .any ops M:=by
   obtain ⟨h1,o',h2,h3⟩:=mem_ready.1 hri
   exact mem_ready.2 ⟨by rw [hls.2,h1,BK.2 hiS]; rfl,o',h2,fun e he hbi=>by rw [hls.getF,h3 e he hbi]; rfl⟩
  have hfreeL:=Region.free_spec hoi hfree
  have hfreeM:∀ j oj,ops[j]? = some oj->j≠i->M.getD j true=false->(∀ e∈oj.after,Region.binds .any e=true->e.on≠i)->o.apart ops oj=true:=fun j oj h1 h2 h3 h4 =>
   hfreeL j oj h1 h2 (by rw [hls.2] at h3; simp only [Bool.or_eq_false_iff] at h3; exact h3.1) h4
  have hcnt:=az (mem_ready.1 hriM).1
  obtain ⟨fuel,rfl⟩:∃ k,fuel=k+1:=⟨fuel-1,by omega⟩
  have info:∃ s' v H' φ',dK cal anc kn rt (fR i ao T) s'=some r/\Af H φ s.st w H' φ' s'.st w/\EZ H' φ' s'.st s'.fr (act.put o.dst v).tmps/\∀ w2,D5 o act w w2->(execOp act.eval o).run P w2=.ok (.value v) w2:=by
   refine AB3 (P:=P) (o:=o) (a:=act) (w:=w) (qD hcal hob ρ (fun s'=>dK cal anc kn rt (fR i ao T) s') r s act w H φ _ _ hB.sr hf hn hk fun s' v w' H' φ' h1 h2 h3 h4=>?_)
   obtain ⟨e,h5⟩:=h4.val hval
   subst e
   exact ⟨s',v,H',φ',h1,h2,h3,h5⟩
  obtain ⟨s',v,H',φ',hk',hst,hf',hrun⟩:=info
  refine f7 hA (C:=D5 o act w) hoi hsnd (fun c a w h=>h) fuel TT M act w hshM hfreeM hriM (.inl ⟨WY hf hc.1 hg,hrun⟩) (D5.refl o act w) (fun p hp'=>(hp p hp').1) ?_
  have hfr:IM o.dst.toList T=true:=by rw [hds]; exact hc.2
  have hAn':∀ (C:World->Prop),∀ f∈S,∀ p∈(i,C)::TT,Bo (anc.getD f []) p.1=false:=fun C f hf' p hp'=>by
   rcases Ah.1 hp' with rfl | hp'
   ·rw [BK]
    intro hm
    have:=RF hA hsh f (EJ (hS f hf').2).1 (EJ (hS f hf').2).2 _ hm
    rw [Fi hri] at this
    cases this
   ·exact hAn f hf' p hp'
  refine ih fuel F S B _ _ (L.setIfInBounds i true) _ s' _ w H' φ' hb (hls.set i) (fun f hf'=>⟨(hS f hf').1,ready_mono (hS f hf').2 (fun e=>hiS (e▸hf'))⟩) hnd hBd (by omega) (hsh.set hri) (hshM.set hriM) (hB.trans hst) hf' (H9.trans hn) (Gi.trans hde) ?_ (hAn' _) (fun f hfS=>?_) hk'
  ·intro p hp'
   rcases Ah.1 hp' with rfl | hp'
   ·refine ⟨D5.refl o act w,?_⟩
    by_cases hload:∃ d x m,ao=.load d (.t x) m
    ·obtain ⟨d,x,m,rfl⟩:=hload
     simp only [pU] at hob
     obtain ⟨t,ht⟩:=AAl hob
     right
     have hxd:o.dst≠some x:=by
      have hd1:o.dst=some d:=by
       simp only [po,AE] at hob
       exact (Bv hob.1).1
      rw [hd1]
      intro e
      cases e
      simp [Ey.notSelf] at hns
     refine ⟨x,by simp [fR],w,?_⟩
     funext w2
     simp only [D5,ht,Act.eval]
     rw [Ou hxd]
    ·left
     intro w2
     unfold D5
     split
     ·rename_i t y hop
      exfalso
      apply hload
      exact zj hob hop hval hk
     ·trivial
   ·obtain ⟨h1,h2⟩:=(hp.put hfr) p hp'
    refine ⟨h1,?_⟩
    rcases h2 with h2 | ⟨x,hx,w0,e⟩
    ·exact .inl h2
    ·refine .inr ⟨x,?_,w0,e⟩
     unfold fR
     split
     ·exact List.mem_cons_of_mem _ hx
     ·exact hx
  ·refine (hpf f hfS).put hsnd (fun of hof=>hfreeL f of hof (fun e=>hiS (e▸hfS)) (mem_ready.1 (hS f hfS).2).1 (fun e he hbi heq=>?_)) (fun _ h=>h.step hst)
   obtain ⟨_,o',h2,h3⟩:=mem_ready.1 (hS f hfS).2
   rw [hof] at h2
   cases h2
   have:=h3 e he hbi
   rw [heq,Fi hri] at this
   cases this
 | only i g ao e fl rt ih =>
  intro fuel
  induction fuel using Nat.strongRecOn with
  | _ fuel ihf =>
  intro F S B T TT L M s act w H φ hb hls hS hnd hBd hfu hsh hshM hB hf hn hde hp hAn hpf hk
  have hb0:=hb
  have hk0:=hk
  simp only [pV,AE] at hb
  obtain ⟨⟨⟨⟨⟨⟨⟨hr,hrF⟩,hFs⟩,hFi⟩,hfl⟩,hap⟩,ho⟩,hb⟩:=hb
  split at ho
  case h_2=>cases ho
  rename_i o hoi
  simp only [AE,decide_eq_true_eq] at ho
  obtain ⟨⟨hg,hob⟩,hds⟩:=ho
  simp only [dK] at hk
  split at hk
  case isFalse=>cases hk
  rename_i hc
  simp only [AE] at hc
  obtain ⟨⟨⟨⟨⟨hc1,hc2⟩,hc3⟩,hc4⟩,hc6⟩,hc5⟩:=hc
  have hri:i∈Region.ready .any ops L:=by simpa using hr
  have hfr:IM o.dst.toList T=true:=by rw [hds]; exact hc2
  have hanc:∀ k∈anc.getD i [],k≠i:=fun k hk e=>by
   have:=RF hA hsh i (EJ hri).1 (EJ hri).2 k hk
   rw [e,Fi hri] at this
   cases this
  have hFsub:∀ f∈S,f=i\/f∈fl.map (·.1):=fun f hfS=>by
   have h1:=(hS f hfS).1
   have h2:=Br.1 hFs f (Dg.1 h1)
   simp only [Ec,beq_iff_eq] at h2
   exact h2.imp id Dg.1
  by_cases hiS:i∈S
  ·-- it came up before: now the boxes are told
   obtain ⟨oa,d,obj,q1,q2,q3,q4,q5,q6,q7⟩:=hpf i hiS
   rw [hoi] at q1
   cases q1
   have hfi:ao.isFloat=true:=by
    have h1:=(hS i hiS).1
    rw [h1] at hFi
    simp only [Bool.not_true,Bool.false_or,AE] at hFi
    exact hFi.2
   have hfk:ao.floatOk s=true:=by
    have h1:=(hS i hiS).1
    rw [h1] at hFi
    simp only [Bool.not_true,Bool.false_or,AE] at hFi
    rw [hFi.1] at hc5
    simpa using hc5
   obtain ⟨s',H',φ',hk',hst',hf',hoth⟩:=AAj hob hfi hfk hB hf hk q4 (fun d' hd'=>by rw [q2] at hd'; cases hd'; exact q5) q6 q7
   obtain ⟨S1,S2,rfl⟩:=List.append_of_mem hiS
   have hnd2:i∉S1++S2/\(S1++S2).Nodup:=by
    rw [List.nodup_append] at hnd
    obtain ⟨n1,n2,n3⟩:=hnd
    rw [List.nodup_cons] at n2
    refine ⟨fun h=>?_,?_⟩
    ·rcases CD.1 h with h | h
     ·exact n3 i h i (by simp) rfl
     ·exact n2.1 h
    ·rw [List.nodup_append]
     exact ⟨n1,n2.2,fun a ha b hb=>n3 a ha b (by simp [hb])⟩
   have hsub:∀ f∈S1++S2,f∈S1++i::S2:=fun f h=>by
    rcases CD.1 h with h | h
    ·simp [h]
    ·simp [h]
   refine ih fuel (fl.map (·.1)) (S1++S2) B _ _ (L.setIfInBounds i true) M s' act w H' φ' hb hls.adopt (fun f hf'=>?_) hnd2.2 (fun f hf' g hg'=>hBd f (hsub f hf') g (hsub g hg')) hfu (hsh.set hri) hshM hst' hf' hn hde ?_ (fun f hf'=>hAn f (hsub f hf')) (fun f hf'=>?_) hk'
   ·have hne:f≠i:=fun e=>hnd2.1 (e▸hf')
    refine ⟨Dg.2 ((hFsub f (hsub f hf')).resolve_left hne),ready_mono (hS f (hsub f hf')).2 hne⟩
   ·intro p hp'
    obtain ⟨h1,h2⟩:=hp p hp'
    refine ⟨h1,?_⟩
    rcases h2 with h2 | ⟨x,hx,w0,e⟩
    ·exact .inl h2
    ·exact .inr ⟨x,Ln hx (hAn i hiS p hp'),w0,e⟩
   ·obtain ⟨o2,d2,obj2,p1,p2,p3,p4,p5,p6,p7⟩:=hpf f (hsub f hf')
    have hne:f≠i:=fun e=>hnd2.1 (e▸hf')
    exact ⟨o2,d2,obj2,p1,p2,p3,p4,p5,hoth _ _ (hBd f (hsub f hf') i hiS hne) p6,p7⟩
  ·have hriM:i∈Region.ready .any ops M:=by
    obtain ⟨h1,o',h2,h3⟩:=mem_ready.1 hri
    exact mem_ready.2 ⟨by rw [hls.2,h1,BK.2 hiS]; rfl,o',h2,fun e he hbi=>by rw [hls.getF,h3 e he hbi]; rfl⟩
   have hcnt:=az (mem_ready.1 hriM).1
   obtain ⟨fuel,rfl⟩:∃ k,fuel=k+1:=⟨fuel-1,by omega⟩
   have hSfl:∀ f∈S,f∈fl.map (·.1):=fun f hf'=>(hFsub f hf').resolve_left (fun e=>hiS (e▸hf'))
   refine ⟨fun h=>(by rw [h] at hriM; cases hriM),fun j hj=>?_⟩
   have hcj:=az (mem_ready.1 hj).1
   by_cases hji:j=i
   ·subst hji
    unfold wpOp
    simp only [hoi,WY hf hc1 hg,if_true]
    refine .inl (qD hcal hob ρ (fun s'=>dK cal anc kn rt (HX (anc.getD j []) T) s') r s act w H φ _ _ hB.sr hf hn hk fun s' v w' H' φ' h1 h2 h3 h4=>?_)
    have hpend:mz (act.put o.dst v) w' (HX (anc.getD j []) T) (UK (anc.getD j []) TT):=by
     intro p hp'
     obtain ⟨hp1,hp2⟩:=G5 p hp'
     obtain ⟨q1,q2⟩:=hp p hp1
     rcases q2 with q2 | ⟨x,hx,w0,e⟩
     ·exact ⟨q2 w',.inl q2⟩
     ·have hxf:=Q7 hfr _ hx
      have hgd:(act.put o.dst v).tmps.getD x undef=act.tmps.getD x undef:=Ou (fun e=>hxf (by rw [e]; simp))
      refine ⟨?_,.inr ⟨x,Ln hx hp2,w0,by rw [hgd]; exact e⟩⟩
      have hun:=ay hB.sr h2 h4.mem (hf x) (Up hc3 _ hx hp2)
      rw [e] at q1 ⊢
      intro b hb'
      rw [hun b hb']
      exact q1 b hb'
    refine ⟨fun p hp'=>(hpend p hp').1,ih fuel (fl.map (·.1)) S B _ _ (L.setIfInBounds j true) _ s' _ w' H' φ' hb (hls.set j) (fun f hf'=>⟨Dg.2 (hSfl f hf'),ready_mono (hS f hf').2 (fun e=>hiS (e▸hf'))⟩) hnd hBd (by omega) (hsh.set hri) (hshM.set hj) (hB.trans h2) h3 (H9.trans hn) (Gi.trans hde) hpend (fun f hf' p hp'=>hAn f hf' p (G5 p hp').1) (fun f hf'=>?_) h1⟩
    obtain ⟨a,b,k1,k2,k3⟩:=Y3 hap j (by simp) f (List.mem_cons_of_mem _ (hSfl f hf')) (fun e=>hiS (e▸hf'))
    rw [hoi] at k1
    cases k1
    exact (hpf f hf').put hsnd (fun of hof=>by rw [k2] at hof; cases hof; exact k3) (fun _ h=>h.step h2)
   ·-- one that comes up ahead of its turn
    have hjS:j∉S:=fun h=>by
     have h1:=(mem_ready.1 hj).1
     rw [hls.2,Dg.2 h] at h1
     simp at h1
    have hjfl:j∈fl.map (·.1):=by
     rcases Classical.em (j∈fl.map (·.1)) with h | h
     ·exact h
     ·exfalso
      obtain ⟨h1,o',h2,h3⟩:=mem_ready.1 hj
      have hLF:=AB4 L (fl.map (·.1))
      have hrd:j∈Region.ready .any ops (zi L (fl.map (·.1))):=by
       refine mem_ready.2 ⟨?_,o',h2,fun e he hbi=>?_⟩
       ·rw [hLF.2,BK.2 h]
        rw [hls.2] at h1
        simp only [Bool.or_eq_false_iff] at h1
        rw [h1.1]
        rfl
       ·have:=h3 e he hbi
        rw [cw] at this ⊢
        simp only [AE,decide_eq_true_eq] at this ⊢
        refine ⟨?_,by rw [hLF.1,<- hls.1]; exact this.2⟩
        rw [hLF.2]
        have h4:=this.1
        rw [hls.2] at h4
        simp only [Ec] at h4 ⊢
        exact h4.imp id fun h5=>Dg.2 (hSfl _ (Dg.1 h5))
      have:=Br.1 hrF j hrd
      simp only [beq_iff_eq] at this
      exact hji this
    obtain ⟨⟨j',aj⟩,hjm,hje⟩:=List.mem_map.1 hjfl
    simp only at hje
    subst hje
    have hfb:=Br.1 hfl _ hjm
    obtain ⟨k1,k2,k3⟩:=f8 hc4 _ hjm
    have hpk:=Br.1 hc6 _ hjm
    simp only [xo,AE] at hfb
    obtain ⟨⟨hjr,hjfl2⟩,hfb⟩:=hfb
    split at hfb
    case h_2=>cases hfb
    rename_i oj hoj
    simp only [AE,decide_eq_true_eq] at hfb
    obtain ⟨⟨⟨hjob,hjds⟩,hjg⟩,hjd⟩:=hfb
    split at hjd
    case h_2=>cases hjd
    rename_i d hdd
    simp only [AE,Dw,decide_eq_true_eq] at hjd
    have hjL:j'∈Region.ready .any ops L:=by simpa using hjr
    obtain ⟨obj,hborn⟩:=AB2 hjob hjfl2 k1 hB.sr hf
    have hst:Af H φ s.st w H φ s.st (w.alloc obj):=Af.grow hB.sr (World.grownBy_alloc w obj none)
    have hfrj:IM oj.dst.toList T=true:=by rw [hjds]; exact k3
    have hund:Eg s.fr d=.undef:=by
     rw [<- hjds,hdd] at k2
     simp only [Option.toList_some,fS,Bool.and_true] at k2
     split at k2
     ·rename_i h; exact h
     ·cases k2
    have hf2:EZ H φ s.st s.fr (act.put oj.dst (mt oj.op w.heap.size)).tmps:=by
     intro t
     by_cases ht:t=d
     ·subst ht
      rw [hund]
      trivial
     ·rw [Ou (fun e=>ht (by rw [hdd] at e; cases e; rfl))]
      exact hf t
    have hpend:mz (act.put oj.dst (mt oj.op w.heap.size)) (w.alloc obj) T (UK (anc.getD j' []) TT):=by
     intro p hp'
     obtain ⟨hp1,hp2⟩:=G5 p hp'
     obtain ⟨q1,q2⟩:=hp p hp1
     rcases q2 with q2 | ⟨x,hx,w0,e⟩
     ·exact ⟨q2 _,.inl q2⟩
     ·have hxf:=Q7 hfrj _ hx
      have hgd:(act.put oj.dst (mt oj.op w.heap.size)).tmps.getD x undef=act.tmps.getD x undef:=Ou (fun e=>hxf (by rw [e]; simp))
      refine ⟨?_,.inr ⟨x,hx,w0,by rw [hgd]; exact e⟩⟩
      have hun:=ay hB.sr hst (pP.grown (W:=[]) hB.sr (World.grownBy_alloc w obj none)) (hf x) (Up hpk _ hx hp2)
      rw [e] at q1 ⊢
      intro b hb'
      rw [hun b hb']
      exact q1 b hb'
    have hiff:∀ f∈S,f≠j':=fun f hf' e=>hjS (e▸hf')
    unfold wpOp
    simp only [hoj,RE (o:=oj) (Option.isNone_iff_eq_none.1 hjg) trivial,if_true]
    refine .inl (Yx (hborn w) ⟨fun p hp'=>(hpend p hp').1,?_⟩)
    have hbF:pV P n ops (.only i g ao e fl rt) L (fl.map (·.1))=true:=by
     have hni:Bo (fl.map (·.1)) i=false:=by
      have:=hap
      simp only [Uo,AE,Dw] at this
      exact this.1.1
     simp only [pV,AE] at hb0 ⊢
     obtain ⟨⟨⟨⟨⟨⟨⟨z1,z2⟩,_⟩,_⟩,z5⟩,z6⟩,z7⟩,z8⟩:=hb0
     exact ⟨⟨⟨⟨⟨⟨⟨z1,z2⟩,Br.2 fun f hf'=>by simp [Dg.2 hf']⟩,by rw [hni]; rfl⟩,z5⟩,z6⟩,z7⟩,z8⟩
    refine ihf fuel (by omega) (fl.map (·.1)) (j'::S) (fun f=>if f=j' then w.heap.size else B f) T _ L _ s _ (w.alloc obj) H φ hbF (hls.early j') ?_ (List.nodup_cons.2 ⟨hjS,hnd⟩) ?_ (by omega) hsh (hshM.set hj) (hB.trans hst) hf2 (H9.trans hn) (Gi.trans hde) hpend ?_ ?_ hk0
    ·intro f hf'
     rcases Ah.1 hf' with rfl | hf'
     ·exact ⟨Dg.2 hjfl,hjL⟩
     ·exact ⟨Dg.2 (hSfl f hf'),(hS f hf').2⟩
    ·have hlt:∀ f∈S,B f<w.heap.size:=fun f hf'=>by
      obtain ⟨_,_,_,_,_,_,_,_,h6,_⟩:=hpf f hf'
      exact h6.lt
     intro f hf' g hg' hne
     rcases Ah.1 hf' with e1 | hf'
     ·rcases Ah.1 hg' with e2 | hg'
      ·exact absurd (e1.trans e2.symm) hne
      ·rw [if_pos e1,if_neg (hiff g hg')]
       have:=hlt g hg'
       omega
     ·rcases Ah.1 hg' with e2 | hg'
      ·rw [if_pos e2,if_neg (hiff f hf')]
       have:=hlt f hf'
       omega
      ·rw [if_neg (hiff f hf'),if_neg (hiff g hg')]
       exact hBd f hf' g hg' hne
    ·intro f hf' p hp'
     rcases Ah.1 hf' with rfl | hf'
     ·exact (G5 p hp').2
     ·exact hAn f hf' p (G5 p hp').1
    ·intro f hf'
     rcases Ah.1 hf' with e1 | hf'
     ·subst e1
      rw [if_pos rfl]
      refine ⟨oj,d,obj,hoj,hdd,by rw [H9,hn]; exact hjd.2,fun w2=>?_,?_,ct.alloc hB.sr obj,hB.size⟩
      ·rw [execOp_put oj (fun cs b=>hsnd f oj cs b hoj) act oj.dst _ (ops:=ops) (fun d' hd'=>by
        rw [hdd] at hd'
        cases hd'
        intro hm
        have:=hjd.1
        rw [List.contains_eq_mem,decide_eq_true hm] at this
        cases this)]
       exact hborn w2
      ·rw [RB hdd,Array.getD_eq_getD_getElem?]
       simp [hn,hjd.2]
     ·rw [if_neg (hiff f hf')]
      obtain ⟨a,b,q1,q2,q3⟩:=Y3 hap j' (List.mem_cons_of_mem _ hjfl) f (List.mem_cons_of_mem _ (hSfl f hf')) (fun e=>hiff f hf' e.symm)
      rw [hoj] at q1
      cases q1
      exact (hpf f hf').put hsnd (fun of hof=>by rw [q2] at hof; cases hof; exact q3) (fun _ h=>h.step hst)
theorem AB6 {n:Nat} {id:Nat} {ops:Array Oper} {anc:List (List Nat)} {t:DT} {cal:Fv} (hcal:Hc P cal) (h:ym P n ops anc t=true) {ρ:Type} {kn:St->Option ρ} {r:ρ} {s:St} {act:Act} {w:World} {H:HP} {φ:Bz} {Q:Exit->Act->World->Prop}
  (hs:SR H φ s.st w) (hf:EZ H φ s.st s.fr act.tmps) (hn:act.tmps.size=n) (hk:dK cal anc kn t [] s=some r)
  (hN:∀ s' act' w' H' φ',kn s'=some r->Af H φ s.st w H' φ' s'.st w'->EZ H' φ' s'.st s'.fr act'.tmps->act'.tmps.size=n->act'.defers=act.defers->Q .normal act' w'):(Code.region id ops true).wp P Q act w:=by
 simp only [ym,AE] at h
 obtain ⟨⟨⟨hm,hsel⟩,hA⟩,hb⟩:=h
 have hst:Af H φ s.st w H φ s.st { w with drawn:=w.drawn+1 }:=Af.grow hs ⟨rfl,rfl,rfl,Nat.le_refl _,fun _ _ _=>rfl⟩
 refine wp_mono (wp_region_any hm (Q:=fun e a w=>match e with | .normal=>Q .normal a w | _=>False) (qI (anc:=fun i=>anc.getD i []) ops.size [] _ act _ ?_)) fun e a w h=>by cases e<;>first | exact h | exact h.elim
 have hsh:sb ops (Array.replicate ops.size false):=by
  intro k o hk' _ _ _ _
  simp [Array.getElem?_replicate] at hk'
  split at hk'<;>simp at hk'
 exact ADX (ab:=act) (N:=fun a w=>Q .normal a w) hcal hA hsel (fun s' act' w' H' φ' h1 h2 h3 h4 h5=>hN s' act' w' H' φ' h1 h2 h3 h4 h5) t ops.size [] [] (fun _=>0) [] [] (Array.replicate ops.size false) _ s act _ H φ hb (LS.refl _)
  (fun f hf=>by cases hf) List.nodup_nil (fun f hf=>by cases hf) (by simp [AB5]) hsh hsh hst hf hn rfl (fun p hp=>by cases hp) (fun f hf=>by cases hf) (fun f hf=>by cases hf) hk
def W6:List Nat->Nat
 | []=>0
 | i::r=>Nat.lor (Nat.shiftLeft 1 i) (W6 r)
def AAm (ops:Array Oper):List Nat:=ops.toList.map fun o=>W6 ((o.after.filter fun e=>Region.binds .any e).toList.map (·.on))
def AC7 (m i:Nat):Bool:=Nat.beq (Nat.land (Nat.shiftRight m i) 1) 1
def PX (pm:List Nat) (m i:Nat):Bool :=
 match pm[i]? with
 | some p=>!AC7 m i&&Nat.beq (Nat.land p m) p
 | none=>false
def yo (ops:Array Oper) (anc:List (List Nat)) (i:Nat):Bool :=
 match ops[i]? with
 | none=>false
 | some oi=>(List.range ops.size).all fun j=>j==i||Bo (anc.getD i []) j||match ops[j]? with
   | some oj=>oj.after.any (fun e=>Region.binds .any e&&e.on==i)||oi.apart ops oj
   | none=>true
def xp (P:Program) (n:Nat) (ops:Array Oper) (pm:List Nat) (m:Nat) (f:Nat×Ey):Bool :=
 PX pm m f.1&&f.2.isFloat&&(match ops[f.1]? with
  | some o=>pU P n o f.2&&decide (o.dst.toList=f.2.dsts)&&o.guard.isNone&&(match o.dst with
   | some d=>!(o.looksAt ops).contains d&&decide (d<n)
   | none=>false)
  | none=>false)
def xq (P:Program) (n:Nat) (ops:Array Oper) (anc:List (List Nat)) (pm:List Nat):DT->Array Bool->Nat->List Nat->Bool
 | .done,_,m,F=>(List.range ops.size).all (fun i=>!PX pm m i)&&F.isEmpty
 | .take i g ao r,L,m,F=>PX pm m i&&(yo ops anc i||Region.free .any ops L i)&&!Bo F i&&ao.isVal&&(match ops[i]? with
   | some o=>gB ops o g&&pU P n o ao&&decide (o.dst.toList=ao.dsts)
   | none=>false)&&xq P n ops anc pm r (L.setIfInBounds i true) (Nat.lor m (Nat.shiftLeft 1 i)) F
 | .skip i g d r,L,m,F=>PX pm m i&&(yo ops anc i||Region.free .any ops L i)&&!Bo F i&&(match ops[i]? with
   | some o=>gB ops o (some g)&&decide (o.dst=d)&&(match d with | some d=>decide (d<n) | none=>true)
   | none=>false)&&xq P n ops anc pm r (L.setIfInBounds i true) (Nat.lor m (Nat.shiftLeft 1 i)) F
 | .only i g ao e fl r,L,m,F=>PX pm m i&&(List.range ops.size).all (fun k=>k==i||!PX pm (Nat.lor m (W6 (fl.map (·.1)))) k)&&F.all (fun f=>f==i||Bo (fl.map (·.1)) f)&&(!Bo F i||(e&&ao.isFloat))
   && fl.all (xp P n ops pm m)&&Uo ops (i::fl.map (·.1))&&(match ops[i]? with
   | some o=>gB ops o g&&pU P n o ao&&decide (o.dst.toList=ao.dsts)
   | none=>false)&&xq P n ops anc pm r (L.setIfInBounds i true) (Nat.lor m (Nat.shiftLeft 1 i)) (fl.map (·.1))
 | .test _ a b,L,m,F=>xq P n ops anc pm a L m F&&xq P n ops anc pm b L m F
 | .fork i ai ri j aj rj,L,m,F=>F.isEmpty&&(PX pm m i&&PX pm m j)&&(List.range ops.size).all (fun k=>(k==i||k==j)||!PX pm m k)
   && (match ops[i]? with
   | some o=>gB ops o none&&pU P n o ai&&decide (o.dst.toList=ai.dsts)
   | none=>false)&&(match ops[j]? with
   | some o=>gB ops o none&&pU P n o aj&&decide (o.dst.toList=aj.dsts)
   | none=>false)&&xq P n ops anc pm ri (L.setIfInBounds i true) (Nat.lor m (Nat.shiftLeft 1 i)) []&&xq P n ops anc pm rj (L.setIfInBounds j true) (Nat.lor m (Nat.shiftLeft 1 j)) []
def AAn (P:Program) (n:Nat) (ops:Array Oper) (anc:List (List Nat)) (t:DT):Bool :=
 P.follows .mixedOrders&&Region.noSelect ops&&xn ops anc&&xq P n ops anc (AAm ops) t (Array.replicate ops.size false) 0 []
theorem AB7 (m i:Nat):AC7 m i=m.testBit i:=by
 have h:Nat.land (Nat.shiftRight m i) 1=(m >>> i) &&& 1:=rfl
 unfold AC7
 rw [h,Nat.testBit,Nat.and_comm,Nat.one_and_eq_mod_two]
 have:=Nat.mod_two_eq_zero_or_one (m >>> i)
 rcases this with e | e<;>rw [e]<;>rfl
theorem AB8 (m i j:Nat):(Nat.lor m (Nat.shiftLeft 1 i)).testBit j=(m.testBit j||decide (i=j)):=by
 have h:Nat.lor m (Nat.shiftLeft 1 i)=m ||| (1 <<< i):=rfl
 rw [h,Nat.testBit_or,Nat.one_shiftLeft,Nat.testBit_two_pow]
theorem t7 (j:Nat):∀ l:List Nat,(W6 l).testBit j=decide (j∈l)
 | []=>by simp [W6]
 | i::r=>by
  have h:W6 (i::r)=(1 <<< i) ||| W6 r:=rfl
  rw [h,Nat.testBit_or,Nat.one_shiftLeft,Nat.testBit_two_pow,t7 j r]
  by_cases e:i=j
  ·subst e; simp
  ·simp [e,Ne.symm e]
theorem AAo (p m:Nat):Nat.beq (Nat.land p m) p=true↔∀ j,p.testBit j=true->m.testBit j=true:=by
 have h:Nat.land p m=p &&& m:=rfl
 rw [Nat.beq_eq,h]
 constructor
 ·intro e j hj
  have:=congrArg (fun x=>Nat.testBit x j) e
  simp only [Nat.testBit_and,hj,Bool.true_and] at this
  exact this
 ·intro e
  refine Nat.eq_of_testBit_eq fun j=>?_
  rw [Nat.testBit_and]
  cases hj:p.testBit j with
  | false=>rfl
  | true=>rw [e j hj]; rfl
def LM (ops:Array Oper) (L:Array Bool) (m:Nat):Prop:=L.size=ops.size/\∀ j,L.getD j false=m.testBit j
theorem Gj {ops:Array Oper} {L:Array Bool} {m:Nat} (h:LM ops L m) (i:Nat):PX (AAm ops) m i=true↔i∈Region.ready .any ops L:=by
 unfold PX AAm
 rw [mem_ready,CE,Array.getElem?_toList]
 cases ho:ops[i]? with
 | none=>simp
 | some o =>
  have hi:i<ops.size:=(Array.getElem?_eq_some_iff.1 ho).1
  have h0:L.getD i true=L.getD i false:=by simp [Array.getD,h.1,hi]
  simp only [Option.map_some,AE,Dw,AAo,t7,decide_eq_true_eq,List.mem_map,Array.mem_toList_iff,Array.mem_filter,BB,exists_eq_left',AB7,h0,h.2]
  constructor
  ·rintro ⟨a,b⟩
   exact ⟨a,fun e he hb=>b e.on ⟨e,⟨he,hb⟩,rfl⟩⟩
  ·rintro ⟨a,b⟩
   refine ⟨a,?_⟩
   rintro j ⟨e,⟨he,hb⟩,rfl⟩
   exact b e he hb
theorem LM.set {ops:Array Oper} {L:Array Bool} {m i:Nat} (h:LM ops L m) (hi:i<ops.size):LM ops (L.setIfInBounds i true) (Nat.lor m (Nat.shiftLeft 1 i)):=by
 refine ⟨by rw [Array.size_setIfInBounds]; exact h.1,fun j=>?_⟩
 rw [AB8,<- h.2 j]
 by_cases e:i=j
 ·subst e
  simp [Array.getD,h.1,hi]
 ·rw [getD_set_ne false e]; simp [e]
theorem LM.add {ops:Array Oper}:∀ (fl:List Nat) {L:Array Bool} {m:Nat},LM ops L m->(∀ f∈fl,f<ops.size)->LM ops (zi L fl) (Nat.lor m (W6 fl))
 | [],L,m,h,_=>by
  have e:Nat.lor m (W6 [])=m ||| 0:=rfl
  rw [e,Nat.or_zero]
  exact h
 | i::r,L,m,h,hl=>by
  have:=LM.add r (h.set (hl i (by simp))) fun f hf=>hl f (List.mem_cons_of_mem _ hf)
  have e:Nat.lor m (W6 (i::r))=Nat.lor (Nat.lor m (Nat.shiftLeft 1 i)) (W6 r):=(Nat.or_assoc m (1 <<< i) (W6 r)).symm
  rw [e]
  exact this
theorem MF {ops:Array Oper} {L:Array Bool} {i:Nat} (h:i∈Region.ready .any ops L):i<ops.size:=(EJ h).2
theorem yp {ops:Array Oper} {anc:List (List Nat)} (hA:xn ops anc=true) {L:Array Bool} (hs:sb ops L) {i:Nat} (hr:i∈Region.ready .any ops L) (h:yo ops anc i=true):Region.free .any ops L i=true:=by
 unfold yo at h
 unfold Region.free
 split at h
 ·cases h
 ·rename_i oi hi
  rw [hi]
  simp only
  rw [Br] at h ⊢
  intro j hj
  have h1:=h j hj
  simp only [Ec] at h1 ⊢
  rcases h1 with (h1 | h1) | h1
  ·exact .inl (.inl h1)
  ·have:=RF hA hs i (EJ hr).1 (EJ hr).2 j (Dg.1 h1)
   exact .inl (.inr (by
    have hl:j<L.size:=by
     rcases B3 j L.size with q | q
     ·exact q
     ·simp [Array.getD,Nat.not_lt.2 q] at this
    simp [Array.getD,hl] at this ⊢
    exact this))
  ·exact .inr h1
theorem ADY {P:Program} {n:Nat} {ops:Array Oper} {anc:List (List Nat)} (hA:xn ops anc=true):∀ (t:DT) (L:Array Bool) (m:Nat) (F:List Nat),LM ops L m->sb ops L->xq P n ops anc (AAm ops) t L m F=true->pV P n ops t L F=true:=by
 intro t
 induction t with
 | done =>
  intro L m F hL _ h
  simp only [xq,pV,AE,List.isEmpty_iff] at h ⊢
  refine ⟨?_,h.2⟩
  rw [List.eq_nil_iff_forall_not_mem]
  intro j hj
  have:=Br.1 h.1 j (List.mem_range.2 (MF hj))
  rw [(Gj hL j).2 hj] at this
  cases this
 | test c a b iha ihb =>
  intro L m F hL hs h
  simp only [xq,pV,AE] at h ⊢
  exact ⟨iha _ _ _ hL hs h.1,ihb _ _ _ hL hs h.2⟩
 | take i g ao r ih =>
  intro L m F hL hs h
  simp only [xq,pV,AE] at h ⊢
  obtain ⟨⟨⟨⟨⟨h1,h2⟩,h3⟩,h4⟩,h5⟩,h6⟩:=h
  have hr:=(Gj hL i).1 h1
  refine ⟨⟨⟨⟨⟨by simpa using hr,?_⟩,h3⟩,h4⟩,h5⟩,ih _ _ _ (hL.set (MF hr)) (hs.set hr) h6⟩
  rcases Ec _ _▸h2 with q | q
  ·exact yp hA hs hr q
  ·exact q
 | skip i g d r ih =>
  intro L m F hL hs h
  simp only [xq,pV,AE] at h ⊢
  obtain ⟨⟨⟨⟨h1,h2⟩,h3⟩,h5⟩,h6⟩:=h
  have hr:=(Gj hL i).1 h1
  refine ⟨⟨⟨⟨by simpa using hr,?_⟩,h3⟩,h5⟩,ih _ _ _ (hL.set (MF hr)) (hs.set hr) h6⟩
  rcases Ec _ _▸h2 with q | q
  ·exact yp hA hs hr q
  ·exact q
 | only i g ao e fl r ih =>
  intro L m F hL hs h
  simp only [xq,pV,AE] at h ⊢
  obtain ⟨⟨⟨⟨⟨⟨⟨h1,h2⟩,h3⟩,h4⟩,h5⟩,h6⟩,h7⟩,h8⟩:=h
  have hr:=(Gj hL i).1 h1
  have hfl:∀ f∈fl,PX (AAm ops) m f.1=true:=fun f hf=>by
   have:=Br.1 h5 f hf
   simp only [xp,AE] at this
   exact this.1.1
  have hL2:=LM.add (fl.map (·.1)) hL fun f hf=>by
   obtain ⟨g,hg,rfl⟩:=List.mem_map.1 hf
   exact MF ((Gj hL g.1).1 (hfl g hg))
  refine ⟨⟨⟨⟨⟨⟨⟨by simpa using hr,?_⟩,h3⟩,h4⟩,?_⟩,h6⟩,h7⟩,ih _ _ _ (hL.set (MF hr)) (hs.set hr) h8⟩
  ·rw [Br]
   intro k hk
   have:=Br.1 h2 k (List.mem_range.2 (MF hk))
   rw [(Gj hL2 k).2 hk] at this
   simpa using this
  ·rw [Br]
   intro f hf
   have h9:=Br.1 h5 f hf
   unfold xp at h9
   unfold xo
   rw [hfl f hf] at h9
   have h10:(Region.ready .any ops L).contains f.1=true:=by simpa using (Gj hL f.1).1 (hfl f hf)
   rw [h10]
   exact h9
 | fork i ai ri j aj rj ihi ihj =>
  intro L m F hL hs h
  simp only [xq,pV,AE] at h ⊢
  obtain ⟨⟨⟨⟨⟨⟨h0,h1⟩,h2⟩,h3⟩,h4⟩,h5⟩,h6⟩:=h
  have hr:=(Gj hL i).1 h1.1
  have hr2:=(Gj hL j).1 h1.2
  have hall:(Region.ready .any ops L).all (fun k=>k==i||k==j)=true:=by
   rw [Br]
   intro k hk
   have:=Br.1 h2 k (List.mem_range.2 (MF hk))
   rw [(Gj hL k).2 hk] at this
   simpa using this
  exact ⟨⟨⟨⟨⟨⟨h0,by simpa using hr⟩,hall⟩,h3⟩,h4⟩,ihi _ _ _ (hL.set (MF hr)) (hs.set hr) h5⟩,ihj _ _ _ (hL.set (MF hr2)) (hs.set hr2) h6⟩
theorem AAp {P:Program} {n:Nat} {ops:Array Oper} {anc:List (List Nat)} {t:DT} (h:AAn P n ops anc t=true):ym P n ops anc t=true:=by
 simp only [AAn,ym,AE] at h ⊢
 refine ⟨h.1,ADY h.1.2 t _ 0 [] ⟨by simp,fun j=>?_⟩ ?_ h.2⟩
 ·rw [Nat.zero_testBit]
  simp [Array.getD]
 ·intro k o hk' _ _ _ _
  simp [Array.getElem?_replicate] at hk'
  split at hk'<;>simp at hk'

theorem zk {st:List AT} {N k:Nat} {cs:List AV} (h:(st.map (AT.older N))[k]? = some (.var cs)) {o i:Nat} (ho:cs[o]? = some (.row i)):i<N:=by
 rw [CE] at h
 cases hb:st[k]? with
 | none=>rw [hb] at h; cases h
 | some b =>
  rw [hb] at h
  cases b with
  | var cs0 =>
   cases h
   rw [CE] at ho
   cases hc:cs0[o]? with
   | none=>rw [hc] at ho; cases ho
   | some c =>
    rw [hc] at ho
    simp only [Option.map_some,BB] at ho
    cases c<;>simp only [AV.olderC] at ho<;>try cases ho
    split at ho
    ·rename_i hn
     cases ho
     exact hn
    ·cases ho
  | _=>cases h
theorem SR.cut {H:HP} {φ:Bz} {st:List AT} {w:World} (h:SR H φ st w) (N:Nat):SR H φ ((st.take N).map (AT.older N)) w:=by
 have h2:=h.older N
 rw [List.map_take]
 have get:∀ (i:Nat) (b:AT),((st.map (AT.older N)).take N)[i]? = some b->(st.map (AT.older N))[i]? = some b:=by
  intro i b hi
  rw [BQ] at hi
  split at hi
  ·exact hi
  ·cases hi
 refine ⟨h2.hp,fun i b hi=>h2.box i b (get i b hi),fun i j bi bj hi hj=>h2.sep i j bi bj (get i bi hi) (get j bj hj),fun i bi hi=>h2.out i bi (get i bi hi),fun id cs hid o i ho=>?_,h2.tb⟩
 obtain ⟨h3,h4⟩:=h2.cell id cs (get id _ hid) o i ho
 have hi:=zk (get id _ hid) ho
 refine ⟨?_,h4⟩
 unfold AJ at h3 ⊢
 rw [BQ,if_pos hi]
 exact h3
theorem Af.cut {H H':HP} {φ φ':Bz} {st st':List AT} {w w':World} (h:Af H φ st w H' φ' st' w') {N:Nat} (hN:st.length<=N):Af H φ st w H' φ' ((st'.take N).map (AT.older N)) w':=by
 refine ⟨h.le,h.sr.cut N,fun mv m0 H0 φ0 w0 f=>?_⟩
 have f2:=h.fr mv m0 H0 φ0 w0 f
 refine { f2 with new:=fun i bi hbi hl b hb=>?_,vars:=fun j hj=>?_ }
 ·rw [CE,BQ] at hbi
  split at hbi
  ·cases hb0:st'[i]? with
   | none=>rw [hb0] at hbi; cases hbi
   | some b0 =>
    rw [hb0] at hbi
    cases hbi
    exact f2.new i b0 hb0 (by cases b0<;>exact hl) b hb
  ·cases hbi
 ·have h1:=Nu (f.vars j hj)
  have h2:=f2.vars j hj
  rw [Ff (PW N)]
  unfold AX at h2 ⊢
  rw [BQ,if_pos (by omega)]
  exact h2
theorem EZ.cut {H:HP} {φ:Bz} {st:List AT} {fr:List (Nat×AV)} {tmps:Array Value} (h:EZ H φ st fr tmps) (live:List Nat) (N:Nat) :
  EZ H φ ((st.take N).map (AT.older N)) (live.map fun t=>(t,(Eg fr t).older N)) tmps:=by
 intro t
 rcases ti fr (fun a=>a.older N) live t with e | e
 ·rw [e]; trivial
 ·rw [e]; exact (h t).older N
theorem wI {s s':St} {i:Nat} {v a:AV} {ids:List Nat} (h:s.intoRow i v=some (a,s',ids)):s'.st.length=s.st.length:=by
 unfold St.intoRow at h
 split at h
 ·split at h
  ·cases h; rfl
  ·split at h
   ·split at h
    ·cases h; simp
    ·cases h
   ·cases h
 ·split at h
  ·cases h; simp
  ·cases h
 ·cases h
theorem AB9 {H:HP} {φ:Bz} {s:St} {w:World} {tmps:Array Value} (hs:SR H φ s.st w) (hf:EZ H φ s.st s.fr tmps) (n t i:Nat) :
  ∃ φ',Af H φ s.st w H φ' (s.home n t i).st w/\EZ H φ' (s.home n t i).st (s.home n t i).fr tmps/\(s.home n t i).st.length=s.st.length:=by
 have same:∃ φ',Af H φ s.st w H φ' s.st w/\EZ H φ' s.st s.fr tmps/\s.st.length=s.st.length:=⟨φ,Af.refl hs,hf,rfl⟩
 unfold St.home
 split
 ·rename_i k hk
  split
  ·split
   ·rename_i x hx
    have hv:=hf t
    rw [hk] at hv
    obtain ⟨a,s1,ids⟩:=x
    obtain ⟨φ',h1,_,_,h4,h5,h6⟩:=fb hs (v:=.row k) (u:=tmps.getD t undef) hv hx
    exact ⟨φ',h1,EZ.cons (h6 tmps hf) ⟨h5,h4⟩,(wI hx:s1.st.length=s.st.length)⟩
   ·exact same
  ·exact same
 ·exact same
theorem wJ {w:World} {tmps:Array Value} {n:Nat}:∀ (hs:List (Nat×Nat)) {H:HP} {φ:Bz} {s:St},SR H φ s.st w->EZ H φ s.st s.fr tmps ->
  ∃ φ',Af H φ s.st w H φ' (St.homes n hs s).st w/\EZ H φ' (St.homes n hs s).st (St.homes n hs s).fr tmps/\(St.homes n hs s).st.length=s.st.length
 | [],H,φ,s,h,hf=>⟨φ,Af.refl h,hf,rfl⟩
 | p::r,H,φ,s,h,hf=>by
  obtain ⟨φ1,a1,a2,a3⟩:=AB9 h hf n p.1 p.2
  obtain ⟨φ2,b1,b2,b3⟩:=wJ r a1.sr a2
  exact ⟨φ2,a1.trans b1,b2,b3.trans a3⟩
theorem uf {H H':HP} {φ φ':Bz} {st:List AT} {s':St} {w w':World} {tmps:Array Value} (h:Af H φ st w H' φ' s'.st w') (hf:EZ H' φ' s'.st s'.fr tmps) (hs:List (Nat×Nat)) (live:List Nat) {N:Nat} (hN:st.length<=N) :
  ∃ φ2,Af H φ st w H' φ2 (s'.cutH hs live N).st w'/\EZ H' φ2 (s'.cutH hs live N).st (s'.cutH hs live N).fr tmps:=by
 obtain ⟨φ2,a1,a2,_⟩:=wJ (n:=N) hs h.sr hf
 exact ⟨φ2,(h.trans a1).cut hN,a2.cut live N⟩
def cz (P:Program) (c:Code) (Q:Exit->Act->World->Prop) (a:Act) (w:World):Prop :=
 ∀ (b:Frame) (k:List Item) (cs:List Frame),∃ e a' w',Q e a' w'/\Arrives P (lone (b.at a (.code c::.inLoop c::k)) cs w) b k cs e a' w'
theorem cz.wp {c:Code} {Q:Exit->Act->World->Prop} {a:Act} {w:World} (h:cz P c Q a w):(Code.loop c).wp P Q a w:=by
 intro b k cs
 obtain ⟨e,a',w',hq,harr⟩:=h b k cs
 exact ⟨e,a',w',hq,.of_steps (.one step_loop) harr⟩
theorem cz.round {c:Code} {Q:Exit->Act->World->Prop} {a:Act} {w:World} (h:c.wp P (Exit.then (cz P c Q) Q) a w):cz P c Q a w:=by
 intro b k cs
 obtain ⟨e,a₁,w₁,hq,harr⟩:=h b (.inLoop c::k) cs
 cases e with
 | normal =>
  obtain ⟨e₂,a₂,w₂,hq₂,harr₂⟩:=hq b k cs
  exact ⟨e₂,a₂,w₂,hq₂,.of_steps (Steps.trans harr (.one step_inLoop)) harr₂⟩
 | exit id=>exact ⟨_,a₁,w₁,hq,.pass (x:=.inLoop c) rfl (fun _ _=>.inl (by simp)) harr⟩
 | goto l=>exact ⟨_,a₁,w₁,hq,.pass (x:=.inLoop c) rfl (fun _ _=>.inl (by simp)) harr⟩
 | ret=>exact ⟨_,a₁,w₁,hq,.pass (x:=.inLoop c) rfl (fun _ _=>.inl (by simp)) harr⟩
 | panic ch=>exact ⟨_,a₁,w₁,hq,.pass (x:=.inLoop c) rfl (fun _ _=>.inl (by simp)) harr⟩
 | outgrown=>exact ⟨_,a₁,w₁,hq,.pass (x:=.inLoop c) rfl (fun _ _=>.inl (by simp)) harr⟩
def F8 (P:Program) (n:Nat):Code->AH->Bool
 | .skip,.skip=>true
 | .region _ ops false,.region aos _=>decide (bI P n ops none [] 0 aos=some ops.size)
 | .region _ ops true,.draw anc t _=>AAn P n ops anc t
 | .seq x y,.seq a b=>F8 P n x a&&F8 P n y b
 | .seq x y,.seqc _ a b=>F8 P n x a&&F8 P n y b
 | .cond c x y,.cond c' a b=>DW c c'&&F8 P n x a&&F8 P n y b
 | .block id x,.block id' _ a=>id==id'&&F8 P n x a
 | .loop x,.loop _ a=>F8 P n x a
 | .exit id,.exit id'=>id==id'
 | .ret,.ret=>true
 | _,_=>false
def m4 {ρ:Type} (n:Nat) (q:St->Option ρ) (r:ρ) (s:St) (act:Act) (w:World) (H:HP) (φ:Bz) (N:Act->World->Prop):Prop :=
 ∀ s' act' w' H' φ',q s'=some r->Af H φ s.st w H' φ' s'.st w'->EZ H' φ' s'.st s'.fr act'.tmps->act'.tmps.size=n->act'.defers=act.defers->N act' w'
def AAq (P:Program) (n:Nat) (cal:Fv) (k:Nat) (c:Code) (ac:AH):Prop :=
 ∀ (ρ:Type) (kn kr:St->Option ρ) (ke:Nat->St->Option ρ) (r:ρ) (s:St) (act:Act) (w:World) (H:HP) (φ:Bz) (Q:Exit->Act->World->Prop),
  SR H φ s.st w->EZ H φ s.st s.fr act.tmps->act.tmps.size=n->HS cal k ac kn kr ke s=some r ->
  m4 n kn r s act w H φ (Q .normal)->m4 n kr r s act w H φ (Q .ret)->(∀ i,m4 n (ke i) r s act w H φ (Q (.exit i)))->c.wp P Q act w
theorem m4.step {ρ:Type} {n:Nat} {q:St->Option ρ} {r:ρ} {s s1:St} {act act1:Act} {w w1:World} {H H1:HP} {φ φ1:Bz} {N:Act->World->Prop}
  (h:m4 n q r s act w H φ N) (hst:Af H φ s.st w H1 φ1 s1.st w1) (hd:act1.defers=act.defers):m4 n q r s1 act1 w1 H1 φ1 N :=
 fun s' act' w' H' φ' hq hs hf hn hd'=>h s' act' w' H' φ' hq (hst.trans hs) hf hn (hd'.trans hd)
theorem wK {n:Nat} {cal:Fv} {k:Nat} (hcal:Hc P cal) {id:Nat} {ops:Array Oper} {aos:List Ey} {live:List Nat} (h:bI P n ops none [] 0 aos=some ops.size) :
  AAq P n cal k (.region id ops false) (.region aos live):=by
 intro ρ kn kr ke r s act w H φ Q hs hf hn hk hnorm _ _
 simp only [HS] at hk
 refine zg hcal h hs hf hn hk fun s' act' w' H' φ' hk' hst hf' hn' hd'=>?_
 exact hnorm _ act' w' H' φ' hk' hst (hf'.live live) hn' hd'
theorem AB_ {n:Nat} {cal:Fv} {k:Nat} (hcal:Hc P cal):∀ (ac:AH) (c:Code),F8 P n c ac=true->AAq P n cal k c ac:=by
 intro ac
 induction ac with
 | skip =>
  intro c h
  cases c<;>first | (simp [F8] at h; done) | skip
  intro ρ kn kr ke r s act w H φ Q hs hf hn hk h1 _ _
  exact wp_skip (h1 s act w H φ hk (Af.refl hs) hf hn rfl)
 | ret =>
  intro c h
  cases c<;>first | (simp [F8] at h; done) | skip
  intro ρ kn kr ke r s act w H φ Q hs hf hn hk _ h2 _
  exact wp_ret (h2 s act w H φ hk (Af.refl hs) hf hn rfl)
 | exit id =>
  intro c h
  cases c<;>first | (simp [F8] at h; done) | skip
  rename_i id'
  simp only [F8,beq_iff_eq] at h
  subst h
  intro ρ kn kr ke r s act w H φ Q hs hf hn hk _ _ h3
  exact wp_exit (h3 id' s act w H φ hk (Af.refl hs) hf hn rfl)
 | region aos live =>
  intro c h
  cases c<;>first | (simp [F8] at h; done) | skip
  rename_i id ops draw
  cases draw
  ·simp only [F8,decide_eq_true_eq] at h
   exact wK hcal h
  ·simp [F8] at h
 | draw anc t live =>
  intro c h
  cases c<;>first | (simp [F8] at h; done) | skip
  rename_i id ops draw
  cases draw
  ·simp [F8] at h
  ·simp only [F8] at h
   intro ρ kn kr ke r s act w H φ Q hs hf hn hk hnorm _ _
   simp only [HS] at hk
   exact AB6 hcal (AAp h) hs hf hn hk fun s' act' w' H' φ' hk' hst hf' hn' hd'=>hnorm _ act' w' H' φ' hk' hst (hf'.live live) hn' hd'
 | seq a b iha ihb =>
  intro c h
  cases c<;>first | (simp [F8] at h; done) | skip
  rename_i x y
  simp only [F8,AE] at h
  intro ρ kn kr ke r s act w H φ Q hs hf hn hk h1 h2 h3
  simp only [HS] at hk
  refine wp_seq (iha x h.1 ρ (fun s'=>HS cal k b kn kr ke s') kr ke r s act w H φ _ hs hf hn hk (fun s' act' w' H' φ' hk' hst hf' hn' hd'=>?_) h2 h3)
  exact ihb y h.2 ρ kn kr ke r s' act' w' H' φ' Q hst.sr hf' hn' hk' (h1.step hst hd') (h2.step hst hd') fun i=>(h3 i).step hst hd'
 | seqc live a b iha ihb =>
  intro c h
  cases c<;>first | (simp [F8] at h; done) | skip
  rename_i x y
  simp only [F8,AE] at h
  intro ρ kn kr ke r s act w H φ Q hs hf hn hk h1 h2 h3
  simp only [HS] at hk
  refine wp_seq (iha x h.1 ρ (fun s'=>HS cal k b kn kr ke (s'.cutH (Dx s live) live s.st.length)) kr ke r s act w H φ _ hs hf hn hk (fun s' act' w' H' φ' hk' hst hf' hn' hd'=>?_) h2 h3)
  obtain ⟨φ2,hst',hf2⟩:=uf hst hf' (Dx s live) live (Nat.le_refl _)
  exact ihb y h.2 ρ kn kr ke r (s'.cutH (Dx s live) live s.st.length) act' w' H' φ2 Q hst'.sr hf2 hn' hk' (h1.step hst' hd') (h2.step hst' hd') fun i=>(h3 i).step hst' hd'
 | cond c' a b iha ihb =>
  intro c h
  cases c<;>first | (simp [F8] at h; done) | skip
  rename_i co x y
  simp only [F8,AE] at h
  obtain ⟨⟨hc,ha⟩,hb⟩:=h
  intro ρ kn kr ke r s act w H φ Q hs hf hn hk h1 h2 h3
  simp only [HS] at hk
  cases ht:s.opd c' with
  | bool t =>
   rw [ht] at hk
   simp only at hk
   have hv:=(BR hf hc).bool ht
   cases t with
   | true=>exact wp_cond_true hv (iha x ha ρ kn kr ke r s act w H φ Q hs hf hn (by simpa using hk) h1 h2 h3)
   | false=>exact wp_cond_false hv (ihb y hb ρ kn kr ke r s act w H φ Q hs hf hn (by simpa using hk) h1 h2 h3)
  | _=>rw [ht] at hk; cases hk
 | block id live a iha =>
  intro c h
  cases c<;>first | (simp [F8] at h; done) | skip
  rename_i id' x
  simp only [F8,AE,beq_iff_eq] at h
  obtain ⟨rfl,h⟩:=h
  intro ρ kn kr ke r s act w H φ Q hs hf hn hk h1 h2 h3
  simp only [HS] at hk
  have cutOk:m4 n (fun s'=>kn (s'.cutH (Dx s live) live s.st.length)) r s act w H φ (Q .normal):=fun s' act' w' H' φ' hk' hst hf' hn' hd'=>by
   obtain ⟨φ2,hst',hf2⟩:=uf hst hf' (Dx s live) live (Nat.le_refl _)
   exact h1 _ act' w' H' φ2 hk' hst' hf2 hn' hd'
  refine wp_block (iha x h ρ (fun s'=>kn (s'.cutH (Dx s live) live s.st.length)) kr (fun i s'=>if i=id' then kn (s'.cutH (Dx s live) live s.st.length) else ke i s') r s act w H φ _ hs hf hn hk cutOk h2 fun i=>?_)
  intro s' act' w' H' φ' hk' hst hf' hn' hd'
  simp only at hk'
  simp only [Exit.inBlock]
  by_cases e:i=id'
  ·rw [if_pos e] at hk' ⊢
   exact cutOk s' act' w' H' φ' hk' hst hf' hn' hd'
  ·rw [if_neg e] at hk' ⊢
   exact h3 i s' act' w' H' φ' hk' hst hf' hn' hd'
 | loop live a iha =>
  intro c h
  cases c<;>first | (simp [F8] at h; done) | skip
  rename_i x
  simp only [F8] at h
  intro ρ kn kr ke r s act w H φ Q hs hf hn hk _ h2 h3
  simp only [HS] at hk
  have key:∀ (j:Nat) (s1:St) (act1:Act) (w1:World) (H1:HP) (φ1:Bz),s1.st.length<=s.st.length->Af H φ s.st w H1 φ1 s1.st w1->EZ H1 φ1 s1.st s1.fr act1.tmps->act1.tmps.size=n->act1.defers=act.defers ->
    Om j (fun go s'=>HS cal k a (fun s''=>go (s''.cutH (Dx s live) live s.st.length)) kr ke s') s1=some r->cz P x Q act1 w1:=by
   intro j
   induction j with
   | zero=>intro s1 act1 w1 H1 φ1 _ _ _ _ _ hk; cases hk
   | succ j ihj =>
    intro s1 act1 w1 H1 φ1 hl hst hf1 hn1 hd1 hk
    simp only [Om] at hk
    refine cz.round (iha x h ρ _ kr ke r s1 act1 w1 H1 φ1 _ hst.sr hf1 hn1 hk (fun s' act' w' H' φ' hk' hst' hf' hn' hd'=>?_) (h2.step hst hd1) fun i=>(h3 i).step hst hd1)
    obtain ⟨φ2,hst2,hf2⟩:=uf hst' hf' (Dx s live) live hl
    exact ihj (s'.cutH (Dx s live) live s.st.length) act' w' H' φ2 (by simp [St.cutH,St.cut]; omega) (hst.trans hst2) hf2 hn' (hd'.trans hd1) hk'
  refine (key k (s.cut live s.st.length) act w H φ (by simp [St.cut]) ((Af.refl hs).cut (Nat.le_refl _)) (hf.cut live _) hn rfl hk).wp
end Go.Proofs.YtfcgblnlopemkaaGreat.Core

namespace Go.Proofs.YtfcgblnlopemkaaGreat.Core
open Go
variable {H:HP} {φ:Bz} {st:List AT} {w:World} {P:Program}
def t8 (st:List AT) (i:Nat) (b:AT):Prop :=
 (∃ (t:TypeId) (e:Kd),∃ xs:List (Kd.T e),st[i]? = some (AT.rows t e xs)/\b=AT.rows t e xs) \/
 (∃ cs ecs:List AV,st[i]? = some (AT.var cs)/\b=AT.var ecs/\ecs.length=cs.length/\∀ (o:Nat) (a:AV),ecs[o]? = some a->∃ c,cs[o]? = some c/\a.solid=true/\c.solid=true/\∀ (H:HP) (u:Value),VF H c u->VF H a u)
theorem qK:∀ {ks:List Kd} {cs cs':List AV},OS ks cs=some cs'->cs'.length=cs.length/\(cs'.all fun c=>c.solid&&(match c with | .nil=>false | _=>true))=true /\
  ∀ (o:Nat) (a:AV),cs'[o]? = some a->∃ c,cs[o]? = some c/\a.solid=true/\c.solid=true/\∀ (H:HP) (u:Value),VF H c u->VF H a u
 | [],[],cs',h=>by cases h; exact ⟨rfl,rfl,fun o a h=>by simp at h⟩
 | [],_::_,cs',h=>by simp [OS] at h
 | _::_,[],cs',h=>by simp [OS] at h
 | k::ks,v::vs,cs',h=>by
  simp only [OS] at h
  cases h1:v.norm k with
  | none=>rw [h1] at h; cases h
  | some a =>
   rw [h1] at h
   simp only [AC] at h
   cases h2:OS ks vs with
   | none=>rw [h2] at h; cases h
   | some r =>
    rw [h2] at h
    cases h
    obtain ⟨n1,n2,n3,n4⟩:=fp h1
    obtain ⟨l1,l2,l3⟩:=qK h2
    refine ⟨by simp [l1],?_,fun o b hb=>?_⟩
    ·simp only [List.all_cons,l2,n2,Bool.true_and,Bool.and_true]
     cases a<;>first | rfl | cases n1
    ·cases o with
     | zero=>simp at hb; subst hb; exact ⟨v,rfl,n2,n3,n4⟩
     | succ o=>simpa using l3 o b (by simpa using hb)
theorem xr {s s':St} {a a':AV} (h:s.keep a=some (a',s')) {i:Nat} (hi:a≠.row i):s'.st[i]? = s.st[i]? := by
 cases a with
 | row id =>
  simp only [St.keep] at h
  split at h
  ·split at h
   case isFalse=>cases h
   cases h
   simp only [Am]
   rw [if_neg (fun e=>hi (by rw [e]))]
  ·cases h; rfl
  ·cases h
 | fn f caps=>cases caps<;>first | (cases h; rfl) | cases h
 | _=>first | (cases h; rfl) | cases h
theorem AAr {s s':St} {a a':AV} (h:s.keep a=some (a',s')) {i:Nat} (hi:AX s.st i=true):s'.st[i]? = s.st[i]? := by
 cases a with
 | row id =>
  simp only [St.keep] at h
  split at h
  ·rename_i t K xs hb
   split at h
   case isFalse=>cases h
   cases h
   simp only [Am]
   rw [if_neg (fun e=>by subst e; simp only [AX,hb] at hi; cases hi)]
  ·cases h; rfl
  ·cases h
 | fn f caps=>cases caps<;>first | (cases h; rfl) | cases h
 | _=>first | (cases h; rfl) | cases h
theorem xt {s s':St} {i:Nat} {a':AV} (h:s.keep (.row i)=some (a',s')):a'.nilFree=true/\a'.solid=true:=by
 simp only [St.keep] at h
 split at h
 ·split at h
  ·cases h; exact ⟨rfl,rfl⟩
  ·cases h
 ·cases h; exact ⟨rfl,rfl⟩
 ·cases h
structure FV (H:HP) (φ:Bz) (w:World) (s s':St) (tk tk':List Nat) (us:List Value) (cl:List AV) (H':HP) (ids:List Nat):Prop where
 step:Af H φ s.st w H' φ s'.st w
 keeps:Bp φ s.st φ s'.st none
 fr:s'.fr=s.fr
 nf:cl.all AV.nilFree=true
 cnt:AS cl=ids.length
 tks:tk'=ids.reverse++tk
 nd:tk.Nodup->tk'.Nodup
 held:∀ i∈tk,s'.st[i]? = s.st[i]?
 vars:∀ i,AX s.st i=true->s'.st[i]? = s.st[i]?
 boxes:∀ (m:Nat) (b:AT),(BA cl)[m]? = some b->∃ i,ids[m]? = some i/\t8 s'.st i b
 vals:∀ (k:Nat) (f:Nat->Nat),(∀ m i,ids[m]? = some i->f (k+m)=i) ->
  As (fun a u=>VC H' φ s'.st (a.ren f) u/\(a.solid=true\/∃ m,m<ids.length/\((∃ t e,∃ xs:List (Kd.T e),a=.row (k+m)/\(BA cl)[m]? = some (AT.rows t e xs))\/(∃ ecs,a=.ptr (k+m) 0/\(BA cl)[m]? = some (AT.var ecs))))) (Be k cl) us
theorem jn {a:AV} (h:a.solid=true) (f:Nat->Nat):a.ren f=a:=by cases a<;>first | rfl | cases h
theorem FV.plain {H:HP} {φ:Bz} {s s1 s':St} {tk tk':List Nat} {u:Value} {us:List Value} {cl:List AV} {H1 H':HP} {ids:List Nat} {a:AV} (F:FV H1 φ w s1 s' tk tk' us cl H' ids)
  (hst:Af H φ s.st w H1 φ s1.st w) (hk:Bp φ s.st φ s1.st none) (hfr:s1.fr=s.fr) (hheld:∀ i∈tk,s1.st[i]? = s.st[i]?) (hvars:∀ i,AX s.st i=true->s1.st[i]? = s.st[i]?)
  (hn:a.nilFree=true) (hs:a.solid=true) (hv:VF H1 a u):FV H φ w s s' tk tk' (u::us) (a::cl) H' ids:=by
 have o1:∀ k,Be k (a::cl)=a::Be k cl:=fun k=>by cases a<;>first | rfl | cases hs
 have o2:BA (a::cl)=BA cl:=by cases a<;>first | rfl | cases hs
 have o3:AS (a::cl)=AS cl:=by cases a<;>first | rfl | cases hs
 refine ⟨hst.trans F.step,hk.trans F.keeps,F.fr.trans hfr,by simp [hn,F.nf],by rw [o3]; exact F.cnt,F.tks,F.nd,fun i hi=>(F.held i hi).trans (hheld i hi),fun i hi=>?_,by rw [o2]; exact F.boxes,fun k f hf=>?_⟩
 ·have h1:=hvars i hi
  rw [F.vars i (by unfold AX at hi ⊢; rw [h1]; exact hi),h1]
 ·rw [o1,o2]
  exact ⟨u,us,rfl,⟨by rw [jn hs]; exact VC.of_VF (hv.mono F.step.le),.inl hs⟩,F.vals k f hf⟩
theorem RG:∀ {ks:List Kd} {vs cl:List AV} {tk tk':List Nat} {s s':St} {H:HP} {us:List Value},SR H φ s.st w->As (VC H φ s.st) vs us->s.shutAll tk ks vs=some (cl,tk',s') ->
  ∃ H' ids,FV H φ w s s' tk tk' us cl H' ids
 | [],[],cl,tk,tk',s,s',H,us,hs,hv,h=>by
  cases h
  cases hv
  exact ⟨H,[],Af.refl hs,Bp.refl _ _ _,rfl,rfl,rfl,rfl,fun h=>h,fun _ _=>rfl,fun _ _=>rfl,fun m b h=>by simp [BA] at h,fun k f _=>rfl⟩
 | [],_::_,cl,tk,tk',s,s',H,us,hs,hv,h=>by simp [St.shutAll] at h
 | _::_,[],cl,tk,tk',s,s',H,us,hs,hv,h=>by simp [St.shutAll] at h
 | k0::ks,v::vs,cl,tk,tk',s,s',H,us,hs,hv,h=>by
  obtain ⟨u,us,rfl,hu,hr⟩:=hv
  have norm:((v.norm k0).bind fun a=>(s.shutAll tk ks vs).bind fun y=>some (a::y.1,y.2))=some (cl,tk',s')->∃ H' ids,FV H φ w s s' tk tk' (u::us) cl H' ids:=by
   intro h
   cases hq:v.norm k0 with
   | none=>rw [hq] at h; cases h
   | some a =>
    rw [hq] at h
    simp only [AC] at h
    cases hc:s.shutAll tk ks vs with
    | none=>rw [hc] at h; cases h
    | some y =>
     obtain ⟨y1,y2,y3⟩:=y
     rw [hc] at h
     cases h
     obtain ⟨n1,n2,n3,n4⟩:=fp hq
     obtain ⟨H',ids,F⟩:=RG hs hr hc
     exact ⟨H',ids,F.plain (Af.refl hs) (Bp.refl _ _ _) rfl (fun _ _=>rfl) (fun _ _=>rfl) n1 n2 (n4 H u (hu.solid n3))⟩
  have away:∀ (i:Nat) (a:AV) (b:AT) (y:List AV×List Nat×St),Bo tk i=false->s.shutAll (i::tk) ks vs=some y->(cl,tk',s')=(a::y.1,y.2) ->
    t8 s.st i b->a.nilFree=true->(∀ k r,Be k (a::r)=(match b with | .var _=>AV.ptr k 0 | _=>AV.row k)::Be (k+1) r)->(∀ r,BA (a::r)=b::BA r)->(∀ r,AS (a::r)=AS r+1) ->
    (∀ cs,b=.var cs->v=.ptr i 0)->((∀ cs,b≠.var cs)->v=.row i)->((∀ cs,b≠.var cs)->∃ (t:TypeId) (e:Kd),∃ xs:List (Kd.T e),b=AT.rows t e xs)->∃ H' ids,FV H φ w s s' tk tk' (u::us) cl H' ids:=by
   intro i a b y hn hy e hb hnf o1 o2 o3 e1 e2 e3
   obtain ⟨y1,y2,y3⟩:=y
   cases e
   obtain ⟨H',ids,F⟩:=RG hs hr hy
   refine ⟨H',i::ids,F.step,F.keeps,F.fr,by simp [hnf,F.nf],by rw [o3,F.cnt]; rfl,by rw [F.tks]; simp,fun hnd=>F.nd (List.nodup_cons.2 ⟨BK.1 hn,hnd⟩),fun j hj=>F.held j (by simp [hj]),F.vars,fun m b' hb'=>?_,fun k f hf=>?_⟩
   ·rw [o2] at hb'
    cases m with
    | zero =>
     simp at hb'
     subst hb'
     refine ⟨i,rfl,?_⟩
     have hh:=F.held i (by simp)
     unfold t8 at hb ⊢
     rw [hh]
     exact hb
    | succ m=>simpa using F.boxes m b' (by simpa using hb')
   ·rw [o1,o2]
    have f0:f k=i:=by simpa using hf 0 i rfl
    refine ⟨u,us,rfl,⟨?_,.inr ⟨0,by simp,?_⟩⟩,?_⟩
    ·have hu':=VC.mono F.step.le F.keeps hu
     cases b with
     | var cs =>
      simp only [AV.ren,f0]
      rw [e1 cs rfl] at hu'
      exact hu'
     | _ =>
      simp only [AV.ren,f0]
      rw [e2 (by simp)] at hu'
      exact hu'
    ·cases b with
     | var cs=>exact .inr ⟨cs,rfl,rfl⟩
     | rows t e xs=>exact .inl ⟨t,e,xs,rfl,rfl⟩
     | _=>obtain ⟨_,_,_,e⟩:=e3 (by simp); cases e
    ·have:=F.vals (k+1) f fun m j hj=>by rw [Nat.add_assoc,Nat.add_comm 1 m]; exact hf (m+1) j (by simpa using hj)
     refine this.imp fun a' u' ⟨g1,g2⟩=>⟨g1,?_⟩
     rcases g2 with g2 | ⟨m,hm,g2⟩
     ·exact .inl g2
     ·refine .inr ⟨m+1,by simp; omega,?_⟩
      rw [show k+(m+1)=k+1+m by omega]
      simpa using g2
  cases v with
  | row i =>
   simp only [St.shutAll] at h
   split at h
   ·cases h
   ·rename_i hn
    have hn:Bo tk i=false:=by simpa using hn
    have kept:((s.keep (.row i)).bind fun x=>(x.2.shutAll tk ks vs).bind fun y=>some (x.1::y.1,y.2))=some (cl,tk',s')->∃ H' ids,FV H φ w s s' tk tk' (u::us) cl H' ids:=by
     intro h
     cases hk:s.keep (.row i) with
     | none=>rw [hk] at h; cases h
     | some x =>
      obtain ⟨a1,s1⟩:=x
      rw [hk] at h
      simp only [AC] at h
      cases hc:s1.shutAll tk ks vs with
      | none=>rw [hc] at h; cases h
      | some y =>
       obtain ⟨y1,y2,y3⟩:=y
       rw [hc] at h
       cases h
       obtain ⟨H1,g1,k1,f1,r1,_⟩:=Q4 hs hu hk
       obtain ⟨H',ids,F⟩:=RG g1.sr (hr.imp fun _ _ h=>h.mono g1.le k1) hc
       obtain ⟨n1,n2⟩:=xt hk
       refine ⟨H',ids,F.plain g1 k1 r1 (fun j hj=>xr hk fun e=>?_) (fun j hj=>AAr hk hj) n1 n2 f1⟩
       cases e
       exact BK.1 hn hj
    split at h
    ·split at h
     ·rename_i t e xs hi
      cases hc:s.shutAll (i::tk) ks vs with
      | none=>rw [hc] at h; cases h
      | some y =>
       rw [hc] at h
       simp only [AC,BB] at h
       exact away i (.new t e xs) (.rows t e xs) y hn hc h.symm (.inl ⟨t,e,xs,hi,rfl⟩) rfl (fun k r=>rfl) (fun r=>rfl) (fun r=>by simp [AS,AV.isNew]) (fun cs e=>by cases e) (fun _=>rfl) (fun _=>⟨t,e,xs,rfl⟩)
     ·cases h
    ·exact kept h
  | ptr i o =>
   cases o with
   | zero =>
    simp only [St.shutAll] at h
    split at h
    ·cases h
    ·rename_i hn
     have hn:Bo tk i=false:=by simpa using hn
     split at h
     ·split at h
      ·rename_i K x0 cs hi
       cases hq:OS K.leaves cs with
       | none=>rw [hq] at h; cases h
       | some cs' =>
        rw [hq] at h
        simp only [AC] at h
        cases hc:s.shutAll (i::tk) ks vs with
        | none=>rw [hc] at h; cases h
        | some y =>
         rw [hc] at h
         simp only [AC,BB] at h
         obtain ⟨l1,l2,l3⟩:=qK hq
         exact away i (.ref cs') (.var cs') y hn hc h.symm (.inr ⟨cs,cs',hi,rfl,l1,l3⟩) l2 (fun k r=>rfl) (fun r=>rfl) (fun r=>by simp [AS,AV.isNew]) (fun _ _=>rfl) (fun h=>absurd rfl (h cs')) (fun h=>absurd rfl (h cs'))
      ·cases h
     ·cases h
   | succ o=>exact norm h
  | _=>exact norm h
end Go.Proofs.YtfcgblnlopemkaaGreat.Core

namespace Go.Proofs.YtfcgblnlopemkaaGreat.Core
open Go
variable {P:Program}
theorem FV.append {H H1 H2:HP} {φ:Bz} {w:World} {s s1 s2:St} {tk t1 t2:List Nat} {us1 us2:List Value} {c1 c2:List AV} {i1 i2:List Nat}
  (F1:FV H φ w s s1 tk t1 us1 c1 H1 i1) (F2:FV H1 φ w s1 s2 t1 t2 us2 c2 H2 i2):FV H φ w s s2 tk t2 (us1++us2) (c1++c2) H2 (i1++i2):=by
 have hl:(BA c1).length=i1.length:=by rw [ED,F1.cnt]
 refine ⟨F1.step.trans F2.step,F1.keeps.trans F2.keeps,F2.fr.trans F1.fr,by rw [List.all_append,F1.nf,F2.nf]; rfl,by rw [Bf,F1.cnt,F2.cnt,List.length_append],by rw [F2.tks,F1.tks]; simp,fun h=>F2.nd (F1.nd h),fun i hi=>?_,fun i hi=>?_,fun m b hb=>?_,fun k f hf=>?_⟩
 ·rw [F2.held i (by rw [F1.tks]; simp [hi]),F1.held i hi]
 ·have h1:=F1.vars i hi
  rw [F2.vars i (by unfold AX at hi ⊢; rw [h1]; exact hi),h1]
 ·rw [Bw] at hb
  rcases B3 m (BA c1).length with h | h
  ·rw [Au h] at hb
   obtain ⟨i,g1,g2⟩:=F1.boxes m b hb
   refine ⟨i,by rw [Au (by omega)]; exact g1,?_⟩
   have hh:=F2.held i (by rw [F1.tks]; simp [List.mem_of_getElem? g1])
   unfold t8 at g2 ⊢
   rw [hh]
   exact g2
  ·rw [B4 h] at hb
   obtain ⟨i,g1,g2⟩:=F2.boxes _ b hb
   exact ⟨i,by rw [B4 (by omega)]; rw [hl] at g1; exact g1,g2⟩
 ·rw [WV,Bw]
  refine As.append ((F1.vals k f fun m i hm=>hf m i (by rw [Au (Aj.1 hm).1]; exact hm)).imp fun a u ⟨g1,g2⟩=>⟨g1.mono F2.step.le F2.keeps,?_⟩)
   ((F2.vals (k+AS c1) f fun m i hm=>by
    rw [Nat.add_assoc]
    exact hf _ i (by rw [F1.cnt,B4 (by omega),Nat.add_sub_cancel_left]; exact hm)).imp fun a u ⟨g1,g2⟩=>⟨g1,?_⟩)
  ·rcases g2 with g2 | ⟨m,hm,g2⟩
   ·exact .inl g2
   ·refine .inr ⟨m,by simp; omega,?_⟩
    rw [Au (by omega)]
    exact g2
  ·rcases g2 with g2 | ⟨m,hm,g2⟩
   ·exact .inl g2
   ·refine .inr ⟨i1.length+m,by simp; omega,?_⟩
    rw [B4 (by omega),hl,Nat.add_sub_cancel_left,<- Nat.add_assoc]
    rw [F1.cnt] at g2
    exact g2
theorem zl {H:HP} {φ:Bz} {st:List AT} {w:World} (hs:SR H φ st w) {id:Nat} {cs:List AV} (hb:st[id]? = some (.var cs)) :
  ∃ b c el,φ id=.pointer (some ⟨b,0,none⟩)/\w.heap[b]? = some (.cells c el (0,0))/\As (VC H φ st) cs c.toList:=by
 obtain ⟨b,c,el,e3,hh,hc⟩:=hs.box id _ hb
 refine ⟨b,c,el,e3,hh,Sh hc.length fun j a u ha hu=>?_⟩
 have hw:=hc.at ha hu
 cases a with
 | row i =>
  obtain ⟨g1,b2,g2,g3⟩:=hs.cell id _ hb j i ha
  rw [e3] at g2
  cases g2
  simp only [World.cell?,hh] at g3
  rw [Array.getElem?_toList] at hu
  simp only [Option.isSome_none,Bool.false_eq_true,if_false] at g3
  rw [hu] at g3
  cases g3
  exact ⟨rfl,g1⟩
 | was i=>trivial
 | self T=>trivial
 | undef=>trivial
 | _=>exact VC.of_VF hw
def ACA (P:Program):ResultVar->Res->Bool
 | .tmp t,r=>!r.cell&&r.t==t
 | .cell a t,r=>r.cell&&r.t==a&&fk P t (Yy r.K)
def qL (P:Program):List ResultVar->List Res->Bool
 | [],[]=>true
 | v::vs,r::rs=>ACA P v r&&qL P vs rs
 | _,_=>false
def WZ (tmps:Array Value):ResultVar->Sem Value
 | .tmp t=>pure (tmps.getD t undef)
 | .cell a t=>do loadVar t (<- asAddr (tmps.getD a undef))
def ACB (K:Kd) (v:Value):Prop:=match K with
 | .pair _ _=>∃ arr,v=.agg arr
 | _=>v.cells=#[v]
theorem AAs {H:HP} {φ:Bz} {w:World} {s:St} {K:Kd} {a:AV} {v:Value} {ds:List AV} {off:Nat} {t:TypeId} (hs:SR H φ s.st w) (hv:VC H φ s.st a v) (hbh:s.behind a=some (ds,off)) (hl2:off+K.sz<=ds.length) (hp:fk P t (Yy K)=true) :
  ∃ u,(Instr.loadAt t v).run P w=.ok u w/\VA H φ s.st (part ds off (Yy K)) u:=by
 cases K with
 | pair a b=>exact mm hs hv hbh (n:=some _) hl2 hp
 | _=>exact mm hs hv hbh (n:=none) hl2 hp
theorem wL {H:HP} {φ:Bz} {w:World} {s:St} {r:Res} {rv:ResultVar} {cs:List AV} {tmps:Array Value} (hs:SR H φ s.st w) (hf:EZ H φ s.st s.fr tmps) (h:s.resCells r=some cs) (hb:ACA P rv r=true)
  (hne:∀ c∈cs,c.full=true) (hlen:cs.length=r.K.sz) :
  ∃ v,(WZ tmps rv).run P w=.ok v w/\As (VC H φ s.st) cs v.cells.toList/\ACB r.K v:=by
 unfold St.resCells at h
 cases rv with
 | tmp t =>
  simp only [ACA,AE,Dw,beq_iff_eq] at hb
  obtain ⟨hc,rfl⟩:=hb
  rw [if_neg (by rw [hc]; simp)] at h
  split at h
  ·rename_i hfit
   cases h
   simp only [AE] at hfit
   have hv:=hf r.t
   refine ⟨tmps.getD r.t undef,by simp [WZ],pw hs hv hfit.2,?_⟩
   rcases hv.cases with ⟨ds,arr,ea,ev,_⟩ | ⟨vs,arr,ea,_,_⟩ | hvc
   ·rw [ea] at hfit
    unfold ACB
    cases hK:r.K with
    | pair a b=>exact ⟨arr,ev⟩
    | _=>rw [hK] at hfit; cases hfit.1
   ·rw [ea] at hfit; cases hfit.2
   ·have h1:=pu hs hvc hfit.2
    unfold ACB
    cases hK:r.K with
    | pair a b =>
     rw [hK,Ul hvc] at hlen
     have p1:=Kd.sz_pos a
     have p2:=Kd.sz_pos b
     simp [Kd.sz] at hlen
     omega
    | _=>exact h1
  ·cases h
 | cell a t =>
  simp only [ACA,AE,beq_iff_eq] at hb
  obtain ⟨⟨hc,rfl⟩,hp⟩:=hb
  rw [if_pos hc] at h
  cases hbh:s.behind (Eg s.fr r.t) with
  | none=>rw [hbh] at h; cases h
  | some y =>
   obtain ⟨ds,off⟩:=y
   rw [hbh] at h
   simp only [AC,BB] at h
   subst h
   have hv:=(hf r.t).behind hbh
   have hl2:off+r.K.sz<=ds.length:=by
    have:=Kd.sz_pos r.K
    simp only [List.length_take,List.length_drop] at hlen
    omega
   obtain ⟨b,o,vs,ev,_,_⟩:=ag hs hv hbh
   obtain ⟨u,hrun,hu⟩:=AAs (P:=P) (t:=t) hs hv hbh hl2 hp
   have hrun2:(WZ tmps (.cell r.t t)).run P w=.ok u w:=by
    rw [ev] at hrun
    simp only [Instr.loadAt,Instr.sureAddr,Sem.run_bind,Sem.run_pure,Result.andThen_ok] at hrun
    simp only [WZ,Sem.run_bind]
    rw [ev]
    simp only [asAddr,Sem.run_pure,Result.andThen_ok]
    exact hrun
   refine ⟨u,hrun2,?_⟩
   have single:r.K.sz=1->Yy r.K=none->As (VC H φ s.st) ((ds.drop off).take r.K.sz) u.cells.toList/\u.cells=#[u]:=by
    intro h1 h2
    rw [h1] at hl2 hne ⊢
    rw [h2] at hu
    have hlt:off<ds.length:=by omega
    have hc1:(ds.drop off).take 1=[ds[off]]:=by rw [List.drop_eq_getElem_cons hlt]; rfl
    have hpart:part ds off none=ds[off]:=by simp only [part,List.headD_eq_head?_getD]; rw [List.drop_eq_getElem_cons hlt]; rfl
    rw [hpart] at hu
    have hfc:ds[off].full=true:=hne _ (by rw [hc1]; simp)
    have hvc:VC H φ s.st ds[off] u:=by
     rcases hu.cases with ⟨e1,arr,ea,_,_⟩ | ⟨e1,arr,ea,_,_⟩ | hvc
     ·obtain ⟨b',o',vs',_,hall,_⟩:=ag hs hv hbh
      obtain ⟨u2,_,hu2⟩:=hall.get off ds[off] (by simp)
      rw [ea] at hu2
      exact hu2.elim
     ·rw [ea] at hfc; cases hfc
     ·exact hvc
    have hone:=pu hs hvc hfc
    rw [hc1,hone]
    exact ⟨⟨u,[],rfl,hvc,rfl⟩,rfl⟩
   cases hK:r.K with
   | pair a b =>
    rw [hK] at hu
    obtain ⟨arr,e,hc⟩:=hu
    subst e
    exact ⟨hc,arr,rfl⟩
   | _=>rw [hK] at single; exact single rfl rfl
theorem MG:∀ {ks:List Kd} {vs cl:List AV} {tk tk':List Nat} {s s':St},s.shutAll tk ks vs=some (cl,tk',s')->∀ v∈vs,v.full=true
 | [],[],cl,tk,tk',s,s',h,v,hv=>by cases hv
 | [],_::_,cl,tk,tk',s,s',h,v,hv=>by simp [St.shutAll] at h
 | _::_,[],cl,tk,tk',s,s',h,v,hv=>by cases hv
 | k::ks,a::vs,cl,tk,tk',s,s',h,v,hv=>by
  have norm:((a.norm k).bind fun x=>(s.shutAll tk ks vs).bind fun y=>some (x::y.1,y.2))=some (cl,tk',s')->v.full=true:=by
   intro h
   cases hq:a.norm k with
   | none=>rw [hq] at h; cases h
   | some x =>
    rw [hq] at h
    simp only [AC] at h
    cases hc:s.shutAll tk ks vs with
    | none=>rw [hc] at h; cases h
    | some y =>
     obtain ⟨y1,y2,y3⟩:=y
     rcases Ah.1 hv with rfl | hv
     ·have:=(fp hq).2.2.1
      cases v<;>first | rfl | cases this
     ·exact MG hc v hv
  cases a with
  | row i =>
   rcases Ah.1 hv with rfl | hv
   ·rfl
   ·simp only [St.shutAll] at h
    split at h
    ·cases h
    ·split at h
     ·split at h
      ·cases hc:s.shutAll (i::tk) ks vs with
       | none=>rw [hc] at h; cases h
       | some y=>obtain ⟨y1,y2,y3⟩:=y; exact MG hc v hv
      ·cases h
     ·cases hk:s.keep (.row i) with
      | none=>rw [hk] at h; cases h
      | some x =>
       rw [hk] at h
       simp only [AC] at h
       cases hc:x.2.shutAll tk ks vs with
       | none=>rw [hc] at h; cases h
       | some y=>obtain ⟨y1,y2,y3⟩:=y; exact MG hc v hv
  | ptr i o =>
   rcases Ah.1 hv with rfl | hv'
   ·rfl
   ·cases o with
    | zero =>
     simp only [St.shutAll] at h
     split at h
     ·cases h
     ·split at h
      ·split at h
       ·rename_i K x0 cs hi
        cases hq:OS K.leaves cs with
        | none=>rw [hq] at h; cases h
        | some cs' =>
         rw [hq] at h
         simp only [AC] at h
         cases hc:s.shutAll (i::tk) ks vs with
         | none=>rw [hc] at h; cases h
         | some y=>obtain ⟨y1,y2,y3⟩:=y; exact MG hc v hv'
       ·cases h
      ·cases h
    | succ o=>exact norm h
  | _=>exact norm h
theorem Ov:∀ {ks:List Kd} {vs cl:List AV} {tk tk':List Nat} {s s':St},s.shutAll tk ks vs=some (cl,tk',s')->vs.length=ks.length
 | [],[],cl,tk,tk',s,s',h=>rfl
 | [],_::_,cl,tk,tk',s,s',h=>by simp [St.shutAll] at h
 | _::_,[],cl,tk,tk',s,s',h=>by simp [St.shutAll] at h
 | k::ks,a::vs,cl,tk,tk',s,s',h=>by
  have norm:((a.norm k).bind fun x=>(s.shutAll tk ks vs).bind fun y=>some (x::y.1,y.2))=some (cl,tk',s')->(a::vs).length=(k::ks).length:=by
   intro h
   cases hq:a.norm k with
   | none=>rw [hq] at h; cases h
   | some x =>
    rw [hq] at h
    simp only [AC] at h
    cases hc:s.shutAll tk ks vs with
    | none=>rw [hc] at h; cases h
    | some y=>obtain ⟨y1,y2,y3⟩:=y; simp [Ov hc]
  cases a with
  | row i =>
   simp only [St.shutAll] at h
   split at h
   ·cases h
   ·split at h
    ·split at h
     ·cases hc:s.shutAll (i::tk) ks vs with
      | none=>rw [hc] at h; cases h
      | some y=>obtain ⟨y1,y2,y3⟩:=y; simp [Ov hc]
     ·cases h
    ·cases hk:s.keep (.row i) with
     | none=>rw [hk] at h; cases h
     | some x =>
      rw [hk] at h
      simp only [AC] at h
      cases hc:x.2.shutAll tk ks vs with
      | none=>rw [hc] at h; cases h
      | some y=>obtain ⟨y1,y2,y3⟩:=y; simp [Ov hc]
  | ptr i o =>
   cases o with
   | zero =>
    simp only [St.shutAll] at h
    split at h
    ·cases h
    ·split at h
     ·split at h
      ·rename_i K x0 cs hi
       cases hq:OS K.leaves cs with
       | none=>rw [hq] at h; cases h
       | some cs' =>
        rw [hq] at h
        simp only [AC] at h
        cases hc:s.shutAll (i::tk) ks vs with
        | none=>rw [hc] at h; cases h
        | some y=>obtain ⟨y1,y2,y3⟩:=y; simp [Ov hc]
      ·cases h
     ·cases h
   | succ o=>exact norm h
  | _=>exact norm h
theorem c_:∀ K:Kd,K.leaves.length=K.sz
 | .int _=>rfl
 | .bool=>rfl
 | .str=>rfl
 | .slice _=>rfl
 | .pair a b=>by simp [Kd.leaves,Kd.sz,c_ a,c_ b]
 | .own _ _=>rfl
 | .ref _=>rfl
 | .fun _=>rfl
 | .clo _ _=>rfl
theorem t_ {w:World} {φ:Bz} {tmps:Array Value}:∀ {rs:List Res} {rvs:List ResultVar} {aw:List AV} {tk tk':List Nat} {s s':St} {H:HP},SR H φ s.st w->EZ H φ s.st s.fr tmps->s.result tk rs=some (aw,tk',s')->qL P rvs rs=true ->
  ∃ H' ids vs,FV H φ w s s' tk tk' (vs.flatMap fun v=>v.cells.toList) (cellsOf aw) H' ids/\(rvs.mapM (WZ tmps)).run P w=.ok vs w/\As (fun a v=>∃ K,∃ x:Kd.T K,a=Kd.av K x/\ACB K v/\a.cells.length=v.cells.toList.length) aw vs
 | [],[],aw,tk,tk',s,s',H,hs,hf,h,hb=>by
  cases h
  exact ⟨H,[],[],⟨Af.refl hs,Bp.refl _ _ _,rfl,rfl,rfl,rfl,fun h=>h,fun _ _=>rfl,fun _ _=>rfl,fun m b h=>by simp [cellsOf,BA] at h,fun k f _=>rfl⟩,by simp,rfl⟩
 | [],_::_,aw,tk,tk',s,s',H,hs,hf,h,hb=>by simp [qL] at hb
 | _::_,[],aw,tk,tk',s,s',H,hs,hf,h,hb=>by simp [qL] at hb
 | r::rs,rv::rvs,aw,tk,tk',s,s',H,hs,hf,h,hb=>by
  simp only [qL,AE] at hb
  simp only [St.result] at h
  cases h1:s.resCells r with
  | none=>rw [h1] at h; cases h
  | some cs =>
   rw [h1] at h
   simp only [AC] at h
   cases h2:s.shutAll tk r.K.leaves cs with
   | none=>rw [h2] at h; cases h
   | some y =>
    obtain ⟨cl,t1,s1⟩:=y
    rw [h2] at h
    simp only [AC] at h
    cases h3:r.K.ofCells cl with
    | none=>rw [h3] at h; cases h
    | some x =>
     rw [h3] at h
     simp only [AC] at h
     cases h4:s1.result t1 rs with
     | none=>rw [h4] at h; cases h
     | some z =>
      obtain ⟨aw',t2,s2⟩:=z
      rw [h4] at h
      cases h
      obtain ⟨v,hrun,hv,hfit⟩:=wL hs hf h1 hb.1 (MG h2) ((Ov h2).trans (c_ _))
      obtain ⟨H1,i1,F1⟩:=RG hs hv h2
      have ecl:cl=r.K.enc x:=by
       have:=pR r.K cl [] x F1.nf (GN h3)
       simpa using this
      have hf1:EZ H1 φ s1.st s1.fr tmps:=by rw [F1.fr]; exact hf.mono F1.step.le F1.keeps
      obtain ⟨H2,i2,vs,F2,hrun2,hall⟩:=t_ F1.step.sr hf1 h4 hb.2
      have hcells:(r.K.av x).cells=cl:=by rw [Y0,ecl]
      refine ⟨H2,i1++i2,v::vs,?_,?_,⟨v,vs,rfl,⟨r.K,x,rfl,hfit,?_⟩,hall⟩⟩
      ·have:=F1.append F2
       simp only [cellsOf,List.flatMap_cons,hcells] at this ⊢
       exact this
      ·rw [List.mapM_cons]
       simp [Sem.run_bind,hrun,hrun2]
      ·have:=(F1.vals 0 (fun m=>i1.getD m 0) fun m i hm=>by simp [List.getD,hm]).length
       rw [hcells]
       rw [JK] at this
       exact this.symm
theorem Wa {w:World} {φ:Bz}:∀ {bs:List (Nat×Kd)} {aw:List AV} {tk tk':List Nat} {s s':St} {H:HP},SR H φ s.st w->s.shutBoxes tk bs=some (aw,tk',s') ->
  ∃ (H':HP) (ids:List Nat) (us:List (List Value)),FV H φ w s s' tk tk' us.flatten (Bl aw) H' ids/\As (fun a u=>a.cellsO.length=u.length) aw us/\aw.length=bs.length/\(∀ (j:Nat) (v:AV),aw[j]? = some v->∃ p,bs[j]? = some p/\p.2.noRef=true/\∃ x:Kd.T p.2,v=Kd.av p.2 x) /\
   ∀ (j:Nat) (p:Nat×Kd),bs[j]? = some p->(p.2.isOwn=false/\Ak s'.st p.1=true/\∃ (b:Nat) (c:Array Value) (el:TypeId),φ p.1=.pointer (some ⟨b,0,none⟩)/\w.heap[b]? = some (.cells c el (0,0))/\us[j]? = some c.toList) \/
    (∃ (t:TypeId) (e:Kd),∃ xs:List (Kd.T e),p.2=.own t e/\s'.st[p.1]? = some (AT.mrow t e xs)/\aw[j]? = some (.new t e xs))
 | [],aw,tk,tk',s,s',H,hs,h=>by
  cases h
  exact ⟨H,[],[],⟨Af.refl hs,Bp.refl _ _ _,rfl,rfl,rfl,rfl,fun h=>h,fun _ _=>rfl,fun _ _=>rfl,fun m b h=>by simp [Bl,BA] at h,fun k f _=>rfl⟩,rfl,rfl,fun j v h=>by simp at h,fun j p h=>by simp at h⟩
 | (b,K)::bs,aw,tk,tk',s,s',H,hs,h=>by
  simp only [St.shutBoxes] at h
  split at h
  ·rename_i t e xs hm
   split at h
   ·rename_i hK
    subst hK
    cases h4:s.shutBoxes tk bs with
    | none=>rw [h4] at h; cases h
    | some z =>
     obtain ⟨aw',t2,s2⟩:=z
     rw [h4] at h
     cases h
     obtain ⟨H2,i2,us,F2,hl,hn,hk,hb⟩:=Wa hs h4
     refine ⟨H2,i2,[]::us,F2,⟨[],us,rfl,rfl,hl⟩,by simp [hn],fun j v hj=>?_,fun j p hj=>?_⟩
     ·cases j with
      | zero=>simp at hj; subst hj; exact ⟨(b,.own t e),rfl,rfl,xs,rfl⟩
      | succ j=>simpa using hk j v (by simpa using hj)
     ·cases j with
      | zero =>
       simp at hj
       subst hj
       exact .inr ⟨t,e,xs,rfl,by rw [F2.vars b (by simp only [AX,hm]; rfl)]; exact hm,rfl⟩
      | succ j=>simpa using hb j p (by simpa using hj)
   ·cases h
  ·rename_i cs hcs
   split at h
   case isFalse=>cases h
   rename_i hnr2
   simp only [AE,Dw] at hnr2
   obtain ⟨hnr,hno⟩:=hnr2
   cases h2:s.shutAll tk K.leaves cs with
   | none=>rw [h2] at h; cases h
   | some y =>
    obtain ⟨cl,t1,s1⟩:=y
    rw [h2] at h
    simp only [AC] at h
    cases h3:K.ofCells cl with
    | none=>rw [h3] at h; cases h
    | some x =>
     rw [h3] at h
     simp only [AC] at h
     cases h4:s1.shutBoxes t1 bs with
     | none=>rw [h4] at h; cases h
     | some z =>
      obtain ⟨aw',t2,s2⟩:=z
      rw [h4] at h
      cases h
      obtain ⟨b0,c,el,e1,e2,e3⟩:=zl hs hcs
      obtain ⟨H1,i1,F1⟩:=RG hs e3 h2
      have ecl:cl=K.enc x:=by
       have:=pR K cl [] x F1.nf (GN h3)
       simpa using this
      obtain ⟨H2,i2,us,F2,hl,hn,hk,hb⟩:=Wa F1.step.sr h4
      have hcells:(K.av x).cellsO=cl:=by rw [(JM x hno).1,ecl]
      have hlen:cl.length=c.toList.length:=by
       have:=(F1.vals 0 (fun m=>i1.getD m 0) fun m i hm=>by simp [List.getD,hm]).length
       rw [JK] at this
       exact this.symm
      refine ⟨H2,i1++i2,c.toList::us,?_,⟨c.toList,us,rfl,by simp only [hcells]; exact hlen,hl⟩,by simp [hn],fun j v hj=>?_,fun j p hj=>?_⟩
      ·have:=F1.append F2
       simp only [Bl,List.flatMap_cons,hcells,List.flatten_cons] at this ⊢
       exact this
      ·cases j with
       | zero=>simp at hj; subst hj; exact ⟨(b,K),rfl,hnr,x,rfl⟩
       | succ j=>simpa using hk j v (by simpa using hj)
      ·cases j with
       | zero =>
        simp at hj
        subst hj
        refine .inl ⟨hno,?_,b0,c,el,e1,e2,rfl⟩
        have v0:Ak s.st b=true:=by simp only [Ak,hcs]
        have g1:=F1.vars b (WR v0)
        have v1:Ak s1.st b=true:=by unfold Ak at v0 ⊢; rw [g1]; exact v0
        have g2:=F2.vars b (WR v1)
        unfold Ak at v1 ⊢; rw [g2]; exact v1
       | succ j=>simpa using hb j p (by simpa using hj)
  ·cases h
theorem dA {R:AV->Value->Prop} (c:AV->List AV):∀ {aw:List AV} {us:List (List Value)} {k:Nat},As (fun a u=>(c a).length=u.length) aw us->As R (Be k (aw.flatMap c)) us.flatten ->
  ∀ (j:Nat) (a:AV) (u:List Value),aw[j]? = some a->us[j]? = some u->As R (Be (k+AS ((aw.take j).flatMap c)) (c a)) u
 | [],us,k,hl,h,j,a,u,ha,hu=>by simp at ha
 | a0::aw,us,k,⟨u0,us',e,l0,hl⟩,h,j,a,u,ha,hu=>by
  subst e
  simp only [List.flatMap_cons,List.flatten_cons] at h
  rw [WV] at h
  have hlen:(Be k (c a0)).length=u0.length:=by rw [JK]; exact l0
  have h1:As R (Be k (c a0)) u0:=by
   have:=h.take (Be k (c a0)).length
   rw [List.take_left,hlen,List.take_left] at this
   exact this
  have h2:As R (Be (k+AS (c a0)) (aw.flatMap c)) us'.flatten:=by
   have:=h.drop (Be k (c a0)).length
   rw [List.drop_left,hlen,List.drop_left] at this
   exact this
  cases j with
  | zero =>
   simp at ha hu
   subst ha hu
   simpa [AS] using h1
  | succ j =>
   have:=dA c hl h2 j a u (by simpa using ha) (by simpa using hu)
   simpa [Bf,Nat.add_assoc] using this
def AV.isPtr:AV->Bool
 | .ptr _ _=>true
 | .ref _=>true
 | _=>false
theorem jo:∀ (K:Kd) (x:K.T),K.noRef=true->∀ c∈K.enc x,c.isPtr=false
 | .int _,_,_,c,h=>by simp [Kd.enc] at h; subst h; rfl
 | .bool,_,_,c,h=>by simp [Kd.enc] at h; subst h; rfl
 | .str,_,_,c,h=>by simp [Kd.enc] at h; subst h; rfl
 | .slice _,_,_,c,h=>by simp [Kd.enc] at h; subst h; rfl
 | .pair a b,x,hn,c,h=>by
  simp only [Kd.noRef,AE] at hn
  simp only [Kd.enc,CD] at h
  rcases h with h | h
  ·exact jo a x.1 hn.1 c h
  ·exact jo b x.2 hn.2 c h
 | .own _ _,_,_,c,h=>by simp [Kd.enc] at h; subst h; rfl
 | .ref _,_,hn,_,_=>by cases hn
 | .fun _,_,_,c,h=>by simp [Kd.enc] at h; subst h; rfl
 | .clo _ _,_,_,c,h=>by simp [Kd.enc] at h; subst h; rfl
theorem m5:∀ (cs:List AV) (k:Nat),(∀ c∈cs,c.isPtr=false)->∀ a∈Be k cs,a.isPtr=false
 | [],k,_,a,h=>by simp [Be] at h
 | c::cs,k,hn,a,h=>by
  have h1:=hn c (by simp)
  have ih:=fun k=>m5 cs k fun c hc=>hn c (by simp [hc])
  have key:∀ (d:AV) (k':Nat),d.isPtr=false->(a=d\/a∈Be k' cs)->a.isPtr=false:=fun d k' hd h=>by
   rcases h with rfl | h
   ·exact hd
   ·exact ih k' a h
  cases c<;>simp only [Be,Ah] at h<;>first | exact key _ _ rfl h | exact absurd h1 (by simp [AV.isPtr])
theorem OU:∀ (vs:List AV) (k:Nat),(C8 k vs).length=vs.length
 | [],_=>rfl
 | v::r,k=>by simp [C8,OU r]
theorem qM:∀ (vs:List AV) (k j:Nat) (v:AV),vs[j]? = some v->(C8 k vs)[j]? = some (fP (k+AS (cellsOf (vs.take j))) v)
 | [],k,j,v,h=>by simp at h
 | u::r,k,0,v,h=>by simp at h; subst h; simp [C8,cellsOf,AS]
 | u::r,k,j+1,v,h=>by
  simp only [C8,List.getElem?_cons_succ]
  rw [qM r _ j v (by simpa using h)]
  simp [cellsOf,Bf,Nat.add_assoc]
theorem AC8 {H0 H:HP} {φ0 φ:Bz} {w0 w:World} {s s1 s2:St} {args bs:List AV} {ids:List (Nat×Kd)} {rsv outs:List AV} {t1 t2:List Nat} {fn:Func} {ress:List Res} {tmps:Array Value}
  (hs:SR H φ s.st w) (hf:EZ H φ s.st s.fr tmps) (hfr:Fr bs.length (Bi bs args).length H0 φ0 w0 H φ s.st w) (hle:H0.le H)
  (hids:∀ (j:Nat) (p:Nat×Kd),ids[j]? = some p->p.1=j) (hbl:bs.length=ids.length)
  (hres:s.result (List.range ids.length) ress=some (rsv,t1,s1)) (hbox:s1.shutBoxes t1 ids=some (outs,t2,s2)) (hrb:qL P fn.results.toList ress=true) :
  (∀ r∈rsv++outs,r.cells.all AV.nilFree=true)/\∃ v,(results fn tmps).run P w=.ok v w/\OT H0 φ0 w0 args bs outs rsv v w:=by
 obtain ⟨H1,i1,vs,F1,hrun,hall⟩:=t_ (P:=P) hs hf hres hrb
 obtain ⟨H2,i2,us,F2,hul,hol,hok,hob⟩:=Wa F1.step.sr hbox
 have hnv:outs.length=bs.length:=by rw [hol,hbl]
 let nv:=bs.length
 let μ:Nat->Nat:=fun k=>if k<nv then k else (i2++i1).getD (k-nv) 0
 have μv:∀ k,k<nv->μ k=k:=fun k h=>by simp only [μ,h,if_true]
 have μb:∀ m i,i2[m]? = some i->μ (nv+m)=i:=fun m i hm=>by
  have hl:=(Aj.1 hm).1
  simp only [μ,show ¬ nv+m<nv by omega,if_false,Nat.add_sub_cancel_left]
  simp [List.getD,Au hl,hm]
 have μr:∀ m i,i1[m]? = some i->μ (nv+i2.length+m)=i:=fun m i hm=>by
  simp only [μ,show ¬ nv+i2.length+m<nv by omega,if_false]
  rw [show nv+i2.length+m-nv=i2.length+m by omega]
  simp [List.getD,B4,hm]
 have hnd:(t2).Nodup:=F2.nd (F1.nd List.nodup_range)
 have ht2:t2=i2.reverse++(i1.reverse++List.range ids.length):=by rw [F2.tks,F1.tks]
 let est:=Bi outs rsv
 let φ2:Bz:=fun k=>φ (μ k)
 have hc2:AS (Bl outs)=i2.length:=F2.cnt
 have hc1:AS (cellsOf rsv)=i1.length:=F1.cnt
 have elen:est.length=nv+i2.length+i1.length:=by
  show (Bi outs rsv).length=_
  rw [UJ,hnv,hc2,hc1]
 have evar:∀ k,k<nv->(∃ (b:Nat) (c:Array Value) (el:TypeId) (a:AV),φ k=.pointer (some ⟨b,0,none⟩)/\w.heap[b]? = some (.cells c el (0,0))/\outs[k]? = some a/\Ak s2.st k=true /\
   est[k]? = some (.var (Be (nv+AS (Bl (outs.take k))) a.cellsO)) /\
   As (fun a u=>VC H2 φ s2.st (a.ren μ) u/\(a.solid=true\/∃ m,m<i2.length/\((∃ t e,∃ xs:List (Kd.T e),a=.row (nv+m)/\(BA (Bl outs))[m]? = some (AT.rows t e xs))\/(∃ ecs,a=.ptr (nv+m) 0/\(BA (Bl outs))[m]? = some (AT.var ecs)))))
    (Be (nv+AS (Bl (outs.take k))) a.cellsO) c.toList)\/(∃ (t:TypeId) (e:Kd),∃ xs:List (Kd.T e),s2.st[k]? = some (AT.mrow t e xs)/\est[k]? = some (AT.mrow t e xs)):=by
  intro k hk
  have hk2:k<ids.length:=by omega
  have hp:ids[k]? = some ids[k]:=by simp
  have hk3:k<outs.length:=by omega
  have ha:outs[k]? = some outs[k]:=by simp
  have hget:est[k]? = some (vY (nv+AS (Bl (outs.take k))) outs[k]):=by
   show (Bi outs rsv)[k]? = _
   rw [JL,Au (by rw [Bg]; exact hk3),ME outs _ k _ ha,hnv]
  rcases hob k _ hp with ⟨hno,g1,b,c,el,e1,e2,e3⟩ | ⟨t,e,xs,hK,g1,g2⟩
  ·rw [hids k _ hp] at g1 e1
   refine .inl ⟨b,c,el,outs[k],e1,e2,ha,g1,?_,dA AV.cellsO hul (F2.vals nv μ μb) k _ _ ha e3⟩
   rw [hget]
   obtain ⟨p,hp2,_,x,hx⟩:=hok k _ ha
   rw [hp] at hp2
   cases hp2
   rw [hx,(JM x hno).2,(JM x hno).1]
  ·rw [hids k _ hp] at g1
   rw [ha] at g2
   refine .inr ⟨t,e,xs,g1,?_⟩
   rw [hget,Option.some.inj g2]
   rfl
 have erow:∀ k b,nv<=k->est[k]? = some b->t8 s2.st (μ k) b/\(i2++i1)[k-nv]? = some (μ k):=by
  intro k b hk hb
  have hb:(Bi outs rsv)[k]? = some b:=hb
  rw [JL,B4 (by rw [Bg,hnv]; exact hk),Bg,hnv,Bw] at hb
  rcases B3 (k-bs.length) (BA (Bl outs)).length with h | h
  ·rw [Au h] at hb
   obtain ⟨i,g1,g2⟩:=F2.boxes _ b hb
   have e:=μb _ i g1
   rw [show nv+(k-bs.length)=k by omega] at e
   rw [e]
   exact ⟨g2,by rw [Au (Aj.1 g1).1]; exact g1⟩
  ·rw [B4 h] at hb
   obtain ⟨i,g1,g2⟩:=F1.boxes _ b hb
   rw [ED,hc2] at h g1
   have e:=μr _ i g1
   rw [show nv+i2.length+(k-bs.length-i2.length)=k by omega] at e
   rw [e]
   refine ⟨?_,by rw [B4 h]; exact g1⟩
   have hh:=F2.held i (by rw [F1.tks]; simp [List.mem_of_getElem? g1])
   unfold t8 at g2 ⊢
   rw [hh]
   exact g2
 have rowsE:∀ m t e (xs:List (Kd.T e)),(BA (Bl outs))[m]? = some (AT.rows t e xs)->est[nv+m]? = some (AT.rows t e xs):=by
  intro m t e xs h
  show (Bi outs rsv)[nv+m]? = _
  have hl:=(Aj.1 h).1
  rw [JL,B4 (by rw [Bg,hnv]; exact Nat.le_add_right _ _),Bg,hnv,Bw,show nv+m-bs.length=m by simp only [nv]; omega,Au hl]
  exact h
 have restE:∀ m b,(BA (cellsOf rsv))[m]? = some b->est[nv+i2.length+m]? = some b:=by
  intro m b h
  show (Bi outs rsv)[nv+i2.length+m]? = _
  rw [JL,B4 (by rw [Bg,hnv]; simp only [nv]; omega),Bg,hnv,Bw,B4 (by rw [ED,hc2]; simp only [nv]; omega),ED,hc2,
   show nv+i2.length+m-bs.length-i2.length=m by simp only [nv]; omega]
  exact h
 have hs2:=F2.step.sr
 have μt:∀ k,k<est.length->(k<nv/\μ k=k)\/(nv<=k/\(i2++i1)[k-nv]? = some (μ k)):=by
  intro k hk
  rcases B3 k nv with h | h
  ·exact .inl ⟨h,μv k h⟩
  ·exact .inr ⟨h,(erow k est[k] h (by simp)).2⟩
 have μinj:∀ k k',k<est.length->k'<est.length->μ k=μ k'->k=k':=by
  intro k k' hk hk' e
  have hndl:(i2++i1).Nodup/\∀ i∈i2++i1,¬ i<ids.length:=by
   rw [ht2,<- BW] at hnd
   have h1:=List.nodup_append.1 hnd
   constructor
   ·have h2:=List.nodup_append.1 h1.1
    exact List.nodup_append.2 ⟨(List.reverse_perm i2).nodup_iff.1 h2.1,(List.reverse_perm i1).nodup_iff.1 h2.2.1,fun a ha b hb=>h2.2.2 a (by simpa using ha) b (by simpa using hb)⟩
   ·intro i hi hlt
    exact h1.2.2 i (by simpa using hi) i (List.mem_range.2 hlt) rfl
  rcases μt k hk with ⟨h1,e1⟩ | ⟨h1,e1⟩<;>rcases μt k' hk' with ⟨h2,e2⟩ | ⟨h2,e2⟩
  ·omega
  ·exact absurd (show μ k'<ids.length by rw [<- e,e1]; omega) (hndl.2 _ (List.mem_of_getElem? e2))
  ·exact absurd (show μ k<ids.length by rw [e,e2]; omega) (hndl.2 _ (List.mem_of_getElem? e1))
  ·rw [<- e] at e2
   have:=(List.getElem?_inj (Aj.1 e1).1 hndl.1).1 (e1.trans e2.symm)
   omega
 have vcE:∀ a u,VC H2 φ s2.st (a.ren μ) u->(a.solid=true\/(∃ k t e,∃ xs:List (Kd.T e),a=.row k/\est[k]? = some (AT.rows t e xs))\/∃ k ecs,a=.ptr k 0/\est[k]? = some (AT.var ecs))->VC H2 φ2 est a u:=by
  intro a u hv hc
  rcases hc with h | ⟨k,t,e,xs,rfl,hk⟩ | ⟨k,ecs,rfl,hk⟩
  ·rw [jn h] at hv
   exact VC.of_VF (hv.solid h)
  ·obtain ⟨e1,_⟩:=hv
   exact ⟨e1,by simp only [AJ,hk]; rfl⟩
  ·obtain ⟨_,b,e1,e2⟩:=hv
   exact ⟨by simp only [Ak,hk],b,e1,e2⟩
 have hbox2:∀ k b,est[k]? = some b->Iw H2 w (φ2 k) b:=by
  intro k b hk
  rcases B3 k nv with h | h
  ·rcases evar k h with ⟨b0,c,el,a,e1,e2,e3,_,e4,e5⟩ | ⟨t,e,xs,e1,e2⟩
   rotate_left
   ·rw [hk] at e2
    cases e2
    rw [show φ2 k=φ k by simp only [φ2,μv k h]]
    exact hs2.box k _ e1
   rw [hk] at e4
   cases e4
   obtain ⟨p,hp,hnr,x,hx⟩:=hok k a e3
   refine ⟨b0,c,el,by simp only [φ2,μv k h]; exact e1,e2,e5.impM fun a' ha' u ⟨g1,g2⟩=>?_⟩
   have hnp:=m5 _ _ (by
    intro c hc
    rw [hx] at hc
    by_cases ho:p.2.isOwn=true
    ·revert x
     obtain ⟨t,e,ho⟩:=pz ho
     rw [ho]
     intro x _ hc
     simp [p_ x] at hc
    ·rw [(JM x (by simpa using ho)).1] at hc
     exact jo _ _ hnr c hc) a' ha'
   rcases g2 with g2 | ⟨m,_,⟨t,e,xs,rfl,_⟩ | ⟨ecs,rfl,g3⟩⟩
   ·rw [jn g2] at g1
    exact VW.of_VF (g1.solid g2)
   ·trivial
   ·cases hnp
  ·obtain ⟨g1,_⟩:=erow k b h hk
   rcases g1 with ⟨t,e,xs,g2,rfl⟩ | ⟨cs,ecs,g2,rfl,g3,g4⟩
   ·exact hs2.box _ _ g2
   ·obtain ⟨b0,c,el,e1,e2,e3⟩:=hs2.box _ _ g2
    refine ⟨b0,c,el,e1,e2,Sh (by rw [e3.length,g3]) fun o a u ha hu=>?_⟩
    obtain ⟨c0,c1,c2,c3,c4⟩:=g4 o a ha
    have hw:=e3.at c1 hu
    have hf:VF H2 c0 u:=by cases c0<;>first | exact hw | cases c3
    exact VW.of_VF (c4 H2 u hf)
 have hlive:∀ (k:Nat) (b2:AT),est[k]? = some b2->b2.live=true->(∀ b,¬CA (φ2 k) b)\/∃ b,s2.st[μ k]? = some b/\b.live=true/\φ2 k=φ (μ k):=by
  intro k b hk _
  right
  rcases B3 k nv with h | h
  ·rw [μv k h]
   rcases evar k h with ⟨_,_,_,_,_,_,_,e3,_⟩ | ⟨t,e,xs,e1,_⟩
   ·unfold Ak at e3
    split at e3
    ·rename_i cs e; exact ⟨_,e,rfl,by simp only [φ2,μv k h]⟩
    ·cases e3
   ·exact ⟨_,e1,rfl,by simp only [φ2,μv k h]⟩
  ·obtain ⟨g1,_⟩:=erow k b h hk
   rcases g1 with ⟨t,e,xs,g2,_⟩ | ⟨cs,ecs,g2,_⟩
   ·exact ⟨_,g2,rfl,rfl⟩
   ·exact ⟨_,g2,rfl,rfl⟩
 have hsr:SR H2 φ2 est w:=by
  refine Af.pick hs2 μ hbox2 hlive (fun k k' b b' hk hk' _ _ _ _ e=>μinj k k' (Aj.1 hk).1 (Aj.1 hk').1 e) (fun k cs hk o i ho=>?_)
  rcases B3 k nv with h | h
  ·rcases evar k h with ⟨b0,c,el,a,e1,e2,e3,_,e4,e5⟩ | ⟨t,e,xs,_,e2⟩
   rotate_left
   ·rw [hk] at e2; cases e2
   rw [hk] at e4
   cases e4
   obtain ⟨u,hu,g1,g2⟩:=e5.get o _ ho
   rcases g2 with g2 | ⟨m,_,⟨t,e,xs,g3,g4⟩ | ⟨ecs,g3,_⟩⟩
   ·cases g2
   ·cases g3
    refine ⟨by simp only [AJ,rowsE m t e xs g4]; rfl,b0,by simp only [φ2,μv k h]; exact e1,?_⟩
    obtain ⟨g5,_⟩:=g1
    simp only [World.cell?,e2]
    rw [Array.getElem?_toList] at hu
    simp only [Option.isSome_none,Bool.false_eq_true,if_false,hu]
    rw [g5]
   ·cases g3
  ·obtain ⟨g1,_⟩:=erow k _ h hk
   rcases g1 with ⟨t,e,xs,_,g3⟩ | ⟨cs0,ecs,g2,g3,_,g4⟩
   ·cases g3
   ·cases g3
    obtain ⟨_,_,g5,_⟩:=g4 o _ ho
    cases g5
 have hfr2:Fr bs.length (Bi bs args).length H0 φ0 w0 H2 φ2 est w:=by
  have f2:=F2.step.fr _ _ _ _ _ (F1.step.fr _ _ _ _ _ hfr)
  refine ⟨f2.os,f2.tape,f2.output,f2.size,f2.old,fun j hj=>?_,fun i bi hi hl b hb=>?_,fun j hj=>?_,f2.frz⟩
  ·have:=f2.same j hj
   simp only [φ2,μv j hj]
   exact this
  ·rcases hlive i bi hi hl with e | ⟨b1,g1,g2,g3⟩
   ·exact (e _ hb).elim
   ·rw [g3] at hb
    exact f2.new _ b1 g1 g2 b hb
  ·rcases evar j hj with ⟨_,_,_,_,_,_,_,_,e4,_⟩ | ⟨t,e,xs,_,e4⟩
   ·simp only [AX,e4]; rfl
   ·simp only [AX,e4]; rfl
 have hhan:Fd outs=nv+i2.length:=by rw [jf,hnv,hc2]
 have hvals:As (VB H2 φ2 est) (C8 (Fd outs) rsv) vs:=by
  rw [hhan]
  have h1:=F1.vals (nv+i2.length) μ μr
  have h2:As (VC H2 φ2 est) (Be (nv+i2.length) (cellsOf rsv)) (vs.map fun v=>v.cells.toList).flatten:=by
   rw [<- List.flatMap_def]
   refine h1.imp fun a u ⟨g1,g2⟩=>vcE a u (g1.mono F2.step.le F2.keeps) ?_
   rcases g2 with g2 | ⟨m,_,⟨t,e,xs,g3,g4⟩ | ⟨ecs,g3,g4⟩⟩
   ·exact .inl g2
   ·exact .inr (.inl ⟨_,t,e,xs,g3,restE m _ g4⟩)
   ·exact .inr (.inr ⟨_,ecs,g3,restE m _ g4⟩)
  have h3:As (fun a u=>a.cells.length=u.length) rsv (vs.map fun v=>v.cells.toList):=by
   refine Sh (by rw [List.length_map,hall.length]) fun j a u ha hu=>?_
   rw [CE] at hu
   obtain ⟨v,hv,_,_,_,_,hl⟩:=hall.get j a ha
   rw [hv] at hu
   cases hu
   exact hl
  refine Sh (by rw [OU,hall.length]) fun j a v ha hv=>?_
  have hj:j<rsv.length:=by rw [<- OU rsv (nv+i2.length)]; exact (Aj.1 ha).1
  have hr:rsv[j]? = some rsv[j]:=by simp
  rw [qM rsv _ j _ hr] at ha
  cases ha
  have h4:=dA AV.cells h3 h2 j rsv[j] v.cells.toList hr (by rw [CE,hv]; rfl)
  obtain ⟨v',hv',K,x,hK,hfit,_⟩:=hall.get j _ hr
  rw [hv] at hv'
  cases hv'
  rw [hK] at h4 ⊢
  change As _ (Be (nv+i2.length+AS (cellsOf (List.take j rsv))) _) _ at h4
  generalize nv+i2.length+AS (cellsOf (List.take j rsv))=kk at h4 ⊢
  have single:(K.av x).cells=[K.av x]->v.cells=#[v]->fP kk (K.av x)=(Be kk [K.av x]).headD .undef->VB H2 φ2 est (fP kk (K.av x)) v:=by
   intro e1 e2 e3
   rw [e1,e2] at h4
   rw [e3]
   cases hq:Be kk [K.av x] with
   | nil=>rw [hq] at h4; simp [As] at h4
   | cons c r =>
    rw [hq] at h4
    obtain ⟨v',r',e,h5,_⟩:=h4
    cases e
    exact VB.of_VC h5
  cases K with
  | pair k l =>
   obtain ⟨arr,rfl⟩:=hfit
   exact ⟨arr,rfl,h4⟩
  | _=>exact single rfl hfit rfl
 have nfs:∀ {l:List AV},(cellsOf l).all AV.nilFree=true->∀ r∈l,r.cells.all AV.nilFree=true:=by
  intro l h r hr
  refine Br.2 fun c hc=>Br.1 h c ?_
  exact List.mem_flatMap.2 ⟨r,hr,hc⟩
 refine ⟨fun r hr=>?_,match vs with | [v]=>v | vs=>.tuple vs.toArray,?_,H2,φ2,HP.le_trans hle (HP.le_trans F1.step.le F2.step.le),hsr,hfr2,?_⟩
 ·rcases CD.1 hr with h | h
  ·exact nfs F1.nf r h
  ·obtain ⟨j,hj⟩:=List.mem_iff_getElem?.1 h
   obtain ⟨p,_,_,x,hx⟩:=hok j r hj
   by_cases ho:p.2.isOwn=true
   ·subst hx
    revert x
    obtain ⟨t,e,ho⟩:=pz ho
    rw [ho]
    intro x
    intros
    rfl
   ·refine Br.2 fun c hc=>Br.1 F2.nf c (List.mem_flatMap.2 ⟨r,h,?_⟩)
    subst hx
    rw [(JM x (by simpa using ho)).1]
    rw [Y0] at hc
    exact hc
 ·have hm:(fn.results.mapM (WZ tmps)).run P w=.ok vs.toArray w:=by
   rw [Array.mapM_eq_mapM_toList,<- bind_pure_comp,Sem.run_bind,hrun]
   rfl
  have hr:results fn tmps=(fn.results.mapM (WZ tmps)) >>= fun vs=>pure (if h:vs.size=1 then vs[0] else .tuple vs):=by
   unfold results
   first | rfl | (congr 1; done) | (congr 1; congr 1; done) | (congr 1; congr 1; funext rv; cases rv<;>rfl)
  rw [hr,Sem.run_bind,hm]
  cases vs with
  | nil=>rfl
  | cons v vs =>
   cases vs with
   | nil=>rfl
   | cons v2 vs=>rfl
 ·cases vs with
  | nil =>
   have:rsv=[]:=by
    have:=hall.length
    exact C2.1 (by simpa using this.symm)
   subst this
   exact ⟨_,rfl,rfl⟩
  | cons v vs =>
   cases vs with
   | nil =>
    have h1:rsv.length=1:=by have:=hall.length; simpa using this.symm
    obtain ⟨a,rfl⟩:=List.length_eq_one_iff.1 h1
    obtain ⟨v',r,e,h2,_⟩:=hvals
    cases e
    exact h2
   | cons v2 vs =>
    have h1:rsv.length=vs.length+2:=by have:=hall.length; simpa using this.symm
    obtain ⟨a,b,r,rfl⟩:∃ a b r,rsv=a::b::r:=by
     match rsv,h1 with
     | a::b::r,_=>exact ⟨a,b,r,rfl⟩
    exact ⟨_,rfl,hvals⟩
def Kd.sol:Kd->Bool
 | .pair a b=>a.sol&&b.sol
 | .own _ _ | .ref _=>false
 | _=>true
def Kd.okOut:Kd->Bool
 | .pair a b=>a.okOut&&b.okOut
 | .ref K=>K.sol
 | _=>true
theorem ug:∀ (K:Kd) (x:K.T),K.sol=true->(K.enc x).all (fun c=>c.solid&&(match c with | .nil=>false | _=>true))=true
 | .int _,_,_=>rfl
 | .bool,_,_=>rfl
 | .str,_,_=>rfl
 | .slice _,_,_=>rfl
 | .pair a b,x,h=>by
  simp only [Kd.sol,AE] at h
  simp only [Kd.enc,List.all_append,ug a x.1 h.1,ug b x.2 h.2,Bool.and_self]
 | .own _ _,_,h=>by cases h
 | .ref _,_,h=>by cases h
 | .fun _,_,_=>rfl
 | .clo _ _,_,_=>rfl
theorem jp:∀ (K:Kd) (x:K.T),K.okOut=true->(K.enc x).all AV.nilFree=true
 | .int _,_,_=>rfl
 | .bool,_,_=>rfl
 | .str,_,_=>rfl
 | .slice _,_,_=>rfl
 | .pair a b,x,h=>by
  simp only [Kd.okOut,AE] at h
  simp only [Kd.enc,List.all_append,jp a x.1 h.1,jp b x.2 h.2,Bool.and_self]
 | .own _ _,_,_=>rfl
 | .fun _,_,_=>rfl
 | .clo _ _,_,_=>rfl
 | .ref K,x,h=>by
  simp only [Kd.enc,List.all_cons,List.all_nil,Bool.and_true,AV.nilFree]
  exact ug K x h
def AAt (P:Program) (f:Nat) (a:BI):Bool :=
 match P.funcs[f]? with
 | some fn=>(match fn.body with
  | some c=>!(fn.name == "runtime.NumGoroutine")&&F8 P fn.ntmps c a.body&&qL P fn.results.toList a.res&&decide (a.params.length≤fn.ntmps)&&a.outs.all Kd.okOut
  | none=>false)
 | none=>false
theorem uA:∀ (ks:List Kd) (j0:Nat),(mh ks j0).length=ks.length/\∀ (j:Nat) (p:Nat×Kd),(mh ks j0)[j]? = some p->p.1=j0+j
 | [],j0=>⟨rfl,fun j p h=>by simp [mh] at h⟩
 | k::ks,j0=>by
  obtain ⟨h1,h2⟩:=uA ks (j0+1)
  refine ⟨by simp [mh,h1],fun j p h=>?_⟩
  simp only [mh] at h
  cases j with
  | zero=>simp at h; subst h; rfl
  | succ j=>have:=h2 j p (by simpa using h); omega
theorem EE:∀ (ps:List PK) (j0 j:Nat) (p:Nat×Kd),(EH ps j0)[j]? = some p->p.1=j0+j
 | [],j0,j,p,h=>by simp [EH] at h
 | .val _::r,j0,j,p,h=>EE r j0 j p h
 | .bor _::r,j0,j,p,h=>EE r j0 j p h
 | .mov _::r,j0,j,p,h=>EE r j0 j p h
 | .movS _::r,j0,j,p,h=>EE r j0 j p h
 | .ept::r,j0,j,p,h=>EE r j0 j p h
 | .cap _ _::r,j0,j,p,h=>EE r j0 j p h
 | .cap0 _::r,j0,j,p,h=>EE r j0 j p h
 | .ptr K::r,j0,j,p,h=>by
  simp only [EH] at h
  cases j with
  | zero=>simp at h; subst h; rfl
  | succ j=>have:=EE r (j0+1) j p (by simpa using h); omega
 | .mut K::r,j0,j,p,h=>by
  simp only [EH] at h
  obtain ⟨hl,hm⟩:=uA K.owns j0
  rcases B3 j (mh K.owns j0).length with h1 | h1
  ·rw [Au h1] at h; exact hm j p h
  ·rw [B4 h1,hl] at h
   rw [hl] at h1
   have:=EE r _ _ p h
   omega
theorem m6:∀ (vs:List AV) (i t:Nat),Eg (Qk i vs) t=if i<=t/\t<i+vs.length then vs.getD (t-i) .undef else .undef
 | [],i,t=>by simp [Qk,Eg]
 | v::vs,i,t=>by
  simp only [Qk,Eg]
  by_cases h:i=t
  ·subst h
   rw [if_pos rfl,if_pos ⟨Nat.le_refl _,by simp⟩]
   simp
  ·rw [if_neg h,m6 vs (i+1) t]
   by_cases h1:i+1<=t/\t<i+1+vs.length
   ·rw [if_pos h1,if_pos ⟨by omega,by simp; omega⟩,show t-i=(t-(i+1))+1 by omega]
    simp
   ·rw [if_neg h1,if_neg (by simp; omega)]
theorem uB:∀ {rs:List Res} {aw:List AV} {tk tk':List Nat} {s s':St},s.result tk rs=some (aw,tk',s')->aw.length=rs.length
 | [],aw,tk,tk',s,s',h=>by cases h; rfl
 | r::rs,aw,tk,tk',s,s',h=>by
  simp only [St.result] at h
  cases h1:s.resCells r with
  | none=>rw [h1] at h; cases h
  | some cs =>
   rw [h1] at h
   simp only [AC] at h
   cases h2:s.shutAll tk r.K.leaves cs with
   | none=>rw [h2] at h; cases h
   | some y =>
    rw [h2] at h
    simp only [AC] at h
    cases h3:r.K.ofCells y.1 with
    | none=>rw [h3] at h; cases h
    | some x =>
     rw [h3] at h
     simp only [AC] at h
     cases h4:y.2.2.result y.2.1 rs with
     | none=>rw [h4] at h; cases h
     | some z =>
      obtain ⟨aw',t2,s2⟩:=z
      rw [h4] at h
      cases h
      simp [uB h4]
theorem ACC {cal:Fv} {k f:Nat} {a:BI} {args bs rs:List AV} (hcal:Hc P cal) (hb:AAt P f a=true) (hl:args.length=a.params.length/\bs.length=(EH a.params 0).length)
  (h:(yQ cal k a args bs).map (Du a.outs)=some rs):qA P f/\(∀ r∈rs,r.cells.all AV.nilFree=true)/\∃ n,n+bs.length=rs.length /\
  ∀ (H:HP) (φ:Bz) (w:World) (cargs:List Value),SR H φ (Bi bs args) w->As (VB H φ (Bi bs args)) (C8 (Fd bs) args) cargs ->
   Calls P f cargs.toArray w fun out w'=>match out with
    | .returned v=>OT H φ w args bs (rs.drop n) (rs.take n) v w'
    | _=>False:=by
 unfold AAt at hb
 split at hb
 case h_2=>cases hb
 rename_i fn hfn
 split at hb
 case h_2=>cases hb
 rename_i c hc
 simp only [AE,Dw,decide_eq_true_eq] at hb
 obtain ⟨⟨⟨⟨hname,hcode⟩,hress⟩,hlen⟩,hout⟩:=hb
 cases hr:yQ cal k a args bs with
 | none=>rw [hr] at h; cases h
 | some r =>
 rw [hr] at h
 simp only [Option.map_some,BB] at h
 subst h
 have hol:a.outs.length=a.res.length+bs.length:=by rw [hl.2]; simp [BI.outs]
 have el:(Du a.outs r).length=a.outs.length:=by
  have:∀ (Ks:List Kd) (y:RT Ks),(Du Ks y).length=Ks.length:=by
   intro Ks
   induction Ks with
   | nil=>intro y; rfl
   | cons K Ks ih =>
    intro y
    cases Ks with
    | nil=>rfl
    | cons L Ks=>simp only [Du,List.length_cons] at ih ⊢; rw [ih y.2]
  exact this _ _
 refine ⟨⟨fn,c,hfn,hname,hc⟩,fun q hq=>?_,a.res.length,by rw [el,hol],fun H φ w cargs hs hargs=>?_⟩
 ·obtain ⟨j,hj⟩:=List.mem_iff_getElem?.1 hq
  have hjl:j<a.outs.length:=by rw [<- el]; exact (Aj.1 hj).1
  obtain ⟨x,hx⟩:=jh a.outs r j a.outs[j] (by simp)
  rw [hx] at hj
  cases hj
  rw [Y0]
  exact jp _ _ (Br.1 hout _ (Bk hjl))
 ·have hcl:cargs.length=args.length:=by rw [hargs.length,OU]
  have hsz:(cargs.toArray++Array.replicate (fn.ntmps-cargs.toArray.size) undef).size=fn.ntmps:=by
   simp only [Array.size_append,List.size_toArray,Array.size_replicate]
   omega
  have hf0:EZ H φ (Bi bs args) (Qk 0 (C8 (Fd bs) args)) (cargs.toArray++Array.replicate (fn.ntmps-cargs.toArray.size) undef):=by
   intro t
   rw [m6]
   split
   ·rename_i ht
    have ht2:t<(C8 (Fd bs) args).length:=by omega
    have h1:(C8 (Fd bs) args)[t]? = some (C8 (Fd bs) args)[t]:=by simp
    obtain ⟨v,hv,hvb⟩:=hargs.get t _ h1
    have e1:(C8 (Fd bs) args).getD (t-0) .undef=(C8 (Fd bs) args)[t]:=by simp [List.getD,ht2]
    have ht3:t<cargs.length:=(Aj.1 hv).1
    have e2:(cargs.toArray++Array.replicate (fn.ntmps-cargs.toArray.size) undef).getD t undef=v:=by
     rw [Array.getD_eq_getD_getElem?,Array.getElem?_append_left (by simpa using ht3)]
     simp only [List.getElem?_toArray,hv,Option.getD_some]
    rw [e1,e2]
    exact VA.of_VB hvb
   ·trivial
  have fr0:Fr bs.length (Bi bs args).length H φ w H φ (Bi bs args) w:=by
   refine ⟨rfl,rfl,rfl,Nat.le_refl _,fun _ _ _=>rfl,fun _ _=>rfl,fun i bi hi _ b hb=>.inr ⟨i,(Aj.1 hi).1,hb⟩,fun j hj=>?_,fun _ _ _=>rfl⟩
   have hv:bs[j]? = some bs[j]:=by simp
   unfold AX
   rw [JL,Au (by rw [Bg]; exact hj),ME bs _ j _ hv]
   generalize bs[j]=v
   cases v<;>rfl
  have fin:m4 fn.ntmps (AK a) r ⟨Qk 0 (C8 (Fd bs) args),Bi bs args⟩ { tmps:=cargs.toArray++Array.replicate (fn.ntmps-cargs.toArray.size) undef,defers:=[] } w H φ
    (fun act' w'=>act'.defers=[]/\∃ v,(results fn act'.tmps).run P w'=.ok v w'/\OT H φ w args bs ((Du a.outs r).drop a.res.length) ((Du a.outs r).take a.res.length) v w'):=by
   intro s' act' w' H' φ' hk hst hf' hn' hd'
   refine ⟨hd',?_⟩
   unfold AK at hk
   cases h1:s'.result (List.range (EH a.params 0).length) a.res with
   | none=>rw [h1] at hk; cases hk
   | some y =>
    obtain ⟨rsv,t1,s1⟩:=y
    rw [h1] at hk
    simp only [AC] at hk
    cases h2:s1.shutBoxes t1 (EH a.params 0) with
    | none=>rw [h2] at hk; cases hk
    | some z =>
     obtain ⟨outs,t2,s2⟩:=z
     rw [h2] at hk
     simp only [AC] at hk
     obtain ⟨nf,v,hv,hend⟩:=AC8 (P:=P) (args:=args) hst.sr hf' (hst.fr _ _ _ _ _ fr0) hst.le (fun j p hp=>by have:=EE a.params 0 j p hp; omega) hl.2 h1 h2 hress
     have henc:=tz _ _ r hk nf
     have hrl:=uB h1
     rw [henc,<- hrl,List.drop_left,List.take_left]
     exact ⟨v,hv,hend⟩
  have hwp:=AB_ (P:=P) (n:=fn.ntmps) (k:=k) hcal a.body c hcode (RT a.outs) (AK a) (AK a) (fun _ _=>none) r ⟨Qk 0 (C8 (Fd bs) args),Bi bs args⟩
   { tmps:=cargs.toArray++Array.replicate (fn.ntmps-cargs.toArray.size) undef,defers:=[] } w H φ
   (bodyPost P fn fun out w'=>match out with
    | .returned v=>OT H φ w args bs ((Du a.outs r).drop a.res.length) ((Du a.outs r).take a.res.length) v w'
    | _=>False) hs hf0 hsz hr fin fin (fun i s' act' w' H' φ' hk=>by cases hk)
  exact calls_of_wp hfn hc hwp
def At (P:Program) (f:Nat) (a:BI):Bool:=(decide (f<Ca)||decide (2*Ca<=f))&&AAt P (f % Ca) a
def AAu (P:Program) (fns:Nat->Option BI):Prop:=∀ f a,fns f=some a->At P f a=true
theorem wM {fns:Nat->Option BI} {prims:Fv} (ht:AAu P fns) (hp:Hc P prims):∀ k,Hc P (fU fns prims k)
 | 0=>⟨fun f k t T _ h=>(by cases h),fun f args bs rs _ h=>by cases h⟩
 | k+1=>⟨fun f q t T hf h=>(by
  simp only [fU] at h
  split at h
  ·rename_i a ha
   have:=ht _ a ha
   simp only [At,AE,Ec,decide_eq_true_eq] at this
   omega
  ·exact hp.1 f q t T hf h),fun f args bs rs hlt h=>by
  simp only [fU] at h
  split at h
  ·rename_i a ha
   split at h
   ·rename_i hl
    exact ACC (wM ht hp k) (by have:=ht f a ha; simp only [At,AE] at this; exact this.2) hl h
   ·cases h
  ·exact hp.2 f args bs rs hlt h⟩
end Go.Proofs.YtfcgblnlopemkaaGreat.Core

namespace Go.Proofs.YtfcgblnlopemkaaGreat.Core
open Go
def Kd.ok:(K:Kd)->K.T->Prop
 | .int k,n=>k.min<=n/\n<=k.max
 | .bool,_=>True
 | .str,s=>s.size<=maxLen
 | .slice e,xs=>xs.length<=maxLen/\∀ x∈xs,Kd.ok e x
 | .pair a b,x=>a.ok x.1/\b.ok x.2
 | .own _ _,_=>False
 | .ref _,_=>False
 | .fun _,_=>False
 | .clo _ _,_=>False
mutual
def Y4 (P:Program):Nat->TypeId->Kd->Bool
 | 0,_,_=>false
 | D+1,t,K=>match P.underlying t with
  | some (.int k)=>(match K with | .int k'=>decide (k=k') | _=>false)
  | some .bool=>(match K with | .bool=>true | _=>false)
  | some .string=>(match K with | .str=>true | _=>false)
  | some (.slice te)=>(match K with | .slice e=>P.cellsOf te==e.sz&&Y4 P D te e | _=>false)
  | some (.struct fs)=>P.cellsOf t==K.sz&&(match K with | .pair _ _=>true | _=>false)&&Wb P D fs.toList 0 K
  | _=>false
def Wb (P:Program):Nat->List Field->Nat->Kd->Bool
 | 0,_,_,_=>false
 | _+1,[],_,_=>false
 | D+1,[f],off,K=>f.offset==off&&P.cellsOf f.type==K.sz&&Y4 P D f.type K
 | D+1,f::g::fs,off,K=>match K with
  | .pair a b=>f.offset==off&&P.cellsOf f.type==a.sz&&Y4 P D f.type a&&Wb P D (g::fs) (off+a.sz) b
  | _=>false
end
def Ur (w:World):HP:=fun b=>w.heap[b]?
theorem qN {w:World} {base:Nat} {a:Addr} {n:Nat} {cs:List Value} (h:w.cells? base a n=some cs):cs.length=n/\∀ i,i<n->w.cell? (a.add i)=cs[i]? := by
 unfold World.cells? at h
 split at h
 ·exact ⟨by simpa using mapM_some_length h,fun i hi=>mapM_some_get h i i (by simp [hi])⟩
 ·cases h
theorem uC (a:Addr):a.add 0=a:=by unfold Addr.add; split<;>simp_all
theorem uD {w:World} {a:Addr} {u:Value} (h:w.cell? a=some u):a=⟨a.block,a.off,none⟩/\∃ c el fz,w.heap[a.block]? = some (.cells c el fz)/\c[a.off]? = some u:=by
 obtain ⟨b,o,sp⟩:=a
 simp only [World.cell?] at h
 split at h
 ·rename_i c el fz hc
  cases sp with
  | some sp=>simp at h
  | none =>
   simp only [Option.isSome_none,Bool.false_eq_true,if_false] at h
   exact ⟨rfl,c,el,fz,hc,h⟩
 ·cases h
mutual
theorem pW {H:Type} {enc:TypeId×Value->H} {P:Program} {w:World} {base:Nat} {spare:Nat->Bool} {held:Bool}:∀ (D:Nat) (t:TypeId) (K:Kd) (fuel:Nat) (cs:List Value) (x:DataW H×List MemPlace),Y4 P D t K=true ->
  DataW.trod enc P w base spare held fuel t cs=some x->∃ y:K.T,Fb (Ur w) K y cs/\Kd.ok K y
 | 0,t,K,fuel,cs,x,h,_=>by simp [Y4] at h
 | D+1,t,K,fuel,cs,x,h,hd=>by
  unfold Y4 at h
  split at h
  ·rename_i k hu
   cases K<;>first | cases h | skip
   simp only [decide_eq_true_eq] at h
   subst h
   obtain ⟨n,rfl,_,hw⟩:=DataW.trod_int hu hd
   simp only [Lit.wf,AE,decide_eq_true_eq] at hw
   exact ⟨n,rfl,hw⟩
  ·rename_i hu
   cases K<;>first | cases h | skip
   obtain ⟨b,rfl,_⟩:=DataW.trod_bool hu hd
   exact ⟨b,rfl,trivial⟩
  ·rename_i hu
   cases K<;>first | cases h | skip
   obtain ⟨s,rfl,_,hs⟩:=DataW.trod_string hu hd
   exact ⟨s,rfl,hs⟩
  ·rename_i te hu
   cases K<;>first | cases h | skip
   rename_i e
   simp only [AE,beq_iff_eq] at h
   rcases DataW.trod_slice hu hd with ⟨rfl,_⟩ | ⟨a,len,cap,elems,rest,n,_,rfl,_,_,hl,hm,hlen,hel,_⟩
   ·exact ⟨[],⟨_,rfl,MC⟩,by simp [Kd.ok]⟩
   ·have each:∀ i,i<len->∃ y:e.T,∃ cs',w.cells? base (a.add (i*e.sz)) e.sz=some cs'/\Fb (Ur w) e y cs'/\Kd.ok e y:=by
     intro i hi
     have h1:=hel i hi
     rw [h.1] at h1
     have h2:elems[i]? = some (elems[i]'(by omega)):=by simp
     rw [h2] at h1
     cases hq:w.cells? base (a.add (i*e.sz)) e.sz with
     | none=>rw [hq] at h1; cases h1
     | some cs' =>
      rw [hq] at h1
      simp only [AC] at h1
      obtain ⟨y,h3,h4⟩:=pW D te e n cs' _ h.2 h1
      exact ⟨y,cs',rfl,h3,h4⟩
    have all:∀ m,m<=len->∃ ys:List e.T,ys.length=m/\∀ i y,ys[i]? = some y->∃ cs',w.cells? base (a.add (i*e.sz)) e.sz=some cs'/\Fb (Ur w) e y cs'/\Kd.ok e y:=by
     intro m
     induction m with
     | zero=>intro _; exact ⟨[],rfl,fun i y h=>by simp at h⟩
     | succ m ih =>
      intro hm
      obtain ⟨ys,l,hy⟩:=ih (by omega)
      obtain ⟨y,cs',g1,g2,g3⟩:=each m (by omega)
      refine ⟨ys++[y],by simp [l],fun i z hz=>?_⟩
      rcases B3 i ys.length with hi | hi
      ·rw [Au hi] at hz
       exact hy i z hz
      ·rw [B4 hi] at hz
       have hi0:i-ys.length=0:=by
        have:=(Aj.1 hz).1
        simp at this
        omega
       rw [hi0] at hz
       simp at hz
       subst hz
       have:i=m:=by omega
       subst this
       exact ⟨cs',g1,g2,g3⟩
    obtain ⟨ys,l,hy⟩:=all len (Nat.le_refl _)
    have hok:ys.length<=maxLen/\∀ y∈ys,Kd.ok e y:=by
     refine ⟨by omega,fun y hm=>?_⟩
     obtain ⟨i,hi⟩:=List.mem_iff_getElem?.1 hm
     obtain ⟨_,_,_,g⟩:=hy i y hi
     exact g
    refine ⟨ys,⟨_,rfl,some a,cap,by rw [l],by omega,?_⟩,hok⟩
    cases hys:ys with
    | nil=>exact .inl rfl
    | cons y0 yr =>
     right
     have hsz:=Kd.sz_pos e
     obtain ⟨cs0,g1,g2,_⟩:=hy 0 y0 (by rw [hys]; rfl)
     obtain ⟨l0,c0⟩:=qN g1
     have hc0:=c0 0 hsz
     have hcs0:cs0[0]? = some (cs0[0]'(by omega)):=by simp
     rw [hcs0,Nat.zero_mul,uC,uC] at hc0
     obtain ⟨ea,c,el,fz,hb,_⟩:=uD hc0
     have addadd:∀ x y:Nat,(a.add x).add y=⟨a.block,a.off+(x+y),none⟩:=by
      intro x y
      rw [ea,Addr.add_none,Addr.add_none,Nat.add_assoc]
     refine ⟨a.block,a.off,c,el,fz,by rw [<- ea],hb,fun j y hj=>?_⟩
     obtain ⟨cs',g3,g4,_⟩:=hy j y (by rw [hys]; exact hj)
     obtain ⟨l1,c1⟩:=qN g3
     refine ⟨cs',g4,l1,fun i u hu=>?_⟩
     have hi:i<e.sz:=by rw [<- l1]; exact (Aj.1 hu).1
     have h3:=c1 i hi
     rw [hu,addadd] at h3
     obtain ⟨_,c2,el2,fz2,hb2,h4⟩:=uD h3
     rw [hb] at hb2
     cases hb2
     rw [Nat.add_assoc]
     exact h4
  ·rename_i fs hu
   simp only [AE,beq_iff_eq] at h
   obtain ⟨⟨hc,_⟩,h⟩:=h
   obtain ⟨xs,n,_,_,hl,_,hf⟩:=DataW.trod_struct hu hd
   have:=m7 (w:=w) (P:=P) D fs.toList 0 K n cs xs h (fun i f hi=>hf i f (by simpa using hi)) (by
    have:xs.length=fs.size:=by assumption
    simpa using this)
   obtain ⟨y,h1,h2⟩:=this
   refine ⟨y,?_,h2⟩
   rw [hc] at hl
   rw [List.drop_zero,List.take_of_length_le (by omega)] at h1
   exact h1
  ·cases h
theorem m7 {H:Type} {enc:TypeId×Value->H} {P:Program} {w:World} {base:Nat} {spare:Nat->Bool} {held:Bool}:∀ (D:Nat) (fs:List Field) (off:Nat) (K:Kd) (fuel:Nat) (cs:List Value) (xs:List (DataW H×List MemPlace)),Wb P D fs off K=true ->
  (∀ (i:Nat) (f:Field),fs[i]? = some f->DataW.trod enc P w base spare held fuel f.type ((cs.drop f.offset).take (P.cellsOf f.type))=xs[i]?)->xs.length=fs.length->∃ y:K.T,Fb (Ur w) K y ((cs.drop off).take K.sz)/\Kd.ok K y
 | 0,fs,off,K,fuel,cs,xs,h,_,_=>by simp [Wb] at h
 | D+1,[],off,K,fuel,cs,xs,h,_,_=>by simp [Wb] at h
 | D+1,[f],off,K,fuel,cs,xs,h,hf,hl=>by
  simp only [Wb,AE,beq_iff_eq] at h
  obtain ⟨⟨rfl,hc⟩,ht⟩:=h
  have h1:=hf 0 f rfl
  rw [hc] at h1
  have h2:xs[0]? = some (xs[0]'(by simp at hl; omega)):=by simp
  rw [h2] at h1
  exact pW D f.type K fuel _ _ ht h1
 | D+1,f::g::fs,off,K,fuel,cs,xs,h,hf,hl=>by
  simp only [Wb] at h
  cases K with
  | pair a b =>
   simp only [AE,beq_iff_eq] at h
   obtain ⟨⟨⟨rfl,hc⟩,ht⟩,hr⟩:=h
   have h1:=hf 0 f rfl
   rw [hc] at h1
   have h2:xs[0]? = some (xs[0]'(by simp at hl; omega)):=by simp
   rw [h2] at h1
   obtain ⟨y1,r1,o1⟩:=pW D f.type a fuel _ _ ht h1
   obtain ⟨y2,r2,o2⟩:=m7 (w:=w) (P:=P) D (g::fs) (f.offset+a.sz) b fuel cs (xs.drop 1) hr (fun i q hi=>by
    have:=hf (i+1) q (by simpa using hi)
    rw [this,CC,Nat.add_comm]) (by simp at hl ⊢; omega)
   refine ⟨(y1,y2),⟨_,_,?_,r1,r2⟩,o1,o2⟩
   apply List.ext_getElem?
   intro i
   have l1:=r1.length
   have l2:=r2.length
   simp only [Kd.sz]
   rcases B3 i a.sz with hi | hi
   ·rw [Au (by omega)]
    simp only [BQ,CC]
    rw [if_pos (by omega),if_pos hi]
   ·rw [B4 (by omega),l1]
    simp only [BQ,CC]
    by_cases h3:i<a.sz+b.sz
    ·rw [if_pos h3,if_pos (by omega)]
     congr 1
     omega
    ·rw [if_neg h3,if_neg (by omega)]
  | _=>cases h
end
theorem wN {H:Type} {enc:TypeId×Value->H} {P:Program} {w:World} {base:Nat} {spare:Nat->Bool} {held:Bool} {t:TypeId} {K:Kd} {v:Value} {d:DataW H} {p:List MemPlace} (h:Y4 P 40 t K=true) (hf:Oo K v)
  (hd:DataW.Trod enc P w base spare held t v d p):∃ x:K.T,VE (Ur w) (K.av x) v/\Kd.ok K x:=by
 obtain ⟨fuel,hd⟩:=hd
 obtain ⟨x,h1,h2⟩:=pW 40 t K fuel _ _ h hd
 exact ⟨x,AAc h1 hf,h2⟩
theorem yq {P:Program} {W:World} {r:Reach} {base:Nat} {t:TypeId} {K:Kd} {v:Value} (h:Y4 P 40 t K=true) (hv:Value.okWide P W r base t v):Oo K v:=by
 unfold Y4 at h
 split at h
 ·rename_i k hu
  obtain ⟨n,rfl⟩:=WideShapes.okWide_int hu hv
  cases K<;>first | cases h | rfl
 ·rename_i hu
  obtain ⟨n,rfl⟩:=WideShapes.okWide_bool hu hv
  cases K<;>first | rfl | cases h
 ·rename_i hu
  obtain ⟨n,rfl⟩:=WideShapes.okWide_string hu hv
  cases K<;>first | rfl | cases h
 ·rename_i te hu
  obtain ⟨a,l,c,rfl⟩:=WideShapes.okWide_slice hu hv
  cases K<;>first | cases h | rfl
 ·rename_i fs hu
  obtain ⟨cs,rfl,_⟩:=WideShapes.okWide_struct hu hv
  simp only [AE] at h
  cases K<;>first | exact ⟨_,rfl⟩ | cases h.1.2
 ·cases h
theorem AAv (w:World) (φ:Bz) (ht:vj (Ur w)):SR (Ur w) φ [] w:=by
 refine ⟨fun b o h=>h,fun id bx h=>by simp at h,fun i j bi bj h=>by simp at h,fun i bi h=>by simp at h,fun id cs h=>by simp at h,ht⟩
theorem zm {P:Program} {fns:Nat->Option BI} {prims:Fv} (ht:AAu P fns) (hp:Hc P prims) {k f:Nat} {args:List AV} (h:fU fns prims k f args []=some [.bool true]) {W:World} {cargs:List Value}
  (ha:As (VE (Ur W)) args cargs) (hlt:f<Ca:=by decide) (htab:vj (Ur W):=by exact fun p h=>by cases h):Calls P f cargs.toArray W fun e W'=>e=.returned (.bool true)/\RowKit.Below W.heap.size W W':=by
 obtain ⟨_,_,n,hn,hc⟩:=(wM ht hp k).2 f args [] _ (.inl hlt) h
 rw [Nat.mod_eq_of_lt hlt] at hc
 have hn:n=1:=by simpa using hn
 subst hn
 have opens:∀ {aw:List AV} {vs:List Value} (k:Nat),As (VE (Ur W)) aw vs->C8 k aw=aw/\BA (cellsOf aw)=[]:=by
  intro aw
  induction aw with
  | nil=>intro vs k _; exact ⟨rfl,rfl⟩
  | cons a aw ih =>
   intro vs k h
   obtain ⟨v,r,rfl,h1,h2⟩:=h
   obtain ⟨o1,o2,o3⟩:=h1.opens k
   obtain ⟨i1,i2⟩:=ih (k+AS a.cells) h2
   refine ⟨by simp only [C8,o1,i1],?_⟩
   simp only [cellsOf,List.flatMap_cons] at i2 ⊢
   rw [Bw,o3,i2]
   rfl
 have hst:Bi [] args=[]:=by
  rw [JL,Bw,(opens 0 ha).2]
  rfl
 have:=hc (Ur W) (fun _=>.nilIface) W cargs (by rw [hst]; exact AAv W _ htab) (by rw [(opens _ ha).1,hst]; exact ha.imp fun _ _ h=>VB.of_VE h)
 refine this.mono fun e W' he=>?_
 cases e with
 | returned v =>
  obtain ⟨H',φ',_,_,f,hr⟩:=he
  have hv:v=.bool true:=hr
  subst hv
  rw [hst] at f
  exact ⟨rfl,f.os,f.tape,f.output,f.size,fun k hk=>f.old k hk fun j hj=>by simp at hj⟩
 | panicked c=>exact he.elim
 | outgrown=>exact he.elim

def Ev (p:Nat->Prop):Prop:=∃ m,∀ k,m<=k->p k
theorem Ev.mono {p q:Nat->Prop} (h:Ev p) (f:∀ k,p k->q k):Ev q:=h.elim fun m hm=>⟨m,fun k hk=>f k (hm k hk)⟩
theorem Ev.const {p:Prop} (h:p):Ev fun _=>p:=⟨0,fun _ _=>h⟩
theorem Ev.all {p:Nat->Prop} (h:∀ k,p k):Ev p:=⟨0,fun k _=>h k⟩
theorem Ev.and {p q:Nat->Prop} (h:Ev p) (g:Ev q):Ev fun k=>p k/\q k:=by
 obtain ⟨m,hm⟩:=h
 obtain ⟨n,hn⟩:=g
 exact ⟨max m n,fun k hk=>⟨hm k (by omega),hn k (by omega)⟩⟩
noncomputable def Lm {ρ:Type} (u:Nat->Option ρ):Option ρ :=
 @dite _ (∃ r,Ev fun k=>u k=some r) (Classical.propDecidable _) (fun h=>some (Classical.choose h)) (fun _=>none)
theorem wO {ρ:Type} {u:Nat->Option ρ} {r:ρ} (h:Lm u=some r):Ev fun k=>u k=some r:=by
 unfold Lm at h
 split at h
 ·rename_i hx
  cases h
  exact Classical.choose_spec hx
 ·cases h
theorem AAw {ρ:Type} {u:Nat->Option ρ} {r:ρ} (h:Ev fun k=>u k=some r):Lm u=some r:=by
 have hx:∃ r,Ev fun k=>u k=some r:=⟨r,h⟩
 unfold Lm
 rw [dif_pos hx]
 obtain ⟨m,hm⟩:=(Classical.choose_spec hx).and h
 obtain ⟨a,b⟩:=hm m (Nat.le_refl _)
 rw [<- b,a]
def Conv {ρ:Type} (kn:Nat->St->Option ρ) (kl:St->Option ρ):Prop:=∀ s r,kl s=some r->Ev fun j=>kn j s=some r
theorem Conv.refl {ρ:Type} (kl:St->Option ρ):Conv (fun _=>kl) kl:=fun _ _ h=>.const h
def UL (cal:Nat->Fv) (c:Fv):Prop:=∀ f a b r,c f a b=some r->Ev fun j=>cal j f a b=some r
theorem UL.refl (c:Fv):UL (fun _=>c) c:=fun _ _ _ _ h=>.const h
abbrev Lp (ρ:Type):Type:=((St->Option ρ)->St->Option ρ)->St->Option ρ
def AAx {ρ:Type} (F:Nat->(St->Option ρ)->St->Option ρ) (FL:(St->Option ρ)->St->Option ρ):Prop :=
 ∀ (go:Nat->St->Option ρ) (gl:St->Option ρ),Conv go gl->Conv (fun j=>F j (go j)) (FL gl)
def AAy {ρ:Type} (lp:Nat->Lp ρ) (ll:Lp ρ):Prop:=∀ (F:Nat->(St->Option ρ)->St->Option ρ) (FL:(St->Option ρ)->St->Option ρ),AAx F FL->(∀ j,AAx (fun _=>F j) (F j))->Conv (fun j=>lp j (F j)) (ll FL)
noncomputable def Lo {ρ:Type}:Lp ρ:=fun F s=>Lm fun n=>Om n F s
theorem AAz {ρ:Type}:AAy (ρ:=ρ) Om Lo:=by
 intro F FL hF _ s r h
 have h:=wO h
 obtain ⟨m,hm⟩:=h
 have key:∀ n,∀ g:Nat->Nat,(∀ j,n<=g j)->Conv (fun j=>Om (g j) (F j)) (Om n FL):=by
  intro n
  induction n with
  | zero=>intro g _ s r h; cases h
  | succ n ih =>
   intro g hg s r h
   refine (hF (fun j=>Om (g j-1) (F j)) (Om n FL) (ih (fun j=>g j-1) fun j=>by have:=hg j; omega) s r h).mono fun j hj=>?_
   have e:g j=(g j-1)+1:=by have:=hg j; omega
   show Om (g j) (F j) s=some r
   rw [e]
   exact hj
 obtain ⟨k,hk⟩:=key m (fun j=>max j m) (fun j=>by omega) s r (hm m (Nat.le_refl _))
 refine ⟨max k m,fun j hj=>?_⟩
 have:=hk j (by omega)
 simp only [show max j m=j by omega] at this
 exact this
theorem wP {ρ:Type} (k:Nat):AAy (ρ:=ρ) (fun _=>Om k) (Om k):=by
 intro F FL hF _
 induction k with
 | zero=>intro s r h; cases h
 | succ k ih=>exact hF _ _ ih
theorem qO {ρ:Type} {F:(St->Option ρ)->St->Option ρ} (hF:AAx (fun _=>F) F) {s:St} {r:ρ} (h:F (Lo F) s=some r):Lo F s=some r:=by
 obtain ⟨m,hm⟩:=hF (fun j=>Om j F) (Lo F) (fun s r h=>wO h) s r h
 exact AAw ⟨m+1,fun k hk=>by
  cases k with
  | zero=>omega
  | succ k=>exact hm k (by omega)⟩
theorem wQ {ρ:Type}:AAy (ρ:=ρ) (fun _=>Lo) Lo:=by
 intro F FL hF hs s r h
 obtain ⟨m,hm⟩:=wO h
 have key:∀ n,Conv (fun j=>Lo (F j)) (Om n FL):=by
  intro n
  induction n with
  | zero=>intro s r h; cases h
  | succ n ih=>intro s r h; exact (hF _ _ ih s r h).mono fun j hj=>qO (hs j) hj
 exact key m s r (hm m (Nat.le_refl _))
theorem CF {α β:Type} {x:Option α} {f:Nat->α->Option β} {g:α->Option β} (h:∀ a r,g a=some r->Ev fun j=>f j a=some r) (r:β) (hx:x.bind g=some r):Ev fun j=>x.bind (f j)=some r:=by
 cases x with
 | none=>cases hx
 | some a=>exact h a r hx
theorem qP {ρ:Type} {s:St} {v:AV} {K:Kd} {kn:Nat->List K.T->Option ρ} {kl:List K.T->Option ρ} (hk:∀ a r,kl a=some r->Ev fun j=>kn j a=some r) (r:ρ) (h:s.list v K kl=some r):Ev fun j=>s.list v K (kn j)=some r:=by
 unfold St.list at h ⊢
 split at h
 ·exact hk _ _ h
 ·split at h
  ·rename_i e
   simp only [dif_pos e]
   exact hk _ _ h
  ·cases h
 ·split at h
  ·rename_i e0
   split at h
   ·rename_i e
    split at h
    ·rename_i ep
     simp only [e0,dif_pos e,if_pos ep]
     exact hk _ _ h
    ·cases h
   ·cases h
  ·rename_i e0
   split at h
   ·rename_i e
    simp only [e0,dif_pos e]
    exact hk _ _ h
   ·cases h
  ·rename_i e0
   split at h
   ·rename_i e
    split at h
    ·rename_i ep
     simp only [e0,dif_pos e,if_pos ep]
     exact hk _ _ h
    ·cases h
   ·cases h
  ·rename_i e0
   split at h
   ·rename_i e
    simp only [e0,dif_pos e]
    exact hk _ _ h
   ·cases h
  ·cases h
 ·cases h
theorem wR {ρ:Type} {s:St} {d id:Nat} {e:TypeId} {K:Kd} {b:AV} {kn:Nat->St->Option ρ} {kl:St->Option ρ} (hk:Conv kn kl) (r:ρ) (h:s.appR d e K id b kl=some r):Ev fun j=>s.appR d e K id b (kn j)=some r:=by
 unfold St.appR at h ⊢
 split at h
 ·rename_i e1
  split at h
  ·rename_i e2
   split at h
   ·rename_i e3
    split at h
    ·rename_i e4
     simp only [e1,dif_pos e2,if_pos e3,if_pos e4]
     refine qP (fun a r h=>?_) r h
     split at h
     ·rename_i e5
      simp only [if_pos e5]
      exact hk _ _ h
     ·cases h
    ·rename_i e4
     split at h
     ·rename_i j
      split at h
      ·cases h
      ·rename_i e5
       split at h
       ·rename_i e6
        split at h
        ·rename_i e7
         split at h
         ·rename_i e8
          simp only [e1,dif_pos e2,if_pos e3,if_neg e4,if_neg e5,e6,dif_pos e7,if_pos e8]
          exact hk _ _ h
         ·cases h
        ·cases h
       ·cases h
     ·cases h
   ·cases h
  ·cases h
 ·cases h
theorem zn {ρ:Type} {op:BinOp} {x y:AV} {kn:Nat->AV->Option ρ} {kl:AV->Option ρ} (hk:∀ a r,kl a=some r->Ev fun j=>kn j a=some r) (r:ρ) (h:mg op x y kl=some r):Ev fun j=>mg op x y (kn j)=some r:=by
 have e:∀ k:AV->Option ρ,mg op x y k=(mg op x y some).bind k:=by
  intro k
  unfold mg
  repeat' split
  all_goals rfl
 rw [e] at h
 simp only [e (kn _)]
 exact CF hk r h
theorem AA0 {ρ:Type} {op:UnOp} {x:AV} {kn:Nat->AV->Option ρ} {kl:AV->Option ρ} (hk:∀ a r,kl a=some r->Ev fun j=>kn j a=some r) (r:ρ) (h:zI op x kl=some r):Ev fun j=>zI op x (kn j)=some r:=by
 unfold zI at h ⊢
 split at h<;>first | exact hk _ _ h | cases h
theorem wS {α β:Type} {x:Nat->Option α} {xl:Option α} {f:Nat->α->Option β} {g:α->Option β} (hx:∀ a,xl=some a->Ev fun j=>x j=some a) (h:∀ a r,g a=some r->Ev fun j=>f j a=some r) (r:β) (hr:xl.bind g=some r):Ev fun j=>(x j).bind (f j)=some r:=by
 cases xl with
 | none=>cases hr
 | some a=>exact ((hx a rfl).and (h a r hr)).mono fun j hj=>by rw [hj.1]; exact hj.2
theorem AC9 {ρ:Type} {cal:Nat->Fv} {c:Fv} {d z:Nat} {x:CQ} {lo hi:Option CQ} {kn:Nat->St->Option ρ} {kl:St->Option ρ} (hk:Conv kn kl) (s:St) (r:ρ) (h:EA c kl s (.sl d z x lo hi)=some r):Ev fun j=>EA (cal j) (kn j) s (.sl d z x lo hi)=some r:=by
 simp only [EA] at h ⊢
 split at h
 ·split at h
  ·rename_i ez
   split at h
   ·split at h
    ·rename_i g1
     split at h
     ·rename_i g2
      split at h
      ·rename_i g3
       simp only [if_pos ez,if_pos g1,if_pos g2,if_pos g3]
       exact hk _ _ h
      ·cases h
     ·cases h
    ·cases h
   ·cases h
  ·cases h
 ·split at h
  ·rename_i ez
   split at h
   ·split at h
    ·rename_i g1
     split at h
     ·rename_i g2
      split at h
      ·rename_i g3
       simp only [if_pos ez,if_pos g1,if_pos g2,if_pos g3]
       exact hk _ _ h
      ·cases h
     ·cases h
    ·cases h
   ·cases h
  ·cases h
 ·cases h
theorem uE {ρ:Type} {cal:Nat->Fv} {c:Fv} (hc:UL cal c) {d:Option Nat} {f:Nat} {args:List (CQ×PK)} {res:List Kd} {kn:Nat->St->Option ρ} {kl:St->Option ρ} (hk:Conv kn kl) (s:St) (r:ρ) (h:pf c kl s d f args res=some r):Ev fun j=>pf (cal j) (kn j) s d f args res=some r:=by
 simp only [pf] at h ⊢
 refine CF (fun q r h=>CF (fun bx r h=>?_) r h) r h
 split at h
 ·rename_i e
  simp only [if_pos e]
  refine wS (fun a ha=>?_) (fun y r h=>?_) r h
  ·exact wS (f:=fun _=>C7 _) (g:=C7 _) (fun a ha=>hc _ _ _ _ ha) (fun y r h=>.const h) a ha
  ·split at h
   ·rename_i e
    simp only [if_pos e]
    exact hk _ _ h
   ·cases h
 ·cases h
mutual
theorem qQ {ρ:Type} {cal:Nat->Fv} {c:Fv} (hc:UL cal c):∀ (ao:Ey) {kn:Nat->St->Option ρ} {kl:St->Option ρ},Conv kn kl->∀ s r,EA c kl s ao=some r->Ev fun j=>EA (cal j) (kn j) s ao=some r
 | .mv d x,kn,kl,hk,s,r,h=>hk _ _ h
 | .nilrow d t K,kn,kl,hk,s,r,h=>hk _ _ h
 | .pick d c a b,kn,kl,hk,s,r,h=>by
  simp only [EA] at h ⊢
  split at h
  ·split at h<;>rename_i e<;>simp only [e,if_true,if_false,Bool.false_eq_true]<;>exact hk _ _ h
  ·cases h
 | .sc c want ops d a b,kn,kl,hk,s,r,h=>by
  simp only [EA] at h ⊢
  split at h
  ·split at h
   ·rename_i e
    simp only [e,if_true]
    exact uh hc ops (kn:=fun j s'=>kn j (s'.put d (if want then s'.opd a else s'.opd b))) (kl:=fun s'=>kl (s'.put d (if want then s'.opd a else s'.opd b))) (fun s r h=>hk _ _ h) s r h
   ·rename_i e
    simp only [if_neg e]
    exact hk _ _ h
  ·cases h
 | .alloc d cs,kn,kl,hk,s,r,h=>hk _ _ h
 | .box d x own,kn,kl,hk,s,r,h=>by
  simp only [EA] at h ⊢
  exact CF (fun a r h=>hk _ _ h) r h
 | .build d zero parts,kn,kl,hk,s,r,h=>by
  simp only [EA] at h ⊢
  exact CF (fun a r h=>hk _ _ h) r h
 | .bnew d zero parts,kn,kl,hk,s,r,h=>by
  simp only [EA] at h ⊢
  exact CF (fun a r h=>hk _ _ h) r h
 | .brow d t K parts,kn,kl,hk,s,r,h=>by
  simp only [EA] at h ⊢
  split at h
  ·rename_i ep
   simp only [if_pos ep]
   exact CF (fun a r h=>CF (fun a r h=>hk _ _ h) r h) r h
  ·rename_i ep
   simp only [if_neg ep]
   refine CF (fun a r h=>?_) r h
   split at h
   ·rename_i e2
    simp only [if_pos e2]
    exact CF (fun a r h=>hk _ _ h) r h
   ·cases h
 | .blst d K parts,kn,kl,hk,s,r,h=>by
  simp only [EA] at h ⊢
  exact CF (fun a r h=>CF (fun a r h=>hk _ _ h) r h) r h
 | .load d x n,kn,kl,hk,s,r,h=>by
  simp only [EA] at h ⊢
  refine CF (fun a r h=>?_) r h
  split at h
  ·rename_i e
   simp only [if_pos e]
   exact hk _ _ h
  ·cases h
 | .store x y m own,kn,kl,hk,s,r,h=>by
  simp only [EA] at h ⊢
  split at h
  ·rename_i e
   simp only [if_pos e]
   exact CF (fun a r h=>hk _ _ h) r h
  ·cases h
 | .nilc d x,kn,kl,hk,s,r,h=>by
  simp only [EA] at h ⊢
  split at h<;>first | exact hk _ _ h | cases h
 | .bin d op x y,kn,kl,hk,s,r,h=>by
  simp only [EA] at h ⊢
  exact zn (fun a r h=>hk _ _ h) r h
 | .eqs d neg K x y,kn,kl,hk,s,r,h=>by
  simp only [EA] at h ⊢
  exact CF (fun a r h=>CF (fun a r h=>hk _ _ h) r h) r h
 | .un d op x,kn,kl,hk,s,r,h=>by
  simp only [EA] at h ⊢
  exact AA0 (fun a r h=>hk _ _ h) r h
 | .cvi d k x,kn,kl,hk,s,r,h=>by
  simp only [EA] at h ⊢
  split at h<;>first | exact hk _ _ h | cases h
 | .bts d x,kn,kl,hk,s,r,h=>by
  simp only [EA] at h ⊢
  exact qP (fun a r h=>hk _ _ h) r h
 | .fld d x off,kn,kl,hk,s,r,h=>by
  simp only [EA] at h ⊢
  split at h<;>first | exact hk _ _ h | cases h
 | .field d x off n,kn,kl,hk,s,r,h=>by
  simp only [EA] at h ⊢
  split at h
  ·split at h
   ·rename_i e
    simp only [if_pos e]
    exact hk _ _ h
   ·cases h
  ·cases h
 | .idx d z x i,kn,kl,hk,s,r,h=>by
  have e:∀ k:St->Option ρ,EA (cal 0) k s (.idx d z x i)=(EA (cal 0) some s (.idx d z x i)).bind k:=by
   intro k
   simp only [EA]
   repeat' split
   all_goals rfl
  have e2:∀ k:St->Option ρ,∀ c:Fv,EA c k s (.idx d z x i)=EA (cal 0) k s (.idx d z x i):=fun k c=>by simp only [EA]
  rw [e2,e] at h
  simp only [e2 (kn _),e (kn _)]
  exact CF (fun a r h=>hk _ _ h) r h
 | .aidx d n x i,kn,kl,hk,s,r,h=>by
  simp only [EA] at h ⊢
  split at h
  ·refine CF (fun xs r h=>?_) r h
   split at h
   ·rename_i e1
    split at h
    ·rename_i e2
     split at h
     ·rename_i e3
      simp only [if_pos e1,if_pos e2,if_pos e3]
      exact hk _ _ h
     ·cases h
    ·cases h
   ·cases h
  ·cases h
 | .sidx d x i,kn,kl,hk,s,r,h=>by
  have e:∀ k:St->Option ρ,EA (cal 0) k s (.sidx d x i)=(EA (cal 0) some s (.sidx d x i)).bind k:=by
   intro k
   simp only [EA]
   repeat' split
   all_goals rfl
  have e2:∀ k:St->Option ρ,∀ c:Fv,EA c k s (.sidx d x i)=EA (cal 0) k s (.sidx d x i):=fun k c=>by simp only [EA]
  rw [e2,e] at h
  simp only [e2 (kn _),e (kn _)]
  exact CF (fun a r h=>hk _ _ h) r h
 | .sl d z x lo hi,kn,kl,hk,s,r,h=>AC9 hk s r h
 | .mk d t K n,kn,kl,hk,s,r,h=>by
  have e:∀ k:St->Option ρ,EA (cal 0) k s (.mk d t K n)=(EA (cal 0) some s (.mk d t K n)).bind k:=by
   intro k
   simp only [EA]
   repeat' split
   all_goals rfl
  have e2:∀ k:St->Option ρ,∀ c:Fv,EA c k s (.mk d t K n)=EA (cal 0) k s (.mk d t K n):=fun k c=>by simp only [EA]
  rw [e2,e] at h
  simp only [e2 (kn _),e (kn _)]
  exact CF (fun a r h=>hk _ _ h) r h
 | .fn d f caps,kn,kl,hk,s,r,h=>hk _ _ h
 | .clo d f K x,kn,kl,hk,s,r,h=>by
  simp only [EA] at h ⊢
  split at h
  ·exact CF (fun a r h=>hk _ _ h) r h
  ·cases h
 | .fbox d x,kn,kl,hk,s,r,h=>by
  simp only [EA] at h ⊢
  exact CF (fun a r h=>hk _ _ h) r h
 | .min d x y,kn,kl,hk,s,r,h=>by
  simp only [EA] at h ⊢
  split at h
  ·split at h
   ·rename_i e
    simp only [if_pos e]
    exact hk _ _ h
   ·cases h
  ·cases h
 | .app d e K a b,kn,kl,hk,s,r,h=>by
  simp only [EA] at h ⊢
  split at h
  ·exact wR hk r h
  ·split at h
   ·exact CF (fun y r h=>wR hk r h) r h
   ·cases h
  ·cases h
 | .apz d e K a b,kn,kl,hk,s,r,h=>by
  simp only [EA] at h ⊢
  split at h
  ·split at h
   ·rename_i e1
    split at h
    ·rename_i e2
     split at h
     ·rename_i e3
      simp only [e1,dif_pos e2,if_pos e3]
      refine qP (fun a r h=>?_) r h
      split at h
      ·rename_i e4
       simp only [if_pos e4]
       exact hk _ _ h
      ·cases h
     ·cases h
    ·cases h
   ·cases h
  ·cases h
 | .len d t x,kn,kl,hk,s,r,h=>by
  have e:∀ k:St->Option ρ,EA (cal 0) k s (.len d t x)=(EA (cal 0) some s (.len d t x)).bind k:=by
   intro k
   simp only [EA]
   repeat' split
   all_goals first | rfl | (rw [Option.bind_assoc]; rfl)
  have e2:∀ k:St->Option ρ,∀ c:Fv,EA c k s (.len d t x)=EA (cal 0) k s (.len d t x):=fun k c=>by simp only [EA]
  rw [e2,e] at h
  simp only [e2 (kn _),e (kn _)]
  exact CF (fun a r h=>hk _ _ h) r h
 | .call d f args res,kn,kl,hk,s,r,h=>by
  simp only [EA] at h ⊢
  exact uE hc hk s r h
 | .icall n rd d f args res,kn,kl,hk,s,r,h=>by
  simp only [EA] at h ⊢
  refine CF (fun y r h=>?_) r h
  split at h
  ·cases h
  ·rename_i e1
   simp only [if_neg e1]
   by_cases e2:(if rd=true then !Bo (UH y.2 args) s.st.length else Bo (ve y.2 args) s.st.length)=true
   ·rw [if_pos e2] at h
    simp only [if_pos e2]
    exact uE hc (kn:=fun j s2=>(s2.closeAt y.1 s.st.length rd).bind (kn j)) (kl:=fun s2=>(s2.closeAt y.1 s.st.length rd).bind kl) (fun s r h=>CF (fun a r h=>hk _ _ h) r h) y.2 r h
   ·rw [if_neg e2] at h; cases h
 | .bld d k f t x y,kn,kl,hk,s,r,h=>by
  simp only [EA] at h ⊢
  split at h
  ·rename_i id e1
   split at h
   ·rename_i T j e2
    split at h
    ·rename_i t' xs e3
     split at h
     ·rename_i e4
      cases e5:c (Ca+f) [.int .i64 k,.int .i64 t,.int .i64 T] [] with
      | none=>rw [e5] at h; cases h
      | some q =>
       have hq:=hc _ _ _ _ e5
       rw [e5,AC] at h
       cases e8:C7 [] q with
       | none=>rw [e8] at h; cases h
       | some u =>
        rw [e8,AC] at h
        split at h
        ·rename_i e6
         split at h
         ·rename_i e7
          refine (hq.and (hk _ _ h)).mono fun j hj=>?_
          simp only [e2,e3,if_pos e4,hj.1,AC,e8,if_pos e6,if_pos e7]
          exact hj.2
         ·cases h
        ·rename_i e6
         cases ha:ABY k (s.opd y) with
         | none=>rw [ha] at h; cases h
         | some ys =>
          rw [ha,AC] at h
          split at h
          ·rename_i e7
           refine (hq.and (hk _ _ h)).mono fun j hj=>?_
           simp only [e2,e3,if_pos e4,hj.1,AC,e8,if_neg e6,ha,if_pos e7]
           exact hj.2
          ·cases h
     ·cases h
    ·cases h
   ·cases h
  ·cases h
 | .stb d t x,kn,kl,hk,s,r,h=>by
  simp only [EA] at h ⊢
  split at h
  ·exact hk _ _ h
  ·cases h
 | .ext d x i,kn,kl,hk,s,r,h=>by
  simp only [EA] at h ⊢
  split at h
  ·split at h
   ·rename_i e
    simp only [if_pos e]
    exact hk _ _ h
   ·cases h
  ·cases h
theorem uh {ρ:Type} {cal:Nat->Fv} {c:Fv} (hc:UL cal c):∀ (aos:List Ey) {kn:Nat->St->Option ρ} {kl:St->Option ρ},Conv kn kl->∀ s r,jQ c kl s aos=some r->Ev fun j=>jQ (cal j) (kn j) s aos=some r
 | [],kn,kl,hk,s,r,h=>by simp only [jQ] at h ⊢; exact hk _ _ h
 | o::os,kn,kl,hk,s,r,h=>by
  simp only [jQ] at h ⊢
  exact qQ hc o (fun s r h=>uh hc os hk s r h) s r h
end
theorem Y5 {ρ:Type} {cal:Nat->Fv} {c:Fv} (hc:UL cal c) (anc:List (List Nat)) {kn:Nat->St->Option ρ} {kl:St->Option ρ} (hk:Conv kn kl):∀ (t:DT) (T:List (Nat×Nat)) s r,dK c anc kl t T s=some r->Ev fun j=>dK (cal j) anc (kn j) t T s=some r
 | .done,T,s,r,h=>hk _ _ h
 | .take i g ao d,T,s,r,h=>by
  simp only [dK] at h ⊢
  split at h
  ·rename_i e
   simp only [if_pos e]
   exact qQ hc ao (fun s r h=>Y5 hc anc hk d _ s r h) s r h
  ·cases h
 | .skip i g d t,T,s,r,h=>by
  simp only [dK] at h ⊢
  split at h
  ·rename_i e
   simp only [if_pos e]
   exact Y5 hc anc hk t _ _ r h
  ·cases h
 | .only i g ao e fl d,T,s,r,h=>by
  simp only [dK] at h ⊢
  split at h
  ·rename_i e
   simp only [if_pos e]
   exact qQ hc ao (fun s r h=>Y5 hc anc hk d _ s r h) s r h
  ·cases h
 | .test c a b,T,s,r,h=>by
  simp only [dK] at h ⊢
  split at h
  ·split at h
   ·rename_i e
    simp only [if_pos e]
    exact Y5 hc anc hk a _ _ r h
   ·rename_i e
    simp only [if_neg e]
    exact Y5 hc anc hk b _ _ r h
  ·cases h
 | .fork i ai ri j aj rj,T,s,r,h=>by
  simp only [dK] at h ⊢
  obtain ⟨ha,hb⟩:=jR.1 h
  have ea:Ev fun n=>(if (IM ai.dsts T&&WQ (anc.getD i []) (ai.touch s) s T)=true then EA (cal n) (fun s'=>dK (cal n) anc (kn n) ri (HX (anc.getD i []) T) s') s ai else none)=some r:=by
   split at ha
   ·rename_i e
    simp only [if_pos e]
    exact qQ hc ai (fun s r h=>Y5 hc anc hk ri _ s r h) s r ha
   ·cases ha
  have eb:Ev fun n=>(if (IM aj.dsts T&&WQ (anc.getD j []) (aj.touch s) s T)=true then EA (cal n) (fun s'=>dK (cal n) anc (kn n) rj (HX (anc.getD j []) T) s') s aj else none)=some r:=by
   split at hb
   ·rename_i e
    simp only [if_pos e]
    exact qQ hc aj (fun s r h=>Y5 hc anc hk rj _ s r h) s r hb
   ·cases hb
  exact (ea.and eb).mono fun n h=>jR.2 h
noncomputable def G6 {ρ:Type} (cal:Fv) (lp:Lp ρ):AH->(kn kr:St->Option ρ)->(ke:Nat->St->Option ρ)->St->Option ρ
 | .skip,kn,_,_,s=>kn s
 | .region ops live,kn,_,_,s=>jQ cal (fun s'=>kn ⟨live.map fun t=>(t,Eg s'.fr t),s'.st⟩) s ops
 | .draw anc t live,kn,_,_,s=>dK cal anc (fun s'=>kn ⟨live.map fun t=>(t,Eg s'.fr t),s'.st⟩) t [] s
 | .seqc live a b,kn,kr,ke,s=>G6 cal lp a (fun s'=>G6 cal lp b kn kr ke (s'.cutH (Dx s live) live s.st.length)) kr ke s
 | .seq a b,kn,kr,ke,s=>G6 cal lp a (fun s'=>G6 cal lp b kn kr ke s') kr ke s
 | .cond c a b,kn,kr,ke,s=>match s.opd c with
  | .bool t=>if t=true then G6 cal lp a kn kr ke s else G6 cal lp b kn kr ke s
  | _=>none
 | .block id live body,kn,kr,ke,s=>G6 cal lp body (fun s'=>kn (s'.cutH (Dx s live) live s.st.length)) kr (fun i s'=>if i=id then kn (s'.cutH (Dx s live) live s.st.length) else ke i s') s
 | .loop live body,_,kr,ke,s=>lp (fun go s'=>G6 cal lp body (fun s''=>go (s''.cutH (Dx s live) live s.st.length)) kr ke s') (s.cut live s.st.length)
 | .exit id,_,_,ke,s=>ke id s
 | .ret,_,kr,_,s=>kr s
theorem Qo {ρ:Type} (cal:Fv) (k:Nat):∀ (a:AH) (kn kr:St->Option ρ) (ke:Nat->St->Option ρ) (s:St),HS cal k a kn kr ke s=G6 cal (Om k) a kn kr ke s
 | .skip,_,_,_,_=>rfl
 | .region ..,_,_,_,_=>rfl
 | .draw ..,_,_,_,_=>rfl
 | .seqc live a b,kn,kr,ke,s=>by simp only [HS,G6,Qo cal k a,Qo cal k b]
 | .seq a b,kn,kr,ke,s=>by simp only [HS,G6,Qo cal k a,Qo cal k b]
 | .cond c a b,kn,kr,ke,s=>by
  simp only [HS,G6,Qo cal k a,Qo cal k b]
  cases s.opd c<;>rfl
 | .block id live a,kn,kr,ke,s=>by simp only [HS,G6,Qo cal k a]
 | .loop live a,kn,kr,ke,s=>by simp only [HS,G6,Qo cal k a]
 | .exit _,_,_,_,_=>rfl
 | .ret,_,_,_,_=>rfl
theorem Iy {ρ:Type}:∀ (a:AH) {cal:Nat->Fv} {c:Fv} {lp:Nat->Lp ρ} {ll:Lp ρ} {kn kr:Nat->St->Option ρ} {kl krl:St->Option ρ} {ke:Nat->Nat->St->Option ρ} {kel:Nat->St->Option ρ},UL cal c->AAy lp ll->(∀ j,AAy (fun _=>lp j) (lp j)) ->
  Conv kn kl->Conv kr krl->(∀ i,Conv (fun j=>ke j i) (kel i))->Conv (fun j=>G6 (cal j) (lp j) a (kn j) (kr j) (ke j)) (G6 c ll a kl krl kel)
 | .skip,_,_,_,_,_,_,_,_,_,_,hc,hl,hl',hk,hr,he=>hk
 | .region ops live,_,_,_,_,_,_,_,_,_,_,hc,hl,hl',hk,hr,he=>fun s r h=>uh hc ops (fun s r h=>hk _ r h) s r h
 | .draw anc t live,_,_,_,_,_,_,_,_,_,_,hc,hl,hl',hk,hr,he=>fun s r h=>Y5 hc anc (fun s r h=>hk _ r h) t [] s r h
 | .seqc live a b,_,_,_,_,_,_,_,_,_,_,hc,hl,hl',hk,hr,he=>fun s r h=>Iy a hc hl hl' (fun s' r h=>Iy b hc hl hl' hk hr he _ r h) hr he s r h
 | .seq a b,_,_,_,_,_,_,_,_,_,_,hc,hl,hl',hk,hr,he=>fun s r h=>Iy a hc hl hl' (fun s' r h=>Iy b hc hl hl' hk hr he _ r h) hr he s r h
 | .cond c a b,_,_,_,_,_,_,_,_,_,_,hc,hl,hl',hk,hr,he=>fun s r h=>by
  simp only [G6] at h ⊢
  split at h
  ·split at h
   ·rename_i e
    simp only [if_pos e]
    exact Iy a hc hl hl' hk hr he s r h
   ·rename_i e
    simp only [if_neg e]
    exact Iy b hc hl hl' hk hr he s r h
  ·cases h
 | .block id live a,_,_,_,_,_,_,_,_,_,_,hc,hl,hl',hk,hr,he=>fun s r h=>by
  simp only [G6] at h ⊢
  refine Iy a hc hl hl' (fun s r h=>hk _ r h) hr (fun i s' r h=>?_) s r h
  split at h
  ·rename_i e
   simp only [if_pos e]
   exact hk _ r h
  ·rename_i e
   simp only [if_neg e]
   exact he i _ r h
 | .loop live a,cal,c,lp,ll,kn,kr,kl,krl,ke,kel,hc,hl,hl',hk,hr,he=>fun s r h=>by
  simp only [G6] at h ⊢
  refine hl _ _ (fun go gl hgo s' r h=>?_) (fun j go gl hgo s' r h=>?_) _ r h
  ·exact Iy a hc hl hl' (fun s r h=>hgo _ r h) hr he s' r h
  ·exact Iy (cal:=fun _=>cal j) (lp:=fun _=>lp j) (kn:=fun i s'=>go i (s'.cutH (Dx s live) live s.st.length)) (kl:=fun s'=>gl (s'.cutH (Dx s live) live s.st.length)) (kr:=fun _=>kr j) (krl:=kr j) (ke:=fun _=>ke j) (kel:=ke j) a (UL.refl _) (hl' j) (fun _=>hl' j) (fun s r h=>hgo _ r h) (Conv.refl _) (fun i=>Conv.refl _) s' r h
 | .exit id,_,_,_,_,_,_,_,_,_,_,hc,hl,hl',hk,hr,he=>fun s r h=>he id s r h
 | .ret,_,_,_,_,_,_,_,_,_,_,hc,hl,hl',hk,hr,he=>hr
theorem zo {ρ:Type} {cal:Fv} {a:AH} {hs:List (Nat×Nat)} {live:List Nat} {n:Nat} {kr:St->Option ρ} {ke:Nat->St->Option ρ} {s:St} {r:ρ}
  (h:G6 cal Lo a (fun s''=>Lo (fun go s'=>G6 cal Lo a (fun s''=>go (s''.cutH hs live n)) kr ke s') (s''.cutH hs live n)) kr ke s=some r) :
  Lo (fun go s'=>G6 cal Lo a (fun s''=>go (s''.cutH hs live n)) kr ke s') s=some r :=
 qO (F:=fun go s'=>G6 cal Lo a (fun s''=>go (s''.cutH hs live n)) kr ke s') (fun go gl hgo s' r h=>Iy (cal:=fun _=>cal) (lp:=fun _=>Lo) (kn:=fun i s'=>go i (s'.cutH hs live n)) (kl:=fun s'=>gl (s'.cutH hs live n)) (kr:=fun _=>kr) (krl:=kr) (ke:=fun _=>ke) (kel:=ke) a (UL.refl _) wQ (fun _=>wQ) (fun s r h=>hgo _ r h) (Conv.refl _) (fun i=>Conv.refl _) s' r h) h
noncomputable def AA1 (cal:Fv) (fn:BI) (args bs:List AV):Option (RT fn.outs) :=
 G6 cal Lo fn.body (AK fn) (AK fn) (fun _ _=>none) ⟨Qk 0 (C8 (Fd bs) args),Bi bs args⟩
noncomputable def ui (fns:Nat->Option BI) (prims:Fv):Fv:=fun f a b=>Lm fun k=>fU fns prims k f a b
theorem Ny {fns:Nat->Option BI} {prims:Fv} {f:Nat} {args bs r:List AV} (hf:fns f=none) (h:prims f args bs=some r):ui fns prims f args bs=some r:=by
 refine AAw ⟨1,fun k hk=>?_⟩
 cases k with
 | zero=>omega
 | succ k=>simp only [fU,hf,h]
theorem zp {fns:Nat->Option BI} {prims:Fv} {f:Nat} {fn:BI} {args bs:List AV} {r:RT fn.outs} (hf:fns f=some fn) (hl:args.length=fn.params.length/\bs.length=(EH fn.params 0).length)
  (h:AA1 (ui fns prims) fn args bs=some r):ui fns prims f args bs=some (Du fn.outs r):=by
 have hc:UL (fun k=>fU fns prims k) (ui fns prims):=fun f a b r h=>wO h
 obtain ⟨m,hm⟩:=Iy (lp:=Om) (ll:=Lo) fn.body (kn:=fun _=>AK fn) (kr:=fun _=>AK fn) (ke:=fun _ _ _=>none) hc AAz wP (Conv.refl _) (Conv.refl _) (fun i=>Conv.refl _) _ r h
 refine AAw ⟨m+1,fun k hk=>?_⟩
 cases k with
 | zero=>omega
 | succ k =>
  simp only [fU,hf,if_pos hl]
  have:=hm k (by omega)
  simp only [<- Qo] at this
  unfold yQ
  rw [this]
  rfl
theorem Sl:∀ (K:Kd) (x:K.T) (r:List AV),K.dec (K.enc x++r)=some (x,r)
 | .int k,x,r=>by simp [Kd.enc,Kd.dec]
 | .bool,x,r=>rfl
 | .str,x,r=>rfl
 | .slice e,x,r=>by simp [Kd.enc,Kd.dec]
 | .pair a b,x,r=>by simp [Kd.enc,Kd.dec,BW,Sl a,Sl b]
 | .own t e,x,r=>by simp [Kd.enc,Kd.dec]
 | .ref K,x,r=>by
  have:=Sl K x []
  rw [List.append_nil] at this
  simp [Kd.enc,Kd.dec,this]
 | .fun f,x,r=>by simp [Kd.enc,Kd.dec]
 | .clo f K,x,r=>by simp [Kd.enc,Kd.dec]
theorem qR (K:Kd) (x:K.T):K.of (K.av x)=some x:=by
 have h:K.ofCells (K.enc x)=some x:=by
  have:=Sl K x []
  rw [List.append_nil] at this
  simp [Kd.ofCells,this]
 unfold Kd.of
 cases K<;>exact h
theorem qS:∀ (Ks:List Kd) (x:RT Ks),C7 Ks (Du Ks x)=some x
 | [],_=>rfl
 | [K],x=>qR K x
 | K::L::Ks,x=>by
  simp only [Du,C7,qR,AC]
  rw [qS (L::Ks) x.2]
  rfl
theorem xu {fns:Nat->Option BI} {prims:Fv} {f:Nat} {fn:BI} {args bs:List AV} {r:RT fn.outs} (hf:fns f=some fn) (hl:args.length=fn.params.length/\bs.length=(EH fn.params 0).length)
  (h:AA1 (ui fns prims) fn args bs=some r):(ui fns prims f args bs).bind (C7 fn.outs)=some r:=by
 rw [zp hf hl h,AC,qS]
theorem AA2 {P:Program} {fns:Nat->Option BI} {prims:Fv} (ht:AAu P fns) (hp:Hc P prims) {f:Nat} {args:List AV} (h:(ui fns prims f args []).bind (C7 [.bool])=some true) {W:World} {cargs:List Value}
  (ha:As (VE (Ur W)) args cargs) (hlt:f<Ca:=by decide) (htab:vj (Ur W):=by exact fun p h=>by cases h):Calls P f cargs.toArray W fun e W'=>e=.returned (.bool true)/\RowKit.Below W.heap.size W W':=by
 cases hq:ui fns prims f args [] with
 | none=>rw [hq] at h; cases h
 | some v =>
  rw [hq,AC] at h
  obtain ⟨m,hm⟩:=wO hq
  have hm:=hm m (Nat.le_refl _)
  have e:v=[.bool true]:=by
   match v,h with
   | [a],h =>
    have h:Kd.of .bool a=some true:=h
    unfold Kd.of Kd.ofCells at h
    cases a<;>simp [AV.cells,Kd.dec,AV.fits] at h<;>first | rw [h] | skip
  subst e
  exact zm ht hp hm ha hlt htab
def ACD (f:Nat):List (Nat×BI)->Option BI
 | []=>none
 | (g,a)::r=>if g=f then some a else ACD f r
inductive yu (P:Program):List (Nat×BI)->Prop where
 | nil:yu P []
 | cons {f:Nat} {a:BI} {r:List (Nat×BI)} (h:At P f a=true) (t:yu P r):yu P ((f,a)::r)
theorem zq {P:Program} {tab:List (Nat×BI)} (h:yu P tab):AAu P fun f=>ACD f tab:=by
 intro f a hf
 induction h with
 | nil=>cases hf
 | cons h _ ih =>
  simp only [ACD] at hf
  split at hf
  ·rename_i e
   cases hf
   rw [<- e]
   exact h
  ·exact ih hf
end Go.Proofs.YtfcgblnlopemkaaGreat.Core

namespace Go.Proofs.YtfcgblnlopemkaaGreat.Core
open Go IntKind
set_option maxRecDepth 100000
noncomputable section
abbrev Kd.W:Kd:=.int .i64
abbrev Kd.S:Kd:=.slice .W
abbrev qT:Array UInt8:=#[0,1,2,2,3,3,3,3,4,4,4,4,4,4,4,4,5,5,5,5,5,5,5,5,5,5,5,5,5,5,5,5,6,6,6,6,6,6,6,6,6,6,6,6,6,6,6,6,6,6,6,6,6,6,6,6,6,6,6,6,6,6,6,6,7,7,7,7,7,7,7,7,7,7,7,7,7,7,7,7,7,7,7,7,7,7,7,7,7,7,7,7,7,7,7,7,7,7,7,7,7,7,7,7,7,7,7,7,7,7,7,7,7,7,7,7,7,7,7,7,7,7,7,7,7,7,7,7,8,8,8,8,8,8,8,8,8,8,8,8,8,8,8,8,8,8,8,8,8,8,8,8,8,8,8,8,8,8,8,8,8,8,8,8,8,8,8,8,8,8,8,8,8,8,8,8,8,8,8,8,8,8,8,8,8,8,8,8,8,8,8,8,8,8,8,8,8,8,8,8,8,8,8,8,8,8,8,8,8,8,8,8,8,8,8,8,8,8,8,8,8,8,8,8,8,8,8,8,8,8,8,8,8,8,8,8,8,8,8,8,8,8,8,8,8,8,8,8,8,8,8,8,8,8,8,8]
abbrev AO:Kd:=(.pair .W (.pair .W (.pair .W (.pair .W (.pair .str .str)))))
abbrev AQ:Type:=Int×Int×Int×Int×ByteArray×ByteArray
abbrev AG:Kd:=(.pair .str (.pair .str .W))
abbrev AA:Type:=ByteArray×ByteArray×Int
abbrev Gk:Kd:=(.pair .W (.pair .W (.pair .W (.pair AG .S))))
abbrev jq:Type:=Int×Int×Int×AA×List Int
abbrev AB:Kd:=(.pair .W (.pair .W (.pair .bool (.pair .bool (.pair .bool (.pair .bool (.pair .S (.pair (.slice AG) (.pair .W Gk)))))))))
abbrev Z:Type:=Int×Int×Bool×Bool×Bool×Bool×List Int×List AA×Int×Int×Int×Int×AA×List Int
abbrev AI:Kd:=(.pair .W (.pair .W (.pair .W (.pair .W (.pair .W (.slice AG))))))
abbrev AD:Type:=Int×Int×Int×Int×Int×List AA
abbrev Ag:Kd:=(.pair .W (.pair .str (.pair .str (.pair .W (.pair .W (.pair .W (.pair .W (.pair .W .str))))))))
abbrev AP:Type:=Int×ByteArray×ByteArray×Int×Int×Int×Int×Int×ByteArray
abbrev Ao:Kd:=(.pair (.slice .S) (.pair (.slice AB) (.pair (.slice AI) (.slice Ag))))
abbrev AL:Type:=List (List Int)×List Z×List AD×List AP
abbrev xv:Kd:=(.pair .W (.pair .W (.pair .W (.pair AG (.own 3 .W)))))
abbrev Ai:Kd:=(.pair .W (.pair .W (.pair .bool (.pair .bool (.pair .bool (.pair .bool (.pair (.own 3 .W) (.pair (.own 70 AG) (.pair .W xv)))))))))
abbrev Bb:Kd:=(.pair .W (.pair .W (.pair .W (.pair .W (.pair .W (.own 70 AG))))))
abbrev C_:Kd:=(.pair (.own 31 (.own 3 .W)) (.pair (.own 74 Ai) (.pair (.own 90 Bb) (.own 88 Ag))))
abbrev Az:Kd:=(.pair (.slice .S) (.pair (.own 74 AB) (.pair (.own 90 AI) (.own 88 Ag))))
abbrev BD:Kd:=(.pair .W (.pair .W (.pair .W AG)))
abbrev AM:Type:=Int×Int×Int×ByteArray×ByteArray×Int
abbrev FA:Kd:=(.pair (.slice .S) (.pair (.own 74 AB) (.pair (.slice AI) (.slice Ag))))
def qU:Nat×List PK×List Kd:=(4,[.bor (.slice .S),.val .W],[.W])
def nL:Nat×List PK×List Kd:=(5,[.bor (.slice AO),.val .W],[.W])
def nM:Nat×List PK×List Kd:=(6,[.val (.slice .S),.val (.slice AO)],[Ao,.S,.bool])
def RH:Nat×List PK×List Kd:=(7,[.val (.slice .S)],[(.slice .S)])
def PY:Nat×List PK×List Kd:=(8,[.val (.slice AO)],[(.slice AO)])
def W7:Nat×List PK×List Kd:=(9,[.bor (.slice .S),.bor (.slice AO)],[C_,(.own 3 .W),.bool])
def RI:Nat×List PK×List Kd:=(10,[.bor Ao,.bor Ao],[.bool])
def IJ:Nat×List PK×List Kd:=(11,[.bor .S,.bor .S],[.bool])
def Y6:Nat×List PK×List Kd:=(12,[.bor (.slice .S),.bor (.slice .S)],[.bool])
def nN:Nat×List PK×List Kd:=(13,[.bor (.slice AO),.bor (.slice AO)],[.bool])
def Us:Nat×List PK×List Kd:=(14,[.mut (.own 31 (.own 3 .W)),.val .W],[.W])
def f9:Nat×List PK×List Kd:=(15,[.mut (.own 51 AO),.val .W],[.W])
def jr:Nat×List PK×List Kd:=(16,[.mut C_,.val .W],[.W])
def Kn:Nat×List PK×List Kd:=(17,[.mut (.own 3 .W),.val .W],[.W])
def Ut:Nat×List PK×List Kd:=(18,[.bor Ao,.val .W],[.W])
def H_:Nat×List PK×List Kd:=(19,[.bor .S,.val .W],[.W])
def sf:Nat×List PK×List Kd:=(20,[.bor .S,.val .W],[.W])
def qV:Nat×List PK×List Kd:=(21,[.val AO,.val .W],[.W])
def nO:Nat×List PK×List Kd:=(22,[.val (.slice .S)],[Ao,.bool])
def qW:Nat×List PK×List Kd:=(23,[.val AO],[.bool])
def uj:Nat×List PK×List Kd:=(24,[.ptr Ao,.val .W,.val AO],[.W])
def qX:Nat×List PK×List Kd:=(25,[.val Ao],[Ao])
def cN:Nat×List PK×List Kd:=(26,[.bor .S],[(.own 3 .W)])
def Y7:Nat×List PK×List Kd:=(27,[.val AO],[AO])
def nP:Nat×List PK×List Kd:=(28,[.val (.slice .S)],[Az,.bool])
def qY:Nat×List PK×List Kd:=(29,[.val AO],[.bool])
def dB:Nat×List PK×List Kd:=(30,[.ptr Az,.val AO,.val .W],[.bool])
def sg:Nat×List PK×List Kd:=(31,[.val .bool],[.W])
def jt:Nat×List PK×List Kd:=(32,[.bor Ao],[C_])
def ju:Nat×List PK×List Kd:=(33,[.bor (.slice AB),.bor (.slice AB)],[.bool])
def sh:Nat×List PK×List Kd:=(34,[.bor (.slice AI),.bor (.slice AI)],[.bool])
def qZ:Nat×List PK×List Kd:=(35,[.bor (.slice Ag),.bor (.slice Ag)],[.bool])
def qa:Nat×List PK×List Kd:=(36,[.val AO,.val AO],[.bool])
def BN:Nat×List PK×List Kd:=(37,[.val .W],[.str])
def dC:Nat×List PK×List Kd:=(38,[.mut (.own 74 Ai),.val .W],[.W])
def nQ:Nat×List PK×List Kd:=(39,[.mut (.own 90 Bb),.val .W],[.W])
def jv:Nat×List PK×List Kd:=(40,[.mut (.own 88 Ag),.val .W],[.W])
def jw:Nat×List PK×List Kd:=(41,[.bor (.slice .S),.val .W],[.W])
def dD:Nat×List PK×List Kd:=(42,[.bor (.slice AB),.val .W],[.W])
def nR:Nat×List PK×List Kd:=(43,[.bor (.slice AI),.val .W],[.W])
def jx:Nat×List PK×List Kd:=(44,[.bor (.slice Ag),.val .W],[.W])
def Iz:Nat×List PK×List Kd:=(45,[.bor (.slice .S)],[.bool])
def Pz:Nat×List PK×List Kd:=(46,[.val (.slice .S)],[(.slice .S)])
def jy:Nat×List PK×List Kd:=(47,[.val .W,.val (.slice .S)],[AB,.bool])
def BE:Nat×List PK×List Kd:=(48,[.val .W,.val .W,.val .W],[.bool])
def nS:Nat×List PK×List Kd:=(49,[.ptr Ao,.val .W,.val AO],[.W])
def nT:Nat×List PK×List Kd:=(50,[.ptr Ao,.val .W,.val .W],[.W])
def JO:Nat×List PK×List Kd:=(51,[.ptr Ao,.val AB,.val (.slice AI),.val (.slice BD),.val .W],[])
def wT:Nat×List PK×List Kd:=(52,[.bor AB],[Ai])
def si:Nat×List PK×List Kd:=(53,[.ptr Ao,.val .W,.val AO],[.W])
def dE:Nat×List PK×List Kd:=(54,[.val (.slice AI)],[(.slice AI)])
def G7:Nat×List PK×List Kd:=(55,[.val AB],[AB])
def I0:Nat×List PK×List Kd:=(56,[.bor (.slice .S)],[.bool])
def jz:Nat×List PK×List Kd:=(57,[.val (.slice .S)],[(.slice .S)])
def j3:Nat×List PK×List Kd:=(58,[.val .W,.val (.slice .S)],[AB,.bool])
def BF:Nat×List PK×List Kd:=(59,[.val .W,.val .W,.val .W],[.bool])
def IK:Nat×List PK×List Kd:=(60,[.val .W],[.bool])
def f_:Nat×List PK×List Kd:=(61,[.val .W,.val .W,.val .str,.val .str],[.bool])
def dF:Nat×List PK×List Kd:=(62,[.ptr Az,.val AO,.val .W],[.bool])
def dG:Nat×List PK×List Kd:=(63,[.ptr Az,.val AO,.val .W],[.bool])
def Gq:Nat×List PK×List Kd:=(64,[.ptr Az,.val .W],[.W])
def wU:Nat×List PK×List Kd:=(65,[.bor AB],[Ai])
def Y8:Nat×List PK×List Kd:=(66,[.ptr Az,.val AO,.val .W],[.bool])
def K_:Nat×List PK×List Kd:=(67,[.bor (.slice Ag)],[(.own 88 Ag)])
def Ib:Nat×List PK×List Kd:=(68,[.val AB],[AB])
def Y9:Nat×List PK×List Kd:=(69,[.val AI],[AI])
def nU:Nat×List PK×List Kd:=(70,[.bor AB,.bor AB],[.bool])
def uk:Nat×List PK×List Kd:=(71,[.bor AI,.bor AI],[.bool])
def sj:Nat×List PK×List Kd:=(72,[.val Ag,.val Ag],[.bool])
def Uu:Nat×List PK×List Kd:=(73,[.mut (.own 70 AG),.val .W],[.W])
def Uv:Nat×List PK×List Kd:=(74,[.bor (.slice AG),.val .W],[.W])
def qb:Nat×List PK×List Kd:=(75,[.bor .S],[.bool])
def Hd:Nat×List PK×List Kd:=(76,[.bor .S,.val .W],[.bool])
def ul:Nat×List PK×List Kd:=(77,[.val AB,.val (.slice .S),.val .W,.val .W,.val .str,.val .str],[AB,(.slice AI),(.slice BD),.bool])
def um:Nat×List PK×List Kd:=(78,[.val AB,.val (.slice .S),.val .W],[AB,(.slice AI),.bool])
def qc:Nat×List PK×List Kd:=(79,[.val AB,.val (.slice .S),.val AI],[AB,(.slice AI),(.slice BD)])
def MH:Nat×List PK×List Kd:=(80,[.bor .S,.val .W],[.W])
def BX:Nat×List PK×List Kd:=(81,[.bor .S],[(.own 3 .W)])
def GD:Nat×List PK×List Kd:=(82,[.bor .S,.val .W],[.bool])
def gA:Nat×List PK×List Kd:=(83,[.val .str],[.bool])
def uo:Nat×List PK×List Kd:=(84,[.val AB,.val (.slice .S),.val .W,.val .W,.val .str,.val .str],[AB,(.slice AI),(.slice BD),.bool])
def MI:Nat×List PK×List Kd:=(85,[.ptr Az,.val (.slice AI),.val (.slice BD),.val .W],[])
def uq:Nat×List PK×List Kd:=(86,[.val AB,.val (.slice .S),.val .W],[AB,(.slice AI),.bool])
def He:Nat×List PK×List Kd:=(87,[.bor (.slice AB),.val (.clo 88 .W)],[.W])
def Y_:Nat×List PK×List Kd:=(89,[.ptr Az,.val .W,.val .W],[])
def F9:Nat×List PK×List Kd:=(90,[.mov (.own 90 AI),.val .W,.val .W],[(.own 90 AI)])
def Ap:Nat×List PK×List Kd:=(91,[.bor (.slice AG)],[(.own 70 AG)])
def ZA:Nat×List PK×List Kd:=(92,[.bor (.slice AG),.bor (.slice AG)],[.bool])
def sm:Nat×List PK×List Kd:=(93,[.bor Gk,.bor Gk],[.bool])
def PZ:Nat×List PK×List Kd:=(94,[.bor AB],[.bool])
def cO:Nat×List PK×List Kd:=(95,[.bor (.slice AG),.val .str],[AG])
def RJ:Nat×List PK×List Kd:=(96,[.bor (.slice AG),.val AG],[(.own 70 AG)])
def Uw:Nat×List PK×List Kd:=(97,[.val .S,.val .W],[.S])
def Ux:Nat×List PK×List Kd:=(98,[.ptr AB],[(.slice BD)])
def cQ:Nat×List PK×List Kd:=(99,[.ptr AB,.val .S,.val (.slice AG)],[(.slice AI)])
def ur:Nat×List PK×List Kd:=(100,[.bor AI],[.bool])
def sn:Nat×List PK×List Kd:=(101,[.val AB,.val .S,.val AI],[AB,(.slice AI),(.slice BD)])
def ZB:Nat×List PK×List Kd:=(102,[.val AB,.val .W],[AB])
def Ko:Nat×List PK×List Kd:=(103,[.val AB,.val AI,.val .W],[(.slice AI)])
def Pa:Nat×List PK×List Kd:=(104,[.bor AB],[.bool])
def Wc:Nat×List PK×List Kd:=(105,[.ptr AB,.val (.slice .S)],[.bool])
def cR:Nat×List PK×List Kd:=(106,[.bor (.slice AG),.val .str],[AG])
def GO:Nat×List PK×List Kd:=(107,[.ptr AB,.val .S],[.S])
def NN:Nat×List PK×List Kd:=(108,[.mut (.own 3 .W)],[])
def RK:Nat×List PK×List Kd:=(109,[.ptr AB],[(.slice BD)])
def Bm:Nat×List PK×List Kd:=(110,[.ptr AB,.val .S,.val AI],[(.slice AI)])
def MJ:Nat×List PK×List Kd:=(111,[.ptr AB],[])
def MK:Nat×List PK×List Kd:=(112,[.ptr AB,.val .S,.val (.slice AG)],[(.slice AI)])
def qd:Nat×List PK×List Kd:=(113,[.val AB,.val (.slice .S),.val AI],[AB,(.slice AI),(.slice BD)])
def cS:Nat×List PK×List Kd:=(114,[.val AG,.val AG],[.bool])
def cU:Nat×List PK×List Kd:=(115,[.bor .S],[.bool])
def ML:Nat×List PK×List Kd:=(116,[.bor (.slice AG)],[.bool])
def j4:Nat×List PK×List Kd:=(117,[.bor Gk],[.bool])
def Sm:Nat×List PK×List Kd:=(118,[.val .S,.val .W],[.S])
def RL:Nat×List PK×List Kd:=(119,[.bor .S,.val .W,.val .W],[.bool])
def MM:Nat×List PK×List Kd:=(120,[.bor (.slice AG)],[.bool])
def ZD:Nat×List PK×List Kd:=(121,[.ptr AB],[.bool])
def Ez:Nat×List PK×List Kd:=(122,[.mut (.own 3 .W),.val .W,.val .W,.val .W],[])
def nV:Nat×List PK×List Kd:=(123,[.val (.int .u64)],[.W])
def ZE:Nat×List PK×List Kd:=(124,[.bor (.slice AG),.val AG],[(.own 70 AG)])
def ut:Nat×List PK×List Kd:=(125,[.bor AI],[.bool])
def dH:Nat×List PK×List Kd:=(126,[.ptr AB,.val (.slice .S),.val AI],[(.slice AI),(.slice BD)])
def L6:Nat×List PK×List Kd:=(127,[.mut (.own 3 .W),.val .W,.val .W],[])
def Pb:Nat×List PK×List Kd:=(128,[.mut (.own 3 .W),.val .W,.val .W],[])
def L7:Nat×List PK×List Kd:=(129,[.mut (.own 3 .W),.val .W,.val .W],[])
def NM:Nat×List PK×List Kd:=(130,[.mut (.own 3 .W),.val .W,.val .W],[.W,.W])
def MN:Nat×List PK×List Kd:=(131,[.mut (.own 3 .W),.val .W,.val .W],[])
def IP:Nat×List PK×List Kd:=(132,[.mut (.own 3 .W),.val .W,.val .W],[.bool])
def ZF:Nat×List PK×List Kd:=(133,[.val .W,.val .W],[.bool])
def LA:Nat×List PK×List Kd:=(134,[.mut (.own 3 .W),.val .W,.val .W,.val .W],[.W])
def Ow:Nat×List PK×List Kd:=(135,[.mut (.own 3 .W),.val .W,.val .W,.val .W],[.W,.bool])
def gC:Nat×List PK×List Kd:=(136,[.val (.int .u32)],[.W])
def gD:Nat×List PK×List Kd:=(137,[.val (.int .u64)],[.W])
def E0:Nat×List PK×List Kd:=(138,[.bor (.slice AG),.val .str,.val (.fun 139)],[.W,.bool])
def gE:Nat×List PK×List Kd:=(140,[.val .str,.val .str],[.W])
def KW:Nat×List PK×List Kd:=(141,[.mov (.own 70 AG),.val .W,.mov (.own 70 AG)],[(.own 70 AG)])
def dI:Nat×List PK×List Kd:=(142,[.ptr AB,.val (.slice .S),.val AI],[(.slice AI)])
def YT:Nat×List PK×List Kd:=(143,[.ptr AB,.val .S,.val AI],[(.slice AI)])
def ZG:Nat×List PK×List Kd:=(144,[.val .S,.val .W],[.S])
def bJ:Nat×List PK×List Kd:=(145,[.ptr AB,.val AI],[(.slice AI)])
def Ox:Nat×List PK×List Kd:=(146,[.ptr AB,.val .W,.val AI],[(.slice BD)])
def W8:Nat×List PK×List Kd:=(152,[.val .W],[.bool])
def Qp:Nat×List PK×List Kd:=(156,[.mov (.own 3 .W),.val (.clo 157 .W)],[(.own 3 .W)])
def j5:Nat×List PK×List Kd:=(2000007,[.bor (.slice .S)],[(.own 31 (.own 3 .W))])
def gF:Nat×List PK×List Kd:=(2000008,[.bor (.slice AO)],[(.own 51 AO)])
def dJ:Nat×List PK×List Kd:=(2000057,[.bor (.slice .S)],[(.own 31 (.own 3 .W))])
def bK:Nat×List PK×List Kd:=(2000068,[.bor AB],[Ai])
def j6:Nat×List PK×List Kd:=(2000069,[.bor AI],[Bb])
abbrev SU {A0 ρ:Type} (t W:A0->Option ρ):Prop:=∀ {a0 r},t a0=some r->W a0=some r
abbrev JF {A0 A1 ρ:Type} (t W:A0->A1->Option ρ):Prop:=∀ {a0 a1 r},t a0 a1=some r->W a0 a1=some r
abbrev Jl {A0 A1 A2 ρ:Type} (t W:A0->A1->A2->Option ρ):Prop:=∀ {a0 a1 a2 r},t a0 a1 a2=some r->W a0 a1 a2=some r
abbrev so {A0 A1 A2 A3 ρ:Type} (t W:A0->A1->A2->A3->Option ρ):Prop:=∀ {a0 a1 a2 a3 r},t a0 a1 a2 a3=some r->W a0 a1 a2 a3=some r
abbrev xw {A0 A1 A2 A3 A4 ρ:Type} (t W:A0->A1->A2->A3->A4->Option ρ):Prop:=∀ {a0 a1 a2 a3 a4 r},t a0 a1 a2 a3 a4=some r->W a0 a1 a2 a3 a4=some r
abbrev zr {A0 A1 A2 A3 A4 A5 ρ:Type} (t W:A0->A1->A2->A3->A4->A5->Option ρ):Prop:=∀ {a0 a1 a2 a3 a4 a5 r},t a0 a1 a2 a3 a4 a5=some r->W a0 a1 a2 a3 a4 a5=some r
abbrev Le7 {A0 A1 A2 A3 A4 A5 A6 ρ:Type} (t W:A0->A1->A2->A3->A4->A5->A6->Option ρ):Prop:=∀ {a0 a1 a2 a3 a4 a5 a6 r},t a0 a1 a2 a3 a4 a5 a6=some r->W a0 a1 a2 a3 a4 a5 a6=some r
abbrev Le8 {A0 A1 A2 A3 A4 A5 A6 A7 ρ:Type} (t W:A0->A1->A2->A3->A4->A5->A6->A7->Option ρ):Prop:=∀ {a0 a1 a2 a3 a4 a5 a6 a7 r},t a0 a1 a2 a3 a4 a5 a6 a7=some r->W a0 a1 a2 a3 a4 a5 a6 a7=some r
abbrev Le9 {A0 A1 A2 A3 A4 A5 A6 A7 A8 ρ:Type} (t W:A0->A1->A2->A3->A4->A5->A6->A7->A8->Option ρ):Prop:=∀ {a0 a1 a2 a3 a4 a5 a6 a7 a8 r},t a0 a1 a2 a3 a4 a5 a6 a7 a8=some r->W a0 a1 a2 a3 a4 a5 a6 a7 a8=some r
abbrev zt {A0 A1 A2 A3 A4 A5 A6 A7 A8 A9 ρ:Type} (t W:A0->A1->A2->A3->A4->A5->A6->A7->A8->A9->Option ρ):Prop:=∀ {a0 a1 a2 a3 a4 a5 a6 a7 a8 a9 r},t a0 a1 a2 a3 a4 a5 a6 a7 a8 a9=some r->W a0 a1 a2 a3 a4 a5 a6 a7 a8 a9=some r
abbrev ADZ {A0 A1 A2 A3 A4 A5 A6 A7 A8 A9 A10 ρ:Type} (t W:A0->A1->A2->A3->A4->A5->A6->A7->A8->A9->A10->Option ρ):Prop:=∀ {a0 a1 a2 a3 a4 a5 a6 a7 a8 a9 a10 r},t a0 a1 a2 a3 a4 a5 a6 a7 a8 a9 a10=some r->W a0 a1 a2 a3 a4 a5 a6 a7 a8 a9 a10=some r
abbrev ADm {A0 A1 A2 A3 A4 A5 A6 A7 A8 A9 A10 A11 ρ:Type} (t W:A0->A1->A2->A3->A4->A5->A6->A7->A8->A9->A10->A11->Option ρ):Prop:=∀ {a0 a1 a2 a3 a4 a5 a6 a7 a8 a9 a10 a11 r},t a0 a1 a2 a3 a4 a5 a6 a7 a8 a9 a10 a11=some r->W a0 a1 a2 a3 a4 a5 a6 a7 a8 a9 a10 a11=some r
abbrev AC_ {A0 A1 A2 A3 A4 A5 A6 A7 A8 A9 A10 A11 A12 ρ:Type} (t W:A0->A1->A2->A3->A4->A5->A6->A7->A8->A9->A10->A11->A12->Option ρ):Prop:=∀ {a0 a1 a2 a3 a4 a5 a6 a7 a8 a9 a10 a11 a12 r},t a0 a1 a2 a3 a4 a5 a6 a7 a8 a9 a10 a11 a12=some r->W a0 a1 a2 a3 a4 a5 a6 a7 a8 a9 a10 a11 a12=some r
abbrev ADa {A0 A1 A2 A3 A4 A5 A6 A7 A8 A9 A10 A11 A12 A13 ρ:Type} (t W:A0->A1->A2->A3->A4->A5->A6->A7->A8->A9->A10->A11->A12->A13->Option ρ):Prop:=∀ {a0 a1 a2 a3 a4 a5 a6 a7 a8 a9 a10 a11 a12 a13 r},t a0 a1 a2 a3 a4 a5 a6 a7 a8 a9 a10 a11 a12 a13=some r->W a0 a1 a2 a3 a4 a5 a6 a7 a8 a9 a10 a11 a12 a13=some r
abbrev ADA {A0 A1 A2 A3 A4 A5 A6 A7 A8 A9 A10 A11 A12 A13 A14 ρ:Type} (t W:A0->A1->A2->A3->A4->A5->A6->A7->A8->A9->A10->A11->A12->A13->A14->Option ρ):Prop:=∀ {a0 a1 a2 a3 a4 a5 a6 a7 a8 a9 a10 a11 a12 a13 a14 r},t a0 a1 a2 a3 a4 a5 a6 a7 a8 a9 a10 a11 a12 a13 a14=some r->W a0 a1 a2 a3 a4 a5 a6 a7 a8 a9 a10 a11 a12 a13 a14=some r
abbrev ADn {A0 A1 A2 A3 A4 A5 A6 A7 A8 A9 A10 A11 A12 A13 A14 A15 A16 ρ:Type} (t W:A0->A1->A2->A3->A4->A5->A6->A7->A8->A9->A10->A11->A12->A13->A14->A15->A16->Option ρ):Prop:=∀ {a0 a1 a2 a3 a4 a5 a6 a7 a8 a9 a10 a11 a12 a13 a14 a15 a16 r},t a0 a1 a2 a3 a4 a5 a6 a7 a8 a9 a10 a11 a12 a13 a14 a15 a16=some r->W a0 a1 a2 a3 a4 a5 a6 a7 a8 a9 a10 a11 a12 a13 a14 a15 a16=some r
instance (n:Nat):OfNat CQ n:=⟨.t n⟩
abbrev CQ.F:CQ:=.c (.bool false)
abbrev CQ.V:CQ:=.c (.bool true)
abbrev CQ.z:CQ:=.c .nil
abbrev AH.R (a:List Ey) (b:List Nat) (c:AH):AH:=.seq (.region a b) c
abbrev AH.r (a:List Ey) (b:List Nat):AH:=.region a b
abbrev AH.s (a b:AH):AH:=.seq a b
abbrev AH.q (c:CQ) (a b:AH):AH:=.cond c a b
abbrev AH.Q (c:CQ) (a:AH):AH:=.cond c a .skip
abbrev AH.k:AH:=.skip
abbrev AH.e:AH:=.ret
abbrev AH.D (n:Nat) (l:List (Nat×List Nat)) (t:DT) (v:List Nat):AH:=.draw (cls n l) t v
abbrev AH.b (n:Nat) (l:List Nat) (c:AH):AH:=.block n l c
abbrev DT.O (i:Nat) (a:Ey) (e:Bool) (fl:List (Nat×Ey)) (r:DT):DT:=.only i none a e fl r
abbrev DT.z:DT:=.done

def Jm:AH:=(.R [.mv 16 (.i 1)] [11,12,15,16] (.R [.ls 143 11 4,.m 144 16,.cl 145 [143,144] Ut,.m 16 145] [12,15,16] (.s (.R [.m 146 16,.bin 147 .lss 146 (.i 0)] [12,15,16,147] (.cond 147 (.R [.mv 4 .F] [4] .e) .k)) (.R [.m 148 12,.m 149 16,.cl 150 [148,149] H_,.m 16 150] [15,16] (.s (.R [.m 151 16,.bin 152 .lss 151 (.i 0)] [15,16,152] (.cond 152 (.R [.mv 4 .F] [4] .e) .k)) (.s (.R [.m 153 16,.m 154 15,.b 155 .neq 153 154] [155] (.cond 155 (.R [.mv 4 .F] [4] .e) .k)) (.R [.mv 4 .V] [4] .e)))))))
def Jn:AH:=(.s (.R [.ls 128 17 4,.ls 129 6 4,.cl 130 [128,129] RI,.un 131 .not 130,.m 132 131,.sc 132 false [.m 133 18,.m 134 7,.cl 135 [133,134] IJ,.un 136 .not 135] 137 .V 136,.m 138 137,.sc 138 false [.m 139 19,.m 140 8,.eqs 141 true .bool 139 140] 142 .V 141] [11,12,15,142] (.cond 142 (.R [.mv 4 .F] [4] .e) .k)) Jm)
def Jo:AH:=(.R [.mv 15 (.i 1)] [0,1,6,7,8,11,12,15] (.R [.ls 100 11 4,.m 101 15,.cl 102 [100,101] jr,.m 15 102] [0,1,6,7,8,11,12,15] (.R [.m 103 12,.m 104 15,.cl 105 [103,104] Kn,.m 15 105] [0,1,6,7,8,11,12,15] (.R [.mv 16 (.i 1)] [0,1,6,7,8,11,12,15,16] (.R [.ls 106 11 4,.m 107 16,.cl 108 [106,107] Ut,.m 16 108] [0,1,6,7,8,11,12,15,16] (.s (.R [.m 109 16,.bin 110 .lss 109 (.i 0)] [0,1,6,7,8,11,12,15,16,110] (.cond 110 (.R [.mv 4 .F] [4] .e) .k)) (.R [.m 111 12,.m 112 16,.cl 113 [111,112] H_,.m 16 113] [0,1,6,7,8,11,12,15,16] (.s (.R [.m 114 16,.bin 115 .lss 114 (.i 0)] [0,1,6,7,8,11,12,15,16,115] (.cond 115 (.R [.mv 4 .F] [4] .e) .k)) (.s (.R [.m 116 16,.m 117 15,.b 118 .neq 116 117] [0,1,6,7,8,11,12,15,118] (.cond 118 (.R [.mv 4 .F] [4] .e) .k)) (.R [.m 120 0,.cl 121 [120] RH,.m 122 1,.cl 123 [122] PY,.cl 124 [121,123] W7,.m 119 124,.ext 125 119 0,.ext 126 119 1,.ext 127 119 2,.al 17 C_,.store 17 125 4 false,.m 18 126,.m 19 127] [6,7,8,11,12,15,17,18,19] Jn))))))))))
def Jp:AH:=(.s (.R [.m 65 9,.m 66 0,.cl 67 [66] RH,.cl 68 [65,67] Y6,.un 69 .not 68] [0,1,6,7,8,9,10,11,12,13,69] (.cond 69 (.R [.mv 4 .F] [4] .e) .k)) (.s (.R [.m 70 10,.m 71 1,.cl 72 [71] PY,.cl 73 [70,72] nN,.un 74 .not 73] [0,1,6,7,8,9,10,11,12,13,74] (.cond 74 (.R [.mv 4 .F] [4] .e) .k)) (.R [.mv 14 (.i 1)] [0,1,6,7,8,9,10,11,12,13,14] (.R [.m 75 9,.m 76 14,.cl 77 [75,76] Us,.m 14 77] [0,1,6,7,8,10,11,12,13,14] (.R [.m 78 10,.m 79 14,.cl 80 [78,79] f9,.m 14 80] [0,1,6,7,8,11,12,13,14] (.s (.R [.m 81 14,.bin 82 .lss 81 (.i 0),.m 83 82,.sc 83 false [.ls 84 11 4,.ls 85 6 4,.cl 86 [84,85] RI,.un 87 .not 86] 88 .V 87,.m 89 88,.sc 89 false [.m 90 12,.m 91 7,.cl 92 [90,91] IJ,.un 93 .not 92] 94 .V 93,.m 95 94,.sc 95 false [.m 96 13,.m 97 8,.eqs 98 true .bool 96 97] 99 .V 98] [0,1,6,7,8,11,12,99] (.cond 99 (.R [.mv 4 .F] [4] .e) .k)) Jo))))))
def Jq:AH:=(.R [.m 39 0,.cl 40 [39] j5,.m 9 40] [0,1,6,7,8,9] (.R [.m 41 1,.cl 42 [41] gF,.m 10 42] [0,1,6,7,8,9,10] (.R [.m 44 9,.m 45 10,.cl 46 [44,45] W7,.m 43 46,.ext 47 43 0,.ext 48 43 1,.ext 49 43 2,.al 11 C_,.store 11 47 4 false,.m 12 48,.m 13 49] [0,1,6,7,8,9,10,11,12,13] (.s (.R [.ls 50 11 4,.ls 51 6 4,.cl 52 [50,51] RI,.un 53 .not 52,.m 54 53,.sc 54 false [.m 55 12,.m 56 7,.cl 57 [55,56] IJ,.un 58 .not 57] 59 .V 58,.m 60 59,.sc 60 false [.m 61 13,.m 62 8,.eqs 63 true .bool 61 62] 64 .V 63] [0,1,6,7,8,9,10,11,12,13,64] (.cond 64 (.R [.mv 4 .F] [4] .e) .k)) Jp))))
def An:BI:=⟨[.val (.slice .S),.val (.slice AO)],[⟨4,false,.bool⟩],(.R [.mv 4 .F] [0,1] (.R [.mv 5 (.i 1048576)] [0,1,5] (.R [.m 20 0,.m 21 5,.cl 22 [20,21] qU,.m 5 22] [0,1,5] (.s (.R [.m 23 5,.bin 24 .lss 23 (.i 0)] [0,1,5,24] (.cond 24 (.R [.mv 4 .V] [4] .e) .k)) (.R [.m 25 1,.m 26 5,.cl 27 [25,26] nL,.m 5 27] [0,1,5] (.s (.R [.m 28 5,.bin 29 .lss 28 (.i 0)] [0,1,29] (.cond 29 (.R [.mv 4 .V] [4] .e) .k)) (.R [.m 31 0,.cl 32 [31] RH,.m 33 1,.cl 34 [33] PY,.cl 35 [32,34] nM,.m 30 35,.ext 36 30 0,.ext 37 30 1,.ext 38 30 2,.al 6 Ao,.store 6 36 4 false,.m 7 37,.m 8 38] [0,1,6,7,8] Jq)))))))⟩
theorem Wd:At Tryz.prog 3 An=true:=by kernel_rfl
def Uy:AH:=(.s (.R [.m 12 5,.m 13 0,.len 14 false 13,.b 15 .lss 12 14] [0,1,5,15] (.cond 15 .k (.exit 0))) (.s (.b 1 [0,1,5] (.R [.m 18 0,.m 19 5,.idx 20 1 18 19,.l 21 20,.m 22 1,.cl 23 [21,22] sf,.m 1 23] [0,1,5] (.R [.m 24 1,.bin 25 .lss 24 (.i 0)] [0,1,5,25] (.cond 25 (.R [.mv 4 (.c (.int .i64 (-1)))] [4] .e) .k)))) (.r [.m 16 5,.bin 17 .add 16 (.i 1),.m 5 17] [0,1,5])))
def Uz:AH:=(.R [.m 26 1,.m 4 26] [4] .e)
def EK:BI:=⟨[.val (.slice .S),.val .W],[⟨4,false,.W⟩],(.R [.mv 4 (.i 0)] [0,1] (.R [.m 6 1,.m 7 0,.len 8 false 7,.b 9 .sub 6 8,.m 1 9] [0,1] (.s (.R [.m 10 1,.bin 11 .lss 10 (.i 0)] [0,1,11] (.cond 11 (.R [.mv 4 (.c (.int .i64 (-1)))] [4] .e) .k)) (.s (.R [.mv 5 (.i 0)] [0,1,5] (.b 0 [1] (.loop [0,1,5] Uy))) Uz))))⟩
theorem qe:At Tryz.prog 4 EK=true:=by kernel_rfl
def Sn:AH:=(.s (.R [.m 12 5,.m 13 0,.len 14 false 13,.b 15 .lss 12 14] [0,1,5,15] (.cond 15 .k (.exit 0))) (.s (.b 1 [0,1,5] (.R [.m 18 0,.m 19 5,.idx 20 6 18 19,.ls 21 20 6,.m 22 1,.cl 23 [21,22] qV,.m 1 23] [0,1,5] (.R [.m 24 1,.bin 25 .lss 24 (.i 0)] [0,1,5,25] (.cond 25 (.R [.mv 4 (.c (.int .i64 (-1)))] [4] .e) .k)))) (.r [.m 16 5,.bin 17 .add 16 (.i 1),.m 5 17] [0,1,5])))
def So:AH:=(.R [.m 26 1,.m 4 26] [4] .e)
def Di:BI:=⟨[.val (.slice AO),.val .W],[⟨4,false,.W⟩],(.R [.mv 4 (.i 0)] [0,1] (.R [.m 6 1,.m 7 0,.len 8 false 7,.b 9 .sub 6 8,.m 1 9] [0,1] (.s (.R [.m 10 1,.bin 11 .lss 10 (.i 0)] [0,1,11] (.cond 11 (.R [.mv 4 (.c (.int .i64 (-1)))] [4] .e) .k)) (.s (.R [.mv 5 (.i 0)] [0,1,5] (.b 0 [1] (.loop [0,1,5] Sn))) So))))⟩
theorem nW:At Tryz.prog 5 Di=true:=by kernel_rfl
def Sp:AH:=(.s (.b 1 [1,4,7,8,9] (.r [.m 26 1,.len 27 false 26,.bin 28 .leq 27 (.i 70),.m 29 28,.sc 29 true [.m 30 1,.m 31 9,.idx 32 6 30 31,.ls 33 32 6,.cl 34 [33] qW] 35 34 .F,.m 8 35] [1,4,7,8,9])) (.r [.m 24 9,.bin 25 .add 24 (.i 1),.m 9 25] [1,4,7,8,9]))
def Sq:AH:=(.s (.R [.m 17 9,.m 18 1,.len 19 false 18,.b 20 .lss 17 19,.m 21 20,.sc 21 true [.m 22 8] 23 22 .F] [1,4,7,8,9,23] (.cond 23 .k (.exit 0))) Sp)
def Sr:AH:=(.s (.R [.m 41 11,.m 42 1,.len 43 false 42,.b 44 .lss 41 43] [1,4,7,10,11,44] (.cond 44 .k (.exit 2))) (.s (.b 3 [1,4,7,10,11] (.r [.m 47 10,.m 48 11,.m 49 1,.m 50 11,.idx 51 6 49 50,.ls 52 51 6,.cl 53 [7,48,52] uj,.blst 54 .W [53],.app 55 3 .W 47 54,.m 10 55] [1,4,7,10,11])) (.r [.m 45 11,.bin 46 .add 45 (.i 1),.m 11 46] [1,4,7,10,11])))
def RM:AH:=(.R [.ls 56 7 4,.cl 57 [56] qX,.m 58 10,.store 4 57 4 false,.m 5 58,.mv 6 .V] [4,5,6] .e)
def LB:AH:=(.s (.R [.m 36 8,.un 37 .not 36] [1,4,7,37] (.cond 37 (.R [.bu 38 Ao [],.blst 39 .W [],.store 4 38 4 false,.m 5 39,.mv 6 .F] [4,5,6] .e) .k)) (.R [.brow 40 3 .W [],.m 10 40] [1,4,7,10] (.s (.R [.mv 11 (.i 0)] [1,4,7,10,11] (.b 2 [4,7,10] (.loop [1,4,7,10,11] Sr))) RM)))
def BU:BI:=⟨[.val (.slice .S),.val (.slice AO)],[⟨4,true,Ao⟩,⟨5,false,.S⟩,⟨6,false,.bool⟩],(.R [.al 4 Ao,.mv 5 .z,.mv 6 .F] [0,1,4] (.R [.m 13 0,.cl 14 [13] nO,.m 12 14,.ext 15 12 0,.ext 16 12 1,.al 7 Ao,.store 7 15 4 false,.m 8 16] [1,4,7,8] (.s (.R [.mv 9 (.i 0)] [1,4,7,8,9] (.b 0 [1,4,7,8] (.loop [1,4,7,8,9] Sq))) LB)))⟩
theorem nX:At Tryz.prog 6 BU=true:=by kernel_rfl
def U0:AH:=(.s (.R [.m 8 4,.m 9 0,.len 10 false 9,.b 11 .lss 8 10] [0,3,4,11] (.cond 11 .k (.exit 0))) (.s (.b 1 [0,3,4] (.r [.m 14 3,.m 15 4,.m 16 0,.m 17 4,.idx 18 1 16 17,.l 19 18,.cl 20 [19] cN,.idx 21 1 14 15,.store 21 20 1 false] [0,3,4])) (.r [.m 12 4,.bin 13 .add 12 (.i 1),.m 4 13] [0,3,4])))
def U1:AH:=(.R [.m 22 3,.m 2 22] [2] .e)
def EL:BI:=⟨[.val (.slice .S)],[⟨2,false,(.slice .S)⟩],(.R [.mv 2 .z] [0] (.R [.m 5 0,.len 6 false 5,.mk 7 31 .S 6,.m 3 7] [0,3] (.s (.R [.mv 4 (.i 0)] [0,3,4] (.b 0 [3] (.loop [0,3,4] U0))) U1)))⟩
theorem qf:At Tryz.prog 7 EL=true:=by kernel_rfl
def Ss:AH:=(.s (.R [.m 8 4,.m 9 0,.len 10 false 9,.b 11 .lss 8 10] [0,3,4,11] (.cond 11 .k (.exit 0))) (.s (.b 1 [0,3,4] (.r [.m 14 3,.m 15 4,.m 16 0,.m 17 4,.idx 18 6 16 17,.ls 19 18 6,.cl 20 [19] Y7,.idx 21 6 14 15,.store 21 20 6 false] [0,3,4])) (.r [.m 12 4,.bin 13 .add 12 (.i 1),.m 4 13] [0,3,4])))
def Su:AH:=(.R [.m 22 3,.m 2 22] [2] .e)
def Dj:BI:=⟨[.val (.slice AO)],[⟨2,false,(.slice AO)⟩],(.R [.mv 2 .z] [0] (.R [.m 5 0,.len 6 false 5,.mk 7 51 AO 6,.m 3 7] [0,3] (.s (.R [.mv 4 (.i 0)] [0,3,4] (.b 0 [3] (.loop [0,3,4] Ss))) Su)))⟩
theorem nY:At Tryz.prog 8 Dj=true:=by kernel_rfl
def Sv:AH:=(.R [.b 31 .lss 30 29] [1,4,7,28,29,30,31] (.s (.cond 31 .k (.exit 0)) (.s (.b 1 [1,4,7,28,29,30] (.R [.idx 32 6 28 30,.ls 33 32 6,.al 10 AO,.store 10 33 6 false] [1,4,7,10,28,29,30] (.R [.ls 34 10 6,.cl 35 [34] qY,.un 36 .not 35] [1,4,7,28,29,30,36] (.cond 36 (.R [.build 37 [.nil,.nil,.nil,.nil] [],.store 4 37 4 false,.nilrow 5 3 .W,.mv 6 .F] [4,5,6] .e) .k)))) (.r [.bin 38 .add 30 (.i 1),.m 30 38] [1,4,7,28,29,30]))))
def RN:AH:=(.R [.b 42 .lss 41 40] [4,7,11,39,40,41,42] (.s (.cond 42 .k (.exit 2)) (.s (.b 3 [4,7,11,39,40,41] (.R [.m 43 41,.idx 44 6 39 41,.ls 45 44 6,.al 13 AO,.m 12 43,.store 13 45 6 false] [4,7,11,12,13,39,40,41] (.R [.ls 46 13 6,.m 47 12,.cl 48 [7,46,47] dB,.m 14 48] [4,7,11,14,39,40,41] (.r [.m 49 11,.m 50 14,.cl 51 [50] sg,.blst 52 .W [51],.app 53 3 .W 49 52,.m 11 53] [4,7,11,39,40,41])))) (.r [.bin 54 .add 41 (.i 1),.m 41 54] [4,7,11,39,40,41]))))
def RO:AH:=(.R [.ls 55 7 4,.cl 56 [55] jt,.m 57 11,.store 4 56 4 false,.m 5 57,.mv 6 .V] [4,5,6] .e)
def LC:AH:=(.R [.nilrow 11 3 .W] [1,4,7,11] (.s (.R [.m 39 1,.len 40 false 39,.mv 41 (.i 0)] [4,7,11,39,40,41] (.b 2 [4,7,11] (.loop [4,7,11,39,40,41] RN))) RO))
def RP:AH:=(.s (.R [.m 28 1,.len 29 false 28,.mv 30 (.i 0)] [1,4,7,28,29,30] (.b 0 [1,4,7] (.loop [1,4,7,28,29,30] Sv))) LC)
def BO:BI:=⟨[.val (.slice .S),.val (.slice AO)],[⟨4,true,C_⟩,⟨5,false,(.own 3 .W)⟩,⟨6,false,.bool⟩],(.R [.al 4 C_,.nilrow 5 3 .W,.mv 6 .F] [0,1,4] (.R [.m 16 0,.cl 17 [16] nP,.m 15 17,.ext 18 15 0,.ext 19 15 1,.al 7 Az,.store 7 18 4 false,.m 8 19] [1,4,7,8] (.s (.R [.m 20 8,.un 21 .not 20,.m 22 21,.sc 22 false [.m 23 1,.len 24 false 23,.bin 25 .gtr 24 (.i 70)] 26 .V 25] [1,4,7,26] (.cond 26 (.R [.build 27 [.nil,.nil,.nil,.nil] [],.store 4 27 4 false,.nilrow 5 3 .W,.mv 6 .F] [4,5,6] .e) .k)) RP)))⟩
theorem nZ:At Tryz.prog 9 BO=true:=by kernel_rfl
def MO:BI:=⟨[.val Ao,.val Ao],[⟨4,false,.bool⟩],(.R [.box 2 0 false,.box 3 1 false,.mv 4 .F] [2,3] (.s (.R [.f 5 2 0,.l 6 5,.f 7 3 0,.l 8 7,.cl 9 [6,8] Y6,.un 10 .not 9] [2,3,10] (.cond 10 (.R [.mv 4 .F] [4] .e) .k)) (.s (.R [.f 11 2 1,.l 12 11,.f 13 3 1,.l 14 13,.cl 15 [12,14] ju,.un 16 .not 15] [2,3,16] (.cond 16 (.R [.mv 4 .F] [4] .e) .k)) (.s (.R [.f 17 2 2,.l 18 17,.f 19 3 2,.l 20 19,.cl 21 [18,20] sh,.un 22 .not 21] [2,3,22] (.cond 22 (.R [.mv 4 .F] [4] .e) .k)) (.s (.R [.f 23 2 3,.l 24 23,.f 25 3 3,.l 26 25,.cl 27 [24,26] qZ,.un 28 .not 27] [28] (.cond 28 (.R [.mv 4 .F] [4] .e) .k)) (.R [.mv 4 .V] [4] .e))))))⟩
theorem qg:At Tryz.prog 10 MO=true:=by kernel_rfl
def W9:AH:=(.s (.R [.m 11 5,.m 12 0,.len 13 false 12,.b 14 .lss 11 13] [0,1,5,14] (.cond 14 .k (.exit 0))) (.s (.b 1 [0,1,5] (.s (.D 9 [(1,[]),(2,[0,1]),(4,[]),(5,[]),(6,[4,5]),(8,[3,7])] (.tk 9 [.b 25 .neq 20 24,.l 24 23,.idx 23 1 21 22,.m 22 5,.m 21 1,.l 20 19,.idx 19 1 17 18,.m 18 5,.m 17 0] .z) [0,1,5,25]) (.cond 25 (.R [.mv 4 .F] [4] .e) .k))) (.r [.m 15 5,.bin 16 .add 15 (.i 1),.m 5 16] [0,1,5])))
def W_:AH:=(.R [.mv 4 .V] [4] .e)
def FB:BI:=⟨[.val .S,.val .S],[⟨4,false,.bool⟩],(.R [.mv 4 .F] [0,1] (.s (.R [.m 6 0,.len 7 false 6,.m 8 1,.len 9 false 8,.b 10 .neq 7 9] [0,1,10] (.cond 10 (.R [.mv 4 .F] [4] .e) .k)) (.s (.R [.mv 5 (.i 0)] [0,1,5] (.b 0 [] (.loop [0,1,5] W9))) W_)))⟩
theorem sq:At Tryz.prog 11 FB=true:=by kernel_rfl
def U2:AH:=(.s (.R [.m 11 5,.m 12 0,.len 13 false 12,.b 14 .lss 11 13] [0,1,5,14] (.cond 14 .k (.exit 0))) (.s (.b 1 [0,1,5] (.s (.D 10 [(1,[]),(2,[0,1]),(4,[]),(5,[]),(6,[4,5]),(8,[3,7])] (.tk 8 [.l 24 23,.idx 23 1 21 22,.m 22 5,.m 21 1,.l 20 19,.idx 19 1 17 18,.m 18 5,.m 17 0] (.O 8 (.cl 25 [20,24] IJ) false [] (.tk 10 [.un 26 .not 25] .z))) [0,1,5,26]) (.cond 26 (.R [.mv 4 .F] [4] .e) .k))) (.r [.m 15 5,.bin 16 .add 15 (.i 1),.m 5 16] [0,1,5])))
def U3:AH:=(.R [.mv 4 .V] [4] .e)
def EM:BI:=⟨[.val (.slice .S),.val (.slice .S)],[⟨4,false,.bool⟩],(.R [.mv 4 .F] [0,1] (.s (.R [.m 6 0,.len 7 false 6,.m 8 1,.len 9 false 8,.b 10 .neq 7 9] [0,1,10] (.cond 10 (.R [.mv 4 .F] [4] .e) .k)) (.s (.R [.mv 5 (.i 0)] [0,1,5] (.b 0 [] (.loop [0,1,5] U2))) U3)))⟩
theorem qh:At Tryz.prog 12 EM=true:=by kernel_rfl
def Sw:AH:=(.s (.R [.m 11 5,.m 12 0,.len 13 false 12,.b 14 .lss 11 13] [0,1,5,14] (.cond 14 .k (.exit 0))) (.s (.b 1 [0,1,5] (.s (.D 10 [(1,[]),(2,[0,1]),(4,[]),(5,[]),(6,[4,5]),(8,[3,7])] (.tk 8 [.ls 24 23 6,.idx 23 6 21 22,.m 22 5,.m 21 1,.ls 20 19 6,.idx 19 6 17 18,.m 18 5,.m 17 0] (.O 8 (.cl 25 [20,24] qa) false [] (.tk 10 [.un 26 .not 25] .z))) [0,1,5,26]) (.cond 26 (.R [.mv 4 .F] [4] .e) .k))) (.r [.m 15 5,.bin 16 .add 15 (.i 1),.m 5 16] [0,1,5])))
def Sx:AH:=(.R [.mv 4 .V] [4] .e)
def Dk:BI:=⟨[.val (.slice AO),.val (.slice AO)],[⟨4,false,.bool⟩],(.R [.mv 4 .F] [0,1] (.s (.R [.m 6 0,.len 7 false 6,.m 8 1,.len 9 false 8,.b 10 .neq 7 9] [0,1,10] (.cond 10 (.R [.mv 4 .F] [4] .e) .k)) (.s (.R [.mv 5 (.i 0)] [0,1,5] (.b 0 [] (.loop [0,1,5] Sw))) Sx)))⟩
theorem na:At Tryz.prog 13 Dk=true:=by kernel_rfl
def RQ:AH:=(.s (.R [.m 6 5,.m 7 0,.len 8 false 7,.b 9 .lss 6 8] [0,1,5,9] (.cond 9 .k (.exit 0))) (.s (.b 1 [0,1,5] (.r [.m 12 0,.m 13 5,.idx 14 1 12 13,.l 15 14,.m 16 1,.icx 15 false (some 17) [15,16] Kn,.m 1 17] [0,1,5])) (.r [.m 10 5,.bin 11 .add 10 (.i 1),.m 5 11] [0,1,5])))
def RR:AH:=(.R [.m 18 1,.m 4 18] [4] .e)
def DA:BI:=⟨[.mut (.own 31 (.own 3 .W)),.val .W],[⟨4,false,.W⟩],(.R [.mv 4 (.i 0)] [0,1] (.s (.R [.mv 5 (.i 0)] [0,1,5] (.b 0 [1] (.loop [0,1,5] RQ))) RR))⟩
theorem j7:At Tryz.prog 14 DA=true:=by kernel_rfl
def Oy:AH:=(.s (.R [.m 6 5,.m 7 0,.len 8 false 7,.b 9 .lss 6 8] [0,1,5,9] (.cond 9 .k (.exit 0))) (.s (.b 1 [0,1,5] (.R [.m 12 0,.m 13 5,.m 14 1,.idx 15 6 12 13,.f 16 15 0,.store 16 14 1 false] [0,1,5] (.R [.m 17 1,.bin 18 .add 17 (.i 1),.m 1 18] [0,1,5] (.R [.m 19 0,.m 20 5,.m 21 1,.idx 22 6 19 20,.f 23 22 1,.store 23 21 1 false] [0,1,5] (.R [.m 24 1,.bin 25 .add 24 (.i 1),.m 1 25] [0,1,5] (.R [.m 26 0,.m 27 5,.m 28 1,.idx 29 6 26 27,.f 30 29 2,.store 30 28 1 false] [0,1,5] (.R [.m 31 1,.bin 32 .add 31 (.i 1),.m 1 32] [0,1,5] (.R [.m 33 0,.m 34 5,.m 35 1,.idx 36 6 33 34,.f 37 36 3,.store 37 35 1 false] [0,1,5] (.R [.m 38 1,.bin 39 .add 38 (.i 1),.m 1 39] [0,1,5] (.R [.m 40 0,.m 41 5,.m 42 1,.cl 43 [42] BN,.idx 44 6 40 41,.f 45 44 4,.store 45 43 1 false] [0,1,5] (.R [.m 46 1,.bin 47 .add 46 (.i 1),.m 1 47] [0,1,5] (.R [.m 48 0,.m 49 5,.m 50 1,.cl 51 [50] BN,.idx 52 6 48 49,.f 53 52 5,.store 53 51 1 false] [0,1,5] (.r [.m 54 1,.bin 55 .add 54 (.i 1),.m 1 55] [0,1,5]))))))))))))) (.r [.m 10 5,.bin 11 .add 10 (.i 1),.m 5 11] [0,1,5])))
def Oz:AH:=(.R [.m 56 1,.m 4 56] [4] .e)
def Ct:BI:=⟨[.mut (.own 51 AO),.val .W],[⟨4,false,.W⟩],(.R [.mv 4 (.i 0)] [0,1] (.s (.R [.mv 5 (.i 0)] [0,1,5] (.b 0 [1] (.loop [0,1,5] Oy))) Oz))⟩
theorem gG:At Tryz.prog 15 Ct=true:=by kernel_rfl
def JP:BI:=⟨[.mut C_,.val .W],[⟨4,false,.W⟩],(.R [.box 2 0 true,.mv 4 (.i 0)] [1,2] (.R [.f 5 2 0,.l 6 5,.m 7 1,.cl 8 [6,7] Us,.m 1 8] [1,2] (.R [.f 9 2 1,.l 10 9,.m 11 1,.cl 12 [10,11] dC,.m 1 12] [1,2] (.R [.f 13 2 2,.l 14 13,.m 15 1,.cl 16 [14,15] nQ,.m 1 16] [1,2] (.R [.f 17 2 3,.l 18 17,.m 19 1,.cl 20 [18,19] jv,.m 1 20] [1] (.R [.m 21 1,.m 4 21] [4] .e))))))⟩
theorem j8:At Tryz.prog 16 JP=true:=by kernel_rfl
def Sy:AH:=(.s (.R [.m 6 5,.m 7 0,.len 8 false 7,.b 9 .lss 6 8] [0,1,5,9] (.cond 9 .k (.exit 0))) (.s (.b 1 [0,1,5] (.R [.m 12 0,.m 13 5,.m 14 1,.idx 15 1 12 13,.store 15 14 1 false] [0,1,5] (.r [.m 16 1,.bin 17 .add 16 (.i 1),.m 1 17] [0,1,5]))) (.r [.m 10 5,.bin 11 .add 10 (.i 1),.m 5 11] [0,1,5])))
def Sz:AH:=(.R [.m 18 1,.m 4 18] [4] .e)
def Dl:BI:=⟨[.mut (.own 3 .W),.val .W],[⟨4,false,.W⟩],(.R [.mv 4 (.i 0)] [0,1] (.s (.R [.mv 5 (.i 0)] [0,1,5] (.b 0 [1] (.loop [0,1,5] Sy))) Sz))⟩
theorem nb:At Tryz.prog 17 Dl=true:=by kernel_rfl
def JQ:BI:=⟨[.val Ao,.val .W],[⟨4,false,.W⟩],(.R [.box 2 0 false,.mv 4 (.i 0)] [1,2] (.R [.f 5 2 0,.l 6 5,.m 7 1,.cl 8 [6,7] jw,.m 1 8] [1,2] (.s (.R [.m 9 1,.bin 10 .lss 9 (.i 0)] [1,2,10] (.cond 10 (.R [.mv 4 (.c (.int .i64 (-1)))] [4] .e) .k)) (.R [.f 11 2 1,.l 12 11,.m 13 1,.cl 14 [12,13] dD,.m 1 14] [1,2] (.s (.R [.m 15 1,.bin 16 .lss 15 (.i 0)] [1,2,16] (.cond 16 (.R [.mv 4 (.c (.int .i64 (-1)))] [4] .e) .k)) (.R [.f 17 2 2,.l 18 17,.m 19 1,.cl 20 [18,19] nR,.m 1 20] [1,2] (.s (.R [.m 21 1,.bin 22 .lss 21 (.i 0)] [1,2,22] (.cond 22 (.R [.mv 4 (.c (.int .i64 (-1)))] [4] .e) .k)) (.R [.f 23 2 3,.l 24 23,.m 25 1,.cl 26 [24,25] jx,.m 1 26] [1] (.s (.R [.m 27 1,.bin 28 .lss 27 (.i 0)] [1,28] (.cond 28 (.R [.mv 4 (.c (.int .i64 (-1)))] [4] .e) .k)) (.R [.m 29 1,.m 4 29] [4] .e))))))))))⟩
theorem j9:At Tryz.prog 18 JQ=true:=by kernel_rfl
def S0:AH:=(.s (.R [.m 6 5,.m 7 0,.len 8 false 7,.b 9 .lss 6 8] [0,1,5,9] (.cond 9 .k (.exit 0))) (.s (.b 1 [0,1,5] (.s (.R [.m 12 0,.m 13 5,.idx 14 1 12 13,.l 15 14,.m 16 1,.b 17 .neq 15 16] [0,1,5,17] (.cond 17 (.R [.mv 4 (.c (.int .i64 (-1)))] [4] .e) .k)) (.r [.m 18 1,.bin 19 .add 18 (.i 1),.m 1 19] [0,1,5]))) (.r [.m 10 5,.bin 11 .add 10 (.i 1),.m 5 11] [0,1,5])))
def S3:AH:=(.R [.m 20 1,.m 4 20] [4] .e)
def Dm:BI:=⟨[.val .S,.val .W],[⟨4,false,.W⟩],(.R [.mv 4 (.i 0)] [0,1] (.s (.R [.mv 5 (.i 0)] [0,1,5] (.b 0 [1] (.loop [0,1,5] S0))) S3))⟩
theorem nc:At Tryz.prog 19 Dm=true:=by kernel_rfl
def OV:BI:=⟨[.val .S,.val .W],[⟨4,false,.W⟩],(.R [.mv 4 (.i 0)] [0,1] (.R [.m 5 1,.m 6 0,.len 7 false 6,.b 8 .sub 5 7,.m 1 8] [1] (.s (.R [.m 9 1,.bin 10 .lss 9 (.i 0)] [1,10] (.cond 10 (.R [.mv 4 (.c (.int .i64 (-1)))] [4] .e) .k)) (.R [.m 11 1,.m 4 11] [4] .e))))⟩
theorem ss:At Tryz.prog 20 OV=true:=by kernel_rfl
def MP:BI:=⟨[.val AO,.val .W],[⟨4,false,.W⟩],(.R [.box 2 0 false,.mv 4 (.i 0)] [1,2] (.R [.m 5 1,.f 6 2 4,.l 7 6,.len 8 true 7,.b 9 .sub 5 8,.m 1 9] [1,2] (.s (.R [.m 10 1,.bin 11 .lss 10 (.i 0)] [1,2,11] (.cond 11 (.R [.mv 4 (.c (.int .i64 (-1)))] [4] .e) .k)) (.R [.m 12 1,.f 13 2 5,.l 14 13,.len 15 true 14,.b 16 .sub 12 15,.m 1 16] [1] (.s (.R [.m 17 1,.bin 18 .lss 17 (.i 0)] [1,18] (.cond 18 (.R [.mv 4 (.c (.int .i64 (-1)))] [4] .e) .k)) (.R [.m 19 1,.m 4 19] [4] .e))))))⟩
theorem qi:At Tryz.prog 21 MP=true:=by kernel_rfl
def S4:AH:=(.s (.R [.m 15 5,.bin 16 .leq 15 (.i 6)] [0,2,4,5,16] (.cond 16 .k (.exit 0))) (.s (.b 1 [0,2,4,5] (.R [.m 20 5,.m 21 0,.cl 22 [20,21] jy,.m 19 22,.ext 23 19 0,.ext 24 19 1,.al 6 AB,.store 6 23 16 false,.m 7 24] [0,2,4,5,6] (.r [.f 25 4 1,.l 26 25,.ls 27 6 16,.blst 28 AB [27],.app 29 74 AB 26 28,.f 30 4 1,.store 30 29 1 false] [0,2,4,5]))) (.r [.m 17 5,.bin 18 .add 17 (.i 1),.m 5 18] [0,2,4,5])))
def S5:AH:=(.R [.ls 31 4 4,.store 2 31 4 false,.mv 3 .V] [2,3] .e)
def Dn:BI:=⟨[.val (.slice .S)],[⟨2,true,Ao⟩,⟨3,false,.bool⟩],(.R [.al 2 FA,.mv 3 .F] [0,2] (.s (.R [.m 8 0,.cl 9 [8] Iz,.un 10 .not 9] [0,2,10] (.cond 10 (.R [.build 11 [.nil,.nil,.nil,.nil] [],.store 2 11 4 false,.mv 3 .F] [2,3] .e) .k)) (.R [.m 12 0,.cl 13 [12] Pz,.build 14 [.nil,.nil,.nil,.nil] [(0,1,13)],.al 4 FA,.store 4 14 4 false] [0,2,4] (.s (.R [.mv 5 (.i 1)] [0,2,4,5] (.b 0 [2,4] (.loop [0,2,4,5] S4))) S5))))⟩
theorem ne:At Tryz.prog 22 Dn=true:=by kernel_rfl
def U4:AH:=(.s (.R [.f 18 1 0,.l 19 18,.bin 20 .neq 19 (.i 1)] [1,20] (.cond 20 (.R [.f 21 1 3,.l 22 21,.bin 23 .eql 22 (.i 0),.m 24 23,.sc 24 true [.f 25 1 4,.l 26 25,.bin 27 .eql 26 (.c (.str ⟨#[]⟩))] 28 27 .F,.m 29 28,.sc 29 true [.f 30 1 5,.l 31 30,.bin 32 .eql 31 (.c (.str ⟨#[]⟩))] 33 32 .F,.m 2 33] [2] .e) .k)) (.R [.f 34 1 3,.l 35 34,.bin 36 .eql 35 (.i 1),.m 37 36,.sc 37 false [.f 38 1 3,.l 39 38,.bin 40 .eql 39 (.i 2)] 41 .V 40,.m 42 41,.sc 42 true [.f 43 1 4,.l 44 43,.len 45 true 44,.cx (some 46) [45,.c (.int .i64 1),.c (.int .i64 12)] BE] 47 46 .F,.m 48 47,.sc 48 true [.f 49 1 5,.l 50 49,.len 51 true 50,.bin 52 .leq 51 (.i 20)] 53 52 .F,.m 54 53,.sc 54 true [.f 55 1 3,.l 56 55,.bin 57 .eql 56 (.i 1),.m 58 57,.sc 58 false [.f 59 1 5,.l 60 59,.bin 61 .eql 60 (.c (.str ⟨#[]⟩))] 62 .V 61] 63 62 .F,.m 2 63] [2] .e))
def G8:BI:=⟨[.val AO],[⟨2,false,.bool⟩],(.R [.box 1 0 false,.mv 2 .F] [1] (.s (.R [.f 3 1 0,.l 4 3,.cx (some 5) [4,.c (.int .i64 1),.c (.int .i64 6)] BE,.un 6 .not 5,.m 7 6,.sc 7 false [.f 8 1 1,.l 9 8,.cx (some 10) [9,.c (.int .i64 1),.c (.int .i64 6)] BE,.un 11 .not 10] 12 .V 11,.m 13 12,.sc 13 false [.f 14 1 2,.l 15 14,.bin 16 .lss 15 (.i 0)] 17 .V 16] [1,17] (.cond 17 (.R [.mv 2 .F] [2] .e) .k)) U4))⟩
theorem qj:At Tryz.prog 23 G8=true:=by kernel_rfl
def Qq:BI:=⟨[.ptr Ao,.val .W,.val AO],[⟨6,false,.W⟩],(.R [.box 5 2 false,.mv 6 (.i 0)] [0,1,5] (.s (.R [.f 7 5 0,.l 8 7] [0,1,5,8] (.b 0 [0,1,5] (.R [.bin 10 .eql 8 (.i 1),.m 9 10] [0,1,5,8,9] (.cond 9 (.R [.m 11 0,.m 12 1,.ls 13 5 6,.cl 14 [11,12,13] nS,.m 6 14] [6] .e) (.R [.bin 16 .eql 8 (.i 5),.m 15 16] [0,1,5,8,15] (.cond 15 (.R [.m 17 0,.m 18 1,.f 19 5 1,.l 20 19,.cl 21 [17,18,20] nT,.m 6 21] [6] .e) (.R [.bin 23 .eql 8 (.i 6),.m 22 23] [0,1,5,22] (.cond 22 (.s (.D 15 [(1,[]),(5,[]),(8,[4,7]),(11,[]),(12,[]),(13,[]),(14,[0,10,11,12,13])] (.tk 10 [.ls 33 32 16,.idx 32 16 28 31,.bin 31 .sub 30 (.i 1),.l 30 29,.f 29 5 1,.l 28 27,.f 27 26 1,.n 26 25,.m 25 0,.m 24 0] (.tk 14 [.m 37 1] (.O 10 (.cl 34 [33] wT) false [(11,.brow 35 90 AI []),(12,.brow 36 104 BD [])] (.O 11 (.brow 35 90 AI []) true [(12,.brow 36 104 BD [])] (.O 12 (.brow 36 104 BD []) true [] (.O 14 (.cl 38 [24,34,35,36,37] JO) false [] .z)))))) []) (.R [.mv 6 (.i 0)] [6] .e)) .k)))))))) (.R [.m 39 0,.m 40 1,.ls 41 5 6,.cl 42 [39,40,41] si,.m 6 42] [6] .e)))⟩
theorem uu:At Tryz.prog 24 Qq=true:=by kernel_rfl
def U5:AH:=(.s (.R [.m 16 4,.f 17 1 1,.l 18 17,.len 19 false 18,.b 20 .lss 16 19] [1,2,3,4,20] (.cond 20 .k (.exit 0))) (.s (.b 1 [1,2,3,4] (.D 12 [(2,[]),(4,[]),(5,[3,4]),(9,[1,8])] (.tk 7 [.ls 29 28 16,.idx 28 16 26 27,.m 27 4,.l 26 25,.f 25 1 1,.l 24 23,.f 23 3 1] (.O 7 (.cl 30 [29] G7) false [] (.O 8 (.blst 31 AB [30]) false [] (.O 9 (.app 32 74 AB 24 31) false [] (.tk 11 [.f 33 3 1] (.O 11 (.store 33 32 1 false) false [] .z)))))) [1,2,3,4])) (.r [.m 21 4,.bin 22 .add 21 (.i 1),.m 4 22] [1,2,3,4])))
def U6:AH:=(.R [.ls 34 3 4,.store 2 34 4 false] [2] .e)
def EN:BI:=⟨[.val Ao],[⟨2,true,Ao⟩],(.R [.box 1 0 true,.al 2 FA] [1,2] (.s (.D 13 [(3,[]),(5,[2,4]),(6,[]),(7,[]),(9,[5,6,8]),(11,[]),(12,[10,11])] (.tk 2 [.l 6 5,.f 5 1 0] (.tk 5 [.l 9 8,.f 8 1 2] (.tk 9 [.l 13 12,.f 12 1 3] (.O 2 (.cl 7 [6] Pz) false [(6,.brow 11 88 Ag []),(11,.al 3 FA)] (.O 5 (.cl 10 [9] dE) false [(6,.brow 11 88 Ag []),(11,.al 3 FA)] (.O 6 (.brow 11 88 Ag []) true [(11,.al 3 FA)] (.O 9 (.app 14 88 Ag 11 13) false [(11,.al 3 FA)] (.tk 11 [.build 15 [.nil,.nil,.nil,.nil] [(0,1,7),(2,1,10),(3,1,14)]] (.O 11 (.al 3 FA) true [] (.O 12 (.store 3 15 4 false) false [] .z)))))))))) [1,2,3]) (.s (.R [.mv 4 (.i 0)] [1,2,3,4] (.b 0 [2,3] (.loop [1,2,3,4] U5))) U6)))⟩
theorem qk:At Tryz.prog 25 EN=true:=by kernel_rfl
def XA:AH:=(.s (.R [.m 8 4,.m 9 0,.len 10 false 9,.b 11 .lss 8 10] [0,3,4,11] (.cond 11 .k (.exit 0))) (.s (.b 1 [0,3,4] (.r [.m 14 3,.m 15 4,.m 16 0,.m 17 4,.idx 18 1 16 17,.l 19 18,.idx 20 1 14 15,.store 20 19 1 false] [0,3,4])) (.r [.m 12 4,.bin 13 .add 12 (.i 1),.m 4 13] [0,3,4])))
def XB:AH:=(.R [.m 21 3,.m 2 21] [2] .e)
def FC:BI:=⟨[.val .S],[⟨2,false,(.own 3 .W)⟩],(.R [.mv 2 .z] [0] (.R [.m 5 0,.len 6 false 5,.mk 7 3 .W 6,.m 3 7] [0,3] (.s (.R [.mv 4 (.i 0)] [0,3,4] (.b 0 [3] (.loop [0,3,4] XA))) XB)))⟩
theorem su:At Tryz.prog 26 FC=true:=by kernel_rfl
def MQ:BI:=⟨[.val AO],[⟨2,true,AO⟩],(.R [.box 1 0 false,.al 2 AO] [1,2] (.R [.al 3 AO] [1,2,3] (.R [.f 4 1 0,.l 5 4,.f 6 3 0,.store 6 5 1 false] [1,2,3] (.R [.f 7 1 1,.l 8 7,.f 9 3 1,.store 9 8 1 false] [1,2,3] (.R [.f 10 1 2,.l 11 10,.f 12 3 2,.store 12 11 1 false] [1,2,3] (.R [.f 13 1 3,.l 14 13,.f 15 3 3,.store 15 14 1 false] [1,2,3] (.R [.f 16 1 4,.l 17 16,.f 18 3 4,.store 18 17 1 false] [1,2,3] (.R [.f 19 1 5,.l 20 19,.f 21 3 5,.store 21 20 1 false] [2,3] (.R [.ls 22 3 6,.store 2 22 6 false] [2] .e)))))))))⟩
theorem ql:At Tryz.prog 27 MQ=true:=by kernel_rfl
def S6:AH:=(.s (.R [.m 15 5,.bin 16 .leq 15 (.i 6)] [0,2,4,5,16] (.cond 16 .k (.exit 0))) (.s (.b 1 [0,2,4,5] (.R [.m 20 5,.m 21 0,.cl 22 [20,21] j3,.m 19 22,.ext 23 19 0,.ext 24 19 1,.al 6 AB,.store 6 23 16 false,.m 7 24] [0,2,4,5,6] (.r [.f 25 4 1,.l 26 25,.ls 27 6 16,.blst 28 AB [27],.app 29 74 AB 26 28,.f 30 4 1,.store 30 29 1 false] [0,2,4,5]))) (.r [.m 17 5,.bin 18 .add 17 (.i 1),.m 5 18] [0,2,4,5])))
def S7:AH:=(.R [.ls 31 4 4,.store 2 31 4 false,.mv 3 .V] [2,3] .e)
def Do:BI:=⟨[.val (.slice .S)],[⟨2,true,Az⟩,⟨3,false,.bool⟩],(.R [.al 2 Az,.mv 3 .F] [0,2] (.s (.R [.m 8 0,.cl 9 [8] I0,.un 10 .not 9] [0,2,10] (.cond 10 (.R [.build 11 [.nil,.nil,.nil,.nil] [],.store 2 11 4 false,.mv 3 .F] [2,3] .e) .k)) (.R [.m 12 0,.cl 13 [12] jz,.build 14 [.nil,.nil,.nil,.nil] [(0,1,13)],.al 4 Az,.store 4 14 4 false] [0,2,4] (.s (.R [.mv 5 (.i 1)] [0,2,4,5] (.b 0 [2,4] (.loop [0,2,4,5] S6))) S7))))⟩
theorem ng:At Tryz.prog 28 Do=true:=by kernel_rfl
def U7:AH:=(.s (.R [.f 18 1 0,.l 19 18,.bin 20 .eql 19 (.i 1)] [1,20] (.cond 20 (.R [.f 21 1 3,.l 22 21,.f 23 1 4,.l 24 23,.f 25 1 5,.l 26 25,.cx (some 27) [22,.c (.int .i64 0),24,26] f_,.m 2 27] [2] .e) .k)) (.R [.f 28 1 3,.l 29 28,.bin 30 .eql 29 (.i 0),.m 31 30,.sc 31 true [.f 32 1 4,.l 33 32,.bin 34 .eql 33 (.c (.str ⟨#[]⟩))] 35 34 .F,.m 36 35,.sc 36 true [.f 37 1 5,.l 38 37,.bin 39 .eql 38 (.c (.str ⟨#[]⟩))] 40 39 .F,.m 2 40] [2] .e))
def G9:BI:=⟨[.val AO],[⟨2,false,.bool⟩],(.R [.box 1 0 false,.mv 2 .F] [1] (.s (.R [.f 3 1 0,.l 4 3,.cx (some 5) [4,.c (.int .i64 1),.c (.int .i64 6)] BF,.un 6 .not 5,.m 7 6,.sc 7 false [.f 8 1 1,.l 9 8,.cl 10 [9] IK,.un 11 .not 10] 12 .V 11,.m 13 12,.sc 13 false [.f 14 1 2,.l 15 14,.bin 16 .lss 15 (.i 0)] 17 .V 16] [1,17] (.cond 17 (.R [.mv 2 .F] [2] .e) .k)) U7))⟩
theorem qm:At Tryz.prog 29 G9=true:=by kernel_rfl
def Hf:BI:=⟨[.ptr Az,.val AO,.val .W],[⟨6,false,.bool⟩],(.R [.box 4 1 false,.mv 6 .F] [0,2,4] (.s (.R [.f 8 4 0,.l 9 8] [0,2,4,9] (.b 0 [0,2,4] (.R [.bin 11 .eql 9 (.i 1),.m 10 11] [0,2,4,9,10] (.cond 10 (.R [.m 12 0,.ls 13 4 6,.m 14 2,.cl 15 [12,13,14] dF,.m 6 15] [6] .e) (.R [.bin 17 .eql 9 (.i 5),.m 16 17] [0,2,4,9,16] (.cond 16 (.R [.m 18 0,.ls 19 4 6,.m 20 2,.cl 21 [18,19,20] dG,.m 6 21] [6] .e) (.R [.bin 23 .eql 9 (.i 6),.m 22 23] [0,2,4,22] (.cond 22 (.R [.m 24 0,.f 25 4 1,.l 26 25,.cl 27 [24,26] Gq,.m 7 27] [0,7] (.s (.D 15 [(4,[]),(5,[]),(9,[]),(10,[8,9]),(13,[3,4,12])] (.tk 12 [.ls 39 38 16,.idx 38 16 36 37,.m 37 7,.l 36 35,.f 35 34 1,.n 34 33,.m 33 0,.m 32 7,.l 31 30,.f 30 29 1,.n 29 28,.m 28 0] (.O 12 (.cl 40 [39] wU) false [] (.tk 14 [.idx 41 16 31 32] (.O 14 (.store 41 40 16 false) false [] .z)))) []) (.R [.mv 6 .V] [6] .e))) .k)))))))) (.R [.m 42 0,.ls 43 4 6,.m 44 2,.cl 45 [42,43,44] Y8,.m 6 45] [6] .e)))⟩
theorem dL:At Tryz.prog 30 Hf=true:=by kernel_rfl
def OW:BI:=⟨[.val .bool],[⟨2,false,.W⟩],(.R [.mv 2 (.i 0)] [0] (.s (.R [.m 3 0] [3] (.cond 3 (.R [.mv 2 (.i 0)] [2] .e) .k)) (.R [.mv 2 (.i 1)] [2] .e)))⟩
theorem sw:At Tryz.prog 31 OW=true:=by kernel_rfl
def RS:AH:=(.R [.b 19 .lss 18 17] [1,2,3,16,17,18,19] (.s (.cond 19 .k (.exit 0)) (.s (.b 1 [1,2,3,16,17,18] (.R [.idx 20 16 16 18,.ls 21 20 16,.al 5 AB,.store 5 21 16 false] [1,2,3,5,16,17,18] (.D 8 [(2,[]),(5,[1,4])] (.tk 3 [.ls 24 5 16,.l 23 22,.f 22 3 1] (.O 3 (.cl 25 [24] bK) false [] (.O 4 (.brow 26 74 Ai [25]) false [] (.O 5 (.app 27 74 Ai 23 26) false [] (.tk 7 [.f 28 3 1] (.O 7 (.store 28 27 1 false) false [] .z)))))) [1,2,3,16,17,18]))) (.r [.bin 29 .add 18 (.i 1),.m 18 29] [1,2,3,16,17,18]))))
def P0:AH:=(.R [.b 34 .lss 33 32] [2,3,31,32,33,34] (.s (.cond 34 .k (.exit 2)) (.s (.b 3 [2,3,31,32,33] (.R [.idx 35 6 31 33,.ls 36 35 6,.al 7 AI,.store 7 36 6 false] [2,3,7,31,32,33] (.D 8 [(2,[]),(5,[1,4])] (.tk 3 [.ls 39 7 6,.l 38 37,.f 37 3 2] (.O 3 (.cl 40 [39] j6) false [] (.O 4 (.brow 41 90 Bb [40]) false [] (.O 5 (.app 42 90 Bb 38 41) false [] (.tk 7 [.f 43 3 2] (.O 7 (.store 43 42 1 false) false [] .z)))))) [2,3,31,32,33]))) (.r [.bin 44 .add 33 (.i 1),.m 33 44] [2,3,31,32,33]))))
def P1:AH:=(.R [.ls 45 3 4,.store 2 45 4 false] [2] .e)
def KC:AH:=(.s (.R [.f 30 1 2,.l 31 30,.len 32 false 31,.mv 33 (.i 0)] [2,3,31,32,33] (.b 2 [2,3] (.loop [2,3,31,32,33] P0))) P1)
def BT:BI:=⟨[.val Ao],[⟨2,true,C_⟩],(.R [.box 1 0 true,.al 2 C_] [1,2] (.s (.D 9 [(3,[]),(5,[2,4]),(7,[]),(8,[6,7])] (.tk 2 [.l 9 8,.f 8 1 0] (.tk 5 [.l 12 11,.f 11 1 3] (.O 2 (.cl 10 [9] dJ) false [(7,.al 3 C_)] (.O 5 (.cl 13 [12] K_) false [(7,.al 3 C_)] (.tk 7 [.build 14 [.nil,.nil,.nil,.nil] [(0,1,10),(3,1,13)]] (.O 7 (.al 3 C_) true [] (.O 8 (.store 3 14 4 false) false [] .z))))))) [1,2,3]) (.s (.R [.f 15 1 1,.l 16 15,.len 17 false 16,.mv 18 (.i 0)] [1,2,3,16,17,18] (.b 0 [1,2,3] (.loop [1,2,3,16,17,18] RS))) KC)))⟩
theorem j_:At Tryz.prog 32 BT=true:=by kernel_rfl
def RU:AH:=(.s (.R [.m 11 5,.m 12 0,.len 13 false 12,.b 14 .lss 11 13] [0,1,5,14] (.cond 14 .k (.exit 0))) (.s (.b 1 [0,1,5] (.s (.D 10 [(1,[]),(2,[0,1]),(4,[]),(5,[]),(6,[4,5]),(8,[3,7])] (.tk 8 [.ls 24 23 16,.idx 23 16 21 22,.m 22 5,.m 21 1,.ls 20 19 16,.idx 19 16 17 18,.m 18 5,.m 17 0] (.O 8 (.cl 25 [20,24] nU) false [] (.tk 10 [.un 26 .not 25] .z))) [0,1,5,26]) (.cond 26 (.R [.mv 4 .F] [4] .e) .k))) (.r [.m 15 5,.bin 16 .add 15 (.i 1),.m 5 16] [0,1,5])))
def RV:AH:=(.R [.mv 4 .V] [4] .e)
def DB:BI:=⟨[.val (.slice AB),.val (.slice AB)],[⟨4,false,.bool⟩],(.R [.mv 4 .F] [0,1] (.s (.R [.m 6 0,.len 7 false 6,.m 8 1,.len 9 false 8,.b 10 .neq 7 9] [0,1,10] (.cond 10 (.R [.mv 4 .F] [4] .e) .k)) (.s (.R [.mv 5 (.i 0)] [0,1,5] (.b 0 [] (.loop [0,1,5] RU))) RV)))⟩
theorem kA:At Tryz.prog 33 DB=true:=by kernel_rfl
def XC:AH:=(.s (.R [.m 11 5,.m 12 0,.len 13 false 12,.b 14 .lss 11 13] [0,1,5,14] (.cond 14 .k (.exit 0))) (.s (.b 1 [0,1,5] (.s (.D 10 [(1,[]),(2,[0,1]),(4,[]),(5,[]),(6,[4,5]),(8,[3,7])] (.tk 8 [.ls 24 23 6,.idx 23 6 21 22,.m 22 5,.m 21 1,.ls 20 19 6,.idx 19 6 17 18,.m 18 5,.m 17 0] (.O 8 (.cl 25 [20,24] uk) false [] (.tk 10 [.un 26 .not 25] .z))) [0,1,5,26]) (.cond 26 (.R [.mv 4 .F] [4] .e) .k))) (.r [.m 15 5,.bin 16 .add 15 (.i 1),.m 5 16] [0,1,5])))
def XD:AH:=(.R [.mv 4 .V] [4] .e)
def FD:BI:=⟨[.val (.slice AI),.val (.slice AI)],[⟨4,false,.bool⟩],(.R [.mv 4 .F] [0,1] (.s (.R [.m 6 0,.len 7 false 6,.m 8 1,.len 9 false 8,.b 10 .neq 7 9] [0,1,10] (.cond 10 (.R [.mv 4 .F] [4] .e) .k)) (.s (.R [.mv 5 (.i 0)] [0,1,5] (.b 0 [] (.loop [0,1,5] XC))) XD)))⟩
theorem sx:At Tryz.prog 34 FD=true:=by kernel_rfl
def U8:AH:=(.s (.R [.m 11 5,.m 12 0,.len 13 false 12,.b 14 .lss 11 13] [0,1,5,14] (.cond 14 .k (.exit 0))) (.s (.b 1 [0,1,5] (.s (.D 10 [(1,[]),(2,[0,1]),(4,[]),(5,[]),(6,[4,5]),(8,[3,7])] (.tk 8 [.ls 24 23 9,.idx 23 9 21 22,.m 22 5,.m 21 1,.ls 20 19 9,.idx 19 9 17 18,.m 18 5,.m 17 0] (.O 8 (.cl 25 [20,24] sj) false [] (.tk 10 [.un 26 .not 25] .z))) [0,1,5,26]) (.cond 26 (.R [.mv 4 .F] [4] .e) .k))) (.r [.m 15 5,.bin 16 .add 15 (.i 1),.m 5 16] [0,1,5])))
def U9:AH:=(.R [.mv 4 .V] [4] .e)
def EO:BI:=⟨[.val (.slice Ag),.val (.slice Ag)],[⟨4,false,.bool⟩],(.R [.mv 4 .F] [0,1] (.s (.R [.m 6 0,.len 7 false 6,.m 8 1,.len 9 false 8,.b 10 .neq 7 9] [0,1,10] (.cond 10 (.R [.mv 4 .F] [4] .e) .k)) (.s (.R [.mv 5 (.i 0)] [0,1,5] (.b 0 [] (.loop [0,1,5] U8))) U9)))⟩
theorem qn:At Tryz.prog 35 EO=true:=by kernel_rfl
def MR:BI:=⟨[.val AO,.val AO],[⟨4,false,.bool⟩],(.R [.box 2 0 false,.box 3 1 false,.mv 4 .F] [2,3] (.s (.R [.f 5 2 0,.l 6 5,.f 7 3 0,.l 8 7,.b 9 .neq 6 8] [2,3,9] (.cond 9 (.R [.mv 4 .F] [4] .e) .k)) (.s (.R [.f 10 2 1,.l 11 10,.f 12 3 1,.l 13 12,.b 14 .neq 11 13] [2,3,14] (.cond 14 (.R [.mv 4 .F] [4] .e) .k)) (.s (.R [.f 15 2 2,.l 16 15,.f 17 3 2,.l 18 17,.b 19 .neq 16 18] [2,3,19] (.cond 19 (.R [.mv 4 .F] [4] .e) .k)) (.s (.R [.f 20 2 3,.l 21 20,.f 22 3 3,.l 23 22,.b 24 .neq 21 23] [2,3,24] (.cond 24 (.R [.mv 4 .F] [4] .e) .k)) (.s (.R [.f 25 2 4,.l 26 25,.f 27 3 4,.l 28 27,.b 29 .neq 26 28] [2,3,29] (.cond 29 (.R [.mv 4 .F] [4] .e) .k)) (.s (.R [.f 30 2 5,.l 31 30,.f 32 3 5,.l 33 32,.b 34 .neq 31 33] [34] (.cond 34 (.R [.mv 4 .F] [4] .e) .k)) (.R [.mv 4 .V] [4] .e))))))))⟩
theorem qo:At Tryz.prog 36 MR=true:=by kernel_rfl
def S8:AH:=(.s (.R [.m 6 0,.bin 7 .gtr 6 (.i 0)] [0,3,7] (.cond 7 .k (.exit 0))) (.b 1 [0,3] (.R [.m 8 0,.bin 9 .rem 8 (.i 10),.bin 10 .add (.i 48) 9,.cvi 11 .u8 10,.brow 12 5 (.int .u8) [11],.bts 13 12,.m 14 3,.b 15 .add 13 14,.m 3 15] [0,3] (.r [.m 16 0,.bin 17 .quo 16 (.i 10),.m 0 17] [0,3]))))
def S9:AH:=(.R [.m 18 3,.bin 19 .add (.c (.str ⟨#[109]⟩)) 18,.m 2 19] [2] .e)
def Dp:BI:=⟨[.val .W],[⟨2,false,.str⟩],(.R [.mv 2 (.c (.str ⟨#[]⟩))] [0] (.s (.R [.m 4 0,.bin 5 .leq 4 (.i 0)] [0,5] (.cond 5 (.R [.mv 2 (.c (.str ⟨#[109,48]⟩))] [2] .e) .k)) (.R [.mv 3 (.c (.str ⟨#[]⟩))] [0,3] (.s (.b 0 [3] (.loop [0,3] S8)) S9))))⟩
theorem nh:At Tryz.prog 37 Dp=true:=by kernel_rfl
def NO:AH:=(.s (.R [.m 6 5,.m 7 0,.len 8 false 7,.b 9 .lss 6 8] [0,1,5,9] (.cond 9 .k (.exit 0))) (.s (.b 1 [0,1,5] (.R [.m 12 0,.m 13 5,.m 14 1,.idx 15 16 12 13,.f 16 15 0,.store 16 14 1 false] [0,1,5] (.R [.m 17 1,.bin 18 .add 17 (.i 1),.m 1 18] [0,1,5] (.R [.m 19 0,.m 20 5,.m 21 1,.idx 22 16 19 20,.f 23 22 1,.store 23 21 1 false] [0,1,5] (.R [.m 24 1,.bin 25 .add 24 (.i 1),.m 1 25] [0,1,5] (.R [.m 26 0,.m 27 5,.m 28 1,.bin 29 .rem 28 (.i 3),.bin 30 .eql 29 (.i 0),.idx 31 16 26 27,.f 32 31 2,.store 32 30 1 false] [0,1,5] (.R [.m 33 1,.bin 34 .add 33 (.i 1),.m 1 34] [0,1,5] (.R [.m 35 0,.m 36 5,.m 37 1,.bin 38 .rem 37 (.i 3),.bin 39 .eql 38 (.i 0),.idx 40 16 35 36,.f 41 40 3,.store 41 39 1 false] [0,1,5] (.R [.m 42 1,.bin 43 .add 42 (.i 1),.m 1 43] [0,1,5] (.R [.m 44 0,.m 45 5,.m 46 1,.bin 47 .rem 46 (.i 3),.bin 48 .eql 47 (.i 0),.idx 49 16 44 45,.f 50 49 4,.store 50 48 1 false] [0,1,5] (.R [.m 51 1,.bin 52 .add 51 (.i 1),.m 1 52] [0,1,5] (.R [.m 53 0,.m 54 5,.m 55 1,.bin 56 .rem 55 (.i 3),.bin 57 .eql 56 (.i 0),.idx 58 16 53 54,.f 59 58 5,.store 59 57 1 false] [0,1,5] (.R [.m 60 1,.bin 61 .add 60 (.i 1),.m 1 61] [0,1,5] (.R [.m 62 0,.m 63 5,.idx 64 16 62 63,.f 65 64 6,.l 66 65,.m 67 1,.icx 66 false (some 68) [66,67] Kn,.m 1 68] [0,1,5] (.R [.m 69 0,.m 70 5,.idx 71 16 69 70,.f 72 71 7,.l 73 72,.m 74 1,.icx 73 false (some 75) [73,74] Uu,.m 1 75] [0,1,5] (.R [.m 76 0,.m 77 5,.m 78 1,.idx 79 16 76 77,.f 80 79 8,.store 80 78 1 false] [0,1,5] (.R [.m 81 1,.bin 82 .add 81 (.i 1),.m 1 82] [0,1,5] (.R [.m 83 0,.m 84 5,.m 85 1,.idx 86 16 83 84,.f 87 86 9,.f 88 87 0,.store 88 85 1 false] [0,1,5] (.R [.m 89 1,.bin 90 .add 89 (.i 1),.m 1 90] [0,1,5] (.R [.m 91 0,.m 92 5,.m 93 1,.idx 94 16 91 92,.f 95 94 9,.f 96 95 1,.store 96 93 1 false] [0,1,5] (.R [.m 97 1,.bin 98 .add 97 (.i 1),.m 1 98] [0,1,5] (.R [.m 99 0,.m 100 5,.m 101 1,.idx 102 16 99 100,.f 103 102 9,.f 104 103 2,.store 104 101 1 false] [0,1,5] (.R [.m 105 1,.bin 106 .add 105 (.i 1),.m 1 106] [0,1,5] (.R [.m 107 0,.m 108 5,.m 109 1,.cl 110 [109] BN,.idx 111 16 107 108,.f 112 111 9,.f 113 112 3,.f 114 113 0,.store 114 110 1 false] [0,1,5] (.R [.m 115 1,.bin 116 .add 115 (.i 1),.m 1 116] [0,1,5] (.R [.m 117 0,.m 118 5,.m 119 1,.cl 120 [119] BN,.idx 121 16 117 118,.f 122 121 9,.f 123 122 3,.f 124 123 1,.store 124 120 1 false] [0,1,5] (.R [.m 125 1,.bin 126 .add 125 (.i 1),.m 1 126] [0,1,5] (.R [.m 127 0,.m 128 5,.m 129 1,.idx 130 16 127 128,.f 131 130 9,.f 132 131 3,.f 133 132 2,.store 133 129 1 false] [0,1,5] (.R [.m 134 1,.bin 135 .add 134 (.i 1),.m 1 135] [0,1,5] (.r [.m 136 0,.m 137 5,.idx 138 16 136 137,.f 139 138 9,.f 140 139 6,.l 141 140,.m 142 1,.icx 141 false (some 143) [141,142] Kn,.m 1 143] [0,1,5])))))))))))))))))))))))))))))) (.r [.m 10 5,.bin 11 .add 10 (.i 1),.m 5 11] [0,1,5])))
def NP:AH:=(.R [.m 144 1,.m 4 144] [4] .e)
def Cb:BI:=⟨[.mut (.own 74 Ai),.val .W],[⟨4,false,.W⟩],(.R [.mv 4 (.i 0)] [0,1] (.s (.R [.mv 5 (.i 0)] [0,1,5] (.b 0 [1] (.loop [0,1,5] NO))) NP))⟩
theorem dM:At Tryz.prog 38 Cb=true:=by kernel_rfl
def RW:AH:=(.s (.R [.m 6 5,.m 7 0,.len 8 false 7,.b 9 .lss 6 8] [0,1,5,9] (.cond 9 .k (.exit 0))) (.s (.b 1 [0,1,5] (.R [.m 12 0,.m 13 5,.m 14 1,.idx 15 6 12 13,.f 16 15 0,.store 16 14 1 false] [0,1,5] (.R [.m 17 1,.bin 18 .add 17 (.i 1),.m 1 18] [0,1,5] (.R [.m 19 0,.m 20 5,.m 21 1,.idx 22 6 19 20,.f 23 22 1,.store 23 21 1 false] [0,1,5] (.R [.m 24 1,.bin 25 .add 24 (.i 1),.m 1 25] [0,1,5] (.R [.m 26 0,.m 27 5,.m 28 1,.idx 29 6 26 27,.f 30 29 2,.store 30 28 1 false] [0,1,5] (.R [.m 31 1,.bin 32 .add 31 (.i 1),.m 1 32] [0,1,5] (.R [.m 33 0,.m 34 5,.m 35 1,.idx 36 6 33 34,.f 37 36 3,.store 37 35 1 false] [0,1,5] (.R [.m 38 1,.bin 39 .add 38 (.i 1),.m 1 39] [0,1,5] (.R [.m 40 0,.m 41 5,.m 42 1,.idx 43 6 40 41,.f 44 43 4,.store 44 42 1 false] [0,1,5] (.R [.m 45 1,.bin 46 .add 45 (.i 1),.m 1 46] [0,1,5] (.r [.m 47 0,.m 48 5,.idx 49 6 47 48,.f 50 49 5,.l 51 50,.m 52 1,.icx 51 false (some 53) [51,52] Uu,.m 1 53] [0,1,5])))))))))))) (.r [.m 10 5,.bin 11 .add 10 (.i 1),.m 5 11] [0,1,5])))
def RX:AH:=(.R [.m 54 1,.m 4 54] [4] .e)
def Dq:BI:=⟨[.mut (.own 90 Bb),.val .W],[⟨4,false,.W⟩],(.R [.mv 4 (.i 0)] [0,1] (.s (.R [.mv 5 (.i 0)] [0,1,5] (.b 0 [1] (.loop [0,1,5] RW))) RX))⟩
theorem ni:At Tryz.prog 39 Dq=true:=by kernel_rfl

def P2:AH:=(.s (.R [.m 6 5,.m 7 0,.len 8 false 7,.b 9 .lss 6 8] [0,1,5,9] (.cond 9 .k (.exit 0))) (.s (.b 1 [0,1,5] (.R [.m 12 0,.m 13 5,.m 14 1,.idx 15 9 12 13,.f 16 15 0,.store 16 14 1 false] [0,1,5] (.R [.m 17 1,.bin 18 .add 17 (.i 1),.m 1 18] [0,1,5] (.R [.m 19 0,.m 20 5,.m 21 1,.cl 22 [21] BN,.idx 23 9 19 20,.f 24 23 1,.store 24 22 1 false] [0,1,5] (.R [.m 25 1,.bin 26 .add 25 (.i 1),.m 1 26] [0,1,5] (.R [.m 27 0,.m 28 5,.m 29 1,.cl 30 [29] BN,.idx 31 9 27 28,.f 32 31 2,.store 32 30 1 false] [0,1,5] (.R [.m 33 1,.bin 34 .add 33 (.i 1),.m 1 34] [0,1,5] (.R [.m 35 0,.m 36 5,.m 37 1,.idx 38 9 35 36,.f 39 38 3,.store 39 37 1 false] [0,1,5] (.R [.m 40 1,.bin 41 .add 40 (.i 1),.m 1 41] [0,1,5] (.R [.m 42 0,.m 43 5,.m 44 1,.idx 45 9 42 43,.f 46 45 4,.store 46 44 1 false] [0,1,5] (.R [.m 47 1,.bin 48 .add 47 (.i 1),.m 1 48] [0,1,5] (.R [.m 49 0,.m 50 5,.m 51 1,.idx 52 9 49 50,.f 53 52 5,.store 53 51 1 false] [0,1,5] (.R [.m 54 1,.bin 55 .add 54 (.i 1),.m 1 55] [0,1,5] (.R [.m 56 0,.m 57 5,.m 58 1,.idx 59 9 56 57,.f 60 59 6,.store 60 58 1 false] [0,1,5] (.R [.m 61 1,.bin 62 .add 61 (.i 1),.m 1 62] [0,1,5] (.R [.m 63 0,.m 64 5,.m 65 1,.idx 66 9 63 64,.f 67 66 7,.store 67 65 1 false] [0,1,5] (.R [.m 68 1,.bin 69 .add 68 (.i 1),.m 1 69] [0,1,5] (.R [.m 70 0,.m 71 5,.m 72 1,.cl 73 [72] BN,.idx 74 9 70 71,.f 75 74 8,.store 75 73 1 false] [0,1,5] (.r [.m 76 1,.bin 77 .add 76 (.i 1),.m 1 77] [0,1,5]))))))))))))))))))) (.r [.m 10 5,.bin 11 .add 10 (.i 1),.m 5 11] [0,1,5])))
def P3:AH:=(.R [.m 78 1,.m 4 78] [4] .e)
def DC:BI:=⟨[.mut (.own 88 Ag),.val .W],[⟨4,false,.W⟩],(.R [.mv 4 (.i 0)] [0,1] (.s (.R [.mv 5 (.i 0)] [0,1,5] (.b 0 [1] (.loop [0,1,5] P2))) P3))⟩
theorem kC:At Tryz.prog 40 DC=true:=by kernel_rfl
def RY:AH:=(.s (.R [.m 6 5,.m 7 0,.len 8 false 7,.b 9 .lss 6 8] [0,1,5,9] (.cond 9 .k (.exit 0))) (.s (.b 1 [0,1,5] (.R [.m 12 0,.m 13 5,.idx 14 1 12 13,.l 15 14,.m 16 1,.cl 17 [15,16] H_,.m 1 17] [0,1,5] (.R [.m 18 1,.bin 19 .lss 18 (.i 0)] [0,1,5,19] (.cond 19 (.R [.mv 4 (.c (.int .i64 (-1)))] [4] .e) .k)))) (.r [.m 10 5,.bin 11 .add 10 (.i 1),.m 5 11] [0,1,5])))
def RZ:AH:=(.R [.m 20 1,.m 4 20] [4] .e)
def DD:BI:=⟨[.val (.slice .S),.val .W],[⟨4,false,.W⟩],(.R [.mv 4 (.i 0)] [0,1] (.s (.R [.mv 5 (.i 0)] [0,1,5] (.b 0 [1] (.loop [0,1,5] RY))) RZ))⟩
theorem kD:At Tryz.prog 41 DD=true:=by kernel_rfl
def NQ:AH:=(.s (.R [.m 6 5,.m 7 0,.len 8 false 7,.b 9 .lss 6 8] [0,1,5,9] (.cond 9 .k (.exit 0))) (.s (.b 1 [0,1,5] (.s (.R [.m 12 0,.m 13 5,.idx 14 16 12 13,.f 15 14 0,.l 16 15,.m 17 1,.b 18 .neq 16 17] [0,1,5,18] (.cond 18 (.R [.mv 4 (.c (.int .i64 (-1)))] [4] .e) .k)) (.R [.m 19 1,.bin 20 .add 19 (.i 1),.m 1 20] [0,1,5] (.s (.R [.m 21 0,.m 22 5,.idx 23 16 21 22,.f 24 23 1,.l 25 24,.m 26 1,.b 27 .neq 25 26] [0,1,5,27] (.cond 27 (.R [.mv 4 (.c (.int .i64 (-1)))] [4] .e) .k)) (.R [.m 28 1,.bin 29 .add 28 (.i 1),.m 1 29] [0,1,5] (.s (.R [.m 30 0,.m 31 5,.idx 32 16 30 31,.f 33 32 2,.l 34 33,.m 35 1,.bin 36 .rem 35 (.i 3),.bin 37 .eql 36 (.i 0),.eqs 38 true .bool 34 37] [0,1,5,38] (.cond 38 (.R [.mv 4 (.c (.int .i64 (-1)))] [4] .e) .k)) (.R [.m 39 1,.bin 40 .add 39 (.i 1),.m 1 40] [0,1,5] (.s (.R [.m 41 0,.m 42 5,.idx 43 16 41 42,.f 44 43 3,.l 45 44,.m 46 1,.bin 47 .rem 46 (.i 3),.bin 48 .eql 47 (.i 0),.eqs 49 true .bool 45 48] [0,1,5,49] (.cond 49 (.R [.mv 4 (.c (.int .i64 (-1)))] [4] .e) .k)) (.R [.m 50 1,.bin 51 .add 50 (.i 1),.m 1 51] [0,1,5] (.s (.R [.m 52 0,.m 53 5,.idx 54 16 52 53,.f 55 54 4,.l 56 55,.m 57 1,.bin 58 .rem 57 (.i 3),.bin 59 .eql 58 (.i 0),.eqs 60 true .bool 56 59] [0,1,5,60] (.cond 60 (.R [.mv 4 (.c (.int .i64 (-1)))] [4] .e) .k)) (.R [.m 61 1,.bin 62 .add 61 (.i 1),.m 1 62] [0,1,5] (.s (.R [.m 63 0,.m 64 5,.idx 65 16 63 64,.f 66 65 5,.l 67 66,.m 68 1,.bin 69 .rem 68 (.i 3),.bin 70 .eql 69 (.i 0),.eqs 71 true .bool 67 70] [0,1,5,71] (.cond 71 (.R [.mv 4 (.c (.int .i64 (-1)))] [4] .e) .k)) (.R [.m 72 1,.bin 73 .add 72 (.i 1),.m 1 73] [0,1,5] (.R [.m 74 0,.m 75 5,.idx 76 16 74 75,.f 77 76 6,.l 78 77,.m 79 1,.cl 80 [78,79] H_,.m 1 80] [0,1,5] (.s (.R [.m 81 1,.bin 82 .lss 81 (.i 0)] [0,1,5,82] (.cond 82 (.R [.mv 4 (.c (.int .i64 (-1)))] [4] .e) .k)) (.R [.m 83 0,.m 84 5,.idx 85 16 83 84,.f 86 85 7,.l 87 86,.m 88 1,.cl 89 [87,88] Uv,.m 1 89] [0,1,5] (.s (.R [.m 90 1,.bin 91 .lss 90 (.i 0)] [0,1,5,91] (.cond 91 (.R [.mv 4 (.c (.int .i64 (-1)))] [4] .e) .k)) (.s (.R [.m 92 0,.m 93 5,.idx 94 16 92 93,.f 95 94 8,.l 96 95,.m 97 1,.b 98 .neq 96 97] [0,1,5,98] (.cond 98 (.R [.mv 4 (.c (.int .i64 (-1)))] [4] .e) .k)) (.R [.m 99 1,.bin 100 .add 99 (.i 1),.m 1 100] [0,1,5] (.s (.R [.m 101 0,.m 102 5,.idx 103 16 101 102,.f 104 103 9,.f 105 104 0,.l 106 105,.m 107 1,.b 108 .neq 106 107] [0,1,5,108] (.cond 108 (.R [.mv 4 (.c (.int .i64 (-1)))] [4] .e) .k)) (.R [.m 109 1,.bin 110 .add 109 (.i 1),.m 1 110] [0,1,5] (.s (.R [.m 111 0,.m 112 5,.idx 113 16 111 112,.f 114 113 9,.f 115 114 1,.l 116 115,.m 117 1,.b 118 .neq 116 117] [0,1,5,118] (.cond 118 (.R [.mv 4 (.c (.int .i64 (-1)))] [4] .e) .k)) (.R [.m 119 1,.bin 120 .add 119 (.i 1),.m 1 120] [0,1,5] (.s (.R [.m 121 0,.m 122 5,.idx 123 16 121 122,.f 124 123 9,.f 125 124 2,.l 126 125,.m 127 1,.b 128 .neq 126 127] [0,1,5,128] (.cond 128 (.R [.mv 4 (.c (.int .i64 (-1)))] [4] .e) .k)) (.R [.m 129 1,.bin 130 .add 129 (.i 1),.m 1 130] [0,1,5] (.s (.s (.D 10 [(1,[]),(2,[0,1]),(7,[]),(9,[6,8])] (.tk 8 [.m 138 1,.l 137 136,.f 136 135 0,.f 135 134 3,.f 134 133 9,.idx 133 16 131 132,.m 132 5,.m 131 0] (.O 8 (.cl 139 [138] BN) false [] (.tk 10 [.b 140 .neq 137 139] .z))) [0,1,5,140]) (.cond 140 (.R [.mv 4 (.c (.int .i64 (-1)))] [4] .e) .k)) (.R [.m 141 1,.bin 142 .add 141 (.i 1),.m 1 142] [0,1,5] (.s (.s (.D 10 [(1,[]),(2,[0,1]),(7,[]),(9,[6,8])] (.tk 8 [.m 150 1,.l 149 148,.f 148 147 1,.f 147 146 3,.f 146 145 9,.idx 145 16 143 144,.m 144 5,.m 143 0] (.O 8 (.cl 151 [150] BN) false [] (.tk 10 [.b 152 .neq 149 151] .z))) [0,1,5,152]) (.cond 152 (.R [.mv 4 (.c (.int .i64 (-1)))] [4] .e) .k)) (.R [.m 153 1,.bin 154 .add 153 (.i 1),.m 1 154] [0,1,5] (.s (.R [.m 155 0,.m 156 5,.idx 157 16 155 156,.f 158 157 9,.f 159 158 3,.f 160 159 2,.l 161 160,.m 162 1,.b 163 .neq 161 162] [0,1,5,163] (.cond 163 (.R [.mv 4 (.c (.int .i64 (-1)))] [4] .e) .k)) (.R [.m 164 1,.bin 165 .add 164 (.i 1),.m 1 165] [0,1,5] (.R [.m 166 0,.m 167 5,.idx 168 16 166 167,.f 169 168 9,.f 170 169 6,.l 171 170,.m 172 1,.cl 173 [171,172] H_,.m 1 173] [0,1,5] (.R [.m 174 1,.bin 175 .lss 174 (.i 0)] [0,1,5,175] (.cond 175 (.R [.mv 4 (.c (.int .i64 (-1)))] [4] .e) .k)))))))))))))))))))))))))))))))))) (.r [.m 10 5,.bin 11 .add 10 (.i 1),.m 5 11] [0,1,5])))
def NR:AH:=(.R [.m 176 1,.m 4 176] [4] .e)
def Cc:BI:=⟨[.val (.slice AB),.val .W],[⟨4,false,.W⟩],(.R [.mv 4 (.i 0)] [0,1] (.s (.R [.mv 5 (.i 0)] [0,1,5] (.b 0 [1] (.loop [0,1,5] NQ))) NR))⟩
theorem dN:At Tryz.prog 42 Cc=true:=by kernel_rfl
def Ra:AH:=(.s (.R [.m 6 5,.m 7 0,.len 8 false 7,.b 9 .lss 6 8] [0,1,5,9] (.cond 9 .k (.exit 0))) (.s (.b 1 [0,1,5] (.s (.R [.m 12 0,.m 13 5,.idx 14 6 12 13,.f 15 14 0,.l 16 15,.m 17 1,.b 18 .neq 16 17] [0,1,5,18] (.cond 18 (.R [.mv 4 (.c (.int .i64 (-1)))] [4] .e) .k)) (.R [.m 19 1,.bin 20 .add 19 (.i 1),.m 1 20] [0,1,5] (.s (.R [.m 21 0,.m 22 5,.idx 23 6 21 22,.f 24 23 1,.l 25 24,.m 26 1,.b 27 .neq 25 26] [0,1,5,27] (.cond 27 (.R [.mv 4 (.c (.int .i64 (-1)))] [4] .e) .k)) (.R [.m 28 1,.bin 29 .add 28 (.i 1),.m 1 29] [0,1,5] (.s (.R [.m 30 0,.m 31 5,.idx 32 6 30 31,.f 33 32 2,.l 34 33,.m 35 1,.b 36 .neq 34 35] [0,1,5,36] (.cond 36 (.R [.mv 4 (.c (.int .i64 (-1)))] [4] .e) .k)) (.R [.m 37 1,.bin 38 .add 37 (.i 1),.m 1 38] [0,1,5] (.s (.R [.m 39 0,.m 40 5,.idx 41 6 39 40,.f 42 41 3,.l 43 42,.m 44 1,.b 45 .neq 43 44] [0,1,5,45] (.cond 45 (.R [.mv 4 (.c (.int .i64 (-1)))] [4] .e) .k)) (.R [.m 46 1,.bin 47 .add 46 (.i 1),.m 1 47] [0,1,5] (.s (.R [.m 48 0,.m 49 5,.idx 50 6 48 49,.f 51 50 4,.l 52 51,.m 53 1,.b 54 .neq 52 53] [0,1,5,54] (.cond 54 (.R [.mv 4 (.c (.int .i64 (-1)))] [4] .e) .k)) (.R [.m 55 1,.bin 56 .add 55 (.i 1),.m 1 56] [0,1,5] (.R [.m 57 0,.m 58 5,.idx 59 6 57 58,.f 60 59 5,.l 61 60,.m 62 1,.cl 63 [61,62] Uv,.m 1 63] [0,1,5] (.R [.m 64 1,.bin 65 .lss 64 (.i 0)] [0,1,5,65] (.cond 65 (.R [.mv 4 (.c (.int .i64 (-1)))] [4] .e) .k)))))))))))))) (.r [.m 10 5,.bin 11 .add 10 (.i 1),.m 5 11] [0,1,5])))
def Rb:AH:=(.R [.m 66 1,.m 4 66] [4] .e)
def Dr:BI:=⟨[.val (.slice AI),.val .W],[⟨4,false,.W⟩],(.R [.mv 4 (.i 0)] [0,1] (.s (.R [.mv 5 (.i 0)] [0,1,5] (.b 0 [1] (.loop [0,1,5] Ra))) Rb))⟩
theorem nj:At Tryz.prog 43 Dr=true:=by kernel_rfl
def P4:AH:=(.s (.R [.m 6 5,.m 7 0,.len 8 false 7,.b 9 .lss 6 8] [0,1,5,9] (.cond 9 .k (.exit 0))) (.s (.b 1 [0,1,5] (.s (.R [.m 12 0,.m 13 5,.idx 14 9 12 13,.f 15 14 0,.l 16 15,.m 17 1,.b 18 .neq 16 17] [0,1,5,18] (.cond 18 (.R [.mv 4 (.c (.int .i64 (-1)))] [4] .e) .k)) (.R [.m 19 1,.bin 20 .add 19 (.i 1),.m 1 20] [0,1,5] (.s (.s (.D 8 [(1,[]),(2,[0,1]),(5,[]),(7,[4,6])] (.tk 6 [.m 26 1,.l 25 24,.f 24 23 1,.idx 23 9 21 22,.m 22 5,.m 21 0] (.O 6 (.cl 27 [26] BN) false [] (.tk 8 [.b 28 .neq 25 27] .z))) [0,1,5,28]) (.cond 28 (.R [.mv 4 (.c (.int .i64 (-1)))] [4] .e) .k)) (.R [.m 29 1,.bin 30 .add 29 (.i 1),.m 1 30] [0,1,5] (.s (.s (.D 8 [(1,[]),(2,[0,1]),(5,[]),(7,[4,6])] (.tk 6 [.m 36 1,.l 35 34,.f 34 33 2,.idx 33 9 31 32,.m 32 5,.m 31 0] (.O 6 (.cl 37 [36] BN) false [] (.tk 8 [.b 38 .neq 35 37] .z))) [0,1,5,38]) (.cond 38 (.R [.mv 4 (.c (.int .i64 (-1)))] [4] .e) .k)) (.R [.m 39 1,.bin 40 .add 39 (.i 1),.m 1 40] [0,1,5] (.s (.R [.m 41 0,.m 42 5,.idx 43 9 41 42,.f 44 43 3,.l 45 44,.m 46 1,.b 47 .neq 45 46] [0,1,5,47] (.cond 47 (.R [.mv 4 (.c (.int .i64 (-1)))] [4] .e) .k)) (.R [.m 48 1,.bin 49 .add 48 (.i 1),.m 1 49] [0,1,5] (.s (.R [.m 50 0,.m 51 5,.idx 52 9 50 51,.f 53 52 4,.l 54 53,.m 55 1,.b 56 .neq 54 55] [0,1,5,56] (.cond 56 (.R [.mv 4 (.c (.int .i64 (-1)))] [4] .e) .k)) (.R [.m 57 1,.bin 58 .add 57 (.i 1),.m 1 58] [0,1,5] (.s (.R [.m 59 0,.m 60 5,.idx 61 9 59 60,.f 62 61 5,.l 63 62,.m 64 1,.b 65 .neq 63 64] [0,1,5,65] (.cond 65 (.R [.mv 4 (.c (.int .i64 (-1)))] [4] .e) .k)) (.R [.m 66 1,.bin 67 .add 66 (.i 1),.m 1 67] [0,1,5] (.s (.R [.m 68 0,.m 69 5,.idx 70 9 68 69,.f 71 70 6,.l 72 71,.m 73 1,.b 74 .neq 72 73] [0,1,5,74] (.cond 74 (.R [.mv 4 (.c (.int .i64 (-1)))] [4] .e) .k)) (.R [.m 75 1,.bin 76 .add 75 (.i 1),.m 1 76] [0,1,5] (.s (.R [.m 77 0,.m 78 5,.idx 79 9 77 78,.f 80 79 7,.l 81 80,.m 82 1,.b 83 .neq 81 82] [0,1,5,83] (.cond 83 (.R [.mv 4 (.c (.int .i64 (-1)))] [4] .e) .k)) (.R [.m 84 1,.bin 85 .add 84 (.i 1),.m 1 85] [0,1,5] (.s (.s (.D 8 [(1,[]),(2,[0,1]),(5,[]),(7,[4,6])] (.tk 6 [.m 91 1,.l 90 89,.f 89 88 8,.idx 88 9 86 87,.m 87 5,.m 86 0] (.O 6 (.cl 92 [91] BN) false [] (.tk 8 [.b 93 .neq 90 92] .z))) [0,1,5,93]) (.cond 93 (.R [.mv 4 (.c (.int .i64 (-1)))] [4] .e) .k)) (.r [.m 94 1,.bin 95 .add 94 (.i 1),.m 1 95] [0,1,5]))))))))))))))))))) (.r [.m 10 5,.bin 11 .add 10 (.i 1),.m 5 11] [0,1,5])))
def P5:AH:=(.R [.m 96 1,.m 4 96] [4] .e)
def DE:BI:=⟨[.val (.slice Ag),.val .W],[⟨4,false,.W⟩],(.R [.mv 4 (.i 0)] [0,1] (.s (.R [.mv 5 (.i 0)] [0,1,5] (.b 0 [1] (.loop [0,1,5] P4))) P5))⟩
theorem kF:At Tryz.prog 44 DE=true:=by kernel_rfl
def U_:AH:=(.s (.R [.m 4 3,.m 5 0,.len 6 false 5,.b 7 .lss 4 6] [0,3,7] (.cond 7 .k (.exit 0))) (.s (.b 1 [0,3] (.R [.m 10 0,.m 11 3,.idx 12 1 10 11,.l 13 12,.cl 14 [13] qb,.un 15 .not 14] [0,3,15] (.cond 15 (.R [.mv 2 .F] [2] .e) .k))) (.r [.m 8 3,.bin 9 .add 8 (.i 1),.m 3 9] [0,3])))
def VD:AH:=(.R [.m 16 0,.len 17 false 16,.cx (some 18) [17,.c (.int .i64 1),.c (.int .i64 9)] BE,.m 2 18] [2] .e)
def EP:BI:=⟨[.val (.slice .S)],[⟨2,false,.bool⟩],(.R [.mv 2 .F] [0] (.s (.R [.mv 3 (.i 0)] [0,3] (.b 0 [0] (.loop [0,3] U_))) VD))⟩
theorem qp:At Tryz.prog 45 EP=true:=by kernel_rfl
def NS:AH:=(.s (.R [.m 6 4,.m 7 0,.len 8 false 7,.b 9 .lss 6 8] [0,3,4,9] (.cond 9 .k (.exit 0))) (.s (.b 1 [0,3,4] (.r [.m 12 3,.brow 13 3 .W [],.m 14 0,.m 15 4,.idx 16 1 14 15,.l 17 16,.app 18 3 .W 13 17,.blst 19 .S [18],.app 20 31 .S 12 19,.m 3 20] [0,3,4])) (.r [.m 10 4,.bin 11 .add 10 (.i 1),.m 4 11] [0,3,4])))
def NT:AH:=(.R [.m 21 3,.m 2 21] [2] .e)
def CT:BI:=⟨[.val (.slice .S)],[⟨2,false,(.slice .S)⟩],(.R [.mv 2 .z] [0] (.R [.brow 5 31 .S [],.m 3 5] [0,3] (.s (.R [.mv 4 (.i 0)] [0,3,4] (.b 0 [3] (.loop [0,3,4] NS))) NT)))⟩
theorem bL:At Tryz.prog 46 CT=true:=by kernel_rfl
def Rc:AH:=(.R [.m 16 0,.m 17 1,.idx 18 1 17 (.i 0),.l 19 18,.m 20 0,.cl 21 [19,20] Hd,.bu 22 AB [(0,1,16),(1,1,.c (.int .i64 1)),(3,1,21)],.al 6 AB,.store 6 22 16 false] [0,1,4,6] (.R [.m 23 1,.idx 24 1 23 (.i 0),.l 25 24,.idx 26 1 25 (.i 0),.l 27 26,.m 28 0,.b 29 .eql 27 28,.f 30 6 4,.store 30 29 1 false] [4,6] (.R [.f 31 6 4,.l 32 31,.f 33 6 5,.store 33 32 1 false] [4,6] (.R [.ls 34 6 16,.store 4 34 16 false,.mv 5 .V] [4,5] .e))))
def FW:BI:=⟨[.val .W,.val (.slice .S)],[⟨4,true,AB⟩,⟨5,false,.bool⟩],(.R [.al 4 AB,.mv 5 .F] [0,1,4] (.s (.R [.m 7 1,.cl 8 [7] Iz,.un 9 .not 8,.m 10 9,.sc 10 false [.m 11 0,.cx (some 12) [11,.c (.int .i64 1),.c (.int .i64 6)] BE,.un 13 .not 12] 14 .V 13] [0,1,4,14] (.cond 14 (.R [.bu 15 AB [],.store 4 15 16 false,.mv 5 .F] [4,5] .e) .k)) Rc))⟩
theorem kG:At Tryz.prog 47 FW=true:=by kernel_rfl
def Qr:BI:=⟨[.val .W,.val .W,.val .W],[⟨6,false,.bool⟩],(.R [.mv 6 .F] [0,1,2] (.R [.m 7 0,.m 8 1,.b 9 .geq 7 8,.m 10 9,.sc 10 true [.m 11 0,.m 12 2,.b 13 .leq 11 12] 14 13 .F,.m 6 14] [6] .e))⟩
theorem uv:At Tryz.prog 48 Qr=true:=by kernel_rfl
def Kp:BI:=⟨[.ptr Ao,.val .W,.val AO],[⟨6,false,.W⟩],(.R [.box 5 2 false,.mv 6 (.i 0)] [0,1,5] (.s (.D 20 [(1,[]),(2,[]),(6,[1,5]),(7,[]),(9,[]),(11,[]),(13,[]),(14,[8,10,12,13]),(16,[6,15]),(17,[0,16])] (.tk 1 [.m 11 0] (.tk 6 [.l 16 15,.f 15 14 3,.n 14 13,.m 13 0] (.tk 15 [.bu 25 Ag [(0,1,19),(1,1,21),(2,1,23),(3,1,24),(4,1,.c (.int .i64 (-1)))],.m 24 1,.l 23 22,.f 22 5 5,.l 21 20,.f 20 5 4,.l 19 18,.f 18 5 3] (.O 1 (.brow 12 88 Ag []) false [(15,.blst 26 Ag [25])] (.O 6 (.app 17 88 Ag 12 16) false [(15,.blst 26 Ag [25])] (.O 15 (.blst 26 Ag [25]) true [] (.O 16 (.app 27 88 Ag 17 26) false [] (.tk 19 [.f 29 28 3,.n 28 11] (.O 19 (.store 29 27 1 false) false [] .z))))))))) [0,1,5]) (.s (.D 36 [(4,[]),(7,[3,6]),(9,[]),(13,[]),(15,[]),(21,[]),(23,[]),(25,[8,12,14,20,22,24]),(28,[26]),(29,[26]),(30,[26]),(31,[]),(32,[27,31]),(33,[28,32]),(34,[29,33]),(35,[30,34])] (.tk 25 [.l 55 54,.f 54 5 5,.l 53 52,.f 52 5 4,.bin 51 .sub 50 (.i 1),.len 50 false 49,.l 49 48,.f 48 47 3,.n 47 46,.m 46 0,.l 45 44,.f 44 5 3,.l 43 42,.f 42 41 0,.n 41 40,.m 40 0,.ls 39 38 16,.idx 38 16 34 37,.bin 37 .sub 36 (.i 1),.l 36 35,.f 35 5 1,.l 34 33,.f 33 32 1,.n 32 31,.m 31 0] (.O 25 (.cl 56 [39,43,45,51,53,55] ul) false [(31,.al 7 AB)] (.tk 31 [.ext 60 30 3,.ext 59 30 2,.ext 58 30 1,.ext 57 30 0,.m 30 56] (.O 31 (.al 7 AB) true [] (.O 32 (.store 7 57 16 false) false [] (.tk 36 [.m 10 60,.m 9 59,.m 8 58] .z)))))) [0,1,7,8,9,10]) (.s (.R [.m 61 10,.un 62 .not 61] [0,1,7,8,9,62] (.cond 62 (.R [.mv 6 (.i 1)] [6] .e) .k)) (.R [.m 63 0,.ls 64 7 16,.m 65 8,.m 66 9,.m 67 1,.cl 68 [63,64,65,66,67] JO] [] (.R [.mv 6 (.i 0)] [6] .e))))))⟩
theorem nl:At Tryz.prog 49 Kp=true:=by kernel_rfl
def S_:AH:=(.s (.R [.m 23 8,.m 24 0,.n 25 24,.f 26 25 0,.l 27 26,.len 28 false 27,.b 29 .leq 23 28] [0,1,2,7,8,29] (.cond 29 .k (.exit 0))) (.s (.b 1 [0,1,2,7,8] (.s (.R [.m 32 0,.n 33 32,.f 34 33 0,.l 35 34,.m 36 8,.bin 37 .sub 36 (.i 1),.idx 38 1 35 37,.l 39 38,.idx 40 1 39 (.i 0),.l 41 40,.m 42 2,.b 43 .neq 41 42] [0,1,2,7,8,43] (.cond 43 (.exit 1) .k)) (.s (.D 15 [(1,[]),(5,[]),(6,[0,4,5]),(9,[7]),(10,[7]),(11,[]),(12,[8,11]),(13,[9,12]),(14,[10,13])] (.tk 6 [.m 50 8,.l 49 48,.f 48 47 0,.n 47 46,.m 46 0,.ls 45 7 16] (.O 6 (.cl 51 [45,49,50] um) false [(11,.al 9 AB)] (.tk 11 [.ext 54 44 2,.ext 53 44 1,.ext 52 44 0,.m 44 51] (.O 11 (.al 9 AB) true [] (.O 12 (.store 9 52 16 false) false [] (.tk 15 [.m 11 54,.m 10 53] .z)))))) [0,1,9,10,11]) (.s (.R [.m 55 11,.un 56 .not 55] [0,1,9,10,56] (.cond 56 (.R [.mv 6 (.i 1)] [6] .e) .k)) (.R [.m 57 0,.ls 58 9 16,.m 59 10,.brow 60 104 BD [],.m 61 1,.cl 62 [57,58,59,60,61] JO] [] (.R [.mv 6 (.i 0)] [6] .e)))))) (.r [.m 30 8,.bin 31 .add 30 (.i 1),.m 8 31] [0,1,2,7,8])))
def Rd:AH:=(.R [.mv 6 (.i 1)] [6] .e)
def Ds:BI:=⟨[.ptr Ao,.val .W,.val .W],[⟨6,false,.W⟩],(.R [.mv 6 (.i 0)] [0,1,2] (.R [.m 12 0,.n 13 12,.f 14 13 1,.l 15 14,.m 16 2,.bin 17 .sub 16 (.i 1),.idx 18 16 15 17,.ls 19 18 16,.al 7 AB,.store 7 19 16 false] [0,1,2,7] (.s (.R [.f 20 7 1,.l 21 20,.bin 22 .add 21 (.i 1),.m 8 22] [0,1,2,7,8] (.b 0 [] (.loop [0,1,2,7,8] S_))) Rd)))⟩
theorem nn:At Tryz.prog 50 Ds=true:=by kernel_rfl
def P6:AH:=(.R [.brow 72 88 Ag [],.m 73 0,.n 74 73,.f 75 74 3,.l 76 75,.app 77 88 Ag 72 76,.m 13 77] [0,3,4,11,12,13] (.R [.m 78 13,.f 79 12 0,.l 80 79,.idx 81 9 78 80,.m 14 81] [0,3,4,11,12,13,14] (.R [.m 82 14,.m 83 4,.n 84 82,.f 85 84 4,.store 85 83 1 false] [0,3,4,11,12,13,14] (.R [.m 86 14,.f 87 12 3,.f 88 87 2,.l 89 88,.n 90 86,.f 91 90 5,.store 91 89 1 false] [0,3,4,11,12,13,14] (.R [.m 92 14,.f 93 12 1,.l 94 93,.n 95 92,.f 96 95 6,.store 96 94 1 false] [0,3,4,11,12,13,14] (.R [.m 97 14,.f 98 12 2,.l 99 98,.n 100 97,.f 101 100 7,.store 101 99 1 false] [0,3,4,11,12,13,14] (.seqc [0,3,4,11,13] (.R [.m 102 14,.n 103 102,.f 104 103 0,.l 105 104,.bin 106 .eql 105 (.i 2)] [0,3,4,11,12,13,14,106] (.cond 106 (.r [.m 107 14,.f 108 12 3,.f 109 108 1,.l 110 109,.n 111 107,.f 112 111 8,.store 112 110 1 false] [0,3,4,11,13]) .k)) (.r [.m 113 0,.m 114 13,.n 115 113,.f 116 115 3,.store 116 114 1 false] [0,3,4,11]))))))))
def P7:AH:=(.r [.m 46 11,.bin 47 .add 46 (.i 1),.m 11 47] [0,3,4,11])
def P8:AH:=(.s (.R [.m 42 11,.m 43 3,.len 44 false 43,.b 45 .lss 42 44] [0,3,4,11,45] (.cond 45 .k (.exit 0))) (.s (.b 1 [0,3,4,11] (.R [.m 48 3,.m 49 11,.idx 50 6 48 49,.ls 51 50 6,.al 12 BD,.store 12 51 6 false] [0,3,4,11,12] (.s (.s (.D 20 [(2,[]),(7,[1,6]),(13,[8]),(15,[12,14])] (.tk 9 [.m 60 59,.b 59 .geq 53 58,.len 58 false 57,.l 57 56,.f 56 55 3,.n 55 54,.m 54 0,.l 53 52,.f 52 12 0] (.test 60 (.sk 60 false 10 19 71 (.tk 20 [.pick 71 60 .V 70] .z)) (.tg 60 false 19 [.bin 70 .geq 69 (.i 0),.l 69 68,.f 68 67 4,.idx 67 9 64 66,.l 66 65,.f 65 12 0,.l 64 63,.f 63 62 3,.n 62 61,.m 61 0] (.tk 20 [.pick 71 60 .V 70] .z)))) [0,3,4,11,12,71]) (.cond 71 (.exit 1) .k)) P6))) P7))
def Cl:BI:=⟨[.ptr Ao,.val AB,.val (.slice AI),.val (.slice BD),.val .W],[],(.R [.box 6 1 false] [0,2,3,4,6] (.R [.brow 15 74 AB [],.m 16 0,.n 17 16,.f 18 17 1,.l 19 18,.app 20 74 AB 15 19,.m 10 20] [0,2,3,4,6,10] (.R [.m 21 10,.f 22 6 0,.l 23 22,.bin 24 .sub 23 (.i 1),.ls 25 6 16,.idx 26 16 21 24,.store 26 25 16 false] [0,2,3,4,10] (.R [.m 27 0,.m 28 10,.n 29 27,.f 30 29 1,.store 30 28 1 false] [0,2,3,4] (.R [.m 31 0,.brow 32 90 AI [],.m 33 0,.n 34 33,.f 35 34 2,.l 36 35,.app 37 90 AI 32 36,.m 38 2,.app 39 90 AI 37 38,.n 40 31,.f 41 40 2,.store 41 39 1 false] [0,3,4] (.R [.mv 11 (.i 0)] [0,3,4,11] (.b 0 [] (.loop [0,3,4,11] P8))))))))⟩
theorem kH:At Tryz.prog 51 Cl=true:=by kernel_rfl
def TA:BI:=⟨[.val AB],[⟨2,true,Ai⟩],(.R [.box 1 0 true,.al 2 Ai] [1,2] (.R [.f 3 1 0,.l 4 3,.f 5 1 1,.l 6 5,.build 7 [.int .i64 0,.int .i64 0,.bool false,.bool false,.bool false,.bool false,.nil,.nil,.int .i64 0,.int .i64 0,.int .i64 0,.int .i64 0,.str U,.str U,.int .i64 0,.nil] [(0,1,4),(1,1,6),(2,1,.V)],.store 2 7 16 false] [2] .e))⟩
theorem wV:At Tryz.prog 52 TA=true:=by kernel_rfl
def OX:BI:=⟨[.ptr Ao,.val .W,.val AO],[⟨6,false,.W⟩],(.R [.box 5 2 false,.mv 6 (.i 0)] [0,1,5] (.s (.R [.m 12 0,.n 13 12,.f 14 13 2,.l 15 14,.len 16 false 15,.bin 17 .eql 16 (.i 0)] [0,1,5,17] (.cond 17 (.R [.mv 6 (.i 1)] [6] .e) .k)) (.s (.D 9 [(2,[]),(7,[1,6])] (.tk 9 [.m 7 25,.b 25 .rem 19 24,.len 24 false 23,.l 23 22,.f 22 21 2,.n 21 20,.m 20 0,.l 19 18,.f 18 5 2] .z) [0,1,5,7]) (.R [.m 26 0,.n 27 26,.f 28 27 2,.l 29 28,.m 30 7,.idx 31 6 29 30,.ls 32 31 6,.al 8 AI,.store 8 32 6 false] [0,1,5,7,8] (.s (.R [.f 33 5 0,.l 34 33,.bin 35 .eql 34 (.i 4)] [0,1,5,7,8,35] (.cond 35 (.s (.D 13 [(1,[]),(2,[]),(6,[1,5]),(7,[]),(9,[6,8]),(10,[0,9])] (.tk 1 [.m 36 0] (.tk 6 [.l 41 40,.f 40 39 2,.n 39 38,.m 38 0] (.tk 8 [.ls 43 8 6] (.O 1 (.brow 37 90 AI []) false [(8,.blst 44 AI [43])] (.O 6 (.app 42 90 AI 37 41) false [(8,.blst 44 AI [43])] (.O 8 (.blst 44 AI [43]) true [] (.O 9 (.app 45 90 AI 42 44) false [] (.tk 12 [.f 47 46 2,.n 46 36] (.O 12 (.store 47 45 1 false) false [] .z))))))))) []) (.R [.mv 6 (.i 0)] [6] .e)) .k)) (.s (.D 20 [(1,[]),(2,[]),(6,[]),(7,[5,6]),(8,[1,7]),(9,[]),(13,[]),(15,[12,14]),(16,[8,15]),(17,[0,16])] (.tk 1 [.m 48 0] (.tk 8 [.sl 55 6 53 none (some 54),.m 54 7,.l 53 52,.f 52 51 2,.n 51 50,.m 50 0] (.tk 16 [.sl 63 6 60 (some 62) none,.bin 62 .add 61 (.i 1),.m 61 7,.l 60 59,.f 59 58 2,.n 58 57,.m 57 0] (.O 1 (.brow 49 90 AI []) false [] (.O 8 (.app 56 90 AI 49 55) false [] (.O 16 (.app 64 90 AI 56 63) false [] (.tk 19 [.f 66 65 2,.n 65 48] (.O 19 (.store 66 64 1 false) false [] .z)))))))) [0,1,5,8]) (.s (.R [.f 67 5 0,.l 68 67,.bin 69 .eql 68 (.i 3)] [0,1,8,69] (.cond 69 (.R [.mv 6 (.i 0)] [6] .e) .k)) (.s (.D 23 [(4,[]),(7,[3,6]),(9,[]),(13,[]),(14,[8,12,13]),(17,[15]),(18,[15]),(19,[]),(20,[16,19]),(21,[17,20]),(22,[18,21])] (.tk 14 [.ls 84 8 6,.l 83 82,.f 82 81 0,.n 81 80,.m 80 0,.ls 79 78 16,.idx 78 16 74 77,.bin 77 .sub 76 (.i 1),.l 76 75,.f 75 8 2,.l 74 73,.f 73 72 1,.n 72 71,.m 71 0] (.O 14 (.cl 85 [79,83,84] qc) false [(19,.al 9 AB)] (.tk 19 [.ext 88 70 2,.ext 87 70 1,.ext 86 70 0,.m 70 85] (.O 19 (.al 9 AB) true [] (.O 20 (.store 9 86 16 false) false [] (.tk 23 [.m 11 88,.m 10 87] .z)))))) [0,1,9,10,11]) (.R [.m 89 0,.ls 90 9 16,.m 91 10,.m 92 11,.m 93 1,.cl 94 [89,90,91,92,93] JO] [] (.R [.mv 6 (.i 0)] [6] .e))))))))))⟩
theorem sy:At Tryz.prog 53 OX=true:=by kernel_rfl
def O0:AH:=(.s (.R [.m 7 4,.m 8 0,.len 9 false 8,.b 10 .lss 7 9] [0,3,4,10] (.cond 10 .k (.exit 0))) (.s (.b 1 [0,3,4] (.R [.m 13 0,.m 14 4,.idx 15 6 13 14,.ls 16 15 6,.al 5 AI,.store 5 16 6 false] [0,3,4,5] (.R [.brow 17 70 AG [],.f 18 5 5,.l 19 18,.app 20 70 AG 17 19,.f 21 5 5,.store 21 20 1 false] [0,3,4,5] (.r [.m 22 3,.ls 23 5 6,.blst 24 AI [23],.app 25 90 AI 22 24,.m 3 25] [0,3,4])))) (.r [.m 11 4,.bin 12 .add 11 (.i 1),.m 4 12] [0,3,4])))
def O1:AH:=(.R [.m 26 3,.m 2 26] [2] .e)
def Cd:BI:=⟨[.val (.slice AI)],[⟨2,false,(.slice AI)⟩],(.R [.mv 2 .z] [0] (.R [.brow 6 90 AI [],.m 3 6] [0,3] (.s (.R [.mv 4 (.i 0)] [0,3,4] (.b 0 [3] (.loop [0,3,4] O0))) O1)))⟩
theorem dO:At Tryz.prog 54 Cd=true:=by kernel_rfl
def MS:BI:=⟨[.val AB],[⟨2,true,AB⟩],(.R [.box 1 0 false,.al 2 AB] [1,2] (.R [.brow 3 3 .W [],.f 4 1 6,.l 5 4,.app 6 3 .W 3 5,.f 7 1 6,.store 7 6 1 false] [1,2] (.R [.brow 8 70 AG [],.f 9 1 7,.l 10 9,.app 11 70 AG 8 10,.f 12 1 7,.store 12 11 1 false] [1,2] (.R [.brow 13 3 .W [],.f 14 1 9,.f 15 14 6,.l 16 15,.app 17 3 .W 13 16,.f 18 1 9,.f 19 18 6,.store 19 17 1 false] [1,2] (.R [.ls 20 1 16,.store 2 20 16 false] [2] .e)))))⟩
theorem qq:At Tryz.prog 55 MS=true:=by kernel_rfl
def VG:AH:=(.R [.b 16 .lss 15 14] [0,4,7,8,9,13,14,15,16] (.s (.cond 16 .k (.exit 2)) (.s (.b 3 [0,4,7,8,9,13,14,15] (.R [.m 17 15,.idx 18 1 13 15,.l 19 18,.m 5 17,.m 6 19] [0,4,5,6,7,8,9,13,14,15] (.R [.m 20 6,.cl 21 [20] IK,.un 22 .not 21,.m 23 22,.sc 23 false [.m 24 4,.m 25 6,.cl 26 [24,25] MH,.m 27 5,.b 28 .neq 26 27] 29 .V 28] [0,4,7,8,9,13,14,15,29] (.cond 29 (.R [.mv 2 .F] [2] .e) .k)))) (.r [.bin 30 .add 15 (.i 1),.m 15 30] [0,4,7,8,9,13,14,15]))))
def Nz:AH:=(.R [.m 31 4,.len 32 false 31,.cx (some 33) [32,.c (.int .i64 1),.c (.int .i64 4)] BF,.un 34 .not 33] [0,7,8,9,34] (.cond 34 (.R [.mv 2 .F] [2] .e) .k))
def TB:AH:=(.r [.bin 35 .add 9 (.i 1),.m 9 35] [0,7,8,9])
def TC:AH:=(.R [.b 10 .lss 9 8] [0,7,8,9,10] (.s (.cond 10 .k (.exit 0)) (.s (.b 1 [0,7,8,9] (.R [.idx 11 1 7 9,.l 12 11,.m 4 12] [0,4,7,8,9] (.s (.R [.m 13 4,.len 14 false 13,.mv 15 (.i 0)] [0,4,7,8,9,13,14,15] (.b 2 [0,4,7,8,9] (.loop [0,4,7,8,9,13,14,15] VG))) Nz))) TB)))
def TD:AH:=(.R [.m 36 0,.len 37 false 36,.cx (some 38) [37,.c (.int .i64 1),.c (.int .i64 9)] BF,.m 2 38] [2] .e)
def CB:BI:=⟨[.val (.slice .S)],[⟨2,false,.bool⟩],(.R [.mv 2 .F] [0] (.s (.R [.m 7 0,.len 8 false 7,.mv 9 (.i 0)] [0,7,8,9] (.b 0 [0] (.loop [0,7,8,9] TC))) TD))⟩
theorem qr:At Tryz.prog 56 CB=true:=by kernel_rfl
def Re:AH:=(.R [.b 9 .lss 8 7] [3,6,7,8,9] (.s (.cond 9 .k (.exit 0)) (.s (.b 1 [3,6,7,8] (.R [.idx 10 1 6 8,.l 11 10,.m 5 11] [3,5,6,7,8] (.r [.m 12 3,.m 13 5,.cl 14 [13] BX,.blst 15 .S [14],.app 16 31 .S 12 15,.m 3 16] [3,6,7,8]))) (.r [.bin 17 .add 8 (.i 1),.m 8 17] [3,6,7,8]))))
def Rf:AH:=(.R [.m 18 3,.m 2 18] [2] .e)
def DF:BI:=⟨[.val (.slice .S)],[⟨2,false,(.slice .S)⟩],(.R [.mv 2 .z] [0] (.R [.nilrow 3 31 .S] [0,3] (.s (.R [.m 6 0,.len 7 false 6,.mv 8 (.i 0)] [3,6,7,8] (.b 0 [3] (.loop [3,6,7,8] Re))) Rf)))⟩
theorem kI:At Tryz.prog 57 DF=true:=by kernel_rfl
def Rg:AH:=(.R [.m 16 1,.idx 17 1 16 (.i 0),.l 18 17,.idx 19 1 18 (.i 0),.l 20 19,.m 21 0,.b 22 .eql 20 21,.m 6 22] [0,1,4,6] (.R [.m 23 0,.m 24 1,.idx 25 1 24 (.i 0),.l 26 25,.m 27 0,.cl 28 [26,27] GD,.m 29 6,.m 30 6,.bu 31 AB [(0,1,23),(1,1,.c (.int .i64 1)),(3,1,28),(4,1,29),(5,1,30)],.store 4 31 16 false,.mv 5 .V] [4,5] .e))
def FX:BI:=⟨[.val .W,.val (.slice .S)],[⟨4,true,AB⟩,⟨5,false,.bool⟩],(.R [.al 4 AB,.mv 5 .F] [0,1,4] (.s (.R [.m 7 0,.cl 8 [7] IK,.un 9 .not 8,.m 10 9,.sc 10 false [.m 11 1,.cl 12 [11] I0,.un 13 .not 12] 14 .V 13] [0,1,4,14] (.cond 14 (.R [.bu 15 AB [],.store 4 15 16 false,.mv 5 .F] [4,5] .e) .k)) Rg))⟩
theorem kJ:At Tryz.prog 58 FX=true:=by kernel_rfl
def MT:BI:=⟨[.val .W,.val .W,.val .W],[⟨6,false,.bool⟩],(.R [.mv 6 .F] [0,1,2] (.R [.m 7 0,.m 8 1,.b 9 .geq 7 8,.m 10 9,.sc 10 true [.m 11 0,.m 12 2,.b 13 .leq 11 12] 14 13 .F,.m 6 14] [6] .e))⟩
theorem qt:At Tryz.prog 59 MT=true:=by kernel_rfl
def OY:BI:=⟨[.val .W],[⟨2,false,.bool⟩],(.R [.mv 2 .F] [0] (.R [.m 3 0,.cx (some 4) [3,.c (.int .i64 1),.c (.int .i64 6)] BF,.m 2 4] [2] .e))⟩
theorem s_:At Tryz.prog 60 OY=true:=by kernel_rfl
def ZH:AH:=(.R [.m 27 0,.bin 28 .eql 27 (.i 1),.m 29 28,.sc 29 false [.m 30 3,.bin 31 .eql 30 (.c (.str ⟨#[]⟩))] 32 .V 31,.m 8 32] [8] .e)
def JR:BI:=⟨[.val .W,.val .W,.val .str,.val .str],[⟨8,false,.bool⟩],(.R [.mv 8 .F] [0,1,2,3] (.s (.R [.m 9 0,.cx (some 10) [9,.c (.int .i64 1),.c (.int .i64 2)] BF,.un 11 .not 10,.m 12 11,.sc 12 false [.m 13 1,.cx (some 14) [13,.c (.int .i64 0),.c (.int .i64 1000)] BF,.un 15 .not 14] 16 .V 15,.m 17 16,.sc 17 false [.m 18 2,.cl 19 [18] gA,.un 20 .not 19] 21 .V 20,.m 22 21,.sc 22 false [.m 23 3,.len 24 true 23,.bin 25 .gtr 24 (.i 20)] 26 .V 25] [0,3,26] (.cond 26 (.R [.mv 8 .F] [8] .e) .k)) ZH))⟩
theorem uw:At Tryz.prog 61 JR=true:=by kernel_rfl
def Hg:BI:=⟨[.ptr Az,.val AO,.val .W],[⟨6,false,.bool⟩],(.R [.box 4 1 false,.mv 6 .F] [0,2,4] (.R [.m 13 0,.n 14 13,.f 15 14 3,.l 16 15,.len 17 false 16,.m 7 17] [0,2,4,7] (.s (.D 18 [(1,[]),(5,[]),(7,[]),(9,[]),(11,[]),(12,[6,8,10,11]),(14,[4,13]),(15,[0,14])] (.tk 13 [.bu 30 Ag [(0,1,24),(1,1,26),(2,1,28),(3,1,29),(4,1,.c (.int .i64 (-1)))],.m 29 2,.l 28 27,.f 27 4 5,.l 26 25,.f 25 4 4,.l 24 23,.f 23 4 3,.l 22 21,.f 21 20 3,.n 20 19,.m 19 0,.m 18 0] (.O 13 (.blst 31 Ag [30]) false [] (.O 14 (.app 32 88 Ag 22 31) false [] (.tk 17 [.f 34 33 3,.n 33 18] (.O 17 (.store 34 32 1 false) false [] .z))))) [0,2,4,7]) (.R [.m 35 0,.f 36 4 1,.l 37 36,.cl 38 [35,37] Gq,.m 8 38] [0,2,4,7,8] (.s (.D 29 [(4,[]),(5,[3,4]),(7,[]),(11,[]),(13,[]),(14,[]),(16,[]),(18,[6,10,12,13,15,17]),(21,[19]),(22,[19]),(23,[19]),(24,[]),(25,[20,24]),(26,[21,25]),(27,[22,26]),(28,[23,27])] (.tk 18 [.l 57 56,.f 56 4 5,.l 55 54,.f 54 4 4,.m 53 7,.l 52 51,.f 51 4 3,.l 50 49,.f 49 48 0,.n 48 47,.m 47 0,.ls 46 45 16,.idx 45 16 43 44,.m 44 8,.l 43 42,.f 42 41 1,.n 41 40,.m 40 0] (.O 18 (.cl 58 [46,50,52,53,55,57] uo) false [(24,.al 9 AB)] (.tk 24 [.ext 62 39 3,.ext 61 39 2,.ext 60 39 1,.ext 59 39 0,.m 39 58] (.O 24 (.al 9 AB) true [] (.O 25 (.store 9 59 16 false) false [] (.tk 29 [.m 12 62,.m 11 61,.m 10 60] .z)))))) [0,2,8,9,10,11,12]) (.s (.R [.m 63 12,.un 64 .not 63] [0,2,8,9,10,11,64] (.cond 64 (.R [.mv 6 .F] [6] .e) .k)) (.s (.D 8 [(4,[]),(5,[]),(6,[3,4,5])] (.tk 7 [.idx 71 16 68 69,.ls 70 9 16,.m 69 8,.l 68 67,.f 67 66 1,.n 66 65,.m 65 0] (.O 7 (.store 71 70 16 false) false [] .z)) [0,2,10,11]) (.R [.m 72 0,.m 73 10,.m 74 11,.m 75 2,.cl 76 [72,73,74,75] MI] [] (.R [.mv 6 .V] [6] .e)))))))))⟩
theorem dP:At Tryz.prog 62 Hg=true:=by kernel_rfl
def O2:AH:=(.s (.R [.m 25 8,.m 26 0,.n 27 26,.f 28 27 0,.l 29 28,.len 30 false 29,.b 31 .leq 25 30] [0,2,4,7,8,31] (.cond 31 .k (.exit 0))) (.s (.b 1 [0,2,4,7,8] (.s (.s (.D 13 [(4,[]),(6,[3,5]),(10,[]),(12,[9,11])] (.tk 13 [.b 46 .neq 43 45,.l 45 44,.f 44 4 1,.l 43 42,.idx 42 1 41 (.i 0),.l 41 40,.idx 40 1 37 39,.bin 39 .sub 38 (.i 1),.m 38 8,.l 37 36,.f 36 35 0,.n 35 34,.m 34 0] .z) [0,2,4,7,8,46]) (.cond 46 (.exit 1) .k)) (.s (.D 21 [(4,[]),(5,[3,4]),(7,[]),(11,[]),(12,[6,10,11]),(15,[13]),(16,[13]),(17,[]),(18,[14,17]),(19,[15,18]),(20,[16,19])] (.tk 12 [.m 59 8,.l 58 57,.f 57 56 0,.n 56 55,.m 55 0,.ls 54 53 16,.idx 53 16 51 52,.m 52 7,.l 51 50,.f 50 49 1,.n 49 48,.m 48 0] (.O 12 (.cl 60 [54,58,59] uq) false [(17,.al 9 AB)] (.tk 17 [.ext 63 47 2,.ext 62 47 1,.ext 61 47 0,.m 47 60] (.O 17 (.al 9 AB) true [] (.O 18 (.store 9 61 16 false) false [] (.tk 21 [.m 11 63,.m 10 62] .z)))))) [0,2,7,9,10,11]) (.seqc [11] (.R [.m 64 11] [0,2,7,9,10,11,64] (.cond 64 (.s (.D 8 [(4,[]),(5,[]),(6,[3,4,5])] (.tk 7 [.idx 71 16 68 69,.ls 70 9 16,.m 69 7,.l 68 67,.f 67 66 1,.n 66 65,.m 65 0] (.O 7 (.store 71 70 16 false) false [] .z)) [0,2,10,11]) (.r [.m 72 0,.m 73 10,.m 74 2,.cx (some 75) [72,73,.z,74] MI] [11])) .k)) (.R [.m 76 11,.m 6 76] [6] .e))))) (.r [.m 32 8,.bin 33 .add 32 (.i 1),.m 8 33] [0,2,4,7,8])))
def NU:AH:=(.R [.mv 6 .F] [6] .e)
def Ce:BI:=⟨[.ptr Az,.val AO,.val .W],[⟨6,false,.bool⟩],(.R [.box 4 1 false,.mv 6 .F] [0,2,4] (.R [.m 12 0,.f 13 4 1,.l 14 13,.cl 15 [12,14] Gq,.m 7 15] [0,2,4,7] (.s (.R [.m 16 0,.n 17 16,.f 18 17 1,.l 19 18,.m 20 7,.idx 21 16 19 20,.f 22 21 1,.l 23 22,.bin 24 .add 23 (.i 1),.m 8 24] [0,2,4,7,8] (.b 0 [] (.loop [0,2,4,7,8] O2))) NU)))⟩
theorem dQ:At Tryz.prog 63 Ce=true:=by kernel_rfl
def Gr:BI:=⟨[.ptr Az,.val .W],[⟨4,false,.W⟩],(.R [.fbox 3 1,.mv 4 (.i 0)] [0,3] (.R [.m 5 0,.n 6 5,.f 7 6 1,.l 8 7,.clo 9 88 .W 3,.cl 10 [8,9] He,.m 4 10] [4] .e))⟩
theorem bM:At Tryz.prog 64 Gr=true:=by kernel_rfl
def TE:BI:=⟨[.val AB],[⟨2,true,Ai⟩],(.R [.box 1 0 true,.al 2 Ai] [1,2] (.R [.f 3 1 0,.l 4 3,.f 5 1 1,.l 6 5,.build 7 [.int .i64 0,.int .i64 0,.bool false,.bool false,.bool false,.bool false,.nil,.nil,.int .i64 0,.int .i64 0,.int .i64 0,.int .i64 0,.str U,.str U,.int .i64 0,.nil] [(0,1,4),(1,1,6),(2,1,.V)],.store 2 7 16 false] [2] .e))⟩
theorem wW:At Tryz.prog 65 TE=true:=by kernel_rfl
def GP:BI:=⟨[.ptr Az,.val AO,.val .W],[⟨6,false,.bool⟩],(.R [.box 4 1 false,.mv 6 .F] [0,2,4] (.s (.R [.m 8 0,.n 9 8,.f 10 9 2,.l 11 10,.len 12 false 11,.bin 13 .eql 12 (.i 0)] [0,2,4,13] (.cond 13 (.R [.mv 6 .F] [6] .e) .k)) (.s (.D 9 [(2,[]),(7,[1,6])] (.tk 9 [.m 7 21,.b 21 .rem 15 20,.len 20 false 19,.l 19 18,.f 18 17 2,.n 17 16,.m 16 0,.l 15 14,.f 14 4 2] .z) [0,2,4,7]) (.s (.R [.f 22 4 0,.l 23 22] [0,2,7,23] (.b 0 [] (.R [.bin 25 .eql 23 (.i 2),.m 24 25] [0,2,7,23,24] (.cond 24 (.r [.m 26 0,.m 27 7,.m 28 2,.cl 29 [26,27,28] Y_] []) (.R [.bin 31 .eql 23 (.i 3),.m 30 31] [0,7,23,30] (.cond 30 (.r [.m 32 0,.m 33 0,.n 34 33,.f 35 34 2,.l 36 35,.m 37 7,.m 38 7,.bin 39 .add 38 (.i 1),.cl 40 [36,37,39] F9,.n 41 32,.f 42 41 2,.store 42 40 1 false] []) (.R [.bin 44 .eql 23 (.i 4),.m 43 44] [0,7,43] (.cond 43 (.D 18 [(1,[]),(5,[]),(9,[]),(10,[8,9]),(14,[4,13]),(15,[0,14])] (.tk 12 [.ls 56 55 6,.idx 55 6 53 54,.m 54 7,.l 53 52,.f 52 51 2,.n 51 50,.m 50 0,.l 49 48,.f 48 47 2,.n 47 46,.m 46 0,.m 45 0] (.O 12 (.cl 57 [56] Y9) false [] (.O 13 (.blst 58 AI [57]) false [] (.O 14 (.app 59 90 AI 49 58) false [] (.tk 17 [.f 61 60 2,.n 60 45] (.O 17 (.store 61 59 1 false) false [] .z)))))) []) .k)))))))) (.R [.mv 6 .V] [6] .e)))))⟩
theorem ZI:At Tryz.prog 66 GP=true:=by kernel_rfl
def Ic:BI:=⟨[.val AB],[⟨2,true,AB⟩],(.R [.box 1 0 false,.al 2 AB] [1,2] (.s (.D 17 [(3,[]),(5,[2,4]),(6,[]),(9,[5,8]),(10,[2,4,8]),(11,[9,10])] (.tk 2 [.l 4 3,.f 3 1 6] (.tk 5 [.l 7 6,.f 6 1 7] (.tk 9 [.l 11 10,.f 10 9 6,.f 9 1 9] (.O 2 (.cl 5 [4] BX) false [] (.tk 11 [.f 13 1 6] (.O 5 (.cl 8 [7] Ap) false [] (.O 9 (.cl 12 [11] BX) false [] (.O 11 (.store 13 5 1 false) false [] (.tk 13 [.f 14 1 7] (.O 13 (.store 14 8 1 false) false [] (.tk 16 [.f 16 15 6,.f 15 1 9] (.O 16 (.store 16 12 1 false) false [] .z)))))))))))) [1,2]) (.R [.ls 17 1 16,.store 2 17 16 false] [2] .e)))⟩
theorem gH:At Tryz.prog 68 Ic=true:=by kernel_rfl
def MU:BI:=⟨[.val AI],[⟨2,true,AI⟩],(.R [.box 1 0 false,.al 2 AI] [1,2] (.R [.f 3 1 5,.l 4 3,.cl 5 [4] Ap,.f 6 1 5,.store 6 5 1 false] [1,2] (.R [.ls 7 1 6,.store 2 7 6 false] [2] .e)))⟩
theorem qu:At Tryz.prog 69 MU=true:=by kernel_rfl
def Kq:BI:=⟨[.val AB,.val AB],[⟨4,false,.bool⟩],(.R [.box 2 0 false,.box 3 1 false,.mv 4 .F] [2,3] (.s (.R [.f 5 2 0,.l 6 5,.f 7 3 0,.l 8 7,.b 9 .neq 6 8] [2,3,9] (.cond 9 (.R [.mv 4 .F] [4] .e) .k)) (.s (.R [.f 10 2 1,.l 11 10,.f 12 3 1,.l 13 12,.b 14 .neq 11 13] [2,3,14] (.cond 14 (.R [.mv 4 .F] [4] .e) .k)) (.s (.R [.f 15 2 2,.l 16 15,.f 17 3 2,.l 18 17,.eqs 19 true .bool 16 18] [2,3,19] (.cond 19 (.R [.mv 4 .F] [4] .e) .k)) (.s (.R [.f 20 2 3,.l 21 20,.f 22 3 3,.l 23 22,.eqs 24 true .bool 21 23] [2,3,24] (.cond 24 (.R [.mv 4 .F] [4] .e) .k)) (.s (.R [.f 25 2 4,.l 26 25,.f 27 3 4,.l 28 27,.eqs 29 true .bool 26 28] [2,3,29] (.cond 29 (.R [.mv 4 .F] [4] .e) .k)) (.s (.R [.f 30 2 5,.l 31 30,.f 32 3 5,.l 33 32,.eqs 34 true .bool 31 33] [2,3,34] (.cond 34 (.R [.mv 4 .F] [4] .e) .k)) (.s (.R [.f 35 2 6,.l 36 35,.f 37 3 6,.l 38 37,.cl 39 [36,38] IJ,.un 40 .not 39] [2,3,40] (.cond 40 (.R [.mv 4 .F] [4] .e) .k)) (.s (.R [.f 41 2 7,.l 42 41,.f 43 3 7,.l 44 43,.cl 45 [42,44] ZA,.un 46 .not 45] [2,3,46] (.cond 46 (.R [.mv 4 .F] [4] .e) .k)) (.s (.R [.f 47 2 8,.l 48 47,.f 49 3 8,.l 50 49,.b 51 .neq 48 50] [2,3,51] (.cond 51 (.R [.mv 4 .F] [4] .e) .k)) (.s (.R [.f 52 2 9,.ls 53 52 7,.f 54 3 9,.ls 55 54 7,.cl 56 [53,55] sm,.un 57 .not 56] [57] (.cond 57 (.R [.mv 4 .F] [4] .e) .k)) (.R [.mv 4 .V] [4] .e))))))))))))⟩
theorem no:At Tryz.prog 70 Kq=true:=by kernel_rfl
def Qs:BI:=⟨[.val AI,.val AI],[⟨4,false,.bool⟩],(.R [.box 2 0 false,.box 3 1 false,.mv 4 .F] [2,3] (.s (.R [.f 5 2 0,.l 6 5,.f 7 3 0,.l 8 7,.b 9 .neq 6 8] [2,3,9] (.cond 9 (.R [.mv 4 .F] [4] .e) .k)) (.s (.R [.f 10 2 1,.l 11 10,.f 12 3 1,.l 13 12,.b 14 .neq 11 13] [2,3,14] (.cond 14 (.R [.mv 4 .F] [4] .e) .k)) (.s (.R [.f 15 2 2,.l 16 15,.f 17 3 2,.l 18 17,.b 19 .neq 16 18] [2,3,19] (.cond 19 (.R [.mv 4 .F] [4] .e) .k)) (.s (.R [.f 20 2 3,.l 21 20,.f 22 3 3,.l 23 22,.b 24 .neq 21 23] [2,3,24] (.cond 24 (.R [.mv 4 .F] [4] .e) .k)) (.s (.R [.f 25 2 4,.l 26 25,.f 27 3 4,.l 28 27,.b 29 .neq 26 28] [2,3,29] (.cond 29 (.R [.mv 4 .F] [4] .e) .k)) (.s (.R [.f 30 2 5,.l 31 30,.f 32 3 5,.l 33 32,.cl 34 [31,33] ZA,.un 35 .not 34] [35] (.cond 35 (.R [.mv 4 .F] [4] .e) .k)) (.R [.mv 4 .V] [4] .e))))))))⟩
theorem ux:At Tryz.prog 71 Qs=true:=by kernel_rfl
def OZ:BI:=⟨[.val Ag,.val Ag],[⟨4,false,.bool⟩],(.R [.box 2 0 false,.box 3 1 false,.mv 4 .F] [2,3] (.s (.R [.f 5 2 0,.l 6 5,.f 7 3 0,.l 8 7,.b 9 .neq 6 8] [2,3,9] (.cond 9 (.R [.mv 4 .F] [4] .e) .k)) (.s (.R [.f 10 2 1,.l 11 10,.f 12 3 1,.l 13 12,.b 14 .neq 11 13] [2,3,14] (.cond 14 (.R [.mv 4 .F] [4] .e) .k)) (.s (.R [.f 15 2 2,.l 16 15,.f 17 3 2,.l 18 17,.b 19 .neq 16 18] [2,3,19] (.cond 19 (.R [.mv 4 .F] [4] .e) .k)) (.s (.R [.f 20 2 3,.l 21 20,.f 22 3 3,.l 23 22,.b 24 .neq 21 23] [2,3,24] (.cond 24 (.R [.mv 4 .F] [4] .e) .k)) (.s (.R [.f 25 2 4,.l 26 25,.f 27 3 4,.l 28 27,.b 29 .neq 26 28] [2,3,29] (.cond 29 (.R [.mv 4 .F] [4] .e) .k)) (.s (.R [.f 30 2 5,.l 31 30,.f 32 3 5,.l 33 32,.b 34 .neq 31 33] [2,3,34] (.cond 34 (.R [.mv 4 .F] [4] .e) .k)) (.s (.R [.f 35 2 6,.l 36 35,.f 37 3 6,.l 38 37,.b 39 .neq 36 38] [2,3,39] (.cond 39 (.R [.mv 4 .F] [4] .e) .k)) (.s (.R [.f 40 2 7,.l 41 40,.f 42 3 7,.l 43 42,.b 44 .neq 41 43] [2,3,44] (.cond 44 (.R [.mv 4 .F] [4] .e) .k)) (.s (.R [.f 45 2 8,.l 46 45,.f 47 3 8,.l 48 47,.b 49 .neq 46 48] [49] (.cond 49 (.R [.mv 4 .F] [4] .e) .k)) (.R [.mv 4 .V] [4] .e)))))))))))⟩
theorem tA:At Tryz.prog 72 OZ=true:=by kernel_rfl
def Rh:AH:=(.s (.R [.m 6 5,.m 7 0,.len 8 false 7,.b 9 .lss 6 8] [0,1,5,9] (.cond 9 .k (.exit 0))) (.s (.b 1 [0,1,5] (.R [.m 12 0,.m 13 5,.m 14 1,.cl 15 [14] BN,.idx 16 3 12 13,.f 17 16 0,.store 17 15 1 false] [0,1,5] (.R [.m 18 1,.bin 19 .add 18 (.i 1),.m 1 19] [0,1,5] (.R [.m 20 0,.m 21 5,.m 22 1,.cl 23 [22] BN,.idx 24 3 20 21,.f 25 24 1,.store 25 23 1 false] [0,1,5] (.R [.m 26 1,.bin 27 .add 26 (.i 1),.m 1 27] [0,1,5] (.R [.m 28 0,.m 29 5,.m 30 1,.idx 31 3 28 29,.f 32 31 2,.store 32 30 1 false] [0,1,5] (.r [.m 33 1,.bin 34 .add 33 (.i 1),.m 1 34] [0,1,5]))))))) (.r [.m 10 5,.bin 11 .add 10 (.i 1),.m 5 11] [0,1,5])))
def P9:AH:=(.R [.m 35 1,.m 4 35] [4] .e)
def DG:BI:=⟨[.mut (.own 70 AG),.val .W],[⟨4,false,.W⟩],(.R [.mv 4 (.i 0)] [0,1] (.s (.R [.mv 5 (.i 0)] [0,1,5] (.b 0 [1] (.loop [0,1,5] Rh))) P9))⟩
theorem kK:At Tryz.prog 73 DG=true:=by kernel_rfl
def P_:AH:=(.s (.R [.m 6 5,.m 7 0,.len 8 false 7,.b 9 .lss 6 8] [0,1,5,9] (.cond 9 .k (.exit 0))) (.s (.b 1 [0,1,5] (.s (.s (.D 8 [(1,[]),(2,[0,1]),(5,[]),(7,[4,6])] (.tk 6 [.m 17 1,.l 16 15,.f 15 14 0,.idx 14 3 12 13,.m 13 5,.m 12 0] (.O 6 (.cl 18 [17] BN) false [] (.tk 8 [.b 19 .neq 16 18] .z))) [0,1,5,19]) (.cond 19 (.R [.mv 4 (.c (.int .i64 (-1)))] [4] .e) .k)) (.R [.m 20 1,.bin 21 .add 20 (.i 1),.m 1 21] [0,1,5] (.s (.s (.D 8 [(1,[]),(2,[0,1]),(5,[]),(7,[4,6])] (.tk 6 [.m 27 1,.l 26 25,.f 25 24 1,.idx 24 3 22 23,.m 23 5,.m 22 0] (.O 6 (.cl 28 [27] BN) false [] (.tk 8 [.b 29 .neq 26 28] .z))) [0,1,5,29]) (.cond 29 (.R [.mv 4 (.c (.int .i64 (-1)))] [4] .e) .k)) (.R [.m 30 1,.bin 31 .add 30 (.i 1),.m 1 31] [0,1,5] (.s (.R [.m 32 0,.m 33 5,.idx 34 3 32 33,.f 35 34 2,.l 36 35,.m 37 1,.b 38 .neq 36 37] [0,1,5,38] (.cond 38 (.R [.mv 4 (.c (.int .i64 (-1)))] [4] .e) .k)) (.r [.m 39 1,.bin 40 .add 39 (.i 1),.m 1 40] [0,1,5]))))))) (.r [.m 10 5,.bin 11 .add 10 (.i 1),.m 5 11] [0,1,5])))
def QA:AH:=(.R [.m 41 1,.m 4 41] [4] .e)
def DH:BI:=⟨[.val (.slice AG),.val .W],[⟨4,false,.W⟩],(.R [.mv 4 (.i 0)] [0,1] (.s (.R [.mv 5 (.i 0)] [0,1,5] (.b 0 [1] (.loop [0,1,5] P_))) QA))⟩
theorem kL:At Tryz.prog 74 DH=true:=by kernel_rfl
def VH:AH:=(.s (.R [.m 8 3,.m 9 0,.len 10 false 9,.b 11 .lss 8 10] [0,3,11] (.cond 11 .k (.exit 0))) (.s (.b 1 [0,3] (.s (.D 16 [(1,[]),(2,[0,1]),(8,[6]),(9,[7,8]),(10,[6]),(11,[6]),(12,[10,11]),(14,[9,13])] (.tk 4 [.l 17 16,.idx 16 1 14 15,.m 15 3,.m 14 0] (.O 4 (.cx (some 18) [17,.c (.int .i64 1),.c (.int .i64 6)] BE) false [] (.tk 7 [.m 20 19,.un 19 .not 18] (.test 20 (.sk 20 false 8 15 29 (.tk 16 [.pick 29 20 .V 28] .z)) (.tg 20 false 14 [.l 27 26,.idx 26 1 24 25,.m 25 3,.m 24 0,.sl 23 1 21 none (some 22),.m 22 3,.m 21 0] (.only 14 (some (20,false)) (.cl 28 [23,27] Hd) false [] (.tk 16 [.pick 29 20 .V 28] .z))))))) [0,3,29]) (.cond 29 (.R [.mv 2 .F] [2] .e) .k))) (.r [.m 12 3,.bin 13 .add 12 (.i 1),.m 3 13] [0,3])))
def VI:AH:=(.R [.mv 2 .V] [2] .e)
def EQ:BI:=⟨[.val .S],[⟨2,false,.bool⟩],(.R [.mv 2 .F] [0] (.s (.R [.m 4 0,.len 5 false 4,.cx (some 6) [5,.c (.int .i64 1),.c (.int .i64 4)] BE,.un 7 .not 6] [0,7] (.cond 7 (.R [.mv 2 .F] [2] .e) .k)) (.s (.R [.mv 3 (.i 0)] [0,3] (.b 0 [] (.loop [0,3] VH))) VI)))⟩
theorem qv:At Tryz.prog 75 EQ=true:=by kernel_rfl
end
end Go.Proofs.YtfcgblnlopemkaaGreat.Core
