/- Texts of the proof, packed: part 3. -/
import Derived.Test.YtffahmnodgnohaaP1
import Derived.OrdersHeld
import Derived.ChangeArms
import Derived.Below
import Derived.Test.YtffahmnodgnohaaProg
import Derived.Shelf.SlLaysE0
import Derived.Shelf.RegionOpenPlain
import Derived.WalkKit
import Derived.Deep.LoopGhost
import Derived.Lib.Walk
import Derived.Lib.SliceRun
import Derived.Shelf.Lays2
import Derived.Lib.JoinLaws
import Derived.Lib.AppendZeros
import Derived.Lib.Overlaps
import Derived.Laws.Externs
import Derived.Laws.IdiomCopy
import Derived.Laws.CopyRow
import Derived.Maps.AppendAt
import Derived.Shelf.Small.Strs
import Derived.Shelf.Spec.SlicesInsert
import Derived.Shelf.SlicesE.DeleteFunc
import Derived.IntWalk
set_option linter.unusedVariables false
set_option linter.unusedSimpArgs false
namespace Go.Proofs.Ytffahmnodgnohaa.Core
open Go
variable {P:Program}
abbrev Lo:=List (Nat×(World->Prop))
def Gz (anc:List Nat):Lo->Lo
 | []=>[]
 | p::r=>if Am anc p.1=true then Gz anc r else p::Gz anc r
theorem Cx {anc:List Nat}:∀ {T:Lo},∀ p∈Gz anc T,p∈T/\Am anc p.1=false
 | [],p,h=>by cases h
 | q::r,p,h=>by
  simp only [Gz] at h
  split at h
  ·obtain ⟨h1,h2⟩:=Cx p h
   exact ⟨by simp [h1],h2⟩
  ·rename_i hq
   rcases AO.1 h with rfl | h
   ·exact ⟨by simp,by simpa using hq⟩
   ·obtain ⟨h1,h2⟩:=Cx p h
    exact ⟨by simp [h1],h2⟩
theorem Me {anc:List Nat}:∀ {T:Lo} {p},p∈T->Am anc p.1=false->p∈Gz anc T
 | [],p,h,_=>by cases h
 | q::r,p,h,hn=>by
  simp only [Gz]
  rcases AO.1 h with rfl | h
  ·rw [if_neg (by rw [hn]; simp)]; simp
  ·split
   ·exact Me h hn
   ·exact List.mem_cons_of_mem _ (Me h hn)
theorem QL {anc:List Nat} {i:Nat} {C:World->Prop} {T:Lo} (h:Am anc i=false):Gz anc ((i,C)::T)=(i,C)::Gz anc T:=by
 show (if Am anc i=true then Gz anc T else (i,C)::Gz anc T)=_
 rw [h]
 rfl
def Jd (P:Program) (ops:Array Oper) (Q:Exit->Act->World->Prop) (anc:Nat->List Nat):Nat->Lo->Array Bool->Act->World->Prop
 | 0,_,listed,a,w=>Region.ready .any ops listed=[]/\Q .normal a w
 | fuel+1,T,listed,a,w =>
  (Region.ready .any ops listed=[]->Q .normal a w) /\
  ∀ i∈Region.ready .any ops listed,wpOp P ops Q i (fun a' w'=>(∀ p∈Gz (anc i) T,p.2 w')/\Jd P ops Q anc fuel (Gz (anc i) T) (listed.setIfInBounds i true) a' w') a w
theorem Mf {ops:Array Oper} {Q:Exit->Act->World->Prop} {anc:Nat->List Nat}:∀ (fuel:Nat) (T:Lo) (listed:Array Bool) (a:Act) (w:World),Jd P ops Q anc fuel T listed a w->wpAny P .any ops Q fuel listed a w
 | 0,_,_,_,_,h=>h
 | fuel+1,_,_,_,_,h=>⟨h.1,fun i hi=>wpOp_mono (fun a' w' h'=>Mf fuel _ _ a' w' h'.2) (h.2 i hi)⟩
theorem JR {ops:Array Oper} {Q:Exit->Act->World->Prop} {anc:Nat->List Nat}:∀ (fuel:Nat) {T T':Lo} (listed:Array Bool) (a:Act) (w:World),(∀ p∈T',p∈T)->Jd P ops Q anc fuel T listed a w->Jd P ops Q anc fuel T' listed a w
 | 0,_,_,_,_,_,_,h=>h
 | fuel+1,T,T',_,_,_,hs,h=>⟨h.1,fun i hi=>wpOp_mono (fun a' w' h'=>by
   have hsub:∀ p∈Gz (anc i) T',p∈Gz (anc i) T:=fun p hp=>by
    obtain ⟨h1,h2⟩:=Cx p hp
    exact Me (hs p h1) h2
   exact ⟨fun p hp=>h'.1 p (hsub p hp),JR fuel _ a' w' hsub h'.2⟩) (h.2 i hi)⟩
def M8 (ops:Array Oper) (listed:Array Bool):Prop:=∀ k o,listed.getD k false=true->ops[k]? = some o->∀ e∈o.after,Region.binds .any e=true->listed.getD e.on false=true
def Mg (ops:Array Oper) (i:Nat):List Nat:=match ops[i]? with
 | some o=>(o.after.filter fun e=>Region.binds .any e).toList.map (·.on)
 | none=>[]
def PF (ops:Array Oper) (anc:List (List Nat)):Bool :=
 (List.range ops.size).all fun i=>(Mg ops i).all (fun p=>decide (p<i))&&(anc.getD i []).all fun j=>(Mg ops i).any (fun p=>p==j)||(Mg ops i).any fun p=>Am (anc.getD p []) j
theorem F6 {ops:Array Oper} {anc:List (List Nat)} (hA:PF ops anc=true) {listed:Array Bool} (hs:M8 ops listed):∀ (i:Nat),(∀ p∈Mg ops i,listed.getD p false=true)->i<ops.size->∀ j∈anc.getD i [],listed.getD j false=true:=by
 intro i
 induction i using Nat.strongRecOn with
 | _ i ih =>
  intro hp hi j hj
  have h1:=Ao.1 hA i (List.mem_range.2 hi)
  simp only [J,Ao,List.any_eq_true,EB,beq_iff_eq,decide_eq_true_eq] at h1
  rcases h1.2 j hj with ⟨p,hpm,rfl⟩ | ⟨p,hpm,hpj⟩
  ·exact hp p hpm
  ·have hlt:=h1.1 p hpm
   refine ih p hlt (fun q hq=>?_) (by omega) j (Bd.1 hpj)
   unfold Mg at hq
   split at hq
   ·rename_i o ho
    simp only [List.mem_map,Array.mem_toList_iff,Array.mem_filter] at hq
    obtain ⟨e,⟨he,hb⟩,rfl⟩:=hq
    exact hs p o (hp p hpm) ho e he hb
   ·cases hq
theorem B3 {ops:Array Oper} {listed:Array Bool} {i:Nat} (h:i∈Region.ready .any ops listed):(∀ p∈Mg ops i,listed.getD p false=true)/\i<ops.size:=by
 obtain ⟨_,o,ho,hall⟩:=mem_ready.1 h
 refine ⟨fun p hp=>?_,(Array.getElem?_eq_some_iff.1 ho).1⟩
 unfold Mg at hp
 rw [ho] at hp
 simp only [List.mem_map,Array.mem_toList_iff,Array.mem_filter] at hp
 obtain ⟨e,⟨he,hb⟩,rfl⟩:=hp
 exact hall e he hb
theorem M8.set {ops:Array Oper} {listed:Array Bool} (hs:M8 ops listed) {i:Nat} (h:i∈Region.ready .any ops listed):M8 ops (listed.setIfInBounds i true):=by
 intro k o hk ho e he hb
 by_cases hik:i=k
 ·subst hik
  obtain ⟨_,o',ho',hall⟩:=mem_ready.1 h
  rw [ho] at ho'
  cases ho'
  exact getD_set_true (hall e he hb)
 ·rw [getD_set_ne false hik] at hk
  exact getD_set_true (hs k o hk ho e he hb)
theorem CO {ops:Array Oper} {listed:Array Bool} {i:Nat} (h:i∈Region.ready .any ops listed):listed.getD i false=false:=by
 have h0:=(mem_ready.1 h).1
 rcases Ax i listed.size with h' | h'
 ·simp [h'] at h0 ⊢; exact h0
 ·simp [Array.getElem?_eq_none h']
theorem KR {ops:Array Oper} {Q:Exit->Act->World->Prop} {anc:List (List Nat)} (hA:PF ops anc=true) {i:Nat} {oi:Oper} {v:Value} {C:World->Prop} (hi:ops[i]? = some oi)
  (hsel:∀ (j:Nat) (o:Oper) cs b,ops[j]? = some o->o.op≠.select cs b) (hQ:∀ c a w,Q (.panic c) (a.put oi.dst v) w->Q (.panic c) a w) :
  ∀ (fuel:Nat) (T:Lo) (listed:Array Bool) (a:Act) (w:World),M8 ops listed ->
   (∀ j oj,ops[j]? = some oj->j≠i->listed.getD j true=false->(∀ e∈oj.after,Region.binds .any e=true->e.on≠i)->oi.apart ops oj=true) ->
   i∈Region.ready .any ops listed->YieldsIf P ops C oi v a->C w->(∀ p∈T,p.2 w) ->
   Jd P ops Q (fun i=>anc.getD i []) fuel ((i,C)::T) (listed.setIfInBounds i true) (a.put oi.dst v) w->Jd P ops Q (fun i=>anc.getD i []) (fuel+1) T listed a w:=by
 intro fuel
 induction fuel with
 | zero =>
  intro T listed a w hsh _ hr hy hC hT H
  refine ⟨fun h=>(by rw [h] at hr; cases hr),fun j hj=>?_⟩
  by_cases hji:j=i
  ·subst hji; exact hy.wpOp hi hC ⟨fun p hp=>hT p (Cx p hp).1,H⟩
  ·have:=ready_mono hj hji
   rw [H.1] at this
   cases this
 | succ fuel ih =>
  intro T listed a w hsh hfree hr hy hC hT H
  refine ⟨fun h=>(by rw [h] at hr; cases hr),fun j hj=>?_⟩
  by_cases hji:j=i
  ·subst hji
   refine hy.wpOp hi hC ⟨fun p hp=>hT p (Cx p hp).1,JR _ _ _ _ (fun p hp=>?_) H⟩
   exact List.mem_cons_of_mem _ (Cx p hp).1
  ·have h1:=H.2 j (ready_mono hj hji)
   obtain ⟨hjun,oj,hoj,hall⟩:=mem_ready.1 hj
   have hnot:∀ e∈oj.after,Region.binds .any e=true->e.on≠i:=fun e he hb heq=>by
    have h1:=hall e he hb
    have h0:=CO hr
    rw [heq] at h1
    rw [h0] at h1
    cases h1
   have hnanc:Am (anc.getD j []) i=false:=by
    rw [Aa]
    intro hm
    have:=F6 hA hsh j (B3 hj).1 (B3 hj).2 i hm
    rw [CO hr] at this
    cases this
   have hcut:Gz (anc.getD j []) ((i,C)::T)=(i,C)::Gz (anc.getD j []) T:=QL hnanc
   simp only [hcut] at h1
   have h2:=wpOp_putIf hoj (hfree j oj hoj hji hjun hnot) (fun cs b=>hsel i oi cs b hi) (fun cs b=>hsel j oj cs b hoj) hQ hy h1
   have hfree':∀ k ok,ops[k]? = some ok->k≠i->(listed.setIfInBounds j true).getD k true=false ->
     (∀ e∈ok.after,Region.binds .any e=true->e.on≠i)->oi.apart ops ok=true:=fun k ok hk hki hun hno=>by
    refine hfree k ok hk hki ?_ hno
    by_cases hjk:j=k
    ·subst hjk; exact hjun
    ·rw [getD_set_ne true hjk] at hun; exact hun
   refine wpOp_mono (fun a' w' h3=>?_) h2
   obtain ⟨hy',hp',hG⟩:=h3
   have hC':C w':=hp' (i,C) (by simp)
   have hT':∀ p∈Gz (anc.getD j []) T,p.2 w':=fun p hp=>hp' p (List.mem_cons_of_mem _ hp)
   refine ⟨hT',ih _ (listed.setIfInBounds j true) a' w' (hsh.set hj) hfree' (ready_mono hr (Ne.symm hji)) hy' hC' hT' ?_⟩
   rw [Array.setIfInBounds_comm _ _ hji]
   exact hG
theorem SA {o:Oper} {a:Act} {w:World} {I:Prop} (h:o.wp P a w (fun _ _=>I) (fun _ _ _=>I)):I:=by
 unfold Oper.wp at h
 generalize (execOp a.eval o).run P w=r at h
 cases r with
 | ok n w' =>
  cases n<;>simp only [Oper.upon] at h<;>try exact h
  case enter f args =>
   obtain ⟨e,w2,fr,hr,_⟩:=h []
   cases e with
   | returned v=>exact hr
   | panicked c=>exact hr
   | outgrown=>exact hr.elim fun _ h=>h.elim fun _ h=>h
  case row row args =>
   obtain ⟨v,w2,hr,_⟩:=h default []
   exact hr
 | halt x w' =>
  cases x<;>simp only [Oper.upon] at h
  case panic v=>exact h
def gB (ops:Array Oper) (o:Oper):Option (Nat×Bool)->Bool
 | none=>o.guard.isNone
 | some g=>match o.guard with
  | some (j,want)=>want==g.2&&Ln ops j==some g.1
  | none=>false
def QM (L:Array Bool) (fl:List Nat):Array Bool:=fl.foldl (fun L i=>L.setIfInBounds i true) L
def Q_ (ops:Array Oper) (i:Nat) (js:List Nat):Bool :=
 js.all fun j=>match ops[i]?,ops[j]? with
  | some a,some b=>a.apart ops b&&b.apart ops a
  | _,_=>false
def HE (ops:Array Oper):List Nat->Bool
 | []=>true
 | i::r=>!Am r i&&Q_ ops i r&&HE ops r
def PG (P:Program) (n:Nat) (ops:Array Oper) (L:Array Bool) (f:Nat×CE):Bool :=
 (Region.ready .any ops L).contains f.1&&f.2.isFloat&&(match ops[f.1]? with
  | some o=>L_ P n o f.2&&decide (o.dst.toList=f.2.dsts)&&o.guard.isNone&&(match o.dst with
   | some d=>!(o.looksAt ops).contains d&&decide (d<n)
   | none=>false)
  | none=>false)
def MA (P:Program) (n:Nat) (ops:Array Oper):DT->Array Bool->List Nat->Bool
 | .done,L,F=>(Region.ready .any ops L).isEmpty&&F.isEmpty
 | .take i g ao r,L,F=>(Region.ready .any ops L).contains i&&Region.free .any ops L i&&!Am F i&&ao.isVal&&(match ops[i]? with
   | some o=>gB ops o g&&L_ P n o ao&&decide (o.dst.toList=ao.dsts)
   | none=>false)&&MA P n ops r (L.setIfInBounds i true) F
 | .skip i g d r,L,F=>(Region.ready .any ops L).contains i&&Region.free .any ops L i&&!Am F i&&(match ops[i]? with
   | some o=>gB ops o (some g)&&decide (o.dst=d)&&(match d with | some d=>decide (d<n) | none=>true)
   | none=>false)&&MA P n ops r (L.setIfInBounds i true) F
 | .only i g ao e fl r,L,F=>(Region.ready .any ops L).contains i&&(Region.ready .any ops (QM L (fl.map (·.1)))).all (· == i)&&F.all (fun f=>f==i||Am (fl.map (·.1)) f)&&(!Am F i||(e&&ao.isFloat))
   && fl.all (PG P n ops L)&&HE ops (i::fl.map (·.1))&&(match ops[i]? with
   | some o=>gB ops o g&&L_ P n o ao&&decide (o.dst.toList=ao.dsts)
   | none=>false)&&MA P n ops r (L.setIfInBounds i true) (fl.map (·.1))
 | .test _ a b,L,F=>MA P n ops a L F&&MA P n ops b L F
 | .fork i ai ri j aj rj,L,F=>F.isEmpty&&(Region.ready .any ops L).contains i&&(Region.ready .any ops L).all (fun k=>k==i||k==j)
   && (match ops[i]? with
   | some o=>gB ops o none&&L_ P n o ai&&decide (o.dst.toList=ai.dsts)
   | none=>false)&&(match ops[j]? with
   | some o=>gB ops o none&&L_ P n o aj&&decide (o.dst.toList=aj.dsts)
   | none=>false)&&MA P n ops ri (L.setIfInBounds i true) []&&MA P n ops rj (L.setIfInBounds j true) []
def Pn (P:Program) (n:Nat) (ops:Array Oper) (anc:List (List Nat)) (t:DT):Bool :=
 P.follows .mixedOrders&&Region.noSelect ops&&PF ops anc&&MA P n ops t (Array.replicate ops.size false) []
theorem OX {H:HP} {φ:Au} {s:St} {act:Act} (hf:B7 H φ s.st s.fr act.tmps) {c:Nat} {t:Bool} (h:CA s.fr c=.bool t):act.tmps[c]? = some (.bool t):=by
 have hfc:=hf c
 rw [h] at hfc
 have hfc:act.tmps.getD c undef=.bool t:=hfc
 rw [Array.getD_eq_getD_getElem?] at hfc
 cases hq:act.tmps[c]? with
 | none=>rw [hq] at hfc; cases hfc
 | some v=>rw [hq] at hfc; simpa using hfc
theorem Hi {H:HP} {φ:Au} {s:St} {act:Act} {ops:Array Oper} {o:Oper} {g:Option (Nat×Bool)} (hf:B7 H φ s.st s.fr act.tmps) (h:TZ s g=true) (hb:gB ops o g=true):Region.wanted o (yielded ops act.tmps)=true:=by
 cases g with
 | none =>
  simp only [gB,Option.isNone_iff_eq_none] at hb
  exact F5 hb trivial
 | some g =>
  simp only [gB] at hb
  split at hb
  ·rename_i j want hg
   simp only [J,beq_iff_eq] at hb
   obtain ⟨rfl,hb2⟩:=hb
   simp only [TZ] at h
   split at h
   ·rename_i t ht
    simp only [beq_iff_eq] at h
    subst h
    exact F5 hg ⟨g.1,hb2,OX hf ht⟩
   ·cases h
  ·cases hb
theorem OY {H:HP} {φ:Au} {s:St} {act:Act} {ops:Array Oper} {o:Oper} {g:Nat×Bool} (hf:B7 H φ s.st s.fr act.tmps) (h:Sg s g=true) (hb:gB ops o (some g)=true):Region.wanted o (yielded ops act.tmps)=false:=by
 simp only [gB] at hb
 split at hb
 ·rename_i j want hg
  simp only [J,beq_iff_eq] at hb
  obtain ⟨rfl,hb2⟩:=hb
  refine Jb hg hb2 ?_
  unfold Sg at h
  split at h
  ·rename_i t ht
   rw [OX hf ht]
   intro e
   cases e
   simp at h
  ·rename_i ht
   have hv:=hf g.1
   rw [ht] at hv
   have hv:act.tmps.getD g.1 undef=undef:=hv
   intro e
   rw [Array.getD_eq_getD_getElem?,e] at hv
   cases hv
  ·cases h
 ·cases hb
def Lb (act:Act) (w:World) (T:List (Nat×Nat)) (TT:Lo):Prop :=
 ∀ p∈TT,p.2 w/\((∀ w2,p.2 w2)\/∃ x,(p.1,x)∈T/\∃ w0:World,p.2=fun w2=>∀ b,BB (act.tmps.getD x undef) b->w2.heap[b]? = w0.heap[b]?)
theorem Fu {ds:List Nat}:∀ {T:List (Nat×Nat)},DO ds T=true->∀ p∈T,p.2∉ds
 | [],_,p,hp=>by cases hp
 | q::r,h,p,hp=>by
  simp only [DO,J,Cc] at h
  rcases AO.1 hp with rfl | hp
  ·exact Aa.1 h.1
  ·exact Fu h.2 p hp
theorem E8 {act:Act} {dst:Option Tmp} {v:Value} {t:Nat} (h:dst≠some t):(act.put dst v).tmps.getD t undef=act.tmps.getD t undef:=by
 rw [Array.getD_eq_getD_getElem?,Array.getD_eq_getD_getElem?,EK h]
theorem Lb.put {act:Act} {w:World} {T:List (Nat×Nat)} {TT:Lo} (h:Lb act w T TT) {dst:Option Tmp} {v:Value} (hf:DO dst.toList T=true):Lb (act.put dst v) w T TT:=by
 intro p hp
 obtain ⟨h1,h2⟩:=h p hp
 refine ⟨h1,?_⟩
 rcases h2 with h2 | ⟨x,hx,w0,e⟩
 ·exact .inl h2
 ·refine .inr ⟨x,hx,w0,?_⟩
  have:=Fu hf _ hx
  rw [E8 (fun e=>this (by rw [e]; simp))]
  exact e
theorem EL {anc:List Nat}:∀ {T:List (Nat×Nat)} {p},p∈T->Am anc p.1=false->p∈C6 anc T
 | [],p,h,_=>by cases h
 | q::r,p,h,hn=>by
  simp only [C6]
  rcases AO.1 h with rfl | h
  ·rw [if_neg (by rw [hn]; simp)]; simp
  ·split
   ·exact EL h hn
   ·exact List.mem_cons_of_mem _ (EL h hn)
theorem HF {anc tch:List Nat} {s:St}:∀ {T:List (Nat×Nat)},HY anc tch s T=true->∀ p∈T,Am anc p.1=false->(CA s.fr p.2).clear tch=true
 | [],_,p,hp,_=>by cases hp
 | q::r,h,p,hp,hn=>by
  simp only [HY,J,EB] at h
  rcases AO.1 hp with rfl | hp
  ·rcases h.1 with h1 | h1
   ·rw [hn] at h1; cases h1
   ·exact h1
  ·exact HF h.2 p hp hn
theorem Ix {H H':HP} {φ φ':Au} {s:St} {st':List AD} {w w':World} {v:Value} {a:AV} {tch:List Nat} (hs:SR H φ s.st w) (hst:AK H φ s.st w H' φ' st' w') (hm:L5 tch φ s.st w w') (hv:VA H φ s.st a v)
  (h:a.clear tch=true):∀ b,BB v b->w'.heap[b]? = w.heap[b]? := by
 intro b hb
 have keepH:∀ o,H b=some o->w'.heap[b]? = w.heap[b]? := fun o ho=>by rw [hst.sr.hp b o (hst.le b o ho),hs.hp b o ho]
 cases a with
 | ptr id off =>
  obtain ⟨hva,b0,e1,e2⟩:=hv
  rw [e2] at hb
  cases hb
  unfold AM at hva
  split at hva
  ·rename_i cs hid
   exact hm id _ hid rfl (Aa.1 (by simpa [AV.clear] using h)) b0 (J9 (by rw [e1]; rfl))
  ·cases hva
 | eptr id i off =>
  obtain ⟨b0,n,cap,K,hk,hi,e1,e2⟩:=hv
  rw [e2] at hb
  cases hb
  unfold Z at hk
  split at hk
  ·rename_i t K' xs hid
   exact hm id _ hid rfl (Aa.1 (by simpa [AV.clear] using h)) b0 (J9 (by rw [e1]; rfl))
  ·rename_i K' xs hid
   cases hk
   obtain ⟨⟨sl,cap',e3,_,hr⟩,_⟩:=hs.box id _ hid
   rcases hr with rfl | ⟨b1,o1,c,el,fz,e4,e5,_⟩
   ·simp at hi
   ·rw [e1] at e3
    simp only [Value.slice.injEq] at e3
    rw [e4] at e3
    obtain ⟨e6,_⟩:=e3
    simp only [AY,Addr.mk.injEq] at e6
    obtain ⟨rfl,_⟩:=e6
    exact keepH _ e5
  ·rename_i t K' xs hid
   exact hm id _ hid rfl (Aa.1 (by simpa [AV.clear] using h)) b0 (J9 (by rw [e1]; rfl))
  ·rename_i t xs hid
   cases hk
   exact hm id _ hid rfl (Aa.1 (by simpa [AV.clear] using h)) b0 (J9 (by rw [e1]; rfl))
  ·rename_i m t K' xs i' q hid
   exact hm id _ hid rfl (Aa.1 (by simpa [AV.clear] using h)) b0 (J9 (by rw [e1]; rfl))
  ·cases hk
 | fptr cs off =>
  obtain ⟨b0,o,c,el,fz,e,hb0,_⟩:=hv
  rw [e] at hb
  cases hb
  exact keepH _ hb0
 | _=>cases h
theorem RA {n:Nat} {o:Oper} {d x:Nat} {m:Option Nat} (h:MN P n o d (.t x) m=true):∃ t,o.op=.load t (.tmp x):=by
 simp only [MN,J] at h
 have h2:=h.2
 split at h2
 ·rename_i t y ho
  simp only [J] at h2
  have:=h2.1
  cases y<;>simp [Bc] at this
  subst this
  exact ⟨t,ho⟩
 ·cases h2
theorem QN {n:Nat} {o:Oper} {ao:CE} {t:TypeId} {y:Operand} {ρ:Type} {kn:St->Option ρ} {r:ρ} {cal:CQ} {s:St} (hb:L_ P n o ao=true) (hop:o.op=.load t y) (hv:ao.isVal=true) (hk:Bt cal kn s ao=some r) :
  ∃ d x m,ao=.load d (.t x) m:=by
 cases ao<;>first | cases hv | skip
 case load d x m =>
  cases x with
  | t x=>exact ⟨d,x,m,rfl⟩
  | c a =>
   exfalso
   simp only [L_,MN,hop,J] at hb
   simp only [Bt,St.opd] at hk
   have h2:=hb.2.1
   cases y with
   | const v =>
    have h3:a=.undef\/Ku v a=true:=by cases a<;>first | exact .inl rfl | exact .inr h2
    rcases h3 with rfl | h3
    ·simp [St.behind] at hk
    ·have:=Ir (H:=fun _=>none) (v:=v) (a:=a) h3
     cases a<;>first | exact this.elim | (simp [St.behind] at hk)
   | func f =>
    cases a<;>first | (simp [Bc] at h2; done) | (simp [St.behind] at hk)
   | tmp t=>simp [Bc] at h2
   | global g=>simp [Bc] at h2
 all_goals (exfalso; simp [L_,Ta,LW,Pb,Rq,Rr,Tb,Ro,Rn,Nv,Rv,Pe,Pf,Td,Tc,R5,R7,Rs,Rp,Ny,hop] at hb)
def LS (M L:Array Bool) (S:List Nat):Prop:=M.size=L.size/\∀ k,M.getD k true=(L.getD k true||Am S k)
theorem LS.refl (L:Array Bool):LS L L []:=⟨rfl,fun k=>by simp [Am]⟩
theorem Je {M:Array Bool} {k:Nat}:M.getD k false=(M.getD k true&&decide (k<M.size)):=by
 rw [Array.getD_eq_getD_getElem?,Array.getD_eq_getD_getElem?]
 by_cases h:k<M.size
 ·simp [h]
 ·simp [h]
theorem LS.getF {M L:Array Bool} {S:List Nat} (h:LS M L S) (k:Nat):M.getD k false=(L.getD k false||(Am S k&&decide (k<L.size))):=by
 rw [Je,Je,h.2,h.1]
 cases L.getD k true<;>cases Am S k<;>simp
theorem HG {M:Array Bool} {i k:Nat}:(M.setIfInBounds i true).getD k true=(M.getD k true||(i==k)):=by
 by_cases h:i=k
 ·subst h
  rw [Array.getD_eq_getD_getElem?]
  by_cases h2:i<M.size
  ·simp [h2]
  ·simp [h2]
 ·rw [getD_set_ne true h]
  simp [h]
theorem LS.set {M L:Array Bool} {S:List Nat} (h:LS M L S) (i:Nat):LS (M.setIfInBounds i true) (L.setIfInBounds i true) S:=by
 refine ⟨by simp [h.1],fun k=>?_⟩
 rw [HG,HG,h.2]
 cases L.getD k true<;>cases Am S k<;>cases (i==k)<;>rfl
theorem LS.early {M L:Array Bool} {S:List Nat} (h:LS M L S) (f:Nat):LS (M.setIfInBounds f true) L (f::S):=by
 refine ⟨by simp [h.1],fun k=>?_⟩
 rw [HG,h.2]
 simp only [Am]
 by_cases e:f=k<;>simp [e]
theorem LS.adopt {M L:Array Bool} {a b:List Nat} {i:Nat} (h:LS M L (a++i::b)):LS M (L.setIfInBounds i true) (a++b):=by
 refine ⟨by simp [h.1],fun k=>?_⟩
 rw [HG,h.2,Gc,Gc]
 simp only [Am]
 by_cases e:i=k
 ·simp [e]
 ·have:(i==k)=false:=by simpa using e
  rw [this]
  cases L.getD k true<;>cases Am a k<;>cases Am b k<;>simp [e]
theorem SB (L:Array Bool):∀ (fl:List Nat),(QM L fl).size=L.size/\∀ k,(QM L fl).getD k true=(L.getD k true||Am fl k):=by
 intro fl
 unfold QM
 induction fl generalizing L with
 | nil=>exact ⟨rfl,fun k=>by simp [Am]⟩
 | cons f fl ih =>
  obtain ⟨h1,h2⟩:=ih (L.setIfInBounds f true)
  refine ⟨by simpa using h1,fun k=>?_⟩
  rw [List.foldl_cons,h2,HG]
  simp only [Am]
  by_cases e:f=k
  ·simp [e]
  ·have:(f==k)=false:=by simpa using e
   rw [this,if_neg e,Bool.or_false]
def M9:List Bool->Nat
 | []=>0
 | b::r=>(if b=true then 0 else 1)+M9 r
theorem OZ:∀ (l:List Bool) (i:Nat),l[i]? = some false->M9 (l.set i true)+1=M9 l
 | [],i,h=>by simp at h
 | b::l,0,h=>by simp at h; subst h; simp [M9]; omega
 | b::l,i+1,h=>by
  have:=OZ l i (by simpa using h)
  simp only [List.set_cons_succ,M9]
  omega
theorem Iy {M:Array Bool} {i:Nat} (h:M.getD i true=false):M9 (M.setIfInBounds i true).toList+1=M9 M.toList:=by
 rw [Array.toList_setIfInBounds]
 apply OZ
 rw [Array.getD_eq_getD_getElem?] at h
 cases hq:M[i]? with
 | none=>rw [hq] at h; cases h
 | some b=>rw [hq] at h; simp at h; subst h; simpa using hq
theorem SC (n:Nat):M9 (List.replicate n false)=n:=by
 induction n with
 | zero=>rfl
 | succ n ih=>rw [List.replicate_succ]; simp [M9,ih]; omega
def Po (P:Program) (ops:Array Oper) (wb:World) (H:HP) (φ:Au) (st:List AD) (act:Act) (w:World) (f b:Nat):Prop :=
 ∃ o d obj,ops[f]? = some o/\o.dst=some d/\d<act.tmps.size/\R9 P o act obj/\act.tmps.getD d undef=LX o.op b/\Jc H φ st w b obj/\wb.heap.size<=b
theorem Po.put {ops:Array Oper} {wb:World} {H H':HP} {φ φ':Au} {st st':List AD} {act:Act} {w w':World} {f b:Nat} (h:Po P ops wb H φ st act w f b) {oi:Oper} {v:Value}
  (hsel:∀ (j:Nat) (o:Oper) cs b,ops[j]? = some o->o.op≠.select cs b) (hap:∀ o,ops[f]? = some o->oi.apart ops o=true) (hl:∀ obj,Jc H φ st w b obj->Jc H' φ' st' w' b obj):Po P ops wb H' φ' st' (act.put oi.dst v) w' f b:=by
 obtain ⟨o,d,obj,h1,h2,h3,h4,h5,h6,h7⟩:=h
 obtain ⟨a1,a2,_⟩:=Oper.apart_spec (hap o h1)
 refine ⟨o,d,obj,h1,h2,by rw [DF]; exact h3,fun w2=>?_,?_,hl obj h6,h7⟩
 ·rw [execOp_put o (fun cs b=>hsel f o cs b h1) act oi.dst v a1]
  exact h4 w2
 ·rw [E8 (fun e=>a2 d e h2)]
  exact h5
theorem NV {ops:Array Oper} {i:Nat} {js:List Nat} (h:Q_ ops i js=true) {j:Nat} (hj:j∈js):∃ a b,ops[i]? = some a/\ops[j]? = some b/\a.apart ops b=true/\b.apart ops a=true:=by
 have:=Ao.1 h j hj
 split at this
 ·rename_i a b ha hb
  simp only [J] at this
  exact ⟨a,b,ha,hb,this.1,this.2⟩
 ·cases this
theorem IQ {ops:Array Oper}:∀ {l:List Nat},HE ops l=true->∀ i∈l,∀ j∈l,i≠j->∃ a b,ops[i]? = some a/\ops[j]? = some b/\a.apart ops b=true
 | [],_,i,hi,_,_,_=>by cases hi
 | x::l,h,i,hi,j,hj,hne=>by
  simp only [HE,J] at h
  rcases AO.1 hi with e1 | hi
  ·subst e1
   rcases AO.1 hj with e2 | hj
   ·exact absurd e2.symm hne
   ·obtain ⟨a,b,h1,h2,h3,_⟩:=NV h.1.2 hj
    exact ⟨a,b,h1,h2,h3⟩
  ·rcases AO.1 hj with e2 | hj
   ·rw [e2]
    obtain ⟨a,b,h1,h2,_,h4⟩:=NV h.1.2 hi
    exact ⟨b,a,h2,h1,h4⟩
   ·exact IQ h.2 i hi j hj hne
theorem KS {s:St} {T:List (Nat×Nat)}:∀ {fl:List (Nat×CE)},J5 s T fl=true->∀ f∈fl,f.2.floatOk s=true/\J4 s f.2.dsts=true/\DO f.2.dsts T=true
 | [],_,f,hf=>by cases hf
 | g::fl,h,f,hf=>by
  simp only [J5,J] at h
  rcases AO.1 hf with rfl | hf
  ·exact ⟨h.1.1.1,h.1.1.2,h.1.2⟩
  ·exact KS h.2 f hf
theorem TP {n:Nat} {ops:Array Oper} {anc:List (List Nat)} {cal:CQ} (hcal:C_ P cal) (hA:PF ops anc=true) (hsel:Region.noSelect ops=true) {ρ:Type} {kn:St->Option ρ} {r:ρ} {N:Act->World->Prop}
  {Hb:HP} {φb:Au} {stb:List AD} {wb:World} {ab:Act}
  (hN:∀ s' act' w' H' φ',kn s'=some r->AK Hb φb stb wb H' φ' s'.st w'->B7 H' φ' s'.st s'.fr act'.tmps->act'.tmps.size=n->act'.defers=ab.defers->N act' w') :
  ∀ (t:DT) (fuel:Nat) (F S:List Nat) (B:Nat->Nat) (T:List (Nat×Nat)) (TT:Lo) (L M:Array Bool) (s:St) (act:Act) (w:World) (H:HP) (φ:Au),MA P n ops t L F=true->LS M L S->(∀ f∈S,Am F f=true/\f∈Region.ready .any ops L) ->
   S.Nodup->(∀ f∈S,∀ g∈S,f≠g->B f≠B g)->M9 M.toList<=fuel->M8 ops L->M8 ops M ->
   AK Hb φb stb wb H φ s.st w->B7 H φ s.st s.fr act.tmps->act.tmps.size=n->act.defers=ab.defers->Lb act w T TT->(∀ f∈S,∀ p∈TT,Am (anc.getD f []) p.1=false)->(∀ f∈S,Po P ops wb H φ s.st act w f (B f))->dK cal anc kn t T s=some r ->
   Jd P ops (fun e a w=>match e with | .normal=>N a w | _=>False) (fun i=>anc.getD i []) fuel TT M act w:=by
 have hsnd:=Region.noSelect_spec hsel
 intro t
 induction t with
 | done =>
  intro fuel F S B T TT L M s act w H φ hb hls hS _ _ hfu _ _ hB hf hn hde _ _ _ hk
  simp only [MA,J,List.isEmpty_iff] at hb
  have hS0:S=[]:=by
   cases S with
   | nil=>rfl
   | cons f S =>
    have:=(hS f (by simp)).2
    rw [hb.1] at this
    cases this
  subst hS0
  have hM:Region.ready .any ops M=[]:=by
   rw [List.eq_nil_iff_forall_not_mem]
   intro j hj
   obtain ⟨h1,o,h2,h3⟩:=mem_ready.1 hj
   have:j∈Region.ready .any ops L:=mem_ready.2 ⟨by have:=hls.2 j; simp only [Am,Bool.or_false] at this; rw [<- this]; exact h1,o,h2,fun e he hbi=>by have:=hls.getF e.on; simp only [Am,Bool.false_and,Bool.or_false] at this; rw [<- this]; exact h3 e he hbi⟩
   rw [hb.1] at this
   cases this
  have hq:=hN s act w H φ hk hB hf hn hde
  cases fuel with
  | zero=>exact ⟨hM,hq⟩
  | succ fuel=>exact ⟨fun _=>hq,fun i hi=>by rw [hM] at hi; cases hi⟩
 | test c a b iha ihb =>
  intro fuel F S B T TT L M s act w H φ hb hls hS hnd hBd hfu hsh hshM hB hf hn hde hp hAn hpf hk
  simp only [MA,J] at hb
  simp only [dK] at hk
  split at hk
  ·rename_i t ht
   have hfc:∀ t',t=t'->B7 H φ (s.put c (.bool t')).st (s.put c (.bool t')).fr act.tmps:=by
    intro t' e q
    subst e
    simp only [St.put,CA]
    split
    ·rename_i e; subst e; have:=hf c; rw [ht] at this; exact this
    ·exact hf q
   split at hk
   ·rename_i e
    exact iha fuel F S B T TT L M (s.put c (.bool true)) act w H φ hb.1 hls hS hnd hBd hfu hsh hshM hB (hfc true e) hn hde hp hAn hpf hk
   ·rename_i e
    exact ihb fuel F S B T TT L M (s.put c (.bool false)) act w H φ hb.2 hls hS hnd hBd hfu hsh hshM hB (hfc false (by simpa using e)) hn hde hp hAn hpf hk
  ·cases hk
 | fork i ai ri j aj rj ihi ihj =>
  intro fuel F S B T TT L M s act w H φ hb hls hS hnd hBd hfu hsh hshM hB hf hn hde hp hAn hpf hk
  simp only [MA,J,List.isEmpty_iff] at hb
  obtain ⟨⟨⟨⟨⟨⟨hF,hri⟩,hall⟩,hoi⟩,hoj⟩,hbi⟩,hbj⟩:=hb
  have hS0:S=[]:=by
   cases S with
   | nil=>rfl
   | cons f S =>
    have:=(hS f (by simp)).1
    rw [hF] at this
    cases this
  subst hS0
  simp only [dK] at hk
  obtain ⟨hki,hkj⟩:=Kk.1 hk
  have hq:∀ k∈Region.ready .any ops M,k∈Region.ready .any ops L:=fun k hk=>by
   obtain ⟨h1,o,h2,h3⟩:=mem_ready.1 hk
   exact mem_ready.2 ⟨by have:=hls.2 k; simp only [Am,Bool.or_false] at this; rw [<- this]; exact h1,o,h2,fun e he hbi=>by have:=hls.getF e.on; simp only [Am,Bool.false_and,Bool.or_false] at this; rw [<- this]; exact h3 e he hbi⟩
  have hqL:∀ k∈Region.ready .any ops L,k∈Region.ready .any ops M:=fun k hk=>by
   obtain ⟨h1,o,h2,h3⟩:=mem_ready.1 hk
   exact mem_ready.2 ⟨by rw [hls.2,h1]; rfl,o,h2,fun e he hbi=>by rw [hls.getF,h3 e he hbi]; rfl⟩
  obtain ⟨i0,hi0⟩:∃ k,k∈Region.ready .any ops L:=⟨i,by simpa using hri⟩
  obtain ⟨fuel,rfl⟩:∃ k,fuel=k+1:=⟨fuel-1,by
   have:=Iy (mem_ready.1 (hqL i0 hi0)).1
   omega⟩
  refine ⟨fun h=>(by have:=hqL i0 hi0; rw [h] at this; cases this),fun k hkM=>?_⟩
  have hcnt:=Iy (mem_ready.1 hkM).1
  have hkL:=hq k hkM
  have hkk:=Ao.1 hall k hkL
  simp only [EB,beq_iff_eq] at hkk
  rcases hkk with e | e
  ·subst e
   split at hoi
   case h_2=>cases hoi
   rename_i o hoi
   simp only [J,decide_eq_true_eq] at hoi
   obtain ⟨⟨hg,hob⟩,hds⟩:=hoi
   split at hki
   case isFalse=>cases hki
   rename_i hc
   simp only [J] at hc
   obtain ⟨hc2,hc3⟩:=hc
   have hfr:DO o.dst.toList T=true:=by rw [hds]; exact hc2
   unfold wpOp
   simp only [hoi,Hi (g:=none) hf rfl hg,if_true]
   refine .inl (Ma hcal hob ρ (fun s'=>dK cal anc kn ri (C6 (anc.getD k []) T) s') r s act w H φ _ _ hB.sr hf hn hki fun s' v w' H' φ' h1 h2 h3 h4=>?_)
   have hpend:Lb (act.put o.dst v) w' (C6 (anc.getD k []) T) (Gz (anc.getD k []) TT):=by
    intro p hp'
    obtain ⟨hp1,hp2⟩:=Cx p hp'
    obtain ⟨q1,q2⟩:=hp p hp1
    rcases q2 with q2 | ⟨x,hx,w0,e⟩
    ·exact ⟨q2 w',.inl q2⟩
    ·have hxf:=Fu hfr _ hx
     have hgd:(act.put o.dst v).tmps.getD x undef=act.tmps.getD x undef:=E8 (fun e=>hxf (by rw [e]; simp))
     refine ⟨?_,.inr ⟨x,EL hx hp2,w0,by rw [hgd]; exact e⟩⟩
     have hun:=Ix hB.sr h2 h4.mem (hf x) (HF hc3 _ hx hp2)
     rw [e] at q1 ⊢
     intro b hb'
     rw [hun b hb']
     exact q1 b hb'
   exact ⟨fun p hp'=>(hpend p hp').1,ihi fuel [] [] B _ _ (L.setIfInBounds k true) _ s' _ w' H' φ' hbi (hls.set k) (fun f hf'=>by cases hf') List.nodup_nil (fun f hf'=>by cases hf') (by omega) (hsh.set hkL) (hshM.set hkM) (hB.trans h2) h3 (DF.trans hn) (Co.trans hde) hpend (fun f hf'=>by cases hf') (fun f hf'=>by cases hf') h1⟩
  ·subst e
   split at hoj
   case h_2=>cases hoj
   rename_i o hoi
   simp only [J,decide_eq_true_eq] at hoj
   obtain ⟨⟨hg,hob⟩,hds⟩:=hoj
   split at hkj
   case isFalse=>cases hkj
   rename_i hc
   simp only [J] at hc
   obtain ⟨hc2,hc3⟩:=hc
   have hfr:DO o.dst.toList T=true:=by rw [hds]; exact hc2
   unfold wpOp
   simp only [hoi,Hi (g:=none) hf rfl hg,if_true]
   refine .inl (Ma hcal hob ρ (fun s'=>dK cal anc kn rj (C6 (anc.getD k []) T) s') r s act w H φ _ _ hB.sr hf hn hkj fun s' v w' H' φ' h1 h2 h3 h4=>?_)
   have hpend:Lb (act.put o.dst v) w' (C6 (anc.getD k []) T) (Gz (anc.getD k []) TT):=by
    intro p hp'
    obtain ⟨hp1,hp2⟩:=Cx p hp'
    obtain ⟨q1,q2⟩:=hp p hp1
    rcases q2 with q2 | ⟨x,hx,w0,e⟩
    ·exact ⟨q2 w',.inl q2⟩
    ·have hxf:=Fu hfr _ hx
     have hgd:(act.put o.dst v).tmps.getD x undef=act.tmps.getD x undef:=E8 (fun e=>hxf (by rw [e]; simp))
     refine ⟨?_,.inr ⟨x,EL hx hp2,w0,by rw [hgd]; exact e⟩⟩
     have hun:=Ix hB.sr h2 h4.mem (hf x) (HF hc3 _ hx hp2)
     rw [e] at q1 ⊢
     intro b hb'
     rw [hun b hb']
     exact q1 b hb'
   exact ⟨fun p hp'=>(hpend p hp').1,ihj fuel [] [] B _ _ (L.setIfInBounds k true) _ s' _ w' H' φ' hbj (hls.set k) (fun f hf'=>by cases hf') List.nodup_nil (fun f hf'=>by cases hf') (by omega) (hsh.set hkL) (hshM.set hkM) (hB.trans h2) h3 (DF.trans hn) (Co.trans hde) hpend (fun f hf'=>by cases hf') (fun f hf'=>by cases hf') h1⟩
 | skip i g d rt ih =>
  intro fuel F S B T TT L M s act w H φ hb hls hS hnd hBd hfu hsh hshM hB hf hn hde hp hAn hpf hk
  simp only [MA,J,Cc] at hb
  obtain ⟨⟨⟨⟨hr,hfree⟩,hiF⟩,ho⟩,hb⟩:=hb
  split at ho
  case h_2=>cases ho
  rename_i o hoi
  simp only [J,decide_eq_true_eq] at ho
  obtain ⟨⟨hg,rfl⟩,hdn⟩:=ho
  simp only [dK] at hk
  split at hk
  case isFalse=>cases hk
  rename_i hc
  simp only [J] at hc
  have hri:i∈Region.ready .any ops L:=by simpa using hr
  have hiS:i∉S:=fun h=>by have:=(hS i h).1; rw [hiF] at this; cases this
  have hriM:i∈Region.ready .any ops M:=by
   obtain ⟨h1,o',h2,h3⟩:=mem_ready.1 hri
   exact mem_ready.2 ⟨by rw [hls.2,h1,Aa.2 hiS]; rfl,o',h2,fun e he hbi=>by rw [hls.getF,h3 e he hbi]; rfl⟩
  have hfreeL:=Region.free_spec hoi hfree
  have hfreeM:∀ j oj,ops[j]? = some oj->j≠i->M.getD j true=false->(∀ e∈oj.after,Region.binds .any e=true->e.on≠i)->o.apart ops oj=true:=fun j oj h1 h2 h3 h4 =>
   hfreeL j oj h1 h2 (by rw [hls.2] at h3; simp only [Bool.or_eq_false_iff] at h3; exact h3.1) h4
  have hcnt:=Iy (mem_ready.1 hriM).1
  obtain ⟨fuel,rfl⟩:∃ k,fuel=k+1:=⟨fuel-1,by omega⟩
  refine KR hA (C:=fun _=>True) hoi hsnd (fun c a w h=>h) fuel TT M act w hshM hfreeM hriM (.inr ⟨OY hf hc.1 hg,rfl⟩) trivial (fun p hp'=>(hp p hp').1) ?_
  have hf2:B7 H φ s.st (OB o.dst .void s.fr) (act.put o.dst undef).tmps:=by
   cases hdst:o.dst with
   | none=>exact hf
   | some d =>
    rw [hdst] at hdn
    simp only [decide_eq_true_eq] at hdn
    exact hf.put (a:=.void) (v:=undef) (by omega) rfl
  have hAn':∀ (C:World->Prop),∀ f∈S,∀ p∈(i,C)::TT,Am (anc.getD f []) p.1=false:=fun C f hf' p hp'=>by
   rcases AO.1 hp' with rfl | hp'
   ·rw [Aa]
    intro hm
    have:=F6 hA hsh f (B3 (hS f hf').2).1 (B3 (hS f hf').2).2 _ hm
    rw [CO hri] at this
    cases this
   ·exact hAn f hf' p hp'
  refine ih fuel F S B T _ (L.setIfInBounds i true) _ ⟨OB o.dst .void s.fr,s.st⟩ _ w H φ hb (hls.set i) (fun f hf'=>⟨(hS f hf').1,ready_mono (hS f hf').2 (fun e=>hiS (e▸hf'))⟩) hnd hBd (by omega) (hsh.set hri) (hshM.set hriM) hB hf2 (DF.trans hn) (Co.trans hde) ?_ (hAn' _) (fun f hf'=>?_) hk
  ·intro p hp'
   rcases AO.1 hp' with rfl | hp'
   ·exact ⟨trivial,.inl fun _=>trivial⟩
   ·exact (hp.put hc.2) p hp'
  ·refine (hpf f hf').put hsnd (fun of hof=>hfreeL f of hof (fun e=>hiS (e▸hf')) (mem_ready.1 (hS f hf').2).1 (fun e he hbi heq=>?_)) (fun _ h=>h)
   obtain ⟨_,o',h2,h3⟩:=mem_ready.1 (hS f hf').2
   rw [hof] at h2
   cases h2
   have:=h3 e he hbi
   rw [heq,CO hri] at this
   cases this
 | take i g ao rt ih =>
  intro fuel F S B T TT L M s act w H φ hb hls hS hnd hBd hfu hsh hshM hB hf hn hde hp hAn hpf hk
  simp only [MA,J,Cc] at hb
  obtain ⟨⟨⟨⟨⟨hr,hfree⟩,hiF⟩,hval⟩,ho⟩,hb⟩:=hb
  split at ho
  case h_2=>cases ho
  rename_i o hoi
  simp only [J,decide_eq_true_eq] at ho
  obtain ⟨⟨hg,hob⟩,hds⟩:=ho
  simp only [dK] at hk
  split at hk
  case isFalse=>cases hk
  rename_i hc
  simp only [J] at hc
  obtain ⟨hc,hns⟩:=hc
  have hri:i∈Region.ready .any ops L:=by simpa using hr
  have hiS:i∉S:=fun h=>by have:=(hS i h).1; rw [hiF] at this; cases this
  have hriM:i∈Region.ready .any ops M:=by
   obtain ⟨h1,o',h2,h3⟩:=mem_ready.1 hri
   exact mem_ready.2 ⟨by rw [hls.2,h1,Aa.2 hiS]; rfl,o',h2,fun e he hbi=>by rw [hls.getF,h3 e he hbi]; rfl⟩
  have hfreeL:=Region.free_spec hoi hfree
  have hfreeM:∀ j oj,ops[j]? = some oj->j≠i->M.getD j true=false->(∀ e∈oj.after,Region.binds .any e=true->e.on≠i)->o.apart ops oj=true:=fun j oj h1 h2 h3 h4 =>
   hfreeL j oj h1 h2 (by rw [hls.2] at h3; simp only [Bool.or_eq_false_iff] at h3; exact h3.1) h4
  have hcnt:=Iy (mem_ready.1 hriM).1
  obtain ⟨fuel,rfl⟩:∃ k,fuel=k+1:=⟨fuel-1,by omega⟩
  have info:∃ s' v H' φ',dK cal anc kn rt (J3 i ao T) s'=some r/\AK H φ s.st w H' φ' s'.st w/\B7 H' φ' s'.st s'.fr (act.put o.dst v).tmps/\∀ w2,Br o act w w2->(execOp act.eval o).run P w2=.ok (.value v) w2:=by
   refine SA (P:=P) (o:=o) (a:=act) (w:=w) (Ma hcal hob ρ (fun s'=>dK cal anc kn rt (J3 i ao T) s') r s act w H φ _ _ hB.sr hf hn hk fun s' v w' H' φ' h1 h2 h3 h4=>?_)
   obtain ⟨e,h5⟩:=h4.val hval
   subst e
   exact ⟨s',v,H',φ',h1,h2,h3,h5⟩
  obtain ⟨s',v,H',φ',hk',hst,hf',hrun⟩:=info
  refine KR hA (C:=Br o act w) hoi hsnd (fun c a w h=>h) fuel TT M act w hshM hfreeM hriM (.inl ⟨Hi hf hc.1 hg,hrun⟩) (Br.refl o act w) (fun p hp'=>(hp p hp').1) ?_
  have hfr:DO o.dst.toList T=true:=by rw [hds]; exact hc.2
  have hAn':∀ (C:World->Prop),∀ f∈S,∀ p∈(i,C)::TT,Am (anc.getD f []) p.1=false:=fun C f hf' p hp'=>by
   rcases AO.1 hp' with rfl | hp'
   ·rw [Aa]
    intro hm
    have:=F6 hA hsh f (B3 (hS f hf').2).1 (B3 (hS f hf').2).2 _ hm
    rw [CO hri] at this
    cases this
   ·exact hAn f hf' p hp'
  refine ih fuel F S B _ _ (L.setIfInBounds i true) _ s' _ w H' φ' hb (hls.set i) (fun f hf'=>⟨(hS f hf').1,ready_mono (hS f hf').2 (fun e=>hiS (e▸hf'))⟩) hnd hBd (by omega) (hsh.set hri) (hshM.set hriM) (hB.trans hst) hf' (DF.trans hn) (Co.trans hde) ?_ (hAn' _) (fun f hfS=>?_) hk'
  ·intro p hp'
   rcases AO.1 hp' with rfl | hp'
   ·refine ⟨Br.refl o act w,?_⟩
    by_cases hload:∃ d x m,ao=.load d (.t x) m
    ·obtain ⟨d,x,m,rfl⟩:=hload
     simp only [L_] at hob
     obtain ⟨t,ht⟩:=RA hob
     right
     have hxd:o.dst≠some x:=by
      have hd1:o.dst=some d:=by
       simp only [MN,J] at hob
       exact (Ar hob.1).1
      rw [hd1]
      intro e
      cases e
      simp [CE.notSelf] at hns
     refine ⟨x,by simp [J3],w,?_⟩
     funext w2
     simp only [Br,ht,Act.eval]
     rw [E8 hxd]
    ·left
     intro w2
     unfold Br
     split
     ·rename_i t y hop
      exfalso
      apply hload
      exact QN hob hop hval hk
     ·trivial
   ·obtain ⟨h1,h2⟩:=(hp.put hfr) p hp'
    refine ⟨h1,?_⟩
    rcases h2 with h2 | ⟨x,hx,w0,e⟩
    ·exact .inl h2
    ·refine .inr ⟨x,?_,w0,e⟩
     unfold J3
     split
     ·exact List.mem_cons_of_mem _ hx
     ·exact hx
  ·refine (hpf f hfS).put hsnd (fun of hof=>hfreeL f of hof (fun e=>hiS (e▸hfS)) (mem_ready.1 (hS f hfS).2).1 (fun e he hbi heq=>?_)) (fun _ h=>h.step hst)
   obtain ⟨_,o',h2,h3⟩:=mem_ready.1 (hS f hfS).2
   rw [hof] at h2
   cases h2
   have:=h3 e he hbi
   rw [heq,CO hri] at this
   cases this
 | only i g ao e fl rt ih =>
  intro fuel
  induction fuel using Nat.strongRecOn with
  | _ fuel ihf =>
  intro F S B T TT L M s act w H φ hb hls hS hnd hBd hfu hsh hshM hB hf hn hde hp hAn hpf hk
  have hb0:=hb
  have hk0:=hk
  simp only [MA,J] at hb
  obtain ⟨⟨⟨⟨⟨⟨⟨hr,hrF⟩,hFs⟩,hFi⟩,hfl⟩,hap⟩,ho⟩,hb⟩:=hb
  split at ho
  case h_2=>cases ho
  rename_i o hoi
  simp only [J,decide_eq_true_eq] at ho
  obtain ⟨⟨hg,hob⟩,hds⟩:=ho
  simp only [dK] at hk
  split at hk
  case isFalse=>cases hk
  rename_i hc
  simp only [J] at hc
  obtain ⟨⟨⟨⟨⟨hc1,hc2⟩,hc3⟩,hc4⟩,hc6⟩,hc5⟩:=hc
  have hri:i∈Region.ready .any ops L:=by simpa using hr
  have hfr:DO o.dst.toList T=true:=by rw [hds]; exact hc2
  have hanc:∀ k∈anc.getD i [],k≠i:=fun k hk e=>by
   have:=F6 hA hsh i (B3 hri).1 (B3 hri).2 k hk
   rw [e,CO hri] at this
   cases this
  have hFsub:∀ f∈S,f=i\/f∈fl.map (·.1):=fun f hfS=>by
   have h1:=(hS f hfS).1
   have h2:=Ao.1 hFs f (Bd.1 h1)
   simp only [EB,beq_iff_eq] at h2
   exact h2.imp id Bd.1
  by_cases hiS:i∈S
  ·-- it came up before: now the boxes are told
   obtain ⟨oa,d,obj,q1,q2,q3,q4,q5,q6,q7⟩:=hpf i hiS
   rw [hoi] at q1
   cases q1
   have hfi:ao.isFloat=true:=by
    have h1:=(hS i hiS).1
    rw [h1] at hFi
    simp only [Bool.not_true,Bool.false_or,J] at hFi
    exact hFi.2
   have hfk:ao.floatOk s=true:=by
    have h1:=(hS i hiS).1
    rw [h1] at hFi
    simp only [Bool.not_true,Bool.false_or,J] at hFi
    rw [hFi.1] at hc5
    simpa using hc5
   obtain ⟨s',H',φ',hk',hst',hf',hoth⟩:=Q9 hob hfi hfk hB hf hk q4 (fun d' hd'=>by rw [q2] at hd'; cases hd'; exact q5) q6 q7
   obtain ⟨S1,S2,rfl⟩:=List.append_of_mem hiS
   have hnd2:i∉S1++S2/\(S1++S2).Nodup:=by
    rw [List.nodup_append] at hnd
    obtain ⟨n1,n2,n3⟩:=hnd
    rw [List.nodup_cons] at n2
    refine ⟨fun h=>?_,?_⟩
    ·rcases BE.1 h with h | h
     ·exact n3 i h i (by simp) rfl
     ·exact n2.1 h
    ·rw [List.nodup_append]
     exact ⟨n1,n2.2,fun a ha b hb=>n3 a ha b (by simp [hb])⟩
   have hsub:∀ f∈S1++S2,f∈S1++i::S2:=fun f h=>by
    rcases BE.1 h with h | h
    ·simp [h]
    ·simp [h]
   refine ih fuel (fl.map (·.1)) (S1++S2) B _ _ (L.setIfInBounds i true) M s' act w H' φ' hb hls.adopt (fun f hf'=>?_) hnd2.2 (fun f hf' g hg'=>hBd f (hsub f hf') g (hsub g hg')) hfu (hsh.set hri) hshM hst' hf' hn hde ?_ (fun f hf'=>hAn f (hsub f hf')) (fun f hf'=>?_) hk'
   ·have hne:f≠i:=fun e=>hnd2.1 (e▸hf')
    refine ⟨Bd.2 ((hFsub f (hsub f hf')).resolve_left hne),ready_mono (hS f (hsub f hf')).2 hne⟩
   ·intro p hp'
    obtain ⟨h1,h2⟩:=hp p hp'
    refine ⟨h1,?_⟩
    rcases h2 with h2 | ⟨x,hx,w0,e⟩
    ·exact .inl h2
    ·exact .inr ⟨x,EL hx (hAn i hiS p hp'),w0,e⟩
   ·obtain ⟨o2,d2,obj2,p1,p2,p3,p4,p5,p6,p7⟩:=hpf f (hsub f hf')
    have hne:f≠i:=fun e=>hnd2.1 (e▸hf')
    exact ⟨o2,d2,obj2,p1,p2,p3,p4,p5,hoth _ _ (hBd f (hsub f hf') i hiS hne) p6,p7⟩
  ·have hriM:i∈Region.ready .any ops M:=by
    obtain ⟨h1,o',h2,h3⟩:=mem_ready.1 hri
    exact mem_ready.2 ⟨by rw [hls.2,h1,Aa.2 hiS]; rfl,o',h2,fun e he hbi=>by rw [hls.getF,h3 e he hbi]; rfl⟩
   have hcnt:=Iy (mem_ready.1 hriM).1
   obtain ⟨fuel,rfl⟩:∃ k,fuel=k+1:=⟨fuel-1,by omega⟩
   have hSfl:∀ f∈S,f∈fl.map (·.1):=fun f hf'=>(hFsub f hf').resolve_left (fun e=>hiS (e▸hf'))
   refine ⟨fun h=>(by rw [h] at hriM; cases hriM),fun j hj=>?_⟩
   have hcj:=Iy (mem_ready.1 hj).1
   by_cases hji:j=i
   ·subst hji
    unfold wpOp
    simp only [hoi,Hi hf hc1 hg,if_true]
    refine .inl (Ma hcal hob ρ (fun s'=>dK cal anc kn rt (C6 (anc.getD j []) T) s') r s act w H φ _ _ hB.sr hf hn hk fun s' v w' H' φ' h1 h2 h3 h4=>?_)
    have hpend:Lb (act.put o.dst v) w' (C6 (anc.getD j []) T) (Gz (anc.getD j []) TT):=by
     intro p hp'
     obtain ⟨hp1,hp2⟩:=Cx p hp'
     obtain ⟨q1,q2⟩:=hp p hp1
     rcases q2 with q2 | ⟨x,hx,w0,e⟩
     ·exact ⟨q2 w',.inl q2⟩
     ·have hxf:=Fu hfr _ hx
      have hgd:(act.put o.dst v).tmps.getD x undef=act.tmps.getD x undef:=E8 (fun e=>hxf (by rw [e]; simp))
      refine ⟨?_,.inr ⟨x,EL hx hp2,w0,by rw [hgd]; exact e⟩⟩
      have hun:=Ix hB.sr h2 h4.mem (hf x) (HF hc3 _ hx hp2)
      rw [e] at q1 ⊢
      intro b hb'
      rw [hun b hb']
      exact q1 b hb'
    refine ⟨fun p hp'=>(hpend p hp').1,ih fuel (fl.map (·.1)) S B _ _ (L.setIfInBounds j true) _ s' _ w' H' φ' hb (hls.set j) (fun f hf'=>⟨Bd.2 (hSfl f hf'),ready_mono (hS f hf').2 (fun e=>hiS (e▸hf'))⟩) hnd hBd (by omega) (hsh.set hri) (hshM.set hj) (hB.trans h2) h3 (DF.trans hn) (Co.trans hde) hpend (fun f hf' p hp'=>hAn f hf' p (Cx p hp').1) (fun f hf'=>?_) h1⟩
    obtain ⟨a,b,k1,k2,k3⟩:=IQ hap j (by simp) f (List.mem_cons_of_mem _ (hSfl f hf')) (fun e=>hiS (e▸hf'))
    rw [hoi] at k1
    cases k1
    exact (hpf f hf').put hsnd (fun of hof=>by rw [k2] at hof; cases hof; exact k3) (fun _ h=>h.step h2)
   ·-- one that comes up ahead of its turn
    have hjS:j∉S:=fun h=>by
     have h1:=(mem_ready.1 hj).1
     rw [hls.2,Bd.2 h] at h1
     simp at h1
    have hjfl:j∈fl.map (·.1):=by
     rcases Classical.em (j∈fl.map (·.1)) with h | h
     ·exact h
     ·exfalso
      obtain ⟨h1,o',h2,h3⟩:=mem_ready.1 hj
      have hLF:=SB L (fl.map (·.1))
      have hrd:j∈Region.ready .any ops (QM L (fl.map (·.1))):=by
       refine mem_ready.2 ⟨?_,o',h2,fun e he hbi=>?_⟩
       ·rw [hLF.2,Aa.2 h]
        rw [hls.2] at h1
        simp only [Bool.or_eq_false_iff] at h1
        rw [h1.1]
        rfl
       ·have:=h3 e he hbi
        rw [Je] at this ⊢
        simp only [J,decide_eq_true_eq] at this ⊢
        refine ⟨?_,by rw [hLF.1,<- hls.1]; exact this.2⟩
        rw [hLF.2]
        have h4:=this.1
        rw [hls.2] at h4
        simp only [EB] at h4 ⊢
        exact h4.imp id fun h5=>Bd.2 (hSfl _ (Bd.1 h5))
      have:=Ao.1 hrF j hrd
      simp only [beq_iff_eq] at this
      exact hji this
    obtain ⟨⟨j',aj⟩,hjm,hje⟩:=List.mem_map.1 hjfl
    simp only at hje
    subst hje
    have hfb:=Ao.1 hfl _ hjm
    obtain ⟨k1,k2,k3⟩:=KS hc4 _ hjm
    have hpk:=Ao.1 hc6 _ hjm
    simp only [PG,J] at hfb
    obtain ⟨⟨hjr,hjfl2⟩,hfb⟩:=hfb
    split at hfb
    case h_2=>cases hfb
    rename_i oj hoj
    simp only [J,decide_eq_true_eq] at hfb
    obtain ⟨⟨⟨hjob,hjds⟩,hjg⟩,hjd⟩:=hfb
    split at hjd
    case h_2=>cases hjd
    rename_i d hdd
    simp only [J,Cc,decide_eq_true_eq] at hjd
    have hjL:j'∈Region.ready .any ops L:=by simpa using hjr
    obtain ⟨obj,hborn⟩:=R_ hjob hjfl2 k1 hB.sr hf
    have hst:AK H φ s.st w H φ s.st (w.alloc obj):=AK.grow hB.sr (World.grownBy_alloc w obj none)
    have hfrj:DO oj.dst.toList T=true:=by rw [hjds]; exact k3
    have hund:CA s.fr d=.undef:=by
     rw [<- hjds,hdd] at k2
     simp only [Option.toList_some,J4,Bool.and_true] at k2
     split at k2
     ·rename_i h; exact h
     ·cases k2
    have hf2:B7 H φ s.st s.fr (act.put oj.dst (LX oj.op w.heap.size)).tmps:=by
     intro t
     by_cases ht:t=d
     ·subst ht
      rw [hund]
      trivial
     ·rw [E8 (fun e=>ht (by rw [hdd] at e; cases e; rfl))]
      exact hf t
    have hpend:Lb (act.put oj.dst (LX oj.op w.heap.size)) (w.alloc obj) T (Gz (anc.getD j' []) TT):=by
     intro p hp'
     obtain ⟨hp1,hp2⟩:=Cx p hp'
     obtain ⟨q1,q2⟩:=hp p hp1
     rcases q2 with q2 | ⟨x,hx,w0,e⟩
     ·exact ⟨q2 _,.inl q2⟩
     ·have hxf:=Fu hfrj _ hx
      have hgd:(act.put oj.dst (LX oj.op w.heap.size)).tmps.getD x undef=act.tmps.getD x undef:=E8 (fun e=>hxf (by rw [e]; simp))
      refine ⟨?_,.inr ⟨x,hx,w0,by rw [hgd]; exact e⟩⟩
      have hun:=Ix hB.sr hst (L5.grown (W:=[]) hB.sr (World.grownBy_alloc w obj none)) (hf x) (HF hpk _ hx hp2)
      rw [e] at q1 ⊢
      intro b hb'
      rw [hun b hb']
      exact q1 b hb'
    have hiff:∀ f∈S,f≠j':=fun f hf' e=>hjS (e▸hf')
    unfold wpOp
    simp only [hoj,F5 (o:=oj) (Option.isNone_iff_eq_none.1 hjg) trivial,if_true]
    refine .inl (IJ (hborn w) ⟨fun p hp'=>(hpend p hp').1,?_⟩)
    have hbF:MA P n ops (.only i g ao e fl rt) L (fl.map (·.1))=true:=by
     have hni:Am (fl.map (·.1)) i=false:=by
      have:=hap
      simp only [HE,J,Cc] at this
      exact this.1.1
     simp only [MA,J] at hb0 ⊢
     obtain ⟨⟨⟨⟨⟨⟨⟨z1,z2⟩,_⟩,_⟩,z5⟩,z6⟩,z7⟩,z8⟩:=hb0
     exact ⟨⟨⟨⟨⟨⟨⟨z1,z2⟩,Ao.2 fun f hf'=>by simp [Bd.2 hf']⟩,by rw [hni]; rfl⟩,z5⟩,z6⟩,z7⟩,z8⟩
    refine ihf fuel (by omega) (fl.map (·.1)) (j'::S) (fun f=>if f=j' then w.heap.size else B f) T _ L _ s _ (w.alloc obj) H φ hbF (hls.early j') ?_ (List.nodup_cons.2 ⟨hjS,hnd⟩) ?_ (by omega) hsh (hshM.set hj) (hB.trans hst) hf2 (DF.trans hn) (Co.trans hde) hpend ?_ ?_ hk0
    ·intro f hf'
     rcases AO.1 hf' with rfl | hf'
     ·exact ⟨Bd.2 hjfl,hjL⟩
     ·exact ⟨Bd.2 (hSfl f hf'),(hS f hf').2⟩
    ·have hlt:∀ f∈S,B f<w.heap.size:=fun f hf'=>by
      obtain ⟨_,_,_,_,_,_,_,_,h6,_⟩:=hpf f hf'
      exact h6.lt
     intro f hf' g hg' hne
     rcases AO.1 hf' with e1 | hf'
     ·rcases AO.1 hg' with e2 | hg'
      ·exact absurd (e1.trans e2.symm) hne
      ·rw [if_pos e1,if_neg (hiff g hg')]
       have:=hlt g hg'
       omega
     ·rcases AO.1 hg' with e2 | hg'
      ·rw [if_pos e2,if_neg (hiff f hf')]
       have:=hlt f hf'
       omega
      ·rw [if_neg (hiff f hf'),if_neg (hiff g hg')]
       exact hBd f hf' g hg' hne
    ·intro f hf' p hp'
     rcases AO.1 hf' with rfl | hf'
     ·exact (Cx p hp').2
     ·exact hAn f hf' p (Cx p hp').1
    ·intro f hf'
     rcases AO.1 hf' with e1 | hf'
     ·subst e1
      rw [if_pos rfl]
      refine ⟨oj,d,obj,hoj,hdd,by rw [DF,hn]; exact hjd.2,fun w2=>?_,?_,Jc.alloc hB.sr obj,hB.size⟩
      ·rw [execOp_put oj (fun cs b=>hsnd f oj cs b hoj) act oj.dst _ (ops:=ops) (fun d' hd'=>by
        rw [hdd] at hd'
        cases hd'
        intro hm
        have:=hjd.1
        rw [List.contains_eq_mem,decide_eq_true hm] at this
        cases this)]
       exact hborn w2
      ·rw [F0 hdd,Array.getD_eq_getD_getElem?]
       simp [hn,hjd.2]
     ·rw [if_neg (hiff f hf')]
      obtain ⟨a,b,q1,q2,q3⟩:=IQ hap j' (List.mem_cons_of_mem _ hjfl) f (List.mem_cons_of_mem _ (hSfl f hf')) (fun e=>hiff f hf' e.symm)
      rw [hoj] at q1
      cases q1
      exact (hpf f hf').put hsnd (fun of hof=>by rw [q2] at hof; cases hof; exact q3) (fun _ h=>h.step hst)
theorem SD {n:Nat} {id:Nat} {ops:Array Oper} {anc:List (List Nat)} {t:DT} {cal:CQ} (hcal:C_ P cal) (h:Pn P n ops anc t=true) {ρ:Type} {kn:St->Option ρ} {r:ρ} {s:St} {act:Act} {w:World} {H:HP} {φ:Au} {Q:Exit->Act->World->Prop}
  (hs:SR H φ s.st w) (hf:B7 H φ s.st s.fr act.tmps) (hn:act.tmps.size=n) (hk:dK cal anc kn t [] s=some r)
  (hN:∀ s' act' w' H' φ',kn s'=some r->AK H φ s.st w H' φ' s'.st w'->B7 H' φ' s'.st s'.fr act'.tmps->act'.tmps.size=n->act'.defers=act.defers->Q .normal act' w'):(Code.region id ops true).wp P Q act w:=by
 simp only [Pn,J] at h
 obtain ⟨⟨⟨hm,hsel⟩,hA⟩,hb⟩:=h
 have hst:AK H φ s.st w H φ s.st { w with drawn:=w.drawn+1 }:=AK.grow hs ⟨rfl,rfl,rfl,Nat.le_refl _,fun _ _ _=>rfl⟩
 refine wp_mono (wp_region_any hm (Q:=fun e a w=>match e with | .normal=>Q .normal a w | _=>False) (Mf (anc:=fun i=>anc.getD i []) ops.size [] _ act _ ?_)) fun e a w h=>by cases e<;>first | exact h | exact h.elim
 have hsh:M8 ops (Array.replicate ops.size false):=by
  intro k o hk' _ _ _ _
  simp [Array.getElem?_replicate] at hk'
  split at hk'<;>simp at hk'
 exact TP (ab:=act) (N:=fun a w=>Q .normal a w) hcal hA hsel (fun s' act' w' H' φ' h1 h2 h3 h4 h5=>hN s' act' w' H' φ' h1 h2 h3 h4 h5) t ops.size [] [] (fun _=>0) [] [] (Array.replicate ops.size false) _ s act _ H φ hb (LS.refl _)
  (fun f hf=>by cases hf) List.nodup_nil (fun f hf=>by cases hf) (by simp [SC]) hsh hsh hst hf hn rfl (fun p hp=>by cases hp) (fun f hf=>by cases hf) (fun f hf=>by cases hf) hk
def Hw:List Nat->Nat
 | []=>0
 | i::r=>Nat.lor (Nat.shiftLeft 1 i) (Hw r)
def RB (ops:Array Oper):List Nat:=ops.toList.map fun o=>Hw ((o.after.filter fun e=>Region.binds .any e).toList.map (·.on))
def S6 (m i:Nat):Bool:=Nat.beq (Nat.land (Nat.shiftRight m i) 1) 1
def FT (pm:List Nat) (m i:Nat):Bool :=
 match pm[i]? with
 | some p=>!S6 m i&&Nat.beq (Nat.land p m) p
 | none=>false
def Pp (ops:Array Oper) (anc:List (List Nat)) (i:Nat):Bool :=
 match ops[i]? with
 | none=>false
 | some oi=>(List.range ops.size).all fun j=>j==i||Am (anc.getD i []) j||match ops[j]? with
   | some oj=>oj.after.any (fun e=>Region.binds .any e&&e.on==i)||oi.apart ops oj
   | none=>true
def PH (P:Program) (n:Nat) (ops:Array Oper) (pm:List Nat) (m:Nat) (f:Nat×CE):Bool :=
 FT pm m f.1&&f.2.isFloat&&(match ops[f.1]? with
  | some o=>L_ P n o f.2&&decide (o.dst.toList=f.2.dsts)&&o.guard.isNone&&(match o.dst with
   | some d=>!(o.looksAt ops).contains d&&decide (d<n)
   | none=>false)
  | none=>false)
def PI (P:Program) (n:Nat) (ops:Array Oper) (anc:List (List Nat)) (pm:List Nat):DT->Array Bool->Nat->List Nat->Bool
 | .done,_,m,F=>(List.range ops.size).all (fun i=>!FT pm m i)&&F.isEmpty
 | .take i g ao r,L,m,F=>FT pm m i&&(Pp ops anc i||Region.free .any ops L i)&&!Am F i&&ao.isVal&&(match ops[i]? with
   | some o=>gB ops o g&&L_ P n o ao&&decide (o.dst.toList=ao.dsts)
   | none=>false)&&PI P n ops anc pm r (L.setIfInBounds i true) (Nat.lor m (Nat.shiftLeft 1 i)) F
 | .skip i g d r,L,m,F=>FT pm m i&&(Pp ops anc i||Region.free .any ops L i)&&!Am F i&&(match ops[i]? with
   | some o=>gB ops o (some g)&&decide (o.dst=d)&&(match d with | some d=>decide (d<n) | none=>true)
   | none=>false)&&PI P n ops anc pm r (L.setIfInBounds i true) (Nat.lor m (Nat.shiftLeft 1 i)) F
 | .only i g ao e fl r,L,m,F=>FT pm m i&&(List.range ops.size).all (fun k=>k==i||!FT pm (Nat.lor m (Hw (fl.map (·.1)))) k)&&F.all (fun f=>f==i||Am (fl.map (·.1)) f)&&(!Am F i||(e&&ao.isFloat))
   && fl.all (PH P n ops pm m)&&HE ops (i::fl.map (·.1))&&(match ops[i]? with
   | some o=>gB ops o g&&L_ P n o ao&&decide (o.dst.toList=ao.dsts)
   | none=>false)&&PI P n ops anc pm r (L.setIfInBounds i true) (Nat.lor m (Nat.shiftLeft 1 i)) (fl.map (·.1))
 | .test _ a b,L,m,F=>PI P n ops anc pm a L m F&&PI P n ops anc pm b L m F
 | .fork i ai ri j aj rj,L,m,F=>F.isEmpty&&(FT pm m i&&FT pm m j)&&(List.range ops.size).all (fun k=>(k==i||k==j)||!FT pm m k)
   && (match ops[i]? with
   | some o=>gB ops o none&&L_ P n o ai&&decide (o.dst.toList=ai.dsts)
   | none=>false)&&(match ops[j]? with
   | some o=>gB ops o none&&L_ P n o aj&&decide (o.dst.toList=aj.dsts)
   | none=>false)&&PI P n ops anc pm ri (L.setIfInBounds i true) (Nat.lor m (Nat.shiftLeft 1 i)) []&&PI P n ops anc pm rj (L.setIfInBounds j true) (Nat.lor m (Nat.shiftLeft 1 j)) []
def RC (P:Program) (n:Nat) (ops:Array Oper) (anc:List (List Nat)) (t:DT):Bool :=
 P.follows .mixedOrders&&Region.noSelect ops&&PF ops anc&&PI P n ops anc (RB ops) t (Array.replicate ops.size false) 0 []
theorem SE (m i:Nat):S6 m i=m.testBit i:=by
 have h:Nat.land (Nat.shiftRight m i) 1=(m >>> i) &&& 1:=rfl
 unfold S6
 rw [h,Nat.testBit,Nat.and_comm,Nat.one_and_eq_mod_two]
 have:=Nat.mod_two_eq_zero_or_one (m >>> i)
 rcases this with e | e<;>rw [e]<;>rfl
theorem SF (m i j:Nat):(Nat.lor m (Nat.shiftLeft 1 i)).testBit j=(m.testBit j||decide (i=j)):=by
 have h:Nat.lor m (Nat.shiftLeft 1 i)=m ||| (1 <<< i):=rfl
 rw [h,Nat.testBit_or,Nat.one_shiftLeft,Nat.testBit_two_pow]
theorem NW (j:Nat):∀ l:List Nat,(Hw l).testBit j=decide (j∈l)
 | []=>by simp [Hw]
 | i::r=>by
  have h:Hw (i::r)=(1 <<< i) ||| Hw r:=rfl
  rw [h,Nat.testBit_or,Nat.one_shiftLeft,Nat.testBit_two_pow,NW j r]
  by_cases e:i=j
  ·subst e; simp
  ·simp [e,Ne.symm e]
theorem RD (p m:Nat):Nat.beq (Nat.land p m) p=true↔∀ j,p.testBit j=true->m.testBit j=true:=by
 have h:Nat.land p m=p &&& m:=rfl
 rw [Nat.beq_eq,h]
 constructor
 ·intro e j hj
  have:=congrArg (fun x=>Nat.testBit x j) e
  simp only [Nat.testBit_and,hj,Bool.true_and] at this
  exact this
 ·intro e
  refine Nat.eq_of_testBit_eq fun j=>?_
  rw [Nat.testBit_and]
  cases hj:p.testBit j with
  | false=>rfl
  | true=>rw [e j hj]; rfl
def LM (ops:Array Oper) (L:Array Bool) (m:Nat):Prop:=L.size=ops.size/\∀ j,L.getD j false=m.testBit j
theorem Cp {ops:Array Oper} {L:Array Bool} {m:Nat} (h:LM ops L m) (i:Nat):FT (RB ops) m i=true↔i∈Region.ready .any ops L:=by
 unfold FT RB
 rw [mem_ready,BF,Array.getElem?_toList]
 cases ho:ops[i]? with
 | none=>simp
 | some o =>
  have hi:i<ops.size:=(Array.getElem?_eq_some_iff.1 ho).1
  have h0:L.getD i true=L.getD i false:=by simp [Array.getD,h.1,hi]
  simp only [Option.map_some,J,Cc,RD,NW,decide_eq_true_eq,List.mem_map,Array.mem_toList_iff,Array.mem_filter,AY,exists_eq_left',SE,h0,h.2]
  constructor
  ·rintro ⟨a,b⟩
   exact ⟨a,fun e he hb=>b e.on ⟨e,⟨he,hb⟩,rfl⟩⟩
  ·rintro ⟨a,b⟩
   refine ⟨a,?_⟩
   rintro j ⟨e,⟨he,hb⟩,rfl⟩
   exact b e he hb
theorem LM.set {ops:Array Oper} {L:Array Bool} {m i:Nat} (h:LM ops L m) (hi:i<ops.size):LM ops (L.setIfInBounds i true) (Nat.lor m (Nat.shiftLeft 1 i)):=by
 refine ⟨by rw [Array.size_setIfInBounds]; exact h.1,fun j=>?_⟩
 rw [SF,<- h.2 j]
 by_cases e:i=j
 ·subst e
  simp [Array.getD,h.1,hi]
 ·rw [getD_set_ne false e]; simp [e]
theorem LM.add {ops:Array Oper}:∀ (fl:List Nat) {L:Array Bool} {m:Nat},LM ops L m->(∀ f∈fl,f<ops.size)->LM ops (QM L fl) (Nat.lor m (Hw fl))
 | [],L,m,h,_=>by
  have e:Nat.lor m (Hw [])=m ||| 0:=rfl
  rw [e,Nat.or_zero]
  exact h
 | i::r,L,m,h,hl=>by
  have:=LM.add r (h.set (hl i (by simp))) fun f hf=>hl f (List.mem_cons_of_mem _ hf)
  have e:Nat.lor m (Hw (i::r))=Nat.lor (Nat.lor m (Nat.shiftLeft 1 i)) (Hw r):=(Nat.or_assoc m (1 <<< i) (Hw r)).symm
  rw [e]
  exact this
theorem EX {ops:Array Oper} {L:Array Bool} {i:Nat} (h:i∈Region.ready .any ops L):i<ops.size:=(B3 h).2
theorem Pq {ops:Array Oper} {anc:List (List Nat)} (hA:PF ops anc=true) {L:Array Bool} (hs:M8 ops L) {i:Nat} (hr:i∈Region.ready .any ops L) (h:Pp ops anc i=true):Region.free .any ops L i=true:=by
 unfold Pp at h
 unfold Region.free
 split at h
 ·cases h
 ·rename_i oi hi
  rw [hi]
  simp only
  rw [Ao] at h ⊢
  intro j hj
  have h1:=h j hj
  simp only [EB] at h1 ⊢
  rcases h1 with (h1 | h1) | h1
  ·exact .inl (.inl h1)
  ·have:=F6 hA hs i (B3 hr).1 (B3 hr).2 j (Bd.1 h1)
   exact .inl (.inr (by
    have hl:j<L.size:=by
     rcases Ax j L.size with q | q
     ·exact q
     ·simp [Array.getD,Nat.not_lt.2 q] at this
    simp [Array.getD,hl] at this ⊢
    exact this))
  ·exact .inr h1
theorem TQ {P:Program} {n:Nat} {ops:Array Oper} {anc:List (List Nat)} (hA:PF ops anc=true):∀ (t:DT) (L:Array Bool) (m:Nat) (F:List Nat),LM ops L m->M8 ops L->PI P n ops anc (RB ops) t L m F=true->MA P n ops t L F=true:=by
 intro t
 induction t with
 | done =>
  intro L m F hL _ h
  simp only [PI,MA,J,List.isEmpty_iff] at h ⊢
  refine ⟨?_,h.2⟩
  rw [List.eq_nil_iff_forall_not_mem]
  intro j hj
  have:=Ao.1 h.1 j (List.mem_range.2 (EX hj))
  rw [(Cp hL j).2 hj] at this
  cases this
 | test c a b iha ihb =>
  intro L m F hL hs h
  simp only [PI,MA,J] at h ⊢
  exact ⟨iha _ _ _ hL hs h.1,ihb _ _ _ hL hs h.2⟩
 | take i g ao r ih =>
  intro L m F hL hs h
  simp only [PI,MA,J] at h ⊢
  obtain ⟨⟨⟨⟨⟨h1,h2⟩,h3⟩,h4⟩,h5⟩,h6⟩:=h
  have hr:=(Cp hL i).1 h1
  refine ⟨⟨⟨⟨⟨by simpa using hr,?_⟩,h3⟩,h4⟩,h5⟩,ih _ _ _ (hL.set (EX hr)) (hs.set hr) h6⟩
  rcases EB _ _▸h2 with q | q
  ·exact Pq hA hs hr q
  ·exact q
 | skip i g d r ih =>
  intro L m F hL hs h
  simp only [PI,MA,J] at h ⊢
  obtain ⟨⟨⟨⟨h1,h2⟩,h3⟩,h5⟩,h6⟩:=h
  have hr:=(Cp hL i).1 h1
  refine ⟨⟨⟨⟨by simpa using hr,?_⟩,h3⟩,h5⟩,ih _ _ _ (hL.set (EX hr)) (hs.set hr) h6⟩
  rcases EB _ _▸h2 with q | q
  ·exact Pq hA hs hr q
  ·exact q
 | only i g ao e fl r ih =>
  intro L m F hL hs h
  simp only [PI,MA,J] at h ⊢
  obtain ⟨⟨⟨⟨⟨⟨⟨h1,h2⟩,h3⟩,h4⟩,h5⟩,h6⟩,h7⟩,h8⟩:=h
  have hr:=(Cp hL i).1 h1
  have hfl:∀ f∈fl,FT (RB ops) m f.1=true:=fun f hf=>by
   have:=Ao.1 h5 f hf
   simp only [PH,J] at this
   exact this.1.1
  have hL2:=LM.add (fl.map (·.1)) hL fun f hf=>by
   obtain ⟨g,hg,rfl⟩:=List.mem_map.1 hf
   exact EX ((Cp hL g.1).1 (hfl g hg))
  refine ⟨⟨⟨⟨⟨⟨⟨by simpa using hr,?_⟩,h3⟩,h4⟩,?_⟩,h6⟩,h7⟩,ih _ _ _ (hL.set (EX hr)) (hs.set hr) h8⟩
  ·rw [Ao]
   intro k hk
   have:=Ao.1 h2 k (List.mem_range.2 (EX hk))
   rw [(Cp hL2 k).2 hk] at this
   simpa using this
  ·rw [Ao]
   intro f hf
   have h9:=Ao.1 h5 f hf
   unfold PH at h9
   unfold PG
   rw [hfl f hf] at h9
   have h10:(Region.ready .any ops L).contains f.1=true:=by simpa using (Cp hL f.1).1 (hfl f hf)
   rw [h10]
   exact h9
 | fork i ai ri j aj rj ihi ihj =>
  intro L m F hL hs h
  simp only [PI,MA,J] at h ⊢
  obtain ⟨⟨⟨⟨⟨⟨h0,h1⟩,h2⟩,h3⟩,h4⟩,h5⟩,h6⟩:=h
  have hr:=(Cp hL i).1 h1.1
  have hr2:=(Cp hL j).1 h1.2
  have hall:(Region.ready .any ops L).all (fun k=>k==i||k==j)=true:=by
   rw [Ao]
   intro k hk
   have:=Ao.1 h2 k (List.mem_range.2 (EX hk))
   rw [(Cp hL k).2 hk] at this
   simpa using this
  exact ⟨⟨⟨⟨⟨⟨h0,by simpa using hr⟩,hall⟩,h3⟩,h4⟩,ihi _ _ _ (hL.set (EX hr)) (hs.set hr) h5⟩,ihj _ _ _ (hL.set (EX hr2)) (hs.set hr2) h6⟩
theorem RE {P:Program} {n:Nat} {ops:Array Oper} {anc:List (List Nat)} {t:DT} (h:RC P n ops anc t=true):Pn P n ops anc t=true:=by
 simp only [RC,Pn,J] at h ⊢
 refine ⟨h.1,TQ h.1.2 t _ 0 [] ⟨by simp,fun j=>?_⟩ ?_ h.2⟩
 ·rw [Nat.zero_testBit]
  simp [Array.getD]
 ·intro k o hk' _ _ _ _
  simp [Array.getElem?_replicate] at hk'
  split at hk'<;>simp at hk'

theorem QO {st:List AD} {N k:Nat} {cs:List AV} (h:(st.map (AD.older N))[k]? = some (.var cs)) {o i:Nat} (ho:cs[o]? = some (.row i)):i<N:=by
 rw [BF] at h
 cases hb:st[k]? with
 | none=>rw [hb] at h; cases h
 | some b =>
  rw [hb] at h
  cases b with
  | var cs0 =>
   cases h
   rw [BF] at ho
   cases hc:cs0[o]? with
   | none=>rw [hc] at ho; cases ho
   | some c =>
    rw [hc] at ho
    simp only [Option.map_some,AY] at ho
    cases c<;>simp only [AV.olderC] at ho<;>try cases ho
    split at ho
    ·rename_i hn
     cases ho
     exact hn
    ·cases ho
  | _=>cases h
theorem SR.cut {H:HP} {φ:Au} {st:List AD} {w:World} (h:SR H φ st w) (N:Nat):SR H φ ((st.take N).map (AD.older N)) w:=by
 have h2:=h.older N
 rw [List.map_take]
 have get:∀ (i:Nat) (b:AD),((st.map (AD.older N)).take N)[i]? = some b->(st.map (AD.older N))[i]? = some b:=by
  intro i b hi
  rw [Aq] at hi
  split at hi
  ·exact hi
  ·cases hi
 refine ⟨h2.hp,fun i b hi=>h2.box i b (get i b hi),fun i j bi bj hi hj=>h2.sep i j bi bj (get i bi hi) (get j bj hj),fun i bi hi=>h2.out i bi (get i bi hi),fun id cs hid o i ho=>?_,h2.tb⟩
 obtain ⟨h3,h4⟩:=h2.cell id cs (get id _ hid) o i ho
 have hi:=QO (get id _ hid) ho
 refine ⟨?_,h4⟩
 unfold Z at h3 ⊢
 rw [Aq,if_pos hi]
 exact h3
theorem AK.cut {H H':HP} {φ φ':Au} {st st':List AD} {w w':World} (h:AK H φ st w H' φ' st' w') {N:Nat} (hN:st.length<=N):AK H φ st w H' φ' ((st'.take N).map (AD.older N)) w':=by
 refine ⟨h.le,h.sr.cut N,fun mv m0 H0 φ0 w0 f=>?_⟩
 have f2:=h.fr mv m0 H0 φ0 w0 f
 refine { f2 with new:=fun i bi hbi hl b hb=>?_,vars:=fun j hj=>?_ }
 ·rw [BF,Aq] at hbi
  split at hbi
  ·cases hb0:st'[i]? with
   | none=>rw [hb0] at hbi; cases hbi
   | some b0 =>
    rw [hb0] at hbi
    cases hbi
    exact f2.new i b0 hb0 (by cases b0<;>exact hl) b hb
  ·cases hbi
 ·have h1:=El (f.vars j hj)
  have h2:=f2.vars j hj
  rw [CL (FS N)]
  unfold AG at h2 ⊢
  rw [Aq,if_pos (by omega)]
  exact h2
theorem B7.cut {H:HP} {φ:Au} {st:List AD} {fr:List (Nat×AV)} {tmps:Array Value} (h:B7 H φ st fr tmps) (live:List Nat) (N:Nat) :
  B7 H φ ((st.take N).map (AD.older N)) (live.map fun t=>(t,(CA fr t).older N)) tmps:=by
 intro t
 rcases NK fr (fun a=>a.older N) live t with e | e
 ·rw [e]; trivial
 ·rw [e]; exact (h t).older N
theorem Oa {s s':St} {i:Nat} {v a:AV} {ids:List Nat} (h:s.intoRow i v=some (a,s',ids)):s'.st.length=s.st.length:=by
 unfold St.intoRow at h
 split at h
 ·split at h
  ·cases h; rfl
  ·split at h
   ·split at h
    ·cases h; simp
    ·cases h
   ·cases h
 ·split at h
  ·cases h; simp
  ·cases h
 ·cases h
theorem SG {H:HP} {φ:Au} {s:St} {w:World} {tmps:Array Value} (hs:SR H φ s.st w) (hf:B7 H φ s.st s.fr tmps) (n t i:Nat) :
  ∃ φ',AK H φ s.st w H φ' (s.home n t i).st w/\B7 H φ' (s.home n t i).st (s.home n t i).fr tmps/\(s.home n t i).st.length=s.st.length:=by
 have same:∃ φ',AK H φ s.st w H φ' s.st w/\B7 H φ' s.st s.fr tmps/\s.st.length=s.st.length:=⟨φ,AK.refl hs,hf,rfl⟩
 unfold St.home
 split
 ·rename_i k hk
  split
  ·split
   ·rename_i x hx
    have hv:=hf t
    rw [hk] at hv
    obtain ⟨a,s1,ids⟩:=x
    obtain ⟨φ',h1,_,_,h4,h5,h6⟩:=KB hs (v:=.row k) (u:=tmps.getD t undef) hv hx
    exact ⟨φ',h1,B7.cons (h6 tmps hf) ⟨h5,h4⟩,(Oa hx:s1.st.length=s.st.length)⟩
   ·exact same
  ·exact same
 ·exact same
theorem Ob {w:World} {tmps:Array Value} {n:Nat}:∀ (hs:List (Nat×Nat)) {H:HP} {φ:Au} {s:St},SR H φ s.st w->B7 H φ s.st s.fr tmps ->
  ∃ φ',AK H φ s.st w H φ' (St.homes n hs s).st w/\B7 H φ' (St.homes n hs s).st (St.homes n hs s).fr tmps/\(St.homes n hs s).st.length=s.st.length
 | [],H,φ,s,h,hf=>⟨φ,AK.refl h,hf,rfl⟩
 | p::r,H,φ,s,h,hf=>by
  obtain ⟨φ1,a1,a2,a3⟩:=SG h hf n p.1 p.2
  obtain ⟨φ2,b1,b2,b3⟩:=Ob r a1.sr a2
  exact ⟨φ2,a1.trans b1,b2,b3.trans a3⟩
theorem N3 {H H':HP} {φ φ':Au} {st:List AD} {s':St} {w w':World} {tmps:Array Value} (h:AK H φ st w H' φ' s'.st w') (hf:B7 H' φ' s'.st s'.fr tmps) (hs:List (Nat×Nat)) (live:List Nat) {N:Nat} (hN:st.length<=N) :
  ∃ φ2,AK H φ st w H' φ2 (s'.cutH hs live N).st w'/\B7 H' φ2 (s'.cutH hs live N).st (s'.cutH hs live N).fr tmps:=by
 obtain ⟨φ2,a1,a2,_⟩:=Ob (n:=N) hs h.sr hf
 exact ⟨φ2,(h.trans a1).cut hN,a2.cut live N⟩
def Jf (P:Program) (c:Code) (Q:Exit->Act->World->Prop) (a:Act) (w:World):Prop :=
 ∀ (b:Frame) (k:List Item) (cs:List Frame),∃ e a' w',Q e a' w'/\Arrives P (lone (b.at a (.code c::.inLoop c::k)) cs w) b k cs e a' w'
theorem Jf.wp {c:Code} {Q:Exit->Act->World->Prop} {a:Act} {w:World} (h:Jf P c Q a w):(Code.loop c).wp P Q a w:=by
 intro b k cs
 obtain ⟨e,a',w',hq,harr⟩:=h b k cs
 exact ⟨e,a',w',hq,.of_steps (.one step_loop) harr⟩
theorem Jf.round {c:Code} {Q:Exit->Act->World->Prop} {a:Act} {w:World} (h:c.wp P (Exit.then (Jf P c Q) Q) a w):Jf P c Q a w:=by
 intro b k cs
 obtain ⟨e,a₁,w₁,hq,harr⟩:=h b (.inLoop c::k) cs
 cases e with
 | normal =>
  obtain ⟨e₂,a₂,w₂,hq₂,harr₂⟩:=hq b k cs
  exact ⟨e₂,a₂,w₂,hq₂,.of_steps (Steps.trans harr (.one step_inLoop)) harr₂⟩
 | exit id=>exact ⟨_,a₁,w₁,hq,.pass (x:=.inLoop c) rfl (fun _ _=>.inl (by simp)) harr⟩
 | goto l=>exact ⟨_,a₁,w₁,hq,.pass (x:=.inLoop c) rfl (fun _ _=>.inl (by simp)) harr⟩
 | ret=>exact ⟨_,a₁,w₁,hq,.pass (x:=.inLoop c) rfl (fun _ _=>.inl (by simp)) harr⟩
 | panic ch=>exact ⟨_,a₁,w₁,hq,.pass (x:=.inLoop c) rfl (fun _ _=>.inl (by simp)) harr⟩
 | outgrown=>exact ⟨_,a₁,w₁,hq,.pass (x:=.inLoop c) rfl (fun _ _=>.inl (by simp)) harr⟩
def CV (P:Program) (n:Nat):Code->Ab->Bool
 | .skip,.skip=>true
 | .region _ ops false,.region aos _=>decide (I2 P n ops none [] 0 aos=some ops.size)
 | .region _ ops true,.draw anc t _=>RC P n ops anc t
 | .seq x y,.seq a b=>CV P n x a&&CV P n y b
 | .seq x y,.seqc _ a b=>CV P n x a&&CV P n y b
 | .cond c x y,.cond c' a b=>Bc c c'&&CV P n x a&&CV P n y b
 | .block id x,.block id' _ a=>id==id'&&CV P n x a
 | .loop x,.loop _ a=>CV P n x a
 | .exit id,.exit id'=>id==id'
 | .ret,.ret=>true
 | _,_=>false
def Lc {ρ:Type} (n:Nat) (q:St->Option ρ) (r:ρ) (s:St) (act:Act) (w:World) (H:HP) (φ:Au) (N:Act->World->Prop):Prop :=
 ∀ s' act' w' H' φ',q s'=some r->AK H φ s.st w H' φ' s'.st w'->B7 H' φ' s'.st s'.fr act'.tmps->act'.tmps.size=n->act'.defers=act.defers->N act' w'
def RF (P:Program) (n:Nat) (cal:CQ) (k:Nat) (c:Code) (ac:Ab):Prop :=
 ∀ (ρ:Type) (kn kr:St->Option ρ) (ke:Nat->St->Option ρ) (r:ρ) (s:St) (act:Act) (w:World) (H:HP) (φ:Au) (Q:Exit->Act->World->Prop),
  SR H φ s.st w->B7 H φ s.st s.fr act.tmps->act.tmps.size=n->C3 cal k ac kn kr ke s=some r ->
  Lc n kn r s act w H φ (Q .normal)->Lc n kr r s act w H φ (Q .ret)->(∀ i,Lc n (ke i) r s act w H φ (Q (.exit i)))->c.wp P Q act w
theorem Lc.step {ρ:Type} {n:Nat} {q:St->Option ρ} {r:ρ} {s s1:St} {act act1:Act} {w w1:World} {H H1:HP} {φ φ1:Au} {N:Act->World->Prop}
  (h:Lc n q r s act w H φ N) (hst:AK H φ s.st w H1 φ1 s1.st w1) (hd:act1.defers=act.defers):Lc n q r s1 act1 w1 H1 φ1 N :=
 fun s' act' w' H' φ' hq hs hf hn hd'=>h s' act' w' H' φ' hq (hst.trans hs) hf hn (hd'.trans hd)
theorem Oc {n:Nat} {cal:CQ} {k:Nat} (hcal:C_ P cal) {id:Nat} {ops:Array Oper} {aos:List CE} {live:List Nat} (h:I2 P n ops none [] 0 aos=some ops.size) :
  RF P n cal k (.region id ops false) (.region aos live):=by
 intro ρ kn kr ke r s act w H φ Q hs hf hn hk hnorm _ _
 simp only [C3] at hk
 refine QK hcal h hs hf hn hk fun s' act' w' H' φ' hk' hst hf' hn' hd'=>?_
 exact hnorm _ act' w' H' φ' hk' hst (hf'.live live) hn' hd'
theorem SH {n:Nat} {cal:CQ} {k:Nat} (hcal:C_ P cal):∀ (ac:Ab) (c:Code),CV P n c ac=true->RF P n cal k c ac:=by
 intro ac
 induction ac with
 | skip =>
  intro c h
  cases c<;>first | (simp [CV] at h; done) | skip
  intro ρ kn kr ke r s act w H φ Q hs hf hn hk h1 _ _
  exact wp_skip (h1 s act w H φ hk (AK.refl hs) hf hn rfl)
 | ret =>
  intro c h
  cases c<;>first | (simp [CV] at h; done) | skip
  intro ρ kn kr ke r s act w H φ Q hs hf hn hk _ h2 _
  exact wp_ret (h2 s act w H φ hk (AK.refl hs) hf hn rfl)
 | exit id =>
  intro c h
  cases c<;>first | (simp [CV] at h; done) | skip
  rename_i id'
  simp only [CV,beq_iff_eq] at h
  subst h
  intro ρ kn kr ke r s act w H φ Q hs hf hn hk _ _ h3
  exact wp_exit (h3 id' s act w H φ hk (AK.refl hs) hf hn rfl)
 | region aos live =>
  intro c h
  cases c<;>first | (simp [CV] at h; done) | skip
  rename_i id ops draw
  cases draw
  ·simp only [CV,decide_eq_true_eq] at h
   exact Oc hcal h
  ·simp [CV] at h
 | draw anc t live =>
  intro c h
  cases c<;>first | (simp [CV] at h; done) | skip
  rename_i id ops draw
  cases draw
  ·simp [CV] at h
  ·simp only [CV] at h
   intro ρ kn kr ke r s act w H φ Q hs hf hn hk hnorm _ _
   simp only [C3] at hk
   exact SD hcal (RE h) hs hf hn hk fun s' act' w' H' φ' hk' hst hf' hn' hd'=>hnorm _ act' w' H' φ' hk' hst (hf'.live live) hn' hd'
 | seq a b iha ihb =>
  intro c h
  cases c<;>first | (simp [CV] at h; done) | skip
  rename_i x y
  simp only [CV,J] at h
  intro ρ kn kr ke r s act w H φ Q hs hf hn hk h1 h2 h3
  simp only [C3] at hk
  refine wp_seq (iha x h.1 ρ (fun s'=>C3 cal k b kn kr ke s') kr ke r s act w H φ _ hs hf hn hk (fun s' act' w' H' φ' hk' hst hf' hn' hd'=>?_) h2 h3)
  exact ihb y h.2 ρ kn kr ke r s' act' w' H' φ' Q hst.sr hf' hn' hk' (h1.step hst hd') (h2.step hst hd') fun i=>(h3 i).step hst hd'
 | seqc live a b iha ihb =>
  intro c h
  cases c<;>first | (simp [CV] at h; done) | skip
  rename_i x y
  simp only [CV,J] at h
  intro ρ kn kr ke r s act w H φ Q hs hf hn hk h1 h2 h3
  simp only [C3] at hk
  refine wp_seq (iha x h.1 ρ (fun s'=>C3 cal k b kn kr ke (s'.cutH (Bi s live) live s.st.length)) kr ke r s act w H φ _ hs hf hn hk (fun s' act' w' H' φ' hk' hst hf' hn' hd'=>?_) h2 h3)
  obtain ⟨φ2,hst',hf2⟩:=N3 hst hf' (Bi s live) live (Nat.le_refl _)
  exact ihb y h.2 ρ kn kr ke r (s'.cutH (Bi s live) live s.st.length) act' w' H' φ2 Q hst'.sr hf2 hn' hk' (h1.step hst' hd') (h2.step hst' hd') fun i=>(h3 i).step hst' hd'
 | cond c' a b iha ihb =>
  intro c h
  cases c<;>first | (simp [CV] at h; done) | skip
  rename_i co x y
  simp only [CV,J] at h
  obtain ⟨⟨hc,ha⟩,hb⟩:=h
  intro ρ kn kr ke r s act w H φ Q hs hf hn hk h1 h2 h3
  simp only [C3] at hk
  cases ht:s.opd c' with
  | bool t =>
   rw [ht] at hk
   simp only at hk
   have hv:=(Ad hf hc).bool ht
   cases t with
   | true=>exact wp_cond_true hv (iha x ha ρ kn kr ke r s act w H φ Q hs hf hn (by simpa using hk) h1 h2 h3)
   | false=>exact wp_cond_false hv (ihb y hb ρ kn kr ke r s act w H φ Q hs hf hn (by simpa using hk) h1 h2 h3)
  | _=>rw [ht] at hk; cases hk
 | block id live a iha =>
  intro c h
  cases c<;>first | (simp [CV] at h; done) | skip
  rename_i id' x
  simp only [CV,J,beq_iff_eq] at h
  obtain ⟨rfl,h⟩:=h
  intro ρ kn kr ke r s act w H φ Q hs hf hn hk h1 h2 h3
  simp only [C3] at hk
  have cutOk:Lc n (fun s'=>kn (s'.cutH (Bi s live) live s.st.length)) r s act w H φ (Q .normal):=fun s' act' w' H' φ' hk' hst hf' hn' hd'=>by
   obtain ⟨φ2,hst',hf2⟩:=N3 hst hf' (Bi s live) live (Nat.le_refl _)
   exact h1 _ act' w' H' φ2 hk' hst' hf2 hn' hd'
  refine wp_block (iha x h ρ (fun s'=>kn (s'.cutH (Bi s live) live s.st.length)) kr (fun i s'=>if i=id' then kn (s'.cutH (Bi s live) live s.st.length) else ke i s') r s act w H φ _ hs hf hn hk cutOk h2 fun i=>?_)
  intro s' act' w' H' φ' hk' hst hf' hn' hd'
  simp only at hk'
  simp only [Exit.inBlock]
  by_cases e:i=id'
  ·rw [if_pos e] at hk' ⊢
   exact cutOk s' act' w' H' φ' hk' hst hf' hn' hd'
  ·rw [if_neg e] at hk' ⊢
   exact h3 i s' act' w' H' φ' hk' hst hf' hn' hd'
 | loop live a iha =>
  intro c h
  cases c<;>first | (simp [CV] at h; done) | skip
  rename_i x
  simp only [CV] at h
  intro ρ kn kr ke r s act w H φ Q hs hf hn hk _ h2 h3
  simp only [C3] at hk
  have key:∀ (j:Nat) (s1:St) (act1:Act) (w1:World) (H1:HP) (φ1:Au),s1.st.length<=s.st.length->AK H φ s.st w H1 φ1 s1.st w1->B7 H1 φ1 s1.st s1.fr act1.tmps->act1.tmps.size=n->act1.defers=act.defers ->
    E3 j (fun go s'=>C3 cal k a (fun s''=>go (s''.cutH (Bi s live) live s.st.length)) kr ke s') s1=some r->Jf P x Q act1 w1:=by
   intro j
   induction j with
   | zero=>intro s1 act1 w1 H1 φ1 _ _ _ _ _ hk; cases hk
   | succ j ihj =>
    intro s1 act1 w1 H1 φ1 hl hst hf1 hn1 hd1 hk
    simp only [E3] at hk
    refine Jf.round (iha x h ρ _ kr ke r s1 act1 w1 H1 φ1 _ hst.sr hf1 hn1 hk (fun s' act' w' H' φ' hk' hst' hf' hn' hd'=>?_) (h2.step hst hd1) fun i=>(h3 i).step hst hd1)
    obtain ⟨φ2,hst2,hf2⟩:=N3 hst' hf' (Bi s live) live hl
    exact ihj (s'.cutH (Bi s live) live s.st.length) act' w' H' φ2 (by simp [St.cutH,St.cut]; omega) (hst.trans hst2) hf2 hn' (hd'.trans hd1) hk'
  refine (key k (s.cut live s.st.length) act w H φ (by simp [St.cut]) ((AK.refl hs).cut (Nat.le_refl _)) (hf.cut live _) hn rfl hk).wp
end Go.Proofs.Ytffahmnodgnohaa.Core

namespace Go.Proofs.Ytffahmnodgnohaa.Core
open Go
variable {H:HP} {φ:Au} {st:List AD} {w:World} {P:Program}
def NX (st:List AD) (i:Nat) (b:AD):Prop :=
 (∃ (t:TypeId) (e:Kd),∃ xs:List (Kd.T e),st[i]? = some (AD.rows t e xs)/\b=AD.rows t e xs) \/
 (∃ cs ecs:List AV,st[i]? = some (AD.var cs)/\b=AD.var ecs/\ecs.length=cs.length/\∀ (o:Nat) (a:AV),ecs[o]? = some a->∃ c,cs[o]? = some c/\a.solid=true/\c.solid=true/\∀ (H:HP) (u:Value),VF H c u->VF H a u)
theorem Mh:∀ {ks:List Kd} {cs cs':List AV},Eu ks cs=some cs'->cs'.length=cs.length/\(cs'.all fun c=>c.solid&&(match c with | .nil=>false | _=>true))=true /\
  ∀ (o:Nat) (a:AV),cs'[o]? = some a->∃ c,cs[o]? = some c/\a.solid=true/\c.solid=true/\∀ (H:HP) (u:Value),VF H c u->VF H a u
 | [],[],cs',h=>by cases h; exact ⟨rfl,rfl,fun o a h=>by simp at h⟩
 | [],_::_,cs',h=>by simp [Eu] at h
 | _::_,[],cs',h=>by simp [Eu] at h
 | k::ks,v::vs,cs',h=>by
  simp only [Eu] at h
  cases h1:v.norm k with
  | none=>rw [h1] at h; cases h
  | some a =>
   rw [h1] at h
   simp only [AA] at h
   cases h2:Eu ks vs with
   | none=>rw [h2] at h; cases h
   | some r =>
    rw [h2] at h
    cases h
    obtain ⟨n1,n2,n3,n4⟩:=KM h1
    obtain ⟨l1,l2,l3⟩:=Mh h2
    refine ⟨by simp [l1],?_,fun o b hb=>?_⟩
    ·simp only [List.all_cons,l2,n2,Bool.true_and,Bool.and_true]
     cases a<;>first | rfl | cases n1
    ·cases o with
     | zero=>simp at hb; subst hb; exact ⟨v,rfl,n2,n3,n4⟩
     | succ o=>simpa using l3 o b (by simpa using hb)
theorem PJ {s s':St} {a a':AV} (h:s.keep a=some (a',s')) {i:Nat} (hi:a≠.row i):s'.st[i]? = s.st[i]? := by
 cases a with
 | row id =>
  simp only [St.keep] at h
  split at h
  ·split at h
   case isFalse=>cases h
   cases h
   simp only [AP]
   rw [if_neg (fun e=>hi (by rw [e]))]
  ·cases h; rfl
  ·cases h
 | fn f caps=>cases caps<;>first | (cases h; rfl) | cases h
 | _=>first | (cases h; rfl) | cases h
theorem RG {s s':St} {a a':AV} (h:s.keep a=some (a',s')) {i:Nat} (hi:AG s.st i=true):s'.st[i]? = s.st[i]? := by
 cases a with
 | row id =>
  simp only [St.keep] at h
  split at h
  ·rename_i t K xs hb
   split at h
   case isFalse=>cases h
   cases h
   simp only [AP]
   rw [if_neg (fun e=>by subst e; simp only [AG,hb] at hi; cases hi)]
  ·cases h; rfl
  ·cases h
 | fn f caps=>cases caps<;>first | (cases h; rfl) | cases h
 | _=>first | (cases h; rfl) | cases h
theorem PL {s s':St} {i:Nat} {a':AV} (h:s.keep (.row i)=some (a',s')):a'.nilFree=true/\a'.solid=true:=by
 simp only [St.keep] at h
 split at h
 ·split at h
  ·cases h; exact ⟨rfl,rfl⟩
  ·cases h
 ·cases h; exact ⟨rfl,rfl⟩
 ·cases h
structure CH (H:HP) (φ:Au) (w:World) (s s':St) (tk tk':List Nat) (us:List Value) (cl:List AV) (H':HP) (ids:List Nat):Prop where
 step:AK H φ s.st w H' φ s'.st w
 keeps:An φ s.st φ s'.st none
 fr:s'.fr=s.fr
 nf:cl.all AV.nilFree=true
 cnt:AC cl=ids.length
 tks:tk'=ids.reverse++tk
 nd:tk.Nodup->tk'.Nodup
 held:∀ i∈tk,s'.st[i]? = s.st[i]?
 vars:∀ i,AG s.st i=true->s'.st[i]? = s.st[i]?
 boxes:∀ (m:Nat) (b:AD),(AX cl)[m]? = some b->∃ i,ids[m]? = some i/\NX s'.st i b
 vals:∀ (k:Nat) (f:Nat->Nat),(∀ m i,ids[m]? = some i->f (k+m)=i) ->
  AQ (fun a u=>VC H' φ s'.st (a.ren f) u/\(a.solid=true\/∃ m,m<ids.length/\((∃ t e,∃ xs:List (Kd.T e),a=.row (k+m)/\(AX cl)[m]? = some (AD.rows t e xs))\/(∃ ecs,a=.ptr (k+m) 0/\(AX cl)[m]? = some (AD.var ecs))))) (Af k cl) us
theorem K7 {a:AV} (h:a.solid=true) (f:Nat->Nat):a.ren f=a:=by cases a<;>first | rfl | cases h
theorem CH.plain {H:HP} {φ:Au} {s s1 s':St} {tk tk':List Nat} {u:Value} {us:List Value} {cl:List AV} {H1 H':HP} {ids:List Nat} {a:AV} (F:CH H1 φ w s1 s' tk tk' us cl H' ids)
  (hst:AK H φ s.st w H1 φ s1.st w) (hk:An φ s.st φ s1.st none) (hfr:s1.fr=s.fr) (hheld:∀ i∈tk,s1.st[i]? = s.st[i]?) (hvars:∀ i,AG s.st i=true->s1.st[i]? = s.st[i]?)
  (hn:a.nilFree=true) (hs:a.solid=true) (hv:VF H1 a u):CH H φ w s s' tk tk' (u::us) (a::cl) H' ids:=by
 have o1:∀ k,Af k (a::cl)=a::Af k cl:=fun k=>by cases a<;>first | rfl | cases hs
 have o2:AX (a::cl)=AX cl:=by cases a<;>first | rfl | cases hs
 have o3:AC (a::cl)=AC cl:=by cases a<;>first | rfl | cases hs
 refine ⟨hst.trans F.step,hk.trans F.keeps,F.fr.trans hfr,by simp [hn,F.nf],by rw [o3]; exact F.cnt,F.tks,F.nd,fun i hi=>(F.held i hi).trans (hheld i hi),fun i hi=>?_,by rw [o2]; exact F.boxes,fun k f hf=>?_⟩
 ·have h1:=hvars i hi
  rw [F.vars i (by unfold AG at hi ⊢; rw [h1]; exact hi),h1]
 ·rw [o1,o2]
  exact ⟨u,us,rfl,⟨by rw [K7 hs]; exact VC.of_VF (hv.mono F.step.le),.inl hs⟩,F.vals k f hf⟩
theorem F7:∀ {ks:List Kd} {vs cl:List AV} {tk tk':List Nat} {s s':St} {H:HP} {us:List Value},SR H φ s.st w->AQ (VC H φ s.st) vs us->s.shutAll tk ks vs=some (cl,tk',s') ->
  ∃ H' ids,CH H φ w s s' tk tk' us cl H' ids
 | [],[],cl,tk,tk',s,s',H,us,hs,hv,h=>by
  cases h
  cases hv
  exact ⟨H,[],AK.refl hs,An.refl _ _ _,rfl,rfl,rfl,rfl,fun h=>h,fun _ _=>rfl,fun _ _=>rfl,fun m b h=>by simp [AX] at h,fun k f _=>rfl⟩
 | [],_::_,cl,tk,tk',s,s',H,us,hs,hv,h=>by simp [St.shutAll] at h
 | _::_,[],cl,tk,tk',s,s',H,us,hs,hv,h=>by simp [St.shutAll] at h
 | k0::ks,v::vs,cl,tk,tk',s,s',H,us,hs,hv,h=>by
  obtain ⟨u,us,rfl,hu,hr⟩:=hv
  have norm:((v.norm k0).bind fun a=>(s.shutAll tk ks vs).bind fun y=>some (a::y.1,y.2))=some (cl,tk',s')->∃ H' ids,CH H φ w s s' tk tk' (u::us) cl H' ids:=by
   intro h
   cases hq:v.norm k0 with
   | none=>rw [hq] at h; cases h
   | some a =>
    rw [hq] at h
    simp only [AA] at h
    cases hc:s.shutAll tk ks vs with
    | none=>rw [hc] at h; cases h
    | some y =>
     obtain ⟨y1,y2,y3⟩:=y
     rw [hc] at h
     cases h
     obtain ⟨n1,n2,n3,n4⟩:=KM hq
     obtain ⟨H',ids,F⟩:=F7 hs hr hc
     exact ⟨H',ids,F.plain (AK.refl hs) (An.refl _ _ _) rfl (fun _ _=>rfl) (fun _ _=>rfl) n1 n2 (n4 H u (hu.solid n3))⟩
  have away:∀ (i:Nat) (a:AV) (b:AD) (y:List AV×List Nat×St),Am tk i=false->s.shutAll (i::tk) ks vs=some y->(cl,tk',s')=(a::y.1,y.2) ->
    NX s.st i b->a.nilFree=true->(∀ k r,Af k (a::r)=(match b with | .var _=>AV.ptr k 0 | _=>AV.row k)::Af (k+1) r)->(∀ r,AX (a::r)=b::AX r)->(∀ r,AC (a::r)=AC r+1) ->
    (∀ cs,b=.var cs->v=.ptr i 0)->((∀ cs,b≠.var cs)->v=.row i)->((∀ cs,b≠.var cs)->∃ (t:TypeId) (e:Kd),∃ xs:List (Kd.T e),b=AD.rows t e xs)->∃ H' ids,CH H φ w s s' tk tk' (u::us) cl H' ids:=by
   intro i a b y hn hy e hb hnf o1 o2 o3 e1 e2 e3
   obtain ⟨y1,y2,y3⟩:=y
   cases e
   obtain ⟨H',ids,F⟩:=F7 hs hr hy
   refine ⟨H',i::ids,F.step,F.keeps,F.fr,by simp [hnf,F.nf],by rw [o3,F.cnt]; rfl,by rw [F.tks]; simp,fun hnd=>F.nd (List.nodup_cons.2 ⟨Aa.1 hn,hnd⟩),fun j hj=>F.held j (by simp [hj]),F.vars,fun m b' hb'=>?_,fun k f hf=>?_⟩
   ·rw [o2] at hb'
    cases m with
    | zero =>
     simp at hb'
     subst hb'
     refine ⟨i,rfl,?_⟩
     have hh:=F.held i (by simp)
     unfold NX at hb ⊢
     rw [hh]
     exact hb
    | succ m=>simpa using F.boxes m b' (by simpa using hb')
   ·rw [o1,o2]
    have f0:f k=i:=by simpa using hf 0 i rfl
    refine ⟨u,us,rfl,⟨?_,.inr ⟨0,by simp,?_⟩⟩,?_⟩
    ·have hu':=VC.mono F.step.le F.keeps hu
     cases b with
     | var cs =>
      simp only [AV.ren,f0]
      rw [e1 cs rfl] at hu'
      exact hu'
     | _ =>
      simp only [AV.ren,f0]
      rw [e2 (by simp)] at hu'
      exact hu'
    ·cases b with
     | var cs=>exact .inr ⟨cs,rfl,rfl⟩
     | rows t e xs=>exact .inl ⟨t,e,xs,rfl,rfl⟩
     | _=>obtain ⟨_,_,_,e⟩:=e3 (by simp); cases e
    ·have:=F.vals (k+1) f fun m j hj=>by rw [Nat.add_assoc,Nat.add_comm 1 m]; exact hf (m+1) j (by simpa using hj)
     refine this.imp fun a' u' ⟨g1,g2⟩=>⟨g1,?_⟩
     rcases g2 with g2 | ⟨m,hm,g2⟩
     ·exact .inl g2
     ·refine .inr ⟨m+1,by simp; omega,?_⟩
      rw [show k+(m+1)=k+1+m by omega]
      simpa using g2
  cases v with
  | row i =>
   simp only [St.shutAll] at h
   split at h
   ·cases h
   ·rename_i hn
    have hn:Am tk i=false:=by simpa using hn
    have kept:((s.keep (.row i)).bind fun x=>(x.2.shutAll tk ks vs).bind fun y=>some (x.1::y.1,y.2))=some (cl,tk',s')->∃ H' ids,CH H φ w s s' tk tk' (u::us) cl H' ids:=by
     intro h
     cases hk:s.keep (.row i) with
     | none=>rw [hk] at h; cases h
     | some x =>
      obtain ⟨a1,s1⟩:=x
      rw [hk] at h
      simp only [AA] at h
      cases hc:s1.shutAll tk ks vs with
      | none=>rw [hc] at h; cases h
      | some y =>
       obtain ⟨y1,y2,y3⟩:=y
       rw [hc] at h
       cases h
       obtain ⟨H1,g1,k1,f1,r1,_⟩:=Fq hs hu hk
       obtain ⟨H',ids,F⟩:=F7 g1.sr (hr.imp fun _ _ h=>h.mono g1.le k1) hc
       obtain ⟨n1,n2⟩:=PL hk
       refine ⟨H',ids,F.plain g1 k1 r1 (fun j hj=>PJ hk fun e=>?_) (fun j hj=>RG hk hj) n1 n2 f1⟩
       cases e
       exact Aa.1 hn hj
    split at h
    ·split at h
     ·rename_i t e xs hi
      cases hc:s.shutAll (i::tk) ks vs with
      | none=>rw [hc] at h; cases h
      | some y =>
       rw [hc] at h
       simp only [AA,AY] at h
       exact away i (.new t e xs) (.rows t e xs) y hn hc h.symm (.inl ⟨t,e,xs,hi,rfl⟩) rfl (fun k r=>rfl) (fun r=>rfl) (fun r=>by simp [AC,AV.isNew]) (fun cs e=>by cases e) (fun _=>rfl) (fun _=>⟨t,e,xs,rfl⟩)
     ·cases h
    ·exact kept h
  | ptr i o =>
   cases o with
   | zero =>
    simp only [St.shutAll] at h
    split at h
    ·cases h
    ·rename_i hn
     have hn:Am tk i=false:=by simpa using hn
     split at h
     ·split at h
      ·rename_i K x0 cs hi
       cases hq:Eu K.leaves cs with
       | none=>rw [hq] at h; cases h
       | some cs' =>
        rw [hq] at h
        simp only [AA] at h
        cases hc:s.shutAll (i::tk) ks vs with
        | none=>rw [hc] at h; cases h
        | some y =>
         rw [hc] at h
         simp only [AA,AY] at h
         obtain ⟨l1,l2,l3⟩:=Mh hq
         exact away i (.ref cs') (.var cs') y hn hc h.symm (.inr ⟨cs,cs',hi,rfl,l1,l3⟩) l2 (fun k r=>rfl) (fun r=>rfl) (fun r=>by simp [AC,AV.isNew]) (fun _ _=>rfl) (fun h=>absurd rfl (h cs')) (fun h=>absurd rfl (h cs'))
      ·cases h
     ·cases h
   | succ o=>exact norm h
  | _=>exact norm h
end Go.Proofs.Ytffahmnodgnohaa.Core

namespace Go.Proofs.Ytffahmnodgnohaa.Core
open Go
variable {P:Program}
theorem CH.append {H H1 H2:HP} {φ:Au} {w:World} {s s1 s2:St} {tk t1 t2:List Nat} {us1 us2:List Value} {c1 c2:List AV} {i1 i2:List Nat}
  (F1:CH H φ w s s1 tk t1 us1 c1 H1 i1) (F2:CH H1 φ w s1 s2 t1 t2 us2 c2 H2 i2):CH H φ w s s2 tk t2 (us1++us2) (c1++c2) H2 (i1++i2):=by
 have hl:(AX c1).length=i1.length:=by rw [Bw,F1.cnt]
 refine ⟨F1.step.trans F2.step,F1.keeps.trans F2.keeps,F2.fr.trans F1.fr,by rw [List.all_append,F1.nf,F2.nf]; rfl,by rw [Ag,F1.cnt,F2.cnt,List.length_append],by rw [F2.tks,F1.tks]; simp,fun h=>F2.nd (F1.nd h),fun i hi=>?_,fun i hi=>?_,fun m b hb=>?_,fun k f hf=>?_⟩
 ·rw [F2.held i (by rw [F1.tks]; simp [hi]),F1.held i hi]
 ·have h1:=F1.vars i hi
  rw [F2.vars i (by unfold AG at hi ⊢; rw [h1]; exact hi),h1]
 ·rw [As] at hb
  rcases Ax m (AX c1).length with h | h
  ·rw [AR h] at hb
   obtain ⟨i,g1,g2⟩:=F1.boxes m b hb
   refine ⟨i,by rw [AR (by omega)]; exact g1,?_⟩
   have hh:=F2.held i (by rw [F1.tks]; simp [List.mem_of_getElem? g1])
   unfold NX at g2 ⊢
   rw [hh]
   exact g2
  ·rw [Av h] at hb
   obtain ⟨i,g1,g2⟩:=F2.boxes _ b hb
   exact ⟨i,by rw [Av (by omega)]; rw [hl] at g1; exact g1,g2⟩
 ·rw [He,As]
  refine AQ.append ((F1.vals k f fun m i hm=>hf m i (by rw [AR (AN.1 hm).1]; exact hm)).imp fun a u ⟨g1,g2⟩=>⟨g1.mono F2.step.le F2.keeps,?_⟩)
   ((F2.vals (k+AC c1) f fun m i hm=>by
    rw [Nat.add_assoc]
    exact hf _ i (by rw [F1.cnt,Av (by omega),Nat.add_sub_cancel_left]; exact hm)).imp fun a u ⟨g1,g2⟩=>⟨g1,?_⟩)
  ·rcases g2 with g2 | ⟨m,hm,g2⟩
   ·exact .inl g2
   ·refine .inr ⟨m,by simp; omega,?_⟩
    rw [AR (by omega)]
    exact g2
  ·rcases g2 with g2 | ⟨m,hm,g2⟩
   ·exact .inl g2
   ·refine .inr ⟨i1.length+m,by simp; omega,?_⟩
    rw [Av (by omega),hl,Nat.add_sub_cancel_left,<- Nat.add_assoc]
    rw [F1.cnt] at g2
    exact g2
theorem QP {H:HP} {φ:Au} {st:List AD} {w:World} (hs:SR H φ st w) {id:Nat} {cs:List AV} (hb:st[id]? = some (.var cs)) :
  ∃ b c el,φ id=.pointer (some ⟨b,0,none⟩)/\w.heap[b]? = some (.cells c el (0,0))/\AQ (VC H φ st) cs c.toList:=by
 obtain ⟨b,c,el,e3,hh,hc⟩:=hs.box id _ hb
 refine ⟨b,c,el,e3,hh,Gb hc.length fun j a u ha hu=>?_⟩
 have hw:=hc.at ha hu
 cases a with
 | row i =>
  obtain ⟨g1,b2,g2,g3⟩:=hs.cell id _ hb j i ha
  rw [e3] at g2
  cases g2
  simp only [World.cell?,hh] at g3
  rw [Array.getElem?_toList] at hu
  simp only [Option.isSome_none,Bool.false_eq_true,if_false] at g3
  rw [hu] at g3
  cases g3
  exact ⟨rfl,g1⟩
 | was i=>trivial
 | self T=>trivial
 | undef=>trivial
 | _=>exact VC.of_VF hw
def SI (P:Program):ResultVar->Rh->Bool
 | .tmp t,r=>!r.cell&&r.t==t
 | .cell a t,r=>r.cell&&r.t==a&&KJ P t (IK r.K)
def Mi (P:Program):List ResultVar->List Rh->Bool
 | [],[]=>true
 | v::vs,r::rs=>SI P v r&&Mi P vs rs
 | _,_=>false
def Hj (tmps:Array Value):ResultVar->Sem Value
 | .tmp t=>pure (tmps.getD t undef)
 | .cell a t=>do loadVar t (<- asAddr (tmps.getD a undef))
def SJ (K:Kd) (v:Value):Prop:=match K with
 | .pair _ _=>∃ arr,v=.agg arr
 | _=>v.cells=#[v]
theorem RH {H:HP} {φ:Au} {w:World} {s:St} {K:Kd} {a:AV} {v:Value} {ds:List AV} {off:Nat} {t:TypeId} (hs:SR H φ s.st w) (hv:VC H φ s.st a v) (hbh:s.behind a=some (ds,off)) (hl2:off+K.sz<=ds.length) (hp:KJ P t (IK K)=true) :
  ∃ u,(Instr.loadAt t v).run P w=.ok u w/\VA H φ s.st (part ds off (IK K)) u:=by
 cases K with
 | pair a b=>exact LT hs hv hbh (n:=some _) hl2 hp
 | _=>exact LT hs hv hbh (n:=none) hl2 hp
theorem Od {H:HP} {φ:Au} {w:World} {s:St} {r:Rh} {rv:ResultVar} {cs:List AV} {tmps:Array Value} (hs:SR H φ s.st w) (hf:B7 H φ s.st s.fr tmps) (h:s.resCells r=some cs) (hb:SI P rv r=true)
  (hne:∀ c∈cs,c.full=true) (hlen:cs.length=r.K.sz) :
  ∃ v,(Hj tmps rv).run P w=.ok v w/\AQ (VC H φ s.st) cs v.cells.toList/\SJ r.K v:=by
 unfold St.resCells at h
 cases rv with
 | tmp t =>
  simp only [SI,J,Cc,beq_iff_eq] at hb
  obtain ⟨hc,rfl⟩:=hb
  rw [if_neg (by rw [hc]; simp)] at h
  split at h
  ·rename_i hfit
   cases h
   simp only [J] at hfit
   have hv:=hf r.t
   refine ⟨tmps.getD r.t undef,by simp [Hj],MS hs hv hfit.2,?_⟩
   rcases hv.cases with ⟨ds,arr,ea,ev,_⟩ | ⟨vs,arr,ea,_,_⟩ | hvc
   ·rw [ea] at hfit
    unfold SJ
    cases hK:r.K with
    | pair a b=>exact ⟨arr,ev⟩
    | _=>rw [hK] at hfit; cases hfit.1
   ·rw [ea] at hfit; cases hfit.2
   ·have h1:=MR hs hvc hfit.2
    unfold SJ
    cases hK:r.K with
    | pair a b =>
     rw [hK,HB hvc] at hlen
     have p1:=Kd.sz_pos a
     have p2:=Kd.sz_pos b
     simp [Kd.sz] at hlen
     omega
    | _=>exact h1
  ·cases h
 | cell a t =>
  simp only [SI,J,beq_iff_eq] at hb
  obtain ⟨⟨hc,rfl⟩,hp⟩:=hb
  rw [if_pos hc] at h
  cases hbh:s.behind (CA s.fr r.t) with
  | none=>rw [hbh] at h; cases h
  | some y =>
   obtain ⟨ds,off⟩:=y
   rw [hbh] at h
   simp only [AA,AY] at h
   subst h
   have hv:=(hf r.t).behind hbh
   have hl2:off+r.K.sz<=ds.length:=by
    have:=Kd.sz_pos r.K
    simp only [List.length_take,List.length_drop] at hlen
    omega
   obtain ⟨b,o,vs,ev,_,_⟩:=Io hs hv hbh
   obtain ⟨u,hrun,hu⟩:=RH (P:=P) (t:=t) hs hv hbh hl2 hp
   have hrun2:(Hj tmps (.cell r.t t)).run P w=.ok u w:=by
    rw [ev] at hrun
    simp only [Instr.loadAt,Instr.sureAddr,Sem.run_bind,Sem.run_pure,Result.andThen_ok] at hrun
    simp only [Hj,Sem.run_bind]
    rw [ev]
    simp only [asAddr,Sem.run_pure,Result.andThen_ok]
    exact hrun
   refine ⟨u,hrun2,?_⟩
   have single:r.K.sz=1->IK r.K=none->AQ (VC H φ s.st) ((ds.drop off).take r.K.sz) u.cells.toList/\u.cells=#[u]:=by
    intro h1 h2
    rw [h1] at hl2 hne ⊢
    rw [h2] at hu
    have hlt:off<ds.length:=by omega
    have hc1:(ds.drop off).take 1=[ds[off]]:=by rw [List.drop_eq_getElem_cons hlt]; rfl
    have hpart:part ds off none=ds[off]:=by simp only [part,List.headD_eq_head?_getD]; rw [List.drop_eq_getElem_cons hlt]; rfl
    rw [hpart] at hu
    have hfc:ds[off].full=true:=hne _ (by rw [hc1]; simp)
    have hvc:VC H φ s.st ds[off] u:=by
     rcases hu.cases with ⟨e1,arr,ea,_,_⟩ | ⟨e1,arr,ea,_,_⟩ | hvc
     ·obtain ⟨b',o',vs',_,hall,_⟩:=Io hs hv hbh
      obtain ⟨u2,_,hu2⟩:=hall.get off ds[off] (by simp)
      rw [ea] at hu2
      exact hu2.elim
     ·rw [ea] at hfc; cases hfc
     ·exact hvc
    have hone:=MR hs hvc hfc
    rw [hc1,hone]
    exact ⟨⟨u,[],rfl,hvc,rfl⟩,rfl⟩
   cases hK:r.K with
   | pair a b =>
    rw [hK] at hu
    obtain ⟨arr,e,hc⟩:=hu
    subst e
    exact ⟨hc,arr,rfl⟩
   | _=>rw [hK] at single; exact single rfl rfl
theorem EY:∀ {ks:List Kd} {vs cl:List AV} {tk tk':List Nat} {s s':St},s.shutAll tk ks vs=some (cl,tk',s')->∀ v∈vs,v.full=true
 | [],[],cl,tk,tk',s,s',h,v,hv=>by cases hv
 | [],_::_,cl,tk,tk',s,s',h,v,hv=>by simp [St.shutAll] at h
 | _::_,[],cl,tk,tk',s,s',h,v,hv=>by cases hv
 | k::ks,a::vs,cl,tk,tk',s,s',h,v,hv=>by
  have norm:((a.norm k).bind fun x=>(s.shutAll tk ks vs).bind fun y=>some (x::y.1,y.2))=some (cl,tk',s')->v.full=true:=by
   intro h
   cases hq:a.norm k with
   | none=>rw [hq] at h; cases h
   | some x =>
    rw [hq] at h
    simp only [AA] at h
    cases hc:s.shutAll tk ks vs with
    | none=>rw [hc] at h; cases h
    | some y =>
     obtain ⟨y1,y2,y3⟩:=y
     rcases AO.1 hv with rfl | hv
     ·have:=(KM hq).2.2.1
      cases v<;>first | rfl | cases this
     ·exact EY hc v hv
  cases a with
  | row i =>
   rcases AO.1 hv with rfl | hv
   ·rfl
   ·simp only [St.shutAll] at h
    split at h
    ·cases h
    ·split at h
     ·split at h
      ·cases hc:s.shutAll (i::tk) ks vs with
       | none=>rw [hc] at h; cases h
       | some y=>obtain ⟨y1,y2,y3⟩:=y; exact EY hc v hv
      ·cases h
     ·cases hk:s.keep (.row i) with
      | none=>rw [hk] at h; cases h
      | some x =>
       rw [hk] at h
       simp only [AA] at h
       cases hc:x.2.shutAll tk ks vs with
       | none=>rw [hc] at h; cases h
       | some y=>obtain ⟨y1,y2,y3⟩:=y; exact EY hc v hv
  | ptr i o =>
   rcases AO.1 hv with rfl | hv'
   ·rfl
   ·cases o with
    | zero =>
     simp only [St.shutAll] at h
     split at h
     ·cases h
     ·split at h
      ·split at h
       ·rename_i K x0 cs hi
        cases hq:Eu K.leaves cs with
        | none=>rw [hq] at h; cases h
        | some cs' =>
         rw [hq] at h
         simp only [AA] at h
         cases hc:s.shutAll (i::tk) ks vs with
         | none=>rw [hc] at h; cases h
         | some y=>obtain ⟨y1,y2,y3⟩:=y; exact EY hc v hv'
       ·cases h
      ·cases h
    | succ o=>exact norm h
  | _=>exact norm h
theorem E9:∀ {ks:List Kd} {vs cl:List AV} {tk tk':List Nat} {s s':St},s.shutAll tk ks vs=some (cl,tk',s')->vs.length=ks.length
 | [],[],cl,tk,tk',s,s',h=>rfl
 | [],_::_,cl,tk,tk',s,s',h=>by simp [St.shutAll] at h
 | _::_,[],cl,tk,tk',s,s',h=>by simp [St.shutAll] at h
 | k::ks,a::vs,cl,tk,tk',s,s',h=>by
  have norm:((a.norm k).bind fun x=>(s.shutAll tk ks vs).bind fun y=>some (x::y.1,y.2))=some (cl,tk',s')->(a::vs).length=(k::ks).length:=by
   intro h
   cases hq:a.norm k with
   | none=>rw [hq] at h; cases h
   | some x =>
    rw [hq] at h
    simp only [AA] at h
    cases hc:s.shutAll tk ks vs with
    | none=>rw [hc] at h; cases h
    | some y=>obtain ⟨y1,y2,y3⟩:=y; simp [E9 hc]
  cases a with
  | row i =>
   simp only [St.shutAll] at h
   split at h
   ·cases h
   ·split at h
    ·split at h
     ·cases hc:s.shutAll (i::tk) ks vs with
      | none=>rw [hc] at h; cases h
      | some y=>obtain ⟨y1,y2,y3⟩:=y; simp [E9 hc]
     ·cases h
    ·cases hk:s.keep (.row i) with
     | none=>rw [hk] at h; cases h
     | some x =>
      rw [hk] at h
      simp only [AA] at h
      cases hc:x.2.shutAll tk ks vs with
      | none=>rw [hc] at h; cases h
      | some y=>obtain ⟨y1,y2,y3⟩:=y; simp [E9 hc]
  | ptr i o =>
   cases o with
   | zero =>
    simp only [St.shutAll] at h
    split at h
    ·cases h
    ·split at h
     ·split at h
      ·rename_i K x0 cs hi
       cases hq:Eu K.leaves cs with
       | none=>rw [hq] at h; cases h
       | some cs' =>
        rw [hq] at h
        simp only [AA] at h
        cases hc:s.shutAll (i::tk) ks vs with
        | none=>rw [hc] at h; cases h
        | some y=>obtain ⟨y1,y2,y3⟩:=y; simp [E9 hc]
      ·cases h
     ·cases h
   | succ o=>exact norm h
  | _=>exact norm h
theorem Jg:∀ K:Kd,K.leaves.length=K.sz
 | .int _=>rfl
 | .bool=>rfl
 | .str=>rfl
 | .slice _=>rfl
 | .pair a b=>by simp [Kd.leaves,Kd.sz,Jg a,Jg b]
 | .own _ _=>rfl
 | .ref _=>rfl
 | .fun _=>rfl
 | .clo _ _=>rfl
theorem NY {w:World} {φ:Au} {tmps:Array Value}:∀ {rs:List Rh} {rvs:List ResultVar} {aw:List AV} {tk tk':List Nat} {s s':St} {H:HP},SR H φ s.st w->B7 H φ s.st s.fr tmps->s.result tk rs=some (aw,tk',s')->Mi P rvs rs=true ->
  ∃ H' ids vs,CH H φ w s s' tk tk' (vs.flatMap fun v=>v.cells.toList) (cellsOf aw) H' ids/\(rvs.mapM (Hj tmps)).run P w=.ok vs w/\AQ (fun a v=>∃ K,∃ x:Kd.T K,a=Kd.av K x/\SJ K v/\a.cells.length=v.cells.toList.length) aw vs
 | [],[],aw,tk,tk',s,s',H,hs,hf,h,hb=>by
  cases h
  exact ⟨H,[],[],⟨AK.refl hs,An.refl _ _ _,rfl,rfl,rfl,rfl,fun h=>h,fun _ _=>rfl,fun _ _=>rfl,fun m b h=>by simp [cellsOf,AX] at h,fun k f _=>rfl⟩,by simp,rfl⟩
 | [],_::_,aw,tk,tk',s,s',H,hs,hf,h,hb=>by simp [Mi] at hb
 | _::_,[],aw,tk,tk',s,s',H,hs,hf,h,hb=>by simp [Mi] at hb
 | r::rs,rv::rvs,aw,tk,tk',s,s',H,hs,hf,h,hb=>by
  simp only [Mi,J] at hb
  simp only [St.result] at h
  cases h1:s.resCells r with
  | none=>rw [h1] at h; cases h
  | some cs =>
   rw [h1] at h
   simp only [AA] at h
   cases h2:s.shutAll tk r.K.leaves cs with
   | none=>rw [h2] at h; cases h
   | some y =>
    obtain ⟨cl,t1,s1⟩:=y
    rw [h2] at h
    simp only [AA] at h
    cases h3:r.K.ofCells cl with
    | none=>rw [h3] at h; cases h
    | some x =>
     rw [h3] at h
     simp only [AA] at h
     cases h4:s1.result t1 rs with
     | none=>rw [h4] at h; cases h
     | some z =>
      obtain ⟨aw',t2,s2⟩:=z
      rw [h4] at h
      cases h
      obtain ⟨v,hrun,hv,hfit⟩:=Od hs hf h1 hb.1 (EY h2) ((E9 h2).trans (Jg _))
      obtain ⟨H1,i1,F1⟩:=F7 hs hv h2
      have ecl:cl=r.K.enc x:=by
       have:=L7 r.K cl [] x F1.nf (Cd h3)
       simpa using this
      have hf1:B7 H1 φ s1.st s1.fr tmps:=by rw [F1.fr]; exact hf.mono F1.step.le F1.keeps
      obtain ⟨H2,i2,vs,F2,hrun2,hall⟩:=NY F1.step.sr hf1 h4 hb.2
      have hcells:(r.K.av x).cells=cl:=by rw [IM,ecl]
      refine ⟨H2,i1++i2,v::vs,?_,?_,⟨v,vs,rfl,⟨r.K,x,rfl,hfit,?_⟩,hall⟩⟩
      ·have:=F1.append F2
       simp only [cellsOf,List.flatMap_cons,hcells] at this ⊢
       exact this
      ·rw [List.mapM_cons]
       simp [Sem.run_bind,hrun,hrun2]
      ·have:=(F1.vals 0 (fun m=>i1.getD m 0) fun m i hm=>by simp [List.getD,hm]).length
       rw [hcells]
       rw [Do] at this
       exact this.symm
theorem Hk {w:World} {φ:Au}:∀ {bs:List (Nat×Kd)} {aw:List AV} {tk tk':List Nat} {s s':St} {H:HP},SR H φ s.st w->s.shutBoxes tk bs=some (aw,tk',s') ->
  ∃ (H':HP) (ids:List Nat) (us:List (List Value)),CH H φ w s s' tk tk' us.flatten (Al aw) H' ids/\AQ (fun a u=>a.cellsO.length=u.length) aw us/\aw.length=bs.length/\(∀ (j:Nat) (v:AV),aw[j]? = some v->∃ p,bs[j]? = some p/\p.2.noRef=true/\∃ x:Kd.T p.2,v=Kd.av p.2 x) /\
   ∀ (j:Nat) (p:Nat×Kd),bs[j]? = some p->(p.2.isOwn=false/\AM s'.st p.1=true/\∃ (b:Nat) (c:Array Value) (el:TypeId),φ p.1=.pointer (some ⟨b,0,none⟩)/\w.heap[b]? = some (.cells c el (0,0))/\us[j]? = some c.toList) \/
    (∃ (t:TypeId) (e:Kd),∃ xs:List (Kd.T e),p.2=.own t e/\s'.st[p.1]? = some (AD.mrow t e xs)/\aw[j]? = some (.new t e xs))
 | [],aw,tk,tk',s,s',H,hs,h=>by
  cases h
  exact ⟨H,[],[],⟨AK.refl hs,An.refl _ _ _,rfl,rfl,rfl,rfl,fun h=>h,fun _ _=>rfl,fun _ _=>rfl,fun m b h=>by simp [Al,AX] at h,fun k f _=>rfl⟩,rfl,rfl,fun j v h=>by simp at h,fun j p h=>by simp at h⟩
 | (b,K)::bs,aw,tk,tk',s,s',H,hs,h=>by
  simp only [St.shutBoxes] at h
  split at h
  ·rename_i t e xs hm
   split at h
   ·rename_i hK
    subst hK
    cases h4:s.shutBoxes tk bs with
    | none=>rw [h4] at h; cases h
    | some z =>
     obtain ⟨aw',t2,s2⟩:=z
     rw [h4] at h
     cases h
     obtain ⟨H2,i2,us,F2,hl,hn,hk,hb⟩:=Hk hs h4
     refine ⟨H2,i2,[]::us,F2,⟨[],us,rfl,rfl,hl⟩,by simp [hn],fun j v hj=>?_,fun j p hj=>?_⟩
     ·cases j with
      | zero=>simp at hj; subst hj; exact ⟨(b,.own t e),rfl,rfl,xs,rfl⟩
      | succ j=>simpa using hk j v (by simpa using hj)
     ·cases j with
      | zero =>
       simp at hj
       subst hj
       exact .inr ⟨t,e,xs,rfl,by rw [F2.vars b (by simp only [AG,hm]; rfl)]; exact hm,rfl⟩
      | succ j=>simpa using hb j p (by simpa using hj)
   ·cases h
  ·rename_i cs hcs
   split at h
   case isFalse=>cases h
   rename_i hnr2
   simp only [J,Cc] at hnr2
   obtain ⟨hnr,hno⟩:=hnr2
   cases h2:s.shutAll tk K.leaves cs with
   | none=>rw [h2] at h; cases h
   | some y =>
    obtain ⟨cl,t1,s1⟩:=y
    rw [h2] at h
    simp only [AA] at h
    cases h3:K.ofCells cl with
    | none=>rw [h3] at h; cases h
    | some x =>
     rw [h3] at h
     simp only [AA] at h
     cases h4:s1.shutBoxes t1 bs with
     | none=>rw [h4] at h; cases h
     | some z =>
      obtain ⟨aw',t2,s2⟩:=z
      rw [h4] at h
      cases h
      obtain ⟨b0,c,el,e1,e2,e3⟩:=QP hs hcs
      obtain ⟨H1,i1,F1⟩:=F7 hs e3 h2
      have ecl:cl=K.enc x:=by
       have:=L7 K cl [] x F1.nf (Cd h3)
       simpa using this
      obtain ⟨H2,i2,us,F2,hl,hn,hk,hb⟩:=Hk F1.step.sr h4
      have hcells:(K.av x).cellsO=cl:=by rw [(Dq x hno).1,ecl]
      have hlen:cl.length=c.toList.length:=by
       have:=(F1.vals 0 (fun m=>i1.getD m 0) fun m i hm=>by simp [List.getD,hm]).length
       rw [Do] at this
       exact this.symm
      refine ⟨H2,i1++i2,c.toList::us,?_,⟨c.toList,us,rfl,by simp only [hcells]; exact hlen,hl⟩,by simp [hn],fun j v hj=>?_,fun j p hj=>?_⟩
      ·have:=F1.append F2
       simp only [Al,List.flatMap_cons,hcells,List.flatten_cons] at this ⊢
       exact this
      ·cases j with
       | zero=>simp at hj; subst hj; exact ⟨(b,K),rfl,hnr,x,rfl⟩
       | succ j=>simpa using hk j v (by simpa using hj)
      ·cases j with
       | zero =>
        simp at hj
        subst hj
        refine .inl ⟨hno,?_,b0,c,el,e1,e2,rfl⟩
        have v0:AM s.st b=true:=by simp only [AM,hcs]
        have g1:=F1.vars b (HZ v0)
        have v1:AM s1.st b=true:=by unfold AM at v0 ⊢; rw [g1]; exact v0
        have g2:=F2.vars b (HZ v1)
        unfold AM at v1 ⊢; rw [g2]; exact v1
       | succ j=>simpa using hb j p (by simpa using hj)
  ·cases h
theorem Jh {R:AV->Value->Prop} (c:AV->List AV):∀ {aw:List AV} {us:List (List Value)} {k:Nat},AQ (fun a u=>(c a).length=u.length) aw us->AQ R (Af k (aw.flatMap c)) us.flatten ->
  ∀ (j:Nat) (a:AV) (u:List Value),aw[j]? = some a->us[j]? = some u->AQ R (Af (k+AC ((aw.take j).flatMap c)) (c a)) u
 | [],us,k,hl,h,j,a,u,ha,hu=>by simp at ha
 | a0::aw,us,k,⟨u0,us',e,l0,hl⟩,h,j,a,u,ha,hu=>by
  subst e
  simp only [List.flatMap_cons,List.flatten_cons] at h
  rw [He] at h
  have hlen:(Af k (c a0)).length=u0.length:=by rw [Do]; exact l0
  have h1:AQ R (Af k (c a0)) u0:=by
   have:=h.take (Af k (c a0)).length
   rw [List.take_left,hlen,List.take_left] at this
   exact this
  have h2:AQ R (Af (k+AC (c a0)) (aw.flatMap c)) us'.flatten:=by
   have:=h.drop (Af k (c a0)).length
   rw [List.drop_left,hlen,List.drop_left] at this
   exact this
  cases j with
  | zero =>
   simp at ha hu
   subst ha hu
   simpa [AC] using h1
  | succ j =>
   have:=Jh c hl h2 j a u (by simpa using ha) (by simpa using hu)
   simpa [Ag,Nat.add_assoc] using this
def AV.isPtr:AV->Bool
 | .ptr _ _=>true
 | .ref _=>true
 | _=>false
theorem K8:∀ (K:Kd) (x:K.T),K.noRef=true->∀ c∈K.enc x,c.isPtr=false
 | .int _,_,_,c,h=>by simp [Kd.enc] at h; subst h; rfl
 | .bool,_,_,c,h=>by simp [Kd.enc] at h; subst h; rfl
 | .str,_,_,c,h=>by simp [Kd.enc] at h; subst h; rfl
 | .slice _,_,_,c,h=>by simp [Kd.enc] at h; subst h; rfl
 | .pair a b,x,hn,c,h=>by
  simp only [Kd.noRef,J] at hn
  simp only [Kd.enc,BE] at h
  rcases h with h | h
  ·exact K8 a x.1 hn.1 c h
  ·exact K8 b x.2 hn.2 c h
 | .own _ _,_,_,c,h=>by simp [Kd.enc] at h; subst h; rfl
 | .ref _,_,hn,_,_=>by cases hn
 | .fun _,_,_,c,h=>by simp [Kd.enc] at h; subst h; rfl
 | .clo _ _,_,_,c,h=>by simp [Kd.enc] at h; subst h; rfl
theorem Ld:∀ (cs:List AV) (k:Nat),(∀ c∈cs,c.isPtr=false)->∀ a∈Af k cs,a.isPtr=false
 | [],k,_,a,h=>by simp [Af] at h
 | c::cs,k,hn,a,h=>by
  have h1:=hn c (by simp)
  have ih:=fun k=>Ld cs k fun c hc=>hn c (by simp [hc])
  have key:∀ (d:AV) (k':Nat),d.isPtr=false->(a=d\/a∈Af k' cs)->a.isPtr=false:=fun d k' hd h=>by
   rcases h with rfl | h
   ·exact hd
   ·exact ih k' a h
  cases c<;>simp only [Af,AO] at h<;>first | exact key _ _ rfl h | exact absurd h1 (by simp [AV.isPtr])
theorem Ew:∀ (vs:List AV) (k:Nat),(Bb k vs).length=vs.length
 | [],_=>rfl
 | v::r,k=>by simp [Bb,Ew r]
theorem Mj:∀ (vs:List AV) (k j:Nat) (v:AV),vs[j]? = some v->(Bb k vs)[j]? = some (J1 (k+AC (cellsOf (vs.take j))) v)
 | [],k,j,v,h=>by simp at h
 | u::r,k,0,v,h=>by simp at h; subst h; simp [Bb,cellsOf,AC]
 | u::r,k,j+1,v,h=>by
  simp only [Bb,List.getElem?_cons_succ]
  rw [Mj r _ j v (by simpa using h)]
  simp [cellsOf,Ag,Nat.add_assoc]
theorem S7 {H0 H:HP} {φ0 φ:Au} {w0 w:World} {s s1 s2:St} {args bs:List AV} {ids:List (Nat×Kd)} {rsv outs:List AV} {t1 t2:List Nat} {fn:Func} {ress:List Rh} {tmps:Array Value}
  (hs:SR H φ s.st w) (hf:B7 H φ s.st s.fr tmps) (hfr:Fr bs.length (Ay bs args).length H0 φ0 w0 H φ s.st w) (hle:H0.le H)
  (hids:∀ (j:Nat) (p:Nat×Kd),ids[j]? = some p->p.1=j) (hbl:bs.length=ids.length)
  (hres:s.result (List.range ids.length) ress=some (rsv,t1,s1)) (hbox:s1.shutBoxes t1 ids=some (outs,t2,s2)) (hrb:Mi P fn.results.toList ress=true) :
  (∀ r∈rsv++outs,r.cells.all AV.nilFree=true)/\∃ v,(results fn tmps).run P w=.ok v w/\Hg H0 φ0 w0 args bs outs rsv v w:=by
 obtain ⟨H1,i1,vs,F1,hrun,hall⟩:=NY (P:=P) hs hf hres hrb
 obtain ⟨H2,i2,us,F2,hul,hol,hok,hob⟩:=Hk F1.step.sr hbox
 have hnv:outs.length=bs.length:=by rw [hol,hbl]
 let nv:=bs.length
 let μ:Nat->Nat:=fun k=>if k<nv then k else (i2++i1).getD (k-nv) 0
 have μv:∀ k,k<nv->μ k=k:=fun k h=>by simp only [μ,h,if_true]
 have μb:∀ m i,i2[m]? = some i->μ (nv+m)=i:=fun m i hm=>by
  have hl:=(AN.1 hm).1
  simp only [μ,show ¬ nv+m<nv by omega,if_false,Nat.add_sub_cancel_left]
  simp [List.getD,AR hl,hm]
 have μr:∀ m i,i1[m]? = some i->μ (nv+i2.length+m)=i:=fun m i hm=>by
  simp only [μ,show ¬ nv+i2.length+m<nv by omega,if_false]
  rw [show nv+i2.length+m-nv=i2.length+m by omega]
  simp [List.getD,Av,hm]
 have hnd:(t2).Nodup:=F2.nd (F1.nd List.nodup_range)
 have ht2:t2=i2.reverse++(i1.reverse++List.range ids.length):=by rw [F2.tks,F1.tks]
 let est:=Ay outs rsv
 let φ2:Au:=fun k=>φ (μ k)
 have hc2:AC (Al outs)=i2.length:=F2.cnt
 have hc1:AC (cellsOf rsv)=i1.length:=F1.cnt
 have elen:est.length=nv+i2.length+i1.length:=by
  show (Ay outs rsv).length=_
  rw [Gy,hnv,hc2,hc1]
 have evar:∀ k,k<nv->(∃ (b:Nat) (c:Array Value) (el:TypeId) (a:AV),φ k=.pointer (some ⟨b,0,none⟩)/\w.heap[b]? = some (.cells c el (0,0))/\outs[k]? = some a/\AM s2.st k=true /\
   est[k]? = some (.var (Af (nv+AC (Al (outs.take k))) a.cellsO)) /\
   AQ (fun a u=>VC H2 φ s2.st (a.ren μ) u/\(a.solid=true\/∃ m,m<i2.length/\((∃ t e,∃ xs:List (Kd.T e),a=.row (nv+m)/\(AX (Al outs))[m]? = some (AD.rows t e xs))\/(∃ ecs,a=.ptr (nv+m) 0/\(AX (Al outs))[m]? = some (AD.var ecs)))))
    (Af (nv+AC (Al (outs.take k))) a.cellsO) c.toList)\/(∃ (t:TypeId) (e:Kd),∃ xs:List (Kd.T e),s2.st[k]? = some (AD.mrow t e xs)/\est[k]? = some (AD.mrow t e xs)):=by
  intro k hk
  have hk2:k<ids.length:=by omega
  have hp:ids[k]? = some ids[k]:=by simp
  have hk3:k<outs.length:=by omega
  have ha:outs[k]? = some outs[k]:=by simp
  have hget:est[k]? = some (N_ (nv+AC (Al (outs.take k))) outs[k]):=by
   show (Ay outs rsv)[k]? = _
   rw [Dp,AR (by rw [Ah]; exact hk3),EW outs _ k _ ha,hnv]
  rcases hob k _ hp with ⟨hno,g1,b,c,el,e1,e2,e3⟩ | ⟨t,e,xs,hK,g1,g2⟩
  ·rw [hids k _ hp] at g1 e1
   refine .inl ⟨b,c,el,outs[k],e1,e2,ha,g1,?_,Jh AV.cellsO hul (F2.vals nv μ μb) k _ _ ha e3⟩
   rw [hget]
   obtain ⟨p,hp2,_,x,hx⟩:=hok k _ ha
   rw [hp] at hp2
   cases hp2
   rw [hx,(Dq x hno).2,(Dq x hno).1]
  ·rw [hids k _ hp] at g1
   rw [ha] at g2
   refine .inr ⟨t,e,xs,g1,?_⟩
   rw [hget,Option.some.inj g2]
   rfl
 have erow:∀ k b,nv<=k->est[k]? = some b->NX s2.st (μ k) b/\(i2++i1)[k-nv]? = some (μ k):=by
  intro k b hk hb
  have hb:(Ay outs rsv)[k]? = some b:=hb
  rw [Dp,Av (by rw [Ah,hnv]; exact hk),Ah,hnv,As] at hb
  rcases Ax (k-bs.length) (AX (Al outs)).length with h | h
  ·rw [AR h] at hb
   obtain ⟨i,g1,g2⟩:=F2.boxes _ b hb
   have e:=μb _ i g1
   rw [show nv+(k-bs.length)=k by omega] at e
   rw [e]
   exact ⟨g2,by rw [AR (AN.1 g1).1]; exact g1⟩
  ·rw [Av h] at hb
   obtain ⟨i,g1,g2⟩:=F1.boxes _ b hb
   rw [Bw,hc2] at h g1
   have e:=μr _ i g1
   rw [show nv+i2.length+(k-bs.length-i2.length)=k by omega] at e
   rw [e]
   refine ⟨?_,by rw [Av h]; exact g1⟩
   have hh:=F2.held i (by rw [F1.tks]; simp [List.mem_of_getElem? g1])
   unfold NX at g2 ⊢
   rw [hh]
   exact g2
 have rowsE:∀ m t e (xs:List (Kd.T e)),(AX (Al outs))[m]? = some (AD.rows t e xs)->est[nv+m]? = some (AD.rows t e xs):=by
  intro m t e xs h
  show (Ay outs rsv)[nv+m]? = _
  have hl:=(AN.1 h).1
  rw [Dp,Av (by rw [Ah,hnv]; exact Nat.le_add_right _ _),Ah,hnv,As,show nv+m-bs.length=m by simp only [nv]; omega,AR hl]
  exact h
 have restE:∀ m b,(AX (cellsOf rsv))[m]? = some b->est[nv+i2.length+m]? = some b:=by
  intro m b h
  show (Ay outs rsv)[nv+i2.length+m]? = _
  rw [Dp,Av (by rw [Ah,hnv]; simp only [nv]; omega),Ah,hnv,As,Av (by rw [Bw,hc2]; simp only [nv]; omega),Bw,hc2,
   show nv+i2.length+m-bs.length-i2.length=m by simp only [nv]; omega]
  exact h
 have hs2:=F2.step.sr
 have μt:∀ k,k<est.length->(k<nv/\μ k=k)\/(nv<=k/\(i2++i1)[k-nv]? = some (μ k)):=by
  intro k hk
  rcases Ax k nv with h | h
  ·exact .inl ⟨h,μv k h⟩
  ·exact .inr ⟨h,(erow k est[k] h (by simp)).2⟩
 have μinj:∀ k k',k<est.length->k'<est.length->μ k=μ k'->k=k':=by
  intro k k' hk hk' e
  have hndl:(i2++i1).Nodup/\∀ i∈i2++i1,¬ i<ids.length:=by
   rw [ht2,<- Bs] at hnd
   have h1:=List.nodup_append.1 hnd
   constructor
   ·have h2:=List.nodup_append.1 h1.1
    exact List.nodup_append.2 ⟨(List.reverse_perm i2).nodup_iff.1 h2.1,(List.reverse_perm i1).nodup_iff.1 h2.2.1,fun a ha b hb=>h2.2.2 a (by simpa using ha) b (by simpa using hb)⟩
   ·intro i hi hlt
    exact h1.2.2 i (by simpa using hi) i (List.mem_range.2 hlt) rfl
  rcases μt k hk with ⟨h1,e1⟩ | ⟨h1,e1⟩<;>rcases μt k' hk' with ⟨h2,e2⟩ | ⟨h2,e2⟩
  ·omega
  ·exact absurd (show μ k'<ids.length by rw [<- e,e1]; omega) (hndl.2 _ (List.mem_of_getElem? e2))
  ·exact absurd (show μ k<ids.length by rw [e,e2]; omega) (hndl.2 _ (List.mem_of_getElem? e1))
  ·rw [<- e] at e2
   have:=(List.getElem?_inj (AN.1 e1).1 hndl.1).1 (e1.trans e2.symm)
   omega
 have vcE:∀ a u,VC H2 φ s2.st (a.ren μ) u->(a.solid=true\/(∃ k t e,∃ xs:List (Kd.T e),a=.row k/\est[k]? = some (AD.rows t e xs))\/∃ k ecs,a=.ptr k 0/\est[k]? = some (AD.var ecs))->VC H2 φ2 est a u:=by
  intro a u hv hc
  rcases hc with h | ⟨k,t,e,xs,rfl,hk⟩ | ⟨k,ecs,rfl,hk⟩
  ·rw [K7 h] at hv
   exact VC.of_VF (hv.solid h)
  ·obtain ⟨e1,_⟩:=hv
   exact ⟨e1,by simp only [Z,hk]; rfl⟩
  ·obtain ⟨_,b,e1,e2⟩:=hv
   exact ⟨by simp only [AM,hk],b,e1,e2⟩
 have hbox2:∀ k b,est[k]? = some b->DX H2 w (φ2 k) b:=by
  intro k b hk
  rcases Ax k nv with h | h
  ·rcases evar k h with ⟨b0,c,el,a,e1,e2,e3,_,e4,e5⟩ | ⟨t,e,xs,e1,e2⟩
   rotate_left
   ·rw [hk] at e2
    cases e2
    rw [show φ2 k=φ k by simp only [φ2,μv k h]]
    exact hs2.box k _ e1
   rw [hk] at e4
   cases e4
   obtain ⟨p,hp,hnr,x,hx⟩:=hok k a e3
   refine ⟨b0,c,el,by simp only [φ2,μv k h]; exact e1,e2,e5.impM fun a' ha' u ⟨g1,g2⟩=>?_⟩
   have hnp:=Ld _ _ (by
    intro c hc
    rw [hx] at hc
    by_cases ho:p.2.isOwn=true
    ·revert x
     obtain ⟨t,e,ho⟩:=MV ho
     rw [ho]
     intro x _ hc
     simp [MW x] at hc
    ·rw [(Dq x (by simpa using ho)).1] at hc
     exact K8 _ _ hnr c hc) a' ha'
   rcases g2 with g2 | ⟨m,_,⟨t,e,xs,rfl,_⟩ | ⟨ecs,rfl,g3⟩⟩
   ·rw [K7 g2] at g1
    exact VW.of_VF (g1.solid g2)
   ·trivial
   ·cases hnp
  ·obtain ⟨g1,_⟩:=erow k b h hk
   rcases g1 with ⟨t,e,xs,g2,rfl⟩ | ⟨cs,ecs,g2,rfl,g3,g4⟩
   ·exact hs2.box _ _ g2
   ·obtain ⟨b0,c,el,e1,e2,e3⟩:=hs2.box _ _ g2
    refine ⟨b0,c,el,e1,e2,Gb (by rw [e3.length,g3]) fun o a u ha hu=>?_⟩
    obtain ⟨c0,c1,c2,c3,c4⟩:=g4 o a ha
    have hw:=e3.at c1 hu
    have hf:VF H2 c0 u:=by cases c0<;>first | exact hw | cases c3
    exact VW.of_VF (c4 H2 u hf)
 have hlive:∀ (k:Nat) (b2:AD),est[k]? = some b2->b2.live=true->(∀ b,¬BB (φ2 k) b)\/∃ b,s2.st[μ k]? = some b/\b.live=true/\φ2 k=φ (μ k):=by
  intro k b hk _
  right
  rcases Ax k nv with h | h
  ·rw [μv k h]
   rcases evar k h with ⟨_,_,_,_,_,_,_,e3,_⟩ | ⟨t,e,xs,e1,_⟩
   ·unfold AM at e3
    split at e3
    ·rename_i cs e; exact ⟨_,e,rfl,by simp only [φ2,μv k h]⟩
    ·cases e3
   ·exact ⟨_,e1,rfl,by simp only [φ2,μv k h]⟩
  ·obtain ⟨g1,_⟩:=erow k b h hk
   rcases g1 with ⟨t,e,xs,g2,_⟩ | ⟨cs,ecs,g2,_⟩
   ·exact ⟨_,g2,rfl,rfl⟩
   ·exact ⟨_,g2,rfl,rfl⟩
 have hsr:SR H2 φ2 est w:=by
  refine AK.pick hs2 μ hbox2 hlive (fun k k' b b' hk hk' _ _ _ _ e=>μinj k k' (AN.1 hk).1 (AN.1 hk').1 e) (fun k cs hk o i ho=>?_)
  rcases Ax k nv with h | h
  ·rcases evar k h with ⟨b0,c,el,a,e1,e2,e3,_,e4,e5⟩ | ⟨t,e,xs,_,e2⟩
   rotate_left
   ·rw [hk] at e2; cases e2
   rw [hk] at e4
   cases e4
   obtain ⟨u,hu,g1,g2⟩:=e5.get o _ ho
   rcases g2 with g2 | ⟨m,_,⟨t,e,xs,g3,g4⟩ | ⟨ecs,g3,_⟩⟩
   ·cases g2
   ·cases g3
    refine ⟨by simp only [Z,rowsE m t e xs g4]; rfl,b0,by simp only [φ2,μv k h]; exact e1,?_⟩
    obtain ⟨g5,_⟩:=g1
    simp only [World.cell?,e2]
    rw [Array.getElem?_toList] at hu
    simp only [Option.isSome_none,Bool.false_eq_true,if_false,hu]
    rw [g5]
   ·cases g3
  ·obtain ⟨g1,_⟩:=erow k _ h hk
   rcases g1 with ⟨t,e,xs,_,g3⟩ | ⟨cs0,ecs,g2,g3,_,g4⟩
   ·cases g3
   ·cases g3
    obtain ⟨_,_,g5,_⟩:=g4 o _ ho
    cases g5
 have hfr2:Fr bs.length (Ay bs args).length H0 φ0 w0 H2 φ2 est w:=by
  have f2:=F2.step.fr _ _ _ _ _ (F1.step.fr _ _ _ _ _ hfr)
  refine ⟨f2.os,f2.tape,f2.output,f2.size,f2.old,fun j hj=>?_,fun i bi hi hl b hb=>?_,fun j hj=>?_,f2.frz⟩
  ·have:=f2.same j hj
   simp only [φ2,μv j hj]
   exact this
  ·rcases hlive i bi hi hl with e | ⟨b1,g1,g2,g3⟩
   ·exact (e _ hb).elim
   ·rw [g3] at hb
    exact f2.new _ b1 g1 g2 b hb
  ·rcases evar j hj with ⟨_,_,_,_,_,_,_,_,e4,_⟩ | ⟨t,e,xs,_,e4⟩
   ·simp only [AG,e4]; rfl
   ·simp only [AG,e4]; rfl
 have hhan:CW outs=nv+i2.length:=by rw [Kx,hnv,hc2]
 have hvals:AQ (VB H2 φ2 est) (Bb (CW outs) rsv) vs:=by
  rw [hhan]
  have h1:=F1.vals (nv+i2.length) μ μr
  have h2:AQ (VC H2 φ2 est) (Af (nv+i2.length) (cellsOf rsv)) (vs.map fun v=>v.cells.toList).flatten:=by
   rw [<- List.flatMap_def]
   refine h1.imp fun a u ⟨g1,g2⟩=>vcE a u (g1.mono F2.step.le F2.keeps) ?_
   rcases g2 with g2 | ⟨m,_,⟨t,e,xs,g3,g4⟩ | ⟨ecs,g3,g4⟩⟩
   ·exact .inl g2
   ·exact .inr (.inl ⟨_,t,e,xs,g3,restE m _ g4⟩)
   ·exact .inr (.inr ⟨_,ecs,g3,restE m _ g4⟩)
  have h3:AQ (fun a u=>a.cells.length=u.length) rsv (vs.map fun v=>v.cells.toList):=by
   refine Gb (by rw [List.length_map,hall.length]) fun j a u ha hu=>?_
   rw [BF] at hu
   obtain ⟨v,hv,_,_,_,_,hl⟩:=hall.get j a ha
   rw [hv] at hu
   cases hu
   exact hl
  refine Gb (by rw [Ew,hall.length]) fun j a v ha hv=>?_
  have hj:j<rsv.length:=by rw [<- Ew rsv (nv+i2.length)]; exact (AN.1 ha).1
  have hr:rsv[j]? = some rsv[j]:=by simp
  rw [Mj rsv _ j _ hr] at ha
  cases ha
  have h4:=Jh AV.cells h3 h2 j rsv[j] v.cells.toList hr (by rw [BF,hv]; rfl)
  obtain ⟨v',hv',K,x,hK,hfit,_⟩:=hall.get j _ hr
  rw [hv] at hv'
  cases hv'
  rw [hK] at h4 ⊢
  change AQ _ (Af (nv+i2.length+AC (cellsOf (List.take j rsv))) _) _ at h4
  generalize nv+i2.length+AC (cellsOf (List.take j rsv))=kk at h4 ⊢
  have single:(K.av x).cells=[K.av x]->v.cells=#[v]->J1 kk (K.av x)=(Af kk [K.av x]).headD .undef->VB H2 φ2 est (J1 kk (K.av x)) v:=by
   intro e1 e2 e3
   rw [e1,e2] at h4
   rw [e3]
   cases hq:Af kk [K.av x] with
   | nil=>rw [hq] at h4; simp [AQ] at h4
   | cons c r =>
    rw [hq] at h4
    obtain ⟨v',r',e,h5,_⟩:=h4
    cases e
    exact VB.of_VC h5
  cases K with
  | pair k l =>
   obtain ⟨arr,rfl⟩:=hfit
   exact ⟨arr,rfl,h4⟩
  | _=>exact single rfl hfit rfl
 have nfs:∀ {l:List AV},(cellsOf l).all AV.nilFree=true->∀ r∈l,r.cells.all AV.nilFree=true:=by
  intro l h r hr
  refine Ao.2 fun c hc=>Ao.1 h c ?_
  exact List.mem_flatMap.2 ⟨r,hr,hc⟩
 refine ⟨fun r hr=>?_,match vs with | [v]=>v | vs=>.tuple vs.toArray,?_,H2,φ2,HP.le_trans hle (HP.le_trans F1.step.le F2.step.le),hsr,hfr2,?_⟩
 ·rcases BE.1 hr with h | h
  ·exact nfs F1.nf r h
  ·obtain ⟨j,hj⟩:=List.mem_iff_getElem?.1 h
   obtain ⟨p,_,_,x,hx⟩:=hok j r hj
   by_cases ho:p.2.isOwn=true
   ·subst hx
    revert x
    obtain ⟨t,e,ho⟩:=MV ho
    rw [ho]
    intro x
    intros
    rfl
   ·refine Ao.2 fun c hc=>Ao.1 F2.nf c (List.mem_flatMap.2 ⟨r,h,?_⟩)
    subst hx
    rw [(Dq x (by simpa using ho)).1]
    rw [IM] at hc
    exact hc
 ·have hm:(fn.results.mapM (Hj tmps)).run P w=.ok vs.toArray w:=by
   rw [Array.mapM_eq_mapM_toList,<- bind_pure_comp,Sem.run_bind,hrun]
   rfl
  have hr:results fn tmps=(fn.results.mapM (Hj tmps)) >>= fun vs=>pure (if h:vs.size=1 then vs[0] else .tuple vs):=by
   unfold results
   first | rfl | (congr 1; done) | (congr 1; congr 1; done) | (congr 1; congr 1; funext rv; cases rv<;>rfl)
  rw [hr,Sem.run_bind,hm]
  cases vs with
  | nil=>rfl
  | cons v vs =>
   cases vs with
   | nil=>rfl
   | cons v2 vs=>rfl
 ·cases vs with
  | nil =>
   have:rsv=[]:=by
    have:=hall.length
    exact Cr.1 (by simpa using this.symm)
   subst this
   exact ⟨_,rfl,rfl⟩
  | cons v vs =>
   cases vs with
   | nil =>
    have h1:rsv.length=1:=by have:=hall.length; simpa using this.symm
    obtain ⟨a,rfl⟩:=List.length_eq_one_iff.1 h1
    obtain ⟨v',r,e,h2,_⟩:=hvals
    cases e
    exact h2
   | cons v2 vs =>
    have h1:rsv.length=vs.length+2:=by have:=hall.length; simpa using this.symm
    obtain ⟨a,b,r,rfl⟩:∃ a b r,rsv=a::b::r:=by
     match rsv,h1 with
     | a::b::r,_=>exact ⟨a,b,r,rfl⟩
    exact ⟨_,rfl,hvals⟩
def Kd.sol:Kd->Bool
 | .pair a b=>a.sol&&b.sol
 | .own _ _ | .ref _=>false
 | _=>true
def Kd.okOut:Kd->Bool
 | .pair a b=>a.okOut&&b.okOut
 | .ref K=>K.sol
 | _=>true
theorem N4:∀ (K:Kd) (x:K.T),K.sol=true->(K.enc x).all (fun c=>c.solid&&(match c with | .nil=>false | _=>true))=true
 | .int _,_,_=>rfl
 | .bool,_,_=>rfl
 | .str,_,_=>rfl
 | .slice _,_,_=>rfl
 | .pair a b,x,h=>by
  simp only [Kd.sol,J] at h
  simp only [Kd.enc,List.all_append,N4 a x.1 h.1,N4 b x.2 h.2,Bool.and_self]
 | .own _ _,_,h=>by cases h
 | .ref _,_,h=>by cases h
 | .fun _,_,_=>rfl
 | .clo _ _,_,_=>rfl
theorem K9:∀ (K:Kd) (x:K.T),K.okOut=true->(K.enc x).all AV.nilFree=true
 | .int _,_,_=>rfl
 | .bool,_,_=>rfl
 | .str,_,_=>rfl
 | .slice _,_,_=>rfl
 | .pair a b,x,h=>by
  simp only [Kd.okOut,J] at h
  simp only [Kd.enc,List.all_append,K9 a x.1 h.1,K9 b x.2 h.2,Bool.and_self]
 | .own _ _,_,_=>rfl
 | .fun _,_,_=>rfl
 | .clo _ _,_,_=>rfl
 | .ref K,x,h=>by
  simp only [Kd.enc,List.all_cons,List.all_nil,Bool.and_true,AV.nilFree]
  exact N4 K x h
def RI (P:Program) (f:Nat) (a:Dj):Bool :=
 match P.funcs[f]? with
 | some fn=>(match fn.body with
  | some c=>!(fn.name == "runtime.NumGoroutine")&&CV P fn.ntmps c a.body&&Mi P fn.results.toList a.res&&decide (a.params.length≤fn.ntmps)&&a.outs.all Kd.okOut
  | none=>false)
 | none=>false
theorem NZ:∀ (ks:List Kd) (j0:Nat),(LP ks j0).length=ks.length/\∀ (j:Nat) (p:Nat×Kd),(LP ks j0)[j]? = some p->p.1=j0+j
 | [],j0=>⟨rfl,fun j p h=>by simp [LP] at h⟩
 | k::ks,j0=>by
  obtain ⟨h1,h2⟩:=NZ ks (j0+1)
  refine ⟨by simp [LP,h1],fun j p h=>?_⟩
  simp only [LP] at h
  cases j with
  | zero=>simp at h; subst h; rfl
  | succ j=>have:=h2 j p (by simpa using h); omega
theorem Bx:∀ (ps:List PK) (j0 j:Nat) (p:Nat×Kd),(Bz ps j0)[j]? = some p->p.1=j0+j
 | [],j0,j,p,h=>by simp [Bz] at h
 | .val _::r,j0,j,p,h=>Bx r j0 j p h
 | .bor _::r,j0,j,p,h=>Bx r j0 j p h
 | .mov _::r,j0,j,p,h=>Bx r j0 j p h
 | .movS _::r,j0,j,p,h=>Bx r j0 j p h
 | .ept::r,j0,j,p,h=>Bx r j0 j p h
 | .cap _ _::r,j0,j,p,h=>Bx r j0 j p h
 | .cap0 _::r,j0,j,p,h=>Bx r j0 j p h
 | .ptr K::r,j0,j,p,h=>by
  simp only [Bz] at h
  cases j with
  | zero=>simp at h; subst h; rfl
  | succ j=>have:=Bx r (j0+1) j p (by simpa using h); omega
 | .mut K::r,j0,j,p,h=>by
  simp only [Bz] at h
  obtain ⟨hl,hm⟩:=NZ K.owns j0
  rcases Ax j (LP K.owns j0).length with h1 | h1
  ·rw [AR h1] at h; exact hm j p h
  ·rw [Av h1,hl] at h
   rw [hl] at h1
   have:=Bx r _ _ p h
   omega
theorem Le:∀ (vs:List AV) (i t:Nat),CA (Fj i vs) t=if i<=t/\t<i+vs.length then vs.getD (t-i) .undef else .undef
 | [],i,t=>by simp [Fj,CA]
 | v::vs,i,t=>by
  simp only [Fj,CA]
  by_cases h:i=t
  ·subst h
   rw [if_pos rfl,if_pos ⟨Nat.le_refl _,by simp⟩]
   simp
  ·rw [if_neg h,Le vs (i+1) t]
   by_cases h1:i+1<=t/\t<i+1+vs.length
   ·rw [if_pos h1,if_pos ⟨by omega,by simp; omega⟩,show t-i=(t-(i+1))+1 by omega]
    simp
   ·rw [if_neg h1,if_neg (by simp; omega)]
theorem Na:∀ {rs:List Rh} {aw:List AV} {tk tk':List Nat} {s s':St},s.result tk rs=some (aw,tk',s')->aw.length=rs.length
 | [],aw,tk,tk',s,s',h=>by cases h; rfl
 | r::rs,aw,tk,tk',s,s',h=>by
  simp only [St.result] at h
  cases h1:s.resCells r with
  | none=>rw [h1] at h; cases h
  | some cs =>
   rw [h1] at h
   simp only [AA] at h
   cases h2:s.shutAll tk r.K.leaves cs with
   | none=>rw [h2] at h; cases h
   | some y =>
    rw [h2] at h
    simp only [AA] at h
    cases h3:r.K.ofCells y.1 with
    | none=>rw [h3] at h; cases h
    | some x =>
     rw [h3] at h
     simp only [AA] at h
     cases h4:y.2.2.result y.2.1 rs with
     | none=>rw [h4] at h; cases h
     | some z =>
      obtain ⟨aw',t2,s2⟩:=z
      rw [h4] at h
      cases h
      simp [Na h4]
theorem SK {cal:CQ} {k f:Nat} {a:Dj} {args bs rs:List AV} (hcal:C_ P cal) (hb:RI P f a=true) (hl:args.length=a.params.length/\bs.length=(Bz a.params 0).length)
  (h:(PU cal k a args bs).map (Bg a.outs)=some rs):MX P f/\(∀ r∈rs,r.cells.all AV.nilFree=true)/\∃ n,n+bs.length=rs.length /\
  ∀ (H:HP) (φ:Au) (w:World) (cargs:List Value),SR H φ (Ay bs args) w->AQ (VB H φ (Ay bs args)) (Bb (CW bs) args) cargs ->
   Calls P f cargs.toArray w fun out w'=>match out with
    | .returned v=>Hg H φ w args bs (rs.drop n) (rs.take n) v w'
    | _=>False:=by
 unfold RI at hb
 split at hb
 case h_2=>cases hb
 rename_i fn hfn
 split at hb
 case h_2=>cases hb
 rename_i c hc
 simp only [J,Cc,decide_eq_true_eq] at hb
 obtain ⟨⟨⟨⟨hname,hcode⟩,hress⟩,hlen⟩,hout⟩:=hb
 cases hr:PU cal k a args bs with
 | none=>rw [hr] at h; cases h
 | some r =>
 rw [hr] at h
 simp only [Option.map_some,AY] at h
 subst h
 have hol:a.outs.length=a.res.length+bs.length:=by rw [hl.2]; simp [Dj.outs]
 have el:(Bg a.outs r).length=a.outs.length:=by
  have:∀ (Ks:List Kd) (y:RT Ks),(Bg Ks y).length=Ks.length:=by
   intro Ks
   induction Ks with
   | nil=>intro y; rfl
   | cons K Ks ih =>
    intro y
    cases Ks with
    | nil=>rfl
    | cons L Ks=>simp only [Bg,List.length_cons] at ih ⊢; rw [ih y.2]
  exact this _ _
 refine ⟨⟨fn,c,hfn,hname,hc⟩,fun q hq=>?_,a.res.length,by rw [el,hol],fun H φ w cargs hs hargs=>?_⟩
 ·obtain ⟨j,hj⟩:=List.mem_iff_getElem?.1 hq
  have hjl:j<a.outs.length:=by rw [<- el]; exact (AN.1 hj).1
  obtain ⟨x,hx⟩:=Kz a.outs r j a.outs[j] (by simp)
  rw [hx] at hj
  cases hj
  rw [IM]
  exact K9 _ _ (Ao.1 hout _ (GZ hjl))
 ·have hcl:cargs.length=args.length:=by rw [hargs.length,Ew]
  have hsz:(cargs.toArray++Array.replicate (fn.ntmps-cargs.toArray.size) undef).size=fn.ntmps:=by
   simp only [Array.size_append,List.size_toArray,Array.size_replicate]
   omega
  have hf0:B7 H φ (Ay bs args) (Fj 0 (Bb (CW bs) args)) (cargs.toArray++Array.replicate (fn.ntmps-cargs.toArray.size) undef):=by
   intro t
   rw [Le]
   split
   ·rename_i ht
    have ht2:t<(Bb (CW bs) args).length:=by omega
    have h1:(Bb (CW bs) args)[t]? = some (Bb (CW bs) args)[t]:=by simp
    obtain ⟨v,hv,hvb⟩:=hargs.get t _ h1
    have e1:(Bb (CW bs) args).getD (t-0) .undef=(Bb (CW bs) args)[t]:=by simp [List.getD,ht2]
    have ht3:t<cargs.length:=(AN.1 hv).1
    have e2:(cargs.toArray++Array.replicate (fn.ntmps-cargs.toArray.size) undef).getD t undef=v:=by
     rw [Array.getD_eq_getD_getElem?,Array.getElem?_append_left (by simpa using ht3)]
     simp only [List.getElem?_toArray,hv,Option.getD_some]
    rw [e1,e2]
    exact VA.of_VB hvb
   ·trivial
  have fr0:Fr bs.length (Ay bs args).length H φ w H φ (Ay bs args) w:=by
   refine ⟨rfl,rfl,rfl,Nat.le_refl _,fun _ _ _=>rfl,fun _ _=>rfl,fun i bi hi _ b hb=>.inr ⟨i,(AN.1 hi).1,hb⟩,fun j hj=>?_,fun _ _ _=>rfl⟩
   have hv:bs[j]? = some bs[j]:=by simp
   unfold AG
   rw [Dp,AR (by rw [Ah]; exact hj),EW bs _ j _ hv]
   generalize bs[j]=v
   cases v<;>rfl
  have fin:Lc fn.ntmps (BQ a) r ⟨Fj 0 (Bb (CW bs) args),Ay bs args⟩ { tmps:=cargs.toArray++Array.replicate (fn.ntmps-cargs.toArray.size) undef,defers:=[] } w H φ
    (fun act' w'=>act'.defers=[]/\∃ v,(results fn act'.tmps).run P w'=.ok v w'/\Hg H φ w args bs ((Bg a.outs r).drop a.res.length) ((Bg a.outs r).take a.res.length) v w'):=by
   intro s' act' w' H' φ' hk hst hf' hn' hd'
   refine ⟨hd',?_⟩
   unfold BQ at hk
   cases h1:s'.result (List.range (Bz a.params 0).length) a.res with
   | none=>rw [h1] at hk; cases hk
   | some y =>
    obtain ⟨rsv,t1,s1⟩:=y
    rw [h1] at hk
    simp only [AA] at hk
    cases h2:s1.shutBoxes t1 (Bz a.params 0) with
    | none=>rw [h2] at hk; cases hk
    | some z =>
     obtain ⟨outs,t2,s2⟩:=z
     rw [h2] at hk
     simp only [AA] at hk
     obtain ⟨nf,v,hv,hend⟩:=S7 (P:=P) (args:=args) hst.sr hf' (hst.fr _ _ _ _ _ fr0) hst.le (fun j p hp=>by have:=Bx a.params 0 j p hp; omega) hl.2 h1 h2 hress
     have henc:=NT _ _ r hk nf
     have hrl:=Na h1
     rw [henc,<- hrl,List.drop_left,List.take_left]
     exact ⟨v,hv,hend⟩
  have hwp:=SH (P:=P) (n:=fn.ntmps) (k:=k) hcal a.body c hcode (RT a.outs) (BQ a) (BQ a) (fun _ _=>none) r ⟨Fj 0 (Bb (CW bs) args),Ay bs args⟩
   { tmps:=cargs.toArray++Array.replicate (fn.ntmps-cargs.toArray.size) undef,defers:=[] } w H φ
   (bodyPost P fn fun out w'=>match out with
    | .returned v=>Hg H φ w args bs ((Bg a.outs r).drop a.res.length) ((Bg a.outs r).take a.res.length) v w'
    | _=>False) hs hf0 hsz hr fin fin (fun i s' act' w' H' φ' hk=>by cases hk)
  exact calls_of_wp hfn hc hwp
def D3 (P:Program) (f:Nat) (a:Dj):Bool:=(decide (f<Bh)||decide (2*Bh<=f))&&RI P (f % Bh) a
def RJ (P:Program) (I5:Nat->Option Dj):Prop:=∀ f a,I5 f=some a->D3 P f a=true
theorem Oe {I5:Nat->Option Dj} {Ce:CQ} (ht:RJ P I5) (hp:C_ P Ce):∀ k,C_ P (J6 I5 Ce k)
 | 0=>⟨fun f k t T _ h=>(by cases h),fun f args bs rs _ h=>by cases h⟩
 | k+1=>⟨fun f q t T hf h=>(by
  simp only [J6] at h
  split at h
  ·rename_i a ha
   have:=ht _ a ha
   simp only [D3,J,EB,decide_eq_true_eq] at this
   omega
  ·exact hp.1 f q t T hf h),fun f args bs rs hlt h=>by
  simp only [J6] at h
  split at h
  ·rename_i a ha
   split at h
   ·rename_i hl
    exact SK (Oe ht hp k) (by have:=ht f a ha; simp only [D3,J] at this; exact this.2) hl h
   ·cases h
  ·exact hp.2 f args bs rs hlt h⟩
end Go.Proofs.Ytffahmnodgnohaa.Core

namespace Go.Proofs.Ytffahmnodgnohaa.Core
open Go
def Kd.ok:(K:Kd)->K.T->Prop
 | .int k,n=>k.min<=n/\n<=k.max
 | .bool,_=>True
 | .str,s=>s.size<=maxLen
 | .slice e,xs=>xs.length<=maxLen/\∀ x∈xs,Kd.ok e x
 | .pair a b,x=>a.ok x.1/\b.ok x.2
 | .own _ _,_=>False
 | .ref _,_=>False
 | .fun _,_=>False
 | .clo _ _,_=>False
mutual
def JS (P:Program):Nat->TypeId->Kd->Bool
 | 0,_,_=>false
 | D+1,t,K=>match P.underlying t with
  | some (.int k)=>(match K with | .int k'=>decide (k=k') | _=>false)
  | some .bool=>(match K with | .bool=>true | _=>false)
  | some .string=>(match K with | .str=>true | _=>false)
  | some (.slice te)=>(match K with | .slice e=>P.cellsOf te==e.sz&&JS P D te e | _=>false)
  | some (.struct fs)=>P.cellsOf t==K.sz&&(match K with | .pair _ _=>true | _=>false)&&Hl P D fs.toList 0 K
  | _=>false
def Hl (P:Program):Nat->List Field->Nat->Kd->Bool
 | 0,_,_,_=>false
 | _+1,[],_,_=>false
 | D+1,[f],off,K=>f.offset==off&&P.cellsOf f.type==K.sz&&JS P D f.type K
 | D+1,f::g::fs,off,K=>match K with
  | .pair a b=>f.offset==off&&P.cellsOf f.type==a.sz&&JS P D f.type a&&Hl P D (g::fs) (off+a.sz) b
  | _=>false
end
def HH (w:World):HP:=fun b=>w.heap[b]?
theorem Mk {w:World} {base:Nat} {a:Addr} {n:Nat} {cs:List Value} (h:w.cells? base a n=some cs):cs.length=n/\∀ i,i<n->w.cell? (a.add i)=cs[i]? := by
 unfold World.cells? at h
 split at h
 ·exact ⟨by simpa using mapM_some_length h,fun i hi=>mapM_some_get h i i (by simp [hi])⟩
 ·cases h
theorem Nb (a:Addr):a.add 0=a:=by unfold Addr.add; split<;>simp_all
theorem Nc {w:World} {a:Addr} {u:Value} (h:w.cell? a=some u):a=⟨a.block,a.off,none⟩/\∃ c el fz,w.heap[a.block]? = some (.cells c el fz)/\c[a.off]? = some u:=by
 obtain ⟨b,o,sp⟩:=a
 simp only [World.cell?] at h
 split at h
 ·rename_i c el fz hc
  cases sp with
  | some sp=>simp at h
  | none =>
   simp only [Option.isSome_none,Bool.false_eq_true,if_false] at h
   exact ⟨rfl,c,el,fz,hc,h⟩
 ·cases h
mutual
theorem MB {H:Type} {enc:TypeId×Value->H} {P:Program} {w:World} {base:Nat} {spare:Nat->Bool} {held:Bool}:∀ (D:Nat) (t:TypeId) (K:Kd) (fuel:Nat) (cs:List Value) (x:DataW H×List MemPlace),JS P D t K=true ->
  DataW.trod enc P w base spare held fuel t cs=some x->∃ y:K.T,CU (HH w) K y cs/\Kd.ok K y
 | 0,t,K,fuel,cs,x,h,_=>by simp [JS] at h
 | D+1,t,K,fuel,cs,x,h,hd=>by
  unfold JS at h
  split at h
  ·rename_i k hu
   cases K<;>first | cases h | skip
   simp only [decide_eq_true_eq] at h
   subst h
   obtain ⟨n,rfl,_,hw⟩:=DataW.trod_int hu hd
   simp only [Lit.wf,J,decide_eq_true_eq] at hw
   exact ⟨n,rfl,hw⟩
  ·rename_i hu
   cases K<;>first | cases h | skip
   obtain ⟨b,rfl,_⟩:=DataW.trod_bool hu hd
   exact ⟨b,rfl,trivial⟩
  ·rename_i hu
   cases K<;>first | cases h | skip
   obtain ⟨s,rfl,_,hs⟩:=DataW.trod_string hu hd
   exact ⟨s,rfl,hs⟩
  ·rename_i te hu
   cases K<;>first | cases h | skip
   rename_i e
   simp only [J,beq_iff_eq] at h
   rcases DataW.trod_slice hu hd with ⟨rfl,_⟩ | ⟨a,len,cap,elems,rest,n,_,rfl,_,_,hl,hm,hlen,hel,_⟩
   ·exact ⟨[],⟨_,rfl,EU⟩,by simp [Kd.ok]⟩
   ·have each:∀ i,i<len->∃ y:e.T,∃ cs',w.cells? base (a.add (i*e.sz)) e.sz=some cs'/\CU (HH w) e y cs'/\Kd.ok e y:=by
     intro i hi
     have h1:=hel i hi
     rw [h.1] at h1
     have h2:elems[i]? = some (elems[i]'(by omega)):=by simp
     rw [h2] at h1
     cases hq:w.cells? base (a.add (i*e.sz)) e.sz with
     | none=>rw [hq] at h1; cases h1
     | some cs' =>
      rw [hq] at h1
      simp only [AA] at h1
      obtain ⟨y,h3,h4⟩:=MB D te e n cs' _ h.2 h1
      exact ⟨y,cs',rfl,h3,h4⟩
    have all:∀ m,m<=len->∃ ys:List e.T,ys.length=m/\∀ i y,ys[i]? = some y->∃ cs',w.cells? base (a.add (i*e.sz)) e.sz=some cs'/\CU (HH w) e y cs'/\Kd.ok e y:=by
     intro m
     induction m with
     | zero=>intro _; exact ⟨[],rfl,fun i y h=>by simp at h⟩
     | succ m ih =>
      intro hm
      obtain ⟨ys,l,hy⟩:=ih (by omega)
      obtain ⟨y,cs',g1,g2,g3⟩:=each m (by omega)
      refine ⟨ys++[y],by simp [l],fun i z hz=>?_⟩
      rcases Ax i ys.length with hi | hi
      ·rw [AR hi] at hz
       exact hy i z hz
      ·rw [Av hi] at hz
       have hi0:i-ys.length=0:=by
        have:=(AN.1 hz).1
        simp at this
        omega
       rw [hi0] at hz
       simp at hz
       subst hz
       have:i=m:=by omega
       subst this
       exact ⟨cs',g1,g2,g3⟩
    obtain ⟨ys,l,hy⟩:=all len (Nat.le_refl _)
    have hok:ys.length<=maxLen/\∀ y∈ys,Kd.ok e y:=by
     refine ⟨by omega,fun y hm=>?_⟩
     obtain ⟨i,hi⟩:=List.mem_iff_getElem?.1 hm
     obtain ⟨_,_,_,g⟩:=hy i y hi
     exact g
    refine ⟨ys,⟨_,rfl,some a,cap,by rw [l],by omega,?_⟩,hok⟩
    cases hys:ys with
    | nil=>exact .inl rfl
    | cons y0 yr =>
     right
     have hsz:=Kd.sz_pos e
     obtain ⟨cs0,g1,g2,_⟩:=hy 0 y0 (by rw [hys]; rfl)
     obtain ⟨l0,c0⟩:=Mk g1
     have hc0:=c0 0 hsz
     have hcs0:cs0[0]? = some (cs0[0]'(by omega)):=by simp
     rw [hcs0,Nat.zero_mul,Nb,Nb] at hc0
     obtain ⟨ea,c,el,fz,hb,_⟩:=Nc hc0
     have addadd:∀ x y:Nat,(a.add x).add y=⟨a.block,a.off+(x+y),none⟩:=by
      intro x y
      rw [ea,Addr.add_none,Addr.add_none,Nat.add_assoc]
     refine ⟨a.block,a.off,c,el,fz,by rw [<- ea],hb,fun j y hj=>?_⟩
     obtain ⟨cs',g3,g4,_⟩:=hy j y (by rw [hys]; exact hj)
     obtain ⟨l1,c1⟩:=Mk g3
     refine ⟨cs',g4,l1,fun i u hu=>?_⟩
     have hi:i<e.sz:=by rw [<- l1]; exact (AN.1 hu).1
     have h3:=c1 i hi
     rw [hu,addadd] at h3
     obtain ⟨_,c2,el2,fz2,hb2,h4⟩:=Nc h3
     rw [hb] at hb2
     cases hb2
     rw [Nat.add_assoc]
     exact h4
  ·rename_i fs hu
   simp only [J,beq_iff_eq] at h
   obtain ⟨⟨hc,_⟩,h⟩:=h
   obtain ⟨xs,n,_,_,hl,_,hf⟩:=DataW.trod_struct hu hd
   have:=Lf (w:=w) (P:=P) D fs.toList 0 K n cs xs h (fun i f hi=>hf i f (by simpa using hi)) (by
    have:xs.length=fs.size:=by assumption
    simpa using this)
   obtain ⟨y,h1,h2⟩:=this
   refine ⟨y,?_,h2⟩
   rw [hc] at hl
   rw [List.drop_zero,List.take_of_length_le (by omega)] at h1
   exact h1
  ·cases h
theorem Lf {H:Type} {enc:TypeId×Value->H} {P:Program} {w:World} {base:Nat} {spare:Nat->Bool} {held:Bool}:∀ (D:Nat) (fs:List Field) (off:Nat) (K:Kd) (fuel:Nat) (cs:List Value) (xs:List (DataW H×List MemPlace)),Hl P D fs off K=true ->
  (∀ (i:Nat) (f:Field),fs[i]? = some f->DataW.trod enc P w base spare held fuel f.type ((cs.drop f.offset).take (P.cellsOf f.type))=xs[i]?)->xs.length=fs.length->∃ y:K.T,CU (HH w) K y ((cs.drop off).take K.sz)/\Kd.ok K y
 | 0,fs,off,K,fuel,cs,xs,h,_,_=>by simp [Hl] at h
 | D+1,[],off,K,fuel,cs,xs,h,_,_=>by simp [Hl] at h
 | D+1,[f],off,K,fuel,cs,xs,h,hf,hl=>by
  simp only [Hl,J,beq_iff_eq] at h
  obtain ⟨⟨rfl,hc⟩,ht⟩:=h
  have h1:=hf 0 f rfl
  rw [hc] at h1
  have h2:xs[0]? = some (xs[0]'(by simp at hl; omega)):=by simp
  rw [h2] at h1
  exact MB D f.type K fuel _ _ ht h1
 | D+1,f::g::fs,off,K,fuel,cs,xs,h,hf,hl=>by
  simp only [Hl] at h
  cases K with
  | pair a b =>
   simp only [J,beq_iff_eq] at h
   obtain ⟨⟨⟨rfl,hc⟩,ht⟩,hr⟩:=h
   have h1:=hf 0 f rfl
   rw [hc] at h1
   have h2:xs[0]? = some (xs[0]'(by simp at hl; omega)):=by simp
   rw [h2] at h1
   obtain ⟨y1,r1,o1⟩:=MB D f.type a fuel _ _ ht h1
   obtain ⟨y2,r2,o2⟩:=Lf (w:=w) (P:=P) D (g::fs) (f.offset+a.sz) b fuel cs (xs.drop 1) hr (fun i q hi=>by
    have:=hf (i+1) q (by simpa using hi)
    rw [this,BK,Nat.add_comm]) (by simp at hl ⊢; omega)
   refine ⟨(y1,y2),⟨_,_,?_,r1,r2⟩,o1,o2⟩
   apply List.ext_getElem?
   intro i
   have l1:=r1.length
   have l2:=r2.length
   simp only [Kd.sz]
   rcases Ax i a.sz with hi | hi
   ·rw [AR (by omega)]
    simp only [Aq,BK]
    rw [if_pos (by omega),if_pos hi]
   ·rw [Av (by omega),l1]
    simp only [Aq,BK]
    by_cases h3:i<a.sz+b.sz
    ·rw [if_pos h3,if_pos (by omega)]
     congr 1
     omega
    ·rw [if_neg h3,if_neg (by omega)]
  | _=>cases h
end
theorem RK {H:Type} {enc:TypeId×Value->H} {P:Program} {w:World} {base:Nat} {spare:Nat->Bool} {held:Bool} {t:TypeId} {K:Kd} {v:Value} {d:DataW H} {p:List MemPlace} (h:JS P 40 t K=true) (hf:E5 K v)
  (hd:DataW.Trod enc P w base spare held t v d p):∃ x:K.T,VE (HH w) (K.av x) v/\Kd.ok K x:=by
 obtain ⟨fuel,hd⟩:=hd
 obtain ⟨x,h1,h2⟩:=MB 40 t K fuel _ _ h hd
 exact ⟨x,Q2 h1 hf,h2⟩
theorem SL {P:Program} {W:World} {r:Reach} {base:Nat} {t:TypeId} {K:Kd} {v:Value} (h:JS P 40 t K=true) (hv:Value.okWide P W r base t v):E5 K v:=by
 unfold JS at h
 split at h
 ·rename_i k hu
  obtain ⟨n,rfl⟩:=WideShapes.okWide_int hu hv
  cases K<;>first | cases h | rfl
 ·rename_i hu
  obtain ⟨n,rfl⟩:=WideShapes.okWide_bool hu hv
  cases K<;>first | rfl | cases h
 ·rename_i hu
  obtain ⟨n,rfl⟩:=WideShapes.okWide_string hu hv
  cases K<;>first | rfl | cases h
 ·rename_i te hu
  obtain ⟨a,l,c,rfl⟩:=WideShapes.okWide_slice hu hv
  cases K<;>first | cases h | rfl
 ·rename_i fs hu
  obtain ⟨cs,rfl,_⟩:=WideShapes.okWide_struct hu hv
  simp only [J] at h
  cases K<;>first | exact ⟨_,rfl⟩ | cases h.1.2
 ·cases h
theorem RL (w:World) (φ:Au) (ht:OE (HH w)):SR (HH w) φ [] w:=by
 refine ⟨fun b o h=>h,fun id bx h=>by simp at h,fun i j bi bj h=>by simp at h,fun i bi h=>by simp at h,fun id cs h=>by simp at h,ht⟩
theorem QQ {P:Program} {I5:Nat->Option Dj} {Ce:CQ} (ht:RJ P I5) (hp:C_ P Ce) {k f:Nat} {args:List AV} (h:J6 I5 Ce k f args []=some [.bool true]) {W:World} {cargs:List Value}
  (ha:AQ (VE (HH W)) args cargs) (hlt:f<Bh:=by decide) (htab:OE (HH W):=by exact fun p h=>by cases h):Calls P f cargs.toArray W fun e W'=>e=.returned (.bool true)/\RowKit.Below W.heap.size W W':=by
 obtain ⟨_,_,n,hn,hc⟩:=(Oe ht hp k).2 f args [] _ (.inl hlt) h
 rw [Nat.mod_eq_of_lt hlt] at hc
 have hn:n=1:=by simpa using hn
 subst hn
 have opens:∀ {aw:List AV} {vs:List Value} (k:Nat),AQ (VE (HH W)) aw vs->Bb k aw=aw/\AX (cellsOf aw)=[]:=by
  intro aw
  induction aw with
  | nil=>intro vs k _; exact ⟨rfl,rfl⟩
  | cons a aw ih =>
   intro vs k h
   obtain ⟨v,r,rfl,h1,h2⟩:=h
   obtain ⟨o1,o2,o3⟩:=h1.opens k
   obtain ⟨i1,i2⟩:=ih (k+AC a.cells) h2
   refine ⟨by simp only [Bb,o1,i1],?_⟩
   simp only [cellsOf,List.flatMap_cons] at i2 ⊢
   rw [As,o3,i2]
   rfl
 have hst:Ay [] args=[]:=by
  rw [Dp,As,(opens 0 ha).2]
  rfl
 have:=hc (HH W) (fun _=>.nilIface) W cargs (by rw [hst]; exact RL W _ htab) (by rw [(opens _ ha).1,hst]; exact ha.imp fun _ _ h=>VB.of_VE h)
 refine this.mono fun e W' he=>?_
 cases e with
 | returned v =>
  obtain ⟨H',φ',_,_,f,hr⟩:=he
  have hv:v=.bool true:=hr
  subst hv
  rw [hst] at f
  exact ⟨rfl,f.os,f.tape,f.output,f.size,fun k hk=>f.old k hk fun j hj=>by simp at hj⟩
 | panicked c=>exact he.elim
 | outgrown=>exact he.elim

def Ev (p:Nat->Prop):Prop:=∃ m,∀ k,m<=k->p k
theorem Ev.mono {p q:Nat->Prop} (h:Ev p) (f:∀ k,p k->q k):Ev q:=h.elim fun m hm=>⟨m,fun k hk=>f k (hm k hk)⟩
theorem Ev.const {p:Prop} (h:p):Ev fun _=>p:=⟨0,fun _ _=>h⟩
theorem Ev.all {p:Nat->Prop} (h:∀ k,p k):Ev p:=⟨0,fun k _=>h k⟩
theorem Ev.and {p q:Nat->Prop} (h:Ev p) (g:Ev q):Ev fun k=>p k/\q k:=by
 obtain ⟨m,hm⟩:=h
 obtain ⟨n,hn⟩:=g
 exact ⟨max m n,fun k hk=>⟨hm k (by omega),hn k (by omega)⟩⟩
noncomputable def Lm {ρ:Type} (u:Nat->Option ρ):Option ρ :=
 @dite _ (∃ r,Ev fun k=>u k=some r) (Classical.propDecidable _) (fun h=>some (Classical.choose h)) (fun _=>none)
theorem Of {ρ:Type} {u:Nat->Option ρ} {r:ρ} (h:Lm u=some r):Ev fun k=>u k=some r:=by
 unfold Lm at h
 split at h
 ·rename_i hx
  cases h
  exact Classical.choose_spec hx
 ·cases h
theorem RM {ρ:Type} {u:Nat->Option ρ} {r:ρ} (h:Ev fun k=>u k=some r):Lm u=some r:=by
 have hx:∃ r,Ev fun k=>u k=some r:=⟨r,h⟩
 unfold Lm
 rw [dif_pos hx]
 obtain ⟨m,hm⟩:=(Classical.choose_spec hx).and h
 obtain ⟨a,b⟩:=hm m (Nat.le_refl _)
 rw [<- b,a]
def Conv {ρ:Type} (kn:Nat->St->Option ρ) (kl:St->Option ρ):Prop:=∀ s r,kl s=some r->Ev fun j=>kn j s=some r
theorem Conv.refl {ρ:Type} (kl:St->Option ρ):Conv (fun _=>kl) kl:=fun _ _ h=>.const h
def G0 (cal:Nat->CQ) (c:CQ):Prop:=∀ f a b r,c f a b=some r->Ev fun j=>cal j f a b=some r
theorem G0.refl (c:CQ):G0 (fun _=>c) c:=fun _ _ _ _ h=>.const h
abbrev Lp (ρ:Type):Type:=((St->Option ρ)->St->Option ρ)->St->Option ρ
def RN {ρ:Type} (F:Nat->(St->Option ρ)->St->Option ρ) (FL:(St->Option ρ)->St->Option ρ):Prop :=
 ∀ (go:Nat->St->Option ρ) (gl:St->Option ρ),Conv go gl->Conv (fun j=>F j (go j)) (FL gl)
def RO {ρ:Type} (lp:Nat->Lp ρ) (ll:Lp ρ):Prop:=∀ (F:Nat->(St->Option ρ)->St->Option ρ) (FL:(St->Option ρ)->St->Option ρ),RN F FL->(∀ j,RN (fun _=>F j) (F j))->Conv (fun j=>lp j (F j)) (ll FL)
noncomputable def EM {ρ:Type}:Lp ρ:=fun F s=>Lm fun n=>E3 n F s
theorem RP {ρ:Type}:RO (ρ:=ρ) E3 EM:=by
 intro F FL hF _ s r h
 have h:=Of h
 obtain ⟨m,hm⟩:=h
 have key:∀ n,∀ g:Nat->Nat,(∀ j,n<=g j)->Conv (fun j=>E3 (g j) (F j)) (E3 n FL):=by
  intro n
  induction n with
  | zero=>intro g _ s r h; cases h
  | succ n ih =>
   intro g hg s r h
   refine (hF (fun j=>E3 (g j-1) (F j)) (E3 n FL) (ih (fun j=>g j-1) fun j=>by have:=hg j; omega) s r h).mono fun j hj=>?_
   have e:g j=(g j-1)+1:=by have:=hg j; omega
   show E3 (g j) (F j) s=some r
   rw [e]
   exact hj
 obtain ⟨k,hk⟩:=key m (fun j=>max j m) (fun j=>by omega) s r (hm m (Nat.le_refl _))
 refine ⟨max k m,fun j hj=>?_⟩
 have:=hk j (by omega)
 simp only [show max j m=j by omega] at this
 exact this
theorem Og {ρ:Type} (k:Nat):RO (ρ:=ρ) (fun _=>E3 k) (E3 k):=by
 intro F FL hF _
 induction k with
 | zero=>intro s r h; cases h
 | succ k ih=>exact hF _ _ ih
theorem Ml {ρ:Type} {F:(St->Option ρ)->St->Option ρ} (hF:RN (fun _=>F) F) {s:St} {r:ρ} (h:F (EM F) s=some r):EM F s=some r:=by
 obtain ⟨m,hm⟩:=hF (fun j=>E3 j F) (EM F) (fun s r h=>Of h) s r h
 exact RM ⟨m+1,fun k hk=>by
  cases k with
  | zero=>omega
  | succ k=>exact hm k (by omega)⟩
theorem Oh {ρ:Type}:RO (ρ:=ρ) (fun _=>EM) EM:=by
 intro F FL hF hs s r h
 obtain ⟨m,hm⟩:=Of h
 have key:∀ n,Conv (fun j=>EM (F j)) (E3 n FL):=by
  intro n
  induction n with
  | zero=>intro s r h; cases h
  | succ n ih=>intro s r h; exact (hF _ _ ih s r h).mono fun j hj=>Ml (hs j) hj
 exact key m s r (hm m (Nat.le_refl _))
theorem Az {α β:Type} {x:Option α} {f:Nat->α->Option β} {g:α->Option β} (h:∀ a r,g a=some r->Ev fun j=>f j a=some r) (r:β) (hx:x.bind g=some r):Ev fun j=>x.bind (f j)=some r:=by
 cases x with
 | none=>cases hx
 | some a=>exact h a r hx
theorem Mm {ρ:Type} {s:St} {v:AV} {K:Kd} {kn:Nat->List K.T->Option ρ} {kl:List K.T->Option ρ} (hk:∀ a r,kl a=some r->Ev fun j=>kn j a=some r) (r:ρ) (h:s.list v K kl=some r):Ev fun j=>s.list v K (kn j)=some r:=by
 unfold St.list at h ⊢
 split at h
 ·exact hk _ _ h
 ·split at h
  ·rename_i e
   simp only [dif_pos e]
   exact hk _ _ h
  ·cases h
 ·split at h
  ·rename_i e0
   split at h
   ·rename_i e
    split at h
    ·rename_i ep
     simp only [e0,dif_pos e,if_pos ep]
     exact hk _ _ h
    ·cases h
   ·cases h
  ·rename_i e0
   split at h
   ·rename_i e
    simp only [e0,dif_pos e]
    exact hk _ _ h
   ·cases h
  ·rename_i e0
   split at h
   ·rename_i e
    split at h
    ·rename_i ep
     simp only [e0,dif_pos e,if_pos ep]
     exact hk _ _ h
    ·cases h
   ·cases h
  ·rename_i e0
   split at h
   ·rename_i e
    simp only [e0,dif_pos e]
    exact hk _ _ h
   ·cases h
  ·cases h
 ·cases h
theorem Oi {ρ:Type} {s:St} {d id:Nat} {e:TypeId} {K:Kd} {b:AV} {kn:Nat->St->Option ρ} {kl:St->Option ρ} (hk:Conv kn kl) (r:ρ) (h:s.appR d e K id b kl=some r):Ev fun j=>s.appR d e K id b (kn j)=some r:=by
 unfold St.appR at h ⊢
 split at h
 ·rename_i e1
  split at h
  ·rename_i e2
   split at h
   ·rename_i e3
    split at h
    ·rename_i e4
     simp only [e1,dif_pos e2,if_pos e3,if_pos e4]
     refine Mm (fun a r h=>?_) r h
     split at h
     ·rename_i e5
      simp only [if_pos e5]
      exact hk _ _ h
     ·cases h
    ·rename_i e4
     split at h
     ·rename_i j
      split at h
      ·cases h
      ·rename_i e5
       split at h
       ·rename_i e6
        split at h
        ·rename_i e7
         split at h
         ·rename_i e8
          simp only [e1,dif_pos e2,if_pos e3,if_neg e4,if_neg e5,e6,dif_pos e7,if_pos e8]
          exact hk _ _ h
         ·cases h
        ·cases h
       ·cases h
     ·cases h
   ·cases h
  ·cases h
 ·cases h
theorem QR {ρ:Type} {op:BinOp} {x y:AV} {kn:Nat->AV->Option ρ} {kl:AV->Option ρ} (hk:∀ a r,kl a=some r->Ev fun j=>kn j a=some r) (r:ρ) (h:LO op x y kl=some r):Ev fun j=>LO op x y (kn j)=some r:=by
 have e:∀ k:AV->Option ρ,LO op x y k=(LO op x y some).bind k:=by
  intro k
  unfold LO
  repeat' split
  all_goals rfl
 rw [e] at h
 simp only [e (kn _)]
 exact Az hk r h
theorem RQ {ρ:Type} {op:UnOp} {x:AV} {kn:Nat->AV->Option ρ} {kl:AV->Option ρ} (hk:∀ a r,kl a=some r->Ev fun j=>kn j a=some r) (r:ρ) (h:Px op x kl=some r):Ev fun j=>Px op x (kn j)=some r:=by
 unfold Px at h ⊢
 split at h<;>first | exact hk _ _ h | cases h
theorem Oj {α β:Type} {x:Nat->Option α} {xl:Option α} {f:Nat->α->Option β} {g:α->Option β} (hx:∀ a,xl=some a->Ev fun j=>x j=some a) (h:∀ a r,g a=some r->Ev fun j=>f j a=some r) (r:β) (hr:xl.bind g=some r):Ev fun j=>(x j).bind (f j)=some r:=by
 cases xl with
 | none=>cases hr
 | some a=>exact ((hx a rfl).and (h a r hr)).mono fun j hj=>by rw [hj.1]; exact hj.2
theorem S8 {ρ:Type} {cal:Nat->CQ} {c:CQ} {d z:Nat} {x:BD} {lo hi:Option BD} {kn:Nat->St->Option ρ} {kl:St->Option ρ} (hk:Conv kn kl) (s:St) (r:ρ) (h:Bt c kl s (.sl d z x lo hi)=some r):Ev fun j=>Bt (cal j) (kn j) s (.sl d z x lo hi)=some r:=by
 simp only [Bt] at h ⊢
 split at h
 ·split at h
  ·rename_i ez
   split at h
   ·split at h
    ·rename_i g1
     split at h
     ·rename_i g2
      split at h
      ·rename_i g3
       simp only [if_pos ez,if_pos g1,if_pos g2,if_pos g3]
       exact hk _ _ h
      ·cases h
     ·cases h
    ·cases h
   ·cases h
  ·cases h
 ·split at h
  ·rename_i ez
   split at h
   ·split at h
    ·rename_i g1
     split at h
     ·rename_i g2
      split at h
      ·rename_i g3
       simp only [if_pos ez,if_pos g1,if_pos g2,if_pos g3]
       exact hk _ _ h
      ·cases h
     ·cases h
    ·cases h
   ·cases h
  ·cases h
 ·cases h
theorem Nd {ρ:Type} {cal:Nat->CQ} {c:CQ} (hc:G0 cal c) {d:Option Nat} {f:Nat} {args:List (BD×PK)} {res:List Kd} {kn:Nat->St->Option ρ} {kl:St->Option ρ} (hk:Conv kn kl) (s:St) (r:ρ) (h:MH c kl s d f args res=some r):Ev fun j=>MH (cal j) (kn j) s d f args res=some r:=by
 simp only [MH] at h ⊢
 refine Az (fun q r h=>Az (fun bx r h=>?_) r h) r h
 split at h
 ·rename_i e
  simp only [if_pos e]
  refine Oj (fun a ha=>?_) (fun y r h=>?_) r h
  ·exact Oj (f:=fun _=>CI _) (g:=CI _) (fun a ha=>hc _ _ _ _ ha) (fun y r h=>.const h) a ha
  ·split at h
   ·rename_i e
    simp only [if_pos e]
    exact hk _ _ h
   ·cases h
 ·cases h
mutual
theorem Mn {ρ:Type} {cal:Nat->CQ} {c:CQ} (hc:G0 cal c):∀ (ao:CE) {kn:Nat->St->Option ρ} {kl:St->Option ρ},Conv kn kl->∀ s r,Bt c kl s ao=some r->Ev fun j=>Bt (cal j) (kn j) s ao=some r
 | .mv d x,kn,kl,hk,s,r,h=>hk _ _ h
 | .nilrow d t K,kn,kl,hk,s,r,h=>hk _ _ h
 | .pick d c a b,kn,kl,hk,s,r,h=>by
  simp only [Bt] at h ⊢
  split at h
  ·split at h<;>rename_i e<;>simp only [e,if_true,if_false,Bool.false_eq_true]<;>exact hk _ _ h
  ·cases h
 | .sc c want ops d a b,kn,kl,hk,s,r,h=>by
  simp only [Bt] at h ⊢
  split at h
  ·split at h
   ·rename_i e
    simp only [e,if_true]
    exact N5 hc ops (kn:=fun j s'=>kn j (s'.put d (if want then s'.opd a else s'.opd b))) (kl:=fun s'=>kl (s'.put d (if want then s'.opd a else s'.opd b))) (fun s r h=>hk _ _ h) s r h
   ·rename_i e
    simp only [if_neg e]
    exact hk _ _ h
  ·cases h
 | .alloc d cs,kn,kl,hk,s,r,h=>hk _ _ h
 | .box d x own,kn,kl,hk,s,r,h=>by
  simp only [Bt] at h ⊢
  exact Az (fun a r h=>hk _ _ h) r h
 | .build d zero parts,kn,kl,hk,s,r,h=>by
  simp only [Bt] at h ⊢
  exact Az (fun a r h=>hk _ _ h) r h
 | .bnew d zero parts,kn,kl,hk,s,r,h=>by
  simp only [Bt] at h ⊢
  exact Az (fun a r h=>hk _ _ h) r h
 | .brow d t K parts,kn,kl,hk,s,r,h=>by
  simp only [Bt] at h ⊢
  split at h
  ·rename_i ep
   simp only [if_pos ep]
   exact Az (fun a r h=>Az (fun a r h=>hk _ _ h) r h) r h
  ·rename_i ep
   simp only [if_neg ep]
   refine Az (fun a r h=>?_) r h
   split at h
   ·rename_i e2
    simp only [if_pos e2]
    exact Az (fun a r h=>hk _ _ h) r h
   ·cases h
 | .blst d K parts,kn,kl,hk,s,r,h=>by
  simp only [Bt] at h ⊢
  exact Az (fun a r h=>Az (fun a r h=>hk _ _ h) r h) r h
 | .load d x n,kn,kl,hk,s,r,h=>by
  simp only [Bt] at h ⊢
  refine Az (fun a r h=>?_) r h
  split at h
  ·rename_i e
   simp only [if_pos e]
   exact hk _ _ h
  ·cases h
 | .store x y m own,kn,kl,hk,s,r,h=>by
  simp only [Bt] at h ⊢
  split at h
  ·rename_i e
   simp only [if_pos e]
   cases e1:s.holeI (s.opd x) with
   | some p =>
    simp only [e1] at h ⊢
    split at h
    ·rename_i e2
     simp only [if_pos e2]
     exact Az (fun a r h=>hk _ _ h) r h
    ·cases h
   | none =>
    simp only [e1] at h ⊢
    exact Az (fun a r h=>hk _ _ h) r h
  ·cases h
 | .nilc d x,kn,kl,hk,s,r,h=>by
  simp only [Bt] at h ⊢
  split at h<;>first | exact hk _ _ h | cases h
 | .bin d op x y,kn,kl,hk,s,r,h=>by
  simp only [Bt] at h ⊢
  exact QR (fun a r h=>hk _ _ h) r h
 | .eqs d neg K x y,kn,kl,hk,s,r,h=>by
  simp only [Bt] at h ⊢
  exact Az (fun a r h=>Az (fun a r h=>hk _ _ h) r h) r h
 | .un d op x,kn,kl,hk,s,r,h=>by
  simp only [Bt] at h ⊢
  exact RQ (fun a r h=>hk _ _ h) r h
 | .cvi d k x,kn,kl,hk,s,r,h=>by
  simp only [Bt] at h ⊢
  split at h<;>first | exact hk _ _ h | cases h
 | .bts d x,kn,kl,hk,s,r,h=>by
  simp only [Bt] at h ⊢
  exact Mm (fun a r h=>hk _ _ h) r h
 | .fld d x off,kn,kl,hk,s,r,h=>by
  simp only [Bt] at h ⊢
  split at h<;>first | exact hk _ _ h | cases h
 | .field d x off n,kn,kl,hk,s,r,h=>by
  simp only [Bt] at h ⊢
  split at h
  ·split at h
   ·rename_i e
    simp only [if_pos e]
    exact hk _ _ h
   ·cases h
  ·cases h
 | .idx d z x i,kn,kl,hk,s,r,h=>by
  have e:∀ k:St->Option ρ,Bt (cal 0) k s (.idx d z x i)=(Bt (cal 0) some s (.idx d z x i)).bind k:=by
   intro k
   simp only [Bt]
   repeat' split
   all_goals rfl
  have e2:∀ k:St->Option ρ,∀ c:CQ,Bt c k s (.idx d z x i)=Bt (cal 0) k s (.idx d z x i):=fun k c=>by simp only [Bt]
  rw [e2,e] at h
  simp only [e2 (kn _),e (kn _)]
  exact Az (fun a r h=>hk _ _ h) r h
 | .aidx d n x i,kn,kl,hk,s,r,h=>by
  simp only [Bt] at h ⊢
  split at h
  ·refine Az (fun xs r h=>?_) r h
   split at h
   ·rename_i e1
    split at h
    ·rename_i e2
     split at h
     ·rename_i e3
      simp only [if_pos e1,if_pos e2,if_pos e3]
      exact hk _ _ h
     ·cases h
    ·cases h
   ·cases h
  ·cases h
 | .sidx d x i,kn,kl,hk,s,r,h=>by
  have e:∀ k:St->Option ρ,Bt (cal 0) k s (.sidx d x i)=(Bt (cal 0) some s (.sidx d x i)).bind k:=by
   intro k
   simp only [Bt]
   repeat' split
   all_goals rfl
  have e2:∀ k:St->Option ρ,∀ c:CQ,Bt c k s (.sidx d x i)=Bt (cal 0) k s (.sidx d x i):=fun k c=>by simp only [Bt]
  rw [e2,e] at h
  simp only [e2 (kn _),e (kn _)]
  exact Az (fun a r h=>hk _ _ h) r h
 | .sl d z x lo hi,kn,kl,hk,s,r,h=>S8 hk s r h
 | .mk d t K n,kn,kl,hk,s,r,h=>by
  have e:∀ k:St->Option ρ,Bt (cal 0) k s (.mk d t K n)=(Bt (cal 0) some s (.mk d t K n)).bind k:=by
   intro k
   simp only [Bt]
   repeat' split
   all_goals rfl
  have e2:∀ k:St->Option ρ,∀ c:CQ,Bt c k s (.mk d t K n)=Bt (cal 0) k s (.mk d t K n):=fun k c=>by simp only [Bt]
  rw [e2,e] at h
  simp only [e2 (kn _),e (kn _)]
  exact Az (fun a r h=>hk _ _ h) r h
 | .fn d f caps,kn,kl,hk,s,r,h=>hk _ _ h
 | .clo d f K x,kn,kl,hk,s,r,h=>by
  simp only [Bt] at h ⊢
  split at h
  ·exact Az (fun a r h=>hk _ _ h) r h
  ·cases h
 | .fbox d x,kn,kl,hk,s,r,h=>by
  simp only [Bt] at h ⊢
  exact Az (fun a r h=>hk _ _ h) r h
 | .min d x y,kn,kl,hk,s,r,h=>by
  simp only [Bt] at h ⊢
  split at h
  ·split at h
   ·rename_i e
    simp only [if_pos e]
    exact hk _ _ h
   ·cases h
  ·cases h
 | .app d e K a b,kn,kl,hk,s,r,h=>by
  simp only [Bt] at h ⊢
  split at h
  ·exact Oi hk r h
  ·split at h
   ·exact Az (fun y r h=>Oi hk r h) r h
   ·cases h
  ·cases h
 | .apz d e K a b,kn,kl,hk,s,r,h=>by
  simp only [Bt] at h ⊢
  split at h
  ·split at h
   ·rename_i e1
    split at h
    ·rename_i e2
     split at h
     ·rename_i e3
      simp only [e1,dif_pos e2,if_pos e3]
      refine Mm (fun a r h=>?_) r h
      split at h
      ·rename_i e4
       simp only [if_pos e4]
       exact hk _ _ h
      ·cases h
     ·cases h
    ·cases h
   ·cases h
  ·cases h
 | .len d t x,kn,kl,hk,s,r,h=>by
  have e:∀ k:St->Option ρ,Bt (cal 0) k s (.len d t x)=(Bt (cal 0) some s (.len d t x)).bind k:=by
   intro k
   simp only [Bt]
   repeat' split
   all_goals first | rfl | (rw [Option.bind_assoc]; rfl)
  have e2:∀ k:St->Option ρ,∀ c:CQ,Bt c k s (.len d t x)=Bt (cal 0) k s (.len d t x):=fun k c=>by simp only [Bt]
  rw [e2,e] at h
  simp only [e2 (kn _),e (kn _)]
  exact Az (fun a r h=>hk _ _ h) r h
 | .call d f args res,kn,kl,hk,s,r,h=>by
  simp only [Bt] at h ⊢
  exact Nd hc hk s r h
 | .icall n rd d f args res,kn,kl,hk,s,r,h=>by
  simp only [Bt] at h ⊢
  refine Az (fun y r h=>?_) r h
  split at h
  ·cases h
  ·rename_i e1
   simp only [if_neg e1]
   by_cases e2:(if rd=true then !Am (Gv y.2 args) s.st.length else Am (OC y.2 args) s.st.length)=true
   ·rw [if_pos e2] at h
    simp only [if_pos e2]
    exact Nd hc (kn:=fun j s2=>(s2.closeAt y.1 s.st.length rd).bind (kn j)) (kl:=fun s2=>(s2.closeAt y.1 s.st.length rd).bind kl) (fun s r h=>Az (fun a r h=>hk _ _ h) r h) y.2 r h
   ·rw [if_neg e2] at h; cases h
 | .bld d k f t x y,kn,kl,hk,s,r,h=>by
  simp only [Bt] at h ⊢
  split at h
  ·rename_i id e1
   split at h
   ·rename_i T j e2
    split at h
    ·rename_i t' xs e3
     split at h
     ·rename_i e4
      cases e5:c (Bh+f) [.int .i64 k,.int .i64 t,.int .i64 T] [] with
      | none=>rw [e5] at h; cases h
      | some q =>
       have hq:=hc _ _ _ _ e5
       rw [e5,AA] at h
       cases e8:CI [] q with
       | none=>rw [e8] at h; cases h
       | some u =>
        rw [e8,AA] at h
        split at h
        ·rename_i e6
         split at h
         ·rename_i e7
          refine (hq.and (hk _ _ h)).mono fun j hj=>?_
          simp only [e2,e3,if_pos e4,hj.1,AA,e8,if_pos e6,if_pos e7]
          exact hj.2
         ·cases h
        ·rename_i e6
         cases ha:Rf k (s.opd y) with
         | none=>rw [ha] at h; cases h
         | some ys =>
          rw [ha,AA] at h
          split at h
          ·rename_i e7
           refine (hq.and (hk _ _ h)).mono fun j hj=>?_
           simp only [e2,e3,if_pos e4,hj.1,AA,e8,if_neg e6,ha,if_pos e7]
           exact hj.2
          ·cases h
     ·cases h
    ·cases h
   ·cases h
  ·cases h
 | .stb d t x,kn,kl,hk,s,r,h=>by
  simp only [Bt] at h ⊢
  split at h
  ·exact hk _ _ h
  ·cases h
 | .ext d x i,kn,kl,hk,s,r,h=>by
  simp only [Bt] at h ⊢
  split at h
  ·split at h
   ·rename_i e
    simp only [if_pos e]
    exact hk _ _ h
   ·cases h
  ·cases h
theorem N5 {ρ:Type} {cal:Nat->CQ} {c:CQ} (hc:G0 cal c):∀ (aos:List CE) {kn:Nat->St->Option ρ} {kl:St->Option ρ},Conv kn kl->∀ s r,Kj c kl s aos=some r->Ev fun j=>Kj (cal j) (kn j) s aos=some r
 | [],kn,kl,hk,s,r,h=>by simp only [Kj] at h ⊢; exact hk _ _ h
 | o::os,kn,kl,hk,s,r,h=>by
  simp only [Kj] at h ⊢
  exact Mn hc o (fun s r h=>N5 hc os hk s r h) s r h
end
theorem IR {ρ:Type} {cal:Nat->CQ} {c:CQ} (hc:G0 cal c) (anc:List (List Nat)) {kn:Nat->St->Option ρ} {kl:St->Option ρ} (hk:Conv kn kl):∀ (t:DT) (T:List (Nat×Nat)) s r,dK c anc kl t T s=some r->Ev fun j=>dK (cal j) anc (kn j) t T s=some r
 | .done,T,s,r,h=>hk _ _ h
 | .take i g ao d,T,s,r,h=>by
  simp only [dK] at h ⊢
  split at h
  ·rename_i e
   simp only [if_pos e]
   exact Mn hc ao (fun s r h=>IR hc anc hk d _ s r h) s r h
  ·cases h
 | .skip i g d t,T,s,r,h=>by
  simp only [dK] at h ⊢
  split at h
  ·rename_i e
   simp only [if_pos e]
   exact IR hc anc hk t _ _ r h
  ·cases h
 | .only i g ao e fl d,T,s,r,h=>by
  simp only [dK] at h ⊢
  split at h
  ·rename_i e
   simp only [if_pos e]
   exact Mn hc ao (fun s r h=>IR hc anc hk d _ s r h) s r h
  ·cases h
 | .test c a b,T,s,r,h=>by
  simp only [dK] at h ⊢
  split at h
  ·split at h
   ·rename_i e
    simp only [if_pos e]
    exact IR hc anc hk a _ _ r h
   ·rename_i e
    simp only [if_neg e]
    exact IR hc anc hk b _ _ r h
  ·cases h
 | .fork i ai ri j aj rj,T,s,r,h=>by
  simp only [dK] at h ⊢
  obtain ⟨ha,hb⟩:=Kk.1 h
  have ea:Ev fun n=>(if (DO ai.dsts T&&HY (anc.getD i []) (ai.touch s) s T)=true then Bt (cal n) (fun s'=>dK (cal n) anc (kn n) ri (C6 (anc.getD i []) T) s') s ai else none)=some r:=by
   split at ha
   ·rename_i e
    simp only [if_pos e]
    exact Mn hc ai (fun s r h=>IR hc anc hk ri _ s r h) s r ha
   ·cases ha
  have eb:Ev fun n=>(if (DO aj.dsts T&&HY (anc.getD j []) (aj.touch s) s T)=true then Bt (cal n) (fun s'=>dK (cal n) anc (kn n) rj (C6 (anc.getD j []) T) s') s aj else none)=some r:=by
   split at hb
   ·rename_i e
    simp only [if_pos e]
    exact Mn hc aj (fun s r h=>IR hc anc hk rj _ s r h) s r hb
   ·cases hb
  exact (ea.and eb).mono fun n h=>Kk.2 h
noncomputable def Cy {ρ:Type} (cal:CQ) (lp:Lp ρ):Ab->(kn kr:St->Option ρ)->(ke:Nat->St->Option ρ)->St->Option ρ
 | .skip,kn,_,_,s=>kn s
 | .region ops live,kn,_,_,s=>Kj cal (fun s'=>kn ⟨live.map fun t=>(t,CA s'.fr t),s'.st⟩) s ops
 | .draw anc t live,kn,_,_,s=>dK cal anc (fun s'=>kn ⟨live.map fun t=>(t,CA s'.fr t),s'.st⟩) t [] s
 | .seqc live a b,kn,kr,ke,s=>Cy cal lp a (fun s'=>Cy cal lp b kn kr ke (s'.cutH (Bi s live) live s.st.length)) kr ke s
 | .seq a b,kn,kr,ke,s=>Cy cal lp a (fun s'=>Cy cal lp b kn kr ke s') kr ke s
 | .cond c a b,kn,kr,ke,s=>match s.opd c with
  | .bool t=>if t=true then Cy cal lp a kn kr ke s else Cy cal lp b kn kr ke s
  | _=>none
 | .block id live body,kn,kr,ke,s=>Cy cal lp body (fun s'=>kn (s'.cutH (Bi s live) live s.st.length)) kr (fun i s'=>if i=id then kn (s'.cutH (Bi s live) live s.st.length) else ke i s') s
 | .loop live body,_,kr,ke,s=>lp (fun go s'=>Cy cal lp body (fun s''=>go (s''.cutH (Bi s live) live s.st.length)) kr ke s') (s.cut live s.st.length)
 | .exit id,_,_,ke,s=>ke id s
 | .ret,_,kr,_,s=>kr s
theorem Fn {ρ:Type} (cal:CQ) (k:Nat):∀ (a:Ab) (kn kr:St->Option ρ) (ke:Nat->St->Option ρ) (s:St),C3 cal k a kn kr ke s=Cy cal (E3 k) a kn kr ke s
 | .skip,_,_,_,_=>rfl
 | .region ..,_,_,_,_=>rfl
 | .draw ..,_,_,_,_=>rfl
 | .seqc live a b,kn,kr,ke,s=>by simp only [C3,Cy,Fn cal k a,Fn cal k b]
 | .seq a b,kn,kr,ke,s=>by simp only [C3,Cy,Fn cal k a,Fn cal k b]
 | .cond c a b,kn,kr,ke,s=>by
  simp only [C3,Cy,Fn cal k a,Fn cal k b]
  cases s.opd c<;>rfl
 | .block id live a,kn,kr,ke,s=>by simp only [C3,Cy,Fn cal k a]
 | .loop live a,kn,kr,ke,s=>by simp only [C3,Cy,Fn cal k a]
 | .exit _,_,_,_,_=>rfl
 | .ret,_,_,_,_=>rfl
theorem DZ {ρ:Type}:∀ (a:Ab) {cal:Nat->CQ} {c:CQ} {lp:Nat->Lp ρ} {ll:Lp ρ} {kn kr:Nat->St->Option ρ} {kl krl:St->Option ρ} {ke:Nat->Nat->St->Option ρ} {kel:Nat->St->Option ρ},G0 cal c->RO lp ll->(∀ j,RO (fun _=>lp j) (lp j)) ->
  Conv kn kl->Conv kr krl->(∀ i,Conv (fun j=>ke j i) (kel i))->Conv (fun j=>Cy (cal j) (lp j) a (kn j) (kr j) (ke j)) (Cy c ll a kl krl kel)
 | .skip,_,_,_,_,_,_,_,_,_,_,hc,hl,hl',hk,hr,he=>hk
 | .region ops live,_,_,_,_,_,_,_,_,_,_,hc,hl,hl',hk,hr,he=>fun s r h=>N5 hc ops (fun s r h=>hk _ r h) s r h
 | .draw anc t live,_,_,_,_,_,_,_,_,_,_,hc,hl,hl',hk,hr,he=>fun s r h=>IR hc anc (fun s r h=>hk _ r h) t [] s r h
 | .seqc live a b,_,_,_,_,_,_,_,_,_,_,hc,hl,hl',hk,hr,he=>fun s r h=>DZ a hc hl hl' (fun s' r h=>DZ b hc hl hl' hk hr he _ r h) hr he s r h
 | .seq a b,_,_,_,_,_,_,_,_,_,_,hc,hl,hl',hk,hr,he=>fun s r h=>DZ a hc hl hl' (fun s' r h=>DZ b hc hl hl' hk hr he _ r h) hr he s r h
 | .cond c a b,_,_,_,_,_,_,_,_,_,_,hc,hl,hl',hk,hr,he=>fun s r h=>by
  simp only [Cy] at h ⊢
  split at h
  ·split at h
   ·rename_i e
    simp only [if_pos e]
    exact DZ a hc hl hl' hk hr he s r h
   ·rename_i e
    simp only [if_neg e]
    exact DZ b hc hl hl' hk hr he s r h
  ·cases h
 | .block id live a,_,_,_,_,_,_,_,_,_,_,hc,hl,hl',hk,hr,he=>fun s r h=>by
  simp only [Cy] at h ⊢
  refine DZ a hc hl hl' (fun s r h=>hk _ r h) hr (fun i s' r h=>?_) s r h
  split at h
  ·rename_i e
   simp only [if_pos e]
   exact hk _ r h
  ·rename_i e
   simp only [if_neg e]
   exact he i _ r h
 | .loop live a,cal,c,lp,ll,kn,kr,kl,krl,ke,kel,hc,hl,hl',hk,hr,he=>fun s r h=>by
  simp only [Cy] at h ⊢
  refine hl _ _ (fun go gl hgo s' r h=>?_) (fun j go gl hgo s' r h=>?_) _ r h
  ·exact DZ a hc hl hl' (fun s r h=>hgo _ r h) hr he s' r h
  ·exact DZ (cal:=fun _=>cal j) (lp:=fun _=>lp j) (kn:=fun i s'=>go i (s'.cutH (Bi s live) live s.st.length)) (kl:=fun s'=>gl (s'.cutH (Bi s live) live s.st.length)) (kr:=fun _=>kr j) (krl:=kr j) (ke:=fun _=>ke j) (kel:=ke j) a (G0.refl _) (hl' j) (fun _=>hl' j) (fun s r h=>hgo _ r h) (Conv.refl _) (fun i=>Conv.refl _) s' r h
 | .exit id,_,_,_,_,_,_,_,_,_,_,hc,hl,hl',hk,hr,he=>fun s r h=>he id s r h
 | .ret,_,_,_,_,_,_,_,_,_,_,hc,hl,hl',hk,hr,he=>hr
theorem QS {ρ:Type} {cal:CQ} {a:Ab} {hs:List (Nat×Nat)} {live:List Nat} {n:Nat} {kr:St->Option ρ} {ke:Nat->St->Option ρ} {s:St} {r:ρ}
  (h:Cy cal EM a (fun s''=>EM (fun go s'=>Cy cal EM a (fun s''=>go (s''.cutH hs live n)) kr ke s') (s''.cutH hs live n)) kr ke s=some r) :
  EM (fun go s'=>Cy cal EM a (fun s''=>go (s''.cutH hs live n)) kr ke s') s=some r :=
 Ml (F:=fun go s'=>Cy cal EM a (fun s''=>go (s''.cutH hs live n)) kr ke s') (fun go gl hgo s' r h=>DZ (cal:=fun _=>cal) (lp:=fun _=>EM) (kn:=fun i s'=>go i (s'.cutH hs live n)) (kl:=fun s'=>gl (s'.cutH hs live n)) (kr:=fun _=>kr) (krl:=kr) (ke:=fun _=>ke) (kel:=ke) a (G0.refl _) Oh (fun _=>Oh) (fun s r h=>hgo _ r h) (Conv.refl _) (fun i=>Conv.refl _) s' r h) h
noncomputable def RR (cal:CQ) (fn:Dj) (args bs:List AV):Option (RT fn.outs) :=
 Cy cal EM fn.body (BQ fn) (BQ fn) (fun _ _=>none) ⟨Fj 0 (Bb (CW bs) args),Ay bs args⟩
noncomputable def N6 (I5:Nat->Option Dj) (Ce:CQ):CQ:=fun f a b=>Lm fun k=>J6 I5 Ce k f a b
theorem QT {I5:Nat->Option Dj} {Ce:CQ} {f:Nat} {args bs r:List AV} (hf:I5 f=none) (h:Ce f args bs=some r):N6 I5 Ce f args bs=some r:=by
 refine RM ⟨1,fun k hk=>?_⟩
 cases k with
 | zero=>omega
 | succ k=>simp only [J6,hf,h]
theorem QU {I5:Nat->Option Dj} {Ce:CQ} {f:Nat} {fn:Dj} {args bs:List AV} {r:RT fn.outs} (hf:I5 f=some fn) (hl:args.length=fn.params.length/\bs.length=(Bz fn.params 0).length)
  (h:RR (N6 I5 Ce) fn args bs=some r):N6 I5 Ce f args bs=some (Bg fn.outs r):=by
 have hc:G0 (fun k=>J6 I5 Ce k) (N6 I5 Ce):=fun f a b r h=>Of h
 obtain ⟨m,hm⟩:=DZ (lp:=E3) (ll:=EM) fn.body (kn:=fun _=>BQ fn) (kr:=fun _=>BQ fn) (ke:=fun _ _ _=>none) hc RP Og (Conv.refl _) (Conv.refl _) (fun i=>Conv.refl _) _ r h
 refine RM ⟨m+1,fun k hk=>?_⟩
 cases k with
 | zero=>omega
 | succ k =>
  simp only [J6,hf,if_pos hl]
  have:=hm k (by omega)
  simp only [<- Fn] at this
  unfold PU
  rw [this]
  rfl
theorem Gf:∀ (K:Kd) (x:K.T) (r:List AV),K.dec (K.enc x++r)=some (x,r)
 | .int k,x,r=>by simp [Kd.enc,Kd.dec]
 | .bool,x,r=>rfl
 | .str,x,r=>rfl
 | .slice e,x,r=>by simp [Kd.enc,Kd.dec]
 | .pair a b,x,r=>by simp [Kd.enc,Kd.dec,Bs,Gf a,Gf b]
 | .own t e,x,r=>by simp [Kd.enc,Kd.dec]
 | .ref K,x,r=>by
  have:=Gf K x []
  rw [List.append_nil] at this
  simp [Kd.enc,Kd.dec,this]
 | .fun f,x,r=>by simp [Kd.enc,Kd.dec]
 | .clo f K,x,r=>by simp [Kd.enc,Kd.dec]
theorem Mo (K:Kd) (x:K.T):K.of (K.av x)=some x:=by
 have h:K.ofCells (K.enc x)=some x:=by
  have:=Gf K x []
  rw [List.append_nil] at this
  simp [Kd.ofCells,this]
 unfold Kd.of
 cases K<;>exact h
theorem Mp:∀ (Ks:List Kd) (x:RT Ks),CI Ks (Bg Ks x)=some x
 | [],_=>rfl
 | [K],x=>Mo K x
 | K::L::Ks,x=>by
  simp only [Bg,CI,Mo,AA]
  rw [Mp (L::Ks) x.2]
  rfl
theorem PM {I5:Nat->Option Dj} {Ce:CQ} {f:Nat} {fn:Dj} {args bs:List AV} {r:RT fn.outs} (hf:I5 f=some fn) (hl:args.length=fn.params.length/\bs.length=(Bz fn.params 0).length)
  (h:RR (N6 I5 Ce) fn args bs=some r):(N6 I5 Ce f args bs).bind (CI fn.outs)=some r:=by
 rw [QU hf hl h,AA,Mp]
theorem RS {P:Program} {I5:Nat->Option Dj} {Ce:CQ} (ht:RJ P I5) (hp:C_ P Ce) {f:Nat} {args:List AV} (h:(N6 I5 Ce f args []).bind (CI [.bool])=some true) {W:World} {cargs:List Value}
  (ha:AQ (VE (HH W)) args cargs) (hlt:f<Bh:=by decide) (htab:OE (HH W):=by exact fun p h=>by cases h):Calls P f cargs.toArray W fun e W'=>e=.returned (.bool true)/\RowKit.Below W.heap.size W W':=by
 cases hq:N6 I5 Ce f args [] with
 | none=>rw [hq] at h; cases h
 | some v =>
  rw [hq,AA] at h
  obtain ⟨m,hm⟩:=Of hq
  have hm:=hm m (Nat.le_refl _)
  have e:v=[.bool true]:=by
   match v,h with
   | [a],h =>
    have h:Kd.of .bool a=some true:=h
    unfold Kd.of Kd.ofCells at h
    cases a<;>simp [AV.cells,Kd.dec,AV.fits] at h<;>first | rw [h] | skip
  subst e
  exact QQ ht hp hm ha hlt htab
def SM (f:Nat):List (Nat×Dj)->Option Dj
 | []=>none
 | (g,a)::r=>if g=f then some a else SM f r
inductive Pr (P:Program):List (Nat×Dj)->Prop where
 | nil:Pr P []
 | cons {f:Nat} {a:Dj} {r:List (Nat×Dj)} (h:D3 P f a=true) (t:Pr P r):Pr P ((f,a)::r)
theorem QV {P:Program} {tab:List (Nat×Dj)} (h:Pr P tab):RJ P fun f=>SM f tab:=by
 intro f a hf
 induction h with
 | nil=>cases hf
 | cons h _ ih =>
  simp only [SM] at hf
  split at hf
  ·rename_i e
   cases hf
   rw [<- e]
   exact h
  ·exact ih hf
end Go.Proofs.Ytffahmnodgnohaa.Core

namespace Go.Proofs.Ytffahmnodgnohaa.Core
open Go IntKind
set_option maxRecDepth 100000
noncomputable section
abbrev Kd.W:Kd:=.int .i64
abbrev Kd.S:Kd:=.slice .W
abbrev AF:Kd:=(.pair .W (.pair .W (.pair .W (.pair .W (.pair .W .str)))))
abbrev U:Type:=Int×Int×Int×Int×Int×ByteArray
abbrev Aw:Kd:=(.pair .W (.pair .W (.pair .W .str)))
abbrev A_:Type:=Int×Int×Int×ByteArray
abbrev AW:Kd:=(.pair .W (.pair .W .str))
abbrev AJ:Type:=Int×Int×ByteArray
abbrev Ac:Kd:=(.pair .W (.pair .W (.pair .str (.pair (.own 183 AF) (.pair .bool (.pair (.own 3 .W) .bool))))))
abbrev AH:Type:=Int×Int×ByteArray×List U×Bool×List Int×Bool
abbrev AT:Kd:=(.pair (.own 94 AW) (.pair (.own 89 Ac) (.pair (.own 183 AF) (.own 9 .str))))
abbrev AB:Type:=List AJ×List AH×List U×List ByteArray
abbrev D4:Kd:=(.pair (.slice (.int .u8)) (.pair .W .W))
abbrev CC:Type:=List Int×Int×Int
def PN:Nat×List PK×List Kd:=(21,[.bor (.slice (.int .u8))],[.bool])
def KT:Nat×List PK×List Kd:=(27,[.val (.slice (.int .u8))],[.S])
def KU:Nat×List PK×List Kd:=(38,[.val .W,.val .W],[AT,.bool])
def KV:Nat×List PK×List Kd:=(47,[.val .W,.val .W,.bor (.slice Aw)],[AT,(.own 3 .W),.bool])
def K_:Nat×List PK×List Kd:=(48,[.bor (.slice .str),.bor (.slice .str)],[.bool])
def JT:Nat×List PK×List Kd:=(51,[.val .W],[.W])
def Mq:Nat×List PK×List Kd:=(55,[.val AW],[.bool])
def M_:Nat×List PK×List Kd:=(79,[.val (.slice (.int .u8))],[(.ref D4)])
def BU:Nat×List PK×List Kd:=(82,[.val .W,.val .W,.val .W],[.bool])
def Lq:Nat×List PK×List Kd:=(85,[.ptr D4,.val .W],[.W])
def Cz:Nat×List PK×List Kd:=(87,[.ptr D4],[.W])
def GR:Nat×List PK×List Kd:=(93,[.bor .S,.val .W],[.bool])
def Lr:Nat×List PK×List Kd:=(124,[.val Aw,.val .W],[.bool])
def NA:Nat×List PK×List Kd:=(125,[.val .bool],[.W])
def H_:Nat×List PK×List Kd:=(126,[.ptr AT,.val Aw],[.bool])
def Hm:Nat×List PK×List Kd:=(148,[.bor .S,.val .W],[.W])
def Hn:Nat×List PK×List Kd:=(154,[.ptr AT,.val Aw],[.bool])
def D5:Nat×List PK×List Kd:=(155,[.mov (.own 183 AF),.val .W,.val .W],[(.own 183 AF)])
def IS:Nat×List PK×List Kd:=(156,[.ptr AT,.val AF],[.bool])
def F8:Nat×List PK×List Kd:=(169,[.ptr AT,.ept,.val .W,.val .str],[])
def I3:Nat×List PK×List Kd:=(170,[.ptr AT,.val AF],[.bool])
def HI:Nat×List PK×List Kd:=(171,[.ptr AT,.ept,.val AF],[.bool])
def IT:Nat×List PK×List Kd:=(172,[.ptr AT,.ept,.val AF],[.bool])
def Ls:Nat×List PK×List Kd:=(182,[.val AW,.val AF],[AW,AF,.bool])
def DG:Nat×List PK×List Kd:=(183,[.bor (.slice AF),.val (.clo 184 AF)],[.bool])
def LA:Nat×List PK×List Kd:=(185,[.bor (.slice AF),.val .str],[.str])
def Da:Nat×List PK×List Kd:=(189,[.bor (.slice AF),.val (.clo 184 AF)],[.W])
abbrev Sa {A0 ρ:Type} (t W:A0->Option ρ):Prop:=∀ {a0 r},t a0=some r->W a0=some r
abbrev N9 {A0 A1 ρ:Type} (t W:A0->A1->Option ρ):Prop:=∀ {a0 a1 r},t a0 a1=some r->W a0 a1=some r
abbrev Sb {A0 A1 A2 ρ:Type} (t W:A0->A1->A2->Option ρ):Prop:=∀ {a0 a1 a2 r},t a0 a1 a2=some r->W a0 a1 a2=some r
abbrev Tf {A0 A1 A2 A3 ρ:Type} (t W:A0->A1->A2->A3->Option ρ):Prop:=∀ {a0 a1 a2 a3 r},t a0 a1 a2 a3=some r->W a0 a1 a2 a3=some r
abbrev Tv {A0 A1 A2 A3 A4 ρ:Type} (t W:A0->A1->A2->A3->A4->Option ρ):Prop:=∀ {a0 a1 a2 a3 a4 r},t a0 a1 a2 a3 a4=some r->W a0 a1 a2 a3 a4=some r
abbrev Tm {A0 A1 A2 A3 A4 A5 ρ:Type} (t W:A0->A1->A2->A3->A4->A5->Option ρ):Prop:=∀ {a0 a1 a2 a3 a4 a5 r},t a0 a1 a2 a3 a4 a5=some r->W a0 a1 a2 a3 a4 a5=some r
abbrev Tn {A0 A1 A2 A3 A4 A5 A6 ρ:Type} (t W:A0->A1->A2->A3->A4->A5->A6->Option ρ):Prop:=∀ {a0 a1 a2 a3 a4 a5 a6 r},t a0 a1 a2 a3 a4 a5 a6=some r->W a0 a1 a2 a3 a4 a5 a6=some r
abbrev Tz {A0 A1 A2 A3 A4 A5 A6 A7 A8 ρ:Type} (t W:A0->A1->A2->A3->A4->A5->A6->A7->A8->Option ρ):Prop:=∀ {a0 a1 a2 a3 a4 a5 a6 a7 a8 r},t a0 a1 a2 a3 a4 a5 a6 a7 a8=some r->W a0 a1 a2 a3 a4 a5 a6 a7 a8=some r
abbrev To {A0 A1 A2 A3 A4 A5 A6 A7 A8 A9 ρ:Type} (t W:A0->A1->A2->A3->A4->A5->A6->A7->A8->A9->Option ρ):Prop:=∀ {a0 a1 a2 a3 a4 a5 a6 a7 a8 a9 r},t a0 a1 a2 a3 a4 a5 a6 a7 a8 a9=some r->W a0 a1 a2 a3 a4 a5 a6 a7 a8 a9=some r
abbrev Tp {A0 A1 A2 A3 A4 A5 A6 A7 A8 A9 A10 ρ:Type} (t W:A0->A1->A2->A3->A4->A5->A6->A7->A8->A9->A10->Option ρ):Prop:=∀ {a0 a1 a2 a3 a4 a5 a6 a7 a8 a9 a10 r},t a0 a1 a2 a3 a4 a5 a6 a7 a8 a9 a10=some r->W a0 a1 a2 a3 a4 a5 a6 a7 a8 a9 a10=some r
abbrev TR {A0 A1 A2 A3 A4 A5 A6 A7 A8 A9 A10 A11 ρ:Type} (t W:A0->A1->A2->A3->A4->A5->A6->A7->A8->A9->A10->A11->Option ρ):Prop:=∀ {a0 a1 a2 a3 a4 a5 a6 a7 a8 a9 a10 a11 r},t a0 a1 a2 a3 a4 a5 a6 a7 a8 a9 a10 a11=some r->W a0 a1 a2 a3 a4 a5 a6 a7 a8 a9 a10 a11=some r
abbrev Tq {A0 A1 A2 A3 A4 A5 A6 A7 A8 A9 A10 A11 A12 ρ:Type} (t W:A0->A1->A2->A3->A4->A5->A6->A7->A8->A9->A10->A11->A12->Option ρ):Prop:=∀ {a0 a1 a2 a3 a4 a5 a6 a7 a8 a9 a10 a11 a12 r},t a0 a1 a2 a3 a4 a5 a6 a7 a8 a9 a10 a11 a12=some r->W a0 a1 a2 a3 a4 a5 a6 a7 a8 a9 a10 a11 a12=some r
abbrev Tr {A0 A1 A2 A3 A4 A5 A6 A7 A8 A9 A10 A11 A12 A13 ρ:Type} (t W:A0->A1->A2->A3->A4->A5->A6->A7->A8->A9->A10->A11->A12->A13->Option ρ):Prop:=∀ {a0 a1 a2 a3 a4 a5 a6 a7 a8 a9 a10 a11 a12 a13 r},t a0 a1 a2 a3 a4 a5 a6 a7 a8 a9 a10 a11 a12 a13=some r->W a0 a1 a2 a3 a4 a5 a6 a7 a8 a9 a10 a11 a12 a13=some r
instance (n:Nat):OfNat BD n:=⟨.t n⟩
abbrev BD.F:BD:=.c (.bool false)
abbrev BD.V:BD:=.c (.bool true)
abbrev BD.z:BD:=.c .nil
abbrev Ab.R (a:List CE) (b:List Nat) (c:Ab):Ab:=.seq (.region a b) c
abbrev Ab.r (a:List CE) (b:List Nat):Ab:=.region a b
abbrev Ab.s (a b:Ab):Ab:=.seq a b
abbrev Ab.q (c:BD) (a b:Ab):Ab:=.cond c a b
abbrev Ab.Q (c:BD) (a:Ab):Ab:=.cond c a .skip
abbrev Ab.k:Ab:=.skip
abbrev Ab.e:Ab:=.ret
abbrev Ab.D (n:Nat) (l:List (Nat×List Nat)) (t:DT) (v:List Nat):Ab:=.draw (Ty n l) t v
abbrev Ab.b (n:Nat) (l:List Nat) (c:Ab):Ab:=.block n l c
abbrev DT.O (i:Nat) (a:CE) (e:Bool) (fl:List (Nat×CE)) (r:DT):DT:=.only i none a e fl r
abbrev DT.z:DT:=.done

def F9:Ab:=(.s (.R [.m 19 5,.m 20 3,.bin 21 .mul (.i 5) 20,.b 22 .lss 19 21] [3,4,5,22] (.cond 22 .k (.exit 0))) (.s (.b 1 [3,4,5] (.r [.m 25 4,.bu 26 Aw [(0,1,.c (.int .i64 2)),(1,1,.c (.int .i64 1))],.blst 27 Aw [26],.app 28 83 Aw 25 27,.m 4 28] [3,4,5])) (.r [.m 23 5,.bin 24 .add 23 (.i 1),.m 5 24] [3,4,5])))
def EF:Ab:=(.R [.m 30 3,.m 31 4,.cx (some 32) [30,.c (.int .i64 1),31] KV,.m 29 32,.ext 33 29 0,.ext 34 29 1,.ext 35 29 2,.al 6 AT,.store 6 33 4 false,.m 7 34,.m 8 35] [6,8] (.R [.m 36 8,.m 37 36,.sc 37 true [.f 38 6 3,.l 39 38,.brow 40 9 .str [.c (.str ⟨#[105,116]⟩)],.cl 41 [39,40] K_] 42 41 .F,.m 43 42,.sc 43 true [.f 44 6 1,.l 45 44,.idx 46 7 45 (.i 0),.f 47 46 6,.l 48 47] 49 48 .F,.m 50 49,.sc 50 true [.f 51 6 1,.l 52 51,.idx 53 7 52 (.i 0),.f 54 53 1,.l 55 54,.bin 56 .eql 55 (.i 1)] 57 56 .F,.m 2 57] [2] .e))
def BL:Dj:=⟨[.val (.slice (.int .u8))],[⟨2,false,.bool⟩],(.R [.mv 2 .F] [0] (.s (.R [.m 9 0,.cl 10 [9] PN] [0,10] (.cond 10 (.R [.mv 2 .V] [2] .e) .k)) (.R [.m 11 0,.cl 12 [11] KT,.idx 13 1 12 (.i 0),.l 14 13,.bin 15 .rem 14 (.i 5),.bin 16 .add (.i 1) 15,.m 3 16] [3] (.R [.bu 17 Aw [(0,1,.c (.int .i64 1)),(1,1,.c (.int .i64 1)),(3,1,.c (.str ⟨#[105,116]⟩))],.brow 18 83 Aw [17],.m 4 18] [3,4] (.s (.R [.mv 5 (.i 0)] [3,4,5] (.b 0 [3,4] (.loop [3,4,5] F9))) EF)))))⟩
theorem LB:D3 Try.prog 9 BL=true:=by kernel_rfl
def Ho:Dj:=⟨[.val (.slice (.int .u8))],[⟨2,false,.bool⟩],(.R [.mv 2 .F] [0] (.R [.m 3 0,.len 4 false 3,.bin 5 .gtr 4 (.i 1048576),.m 2 5] [2] .e))⟩
theorem PO:D3 Try.prog 21 Ho=true:=by kernel_rfl
def FY:Ab:=(.s (.R [.m 11 5,.bin 12 .lss 11 (.i 12)] [3,4,5,12] (.cond 12 .k (.exit 0))) (.s (.b 1 [3,4,5] (.r [.m 15 4,.m 16 3,.cx (some 17) [16,.c (.int .i64 10000)] Lq,.blst 18 .W [17],.app 19 3 .W 15 18,.m 4 19] [3,4,5])) (.r [.m 13 5,.bin 14 .add 13 (.i 1),.m 5 14] [3,4,5])))
def FZ:Ab:=(.R [.m 20 4,.m 2 20] [2] .e)
def BT:Dj:=⟨[.val (.slice (.int .u8))],[⟨2,false,.S⟩],(.R [.mv 2 .z] [0] (.R [.m 6 0,.cl 7 [6] M_,.m 3 7] [3] (.R [.m 8 3,.cl 9 [8] Cz] [3] (.R [.brow 10 3 .W [],.m 4 10] [3,4] (.s (.R [.mv 5 (.i 0)] [3,4,5] (.b 0 [4] (.loop [3,4,5] FY))) FZ)))))⟩
theorem KW:D3 Try.prog 27 BT=true:=by kernel_rfl
def Fa:Ab:=(.R [.b 22 .lss 21 20] [4,6,20,21,22] (.s (.cond 22 .k (.exit 0)) (.s (.b 1 [4,6,20,21] (.R [.m 23 21,.m 7 23] [4,6,7,20,21] (.r [.f 24 6 1,.l 25 24,.m 26 7,.bin 27 .add 26 (.i 1),.bnew 28 [.int .i64 0,.int .i64 0,.str AE,.new 183 AF [],.bool false,.new 3 .W [],.bool false] [(0,1,27)],.brow 29 89 Ac [28],.app 30 89 Ac 25 29,.f 31 6 1,.store 31 30 1 false] [4,6,20,21]))) (.r [.bin 32 .add 21 (.i 1),.m 21 32] [4,6,20,21]))))
def Fb:Ab:=(.R [.ls 33 6 4,.store 4 33 4 false,.mv 5 .V] [4,5] .e)
def Fc:Ab:=(.R [.m 17 0,.mk 18 94 AW 17,.bnew 19 [.new 94 AW [],.new 89 Ac [],.new 183 AF [],.new 9 .str []] [(0,1,18)],.al 6 AT,.store 6 19 4 false] [1,4,6] (.s (.R [.m 20 1,.mv 21 (.i 0)] [4,6,20,21] (.b 0 [4,6] (.loop [4,6,20,21] Fa))) Fb))
def BA:Dj:=⟨[.val .W,.val .W],[⟨4,true,AT⟩,⟨5,false,.bool⟩],(.R [.al 4 AT,.mv 5 .F] [0,1,4] (.s (.R [.m 8 0,.cx (some 9) [8,.c (.int .i64 1),.c (.int .i64 5)] BU,.un 10 .not 9,.m 11 10,.sc 11 false [.m 12 1,.cx (some 13) [12,.c (.int .i64 1),.c (.int .i64 4)] BU,.un 14 .not 13] 15 .V 14] [0,1,4,15] (.cond 15 (.R [.bnew 16 [.new 94 AW [],.new 89 Ac [],.new 183 AF [],.new 9 .str []] [],.store 4 16 4 false,.mv 5 .F] [4,5] .e) .k)) Fc))⟩
theorem KX:D3 Try.prog 38 BA=true:=by kernel_rfl
def Fd:Ab:=(.R [.b 33 .lss 32 31] [1,2,6,9,30,31,32,33] (.s (.cond 33 .k (.exit 0)) (.s (.b 1 [1,2,6,9,30,31,32] (.R [.idx 34 4 30 32,.ls 35 34 4,.al 12 Aw,.store 12 35 4 false] [1,2,6,9,12,30,31,32] (.R [.ls 36 12 4,.m 37 1,.cl 38 [36,37] Lr,.un 39 .not 38] [1,2,6,9,30,31,32,39] (.cond 39 (.R [.bnew 40 [.new 94 AW [],.new 89 Ac [],.new 183 AF [],.new 9 .str []] [],.store 6 40 4 false,.nilrow 7 3 .W,.mv 8 .F] [6,7,8] .e) .k)))) (.r [.bin 41 .add 32 (.i 1),.m 32 41] [1,2,6,9,30,31,32]))))
def E_:Ab:=(.R [.b 45 .lss 44 43] [6,9,13,42,43,44,45] (.s (.cond 45 .k (.exit 2)) (.s (.b 3 [6,9,13,42,43,44] (.R [.idx 46 4 42 44,.ls 47 46 4,.al 15 Aw,.store 15 47 4 false] [6,9,13,15,42,43,44] (.r [.m 48 13,.ls 49 15 4,.cl 50 [9,49] H_,.cl 51 [50] NA,.blst 52 .W [51],.app 53 3 .W 48 52,.m 13 53] [6,9,13,42,43,44]))) (.r [.bin 54 .add 44 (.i 1),.m 44 54] [6,9,13,42,43,44]))))
def FA:Ab:=(.R [.ls 55 9 4,.m 56 13,.store 6 55 4 false,.m 7 56,.mv 8 .V] [6,7,8] .e)
def Db:Ab:=(.R [.nilrow 13 3 .W] [2,6,9,13] (.s (.R [.m 42 2,.len 43 false 42,.mv 44 (.i 0)] [6,9,13,42,43,44] (.b 2 [6,9,13] (.loop [6,9,13,42,43,44] E_))) FA))
def FB:Ab:=(.s (.R [.m 30 2,.len 31 false 30,.mv 32 (.i 0)] [1,2,6,9,30,31,32] (.b 0 [2,6,9] (.loop [1,2,6,9,30,31,32] Fd))) Db)
def AU:Dj:=⟨[.val .W,.val .W,.val (.slice Aw)],[⟨6,true,AT⟩,⟨7,false,(.own 3 .W)⟩,⟨8,false,.bool⟩],(.R [.al 6 AT,.nilrow 7 3 .W,.mv 8 .F] [0,1,2,6] (.R [.m 17 0,.m 18 1,.cl 19 [17,18] KU,.m 16 19,.ext 20 16 0,.ext 21 16 1,.al 9 AT,.store 9 20 4 false,.m 10 21] [1,2,6,9,10] (.s (.R [.m 22 10,.un 23 .not 22,.m 24 23,.sc 24 false [.m 25 2,.len 26 false 25,.bin 27 .gtr 26 (.i 80)] 28 .V 27] [1,2,6,9,28] (.cond 28 (.R [.bnew 29 [.new 94 AW [],.new 89 Ac [],.new 183 AF [],.new 9 .str []] [],.store 6 29 4 false,.nilrow 7 3 .W,.mv 8 .F] [6,7,8] .e) .k)) FB)))⟩
theorem KY:D3 Try.prog 47 AU=true:=by kernel_rfl
def F_:Ab:=(.s (.R [.m 11 5,.m 12 0,.len 13 false 12,.b 14 .lss 11 13] [0,1,5,14] (.cond 14 .k (.exit 0))) (.s (.b 1 [0,1,5] (.s (.D 9 [(1,[]),(2,[0,1]),(4,[]),(5,[]),(6,[4,5]),(8,[3,7])] (.tk 9 [.b 25 .neq 20 24,.l 24 23,.idx 23 1 21 22,.m 22 5,.m 21 1,.l 20 19,.idx 19 1 17 18,.m 18 5,.m 17 0] .z) [0,1,5,25]) (.cond 25 (.R [.mv 4 .F] [4] .e) .k))) (.r [.m 15 5,.bin 16 .add 15 (.i 1),.m 5 16] [0,1,5])))
def GA:Ab:=(.R [.mv 4 .V] [4] .e)
def BX:Dj:=⟨[.val (.slice .str),.val (.slice .str)],[⟨4,false,.bool⟩],(.R [.mv 4 .F] [0,1] (.s (.R [.m 6 0,.len 7 false 6,.m 8 1,.len 9 false 8,.b 10 .neq 7 9] [0,1,10] (.cond 10 (.R [.mv 4 .F] [4] .e) .k)) (.s (.R [.mv 5 (.i 0)] [0,1,5] (.b 0 [] (.loop [0,1,5] F_))) GA)))⟩
theorem LC:D3 Try.prog 48 BX=true:=by kernel_rfl
def Ex:Dj:=⟨[.val .W],[⟨2,false,.W⟩],(.R [.mv 2 (.i 0)] [0] (.s (.R [.m 3 0,.bin 4 .lss 3 (.i 0)] [0,4] (.cond 4 (.R [.mv 2 (.i 0)] [2] .e) .k)) (.R [.m 5 0,.bin 6 .quo 5 (.i 2),.bin 7 .add 6 (.i 1),.m 2 7] [2] .e)))⟩
theorem NB:D3 Try.prog 51 Ex=true:=by kernel_rfl
def HJ:Ab:=(.R [.f 21 1 1,.l 22 21,.bin 23 .gtr 22 (.i 0),.m 24 23,.sc 24 false [.f 25 1 2,.l 26 25,.bin 27 .eql 26 (.c (.str ⟨#[]⟩))] 28 .V 27,.m 2 28] [2] .e)
def C0:Dj:=⟨[.val AW],[⟨2,false,.bool⟩],(.R [.box 1 0 false,.mv 2 .F] [1] (.s (.R [.f 3 1 0,.l 4 3,.cx (some 5) [4,.c (.int .i64 0),.c (.int .i64 10000)] BU,.un 6 .not 5,.m 7 6,.sc 7 false [.f 8 1 1,.l 9 8,.f 10 1 0,.l 11 10,.cx (some 12) [9,.c (.int .i64 0),11] BU,.un 13 .not 12] 14 .V 13,.m 15 14,.sc 15 false [.f 16 1 2,.l 17 16,.len 18 true 17,.bin 19 .gtr 18 (.i 40)] 20 .V 19] [1,20] (.cond 20 (.R [.mv 2 .F] [2] .e) .k)) HJ))⟩
theorem Mr:D3 Try.prog 55 C0=true:=by kernel_rfl
def Hx:Ab:=(.s (.b 1 [0,3,4] (.r [.m 18 3,.bin 19 .mul 18 (.i 131),.m 20 0,.m 21 4,.idx 22 1 20 21,.l 23 22,.cvi 24 .i64 23,.b 25 .add 19 24,.bin 26 .add 25 (.i 7),.bin 27 .and 26 (.i 1073741823),.m 3 27] [0,3,4])) (.r [.m 16 4,.bin 17 .add 16 (.i 1),.m 4 17] [0,3,4]))
def Hy:Ab:=(.s (.R [.m 8 4,.m 9 0,.len 10 false 9,.b 11 .lss 8 10,.m 12 11,.sc 12 true [.m 13 4,.bin 14 .lss 13 (.i 4000)] 15 14 .F] [0,3,4,15] (.cond 15 .k (.exit 0))) Hx)
def Hz:Ab:=(.R [.m 28 0,.m 29 3,.bu 30 D4 [(0,1,28),(2,1,29)],.box 31 30 false,.m 2 31] [2] .e)
def By:Dj:=⟨[.val (.slice (.int .u8))],[⟨2,false,(.ref D4)⟩],(.R [.mv 2 (.c (.undef))] [0] (.R [.m 5 0,.len 6 false 5,.bin 7 .add (.i 14301) 6,.m 3 7] [0,3] (.s (.R [.mv 4 (.i 0)] [0,3,4] (.b 0 [0,3] (.loop [0,3,4] Hy))) Hz)))⟩
theorem NC:D3 Try.prog 79 By=true:=by kernel_rfl
def EZ:Dj:=⟨[.val .W,.val .W,.val .W],[⟨6,false,.bool⟩],(.R [.mv 6 .F] [0,1,2] (.R [.m 7 0,.m 8 1,.b 9 .geq 7 8,.m 10 9,.sc 10 true [.m 11 0,.m 12 2,.b 13 .leq 11 12] 14 13 .F,.m 6 14] [6] .e))⟩
theorem Ms:D3 Try.prog 82 EZ=true:=by kernel_rfl
def ED:Dj:=⟨[.ptr D4,.val .W],[⟨4,false,.W⟩],(.R [.mv 4 (.i 0)] [0,1] (.s (.R [.m 9 1,.bin 10 .leq 9 (.i 0)] [0,1,10] (.cond 10 (.R [.mv 4 (.i 0)] [4] .e) .k)) (.s (.R [.m 11 1,.bin 12 .leq 11 (.i 256)] [0,1,12] (.cond 12 (.R [.m 13 0,.cl 14 [13] Cz,.m 15 1,.b 16 .rem 14 15,.m 4 16] [4] .e) .k)) (.R [.m 17 0,.cl 18 [17] Cz,.m 5 18] [0,1,5] (.R [.m 19 0,.cl 20 [19] Cz,.m 6 20] [0,1,5,6] (.R [.m 21 0,.cl 22 [21] Cz,.m 7 22] [0,1,5,6,7] (.R [.m 23 0,.cl 24 [23] Cz,.m 8 24] [1,5,6,7,8] (.R [.m 25 5,.bin 26 .mul 25 (.i 16777216),.m 27 6,.bin 28 .mul 27 (.i 65536),.b 29 .add 26 28,.m 30 7,.bin 31 .mul 30 (.i 256),.b 32 .add 29 31,.m 33 8,.b 34 .add 32 33,.m 35 1,.b 36 .rem 34 35,.m 4 36] [4] .e))))))))⟩
theorem Lt:D3 Try.prog 85 ED=true:=by kernel_rfl
def Ea:Dj:=⟨[.ptr D4],[⟨2,false,.W⟩],(.R [.mv 2 (.i 0)] [0] (.R [.m 4 0,.m 5 0,.n 6 5,.f 7 6 2,.l 8 7,.bin 9 .mul 8 (.i 6364136223846793005),.bin 10 .add 9 (.i 1442695040888963407),.n 11 4,.f 12 11 2,.store 12 10 1 false] [0] (.s (.D 13 [(5,[]),(10,[4,9])] (.tk 13 [.m 3 24,.bin 24 .and 23 (.i 255),.b 23 .xor 17 22,.bin 22 .shr 21 (.c (.int .u64 45)),.l 21 20,.f 20 19 2,.n 19 18,.m 18 0,.bin 17 .shr 16 (.c (.int .u64 33)),.l 16 15,.f 15 14 2,.n 14 13,.m 13 0] .z) [0,3]) (.seqc [3] (.s (.D 10 [(4,[]),(9,[3,8])] (.tk 10 [.b 34 .lss 28 33,.len 33 false 32,.l 32 31,.f 31 30 0,.n 30 29,.m 29 0,.l 28 27,.f 27 26 1,.n 26 25,.m 25 0] .z) [0,3,34]) (.cond 34 (.s (.D 15 [(1,[]),(5,[]),(9,[4,8]),(12,[0,11])] (.tk 15 [.m 3 48,.bin 48 .and 47 (.i 255),.b 47 .add 35 46,.cvi 46 .i64 45,.l 45 44,.idx 44 1 39 43,.l 43 42,.f 42 41 1,.n 41 40,.m 40 0,.l 39 38,.f 38 37 0,.n 37 36,.m 36 0,.m 35 3] .z) [0,3]) (.r [.m 49 0,.m 50 0,.n 51 50,.f 52 51 1,.l 53 52,.bin 54 .add 53 (.i 1),.n 55 49,.f 56 55 1,.store 56 54 1 false] [3])) .k)) (.R [.m 57 3,.m 2 57] [2] .e)))))⟩
theorem Mt:D3 Try.prog 87 Ea=true:=by kernel_rfl
def Bj:Dj:=⟨[.val .S,.val .W],[⟨4,false,.bool⟩],(.R [.mv 4 .F] [0,1] (.R [.m 5 0,.m 6 1,.cl 7 [5,6] Hm,.bin 8 .geq 7 (.i 0),.m 4 8] [4] .e))⟩
theorem GS:D3 Try.prog 93 Bj=true:=by kernel_rfl
def Gg:Ab:=(.s (.R [.f 21 2 0,.l 22 21,.bin 23 .eql 22 (.i 1)] [2,23] (.cond 23 (.R [.f 24 2 3,.l 25 24,.len 26 true 25,.cx (some 27) [26,.c (.int .i64 1),.c (.int .i64 40)] BU,.m 4 27] [4] .e) .k)) (.R [.f 28 2 3,.l 29 28,.bin 30 .eql 29 (.c (.str ⟨#[]⟩)),.m 4 30] [4] .e))
def Cb:Dj:=⟨[.val Aw,.val .W],[⟨4,false,.bool⟩],(.R [.box 2 0 false,.mv 4 .F] [1,2] (.s (.R [.f 5 2 0,.l 6 5,.cx (some 7) [6,.c (.int .i64 1),.c (.int .i64 4)] BU,.un 8 .not 7,.m 9 8,.sc 9 false [.f 10 2 1,.l 11 10,.m 12 1,.cx (some 13) [11,.c (.int .i64 1),12] BU,.un 14 .not 13] 15 .V 14,.m 16 15,.sc 16 false [.f 17 2 2,.l 18 17,.bin 19 .lss 18 (.i 0)] 20 .V 19] [2,20] (.cond 20 (.R [.mv 4 .F] [4] .e) .k)) Gg))⟩
theorem Lu:D3 Try.prog 124 Cb=true:=by kernel_rfl
def Ey:Dj:=⟨[.val .bool],[⟨2,false,.W⟩],(.R [.mv 2 (.i 0)] [0] (.s (.R [.m 3 0] [3] (.cond 3 (.R [.mv 2 (.i 0)] [2] .e) .k)) (.R [.mv 2 (.i 1)] [2] .e)))⟩
theorem ND:D3 Try.prog 125 Ey=true:=by kernel_rfl
def CR:Dj:=⟨[.ptr AT,.val Aw],[⟨4,false,.bool⟩],(.R [.box 3 1 false,.mv 4 .F] [0,3] (.s (.R [.f 7 3 0,.l 8 7,.bin 9 .eql 8 (.i 1)] [0,3,9] (.cond 9 (.R [.m 10 0,.ls 11 3 4,.cl 12 [10,11] Hn,.m 4 12] [4] .e) .k)) (.s (.R [.m 13 0,.n 14 13,.f 15 14 2,.l 16 15,.len 17 false 16,.bin 18 .eql 17 (.i 0)] [0,3,18] (.cond 18 (.R [.mv 4 .F] [4] .e) .k)) (.s (.D 9 [(2,[]),(7,[1,6])] (.tk 9 [.m 5 26,.b 26 .rem 20 25,.len 25 false 24,.l 24 23,.f 23 22 2,.n 22 21,.m 21 0,.l 20 19,.f 19 3 2] .z) [0,3,5]) (.R [.m 27 0,.n 28 27,.f 29 28 2,.l 30 29,.m 31 5,.idx 32 6 30 31,.ls 33 32 6,.al 6 AF,.store 6 33 6 false] [0,3,5,6] (.s (.R [.f 34 3 0,.l 35 34,.bin 36 .eql 35 (.i 4)] [0,3,5,6,36] (.cond 36 (.s (.D 11 [(1,[]),(5,[]),(7,[4,6]),(8,[0,7])] (.tk 6 [.ls 42 6 6,.l 41 40,.f 40 39 2,.n 39 38,.m 38 0,.m 37 0] (.O 6 (.blst 43 AF [42]) false [] (.O 7 (.app 44 183 AF 41 43) false [] (.tk 10 [.f 46 45 2,.n 45 37] (.O 10 (.store 46 44 1 false) false [] .z))))) []) (.R [.mv 4 .V] [4] .e)) .k)) (.R [.m 47 0,.m 48 0,.n 49 48,.f 50 49 2,.l 51 50,.m 52 5,.m 53 5,.bin 54 .add 53 (.i 1),.cl 55 [51,52,54] D5,.n 56 47,.f 57 56 2,.store 57 55 1 false] [0,3,6] (.R [.f 58 3 0,.l 59 58,.bin 60 .eql 59 (.i 3),.m 61 60,.sc 61 false [.m 62 0,.ls 63 6 6,.cl 64 [62,63] IS] 65 .V 64,.m 4 65] [4] .e))))))))⟩
theorem IA:D3 Try.prog 126 CR=true:=by kernel_rfl
def D6:Ab:=(.R [.b 9 .lss 8 7] [0,1,7,8,9] (.s (.cond 9 .k (.exit 0)) (.s (.b 1 [0,1,7,8] (.R [.m 10 8,.m 5 10] [0,1,5,7,8] (.R [.m 11 1,.m 12 0,.m 13 5,.idx 14 1 12 13,.l 15 14,.b 16 .eql 11 15] [0,1,5,7,8,16] (.cond 16 (.R [.m 17 5,.m 4 17] [4] .e) .k)))) (.r [.bin 18 .add 8 (.i 1),.m 8 18] [0,1,7,8]))))
def D7:Ab:=(.R [.mv 4 (.c (.int .i64 (-1)))] [4] .e)
def At:Dj:=⟨[.val .S,.val .W],[⟨4,false,.W⟩],(.R [.mv 4 (.i 0)] [0,1] (.s (.R [.m 6 0,.len 7 false 6,.mv 8 (.i 0)] [0,1,7,8] (.b 0 [] (.loop [0,1,7,8] D6))) D7))⟩
theorem Hp:D3 Try.prog 148 At=true:=by kernel_rfl
def D8:Ab:=(.s (.R [.m 29 6,.bin 30 .gtr 29 (.i 10000)] [0,3,5,6,30] (.cond 30 (.R [.mv 4 .F] [4] .e) .k)) (.s (.D 23 [(1,[]),(2,[]),(3,[]),(4,[]),(5,[]),(6,[]),(8,[0,5]),(11,[1,7,10]),(14,[2,13]),(17,[3,16]),(20,[4,19])] (.tk 10 [.f 40 39 1,.n 39 31,.l 38 37,.f 37 3 3,.m 36 6,.m 35 5,.m 34 5,.m 33 5,.m 32 5,.m 31 5] (.O 10 (.store 40 36 1 false) false [] (.tk 13 [.f 42 41 2,.n 41 32] (.O 13 (.store 42 38 1 false) false [] (.tk 16 [.f 44 43 3,.n 43 33] (.O 16 (.store 44 .z 1 false) false [] (.tk 19 [.f 46 45 4,.n 45 34] (.O 19 (.store 46 .F 1 false) false [] (.tk 22 [.f 48 47 5,.n 47 35] (.O 22 (.store 48 .z 1 false) false [] .z)))))))))) [0,5]) (.R [.m 49 0,.m 50 5,.cx (some 51) [49,50,.c (.int .i64 1),.c (.str ⟨#[]⟩)] F8] [] (.R [.mv 4 .V] [4] .e))))
def BR:Dj:=⟨[.ptr AT,.val Aw],[⟨4,false,.bool⟩],(.R [.box 3 1 false,.mv 4 .F] [0,3] (.s (.D 9 [(4,[]),(7,[3,6])] (.tk 9 [.m 5 14,.idx 14 7 10 13,.bin 13 .sub 12 (.i 1),.l 12 11,.f 11 3 1,.l 10 9,.f 9 8 1,.n 8 7,.m 7 0] .z) [0,3,5]) (.R [.m 15 5,.n 16 15,.f 17 16 1,.l 18 17,.bin 19 .add 18 (.i 10),.m 6 19] [0,3,5,6] (.seqc [0,3,5,6] (.R [.m 20 5,.n 21 20,.f 22 21 1,.l 23 22,.bin 24 .eql 23 (.i 0)] [0,3,5,6,24] (.cond 24 (.r [.m 25 5,.n 26 25,.f 27 26 0,.l 28 27,.m 6 28] [0,3,5,6]) .k)) D8))))⟩
theorem Hq:D3 Try.prog 154 BR=true:=by kernel_rfl
def Eb:Ab:=(.s (.s (.D 9 [(2,[]),(7,[1,6])] (.tk 7 [.len 23 false 22,.l 22 21,.f 21 20 1,.n 20 19,.m 19 0,.l 18 17,.f 17 3 2] (.O 7 (.cx (some 24) [18,.c (.int .i64 1),23] BU) false [] (.tk 9 [.un 25 .not 24] .z))) [0,3,25]) (.cond 25 (.R [.mv 4 .F] [4] .e) .k)) (.s (.D 9 [(4,[]),(7,[3,6])] (.tk 9 [.m 5 33,.idx 33 7 29 32,.bin 32 .sub 31 (.i 1),.l 31 30,.f 30 3 2,.l 29 28,.f 28 27 1,.n 27 26,.m 26 0] .z) [0,3,5]) (.s (.R [.f 34 3 0,.l 35 34,.bin 36 .eql 35 (.i 2)] [0,3,5,36] (.cond 36 (.R [.m 37 0,.m 38 5,.ls 39 3 6,.cl 40 [37,38,39] HI,.m 4 40] [4] .e) .k)) (.R [.m 41 0,.m 42 5,.ls 43 3 6,.cl 44 [41,42,43] IT,.m 4 44] [4] .e))))
def BY:Dj:=⟨[.ptr AT,.val AF],[⟨4,false,.bool⟩],(.R [.box 3 1 false,.mv 4 .F] [0,3] (.s (.R [.f 6 3 0,.l 7 6,.bin 8 .eql 7 (.i 1),.m 9 8,.sc 9 false [.f 10 3 0,.l 11 10,.bin 12 .eql 11 (.i 3)] 13 .V 12] [0,3,13] (.cond 13 (.R [.m 14 0,.ls 15 3 6,.cl 16 [14,15] I3,.m 4 16] [4] .e) .k)) Eb))⟩
theorem IU:D3 Try.prog 156 BY=true:=by kernel_rfl
def FC:Ab:=(.R [.b 15 .lss 14 13] [0,1,2,3,13,14,15] (.s (.cond 15 .k (.exit 0)) (.s (.b 1 [0,1,2,3,13,14] (.R [.m 16 14,.m 8 16] [0,1,2,3,8,13,14] (.D 23 [(1,[]),(5,[]),(6,[]),(10,[]),(12,[]),(16,[]),(17,[5,9,11,15,16]),(19,[4,18]),(20,[0,19])] (.tk 18 [.bu 34 AF [(0,1,22),(1,1,26),(2,1,28),(3,1,32),(5,1,33)],.m 33 3,.l 32 31,.f 31 30 1,.n 30 29,.m 29 1,.bin 28 .add 27 (.i 1),.m 27 8,.l 26 25,.f 25 24 0,.n 24 23,.m 23 1,.m 22 2,.l 21 20,.f 20 19 2,.n 19 18,.m 18 0,.m 17 0] (.O 18 (.blst 35 AF [34]) false [] (.O 19 (.app 36 183 AF 21 35) false [] (.tk 22 [.f 38 37 2,.n 37 17] (.O 22 (.store 38 36 1 false) false [] .z))))) [0,1,2,3,13,14]))) (.r [.bin 39 .add 14 (.i 1),.m 14 39] [0,1,2,3,13,14]))))
def BW:Dj:=⟨[.ptr AT,.ept,.val .W,.val .str],[],(.R [.m 9 0,.n 10 9,.f 11 10 0,.l 12 11,.len 13 false 12,.mv 14 (.i 0)] [0,1,2,3,13,14] (.b 0 [] (.loop [0,1,2,3,13,14] FC)))⟩
theorem Ji:D3 Try.prog 169 BW=true:=by kernel_rfl
def Ct:Dj:=⟨[.ptr AT,.val AF],[⟨4,false,.bool⟩],(.R [.box 3 1 false,.mv 4 .F] [0,3] (.s (.s (.D 9 [(2,[]),(7,[1,6])] (.tk 7 [.len 14 false 13,.l 13 12,.f 12 11 0,.n 11 10,.m 10 0,.l 9 8,.f 8 3 2] (.O 7 (.cx (some 15) [9,.c (.int .i64 1),14] BU) false [] (.tk 9 [.un 16 .not 15] .z))) [0,3,16]) (.cond 16 (.R [.mv 4 .F] [4] .e) .k)) (.s (.D 20 [(4,[]),(7,[3,6]),(9,[]),(10,[8,9]),(13,[11]),(14,[11]),(15,[]),(16,[]),(17,[12,15,16]),(18,[13,17]),(19,[14,18])] (.tk 10 [.ls 27 3 6,.ls 26 25 3,.idx 25 3 21 24,.bin 24 .sub 23 (.i 1),.l 23 22,.f 22 3 2,.l 21 20,.f 20 19 0,.n 19 18,.m 18 0] (.O 10 (.cl 28 [26,27] Ls) false [(15,.al 5 AW),(16,.al 6 AF)] (.tk 15 [.ext 31 17 2,.ext 30 17 1,.ext 29 17 0,.m 17 28] (.O 15 (.al 5 AW) true [(16,.al 6 AF)] (.O 16 (.al 6 AF) true [] (.O 17 (.store 5 29 3 false) false [] (.O 18 (.store 6 30 6 false) false [] (.tk 20 [.m 7 31] .z)))))))) [0,3,5,6,7]) (.s (.D 10 [(4,[]),(7,[]),(8,[3,6,7])] (.tk 9 [.idx 40 3 35 38,.ls 39 5 3,.bin 38 .sub 37 (.i 1),.l 37 36,.f 36 3 2,.l 35 34,.f 34 33 0,.n 33 32,.m 32 0] (.O 9 (.store 40 39 3 false) false [] .z)) [0,6,7]) (.seqc [7] (.R [.m 41 7] [0,6,7,41] (.cond 41 (.D 11 [(1,[]),(5,[]),(7,[4,6]),(8,[0,7])] (.tk 6 [.ls 47 6 6,.l 46 45,.f 45 44 2,.n 44 43,.m 43 0,.m 42 0] (.O 6 (.blst 48 AF [47]) false [] (.O 7 (.app 49 183 AF 46 48) false [] (.tk 10 [.f 51 50 2,.n 50 42] (.O 10 (.store 51 49 1 false) false [] .z))))) [7]) .k)) (.R [.m 52 7,.m 4 52] [4] .e))))))⟩
theorem I4:D3 Try.prog 170 Ct=true:=by kernel_rfl
def Du:Ab:=(.s (.D 11 [(1,[]),(5,[]),(7,[4,6]),(8,[0,7])] (.tk 6 [.ls 35 5 6,.l 34 33,.f 33 32 3,.n 32 31,.m 31 1,.m 30 1] (.O 6 (.blst 36 AF [35]) false [] (.O 7 (.app 37 183 AF 34 36) false [] (.tk 10 [.f 39 38 3,.n 38 30] (.O 10 (.store 39 37 1 false) false [] .z))))) [0,1]) (.seqc [] (.s (.D 12 [(5,[]),(11,[4,10])] (.tk 10 [.len 49 false 48,.l 48 47,.f 47 46 0,.n 46 45,.m 45 0,.len 44 false 43,.l 43 42,.f 42 41 3,.n 41 40,.m 40 1] (.O 10 (.cl 50 [49] JT) false [] (.tk 12 [.b 51 .eql 44 50] .z))) [0,1,51]) (.cond 51 (.R [.m 52 1,.n 53 52,.f 54 53 4,.store 54 .V 1 false] [0,1] (.s (.D 13 [(1,[]),(5,[]),(9,[4,8]),(10,[0,9])] (.tk 9 [.l 63 62,.f 62 61 2,.n 61 60,.m 60 1,.l 59 58,.f 58 57 3,.n 57 56,.m 56 1,.m 55 1] (.O 9 (.icx 59 true (some 64) [59,63] LA) false [] (.tk 12 [.f 66 65 2,.n 65 55] (.O 12 (.store 66 64 1 false) false [] .z)))) [0,1]) (.r [.m 67 0,.m 68 1,.m 69 1,.n 70 69,.f 71 70 2,.l 72 71,.cx (some 73) [67,68,.c (.int .i64 3),72] F8] []))) .k)) (.R [.mv 6 .V] [6] .e)))
def BN:Dj:=⟨[.ptr AT,.ept,.val AF],[⟨6,false,.bool⟩],(.R [.fbox 5 2,.mv 6 .F] [0,1,5] (.R [.m 8 1,.n 9 8,.f 10 9 3,.l 11 10,.clo 12 184 AF 5,.icx 11 true (some 13) [11,12] DG,.m 7 13] [0,1,5,7] (.s (.s (.D 16 [(2,[]),(6,[1,5])] (.tk 8 [.m 21 20,.b 20 .neq 15 19,.l 19 18,.f 18 17 1,.n 17 16,.m 16 1,.l 15 14,.f 14 5 3] (.test 21 (.sk 21 false 4 12 26 (.tk 14 [.m 27 26,.pick 26 21 .V 25] (.sk 27 false 1 15 29 (.tk 16 [.pick 29 27 .V 28] .z)))) (.tg 21 false 12 [.l 25 24,.f 24 23 4,.n 23 22,.m 22 1] (.tk 14 [.m 27 26,.pick 26 21 .V 25] (.test 27 (.sk 27 false 1 15 29 (.tk 16 [.pick 29 27 .V 28] .z)) (.tg 27 false 15 [.m 28 7] (.tk 16 [.pick 29 27 .V 28] .z))))))) [0,1,5,29]) (.cond 29 (.R [.mv 6 .F] [6] .e) .k)) Du)))⟩
theorem HK:D3 Try.prog 171 BN=true:=by kernel_rfl
def Ec:Ab:=(.s (.D 12 [(1,[]),(5,[]),(8,[4,7]),(9,[0,8])] (.tk 7 [.l 29 28,.f 28 5 1,.l 27 26,.f 26 25 5,.n 25 24,.m 24 1,.m 23 1] (.O 7 (.blst 30 .W [29]) false [] (.O 8 (.app 31 3 .W 27 30) false [] (.tk 11 [.f 33 32 5,.n 32 23] (.O 11 (.store 33 31 1 false) false [] .z))))) [0,1]) (.seqc [] (.s (.D 12 [(5,[]),(11,[4,10])] (.tk 10 [.len 43 false 42,.l 42 41,.f 41 40 0,.n 40 39,.m 39 0,.len 38 false 37,.l 37 36,.f 36 35 5,.n 35 34,.m 34 1] (.O 10 (.cl 44 [43] JT) false [] (.tk 12 [.b 45 .eql 38 44] .z))) [0,1,45]) (.cond 45 (.R [.m 46 1,.n 47 46,.f 48 47 6,.store 48 .V 1 false] [0,1] (.D 14 [(1,[]),(5,[]),(10,[4,9]),(11,[0,10])] (.tk 9 [.l 57 56,.f 56 55 2,.n 55 54,.m 54 1,.l 53 52,.f 52 51 3,.n 51 50,.m 50 0,.m 49 0] (.O 9 (.blst 58 .str [57]) false [] (.O 10 (.app 59 9 .str 53 58) false [] (.tk 13 [.f 61 60 3,.n 60 49] (.O 13 (.store 61 59 1 false) false [] .z))))) [])) .k)) (.R [.mv 6 .V] [6] .e)))
def BZ:Dj:=⟨[.ptr AT,.ept,.val AF],[⟨6,false,.bool⟩],(.R [.box 5 2 false,.mv 6 .F] [0,1,5] (.s (.s (.D 16 [(2,[]),(6,[1,5]),(12,[7]),(14,[11,13])] (.tk 8 [.m 14 13,.b 13 .neq 8 12,.l 12 11,.f 11 10 1,.n 10 9,.m 9 1,.l 8 7,.f 7 5 3] (.test 14 (.sk 14 false 7 15 22 (.tk 16 [.pick 22 14 .V 21] .z)) (.tg 14 false 14 [.l 20 19,.f 19 5 1,.l 18 17,.f 17 16 5,.n 16 15,.m 15 1] (.only 14 (some (14,false)) (.icx 18 true (some 21) [18,20] GR) false [] (.tk 16 [.pick 22 14 .V 21] .z))))) [0,1,5,22]) (.cond 22 (.R [.mv 6 .F] [6] .e) .k)) Ec))⟩
theorem IV:D3 Try.prog 172 BZ=true:=by kernel_rfl
def Gh:Ab:=(.cond 55 (.s (.D 6 [(2,[]),(4,[1,3])] (.tk 3 [.f 68 7 0,.l 67 66,.f 66 3 5] (.O 3 (.store 68 (.i 4) 1 false) false [] (.tk 5 [.f 69 7 5] (.O 5 (.store 69 67 1 false) false [] .z)))) [2,3,4,5,7]) (.r [.f 70 3 3,.l 71 70,.f 72 3 3,.l 73 72,.f 74 3 5,.l 75 74,.bu 76 AW [(0,1,71),(1,1,73),(2,1,75)],.store 2 76 3 false] [2,4,5,7])) (.R [.ls 32 2 3,.bu 33 AF [],.store 4 32 3 false,.store 5 33 6 false,.mv 6 .F] [4,5,6] .e))
def Gi:Ab:=(.cond 34 (.s (.D 10 [(2,[]),(4,[]),(6,[1,5]),(8,[3,7])] (.tk 5 [.f 49 7 0,.l 48 47,.f 47 2 2,.l 46 45,.f 45 2 1] (.O 5 (.store 49 (.i 2) 1 false) false [] (.tk 7 [.f 50 7 4] (.O 7 (.store 50 46 1 false) false [] (.tk 9 [.f 51 7 5] (.O 9 (.store 51 48 1 false) false [] .z)))))) [2,3,4,5,7]) (.r [.f 52 3 3,.l 53 52,.f 54 2 0,.store 54 53 1 false] [2,4,5,7])) (.R [.f 56 3 0,.l 57 56,.bin 58 .eql 57 (.i 3),.m 59 58,.sc 59 true [.f 60 3 3,.l 61 60,.f 62 2 0,.l 63 62,.b 64 .geq 61 63] 65 64 .F,.m 55 65] [2,3,4,5,7,55] Gh))
def Gj:Ab:=(.s (.D 5 [(1,[]),(2,[0]),(3,[1,2])] (.tk 2 [.ls 78 7 6,.ls 77 2 3] (.O 2 (.store 4 77 3 false) false [] (.O 3 (.store 5 78 6 false) false [] (.tk 5 [.mv 6 .V] .z)))) [4,5,6]) .e)
def Gk:Ab:=(.R [.f 25 3 2,.l 26 25,.f 27 3 1,.l 28 27,.f 29 3 3,.l 30 29,.bu 31 AF [(1,1,26),(2,1,28),(3,1,30)],.al 7 AF,.store 7 31 6 false] [2,3,4,5,7] (.s (.b 0 [2,4,5,7] (.R [.f 35 3 0,.l 36 35,.bin 37 .eql 36 (.i 1),.m 38 37,.sc 38 true [.f 39 3 3,.l 40 39,.f 41 2 0,.l 42 41,.b 43 .gtr 40 42] 44 43 .F,.m 34 44] [2,3,4,5,7,34] Gi)) Gj))
def BP:Dj:=⟨[.val AW,.val AF],[⟨4,true,AW⟩,⟨5,true,AF⟩,⟨6,false,.bool⟩],(.R [.box 2 0 false,.box 3 1 false,.al 4 AW,.al 5 AF,.mv 6 .F] [2,3,4,5] (.s (.R [.f 8 3 3,.l 9 8,.cx (some 10) [9,.c (.int .i64 1),.c (.int .i64 10000)] BU,.un 11 .not 10,.m 12 11,.sc 12 false [.f 13 3 5,.l 14 13,.len 15 true 14,.bin 16 .gtr 15 (.i 40)] 17 .V 16,.m 18 17,.sc 18 false [.ls 19 2 3,.cl 20 [19] Mq,.un 21 .not 20] 22 .V 21] [2,3,4,5,22] (.cond 22 (.R [.ls 23 2 3,.bu 24 AF [],.store 4 23 3 false,.store 5 24 6 false,.mv 6 .F] [4,5,6] .e) .k)) Gk))⟩
theorem Lv:D3 Try.prog 182 BP=true:=by kernel_rfl
def Ai:Dj:=⟨[.val (.slice AF),.val (.clo 184 AF)],[⟨4,false,.bool⟩],(.R [.mv 4 .F] [0,1] (.R [.m 5 0,.m 6 1,.cl 7 [5,6] Da,.bin 8 .geq 7 (.i 0),.m 4 8] [4] .e))⟩
theorem DH:D3 Try.prog 183 Ai=true:=by kernel_rfl
def Bk:Dj:=⟨[.val AF,.val AF],[⟨3,false,.bool⟩],(.R [.box 2 0 false,.mv 3 .F] [1,2] (.R [.f 4 2 1,.l 5 4,.f 6 1 1,.l 7 6,.b 8 .eql 5 7,.m 3 8] [3] .e))⟩
theorem GT:D3 Try.prog 184 Bk=true:=by kernel_rfl
def GB:Ab:=(.R [.b 13 .lss 12 11] [5,6,10,11,12,13] (.s (.cond 13 .k (.exit 0)) (.s (.b 1 [5,6,10,11,12] (.R [.idx 14 6 10 12,.ls 15 14 6,.al 8 AF,.store 8 15 6 false] [5,6,8,10,11,12] (.R [.f 16 8 0,.l 17 16,.bin 18 .eql 17 (.i 2),.m 19 18,.sc 19 true [.f 20 8 4,.l 21 20,.m 22 5,.b 23 .gtr 21 22] 24 23 .F] [5,6,8,10,11,12,24] (.cond 24 (.D 6 [(2,[]),(4,[1]),(5,[3,4])] (.tk 6 [.m 6 28,.m 5 26,.l 28 27,.f 27 8 5,.l 26 25,.f 25 8 4] .z) [5,6,10,11,12]) .k)))) (.r [.bin 29 .add 12 (.i 1),.m 12 29] [5,6,10,11,12]))))
def GC:Ab:=(.R [.m 30 6,.m 4 30] [4] .e)
def Ba:Dj:=⟨[.val (.slice AF),.val .str],[⟨4,false,.str⟩],(.R [.mv 4 (.c (.str ⟨#[]⟩))] [0,1] (.R [.m 9 1,.mv 5 (.i 0),.m 6 9] [0,5,6] (.s (.R [.m 10 0,.len 11 false 10,.mv 12 (.i 0)] [5,6,10,11,12] (.b 0 [6] (.loop [5,6,10,11,12] GB))) GC)))⟩
theorem LD:D3 Try.prog 185 Ba=true:=by kernel_rfl
def Bo:Ab:=(.R [.b 9 .lss 8 7] [0,1,7,8,9] (.s (.cond 9 .k (.exit 0)) (.s (.b 1 [0,1,7,8] (.R [.m 10 8,.m 5 10] [0,1,5,7,8] (.R [.m 11 1,.m 12 0,.m 13 5,.idx 14 6 12 13,.ls 15 14 6,.call (some 16) 184 [(.t 15,.val AF),(.t 11,.cap 184 AF)] [.bool]] [0,1,5,7,8,16] (.cond 16 (.R [.m 17 5,.m 4 17] [4] .e) .k)))) (.r [.bin 18 .add 8 (.i 1),.m 8 18] [0,1,7,8]))))
def Bp:Ab:=(.R [.mv 4 (.c (.int .i64 (-1)))] [4] .e)
def AL:Dj:=⟨[.val (.slice AF),.val (.clo 184 AF)],[⟨4,false,.W⟩],(.R [.mv 4 (.i 0)] [0,1] (.s (.R [.m 6 0,.len 7 false 6,.mv 8 (.i 0)] [0,1,7,8] (.b 0 [] (.loop [0,1,7,8] Bo))) Bp))⟩
theorem Dc:D3 Try.prog 189 AL=true:=by kernel_rfl
end
end Go.Proofs.Ytffahmnodgnohaa.Core

namespace Go.Proofs.Ytffahmnodgnohaa.Core
open Go Go.Shelf Go.RowKit Go.Lib
variable {P:Program} {ρ:Ren}
theorem Ps {α:Type} {c:Prop} [Decidable c] {a b r:α} (h:(if c then a else b)=r):(c/\a=r)\/(¬ c/\b=r):=by
 by_cases hc:c
 ·rw [if_pos hc] at h; exact .inl ⟨hc,h⟩
 ·rw [if_neg hc] at h; exact .inr ⟨hc,h⟩
def RU (P:Program) (f:Nat) (args bs rs:List AV):Prop :=
 MX P f/\(∀ r∈rs,r.cells.all AV.nilFree=true)/\∃ n,n+bs.length=rs.length /\
  ∀ (H:HP) (φ:Au) (w:World) (cargs:List Value),SR H φ (Ay bs args) w->AQ (VB H φ (Ay bs args)) (Bb (CW bs) args) cargs ->
   Calls P f cargs.toArray w fun out w'=>match out with
    | .returned v=>Hg H φ w args bs (rs.drop n) (rs.take n) v w'
    | _=>False

structure T0 (P:Program) (ρ:Ren):Prop where
 mixed:P.follows .mixedOrders=true
 f22:Bears P (ρ.f 22) (Body2.n22 ρ)
 ov:∀ args w,(callFunc (ρ.f 29) args).run P w=((Extern.SlicesOverlaps.overlaps #[(ρ.t 24),(ρ.t 24)] #[(ρ.t 4)] args).run P w).andThen fun v w'=>.ok (.value v) w'
 t3:P.underlying (ρ.t 3)=some (TypeDesc.int IntKind.i64)
 a3:∀ w,(isAgg (ρ.t 3)).run P w=.ok false w
 z3:∀ w,(Go.sizeOf (ρ.t 3)).run P w=.ok 1 w
 v3:∀ w,(zeroValue (ρ.t 3)).run P w=.ok (Value.int IntKind.i64 0) w
 t4:P.underlying (ρ.t 4)=some (TypeDesc.bool)
 a4:∀ w,(isAgg (ρ.t 4)).run P w=.ok false w
 z4:∀ w,(Go.sizeOf (ρ.t 4)).run P w=.ok 1 w
 v4:∀ w,(zeroValue (ρ.t 4)).run P w=.ok (Value.bool false) w
 t24:P.underlying (ρ.t 24)=some (TypeDesc.slice (ρ.t 9))
 a24:∀ w,(isAgg (ρ.t 24)).run P w=.ok false w
 z24:∀ w,(Go.sizeOf (ρ.t 24)).run P w=.ok 1 w
 v24:∀ w,(zeroValue (ρ.t 24)).run P w=.ok (Value.slice none 0 0) w
theorem KZ (w:World) (g:Nat) (c:Array Value):(w.setRow g c).heap.size=w.heap.size:=by
 unfold World.setRow
 exact Array.size_modify
theorem SN {w:World} {b o:Nat} {c:Array Value} {t:TypeId} {fz:Nat×Nat} (h:w.heap[b]? = some (.cells c t fz)):w.cell? ⟨b,o,none⟩=c[o]? := by simp [World.cell?,h]
theorem Ok {H:HP} {K:Kd} {xs:List K.T} {f:List Value} (h:Bq H K xs f) (i:Nat):Bq H K (xs.take i) (f.take (i*K.sz)):=by
 intro j x hx
 rw [Aq] at hx
 split at hx
 ·rename_i hj
  have:=h j x hx
  have hle:(j+1)*K.sz<=i*K.sz:=BS _ hj
  rw [Nat.succ_mul] at hle
  rw [List.drop_take,List.take_take,Nat.min_eq_left (by omega)]
  exact this
 ·cases hx
theorem Ol {H:HP} {K:Kd} {xs:List K.T} {f:List Value} (h:Bq H K xs f) (i:Nat):Bq H K (xs.drop i) (f.drop (i*K.sz)):=by
 intro j x hx
 rw [BK] at hx
 have:=h _ x hx
 rw [List.drop_drop,<- Nat.add_mul]
 exact this
theorem Pt {H:HP} {φ:Au} {w w':World} {t:TypeId} {K:Kd} {xs ys:List K.T} {ags:List AV} {v':Value} {flat:List Value} (hst:Ay [] (.new t K xs::ags)=[.rows t K xs])
  (hs:SR H φ (Ay [] (.new t K xs::ags)) w) (hg:w.grownBy w' (Cl (φ 0))) (hb:∀ b,BB v' b->BB (φ 0) b\/w.heap.size<=b)
  (ho:w'.ownsRow 0 t K.sz v' ys.length flat) (hr:Bq H K ys flat):Hg H φ w (.new t K xs::ags) [] [] [.new t K ys] v' w':=by
 have hbx:(Ay [] (.new t K xs::ags))[0]? = some (.rows t K xs):=by rw [hst]; rfl
 have hout:∀ b,BB (φ 0) b->H b=none:=fun b h=>hs.out 0 (.rows t K xs) hbx rfl b h
 have hlt:∀ b o,H b=some o->b<w.heap.size:=fun b o h=>(Array.getElem?_eq_some_iff.1 (hs.hp b o h)).1
 refine ⟨H,fun _=>v',HP.le_refl H,⟨fun b o h=>?_,fun id bx hid=>?_,fun i j bi bj hi hj _ _ hne=>?_,fun i bi hi _ b hv=>?_,fun id cs hid=>?_,hs.tb⟩,⟨hg.os,hg.tape,hg.output,hg.size,fun b hlt hne=>hg.block b hlt (fun e=>hne 0 (by rw [hst]; show 0<1; omega) (.of e.symm)),fun j hj=>by simp at hj,fun i bi hi _ b hv=>?_,fun j hj=>by simp at hj,fun _ _ _=>rfl⟩,⟨(OG ho).symm,rfl⟩⟩
 ·rw [hg.block b (hlt b o h) (fun e=>by rw [hout b (.of e.symm)] at h; cases h)]
  exact hs.hp b o h
 ·cases id with
  | zero=>cases hid; exact AZ.of_flat ho hr
  | succ k=>cases hid
 ·cases i with
  | succ k=>cases hi
  | zero =>
   cases j with
   | succ k=>cases hj
   | zero=>exact absurd rfl hne
 ·cases hh:H b with
  | none=>rfl
  | some o =>
   rcases hb b hv with h | h
   ·rw [hout b h] at hh; cases hh
   ·have:=hlt b o hh; omega
 ·cases id with
  | zero=>cases hid
  | succ k=>cases hid
 ·rcases hb b hv with h | h
  ·exact .inr ⟨0,(by rw [hst]; show 0<1; omega),h⟩
  ·exact .inl h

structure T1 (P:Program) (g:Nat):Prop where
 eg:∀ args w,(callFunc g args).run P w=.ok (.enter g args) w
 says:∀ (n x:Int) (b o:Nat) (W:World),W.cell? ⟨b,o,none⟩=some (.int .i64 n) ->
  Calls P g #[.int .i64 x,.pointer (some ⟨b,o,none⟩)] W fun e w'=>e=.returned (.bool (x==n))/\∃ q,w'=W.drewN q

theorem N7 (w:World) (t e ty:TypeId) (z:Value) (ht:P.underlying t=some (.slice e)) (hz:∀ w,(zeroValue e).run P w=.ok z w) (g o n c:Nat) (cur:Array Value) (te:TypeId) (hg:w.heap[g]? = some (.cells cur te (0,0))) (hn:0<n)
  (hfit:o+n*z.cells.size<=cur.size) (h1:∀ v∈(Builtin.zeroCells z.cells n).toList,v.oneCell'=true) :
  (Builtin.clear_ #[t] ty #[.slice (some ⟨g,o,none⟩) n c]).run P w=.ok (.tuple #[]) (w.setRow g (cur.toList.take o++(Builtin.zeroCells z.cells n).toList++cur.toList.drop (o+(Builtin.zeroCells z.cells n).toList.length)).toArray):=by
 have hl:(Builtin.zeroCells z.cells n).toList.length=n*z.cells.size:=by rw [Array.length_toList,size_zeroCells]
 have hst:=run_storeCells_at P g o te (Builtin.zeroCells z.cells n).toList 0 cur w hg (by rw [hl]; simpa using hfit) h1
 cases n with
 | zero=>omega
 | succ n=>simp [Builtin.clear_,run_underlying ht,hz,hst]
theorem LE {ops:Array Oper} {o:Oper} {a:Act} {w:World} {K:Act->World->Prop} {Q:Exit->Act->World->Prop} {E:Prop}
  (hg:o.guard=none) (d x:Operand) (dT sT:TypeId) (hop:o.op=Op.call { callee:=Callee.builtin Builtin.append,args:=#[d,x],argTypes:=#[dT,sT] })
  (v u:Value) (hd:a.eval d=v) (hx:a.eval x=u) {v':Value} {w':World} (hr:(Builtin.append_ #[dT,sT] o.type #[v,u]).run P w=.ok v' w') (hK:K (a.put o.dst v') w') :
  if Region.wanted o (yielded ops a.tmps)=true then Oper.wp P o a w K Q else E:=by
 have hw:Region.wanted o (yielded ops a.tmps)=true:=by simp [Region.wanted,hg]
 rw [if_pos hw]
 unfold Oper.wp
 simp [execOp,hop,resolve,invoke,builtin,hd,hx,hr,Result.andThen]
 exact hK
theorem Ka (w:World) {ops:Array Oper} {rest:List Oper} {o:Oper} {a:Act} {Q:Exit->Act->World->Prop} (hgd:o.guard=none) (s:Operand) (t:TypeId)
  (ho:o.op=.call { callee:=.builtin .clear,args:=#[s],argTypes:=#[t] }) (v:Value) (hs:a.eval s=v) {v':Value} {w':World}
  (hr:(Builtin.clear_ #[t] o.type #[v]).run P w=.ok v' w') (h:wpList P ops Q rest (a.put o.dst v') w'):wpList P ops Q (o::rest) a w :=
 wpList_plain hgd fun K hK=>by
  unfold Oper.wp execOp
  simp only [ho,resolve,invoke,builtin,Sem.run_bind,Sem.run_pure,Result.andThen_ok,List.map_toArray,List.map_cons,List.map_nil,hs,hr]
  exact hK _ _ h
set_option maxHeartbeats 8000000 in
set_option maxRecDepth 100000 in
theorem Om (L:SlLaysE0.n45 P ρ) (i0:TypeInfo) (size:Nat) (hi:P.info? (ρ.t 23)=some i0) (hz1:i0.size=size) (z23:∀ w,(Go.sizeOf (ρ.t 23)).run P w=.ok size w) (base:Option Addr) (n cap i:Nat) (w:World) (hin:i<=n) (hnc:n<=cap) (hcm:cap<=maxLen) :
  Calls P (ρ.f 45) #[.slice base n cap,.int .i64 i,.int .i64 i] w fun e w'=>e=.returned (.slice base n cap)/\w'=w:=by
 have mixed:=L.mixed; have t0:=L.t0; have a0:=L.a0; have z0:=L.z0; have v0:=L.v0; have t3:=L.t3; have a3:=L.a3; have z3:=L.z3; have v3:=L.v3; have t4:=L.t4; have a4:=L.a4; have z4:=L.z4; have v4:=L.v4; have t22:=L.t22; have a22:=L.a22; have z22:=L.z22; have v22:=L.v22
 obtain ⟨_,_,FG⟩:=L.f45
 go_enter FG,SlBodyN.n45_ntmps ρ
 go_wp2
 all_goals (go_ret; exact ⟨rfl,rfl⟩)
set_option maxHeartbeats 8000000 in
set_option maxRecDepth 100000 in
theorem On (L:SlLaysE0.n45 P ρ) (i0:TypeInfo) (z:Value) (size bytes:Nat) (hi:P.info? (ρ.t 23)=some i0) (hz0:i0.zero=some z) (hz1:i0.size=size) (hzs:z.cells.size=size) (hzo:∀ v∈z.cells.toList,v.oneCell'=true) (hsz:0<size)
  (z23:∀ w,(Go.sizeOf (ρ.t 23)).run P w=.ok size w) (v23:∀ w,(zeroValue (ρ.t 23)).run P w=.ok z w) (g n cap i j:Nat) (cur:Array Value) (w:World) (hg:w.heap[g]? = some (.cells cur (ρ.t 23) (0,0))) (hcs:cur.size=cap*size) (hij:i<j) (hjn:j<=n) (hnc:n<=cap) (hcm:cap<=maxLen)
  (h1:∀ u∈cur.toList.take (n*size),u.oneCell'=true) :
  Calls P (ρ.f 45) #[.slice (some ⟨g,0,none⟩) n cap,.int .i64 i,.int .i64 j] w fun e w'=>e=.returned (.slice (some ⟨g,0,none⟩) (n-(j-i)) cap) /\
   ∃ cur',w'.heap[g]? = some (.cells cur' (ρ.t 23) (0,0))/\cur'.size=cap*size/\cur'.toList.take ((n-(j-i))*size)=cur.toList.take (i*size)++(cur.toList.take (n*size)).drop (j*size)/\w.grownBy w' (some g):=by
 have mixed:=L.mixed; have t0:=L.t0; have a0:=L.a0; have z0:=L.z0; have v0:=L.v0; have t3:=L.t3; have a3:=L.a3; have z3:=L.z3; have v3:=L.v3; have t4:=L.t4; have a4:=L.a4; have z4:=L.z4; have v4:=L.v4; have t22:=L.t22; have a22:=L.a22; have z22:=L.z22; have v22:=L.v22
 have hcm':cap<=9223372036854775807:=hcm
 have hij1:¬ ((i:Int)=(j:Int)):=by omega
 have hb1:(i:Int)<=(j:Int):=by omega
 have hb2:¬ (cap=0):=by omega
 have hb3:(j:Int)<=(n:Int):=by omega
 have hb4:¬ (cap=i):=by omega
 have e4:j*size<=n*size:=BS size hjn
 have e5:n*size<=cur.size:=by rw [hcs]; exact BS size hnc
 have e6:i*size<=j*size:=BS size (by omega)
 have e3:(n-j)*size=n*size-j*size:=Nat.sub_mul n j size
 have e7:(i+(n-j))*size=i*size+(n-j)*size:=Nat.add_mul _ _ size
 have hln:cur.toList.length=cur.size:=Array.length_toList
 have lm:((cur.toList.take (n*size)).drop (j*size)).length=(n-j)*size:=by rw [List.length_drop,List.length_take,hln,e3]; omega
 have hap:∀ (A:Addr) (c:Nat),(A=(⟨g,j*size,none⟩:Addr)\/n=j)->∀ ty,(Builtin.append_ #[(ρ.t 22),(ρ.t 22)] ty #[.slice (some ⟨g,0,none⟩) i cap,.slice (some A) (n-j) c]).run P w.drew=.ok (.slice (some ⟨g,0,none⟩) (i+(n-j)) cap) (w.drew.setRow g (cur.toList.take (i*size)++(cur.toList.take (n*size)).drop (j*size)++cur.toList.drop (i*size+((cur.toList.take (n*size)).drop (j*size)).length)).toArray):=fun A c hA ty=>by
  have:=run_append_room (P:=P) w.drew (ρ.t 22) ty (ρ.t 23) i0 L.t22 hi g i cap cur hg A (n-j) c ((cur.toList.take (n*size)).drop (j*size)) (by rw [lm,hz1]) (fun k u hk=>by
   have hk2:=(AN.1 hk).1
   rw [lm] at hk2
   rcases hA with rfl | rfl
   ·rw [Addr.add_none]
    have h5:w.drew.cell? ⟨g,j*size+k,none⟩=cur[j*size+k]? := SN hg
    rw [h5,<- hk,BK,Aq,if_pos (by omega),Array.getElem?_toList]
   ·simp at hk2) (fun u hu=>h1 u (List.mem_of_mem_drop hu)) (by omega) (by rw [lm,hz1,e3]; omega)
  rw [hz1] at this
  exact this
 obtain ⟨cur1,hcur1⟩:∃ c1,c1=(cur.toList.take (i*size)++(cur.toList.take (n*size)).drop (j*size)++cur.toList.drop (i*size+((cur.toList.take (n*size)).drop (j*size)).length)).toArray:=⟨_,rfl⟩
 rw [<- hcur1] at hap
 have hs1:cur1.size=cap*size:=by
  rw [hcur1,List.size_toArray,<- hcs]
  simp only [List.length_append,List.length_take,List.length_drop,hln,lm]
  omega
 have ht1:cur1.toList.take ((i+(n-j))*size)=cur.toList.take (i*size)++(cur.toList.take (n*size)).drop (j*size):=by
  have l3:(cur.toList.take (i*size)++(cur.toList.take (n*size)).drop (j*size)).length=(i+(n-j))*size:=by
   simp only [List.length_append,List.length_take,hln,lm,e7]
   omega
  rw [hcur1]
  exact (congrArg (fun k=>List.take k _) l3.symm).trans (by rw [List.take_left])
 have hg1:(w.drew.setRow g cur1).heap[g]? = some (.cells cur1 (ρ.t 23) (0,0)):=setRow_heap w.drew g cur cur1 (ρ.t 23) _ hg
 obtain ⟨d,hd⟩:∃ d,d=n-(i+(n-j)):=⟨_,rfl⟩
 have hdp:0<d:=by omega
 have e8:(i+(n-j))*size+d*size<=cur1.size:=by rw [hs1,<- Nat.add_mul]; exact BS size (by omega)
 have hzc:∀ v∈(Builtin.zeroCells z.cells d).toList,v.oneCell'=true:=by
  intro v hv
  simp only [Builtin.zeroCells,Array.toList_map,List.mem_map] at hv
  obtain ⟨k,_,rfl⟩:=hv
  refine hzo _ ?_
  have hk:k % z.cells.size<z.cells.size:=Nat.mod_lt _ (by omega)
  rw [getElem!_pos z.cells _ hk]
  exact Array.getElem_mem_toList hk
 have hcl:∀ ty c,(Builtin.clear_ #[(ρ.t 22)] ty #[.slice (some ⟨g,(i+(n-j))*size,none⟩) (n-(i+(n-j))) c]).run P (w.drew.setRow g cur1)=.ok (.tuple #[]) ((w.drew.setRow g cur1).setRow g (cur1.toList.take ((i+(n-j))*size)++(Builtin.zeroCells z.cells d).toList++cur1.toList.drop ((i+(n-j))*size+(Builtin.zeroCells z.cells d).toList.length)).toArray):=fun ty c=>by
  rw [<- hd]
  exact N7 _ _ (ρ.t 23) ty z L.t22 v23 g _ d c cur1 (ρ.t 23) hg1 hdp (by rw [hzs]; exact e8) hzc
 have lz:(Builtin.zeroCells z.cells d).toList.length=d*size:=by rw [Array.length_toList,size_zeroCells,hzs]
 obtain ⟨cur2,hcur2⟩:∃ c2,c2=(cur1.toList.take ((i+(n-j))*size)++(Builtin.zeroCells z.cells d).toList++cur1.toList.drop ((i+(n-j))*size+(Builtin.zeroCells z.cells d).toList.length)).toArray:=⟨_,rfl⟩
 rw [<- hcur2] at hcl
 have hs2:cur2.size=cap*size:=by
  rw [hcur2,List.size_toArray,<- hs1]
  simp only [List.length_append,List.length_take,List.length_drop,Array.length_toList,lz]
  rw [Array.length_toList] at lz
  omega
 have ht2:cur2.toList.take ((i+(n-j))*size)=cur.toList.take (i*size)++(cur.toList.take (n*size)).drop (j*size):=by
  have l4:(cur1.toList.take ((i+(n-j))*size)).length=(i+(n-j))*size:=by rw [List.length_take,Array.length_toList]; omega
  rw [hcur2,<- ht1,Bs]
  exact (congrArg (fun k=>List.take k _) l4.symm).trans (by rw [List.take_left])
 have hkn:n-(j-i)=i+(n-j):=by omega
 rw [hkn]
 have hW1s:((w.drew.setRow g cur1).setRow g cur2).heap[g]? = some (.cells cur2 (ρ.t 23) (0,0)):=setRow_heap _ g cur1 cur2 _ _ hg1
 have hgr:w.grownBy ((w.drew.setRow g cur1).setRow g cur2) (some g):=by
  refine ⟨rfl,rfl,rfl,by rw [KZ,KZ]; exact Nat.le_refl _,fun k hk hne=>?_⟩
  have hk':k≠g:=fun e=>hne (by rw [e])
  rw [setRow_other _ g k _ hk',setRow_other _ g k _ hk']
  rfl
 obtain ⟨W1,hW1⟩:∃ W1,W1=w.drew.setRow g cur1:=⟨_,rfl⟩
 obtain ⟨W2,hW2⟩:∃ W2,W2=W1.setRow g cur2:=⟨_,rfl⟩
 rw [<- hW1,<- hW2] at hcl hW1s hgr
 rw [<- hW1] at hap
 have hb6:¬ (cap=i+(n-j)):=by omega
 have hb7:i+(n-j)<=n:=by omega
 have hb8:i<=cap:=by omega
 clear e3 e4 e5 e6 e7 e8 hcur1 hcur2 lm hW1 hW2 hd hkn hs1 ht1 hg1 lz
 obtain ⟨A,hAe,hAd⟩:∃ A:Addr,(if cap=j then some (⟨g,0,none⟩:Addr) else some ⟨g,j*size,none⟩)=some A/\(A=(⟨g,j*size,none⟩:Addr)\/n=j):=by
  by_cases h:cap=j
  ·exact ⟨⟨g,0,none⟩,by simp [h],.inr (by omega)⟩
  ·exact ⟨⟨g,j*size,none⟩,by simp [h],.inl rfl⟩
 have hap2:=hap A (cap-j) hAd
 clear hap hAd
 obtain ⟨_,_,FG⟩:=L.f45
 go_enter FG,SlBodyN.n45_ntmps ρ
 go_wp2
 go_region_law_o (refine LE rfl _ _ (ρ.t 22) (ρ.t 22) rfl _ _ (by simp [Act.eval,Act.put]) (by simp [Act.eval,Act.put,hAe]) (hap2 _) ?_)
 go_wp2_with (at_builtin; refine Ka _ rfl _ (ρ.t 22) rfl _ rfl (hcl _ _) ?_)
 go_ret
 exact ⟨rfl,cur2,hW1s,hs2,ht2,hgr⟩
theorem QW {K:Kd} (L:SlLaysE0.n45 P ρ) (he:Qc P (ρ.t 23) K=true) (hp:K.plain=true) {xs:List K.T} {i j:Nat} (hij:i<=j) (hj:j<=xs.length) :
  RU P (ρ.f 45) [.new (ρ.t 23) K xs,.int .i64 i,.int .i64 j] [] [.new (ρ.t 23) K (xs.take i++xs.drop j)]:=by
 obtain ⟨i0,z,hi0,hz,h1,h2,h3,h4⟩:=KE he
 have hsz:=Kd.sz_pos K
 have z23:∀ w,(Go.sizeOf (ρ.t 23)).run P w=.ok K.sz w:=fun w=>by simp [sizeOf,typeInfo,hi0,h1]
 have v23:∀ w,(zeroValue (ρ.t 23)).run P w=.ok z w:=fun w=>by simp [zeroValue,typeInfo,hi0,hz]
 refine ⟨?_,?_,1,rfl,fun H φ w cargs hs ha=>?_⟩
 ·obtain ⟨nm,hnm,hf⟩:=L.f45
  exact ⟨_,_,hf,hnm,rfl⟩
 ·intro r hr
  simp only [EA] at hr
  subst hr
  rfl
 ·obtain ⟨v0,r0,rfl,hv0,ha⟩:=ha
  obtain ⟨v1,r1,rfl,hv1,ha⟩:=ha
  obtain ⟨v2,r2,rfl,hv2,ha⟩:=ha
  have hr2:r2=[]:=ha
  subst hr2
  obtain ⟨flat,ho,hr⟩:=AZ.flat (Kd.plain_ok hp) (hs.box 0 (.rows (ρ.t 23) K xs) rfl)
  have e0:v0=φ 0:=hv0.1.trans (OG ho)
  have e1:v1=.int .i64 i:=hv1
  have e2:v2=.int .i64 j:=hv2
  subst e0 e1 e2
  have hnew:(xs.take i++xs.drop j).length=xs.length-(j-i):=by simp only [List.length_append,List.length_take,List.length_drop]; omega
  have hstk:Ay [] [AV.new (ρ.t 23) K xs,.int .i64 i,.int .i64 j]=[.rows (ρ.t 23) K xs]:=rfl
  by_cases hlt:i=j
  ·subst hlt
   obtain ⟨base,n,cap,e0,hnn,hcap,hcm⟩:∃ base n cap,φ 0=.slice base n cap/\n=xs.length/\n<=cap/\cap<=maxLen:=by
    rcases ho.2 with ⟨e,h⟩ | ⟨g,cap,cur,e,_,_,hc,hm,_⟩
    ·exact ⟨none,0,0,e,h.symm,Nat.le_refl _,Nat.zero_le _⟩
    ·exact ⟨_,_,_,e,rfl,hc,hm⟩
   subst hnn
   rw [e0]
   refine Calls.mono (Om L i0 K.sz hi0 h1 z23 base _ cap i w hj hcap hcm) fun out w' h=>?_
   obtain ⟨rfl,rfl⟩:=h
   refine Pt hstk hs ⟨rfl,rfl,rfl,Nat.le_refl _,fun _ _ _=>rfl⟩ (fun b hb=>.inl (by rw [e0]; exact hb)) (flat:=flat) ?_ ?_
   ·rw [List.take_append_drop,<- e0]; exact ho
   ·rw [List.take_append_drop]; exact hr
  ·obtain ⟨g,cap,cur,e0,_,hg,hc,hcm,hsc,ht⟩:=ho.2.resolve_left (fun h=>by omega)
   rw [e0]
   have hzo:∀ v∈z.cells.toList,v.oneCell'=true:=IH (h4.plain (Kd.plain_ok hp) H)
   refine Calls.mono (On L i0 z K.sz i0.bytes hi0 hz h1 h3 hzo hsz z23 v23 g xs.length cap i j cur w hg hsc (by omega) hj hc hcm (by rw [ht]; exact II hr ho.1)) fun out w' h=>?_
   obtain ⟨rfl,cur',g1,g2,g3,g4⟩:=h
   have htk:cur.toList.take (i*K.sz)=flat.take (i*K.sz):=by
    rw [<- ht,List.take_take,Nat.min_eq_left (BS _ (by omega))]
   have l1:(flat.take (i*K.sz)).length=(xs.take i).length*K.sz:=by
    have h5:=ho.1
    have h7:i*K.sz<=xs.length*K.sz:=BS _ (by omega)
    rw [List.length_take,List.length_take,Nat.min_eq_left (show i<=xs.length by omega),h5]; omega
   have l2:(flat.drop (j*K.sz)).length=(xs.drop j).length*K.sz:=by rw [List.length_drop,List.length_drop,ho.1,Nat.sub_mul]
   refine Pt hstk hs (by rw [e0]; exact g4) (fun b hb=>.inl (by rw [e0]; exact hb)) (flat:=flat.take (i*K.sz)++flat.drop (j*K.sz)) ?_ (Gx (Ok hr i) l1 (Ol hr j))
   rw [hnew]
   refine ⟨?_,.inr ⟨g,cap,cur',rfl,Nat.zero_le _,g1,by omega,hcm,g2,by rw [g3,htk,ht]⟩⟩
   rw [List.length_append,l1,l2,<- Nat.add_mul,<- hnew,List.length_append]
def RV (t:TypeId) (K:Kd) (args bs:List AV):Option (List AV) :=
 match args,bs with
 | [.new t1 K1 xs,.int k i,.int k2 j],[]=>if h1:K1=K then (if t1=t/\k=.i64/\k2=.i64/\0<=i/\i<=j/\j<=xs.length then
   some [.new t K ((h1▸xs).take i.toNat++(h1▸xs).drop j.toNat)] else none) else none
 | _,_=>none
theorem SO {t:TypeId} {K:Kd} {xs:List K.T} {i j:Nat} (hi:i<=j) (hj:j<=xs.length):RV t K [.new t K xs,.int .i64 i,.int .i64 j] []=some [.new t K (xs.take i++xs.drop j)]:=by
 have h0:(0:Int)<=(i:Int):=by omega
 have h1:(i:Int)<=(j:Int):=by omega
 have h2:(j:Int)<=(xs.length:Int):=by omega
 simp only [RV,dif_pos,true_and]
 rw [if_pos ⟨h0,h1,h2⟩,Fw,Fw]
theorem SP {K:Kd} (L:SlLaysE0.n45 P ρ) (he:Qc P (ρ.t 23) K=true) (hp:K.plain=true) {args bs rs:List AV} (h:RV (ρ.t 23) K args bs=some rs):RU P (ρ.f 45) args bs rs:=by
 unfold RV at h
 split at h
 ·split at h
  ·rename_i hk
   subst hk
   split at h
   ·rename_i hc
    obtain ⟨rfl,rfl,rfl,h0,hij,hj⟩:=hc
    cases h
    rename_i i _ j _
    obtain ⟨a,rfl⟩:=Int.eq_ofNat_of_zero_le h0
    obtain ⟨b,rfl⟩:=Int.eq_ofNat_of_zero_le (Int.le_trans h0 hij)
    exact QW L he hp (by omega) (by omega)
   ·cases h
  ·cases h
 ·cases h
end Go.Proofs.Ytffahmnodgnohaa.Core

namespace Go.Proofs.Ytffahmnodgnohaa.Core
open Go IntKind
set_option maxRecDepth 100000
noncomputable section
def SQ:Go.Shelf.Ren:=⟨fun | 45=>155 | n=>n,fun | 22=>63 | 23=>183 | n=>n,fun | n=>n⟩
theorem RW:SlLaysE0.n45 Try.prog SQ:={
 mixed:=by kernel_rfl
 f45:=⟨Try.f155.name,by decide,Try.func155.trans (congrArg some (by kernel_rfl))⟩
 t0:=Try.underlying0
 a0:=Try.isAgg0
 z0:=Try.sizeOf0
 v0:=Try.zeroValue0
 t3:=Try.underlying3
 a3:=Try.isAgg3
 z3:=Try.sizeOf3
 v3:=Try.zeroValue3
 t4:=Try.underlying4
 a4:=Try.isAgg4
 z4:=Try.sizeOf4
 v4:=Try.zeroValue4
 t22:=Try.underlying63
 a22:=Try.isAgg63
 z22:=Try.sizeOf63
 v22:=Try.zeroValue63 }
theorem S9:Qc Try.prog 183 AF=true:=by kernel_rfl

def TS:List (Nat×Dj):=[(9,BL),(21,Ho),(27,BT),(38,BA),(47,AU),(48,BX),(51,Ex),(55,C0),(79,By),(82,EZ),(85,ED),(87,Ea),(93,Bj),(124,Cb),(125,Ey),(126,CR),(148,At),(154,BR),(156,BY),(169,BW),(170,Ct),(171,BN),(172,BZ),(182,BP),(183,Ai),(184,Bk),(185,Ba),(189,AL)]
def I5 (f:Nat):Option Dj:=SM f TS
theorem Ts:RJ Try.prog I5:=QV (.cons LB <| .cons PO <| .cons KW <| .cons KX <| .cons KY <| .cons LC <| .cons NB <| .cons Mr <| .cons NC <| .cons Ms <| .cons Lt <| .cons Mt <| .cons GS <| .cons Lu <| .cons ND <| .cons IA <| .cons Hp <| .cons Hq <| .cons IU <| .cons Ji <| .cons I4 <| .cons HK <| .cons IV <| .cons Lv <| .cons DH <| .cons GT <| .cons LD <| .cons Dc .nil)
def Ce:CQ:=fun f args bs=>if f=155 then RV 183 AF args bs else none
theorem SS:C_ Try.prog Ce:=by
 refine ⟨fun f k t T hf h=>?_,fun f args bs rs hf h=>?_⟩<;>unfold Ce at h
 ·rcases Ps h with ⟨e,h⟩ | ⟨_,h⟩
  ·exfalso; unfold Bh at e; omega
  cases h
 ·rcases Ps h with ⟨e,h⟩ | ⟨_,h⟩
  ·subst e; exact SP RW S9 rfl h
  cases h
abbrev cP:CQ:=N6 I5 Ce
def cG {ρ:Type} (c:Ab) (kn kr:St->Option ρ) (ke:Nat->St->Option ρ):St->Option ρ:=Cy cP EM c kn kr ke
def lG {ρ:Type} (c:Ab) (hs:List (Nat×Nat)) (l:List Nat) (n:Nat) (kr:St->Option ρ) (ke:Nat->St->Option ρ):St->Option ρ:=EM fun go s'=>Cy cP EM c (fun s''=>go (s''.cutH hs l n)) kr ke s'
def kB {ρ:Type} (hs:List (Nat×Nat)) (l:List Nat) (n:Nat) (kn:St->Option ρ):St->Option ρ:=fun s=>kn (s.cutH hs l n)
def kE {ρ:Type} (b:Nat) (hs:List (Nat×Nat)) (l:List Nat) (n:Nat) (kn:St->Option ρ) (ke:Nat->St->Option ρ):Nat->St->Option ρ:=fun i s=>if i=b then kn (s.cutH hs l n) else ke i s
def kx {ρ:Type}:Nat->St->Option ρ:=fun _ _=>none
def cF (f:Nat) (a:Dj) (x b:List AV):Option (RT a.outs):=(cP f x b).bind (CI a.outs)
theorem cT (a:Dj) {f:Nat} {x b:List AV} {t:Option (RT a.outs)} {r:RT a.outs} (hf:I5 f=some a) (hl:x.length=a.params.length/\b.length=(Bz a.params 0).length) (e:RR cP a x b=t) (h:t=some r):cF f a x b=some r:=PM hf hl (e.trans h)
theorem jS {ρ:Type} {t w:Option ρ} {r:ρ} (e:w=t) (h:t=some r):w=some r:=e.trans h
theorem lS {ρ:Type} {c:Ab} {hs:List (Nat×Nat)} {l:List Nat} {n:Nat} {kr:St->Option ρ} {ke:Nat->St->Option ρ} {s:St} {t:Option ρ} {r:ρ} (e:Cy cP EM c (fun s=>lG c hs l n kr ke (s.cutH hs l n)) kr ke s=t) (h:t=some r):lG c hs l n kr ke s=some r:=QS (e.trans h)
def HL (x0:List Int):Option Bool:=cF 9 BL [.lst (.int .u8) x0] []
def Jj (x0:List Int):Option Bool:=cF 21 Ho [.lst (.int .u8) x0] []
def Ed (x0:List Int):Option (List Int):=cF 27 BT [.lst (.int .u8) x0] []
def Ee (x0 x1:Int):Option (AB×Bool):=cF 38 BA [.int .i64 x0,.int .i64 x1] []
def DV (x0 x1:Int) (x2:List A_):Option (AB×List Int×Bool):=cF 47 AU [.int .i64 x0,.int .i64 x1,.lst Aw x2] []
def C1 (x0 x1:List ByteArray):Option Bool:=cF 48 BX [.lst .str x0,.lst .str x1] []
def Ez (x0:Int):Option Int:=cF 51 Ex [.int .i64 x0] []
def GD (x0:AJ):Option Bool:=cF 55 C0 [.agg (AW.enc x0)] []
def G1 (x0:List Int):Option CC:=cF 79 By [.lst (.int .u8) x0] []
def BH (x0 x1 x2:Int):Option Bool:=cF 82 EZ [.int .i64 x0,.int .i64 x1,.int .i64 x2] []
def FU (x1:Int) (b0:CC):Option (Int×CC):=cF 85 ED [.ptr 0 0,.int .i64 x1] [.agg (D4.enc b0)]
def B4 (b0:CC):Option (Int×CC):=cF 87 Ea [.ptr 0 0] [.agg (D4.enc b0)]
def CY (x0:List Int) (x1:Int):Option Bool:=cF 93 Bj [.lst .W x0,.int .i64 x1] []
def FV (x0:A_) (x1:Int):Option Bool:=cF 124 Cb [.agg (Aw.enc x0),.int .i64 x1] []
def G2 (x0:Bool):Option Int:=cF 125 Ey [.bool x0] []
def CS (x1:A_) (b0:AB):Option (Bool×AB):=cF 126 CR [.ptr 0 0,.agg (Aw.enc x1)] [.agg [.new 94 AW b0.1,.new 89 Ac b0.2.1,.new 183 AF b0.2.2.1,.new 9 .str b0.2.2.2]]
def DA (x0:List Int) (x1:Int):Option Int:=cF 148 At [.lst .W x0,.int .i64 x1] []
def DB (x1:A_) (b0:AB):Option (Bool×AB):=cF 154 BR [.ptr 0 0,.agg (Aw.enc x1)] [.agg [.new 94 AW b0.1,.new 89 Ac b0.2.1,.new 183 AF b0.2.2.1,.new 9 .str b0.2.2.2]]
def Cf (x1:U) (b0:AB):Option (Bool×AB):=cF 156 BY [.ptr 0 0,.agg (AF.enc x1)] [.agg [.new 94 AW b0.1,.new 89 Ac b0.2.1,.new 183 AF b0.2.2.1,.new 9 .str b0.2.2.2]]
def DC (x1:Nat) (x2:Int) (x3:ByteArray) (b0:AB):Option AB:=cF 169 BW [.ptr 0 0,.eptr 2 x1 0,.int .i64 x2,.str x3] [.agg [.new 94 AW b0.1,.new 89 Ac b0.2.1,.new 183 AF b0.2.2.1,.new 9 .str b0.2.2.2]]
def Cu (x1:U) (b0:AB):Option (Bool×AB):=cF 170 Ct [.ptr 0 0,.agg (AF.enc x1)] [.agg [.new 94 AW b0.1,.new 89 Ac b0.2.1,.new 183 AF b0.2.2.1,.new 9 .str b0.2.2.2]]
def B8 (x1:Nat) (x2:U) (b0:AB):Option (Bool×AB):=cF 171 BN [.ptr 0 0,.eptr 2 x1 0,.agg (AF.enc x2)] [.agg [.new 94 AW b0.1,.new 89 Ac b0.2.1,.new 183 AF b0.2.2.1,.new 9 .str b0.2.2.2]]
def Cg (x1:Nat) (x2:U) (b0:AB):Option (Bool×AB):=cF 172 BZ [.ptr 0 0,.eptr 2 x1 0,.agg (AF.enc x2)] [.agg [.new 94 AW b0.1,.new 89 Ac b0.2.1,.new 183 AF b0.2.2.1,.new 9 .str b0.2.2.2]]
def FW (x0:AJ) (x1:U):Option (AJ×U×Bool):=cF 182 BP [.agg (AW.enc x0),.agg (AF.enc x1)] []
def BI (x0:List U) (x1:U):Option Bool:=cF 183 Ai [.lst AF x0,.clo 184 AF x1] []
def CZ (x0 x1:U):Option Bool:=cF 184 Bk [.agg (AF.enc x0),.fptr [.int .i64 x1.1,.int .i64 x1.2.1,.int .i64 x1.2.2.1,.int .i64 x1.2.2.2.1,.int .i64 x1.2.2.2.2.1,.str x1.2.2.2.2.2] 0] []
def Ep (x0:List U) (x1:ByteArray):Option ByteArray:=cF 185 Ba [.lst AF x0,.str x1] []
def BO (x0:List U) (x1:U):Option Int:=cF 189 AL [.lst AF x0,.clo 184 AF x1] []
def BV (q0:List U) (q1 q2:Int):Option (List U):=(cP 155 [.new 183 AF q0,.int .i64 q1,.int .i64 q2] []).bind (CI [(.own 183 AF)])
theorem D9 {x0:List U} {i j:Nat} (hi:i<=j) (hj:j<=x0.length):BV x0 (i:Int) (j:Int)=some (x0.take i++x0.drop j):=by
 unfold BV cP
 rw [QT (r:=[.new 183 AF (x0.take i++x0.drop j)]) rfl (SO (t:=183) (K:=AF) (xs:=x0) hi hj)]
 rfl

def Jk:=cG EF (BQ BL) (BQ BL) kx
def Jl:=kE 0 [(4,0)] [3,4] 1 Jk kx
def I6:St->Option (RT (Dj.outs BL)):=lG F9 [(4,0)] [3,4,5] 1 (BQ BL) Jl
def Dy (x0:Int) (x1:List A_):Option Bool:=cG EF (BQ BL) (BQ BL) kx ⟨[(3,.int .i64 x0),(4,.row 0)],[.rows 83 Aw x1]⟩
def Cv (x0 x1:Int) (x2:List A_):Option Bool:=I6 ⟨[(3,.int .i64 x0),(4,.row 0),(5,.int .i64 x1)],[.rows 83 Aw x2]⟩
def Fe (x0:Int) (x1:List A_):Option Bool:=((DV x0 1 x1).bind fun y3=>(if y3.2.2=true then ((C1 y3.1.2.2.2 ([(⟨#[105,116]⟩:ByteArray)]:List ByteArray)).bind fun y4=>(if y4=true then (if 0<=(0:Int) then (if 0<(y3.1.2.1.length:Int) then (if (((((((y3.1.2.1.getD ((0:Int).toNat) (0,0,AE,([]:List U),false,([]:List Int),false)).2).2).2).2).2).2)=true then (if 0<=(0:Int) then (if 0<(y3.1.2.1.length:Int) then (some ((((y3.1.2.1.getD ((0:Int).toNat) (0,0,AE,([]:List U),false,([]:List Int),false)).2).1)==1)) else none) else none) else (some false)) else none) else none) else (some false))) else (some false)))
def Dz (x0 x1:Int) (x2:List A_):Option Bool:=(if (decide (x1<(i64.wrap (5*x0))))=true then (if x2.length+([(2,1,0,AE)]:List A_).length<=68719476736 then (Cv x0 (i64.wrap (x1+1)) (x2++([(2,1,0,AE)]:List A_))) else none) else (Dy x0 x2))
def HM (x0:List Int):Option Bool:=((Jj x0).bind fun y1=>(if y1=true then (some true) else ((Ed x0).bind fun y2=>(if 0<=(0:Int) then (if 0<(y2.length:Int) then (if 5=0 then none else (Cv (i64.wrap (1+(Int.tmod (y2.getD (0:Int).toNat 0) 5))) 0 ([(1,1,0,(⟨#[105,116]⟩:ByteArray))]:List A_))) else none) else none))))
theorem I7:N9 Fe Dy:=jS (by kernel_rfl)
theorem Ff:Sb Dz Cv:=lS (by kernel_rfl)
theorem LF:Sa HM HL:=cT BL rfl ⟨rfl,rfl⟩ (by kernel_rfl)
def PP (x0:List Int):Option Bool:=(some (decide ((x0.length:Int)>1048576)))
theorem PQ:Sa PP Jj:=cT Ho rfl ⟨rfl,rfl⟩ (by kernel_rfl)
def I8:=cG FZ (BQ BT) (BQ BT) kx
def I9:=kE 0 [(4,1)] [4] 2 I8 kx
def IW:St->Option (RT (Dj.outs BT)):=lG FY [(4,1)] [3,4,5] 2 (BQ BT) I9
def Ch (x0:Int) (x1:CC) (x2:List Int):Option (List Int):=IW ⟨[(3,.ptr 0 0),(4,.row 1),(5,.int .i64 x0)],[.var (D4.enc x1),.rows 3 .W x2]⟩
def Dd (x0:Int) (x1:CC) (x2:List Int):Option (List Int):=(if (decide (x0<12))=true then ((FU 10000 x1).bind fun y3=>(if x2.length+([y3.1]:List Int).length<=68719476736 then (Ch (i64.wrap (x0+1)) y3.2 (x2++([y3.1]:List Int))) else none)) else (some x2))
def Gl (x0:List Int):Option (List Int):=((G1 x0).bind fun y1=>((B4 y1).bind fun y2=>(Ch 0 y2.2 ([]:List Int))))
theorem FD:Sb Dd Ch:=lS (by kernel_rfl)
theorem Kb:Sa Gl Ed:=cT BT rfl ⟨rfl,rfl⟩ (by kernel_rfl)
def I_:=cG Fb (BQ BA) (BQ BA) kx
def JA:=kE 0 [] [4,6] 15 I_ kx
def IX:St->Option (RT (Dj.outs BA)):=lG Fa [] [4,6,20,21] 15 (BQ BA) JA
def Ci (x0 x1:Int) (x2:List AJ) (x3:List AH) (x4:List U) (x5:List ByteArray) (x6 x7:List AJ) (x8:List AH) (x9:List U) (x10:List ByteArray):Option (AB×Bool):=IX ⟨[(4,.ptr 4 0),(6,.ptr 14 0),(20,.int .i64 x0),(21,.int .i64 x1)],[.rows 94 AW x2,.rows 89 Ac x3,.rows 183 AF x4,.rows 9 .str x5,.var [.row 0,.row 1,.row 2,.row 3],.dead,.rows 94 AW x6,.dead,.dead,.dead,.rows 94 AW x7,.rows 89 Ac x8,.rows 183 AF x9,.rows 9 .str x10,.var [.row 10,.row 11,.row 12,.row 13]]⟩
def FE (x0 x1:Int) (x2:Bool) (x3:List AJ) (x4:List AH) (x5:List U) (x6:List ByteArray):Option (AB×Bool):=cG Fc (BQ BA) (BQ BA) kx ⟨[(0,.int .i64 x0),(1,.int .i64 x1),(4,.ptr 4 0),(15,.bool x2)],[.rows 94 AW x3,.rows 89 Ac x4,.rows 183 AF x5,.rows 9 .str x6,.var [.row 0,.row 1,.row 2,.row 3]]⟩
def De (x0 x1:Int) (x2:List AJ) (x3:List AH) (x4:List U) (x5:List ByteArray) (x6 x7:List AJ) (x8:List AH) (x9:List U) (x10:List ByteArray):Option (AB×Bool):=(if (decide (x1<x0))=true then (if x8.length+([((i64.wrap (x1+1)),0,AE,([]:List U),false,([]:List Int),false)]:List AH).length<=68719476736 then (Ci x0 (i64.wrap (x1+1)) x2 x3 x4 x5 x6 x7 (x8++([((i64.wrap (x1+1)),0,AE,([]:List U),false,([]:List Int),false)]:List AH)) x9 x10) else none) else (some ((x7,x8,x9,x10),true)))
def FF (x0 x1:Int) (x2:Bool) (x3:List AJ) (x4:List AH) (x5:List U) (x6:List ByteArray):Option (AB×Bool):=(if 0<=x0 then (if x0<=68719476736 then (Ci x1 0 x3 x4 x5 x6 ([]:List AJ) (List.replicate x0.toNat (0,0,AE)) ([]:List AH) ([]:List U) ([]:List ByteArray)) else none) else none)
def Gm (x0 x1:Int):Option (AB×Bool):=((BH x0 1 5).bind fun y1=>(if (!y1)=false then ((BH x1 1 4).bind fun y2=>(if (!y2)=true then (some ((([]:List AJ),([]:List AH),([]:List U),([]:List ByteArray)),false)) else (FE x0 x1 (!y2) ([]:List AJ) ([]:List AH) ([]:List U) ([]:List ByteArray)))) else (some ((([]:List AJ),([]:List AH),([]:List U),([]:List ByteArray)),false))))
theorem FH:Tp De Ci:=lS (by kernel_rfl)
theorem IY:Tn FF FE:=jS (by kernel_rfl)
theorem Kc:N9 Gm Ee:=cT BA rfl ⟨rfl,rfl⟩ (by kernel_rfl)
def JB:=cG FA (BQ AU) (BQ AU) kx
def JC:=kE 2 [(13,15)] [6,9,13] 16 JB kx
def IZ:St->Option (RT (Dj.outs AU)):=lG E_ [(13,15)] [6,9,13,42,43,44] 16 (BQ AU) JC
def JD:=cG Db (BQ AU) (BQ AU) kx
def JE:=kE 0 [] [2,6,9] 15 JD kx
def Ia:St->Option (RT (Dj.outs AU)):=lG Fd [] [1,2,6,9,30,31,32] 15 (BQ AU) JE
def Cj (x0:List A_) (x1 x2:Int) (x3:List AJ) (x4:List AH) (x5:List U) (x6:List ByteArray) (x7:List Int) (x8:List AJ) (x9:List AH) (x10:List U) (x11:List ByteArray) (x12:List Int):Option (AB×List Int×Bool):=IZ ⟨[(6,.ptr 4 0),(9,.ptr 14 0),(13,.row 15),(42,.lst Aw x0),(43,.int .i64 x1),(44,.int .i64 x2)],[.rows 94 AW x3,.rows 89 Ac x4,.rows 183 AF x5,.rows 9 .str x6,.var [.row 0,.row 1,.row 2,.row 3],.rows 3 .W x7,.dead,.dead,.dead,.dead,.rows 94 AW x8,.rows 89 Ac x9,.rows 183 AF x10,.rows 9 .str x11,.var [.row 10,.row 11,.row 12,.row 13],.rows 3 .W x12]⟩
def FI (x0:List A_) (x1:List AJ) (x2:List AH) (x3:List U) (x4:List ByteArray) (x5:List Int) (x6:List AJ) (x7:List AH) (x8:List U) (x9:List ByteArray):Option (AB×List Int×Bool):=cG Db (BQ AU) (BQ AU) kx ⟨[(2,.lst Aw x0),(6,.ptr 4 0),(9,.ptr 14 0)],[.rows 94 AW x1,.rows 89 Ac x2,.rows 183 AF x3,.rows 9 .str x4,.var [.row 0,.row 1,.row 2,.row 3],.rows 3 .W x5,.dead,.dead,.dead,.dead,.rows 94 AW x6,.rows 89 Ac x7,.rows 183 AF x8,.rows 9 .str x9,.var [.row 10,.row 11,.row 12,.row 13]]⟩
def Ck (x0:Int) (x1 x2:List A_) (x3 x4:Int) (x5:List AJ) (x6:List AH) (x7:List U) (x8:List ByteArray) (x9:List Int) (x10:List AJ) (x11:List AH) (x12:List U) (x13:List ByteArray):Option (AB×List Int×Bool):=Ia ⟨[(1,.int .i64 x0),(2,.lst Aw x1),(6,.ptr 4 0),(9,.ptr 14 0),(30,.lst Aw x2),(31,.int .i64 x3),(32,.int .i64 x4)],[.rows 94 AW x5,.rows 89 Ac x6,.rows 183 AF x7,.rows 9 .str x8,.var [.row 0,.row 1,.row 2,.row 3],.rows 3 .W x9,.dead,.dead,.dead,.dead,.rows 94 AW x10,.rows 89 Ac x11,.rows 183 AF x12,.rows 9 .str x13,.var [.row 10,.row 11,.row 12,.row 13]]⟩
def FJ (x0:Int) (x1:List A_) (x2:Bool) (x3:List AJ) (x4:List AH) (x5:List U) (x6:List ByteArray) (x7:List Int) (x8:List AJ) (x9:List AH) (x10:List U) (x11:List ByteArray):Option (AB×List Int×Bool):=cG FB (BQ AU) (BQ AU) kx ⟨[(1,.int .i64 x0),(2,.lst Aw x1),(6,.ptr 4 0),(9,.ptr 14 0),(28,.bool x2)],[.rows 94 AW x3,.rows 89 Ac x4,.rows 183 AF x5,.rows 9 .str x6,.var [.row 0,.row 1,.row 2,.row 3],.rows 3 .W x7,.dead,.dead,.dead,.dead,.rows 94 AW x8,.rows 89 Ac x9,.rows 183 AF x10,.rows 9 .str x11,.var [.row 10,.row 11,.row 12,.row 13]]⟩
def Df (x0:List A_) (x1 x2:Int) (x3:List AJ) (x4:List AH) (x5:List U) (x6:List ByteArray) (x7:List Int) (x8:List AJ) (x9:List AH) (x10:List U) (x11:List ByteArray) (x12:List Int):Option (AB×List Int×Bool):=(if (decide (x2<x1))=true then (if 0<=x2 then (if x2<(x0.length:Int) then ((CS (x0.getD x2.toNat (0,0,0,AE)) (x8,x9,x10,x11)).bind fun y3=>((G2 y3.1).bind fun y4=>(if x12.length+([y4]:List Int).length<=68719476736 then (Cj x0 x1 (i64.wrap (x2+1)) x3 x4 x5 x6 x7 y3.2.1 y3.2.2.1 y3.2.2.2.1 y3.2.2.2.2 (x12++([y4]:List Int))) else none))) else none) else none) else (some ((x8,x9,x10,x11),x12,true)))
def FK (x0:List A_) (x1:List AJ) (x2:List AH) (x3:List U) (x4:List ByteArray) (x5:List Int) (x6:List AJ) (x7:List AH) (x8:List U) (x9:List ByteArray):Option (AB×List Int×Bool):=(Cj x0 (x0.length:Int) 0 x1 x2 x3 x4 x5 x6 x7 x8 x9 ([]:List Int))
def Dg (x0:Int) (x1 x2:List A_) (x3 x4:Int) (x5:List AJ) (x6:List AH) (x7:List U) (x8:List ByteArray) (x9:List Int) (x10:List AJ) (x11:List AH) (x12:List U) (x13:List ByteArray):Option (AB×List Int×Bool):=(if (decide (x4<x3))=true then (if 0<=x4 then (if x4<(x2.length:Int) then ((FV (x2.getD x4.toNat (0,0,0,AE)) x0).bind fun y2=>(if (!y2)=true then (some ((([]:List AJ),([]:List AH),([]:List U),([]:List ByteArray)),([]:List Int),false)) else (Ck x0 x1 x2 x3 (i64.wrap (x4+1)) x5 x6 x7 x8 x9 x10 x11 x12 x13))) else none) else none) else (FI x1 x5 x6 x7 x8 x9 x10 x11 x12 x13))
def FM (x0:Int) (x1:List A_) (x2:Bool) (x3:List AJ) (x4:List AH) (x5:List U) (x6:List ByteArray) (x7:List Int) (x8:List AJ) (x9:List AH) (x10:List U) (x11:List ByteArray):Option (AB×List Int×Bool):=(Ck x0 x1 x1 (x1.length:Int) 0 x3 x4 x5 x6 x7 x8 x9 x10 x11)
def Gn (x0 x1:Int) (x2:List A_):Option (AB×List Int×Bool):=((Ee x0 x1).bind fun y1=>(if (!y1.2)=false then (if (decide ((x2.length:Int)>80))=true then (some ((([]:List AJ),([]:List AH),([]:List U),([]:List ByteArray)),([]:List Int),false)) else (FJ x1 x2 (decide ((x2.length:Int)>80)) ([]:List AJ) ([]:List AH) ([]:List U) ([]:List ByteArray) ([]:List Int) y1.1.1 y1.1.2.1 y1.1.2.2.1 y1.1.2.2.2)) else (some ((([]:List AJ),([]:List AH),([]:List U),([]:List ByteArray)),([]:List Int),false))))
theorem FN:Tq Df Cj:=lS (by kernel_rfl)
theorem Ib:To FK FI:=jS (by kernel_rfl)
theorem FO:Tr Dg Ck:=lS (by kernel_rfl)
theorem Ic:TR FM FJ:=jS (by kernel_rfl)
theorem Ke:Sb Gn DV:=cT AU rfl ⟨rfl,rfl⟩ (by kernel_rfl)
def Jm:=cG GA (BQ BX) (BQ BX) kx
def Jn:=kE 0 [] [] 0 Jm kx
def JF:St->Option (RT (Dj.outs BX)):=lG F_ [] [0,1,5] 0 (BQ BX) Jn
def Cw (x0 x1:List ByteArray) (x2:Int):Option Bool:=JF ⟨[(0,.lst .str x0),(1,.lst .str x1),(5,.int .i64 x2)],[]⟩
def D0 (x0 x1:List ByteArray) (x2:Int):Option Bool:=(if (decide (x2<(x0.length:Int)))=true then (if 0<=x2 then (if x2<(x0.length:Int) then (if 0<=x2 then (if x2<(x1.length:Int) then (if (!((x0.getD x2.toNat AE).toList==(x1.getD x2.toNat AE).toList))=true then (some false) else (Cw x0 x1 (i64.wrap (x2+1)))) else none) else none) else none) else none) else (some true))
def HN (x0 x1:List ByteArray):Option Bool:=(if ((x0.length:Int) != (x1.length:Int))=true then (some false) else (Cw x0 x1 0))
theorem Fg:Sb D0 Cw:=lS (by kernel_rfl)
theorem LG:N9 HN C1:=cT BX rfl ⟨rfl,rfl⟩ (by kernel_rfl)
def JU (x0:Int):Option Int:=(if (decide (x0<0))=true then (some 0) else (if 2=0 then none else (some (i64.wrap ((i64.wrap (Int.tdiv x0 2))+1)))))
theorem NE:Sa JU Ez:=cT Ex rfl ⟨rfl,rfl⟩ (by kernel_rfl)
def Ef (x0:Bool) (x1:AJ):Option Bool:=cG HJ (BQ C0) (BQ C0) kx ⟨[(1,.ptr 0 0),(20,.bool x0)],[.var (AW.enc x1)]⟩
def Gp (x0:Bool) (x1:AJ):Option Bool:=(if (decide (x1.2.1>0))=false then (some (x1.2.2.toList==(⟨#[]⟩:ByteArray).toList)) else (some true))
def Id (x0:AJ):Option Bool:=((BH x0.1 0 10000).bind fun y1=>(if (!y1)=false then ((BH x0.2.1 0 x0.1).bind fun y2=>(if (!y2)=false then (if (decide ((x0.2.2.size:Int)>40))=true then (some false) else (Ef (decide ((x0.2.2.size:Int)>40)) x0)) else (some false))) else (some false)))
theorem Kf:N9 Gp Ef:=jS (by kernel_rfl)
theorem Mu:Sa Id GD:=cT C0 rfl ⟨rfl,rfl⟩ (by kernel_rfl)
def Lw:=cG Hz (BQ By) (BQ By) kx
def H5:=kE 0 [] [0,3] 0 Lw kx
def HO:St->Option (RT (Dj.outs By)):=lG Hy [] [0,3,4] 0 (BQ By) H5
def Lx:=kB [] [0,3,4] 0 HO
def HQ (x0:List Int) (x1 x2:Int) (x3:Bool):Option CC:=cG Hx Lx (BQ By) H5 ⟨[(0,.lst (.int .u8) x0),(3,.int .i64 x1),(4,.int .i64 x2),(15,.bool x3)],[]⟩
def Ds (x0:List Int) (x1 x2:Int):Option CC:=HO ⟨[(0,.lst (.int .u8) x0),(3,.int .i64 x1),(4,.int .i64 x2)],[]⟩
def HR (x0:List Int) (x1 x2:Int) (x3:Bool):Option CC:=(if 0<=x2 then (if x2<(x0.length:Int) then (Ds x0 (ES .i64 (i64.wrap ((i64.wrap ((i64.wrap (x1*131))+(i64.wrap (x0.getD x2.toNat 0))))+7)) 1073741823) (i64.wrap (x2+1))) else none) else none)
def Dt (x0:List Int) (x1 x2:Int):Option CC:=(if (decide (x2<(x0.length:Int)))=true then (if (decide (x2<4000))=true then (HQ x0 x1 x2 (decide (x2<4000))) else (some (x0,0,x1))) else (some (x0,0,x1)))
def NF (x0:List Int):Option CC:=(Ds x0 (i64.wrap (14301+(x0.length:Int))) 0)
theorem LH:Tf HR HQ:=jS (by kernel_rfl)
theorem Eq:Sb Dt Ds:=lS (by kernel_rfl)
theorem NG:Sa NF G1:=cT By rfl ⟨rfl,rfl⟩ (by kernel_rfl)
def Ie (x0 x1 x2:Int):Option Bool:=(if (decide (x0>=x1))=true then (some (decide (x0<=x2))) else (some false))
theorem Mv:Sb Ie BH:=cT EZ rfl ⟨rfl,rfl⟩ (by kernel_rfl)
def FX (x1:Int) (b0:CC):Option (Int×CC):=(if (decide (x1<=0))=true then (some (0,b0)) else (if (decide (x1<=256))=true then ((B4 b0).bind fun y1=>(if x1=0 then none else (some ((Int.tmod y1.1 x1),y1.2)))) else ((B4 b0).bind fun y2=>((B4 y2.2).bind fun y3=>((B4 y3.2).bind fun y4=>((B4 y4.2).bind fun y5=>(if x1=0 then none else (some ((Int.tmod (i64.wrap ((i64.wrap ((i64.wrap ((i64.wrap (y2.1*16777216))+(i64.wrap (y3.1*65536))))+(i64.wrap (y4.1*256))))+y5.1)) x1),y5.2)))))))))
theorem Ly:N9 FX FU:=cT ED rfl ⟨rfl,rfl⟩ (by kernel_rfl)
def GE (b0:CC):Option (Int×CC):=(if 33<0 then none else (if 45<0 then none else (if (decide (b0.2.1<(b0.1.length:Int)))=true then (if 0<=b0.2.1 then (if b0.2.1<(b0.1.length:Int) then (some ((ES .i64 (i64.wrap ((ES .i64 (Jz .i64 (Int.fdiv (i64.wrap ((i64.wrap (b0.2.2*6364136223846793005))+1442695040888963407)) (2^(min (33:Int).toNat (IntKind.bits .i64)))) (Int.fdiv (i64.wrap ((i64.wrap (b0.2.2*6364136223846793005))+1442695040888963407)) (2^(min (45:Int).toNat (IntKind.bits .i64))))) 255)+(i64.wrap (b0.1.getD b0.2.1.toNat 0)))) 255),(b0.1,(i64.wrap (b0.2.1+1)),(i64.wrap ((i64.wrap (b0.2.2*6364136223846793005))+1442695040888963407))))) else none) else none) else (some ((ES .i64 (Jz .i64 (Int.fdiv (i64.wrap ((i64.wrap (b0.2.2*6364136223846793005))+1442695040888963407)) (2^(min (33:Int).toNat (IntKind.bits .i64)))) (Int.fdiv (i64.wrap ((i64.wrap (b0.2.2*6364136223846793005))+1442695040888963407)) (2^(min (45:Int).toNat (IntKind.bits .i64))))) 255),(b0.1,b0.2.1,(i64.wrap ((i64.wrap (b0.2.2*6364136223846793005))+1442695040888963407))))))))
theorem Mw:Sa GE B4:=cT Ea rfl ⟨rfl,rfl⟩ (by kernel_rfl)
def Dv (x0:List Int) (x1:Int):Option Bool:=((DA x0 x1).bind fun y1=>(some (decide (y1>=0))))
theorem GU:N9 Dv CY:=cT Bj rfl ⟨rfl,rfl⟩ (by kernel_rfl)
def GF (x0:Bool) (x1:A_):Option Bool:=cG Gg (BQ Cb) (BQ Cb) kx ⟨[(2,.ptr 0 0),(20,.bool x0)],[.var (Aw.enc x1)]⟩
def GG (x0:Bool) (x1:A_):Option Bool:=(if (x1.1==1)=true then ((BH (x1.2.2.2.size:Int) 1 40).bind fun y3=>(some y3)) else (some (x1.2.2.2.toList==(⟨#[]⟩:ByteArray).toList)))
def H6 (x0:A_) (x1:Int):Option Bool:=((BH x0.1 1 4).bind fun y1=>(if (!y1)=false then ((BH x0.2.1 1 x1).bind fun y2=>(if (!y2)=false then (if (decide (x0.2.2.1<0))=true then (some false) else (GF (decide (x0.2.2.1<0)) x0)) else (some false))) else (some false)))
theorem Jo:N9 GG GF:=jS (by kernel_rfl)
theorem Lz:N9 H6 FV:=cT Cb rfl ⟨rfl,rfl⟩ (by kernel_rfl)
def JV (x0:Bool):Option Int:=(if x0=true then (some 0) else (some 1))
theorem NH:Sa JV G2:=cT Ey rfl ⟨rfl,rfl⟩ (by kernel_rfl)
def Ei (x1:A_) (b0:AB):Option (Bool×AB):=(if (x1.1==1)=true then ((DB x1 b0).bind fun y1=>(some (y1.1,y1.2))) else (if ((b0.2.2.1.length:Int)==0)=true then (some (false,b0)) else (if (b0.2.2.1.length:Int)=0 then none else (if 0<=(Int.tmod x1.2.2.1 (b0.2.2.1.length:Int)) then (if (Int.tmod x1.2.2.1 (b0.2.2.1.length:Int))<(b0.2.2.1.length:Int) then (if (x1.1==4)=true then (if b0.2.2.1.length+([b0.2.2.1.getD ((Int.tmod x1.2.2.1 (b0.2.2.1.length:Int)).toNat) (0,0,0,0,0,AE)]:List U).length<=68719476736 then (some (true,(b0.1,b0.2.1,(b0.2.2.1++([b0.2.2.1.getD ((Int.tmod x1.2.2.1 (b0.2.2.1.length:Int)).toNat) (0,0,0,0,0,AE)]:List U)),b0.2.2.2))) else none) else ((BV b0.2.2.1 (Int.tmod x1.2.2.1 (b0.2.2.1.length:Int)) (i64.wrap ((Int.tmod x1.2.2.1 (b0.2.2.1.length:Int))+1))).bind fun y2=>(if (x1.1==3)=false then ((Cf (b0.2.2.1.getD ((Int.tmod x1.2.2.1 (b0.2.2.1.length:Int)).toNat) (0,0,0,0,0,AE)) (b0.1,b0.2.1,y2,b0.2.2.2)).bind fun y3=>(some (y3.1,y3.2))) else (some (true,(b0.1,b0.2.1,y2,b0.2.2.2)))))) else none) else none))))
theorem IB:N9 Ei CS:=cT CR rfl ⟨rfl,rfl⟩ (by kernel_rfl)
def G3:=cG D7 (BQ At) (BQ At) kx
def G4:=kE 0 [] [] 0 G3 kx
def GV:St->Option (RT (Dj.outs At)):=lG D6 [] [0,1,7,8] 0 (BQ At) G4
def Bl (x0:List Int) (x1 x2 x3:Int):Option Int:=GV ⟨[(0,.lst .W x0),(1,.int .i64 x1),(7,.int .i64 x2),(8,.int .i64 x3)],[]⟩
def Bm (x0:List Int) (x1 x2 x3:Int):Option Int:=(if (decide (x3<x2))=true then (if 0<=x3 then (if x3<(x0.length:Int) then (if (x1==(x0.getD x3.toNat 0))=true then (some x3) else (Bl x0 x1 x2 (i64.wrap (x3+1)))) else none) else none) else (some (-1:Int)))
def Hr (x0:List Int) (x1:Int):Option Int:=(Bl x0 x1 (x0.length:Int) 0)
theorem Ca:Tf Bm Bl:=lS (by kernel_rfl)
theorem Hs:N9 Hr DA:=cT At rfl ⟨rfl,rfl⟩ (by kernel_rfl)
def Bn (x0:Nat) (x1:Int) (x2:List AJ) (x3:List AH) (x4:List U) (x5:List ByteArray) (x6:A_):Option (Bool×AB):=cG D8 (BQ BR) (BQ BR) kx ⟨[(0,.ptr 0 0),(3,.ptr 5 0),(5,.eptr 2 x0 0),(6,.int .i64 x1)],[.var [.row 1,.row 2,.row 3,.row 4],.rows 94 AW x2,.rows 89 Ac x3,.rows 183 AF x4,.rows 9 .str x5,.var (Aw.enc x6)]⟩
def Dw (x0:Nat) (x1:Int) (x2:List AJ) (x3:List AH) (x4:List U) (x5:List ByteArray) (x6:A_):Option (Bool×AB):=(if (decide (x1>10000))=true then (some (false,(x2,x3,x4,x5))) else (let z1:List AH:=x3.set x0 ((x3.getD x0 (0,0,AE,([]:List U),false,([]:List Int),false)).1,x1,((x3.getD x0 (0,0,AE,([]:List U),false,([]:List Int),false)).2).2); (let z2:List AH:=z1.set x0 ((z1.getD x0 (0,0,AE,([]:List U),false,([]:List Int),false)).1,((z1.getD x0 (0,0,AE,([]:List U),false,([]:List Int),false)).2).1,x6.2.2.2,(((z1.getD x0 (0,0,AE,([]:List U),false,([]:List Int),false)).2).2).2); (let z3:List AH:=z2.set x0 ((z2.getD x0 (0,0,AE,([]:List U),false,([]:List Int),false)).1,((z2.getD x0 (0,0,AE,([]:List U),false,([]:List Int),false)).2).1,(((z2.getD x0 (0,0,AE,([]:List U),false,([]:List Int),false)).2).2).1,([]:List U),((((z2.getD x0 (0,0,AE,([]:List U),false,([]:List Int),false)).2).2).2).2); (let z4:List AH:=z3.set x0 ((z3.getD x0 (0,0,AE,([]:List U),false,([]:List Int),false)).1,((z3.getD x0 (0,0,AE,([]:List U),false,([]:List Int),false)).2).1,(((z3.getD x0 (0,0,AE,([]:List U),false,([]:List Int),false)).2).2).1,((((z3.getD x0 (0,0,AE,([]:List U),false,([]:List Int),false)).2).2).2).1,false,(((((z3.getD x0 (0,0,AE,([]:List U),false,([]:List Int),false)).2).2).2).2).2); (let z5:List AH:=z4.set x0 ((z4.getD x0 (0,0,AE,([]:List U),false,([]:List Int),false)).1,((z4.getD x0 (0,0,AE,([]:List U),false,([]:List Int),false)).2).1,(((z4.getD x0 (0,0,AE,([]:List U),false,([]:List Int),false)).2).2).1,((((z4.getD x0 (0,0,AE,([]:List U),false,([]:List Int),false)).2).2).2).1,(((((z4.getD x0 (0,0,AE,([]:List U),false,([]:List Int),false)).2).2).2).2).1,([]:List Int),((((((z4.getD x0 (0,0,AE,([]:List U),false,([]:List Int),false)).2).2).2).2).2).2); ((DC x0 1 (⟨#[]⟩:ByteArray) (x2,z5,x4,x5)).bind fun y6=>(some (true,y6)))))))))
def Eg (x1:A_) (b0:AB):Option (Bool×AB):=(if 0<=(i64.wrap (x1.2.1-1)) then (if (i64.wrap (x1.2.1-1))<(b0.2.1.length:Int) then (if ((((b0.2.1.getD ((i64.wrap (x1.2.1-1)).toNat) (0,0,AE,([]:List U),false,([]:List Int),false)).2).1)==0)=true then (Bn ((i64.wrap (x1.2.1-1)).toNat) ((b0.2.1.getD ((i64.wrap (x1.2.1-1)).toNat) (0,0,AE,([]:List U),false,([]:List Int),false)).1) b0.1 b0.2.1 b0.2.2.1 b0.2.2.2 x1) else (Bn ((i64.wrap (x1.2.1-1)).toNat) (i64.wrap ((((b0.2.1.getD ((i64.wrap (x1.2.1-1)).toNat) (0,0,AE,([]:List U),false,([]:List Int),false)).2).1)+10)) b0.1 b0.2.1 b0.2.2.1 b0.2.2.2 x1)) else none) else none)
theorem GW:Tn Dw Bn:=jS (by kernel_rfl)
theorem Ht:N9 Eg DB:=cT BR rfl ⟨rfl,rfl⟩ (by kernel_rfl)
def EN (x0:Bool) (x1:List AJ) (x2:List AH) (x3:List U) (x4:List ByteArray) (x5:U):Option (Bool×AB):=cG Eb (BQ BY) (BQ BY) kx ⟨[(0,.ptr 0 0),(3,.ptr 5 0),(13,.bool x0)],[.var [.row 1,.row 2,.row 3,.row 4],.rows 94 AW x1,.rows 89 Ac x2,.rows 183 AF x3,.rows 9 .str x4,.var (AF.enc x5)]⟩
def EO (x0:Bool) (x1:List AJ) (x2:List AH) (x3:List U) (x4:List ByteArray) (x5:U):Option (Bool×AB):=((BH x5.2.2.1 1 (x2.length:Int)).bind fun y2=>(if (!y2)=true then (some (false,(x1,x2,x3,x4))) else (if 0<=(i64.wrap (x5.2.2.1-1)) then (if (i64.wrap (x5.2.2.1-1))<(x2.length:Int) then (if (x5.1==2)=true then ((B8 ((i64.wrap (x5.2.2.1-1)).toNat) x5 (x1,x2,x3,x4)).bind fun y3=>(some (y3.1,y3.2))) else ((Cg ((i64.wrap (x5.2.2.1-1)).toNat) x5 (x1,x2,x3,x4)).bind fun y4=>(some (y4.1,y4.2)))) else none) else none)))
def FP (x1:U) (b0:AB):Option (Bool×AB):=(if (x1.1==1)=false then (if (x1.1==3)=true then ((Cu x1 b0).bind fun y1=>(some (y1.1,y1.2))) else (EN (x1.1==3) b0.1 b0.2.1 b0.2.2.1 b0.2.2.2 x1)) else ((Cu x1 b0).bind fun y5=>(some (y5.1,y5.2))))
theorem HS:Tm EO EN:=jS (by kernel_rfl)
theorem If:N9 FP Cf:=cT BY rfl ⟨rfl,rfl⟩ (by kernel_rfl)
def Ig:=kE 0 [] [] 5 (BQ BW) kx
def IC:St->Option (RT (Dj.outs BW)):=lG FC [] [0,1,2,3,13,14] 5 (BQ BW) Ig
def CT (x0:Nat) (x1:Int) (x2:ByteArray) (x3 x4:Int) (x5:List AJ) (x6:List AH) (x7:List U) (x8:List ByteArray):Option AB:=IC ⟨[(0,.ptr 0 0),(1,.eptr 2 x0 0),(2,.int .i64 x1),(3,.str x2),(13,.int .i64 x3),(14,.int .i64 x4)],[.var [.row 1,.row 2,.row 3,.row 4],.rows 94 AW x5,.rows 89 Ac x6,.rows 183 AF x7,.rows 9 .str x8]⟩
def DQ (x0:Nat) (x1:Int) (x2:ByteArray) (x3 x4:Int) (x5:List AJ) (x6:List AH) (x7:List U) (x8:List ByteArray):Option AB:=(if (decide (x4<x3))=true then (if x7.length+([(x1,(x6.getD x0 (0,0,AE,([]:List U),false,([]:List Int),false)).1,(i64.wrap (x4+1)),((x6.getD x0 (0,0,AE,([]:List U),false,([]:List Int),false)).2).1,0,x2)]:List U).length<=68719476736 then (CT x0 x1 x2 x3 (i64.wrap (x4+1)) x5 x6 (x7++([(x1,(x6.getD x0 (0,0,AE,([]:List U),false,([]:List Int),false)).1,(i64.wrap (x4+1)),((x6.getD x0 (0,0,AE,([]:List U),false,([]:List Int),false)).2).1,0,x2)]:List U)) x8) else none) else (some (x5,x6,x7,x8)))
def GH (x1:Nat) (x2:Int) (x3:ByteArray) (b0:AB):Option AB:=(CT x1 x2 x3 (b0.1.length:Int) 0 b0.1 b0.2.1 b0.2.2.1 b0.2.2.2)
theorem Ej:Tz DQ CT:=lS (by kernel_rfl)
theorem Jp:Tf GH DC:=cT BW rfl ⟨rfl,rfl⟩ (by kernel_rfl)
def Fh (x1:U) (b0:AB):Option (Bool×AB):=((BH x1.2.2.1 1 (b0.1.length:Int)).bind fun y1=>(if (!y1)=true then (some (false,b0)) else (if 0<=(i64.wrap (x1.2.2.1-1)) then (if (i64.wrap (x1.2.2.1-1))<(b0.1.length:Int) then ((FW (b0.1.getD ((i64.wrap (x1.2.2.1-1)).toNat) (0,0,AE)) x1).bind fun y2=>(if 0<=(i64.wrap (x1.2.2.1-1)) then (if (i64.wrap (x1.2.2.1-1))<(b0.1.length:Int) then (let z3:List AJ:=b0.1.set ((i64.wrap (x1.2.2.1-1)).toNat) y2.1; (if y2.2.2=true then (if b0.2.2.1.length+([y2.2.1]:List U).length<=68719476736 then (some (y2.2.2,(z3,b0.2.1,(b0.2.2.1++([y2.2.1]:List U)),b0.2.2.2))) else none) else (some (y2.2.2,(z3,b0.2))))) else none) else none)) else none) else none)))
theorem JG:N9 Fh Cu:=cT Ct rfl ⟨rfl,rfl⟩ (by kernel_rfl)
def CP (x0:Nat) (x1 x2 x3 x4 x5:Int) (x6:ByteArray) (x7:Bool) (x8:List AJ) (x9:List AH) (x10:List U) (x11:List ByteArray):Option (Bool×AB):=cG Du (BQ BN) (BQ BN) kx ⟨[(0,.ptr 0 0),(1,.eptr 2 x0 0),(5,.fptr [.int .i64 x1,.int .i64 x2,.int .i64 x3,.int .i64 x4,.int .i64 x5,.str x6] 0),(29,.bool x7)],[.var [.row 1,.row 2,.row 3,.row 4],.rows 94 AW x8,.rows 89 Ac x9,.rows 183 AF x10,.rows 9 .str x11,.dead]⟩
def Dh (x0:Nat) (x1 x2 x3 x4 x5:Int) (x6:ByteArray) (x7:Bool) (x8:List AJ) (x9:List AH) (x10:List U) (x11:List ByteArray):Option (Bool×AB):=(if (((((x9.getD x0 (0,0,AE,([]:List U),false,([]:List Int),false)).2).2).2).1).length+([(x1,x2,x3,x4,x5,x6)]:List U).length<=68719476736 then (if x0=x0 then (let z2:List AH:=x9.set x0 ((x9.getD x0 (0,0,AE,([]:List U),false,([]:List Int),false)).1,((x9.getD x0 (0,0,AE,([]:List U),false,([]:List Int),false)).2).1,(((x9.getD x0 (0,0,AE,([]:List U),false,([]:List Int),false)).2).2).1,((((((x9.getD x0 (0,0,AE,([]:List U),false,([]:List Int),false)).2).2).2).1)++([(x1,x2,x3,x4,x5,x6)]:List U)),((((x9.getD x0 (0,0,AE,([]:List U),false,([]:List Int),false)).2).2).2).2); ((Ez (x8.length:Int)).bind fun y3=>(if (((((((z2.getD x0 (0,0,AE,([]:List U),false,([]:List Int),false)).2).2).2).1).length:Int)==y3)=true then (let z4:List AH:=z2.set x0 ((z2.getD x0 (0,0,AE,([]:List U),false,([]:List Int),false)).1,((z2.getD x0 (0,0,AE,([]:List U),false,([]:List Int),false)).2).1,(((z2.getD x0 (0,0,AE,([]:List U),false,([]:List Int),false)).2).2).1,((((z2.getD x0 (0,0,AE,([]:List U),false,([]:List Int),false)).2).2).2).1,true,(((((z2.getD x0 (0,0,AE,([]:List U),false,([]:List Int),false)).2).2).2).2).2); ((Ep (((((z4.getD x0 (0,0,AE,([]:List U),false,([]:List Int),false)).2).2).2).1) ((((z4.getD x0 (0,0,AE,([]:List U),false,([]:List Int),false)).2).2).1)).bind fun y5=>(let z6:List AH:=z4.set x0 ((z4.getD x0 (0,0,AE,([]:List U),false,([]:List Int),false)).1,((z4.getD x0 (0,0,AE,([]:List U),false,([]:List Int),false)).2).1,y5,(((z4.getD x0 (0,0,AE,([]:List U),false,([]:List Int),false)).2).2).2); ((DC x0 3 ((((z6.getD x0 (0,0,AE,([]:List U),false,([]:List Int),false)).2).2).1) (x8,z6,x10,x11)).bind fun y7=>(some (true,y7)))))) else (some (true,(x8,z2,x10,x11)))))) else none) else none)
def EP (x1:Nat) (x2:U) (b0:AB):Option (Bool×AB):=((BI (((((b0.2.1.getD x1 (0,0,AE,([]:List U),false,([]:List Int),false)).2).2).2).1) x2).bind fun y1=>(if (x2.2.2.2.1 != (((b0.2.1.getD x1 (0,0,AE,([]:List U),false,([]:List Int),false)).2).1))=true then (some (false,b0)) else (if ((((((b0.2.1.getD x1 (0,0,AE,([]:List U),false,([]:List Int),false)).2).2).2).2).1)=true then (some (false,b0)) else (if y1=true then (some (false,b0)) else (CP x1 x2.1 x2.2.1 x2.2.2.1 x2.2.2.2.1 x2.2.2.2.2.1 x2.2.2.2.2.2 y1 b0.1 b0.2.1 b0.2.2.1 b0.2.2.2)))))
theorem GI:TR Dh CP:=jS (by kernel_rfl)
theorem HT:Sb EP B8:=cT BN rfl ⟨rfl,rfl⟩ (by kernel_rfl)
def C2 (x0:Nat) (x1:Bool) (x2:List AJ) (x3:List AH) (x4:List U) (x5:List ByteArray) (x6:U):Option (Bool×AB):=cG Ec (BQ BZ) (BQ BZ) kx ⟨[(0,.ptr 0 0),(1,.eptr 2 x0 0),(5,.ptr 5 0),(22,.bool x1)],[.var [.row 1,.row 2,.row 3,.row 4],.rows 94 AW x2,.rows 89 Ac x3,.rows 183 AF x4,.rows 9 .str x5,.var (AF.enc x6),.dead]⟩
def EQ (x0:Nat) (x1:Bool) (x2:List AJ) (x3:List AH) (x4:List U) (x5:List ByteArray) (x6:U):Option (Bool×AB):=(if (((((((x3.getD x0 (0,0,AE,([]:List U),false,([]:List Int),false)).2).2).2).2).2).1).length+([x6.2.1]:List Int).length<=68719476736 then (if x0=x0 then (let z2:List AH:=x3.set x0 ((x3.getD x0 (0,0,AE,([]:List U),false,([]:List Int),false)).1,((x3.getD x0 (0,0,AE,([]:List U),false,([]:List Int),false)).2).1,(((x3.getD x0 (0,0,AE,([]:List U),false,([]:List Int),false)).2).2).1,((((x3.getD x0 (0,0,AE,([]:List U),false,([]:List Int),false)).2).2).2).1,(((((x3.getD x0 (0,0,AE,([]:List U),false,([]:List Int),false)).2).2).2).2).1,((((((((x3.getD x0 (0,0,AE,([]:List U),false,([]:List Int),false)).2).2).2).2).2).1)++([x6.2.1]:List Int)),((((((x3.getD x0 (0,0,AE,([]:List U),false,([]:List Int),false)).2).2).2).2).2).2); ((Ez (x2.length:Int)).bind fun y3=>(if (((((((((z2.getD x0 (0,0,AE,([]:List U),false,([]:List Int),false)).2).2).2).2).2).1).length:Int)==y3)=true then (let z4:List AH:=z2.set x0 ((z2.getD x0 (0,0,AE,([]:List U),false,([]:List Int),false)).1,((z2.getD x0 (0,0,AE,([]:List U),false,([]:List Int),false)).2).1,(((z2.getD x0 (0,0,AE,([]:List U),false,([]:List Int),false)).2).2).1,((((z2.getD x0 (0,0,AE,([]:List U),false,([]:List Int),false)).2).2).2).1,(((((z2.getD x0 (0,0,AE,([]:List U),false,([]:List Int),false)).2).2).2).2).1,((((((z2.getD x0 (0,0,AE,([]:List U),false,([]:List Int),false)).2).2).2).2).2).1,true); (if x5.length+([(((z4.getD x0 (0,0,AE,([]:List U),false,([]:List Int),false)).2).2).1]:List ByteArray).length<=68719476736 then (some (true,(x2,z4,x4,(x5++([(((z4.getD x0 (0,0,AE,([]:List U),false,([]:List Int),false)).2).2).1]:List ByteArray))))) else none)) else (some (true,(x2,z2,x4,x5)))))) else none) else none)
def FQ (x1:Nat) (x2:U) (b0:AB):Option (Bool×AB):=(if (x2.2.2.2.1 != (((b0.2.1.getD x1 (0,0,AE,([]:List U),false,([]:List Int),false)).2).1))=true then (some (false,b0)) else ((CY (((((((b0.2.1.getD x1 (0,0,AE,([]:List U),false,([]:List Int),false)).2).2).2).2).2).1) x2.2.1).bind fun y1=>(if y1=true then (some (false,b0)) else (C2 x1 y1 b0.1 b0.2.1 b0.2.2.1 b0.2.2.2 x2))))
theorem HU:Tn EQ C2:=jS (by kernel_rfl)
theorem Ih:Sb FQ Cg:=cT BZ rfl ⟨rfl,rfl⟩ (by kernel_rfl)
def Gq:=cG Gj (BQ BP) (BQ BP) kx
def Gr:=kB [] [2,4,5,7] 5 Gq
def Gs:=kE 0 [] [2,4,5,7] 5 Gq kx
def DD (x0:Bool) (x1:AJ) (x2:U) (x3:AJ) (x4 x5:U):Option (AJ×U×Bool):=cG Gh Gr (BQ BP) Gs ⟨[(2,.ptr 0 0),(3,.ptr 1 0),(4,.ptr 2 0),(5,.ptr 3 0),(7,.ptr 4 0),(55,.bool x0)],[.var (AW.enc x1),.var (AF.enc x2),.var (AW.enc x3),.var (AF.enc x4),.var (AF.enc x5)]⟩
def DE (x0:Bool) (x1:AJ) (x2:U) (x3:AJ) (x4 x5:U):Option (AJ×U×Bool):=cG Gi Gr (BQ BP) Gs ⟨[(2,.ptr 0 0),(3,.ptr 1 0),(4,.ptr 2 0),(5,.ptr 3 0),(7,.ptr 4 0),(34,.bool x0)],[.var (AW.enc x1),.var (AF.enc x2),.var (AW.enc x3),.var (AF.enc x4),.var (AF.enc x5)]⟩
def EG (x0:Bool) (x1:AJ) (x2:U) (x3:AJ) (x4:U):Option (AJ×U×Bool):=cG Gk (BQ BP) (BQ BP) kx ⟨[(2,.ptr 0 0),(3,.ptr 1 0),(4,.ptr 2 0),(5,.ptr 3 0),(22,.bool x0)],[.var (AW.enc x1),.var (AF.enc x2),.var (AW.enc x3),.var (AF.enc x4)]⟩
def GJ (x0:Bool) (x1:AJ) (x2:U) (x3:AJ) (x4 x5:U):Option (AJ×U×Bool):=(if x0=true then (some ((x2.2.2.2.1,x2.2.2.2.1,x2.2.2.2.2.2),(4,x5.2.1,x5.2.2.1,x5.2.2.2.1,x5.2.2.2.2.1,x2.2.2.2.2.2),true)) else (some (x1,(0,0,0,0,0,AE),false)))
def GK (x0:Bool) (x1:AJ) (x2:U) (x3:AJ) (x4 x5:U):Option (AJ×U×Bool):=(if x0=true then (some ((x2.2.2.2.1,x1.2),(2,x5.2.1,x5.2.2.1,x5.2.2.2.1,x1.2),true)) else (if (x2.1==3)=true then (DD (decide (x2.2.2.2.1>=x1.1)) x1 x2 x3 x4 x5) else (DD false x1 x2 x3 x4 x5)))
def GL (x0:Bool) (x1:AJ) (x2:U) (x3:AJ) (x4:U):Option (AJ×U×Bool):=(if (x2.1==1)=true then (DE (decide (x2.2.2.2.1>x1.1)) x1 x2 x3 x4 (0,x2.2.2.1,x2.2.1,x2.2.2.2.1,0,AE)) else (DE false x1 x2 x3 x4 (0,x2.2.2.1,x2.2.1,x2.2.2.2.1,0,AE)))
def H7 (x0:AJ) (x1:U):Option (AJ×U×Bool):=((BH x1.2.2.2.1 1 10000).bind fun y1=>(if (!y1)=false then (if (decide ((x1.2.2.2.2.2.size:Int)>40))=false then ((GD x0).bind fun y2=>(if (!y2)=true then (some (x0,(0,0,0,0,0,AE),false)) else (EG (!y2) x0 x1 (0,0,AE) (0,0,0,0,0,AE)))) else (some (x0,(0,0,0,0,0,AE),false))) else (some (x0,(0,0,0,0,0,AE),false))))
theorem Jq:Tm GJ DD:=jS (by kernel_rfl)
theorem Jr:Tm GK DE:=jS (by kernel_rfl)
theorem Js:Tv GL EG:=jS (by kernel_rfl)
theorem L0:N9 H7 FW:=cT BP rfl ⟨rfl,rfl⟩ (by kernel_rfl)
def Bf (x0:List U) (x1:U):Option Bool:=((BO x0 x1).bind fun y1=>(some (decide (y1>=0))))
theorem DI:N9 Bf BI:=cT Ai rfl ⟨rfl,rfl⟩ (by kernel_rfl)
def GX (x0 x1:U):Option Bool:=(some (x0.2.1==x1.2.1))
theorem GY:N9 GX CZ:=cT Bk rfl ⟨rfl,rfl⟩ (by kernel_rfl)
def Jt:=cG GC (BQ Ba) (BQ Ba) kx
def Ju:=kE 0 [] [6] 0 Jt kx
def JH:St->Option (RT (Dj.outs Ba)):=lG GB [] [5,6,10,11,12] 0 (BQ Ba) Ju
def Be (x0:Int) (x1:ByteArray) (x2:List U) (x3 x4:Int):Option ByteArray:=JH ⟨[(5,.int .i64 x0),(6,.str x1),(10,.lst AF x2),(11,.int .i64 x3),(12,.int .i64 x4)],[]⟩
def D1 (x0:Int) (x1:ByteArray) (x2:List U) (x3 x4:Int):Option ByteArray:=(if (decide (x4<x3))=true then (if 0<=x4 then (if x4<(x2.length:Int) then (if (((x2.getD x4.toNat (0,0,0,0,0,AE)).1)==2)=true then (if (decide (((((((x2.getD x4.toNat (0,0,0,0,0,AE)).2).2).2).2).1)>x0))=true then (Be ((((((x2.getD x4.toNat (0,0,0,0,0,AE)).2).2).2).2).1) ((((((x2.getD x4.toNat (0,0,0,0,0,AE)).2).2).2).2).2) x2 x3 (i64.wrap (x4+1))) else (Be x0 x1 x2 x3 (i64.wrap (x4+1)))) else (Be x0 x1 x2 x3 (i64.wrap (x4+1)))) else none) else none) else (some x1))
def HV (x0:List U) (x1:ByteArray):Option ByteArray:=(Be 0 x1 x0 (x0.length:Int) 0)
theorem Fi:Tv D1 Be:=lS (by kernel_rfl)
theorem LI:N9 HV Ep:=cT Ba rfl ⟨rfl,rfl⟩ (by kernel_rfl)
def DR:=cG Bp (BQ AL) (BQ AL) kx
def DS:=kE 0 [] [] 0 DR kx
def DJ:St->Option (RT (Dj.outs AL)):=lG Bo [] [0,1,7,8] 0 (BQ AL) DS
def Aj (x0:List U) (x1:U) (x2 x3:Int):Option Int:=DJ ⟨[(0,.lst AF x0),(1,.clo 184 AF x1),(7,.int .i64 x2),(8,.int .i64 x3)],[]⟩
def Ak (x0:List U) (x1:U) (x2 x3:Int):Option Int:=(if (decide (x3<x2))=true then (if 0<=x3 then (if x3<(x0.length:Int) then ((CZ (x0.getD x3.toNat (0,0,0,0,0,AE)) x1).bind fun y1=>(if y1=true then (some x3) else (Aj x0 x1 x2 (i64.wrap (x3+1))))) else none) else none) else (some (-1:Int)))
def B5 (x0:List U) (x1:U):Option Int:=(Aj x0 x1 (x0.length:Int) 0)
theorem BJ:Tf Ak Aj:=lS (by kernel_rfl)
theorem Di:N9 B5 BO:=cT AL rfl ⟨rfl,rfl⟩ (by kernel_rfl)
end
end Go.Proofs.Ytffahmnodgnohaa.Core


namespace Go.Proofs.Ytffahmnodgnohaa.Core
open Go
theorem B9 {n:Int} (h:-9223372036854775808<=n/\n<=9223372036854775807):IntKind.i64.wrap n=n:=IntWalk.i64_in n h
theorem DN {i:Nat} (h:i<9223372036854775807):IntKind.i64.wrap ((i:Int)+1)=((i+1:Nat):Int):=by
 rw [B9 (by omega)]
 omega
theorem QX {P:Nat->Prop} {n:Nat} (h0:P n) (h:∀ i,i<n->P (i+1)->P i):∀ i,i<=n->P i:=by
 intro i hi
 induction hk:n-i generalizing i with
 | zero =>
  have:i=n:=by omega
  subst this
  exact h0
 | succ k ih=>exact h i (by omega) (ih (i+1) (by omega) (by omega))
theorem Fo {α:Type} {xs:List α} {i:Nat} {d:α} (h:i<xs.length):xs.getD i d=xs[i]:=by
 simp [List.getD,h]

theorem BM (a b c:Int):BH a b c=some (decide (b<=a)&&decide (a<=c)):=Mv (by
 unfold Ie
 by_cases h:b<=a<;>simp [h])

abbrev Pu:Type:=List Int×Int×Int
def ST (d:Pu):Prop:=0<=d.2.1/\d.1.length<=maxLen
theorem Lg (a:Int):0<=ES .i64 a 255/\ES .i64 a 255<=255:=by
 unfold ES
 have h:(BitVec.ofInt (IntKind.bits .i64) a &&& BitVec.ofInt (IntKind.bits .i64) 255).toNat<=255:=by
  rw [BitVec.toNat_and]
  refine Nat.le_trans Nat.and_le_right ?_
  decide
 rw [B9 (by omega)]
 omega
theorem B_ (d:Pu) (h:ST d):∃ b d',B4 d=some (b,d')/\ST d'/\0<=b/\b<=255:=by
 have hm:d.1.length<=9223372036854775807:=h.2
 have hp:=h.1
 suffices g:∃ b d',GE d=some (b,d')/\ST d'/\0<=b/\b<=255 from g.imp fun b g=>g.imp fun d' g=>⟨Mw g.1,g.2⟩
 unfold GE
 rw [if_neg (by omega),if_neg (by omega)]
 by_cases h1:d.2.1<(d.1.length:Int)
 ·rw [if_pos (by simpa using h1),if_pos hp,if_pos h1]
  refine ⟨_,_,rfl,⟨?_,h.2⟩,Lg _⟩
  show 0<=IntKind.i64.wrap (d.2.1+1)
  rw [B9 (by omega)]
  omega
 ·rw [if_neg (by simpa using h1)]
  exact ⟨_,_,rfl,h,Lg _⟩
theorem Jv (n:Int) (d:Pu) (h:ST d):∃ v d',FU n d=some (v,d')/\ST d'/\0<=v/\(0<n->v<n):=by
 suffices g:∃ b d',FX n d=some (b,d')/\ST d'/\0<=b/\(0<n->b<n) from g.imp fun b g=>g.imp fun d' g=>⟨Ly g.1,g.2⟩
 unfold FX
 by_cases h1:n<=0
 ·exact ⟨0,d,by rw [if_pos (by simpa using h1)],h,by omega,by omega⟩
 ·rw [if_neg (by simpa using h1)]
  by_cases h2:n<=256
  ·obtain ⟨b,d1,e1,k1,b0,b1⟩:=B_ d h
   refine ⟨_,_,by rw [if_pos (by simpa using h2),e1,AA,if_neg (by omega)],k1,Int.tmod_nonneg _ b0,fun _=>Int.tmod_lt_of_pos _ (by omega)⟩
  ·obtain ⟨b1,d1,e1,k1,b10,b11⟩:=B_ d h
   obtain ⟨b2,d2,e2,k2,b20,b21⟩:=B_ d1 k1
   obtain ⟨b3,d3,e3,k3,b30,b31⟩:=B_ d2 k2
   obtain ⟨b4,d4,e4,k4,b40,b41⟩:=B_ d3 k3
   refine ⟨_,_,by rw [if_neg (by simpa using h2),e1,AA,e2,AA,e3,AA,e4,AA,if_neg (by omega)],k4,Int.tmod_nonneg _ ?_,fun _=>Int.tmod_lt_of_pos _ (by omega)⟩
   rw [B9 (n:=b1*16777216) (by omega),B9 (n:=b2*65536) (by omega),B9 (n:=b3*256) (by omega),B9 (n:=b1*16777216+b2*65536) (by omega),B9 (n:=b1*16777216+b2*65536+b3*256) (by omega),B9 (by omega)]
   omega
theorem LJ (x:List Int) (h:x.length<=maxLen):∃ d,G1 x=some d/\ST d:=by
 have hm:x.length<=9223372036854775807:=h
 have key:=QX (n:=x.length) (P:=fun i=>∀ a,∃ d,Ds x a (i:Int)=some d/\ST d) (fun a=>⟨(x,0,a),Eq (by
  unfold Dt
  rw [if_neg (by simp)]),⟨Int.le_refl _,h⟩⟩) (fun i hi ih a=>by
  by_cases h4:(i:Int)<4000
  ·obtain ⟨d,e,k⟩:=ih (ES .i64 (IntKind.i64.wrap ((IntKind.i64.wrap ((IntKind.i64.wrap (a*(131:Int)))+(IntKind.i64.wrap (x.getD (i:Int).toNat (0:Int)))))+(7:Int))) (1073741823:Int))
   refine ⟨d,Eq ?_,k⟩
   unfold Dt
   rw [if_pos (by simpa using hi),if_pos (by simpa using h4)]
   refine LH ?_
   unfold HR
   rw [if_pos (by omega),if_pos (by omega),DN (show i<9223372036854775807 by omega)]
   exact e
  ·refine ⟨(x,0,a),Eq ?_,⟨Int.le_refl _,h⟩⟩
   unfold Dt
   rw [if_pos (by simpa using hi),if_neg (by simpa using h4)]) 0 (by omega)
 obtain ⟨d,e,k⟩:=key (IntKind.i64.wrap ((14301:Int)+(x.length:Int)))
 exact ⟨d,NG e,k⟩

abbrev GM:Type:=Int×Int×ByteArray
abbrev CD:Type:=Int×Int×Int×Int×Int×ByteArray
def Er:CD:=((0:Int),(0:Int),(0:Int),(0:Int),(0:Int),AE)
def MC (v:GM):Bool:=(decide (0<=v.1)&&decide (v.1<=10000))&&(decide (0<=v.2.1)&&decide (v.2.1<=v.1))&&decide ((v.2.2.size:Int)<=40)&&(decide (v.2.1>0)||v.2.2.toList==(⟨#[]⟩:ByteArray).toList)
def D_ (v:GM) (m:CD):GM×CD×Bool :=
 if MC v=true/\(1<=m.2.2.2.1/\m.2.2.2.1<=10000)/\(m.2.2.2.2.2.size:Int)<=40 then
  if m.1=1/\m.2.2.2.1>v.1 then ((m.2.2.2.1,v.2),(2,m.2.2.1,m.2.1,m.2.2.2.1,v.2),true)
  else if m.1=3/\m.2.2.2.1>=v.1 then ((m.2.2.2.1,m.2.2.2.1,m.2.2.2.2.2),(4,m.2.2.1,m.2.1,m.2.2.2.1,0,m.2.2.2.2.2),true)
  else (v,Er,false)
 else (v,Er,false)
theorem Kg (v:GM):GD v=some (MC v):=Mu (by
 have h0:∀ b,Ef b v=some (decide (v.2.1>0)||v.2.2.toList==(⟨#[]⟩:ByteArray).toList):=fun b=>Kf (by
  unfold Gp
  cases decide (v.2.1>0)<;>simp)
 unfold Id MC
 simp only [BM,AA,h0]
 have e:decide ((v.2.2.size:Int)>40)=!decide ((v.2.2.size:Int)<=40):=by
  by_cases h:(v.2.2.size:Int)<=40<;>simp [h]
  omega
 rw [e]
 generalize (decide (0<=v.1)&&decide (v.1<=10000))=a
 generalize (decide (0<=v.2.1)&&decide (v.2.1<=v.1))=b
 generalize decide ((v.2.2.size:Int)<=40)=c
 generalize (decide (v.2.1>0)||v.2.2.toList==(⟨#[]⟩:ByteArray).toList)=d
 cases a<;>cases b<;>cases c<;>simp)
theorem Jw (v:GM) (m:CD):FW v m=some (D_ v m):=L0 (by
 have h2:∀ b a1 a2 a3,DD b v m a1 a2 a3=some (if b=true then ((m.2.2.2.1,m.2.2.2.1,m.2.2.2.2.2),(4,a3.2.1,a3.2.2.1,a3.2.2.2.1,a3.2.2.2.2.1,m.2.2.2.2.2),true) else (v,Er,false)):=fun b a1 a2 a3=>Jq (by
  unfold GJ
  cases b<;>rfl)
 have h1:∀ b a1 a2 a3,DE b v m a1 a2 a3=some (if b=true then ((m.2.2.2.1,v.2),(2,a3.2.1,a3.2.2.1,a3.2.2.2.1,v.2),true) else if m.1=3/\m.2.2.2.1>=v.1 then ((m.2.2.2.1,m.2.2.2.1,m.2.2.2.2.2),(4,a3.2.1,a3.2.2.1,a3.2.2.2.1,a3.2.2.2.2.1,m.2.2.2.2.2),true) else (v,Er,false)):=fun b a1 a2 a3=>Jr (by
  unfold GK
  simp only [h2]
  by_cases e1:m.1=3<;>by_cases e2:m.2.2.2.1>=v.1<;>cases b<;>simp [e1,e2])
 have h0:∀ b a1 a2,EG b v m a1 a2=some (if m.1=1/\m.2.2.2.1>v.1 then ((m.2.2.2.1,v.2),(2,m.2.2.1,m.2.1,m.2.2.2.1,v.2),true) else if m.1=3/\m.2.2.2.1>=v.1 then ((m.2.2.2.1,m.2.2.2.1,m.2.2.2.2.2),(4,m.2.2.1,m.2.1,m.2.2.2.1,0,m.2.2.2.2.2),true) else (v,Er,false)):=fun b a1 a2=>Js (by
  unfold GL
  simp only [h1]
  by_cases e1:m.1=1<;>by_cases e2:m.2.2.2.1>v.1<;>simp [e1,e2])
 unfold H7 D_
 simp only [BM,Kg,AA,h0]
 by_cases e1:1<=m.2.2.2.1/\m.2.2.2.1<=10000
 ·by_cases e2:(m.2.2.2.2.2.size:Int)<=40
  ·cases e3:MC v<;>simp [e1.1,e1.2,e2,Er]
  ·have e2':(m.2.2.2.2.2.size:Int)>40:=by omega
   simp [e1.1,e1.2,e2,e2',Er]
 ·rw [if_neg (by rw [<- Bool.decide_and,decide_eq_false e1]; simp),if_neg (fun h=>e1 h.2.1)]
  rfl)
theorem NI (x:List Int):Jj x=some (decide ((x.length:Int)>(1048576:Int))):=PQ rfl

theorem Fv {α:Type} {x:List α} {i:Nat} (h:i<x.length):x.drop i=x[i]::x.drop (i+1):=List.drop_eq_getElem_cons h



def SU (a:ByteArray×ByteArray×Int):Bool:=(decide (1<=(a.1.size:Int))&&decide ((a.1.size:Int)<=12))&&decide ((a.2.1.size:Int)<=20)&&(decide (1<=a.2.2)&&decide (a.2.2<=1000000000))
def Nf (x:List (ByteArray×ByteArray×Int)) (i:Nat):Nat->Bool
 | 0=>decide ((x.length:Int)<=12)
 | k+1=>SU (x.getD i (AE,AE,0))&&(decide (i=0)||Op.bytesLess (x.getD (i-1) (AE,AE,0)).1.toList (x.getD i (AE,AE,0)).1.toList)&&Nf x (i+1) k

abbrev Sc:Type:=ByteArray×ByteArray×Int
def Pv (x:List Sc):Bool:=Nf x 0 x.length





def Ng (v:List Int) (i:Nat):Nat->Bool
 | 0=>true
 | k+1=>(decide (1<=v.getD i 0)&&decide (v.getD i 0<=6))&&!(v.take i).contains (v.getD i 0)&&Ng v (i+1) k
def S_ (v:List Int):Bool:=(decide (1<=(v.length:Int))&&decide ((v.length:Int)<=4))&&Ng v 0 v.length
def Nh (x:List (List Int)) (n:Nat):List (List Int)->Bool
 | []=>decide (1<=(n:Int))&&decide ((n:Int)<=9)
 | v::r=>S_ v&&Nh x n r

abbrev RX:Type:=Int×Int×Int×(ByteArray×ByteArray×Int)×List Int
abbrev MD:Type:=Int×Int×Bool×Bool×Bool×Bool×List Int×List (ByteArray×ByteArray×Int)×Int×RX
def TA (t:RX):Bool:=(t.1==0)&&(t.2.1==0)&&(t.2.2.1==0)&&Ox (.pair .str (.pair .str (.int .i64))) t.2.2.2.1 (AE,AE,(0:Int))&&((t.2.2.2.2.length:Int)==0)
def RY (t:RX) (serves:Bool):Bool:=(t.1==1||t.1==2)&&serves&&(decide (0<=t.2.1)&&decide (t.2.1<=1000))&&(decide (1<=t.2.2.1)&&decide (t.2.2.1<=900))

abbrev TU:Type:=Int×Int×Int×Int×Int×List (ByteArray×ByteArray×Int)

def Tw (v:List Int):Prop:=(∀ a∈v,1<=a/\a<=6)/\v.Pairwise (· < ·)
structure T2 (m:MD):Prop where
 id:1<=m.1/\m.1<=6
 ep:1<=m.2.1/\m.2.1<=9
 serves:m.2.2.2.2.2.1=true->m.2.2.2.1=true/\m.2.2.2.2.1=true/\m.2.2.2.2.2.2.1=[]
 fell:m.2.2.1=true->m.2.2.2.1=false/\m.2.2.2.2.1=false
 waits:Tw m.2.2.2.2.2.2.1
 left:Tw m.2.2.2.2.2.2.2.2.2.2.2.2.2
 items:Pv m.2.2.2.2.2.2.2.1=true
 count:0<=m.2.2.2.2.2.2.2.2.1/\m.2.2.2.2.2.2.2.2.1<=900
 task:TA m.2.2.2.2.2.2.2.2.2=true\/RY m.2.2.2.2.2.2.2.2.2 m.2.2.2.2.2.1=true

structure T3 (views:List (List Int)):Prop where
 ok:Nh views views.length views=true

structure T4 (x:TU):Prop where
 kind:1<=x.1/\x.1<=8
 frm:1<=x.2.1/\x.2.1<=6
 to:1<=x.2.2.1/\x.2.2.1<=6
 ep:1<=x.2.2.2.1/\x.2.2.2.1<=9
 num:0<=x.2.2.2.2.1/\x.2.2.2.2.1<=1000000000
 items:Pv x.2.2.2.2.2=true
 shape:if x.1=2\/x.1=3 then True else if x.1=5 then x.2.2.2.2.2.length=1 else x.2.2.2.2.2=[]



def TV:MD:=((0:Int),(0:Int),false,false,false,false,([]:List Int),([]:List Sc),(0:Int),(0:Int),(0:Int),(0:Int),(AE,AE,(0:Int)),([]:List Int))

theorem Oo (x:List Int) (n:Int) (h:x.length<=maxLen):CY x n=some (x.contains n):=GU (by
 have hm:x.length<=9223372036854775807:=h
 have key:=QX (n:=x.length) (P:=fun i=>∃ r,Bl x n (x.length:Int) (i:Int)=some r/\(decide (r>=0)=(x.drop i).contains n)) ⟨-1,Ca (by
  unfold Bm
  rw [if_neg (by simp)]),by simp⟩ (fun i hi ⟨r,hr,hc⟩=>by
  by_cases e:n=x[i]
  ·refine ⟨(i:Int),Ca ?_,?_⟩
   ·unfold Bm
    simp only [show ((i:Int)<(x.length:Int)) from by omega,decide_true,if_true,show (0:Int)<=(i:Int) from by omega,Fw,Fo hi]
    rw [if_pos (by simpa using e)]
   ·rw [Fv hi,List.contains_cons,e]
    simp only [beq_self_eq_true,Bool.true_or]
    exact decide_eq_true (by omega)
  ·refine ⟨r,Ca ?_,?_⟩
   ·unfold Bm
    simp only [show ((i:Int)<(x.length:Int)) from by omega,decide_true,if_true,show (0:Int)<=(i:Int) from by omega,Fw,Fo hi,DN (show i<9223372036854775807 by omega)]
    rw [if_neg (by simpa using e)]
    exact hr
   ·rw [Fv hi,hc,List.contains_cons]
    simp [e]) 0 (by omega)
 obtain ⟨r,hr,hc⟩:=key
 unfold Dv
 have:DA x n=some r:=Hs hr
 rw [this,AA,hc,List.drop_zero])

abbrev N8:Type:=Int×Int×ByteArray×List CD×Bool×List Int×Bool
abbrev JI:Type:=Int×Int×Int×ByteArray
abbrev H8:Type:=List GM×List N8×List CD×List ByteArray
def B6:N8:=((0:Int),(0:Int),AE,([]:List CD),false,([]:List Int),false)
def ME:GM:=((0:Int),(0:Int),AE)
def Lh (n:Nat):Int:=(n:Int) / 2+1
def Mx (kind id b:Int) (v:ByteArray):Nat->Nat->List CD
 | _,0=>[]
 | i,k+1=>(kind,id,(i:Int)+1,b,0,v)::Mx kind id b v (i+1) k
def Ii:List CD->Int->ByteArray->ByteArray
 | [],_,v=>v
 | m::l,b,v=>if m.1=2/\m.2.2.2.2.1>b then Ii l m.2.2.2.2.1 m.2.2.2.2.2 else Ii l b v
def Oq (t:N8):Int:=if t.2.1=0 then t.1 else t.2.1+10
def Ij (kp:Bool) (h:JI) (c:H8):Bool×H8 :=
 let j:=(h.2.1-1).toNat
 let t:=c.2.1.getD j B6
 if Oq t>10000 then (false,c)
 else (true,(c.1,c.2.1.set j (t.1,Oq t,h.2.2.2,[],false,[],kp&&t.2.2.2.2.2.2),c.2.2.1++Mx 1 t.1 (Oq t) AE 0 c.1.length,c.2.2.2))
def Or (m:CD) (c:H8):Bool×H8 :=
 let j:=(m.2.2.1-1).toNat
 let r:=D_ (c.1.getD j ME) m
 (r.2.2,(c.1.set j r.1,c.2.1,if r.2.2=true then c.2.2.1++[r.2.1] else c.2.2.1,c.2.2.2))
def HW (m:CD) (c:H8):Bool×H8 :=
 let j:=(m.2.2.1-1).toNat
 let t:=c.2.1.getD j B6
 if m.2.2.2.1≠t.2.1\/t.2.2.2.2.1=true\/t.2.2.2.1.any (fun x=>x.2.1==m.2.1)=true then (false,c)
 else if ((t.2.2.2.1++[m]).length:Int)=Lh c.1.length then
  (true,(c.1,c.2.1.set j (t.1,t.2.1,Ii (t.2.2.2.1++[m]) 0 t.2.2.1,t.2.2.2.1++[m],true,t.2.2.2.2.2),c.2.2.1++Mx 3 t.1 t.2.1 (Ii (t.2.2.2.1++[m]) 0 t.2.2.1) 0 c.1.length,c.2.2.2))
 else (true,(c.1,c.2.1.set j (t.1,t.2.1,t.2.2.1,t.2.2.2.1++[m],t.2.2.2.2),c.2.2))
def My (m:CD) (c:H8):Bool×H8 :=
 let j:=(m.2.2.1-1).toNat
 let t:=c.2.1.getD j B6
 if m.2.2.2.1≠t.2.1\/t.2.2.2.2.2.1.contains m.2.1=true then (false,c)
 else if ((t.2.2.2.2.2.1++[m.2.1]).length:Int)=Lh c.1.length then
  (true,(c.1,c.2.1.set j (t.1,t.2.1,t.2.2.1,t.2.2.2.1,t.2.2.2.2.1,t.2.2.2.2.2.1++[m.2.1],true),c.2.2.1,c.2.2.2++[t.2.2.1]))
 else (true,(c.1,c.2.1.set j (t.1,t.2.1,t.2.2.1,t.2.2.2.1,t.2.2.2.2.1,t.2.2.2.2.2.1++[m.2.1],t.2.2.2.2.2.2),c.2.2))
def Mz (m:CD) (c:H8):Bool×H8 :=
 if m.1=1\/m.1=3 then Or m c else if m.1=2 then HW m c else My m c
def GN (h:JI) (c:H8):Nat:=(h.2.2.1 % (c.2.2.1.length:Int)).toNat
def Ot (h:JI) (c:H8):H8:=(c.1,c.2.1,c.2.2.1.take (GN h c)++c.2.2.1.drop (GN h c+1),c.2.2.2)
def Iz (kp:Bool) (h:JI) (c:H8):Bool×H8 :=
 if h.1=1 then Ij kp h c
 else if c.2.2.1.length=0 then (false,c)
 else if h.1=4 then (true,(c.1,c.2.1,c.2.2.1++[c.2.2.1.getD (GN h c) Er],c.2.2.2))
 else if h.1=3 then (true,Ot h c)
 else Mz (c.2.2.1.getD (GN h c) Er) (Ot h c)
def LK (n t:Nat) (m:CD):Prop :=
 ((m.1=1\/m.1=3)/\(1<=m.2.2.1/\m.2.2.1<=(n:Int))/\1<=m.2.1/\m.2.1<=(t:Int))\/((m.1=2\/m.1=4)/\(1<=m.2.2.1/\m.2.2.1<=(t:Int))/\1<=m.2.1/\m.2.1<=(n:Int))
structure Ni (k:Nat) (j:Nat) (t:N8):Prop where
 id:t.1=(j:Int)+1
 ballot:0<=t.2.1/\t.2.1<=10000
 pl:t.2.2.2.1.length<=k
 tl:t.2.2.2.2.2.1.length<=k
structure I0 (n t k:Nat) (c:H8):Prop where
 vl:c.1.length=n
 cl:c.2.1.length=t
 tr:∀ j,j<t->Ni k j (c.2.1.getD j B6)
 nl:c.2.2.1.length<=5*k
 ch:c.2.2.2.length<=k
 nt:∀ m∈c.2.2.1,LK n t m
theorem Ni.up {k k' j:Nat} {t:N8} (h:Ni k j t) (hk:k<=k'):Ni k' j t:=⟨h.id,h.ballot,Nat.le_trans h.pl hk,Nat.le_trans h.tl hk⟩
theorem I0.up {n t k k':Nat} {c:H8} (h:I0 n t k c) (hk:k<=k'):I0 n t k' c :=
 ⟨h.vl,h.cl,fun j hj=>(h.tr j hj).up hk,by have:=h.nl; omega,by have:=h.ch; omega,h.nt⟩
theorem Nj {α:Type} {xs:List α} {j:Nat} {a d:α} (h:j<xs.length):(xs.set j a).getD j d=a:=by simp [List.getD,h]
theorem RZ {α:Type} {xs:List α} {i j:Nat} {a d:α} (h:j≠i):(xs.set j a).getD i d=xs.getD i d:=by simp [List.getD,List.getElem?_set_ne h]
theorem M0 (kind id b:Int) (v:ByteArray):∀ (k i:Nat),(Mx kind id b v i k).length=k
 | 0,i=>rfl
 | k+1,i=>by simp [Mx,M0 kind id b v k (i+1)]
theorem M1 {kind id b:Int} {v:ByteArray}:∀ {k i:Nat} {m:CD},m∈Mx kind id b v i k->∃ q:Nat,(i<=q/\q<i+k)/\m=(kind,id,(q:Int)+1,b,0,v)
 | 0,i,m,h=>by cases h
 | k+1,i,m,h=>by
  rcases AO.1 h with h | h
  ·exact ⟨i,⟨Nat.le_refl _,by omega⟩,h⟩
  ·obtain ⟨q,h1,h2⟩:=M1 h
   exact ⟨q,⟨by omega,by omega⟩,h2⟩
theorem I0.trs {n t k:Nat} {c:H8} (h:I0 n t k c) {j:Nat} (hj:j<t) {x:N8} (hx:Ni (k+1) j x):∀ i,i<t->Ni (k+1) i ((c.2.1.set j x).getD i B6):=fun i hi=>by
 by_cases e:j=i
 ·subst e
  rw [Nj (by rw [h.cl]; exact hj)]
  exact hx
 ·rw [RZ e]
  exact (h.tr i hi).up (by omega)
theorem I0.propose {n t k:Nat} {c:H8} (h:I0 n t k c) (kp:Bool) {e:JI} (hn:n<=5) (ht:t<=4) (he:1<=e.2.1/\e.2.1<=(t:Int)):I0 n t (k+1) (Ij kp e c).2:=by
 have hj:(e.2.1-1).toNat<t:=by omega
 have htr:=h.tr _ hj
 unfold Ij
 dsimp only
 split
 ·exact h.up (by omega)
 ·rename_i hb
  refine ⟨h.vl,by simp [h.cl],h.trs hj ⟨htr.id,?_,by simp,by simp⟩,?_,by have:=h.ch; simp only; omega,fun m hm=>?_⟩
  ·have:=htr.ballot
   have:=htr.id
   simp only [Oq] at hb ⊢
   split at hb<;>split<;>omega
  ·have:=h.nl
   have:=h.vl
   simp only [List.length_append,M0]
   omega
  ·rcases BE.1 hm with hm | hm
   ·exact h.nt m hm
   ·obtain ⟨q,hq,rfl⟩:=M1 hm
    have:=htr.id
    have:=h.vl
    refine .inl ⟨.inl rfl,⟨?_,?_⟩,?_,?_⟩<;>simp only<;>omega
theorem QY {v:GM} {m:CD} (h:(D_ v m).2.2=true):(m.1=1/\(D_ v m).2.1=(2,m.2.2.1,m.2.1,m.2.2.2.1,v.2)/\(D_ v m).1=(m.2.2.2.1,v.2)/\m.2.2.2.1>v.1)\/(m.1=3/\(D_ v m).2.1=(4,m.2.2.1,m.2.1,m.2.2.2.1,0,m.2.2.2.2.2)/\(D_ v m).1=(m.2.2.2.1,m.2.2.2.1,m.2.2.2.2.2)/\m.2.2.2.1>=v.1):=by
 unfold D_ at h ⊢
 split at h
 ·rename_i c1
  rw [if_pos c1]
  split at h
  ·rename_i c2
   rw [if_pos c2]
   exact .inl ⟨c2.1,rfl,rfl,c2.2⟩
  ·rename_i c2
   rw [if_neg c2]
   split at h
   ·rename_i c3
    rw [if_pos c3]
    exact .inr ⟨c3.1,rfl,rfl,c3.2⟩
   ·cases h
 ·cases h
theorem I0.hear {n t k:Nat} {c:H8} (h:I0 n t k c) {m:CD} (hm:LK n t m):I0 n t (k+1) (Or m c).2:=by
 unfold Or
 dsimp only
 refine ⟨by simp [h.vl],h.cl,fun j hj=>(h.tr j hj).up (by omega),?_,by have:=h.ch; simp only; omega,fun x hx=>?_⟩
 ·have:=h.nl
  split<;>simp<;>omega
 ·split at hx
  ·rename_i hr
   rcases BE.1 hx with hx | hx
   ·exact h.nt x hx
   ·rw [EA] at hx
    subst hx
    rcases QY hr with ⟨a,b,_⟩ | ⟨a,b,_⟩<;>rw [b]<;>rcases hm with ⟨k1,k2,k3⟩ | ⟨k1,k2,k3⟩
    ·exact .inr ⟨.inl rfl,k3,k2⟩
    ·omega
    ·exact .inr ⟨.inr rfl,k3,k2⟩
    ·omega
  ·exact h.nt x hx
theorem I0.promised {n t k:Nat} {c:H8} (h:I0 n t k c) {m:CD} (hn:n<=5) (hm:LK n t m) (h2:m.1=2):I0 n t (k+1) (HW m c).2:=by
 have hto:1<=m.2.2.1/\m.2.2.1<=(t:Int):=by rcases hm with ⟨a,b,c⟩ | ⟨a,b,c⟩<;>omega
 have hj:(m.2.2.1-1).toNat<t:=by omega
 have htr:=h.tr _ hj
 have hpl:=htr.pl
 have htl:=htr.tl
 unfold HW
 dsimp only
 split
 ·exact h.up (by omega)
 ·split
  ·refine ⟨h.vl,by simp [h.cl],h.trs hj ⟨htr.id,htr.ballot,by simp only [List.length_append,List.length_cons,List.length_nil]; omega,by simp only; omega⟩,?_,by have:=h.ch; simp only; omega,fun x hx=>?_⟩
   ·have:=h.nl
    have:=h.vl
    simp only [List.length_append,M0]
    omega
   ·rcases BE.1 hx with hx | hx
    ·exact h.nt x hx
    ·obtain ⟨q,hq,rfl⟩:=M1 hx
     have:=htr.id
     have:=h.vl
     refine .inl ⟨.inr rfl,⟨?_,?_⟩,?_,?_⟩<;>simp only<;>omega
  ·exact ⟨h.vl,by simp [h.cl],h.trs hj ⟨htr.id,htr.ballot,by simp only [List.length_append,List.length_cons,List.length_nil]; omega,by simp only; omega⟩,by have:=h.nl; simp only; omega,by have:=h.ch; simp only; omega,h.nt⟩
theorem I0.taken {n t k:Nat} {c:H8} (h:I0 n t k c) {m:CD} (hm:LK n t m) (h2:m.1=4):I0 n t (k+1) (My m c).2:=by
 have hto:1<=m.2.2.1/\m.2.2.1<=(t:Int):=by rcases hm with ⟨a,b,c⟩ | ⟨a,b,c⟩<;>omega
 have hj:(m.2.2.1-1).toNat<t:=by omega
 have htr:=h.tr _ hj
 have hpl:=htr.pl
 have htl:=htr.tl
 unfold My
 dsimp only
 split
 ·exact h.up (by omega)
 ·split
  ·exact ⟨h.vl,by simp [h.cl],h.trs hj ⟨htr.id,htr.ballot,by simp only; omega,by simp only [List.length_append,List.length_cons,List.length_nil]; omega⟩,by have:=h.nl; simp only; omega,by have:=h.ch; simp; omega,h.nt⟩
  ·exact ⟨h.vl,by simp [h.cl],h.trs hj ⟨htr.id,htr.ballot,by simp only; omega,by simp only [List.length_append,List.length_cons,List.length_nil]; omega⟩,by have:=h.nl; simp only; omega,by have:=h.ch; simp only; omega,h.nt⟩
theorem I0.less {n t k:Nat} {c:H8} (h:I0 n t k c) (e:JI):I0 n t k (Ot e c) :=
 ⟨h.vl,h.cl,h.tr,by have:=h.nl; simp only [Ot,List.length_append,List.length_take,List.length_drop]; omega,h.ch,fun m hm=>by
  rcases BE.1 hm with hm | hm
  ·exact h.nt m (List.mem_of_mem_take hm)
  ·exact h.nt m (List.mem_of_mem_drop hm)⟩
theorem Ou {e:JI} {c:H8} (he:0<=e.2.2.1) (h0:c.2.2.1.length≠0):GN e c<c.2.2.1.length:=by
 unfold GN
 have h1:=Int.emod_lt_of_pos e.2.2.1 (show (0:Int)<(c.2.2.1.length:Int) by omega)
 have h2:=Int.emod_nonneg e.2.2.1 (show (c.2.2.1.length:Int)≠0 by omega)
 omega
theorem I0.carry {n t k:Nat} {c:H8} (h:I0 n t k c) {m:CD} (hn:n<=5) (hm:LK n t m):I0 n t (k+1) (Mz m c).2:=by
 unfold Mz
 split
 ·exact h.hear hm
 ·split
  ·rename_i h2; exact h.promised hn hm h2
  ·exact h.taken hm (by rcases hm with ⟨a,_⟩ | ⟨a,_⟩<;>omega)
structure M2 (t:Nat) (e:JI):Prop where
 kind:1<=e.1/\e.1<=4
 id:1<=e.2.1/\e.2.1<=(t:Int)
 at_:0<=e.2.2.1
 val:if e.1=1 then 1<=(e.2.2.2.size:Int)/\(e.2.2.2.size:Int)<=40 else e.2.2.2.toList=(⟨#[]⟩:ByteArray).toList
theorem I0.happen {n t k:Nat} {c:H8} (h:I0 n t k c) (kp:Bool) {e:JI} (hn:n<=5) (ht:t<=4) (he:M2 t e):I0 n t (k+1) (Iz kp e c).2:=by
 unfold Iz
 split
 ·exact h.propose kp hn ht he.id
 ·split
  ·exact h.up (by omega)
  ·rename_i h0
   have hp:=Ou he.at_ h0
   have hm:c.2.2.1.getD (GN e c) Er∈c.2.2.1:=by rw [Fo hp]; exact GZ hp
   split
   ·exact ⟨h.vl,h.cl,fun j hj=>(h.tr j hj).up (by omega),by have:=h.nl; simp; omega,by have:=h.ch; simp only; omega,fun x hx=>by
     rcases BE.1 hx with hx | hx
     ·exact h.nt x hx
     ·rw [EA] at hx; subst hx; exact h.nt _ hm⟩
   ·split
    ·exact (h.less e).up (by omega)
    ·exact (h.less e).carry hn (h.nt _ hm)

theorem QZ:(((0:Int),(0:Int),AE,([]:List CD),false,([]:List Int),false):N8)=B6:=rfl
theorem TW:(((0:Int),(0:Int),(0:Int),(0:Int),(0:Int),AE):CD)=Er:=rfl
theorem Ov (j:Nat) (kind:Int) (v:ByteArray) (vs:List GM) (ts:List N8) (ch:List ByteArray) (hv:vs.length<=1000):∀ (k i:Nat) (ns:List CD),i+k=vs.length->ns.length+k<=68719476736 ->
  CT j kind v (vs.length:Int) (i:Int) vs ts ns ch=some (vs,ts,ns++Mx kind (ts.getD j B6).1 (ts.getD j B6).2.1 v i k,ch)
 | 0,i,ns,hk,hl=>Ej (by
  unfold DQ
  rw [if_neg (by rw [decide_eq_false (by omega)]; simp)]
  simp [Mx])
 | k+1,i,ns,hk,hl=>Ej (by
  unfold DQ
  have w:IntKind.i64.wrap ((i:Int)+1)=(i:Int)+1:=by rw [B9 (by omega)]
  have w2:(i:Int)+1=((i+1:Nat):Int):=by omega
  rw [if_pos (decide_eq_true (by omega)),if_pos (by simp only [List.length_cons,List.length_nil]; omega),w]
  have:=Ov j kind v vs ts ch hv k (i+1) (ns++[(kind,(ts.getD j B6).1,(i:Int)+1,(ts.getD j B6).2.1,0,v)]) (by omega) (by simp only [List.length_append,List.length_cons,List.length_nil]; omega)
  rw [Bs,List.singleton_append,<- w2] at this
  exact this)
theorem JW (j:Nat) (kind:Int) (v:ByteArray) (c:H8) (hl:c.2.2.1.length+c.1.length<=68719476736) (hv:c.1.length<=1000):DC j kind v c=some (c.1,c.2.1,c.2.2.1++Mx kind (c.2.1.getD j B6).1 (c.2.1.getD j B6).2.1 v 0 c.1.length,c.2.2.2):=Jp (by
 unfold GH
 exact Ov j kind v c.1 c.2.1 c.2.2.2 hv c.1.length 0 c.2.2.1 (by omega) (by omega))
theorem L1 (x:List CD) (m:CD) (h:x.length<=maxLen):BI x m=some (x.any fun y=>y.2.1==m.2.1):=DI (by
 have hm:x.length<=9223372036854775807:=h
 have key:=QX (n:=x.length) (P:=fun i=>∃ r,Aj x m (x.length:Int) (i:Int)=some r/\(decide (r>=0)=(x.drop i).any fun y=>y.2.1==m.2.1)) ⟨-1,BJ (by
  unfold Ak
  rw [if_neg (by simp)]),by simp⟩ (fun i hi ih=>by
  have hz:x.getD i ((0:Int),(0:Int),(0:Int),(0:Int),(0:Int),AE)=x[i]:=Fo hi
  have hp:CZ x[i] m=some (x[i].2.1==m.2.1):=GY rfl
  by_cases e:x[i].2.1=m.2.1
  ·refine ⟨(i:Int),BJ ?_,?_⟩
   ·unfold Ak
    rw [if_pos (decide_eq_true (by omega)),if_pos (by omega),if_pos (by omega),Fw,hz,hp,AA,if_pos (by simpa using e)]
   ·rw [Fv hi,List.any_cons,e]
    simp only [beq_self_eq_true,Bool.true_or]
    exact decide_eq_true (by omega)
  ·obtain ⟨r,h1,h2⟩:=ih
   refine ⟨r,BJ ?_,?_⟩
   ·unfold Ak
    rw [if_pos (decide_eq_true (by omega)),if_pos (by omega),if_pos (by omega),Fw,hz,hp,AA,if_neg (by simpa using e),DN (by omega)]
    exact h1
   ·have e':(x[i].2.1==m.2.1)=false:=by simpa using e
    rw [h2,Fv hi,List.any_cons,e',Bool.false_or]) 0 (by omega)
 obtain ⟨r,h1,h2⟩:=key
 unfold Bf
 rw [show BO x m=some r from Di (by unfold B5; exact h1),AA,h2]
 simp)
theorem PR (m:CD) (l:List CD) (b:Int) (v:ByteArray):Ii (m::l) b v=if m.1=2/\m.2.2.2.2.1>b then Ii l m.2.2.2.2.1 m.2.2.2.2.2 else Ii l b v:=rfl
theorem GO (x:List CD) (h:x.length<=maxLen):∀ (k i:Nat) (b:Int) (v:ByteArray),i+k=x.length->Be b v x (x.length:Int) (i:Int)=some (Ii (x.drop i) b v)
 | 0,i,b,v,hk=>Fi (by
  unfold D1
  rw [if_neg (by rw [decide_eq_false (by omega)]; simp),List.drop_eq_nil_of_le (by omega)]
  rfl)
 | k+1,i,b,v,hk=>Fi (by
  have hm:x.length<=9223372036854775807:=h
  have hi:i<x.length:=by omega
  have hz:x.getD i ((0:Int),(0:Int),(0:Int),(0:Int),(0:Int),AE)=x[i]:=Fo hi
  unfold D1
  rw [if_pos (decide_eq_true (by omega)),if_pos (by omega),if_pos (by omega),Fw,hz,DN (by omega),GO x h k (i+1) _ _ (by omega),GO x h k (i+1) _ _ (by omega),Fv hi,PR]
  by_cases h1:x[i].1=2
  ·rw [if_pos (by simpa using h1)]
   by_cases h2:x[i].2.2.2.2.1>b
   ·rw [if_pos (decide_eq_true h2),if_pos ⟨h1,h2⟩]
   ·rw [if_neg (by rw [decide_eq_false h2]; simp),if_neg (fun q=>h2 q.2)]
  ·rw [if_neg (by simpa using h1),if_neg (fun q=>h1 q.1)])
theorem JJ (x:List CD) (v:ByteArray) (h:x.length<=maxLen):Ep x v=some (Ii x 0 v):=LI (by
 unfold HV
 exact GO x h x.length 0 0 v (by omega))
theorem HX (n:Nat) (h:n<=1000):Ez (n:Int)=some (Lh n):=NE (by
 unfold JU Lh
 rw [if_neg (by rw [decide_eq_false (by omega)]; simp),if_neg (by decide),Int.tdiv_eq_ediv_of_nonneg (by omega),B9 (n:=(n:Int) / 2) (by omega),B9 (by omega)])
theorem Kh {n t k:Nat} {c:H8} (h:I0 n t k c) {e:JI} (hn:n<=5) (ht:t<=4) (hk:k<=100000) (he:M2 t e):DB e c=some (Ij true e c):=Ht (by
 have hid:=he.id
 have hj:(e.2.1-1).toNat<t:=by omega
 have hjl:(e.2.1-1).toNat<c.2.1.length:=by rw [h.cl]; exact hj
 have htr:=h.tr _ hj
 have hcl:=h.cl
 have hnl:=h.nl
 have hvl:=h.vl
 have w:IntKind.i64.wrap (e.2.1-1)=e.2.1-1:=B9 (by omega)
 obtain ⟨vs,ts,ns,ch⟩:=c
 simp only at hcl hjl htr hnl hvl
 have J0:∀ x:Int,Bn (e.2.1-1).toNat x vs ts ns ch e=some (if x>10000 then (false,(vs,ts,ns,ch)) else (true,(vs,ts.set (e.2.1-1).toNat ((ts.getD (e.2.1-1).toNat B6).1,x,e.2.2.2,[],false,[],(ts.getD (e.2.1-1).toNat B6).2.2.2.2.2.2),ns++Mx 1 (ts.getD (e.2.1-1).toNat B6).1 x AE 0 vs.length,ch))):=fun x=>GW (by
  unfold Dw
  by_cases hx:x>10000
  ·rw [if_pos (decide_eq_true hx),if_pos hx]
  ·rw [if_neg (by rw [decide_eq_false hx]; simp),if_neg hx]
   simp only [QZ,Nj hjl,List.set_set]
   rw [JW _ _ _ _ (by simp only; omega) (by simp only; omega),AA]
   simp only [Nj hjl]
   rfl)
 unfold Eg
 rw [w,if_pos (by omega),if_pos (by simp only; omega)]
 simp only [QZ,J0]
 have hb:=htr.ballot
 have hii:=htr.id
 unfold Ij Oq
 simp only [Bool.true_and]
 by_cases h0:(ts.getD (e.2.1-1).toNat B6).2.1=0
 ·rw [if_pos (by simpa using h0)]
  simp only [h0,if_true]
 ·rw [if_neg (by simpa using h0),B9 (by omega)]
  simp only [h0,if_false])
theorem Ik {n t k:Nat} {c:H8} (h:I0 n t k c) {m:CD} (hn:n<=5) (hk:k<=100000) (hm:1<=m.2.2.1/\m.2.2.1<=(n:Int)):Cu m c=some (Or m c):=JG (by
 have hnl:=h.nl
 have hvl:=h.vl
 have hj:(m.2.2.1-1).toNat<c.1.length:=by omega
 have w:IntKind.i64.wrap (m.2.2.1-1)=m.2.2.1-1:=B9 (by omega)
 unfold Fh
 rw [BM,AA,if_neg (by rw [<- Bool.decide_and,decide_eq_true (by omega)]; simp),w,if_pos (by omega),if_pos (by omega)]
 simp only [show (((0:Int),(0:Int),AE):GM)=ME from rfl,Jw,AA]
 rw [if_pos (by omega),if_pos (by omega)]
 unfold Or
 simp only
 cases hr:(D_ (c.1.getD (m.2.2.1-1).toNat ME) m).2.2 with
 | true =>
  rw [if_pos rfl,if_pos (by simp only [List.length_cons,List.length_nil]; omega)]
  simp
 | false =>
  rw [if_neg (by simp)]
  simp)
theorem Jx {n t k:Nat} {c:H8} (h:I0 n t k c) {m:CD} (hn:n<=5) (hk:k<=100000) (hm:1<=m.2.2.1/\m.2.2.1<=(t:Int)):B8 (m.2.2.1-1).toNat m c=some (HW m c):=HT (by
 have hj:(m.2.2.1-1).toNat<t:=by omega
 have htr:=h.tr _ hj
 have hpl:=htr.pl
 have hcl:=h.cl
 have hnl:=h.nl
 have hvl:=h.vl
 obtain ⟨vs,ts,ns,ch⟩:=c
 simp only at hcl htr hpl hnl hvl
 have hjl:(m.2.2.1-1).toNat<ts.length:=by omega
 have J0:∀ b,CP (m.2.2.1-1).toNat m.1 m.2.1 m.2.2.1 m.2.2.2.1 m.2.2.2.2.1 m.2.2.2.2.2 b vs ts ns ch=some (let t:=ts.getD (m.2.2.1-1).toNat B6
   if ((t.2.2.2.1++[m]).length:Int)=Lh vs.length then
    (true,(vs,ts.set (m.2.2.1-1).toNat (t.1,t.2.1,Ii (t.2.2.2.1++[m]) 0 t.2.2.1,t.2.2.2.1++[m],true,t.2.2.2.2.2),ns++Mx 3 t.1 t.2.1 (Ii (t.2.2.2.1++[m]) 0 t.2.2.1) 0 vs.length,ch))
   else (true,(vs,ts.set (m.2.2.1-1).toNat (t.1,t.2.1,t.2.2.1,t.2.2.2.1++[m],t.2.2.2.2),ns,ch))):=fun b=>GI (by
  unfold Dh
  simp only [QZ,Nj hjl,List.set_set,HX vs.length (by omega),AA]
  rw [if_pos (by simp only [List.length_cons,List.length_nil]; omega)]
  simp only [if_true,show (m.1,m.2.1,m.2.2.1,m.2.2.2.1,m.2.2.2.2.1,m.2.2.2.2.2)=m from rfl]
  by_cases hc:(((ts.getD (m.2.2.1-1).toNat B6).2.2.2.1++[m]).length:Int)=Lh vs.length
  ·rw [if_pos (by simpa using hc),if_pos hc,JJ _ _ (by simp only [List.length_append,List.length_cons,List.length_nil]; unfold maxLen; omega),AA]
   rw [JW _ _ _ _ (by simp only; omega) (by simp only; omega),AA]
   simp only [Nj hjl]
  ·rw [if_neg (by simpa using hc),if_neg hc])
 unfold EP
 simp only [QZ]
 rw [L1 _ _ (by unfold maxLen; omega),AA,J0]
 unfold HW
 simp only
 by_cases h1:m.2.2.2.1=(ts.getD (m.2.2.1-1).toNat B6).2.1
 ·rw [if_neg (by simpa using h1)]
  by_cases h2:(ts.getD (m.2.2.1-1).toNat B6).2.2.2.2.1=true
  ·rw [if_pos h2,if_pos (.inr (.inl h2))]
  ·rw [if_neg h2]
   by_cases h3:((ts.getD (m.2.2.1-1).toNat B6).2.2.2.1.any fun x=>x.2.1==m.2.1)=true
   ·rw [if_pos h3,if_pos (.inr (.inr h3))]
   ·have hn':¬ (m.2.2.2.1≠(ts.getD (m.2.2.1-1).toNat B6).2.1\/(ts.getD (m.2.2.1-1).toNat B6).2.2.2.2.1=true\/((ts.getD (m.2.2.1-1).toNat B6).2.2.2.1.any fun x=>x.2.1==m.2.1)=true):=fun q=>q.elim (fun q=>q h1) fun q=>q.elim h2 h3
    rw [if_neg h3,if_neg hn']
 ·rw [if_pos (by simpa using h1),if_pos (.inl h1)])
theorem L2 {n t k:Nat} {c:H8} (h:I0 n t k c) {m:CD} (hn:n<=5) (hk:k<=100000) (hm:1<=m.2.2.1/\m.2.2.1<=(t:Int)):Cg (m.2.2.1-1).toNat m c=some (My m c):=Ih (by
 have hj:(m.2.2.1-1).toNat<t:=by omega
 have htr:=h.tr _ hj
 have htl:=htr.tl
 have hcl:=h.cl
 have hvl:=h.vl
 have hch:=h.ch
 obtain ⟨vs,ts,ns,ch⟩:=c
 simp only at hcl htr htl hvl hch
 have hjl:(m.2.2.1-1).toNat<ts.length:=by omega
 have J0:∀ b,C2 (m.2.2.1-1).toNat b vs ts ns ch m=some (let t:=ts.getD (m.2.2.1-1).toNat B6
   if ((t.2.2.2.2.2.1++[m.2.1]).length:Int)=Lh vs.length then
    (true,(vs,ts.set (m.2.2.1-1).toNat (t.1,t.2.1,t.2.2.1,t.2.2.2.1,t.2.2.2.2.1,t.2.2.2.2.2.1++[m.2.1],true),ns,ch++[t.2.2.1]))
   else (true,(vs,ts.set (m.2.2.1-1).toNat (t.1,t.2.1,t.2.2.1,t.2.2.2.1,t.2.2.2.2.1,t.2.2.2.2.2.1++[m.2.1],t.2.2.2.2.2.2),ns,ch))):=fun b=>HU (by
  unfold EQ
  simp only [QZ,Nj hjl,List.set_set,HX vs.length (by omega),AA]
  rw [if_pos (by simp only [List.length_cons,List.length_nil]; omega)]
  simp only [if_true]
  by_cases hc:(((ts.getD (m.2.2.1-1).toNat B6).2.2.2.2.2.1++[m.2.1]).length:Int)=Lh vs.length
  ·rw [if_pos (by simpa using hc),if_pos hc,if_pos (by simp only [List.length_cons,List.length_nil]; omega)]
  ·rw [if_neg (by simpa using hc),if_neg hc])
 unfold FQ
 simp only [QZ]
 rw [Oo _ _ (by unfold maxLen; omega),AA,J0]
 unfold My
 simp only
 by_cases h1:m.2.2.2.1=(ts.getD (m.2.2.1-1).toNat B6).2.1
 ·rw [if_neg (by simpa using h1)]
  by_cases h2:((ts.getD (m.2.2.1-1).toNat B6).2.2.2.2.2.1.contains m.2.1)=true
  ·rw [if_pos h2,if_pos (.inr h2)]
  ·have hn':¬ (m.2.2.2.1≠(ts.getD (m.2.2.1-1).toNat B6).2.1\/((ts.getD (m.2.2.1-1).toNat B6).2.2.2.2.2.1.contains m.2.1)=true):=fun q=>q.elim (fun q=>q h1) h2
   rw [if_neg h2,if_neg hn']
 ·rw [if_pos (by simpa using h1),if_pos (.inl h1)])
theorem L3 {n t k:Nat} {c:H8} (h:I0 n t k c) {m:CD} (hn:n<=5) (ht:t<=4) (hk:k<=100000) (hm:LK n t m):Cf m c=some (Mz m c):=If (by
 unfold FP Mz
 have hto:m.1=1\/m.1=3->1<=m.2.2.1/\m.2.2.1<=(n:Int):=fun e=>by rcases hm with ⟨_,b,_⟩ | ⟨a,_⟩<;>omega
 by_cases h1:m.1=1
 ·rw [if_neg (by simp [h1]),Ik h hn hk (hto (.inl h1)),AA,if_pos (.inl h1)]
 ·rw [if_pos (by simpa using h1)]
  by_cases h3:m.1=3
  ·rw [if_pos (by simpa using h3),Ik h hn hk (hto (.inr h3)),AA,if_pos (.inr h3)]
  ·have hm2:1<=m.2.2.1/\m.2.2.1<=(t:Int):=by rcases hm with ⟨a,_⟩ | ⟨a,b,_⟩<;>omega
   have hcl:=h.cl
   have w:IntKind.i64.wrap (m.2.2.1-1)=m.2.2.1-1:=B9 (by omega)
   rw [if_neg (by simpa using h3),if_neg (by omega)]
   refine HS ?_
   unfold EO
   rw [BM,AA,if_neg (by rw [<- Bool.decide_and,decide_eq_true (by omega)]; simp),w,if_pos (by omega),if_pos (by omega)]
   change (if (m.1==2)=true then ((B8 (m.2.2.1-1).toNat m c).bind fun y3=>some (y3.1,y3.2)) else ((Cg (m.2.2.1-1).toNat m c).bind fun y3=>some (y3.1,y3.2)))=_
   rw [Jx h hn hk hm2,L2 h hn hk hm2]
   by_cases h2:m.1=2
   ·rw [if_pos (by simpa using h2),if_pos h2]; rfl
   ·rw [if_neg (by simpa using h2),if_neg h2]; rfl)
theorem LL {n t k:Nat} {c:H8} (h:I0 n t k c) {e:JI} (hn:n<=5) (ht:t<=4) (hk:k<=100000) (he:M2 t e):CS e c=some (Iz true e c):=IB (by
 have hnl:=h.nl
 unfold Ei Iz
 by_cases h1:e.1=1
 ·rw [if_pos (by simpa using h1),if_pos h1,Kh h hn ht hk he,AA]
 ·rw [if_neg (by simpa using h1),if_neg h1]
  by_cases h0:c.2.2.1.length=0
  ·rw [if_pos (by simp [h0]),if_pos h0]
  ·have hp:=Ou he.at_ h0
   have hm:c.2.2.1.getD (GN e c) Er∈c.2.2.1:=by rw [Fo hp]; exact GZ hp
   have em:Int.tmod e.2.2.1 (c.2.2.1.length:Int)=(GN e c:Int):=by
    have h2:=Int.emod_nonneg e.2.2.1 (show (c.2.2.1.length:Int)≠0 by omega)
    rw [Int.tmod_eq_emod_of_nonneg he.at_]
    unfold GN
    omega
   rw [if_neg (by simpa using h0),if_neg h0,em,if_neg (by omega),if_pos (by omega),if_pos (by omega),Fw]
   simp only [TW]
   by_cases h4:e.1=4
   ·rw [if_pos (by simpa using h4),if_pos h4,if_pos (by simp only [List.length_cons,List.length_nil]; omega)]
   ·rw [if_neg (by simpa using h4),if_neg h4,DN (by omega),D9 (by omega) (by omega),AA]
    by_cases h3:e.1=3
    ·rw [if_neg (by simp [h3]),if_pos h3]
     rfl
    ·rw [if_pos (by simpa using h3),if_neg h3]
     change ((Cf (c.2.2.1.getD (GN e c) Er) (Ot e c)).bind _)=_
     rw [L3 (h.less e) hn ht hk (h.nt _ hm),AA])











abbrev TX:Type:=Int×ByteArray×ByteArray×Int×Int×Int×Int×Int×ByteArray
abbrev LN:Type:=List (List Int)×List MD×List TU×List TX
def TY (g:LN) (i:Nat):MD:=g.2.1.getD i TV
structure TE (g:LN) (n:Nat):Prop where
 views:T3 g.1
 six:g.2.1.length=6
 mem:∀ i,i<6->T2 (TY g i)/\(TY g i).1=(i:Int)+1
 fly:∀ x∈g.2.2.1,T4 x
 flen:g.2.2.1.length<=8*n
 clen:g.2.2.2.length<=n

theorem TE.up {g:LN} {k:Nat} (h:TE g k):TE g (k+1):=⟨h.views,h.six,h.mem,h.fly,by have:=h.flen; omega,by have:=h.clen; omega⟩
def Sd (g:LN) (i:Nat):LN:=(g.1,g.2.1,g.2.2.1.take i++g.2.2.1.drop (i+1),g.2.2.2)
theorem TE.less {g:LN} {k:Nat} (h:TE g k) (i:Nat):TE (Sd g i) k:=by
 refine ⟨h.views,h.six,h.mem,fun x hx=>?_,?_,h.clen⟩
 ·rcases BE.1 hx with h1 | h1
  ·exact h.fly x (List.mem_of_mem_take h1)
  ·exact h.fly x (List.mem_of_mem_drop h1)
 ·have:=h.flen
  simp only [Sd,List.length_append,List.length_take,List.length_drop]
  omega







theorem Il (x:List Int) (hx:x.length<=maxLen):∃ l,Ed x=some l/\l.length=12/\∀ y∈l,0<=y:=by
 obtain ⟨d,e,k⟩:=LJ x hx
 obtain ⟨v,d1,e1,k1,_⟩:=B_ d k
 have key:=QX (n:=12) (P:=fun i=>∀ (d:Pu) (l:List Int),ST d->l.length=i->(∀ y∈l,0<=y)->∃ r,Ch (i:Int) d l=some r/\r.length=12/\∀ y∈r,0<=y)
  (fun d l hd hl hp=>⟨l,FD (by unfold Dd; rw [if_neg (by simp)]),hl,hp⟩)
  (fun i hi ih d l hd hl hp=>by
   obtain ⟨v,d1,e1,k1,v0,v1⟩:=Jv 10000 d hd
   obtain ⟨r,er,hr⟩:=ih d1 (l++[v]) k1 (by simp [hl]) (fun y hy=>by
    rcases BE.1 hy with hy | hy
    ·exact hp y hy
    ·rw [EA.1 hy]; exact v0)
   refine ⟨r,FD ?_,hr⟩
   unfold Dd
   rw [if_pos (by simp; omega),e1,AA,if_pos (by simp; omega),DN (by omega)]
   exact er) 0 (by omega) d1 [] k1 rfl (by simp)
 obtain ⟨r,er,hr⟩:=key
 exact ⟨r,Kb (by unfold Gl; rw [e,AA,e1,AA]; exact er),hr⟩
end Go.Proofs.Ytffahmnodgnohaa.Core
