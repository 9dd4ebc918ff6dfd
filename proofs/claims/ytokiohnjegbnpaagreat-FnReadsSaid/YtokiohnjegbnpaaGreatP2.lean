/- Texts of the proof, packed: part 3. -/
import Derived.Test.YtokiohnjegbnpaaGreatP1
import Derived.Test.YtokiohnjegbnpaaGreatProg
import Derived.Shelf.SlLaysE0
import Derived.Shelf.RegionOpenPlain
import Derived.WalkKit
import Derived.Deep.LoopGhost
import Derived.Lib.Walk
import Derived.Lib.SliceRun
import Derived.Shelf.Lays2
import Derived.Lib.JoinLaws
import Derived.Lib.AppendZeros
import Derived.Lib.Overlaps
import Derived.Laws.Externs
import Derived.Laws.IdiomCopy
import Derived.Laws.CopyRow
import Derived.Maps.AppendAt
import Derived.Shelf.Small.Strs
import Derived.Shelf.Spec.SlicesInsert
import Derived.Shelf.SlicesE.DeleteFunc
set_option linter.unusedVariables false
set_option linter.unusedSimpArgs false
namespace Go.Proofs.YtokiohnjegbnpaaGreat.Core
open Go
def Ev (p:Nat->Prop):Prop:=∃ m,∀ k,m<=k->p k
theorem Ev.mono {p q:Nat->Prop} (h:Ev p) (f:∀ k,p k->q k):Ev q:=h.elim fun m hm=>⟨m,fun k hk=>f k (hm k hk)⟩
theorem Ev.const {p:Prop} (h:p):Ev fun _=>p:=⟨0,fun _ _=>h⟩
theorem Ev.all {p:Nat->Prop} (h:∀ k,p k):Ev p:=⟨0,fun k _=>h k⟩
theorem Ev.and {p q:Nat->Prop} (h:Ev p) (g:Ev q):Ev fun k=>p k/\q k:=by
 obtain ⟨m,hm⟩:=h
 obtain ⟨n,hn⟩:=g
 exact ⟨max m n,fun k hk=>⟨hm k (by omega),hn k (by omega)⟩⟩
noncomputable def Lm {ρ:Type} (u:Nat->Option ρ):Option ρ :=
 @dite _ (∃ r,Ev fun k=>u k=some r) (Classical.propDecidable _) (fun h=>some (Classical.choose h)) (fun _=>none)
theorem qx {ρ:Type} {u:Nat->Option ρ} {r:ρ} (h:Lm u=some r):Ev fun k=>u k=some r:=by
 unfold Lm at h
 split at h
 ·rename_i hx
  cases h
  exact Classical.choose_spec hx
 ·cases h
theorem vA {ρ:Type} {u:Nat->Option ρ} {r:ρ} (h:Ev fun k=>u k=some r):Lm u=some r:=by
 have hx:∃ r,Ev fun k=>u k=some r:=⟨r,h⟩
 unfold Lm
 rw [dif_pos hx]
 obtain ⟨m,hm⟩:=(Classical.choose_spec hx).and h
 obtain ⟨a,b⟩:=hm m (Nat.le_refl _)
 rw [<- b,a]
def Conv {ρ:Type} (kn:Nat->St->Option ρ) (kl:St->Option ρ):Prop:=∀ s r,kl s=some r->Ev fun j=>kn j s=some r
theorem Conv.refl {ρ:Type} (kl:St->Option ρ):Conv (fun _=>kl) kl:=fun _ _ h=>.const h
def UV (cal:Nat->GK) (c:GK):Prop:=∀ f a b r,c f a b=some r->Ev fun j=>cal j f a b=some r
theorem UV.refl (c:GK):UV (fun _=>c) c:=fun _ _ _ _ h=>.const h
abbrev Lp (ρ:Type):Type:=((St->Option ρ)->St->Option ρ)->St->Option ρ
def vB {ρ:Type} (F:Nat->(St->Option ρ)->St->Option ρ) (FL:(St->Option ρ)->St->Option ρ):Prop :=
 ∀ (go:Nat->St->Option ρ) (gl:St->Option ρ),Conv go gl->Conv (fun j=>F j (go j)) (FL gl)
def vC {ρ:Type} (lp:Nat->Lp ρ) (ll:Lp ρ):Prop:=∀ (F:Nat->(St->Option ρ)->St->Option ρ) (FL:(St->Option ρ)->St->Option ρ),vB F FL->(∀ j,vB (fun _=>F j) (F j))->Conv (fun j=>lp j (F j)) (ll FL)
noncomputable def KQ {ρ:Type}:Lp ρ:=fun F s=>Lm fun n=>NV n F s
theorem vD {ρ:Type}:vC (ρ:=ρ) NV KQ:=by
 intro F FL hF _ s r h
 have h:=qx h
 obtain ⟨m,hm⟩:=h
 have key:∀ n,∀ g:Nat->Nat,(∀ j,n<=g j)->Conv (fun j=>NV (g j) (F j)) (NV n FL):=by
  intro n
  induction n with
  | zero=>intro g _ s r h; cases h
  | succ n ih =>
   intro g hg s r h
   refine (hF (fun j=>NV (g j-1) (F j)) (NV n FL) (ih (fun j=>g j-1) fun j=>by have:=hg j; omega) s r h).mono fun j hj=>?_
   have e:g j=(g j-1)+1:=by have:=hg j; omega
   show NV (g j) (F j) s=some r
   rw [e]
   exact hj
 obtain ⟨k,hk⟩:=key m (fun j=>max j m) (fun j=>by omega) s r (hm m (Nat.le_refl _))
 refine ⟨max k m,fun j hj=>?_⟩
 have:=hk j (by omega)
 simp only [show max j m=j by omega] at this
 exact this
theorem qy {ρ:Type} (k:Nat):vC (ρ:=ρ) (fun _=>NV k) (NV k):=by
 intro F FL hF _
 induction k with
 | zero=>intro s r h; cases h
 | succ k ih=>exact hF _ _ ih
theorem lC {ρ:Type} {F:(St->Option ρ)->St->Option ρ} (hF:vB (fun _=>F) F) {s:St} {r:ρ} (h:F (KQ F) s=some r):KQ F s=some r:=by
 obtain ⟨m,hm⟩:=hF (fun j=>NV j F) (KQ F) (fun s r h=>qx h) s r h
 exact vA ⟨m+1,fun k hk=>by
  cases k with
  | zero=>omega
  | succ k=>exact hm k (by omega)⟩
theorem qz {ρ:Type}:vC (ρ:=ρ) (fun _=>KQ) KQ:=by
 intro F FL hF hs s r h
 obtain ⟨m,hm⟩:=qx h
 have key:∀ n,Conv (fun j=>KQ (F j)) (NV n FL):=by
  intro n
  induction n with
  | zero=>intro s r h; cases h
  | succ n ih=>intro s r h; exact (hF _ _ ih s r h).mono fun j hj=>lC (hs j) hj
 exact key m s r (hm m (Nat.le_refl _))
theorem C1 {α β:Type} {x:Option α} {f:Nat->α->Option β} {g:α->Option β} (h:∀ a r,g a=some r->Ev fun j=>f j a=some r) (r:β) (hx:x.bind g=some r):Ev fun j=>x.bind (f j)=some r:=by
 cases x with
 | none=>cases hx
 | some a=>exact h a r hx
theorem lD {ρ:Type} {s:St} {v:AV} {K:Kd} {kn:Nat->List K.T->Option ρ} {kl:List K.T->Option ρ} (hk:∀ a r,kl a=some r->Ev fun j=>kn j a=some r) (r:ρ) (h:s.list v K kl=some r):Ev fun j=>s.list v K (kn j)=some r:=by
 unfold St.list at h ⊢
 split at h
 ·exact hk _ _ h
 ·split at h
  ·rename_i e
   simp only [dif_pos e]
   exact hk _ _ h
  ·cases h
 ·split at h
  ·rename_i e0
   split at h
   ·rename_i e
    simp only [e0,dif_pos e]
    exact hk _ _ h
   ·cases h
  ·rename_i e0
   split at h
   ·rename_i e
    simp only [e0,dif_pos e]
    exact hk _ _ h
   ·cases h
  ·rename_i e0
   split at h
   ·rename_i e
    simp only [e0,dif_pos e]
    exact hk _ _ h
   ·cases h
  ·cases h
 ·cases h
theorem t8 {ρ:Type} {op:BinOp} {x y:AV} {kn:Nat->AV->Option ρ} {kl:AV->Option ρ} (hk:∀ a r,kl a=some r->Ev fun j=>kn j a=some r) (r:ρ) (h:hZ op x y kl=some r):Ev fun j=>hZ op x y (kn j)=some r:=by
 have e:∀ k:AV->Option ρ,hZ op x y k=(hZ op x y some).bind k:=by
  intro k
  unfold hZ
  repeat' split
  all_goals rfl
 rw [e] at h
 simp only [e (kn _)]
 exact C1 hk r h
theorem vE {ρ:Type} {op:UnOp} {x:AV} {kn:Nat->AV->Option ρ} {kl:AV->Option ρ} (hk:∀ a r,kl a=some r->Ev fun j=>kn j a=some r) (r:ρ) (h:tQ op x kl=some r):Ev fun j=>tQ op x (kn j)=some r:=by
 unfold tQ at h ⊢
 split at h<;>first | exact hk _ _ h | cases h
theorem q_ {α β:Type} {x:Nat->Option α} {xl:Option α} {f:Nat->α->Option β} {g:α->Option β} (hx:∀ a,xl=some a->Ev fun j=>x j=some a) (h:∀ a r,g a=some r->Ev fun j=>f j a=some r) (r:β) (hr:xl.bind g=some r):Ev fun j=>(x j).bind (f j)=some r:=by
 cases xl with
 | none=>cases hr
 | some a=>exact ((hx a rfl).and (h a r hr)).mono fun j hj=>by rw [hj.1]; exact hj.2
theorem xz {ρ:Type} {cal:Nat->GK} {c:GK} {d z:Nat} {x:Cw} {lo hi:Option Cw} {kn:Nat->St->Option ρ} {kl:St->Option ρ} (hk:Conv kn kl) (s:St) (r:ρ) (h:Ed c kl s (.sl d z x lo hi)=some r):Ev fun j=>Ed (cal j) (kn j) s (.sl d z x lo hi)=some r:=by
 simp only [Ed] at h ⊢
 split at h
 ·split at h
  ·rename_i ez
   split at h
   ·split at h
    ·rename_i g1
     split at h
     ·rename_i g2
      split at h
      ·rename_i g3
       simp only [if_pos ez,if_pos g1,if_pos g2,if_pos g3]
       exact hk _ _ h
      ·cases h
     ·cases h
    ·cases h
   ·cases h
  ·cases h
 ·split at h
  ·rename_i ez
   split at h
   ·split at h
    ·rename_i g1
     split at h
     ·rename_i g2
      split at h
      ·rename_i g3
       simp only [if_pos ez,if_pos g1,if_pos g2,if_pos g3]
       exact hk _ _ h
      ·cases h
     ·cases h
    ·cases h
   ·cases h
  ·cases h
 ·cases h
mutual
theorem lE {ρ:Type} {cal:Nat->GK} {c:GK} (hc:UV cal c):∀ (ao:Fc) {kn:Nat->St->Option ρ} {kl:St->Option ρ},Conv kn kl->∀ s r,Ed c kl s ao=some r->Ev fun j=>Ed (cal j) (kn j) s ao=some r
 | .mv d x,kn,kl,hk,s,r,h=>hk _ _ h
 | .nilrow d t K,kn,kl,hk,s,r,h=>hk _ _ h
 | .pick d c a b,kn,kl,hk,s,r,h=>by
  simp only [Ed] at h ⊢
  split at h
  ·split at h<;>rename_i e<;>simp only [e,if_true,if_false,Bool.false_eq_true]<;>exact hk _ _ h
  ·cases h
 | .sc c want ops d a b,kn,kl,hk,s,r,h=>by
  simp only [Ed] at h ⊢
  split at h
  ·split at h
   ·rename_i e
    simp only [e,if_true]
    exact pJ hc ops (kn:=fun j s'=>kn j (s'.put d (if want then s'.opd a else s'.opd b))) (kl:=fun s'=>kl (s'.put d (if want then s'.opd a else s'.opd b))) (fun s r h=>hk _ _ h) s r h
   ·rename_i e
    simp only [if_neg e]
    exact hk _ _ h
  ·cases h
 | .alloc d cs,kn,kl,hk,s,r,h=>hk _ _ h
 | .box d x own,kn,kl,hk,s,r,h=>by
  simp only [Ed] at h ⊢
  exact C1 (fun a r h=>hk _ _ h) r h
 | .build d zero parts,kn,kl,hk,s,r,h=>by
  simp only [Ed] at h ⊢
  exact C1 (fun a r h=>hk _ _ h) r h
 | .bnew d zero parts,kn,kl,hk,s,r,h=>by
  simp only [Ed] at h ⊢
  exact C1 (fun a r h=>hk _ _ h) r h
 | .brow d t K parts,kn,kl,hk,s,r,h=>by
  simp only [Ed] at h ⊢
  exact C1 (fun a r h=>C1 (fun a r h=>hk _ _ h) r h) r h
 | .blst d K parts,kn,kl,hk,s,r,h=>by
  simp only [Ed] at h ⊢
  exact C1 (fun a r h=>C1 (fun a r h=>hk _ _ h) r h) r h
 | .load d x n,kn,kl,hk,s,r,h=>by
  simp only [Ed] at h ⊢
  refine C1 (fun a r h=>?_) r h
  split at h
  ·rename_i e
   simp only [if_pos e]
   exact hk _ _ h
  ·cases h
 | .store x y m own,kn,kl,hk,s,r,h=>by
  simp only [Ed] at h ⊢
  split at h
  ·rename_i e
   simp only [if_pos e]
   exact C1 (fun a r h=>hk _ _ h) r h
  ·cases h
 | .nilc d x,kn,kl,hk,s,r,h=>by
  simp only [Ed] at h ⊢
  split at h<;>first | exact hk _ _ h | cases h
 | .bin d op x y,kn,kl,hk,s,r,h=>by
  simp only [Ed] at h ⊢
  exact t8 (fun a r h=>hk _ _ h) r h
 | .eqs d neg K x y,kn,kl,hk,s,r,h=>by
  simp only [Ed] at h ⊢
  exact C1 (fun a r h=>C1 (fun a r h=>hk _ _ h) r h) r h
 | .un d op x,kn,kl,hk,s,r,h=>by
  simp only [Ed] at h ⊢
  exact vE (fun a r h=>hk _ _ h) r h
 | .cvi d k x,kn,kl,hk,s,r,h=>by
  simp only [Ed] at h ⊢
  split at h<;>first | exact hk _ _ h | cases h
 | .bts d x,kn,kl,hk,s,r,h=>by
  simp only [Ed] at h ⊢
  exact lD (fun a r h=>hk _ _ h) r h
 | .fld d x off,kn,kl,hk,s,r,h=>by
  simp only [Ed] at h ⊢
  split at h<;>first | exact hk _ _ h | cases h
 | .field d x off n,kn,kl,hk,s,r,h=>by
  simp only [Ed] at h ⊢
  split at h
  ·split at h
   ·rename_i e
    simp only [if_pos e]
    exact hk _ _ h
   ·cases h
  ·cases h
 | .idx d z x i,kn,kl,hk,s,r,h=>by
  have e:∀ k:St->Option ρ,Ed (cal 0) k s (.idx d z x i)=(Ed (cal 0) some s (.idx d z x i)).bind k:=by
   intro k
   simp only [Ed]
   repeat' split
   all_goals rfl
  have e2:∀ k:St->Option ρ,∀ c:GK,Ed c k s (.idx d z x i)=Ed (cal 0) k s (.idx d z x i):=fun k c=>by simp only [Ed]
  rw [e2,e] at h
  simp only [e2 (kn _),e (kn _)]
  exact C1 (fun a r h=>hk _ _ h) r h
 | .sidx d x i,kn,kl,hk,s,r,h=>by
  have e:∀ k:St->Option ρ,Ed (cal 0) k s (.sidx d x i)=(Ed (cal 0) some s (.sidx d x i)).bind k:=by
   intro k
   simp only [Ed]
   repeat' split
   all_goals rfl
  have e2:∀ k:St->Option ρ,∀ c:GK,Ed c k s (.sidx d x i)=Ed (cal 0) k s (.sidx d x i):=fun k c=>by simp only [Ed]
  rw [e2,e] at h
  simp only [e2 (kn _),e (kn _)]
  exact C1 (fun a r h=>hk _ _ h) r h
 | .sl d z x lo hi,kn,kl,hk,s,r,h=>xz hk s r h
 | .mk d t K n,kn,kl,hk,s,r,h=>by
  have e:∀ k:St->Option ρ,Ed (cal 0) k s (.mk d t K n)=(Ed (cal 0) some s (.mk d t K n)).bind k:=by
   intro k
   simp only [Ed]
   repeat' split
   all_goals rfl
  have e2:∀ k:St->Option ρ,∀ c:GK,Ed c k s (.mk d t K n)=Ed (cal 0) k s (.mk d t K n):=fun k c=>by simp only [Ed]
  rw [e2,e] at h
  simp only [e2 (kn _),e (kn _)]
  exact C1 (fun a r h=>hk _ _ h) r h
 | .fn d f caps,kn,kl,hk,s,r,h=>hk _ _ h
 | .clo d f K x,kn,kl,hk,s,r,h=>by
  simp only [Ed] at h ⊢
  split at h
  ·exact C1 (fun a r h=>hk _ _ h) r h
  ·cases h
 | .fbox d x,kn,kl,hk,s,r,h=>by
  simp only [Ed] at h ⊢
  exact C1 (fun a r h=>hk _ _ h) r h
 | .min d x y,kn,kl,hk,s,r,h=>by
  simp only [Ed] at h ⊢
  split at h
  ·split at h
   ·rename_i e
    simp only [if_pos e]
    exact hk _ _ h
   ·cases h
  ·cases h
 | .app d e K a b,kn,kl,hk,s,r,h=>by
  simp only [Ed] at h ⊢
  split at h
  ·split at h
   ·rename_i e1
    split at h
    ·rename_i e2
     split at h
     ·rename_i e3
      simp only [e1,dif_pos e2,if_pos e3]
      refine lD (fun a r h=>?_) r h
      split at h
      ·rename_i e4
       simp only [if_pos e4]
       exact hk _ _ h
      ·cases h
     ·cases h
    ·cases h
   ·cases h
  ·cases h
 | .apz d e K a b,kn,kl,hk,s,r,h=>by
  simp only [Ed] at h ⊢
  split at h
  ·split at h
   ·rename_i e1
    split at h
    ·rename_i e2
     split at h
     ·rename_i e3
      simp only [e1,dif_pos e2,if_pos e3]
      refine lD (fun a r h=>?_) r h
      split at h
      ·rename_i e4
       simp only [if_pos e4]
       exact hk _ _ h
      ·cases h
     ·cases h
    ·cases h
   ·cases h
  ·cases h
 | .len d t x,kn,kl,hk,s,r,h=>by
  have e:∀ k:St->Option ρ,Ed (cal 0) k s (.len d t x)=(Ed (cal 0) some s (.len d t x)).bind k:=by
   intro k
   simp only [Ed]
   repeat' split
   all_goals rfl
  have e2:∀ k:St->Option ρ,∀ c:GK,Ed c k s (.len d t x)=Ed (cal 0) k s (.len d t x):=fun k c=>by simp only [Ed]
  rw [e2,e] at h
  simp only [e2 (kn _),e (kn _)]
  exact C1 (fun a r h=>hk _ _ h) r h
 | .call d f args res,kn,kl,hk,s,r,h=>by
  simp only [Ed] at h ⊢
  refine C1 (fun q r h=>C1 (fun bx r h=>?_) r h) r h
  split at h
  ·rename_i e
   simp only [if_pos e]
   refine q_ (fun a ha=>?_) (fun y r h=>?_) r h
   ·exact q_ (f:=fun _=>Cf _) (g:=Cf _) (fun a ha=>hc _ _ _ _ ha) (fun y r h=>.const h) a ha
   ·split at h
    ·rename_i e
     simp only [if_pos e]
     exact hk _ _ h
    ·cases h
  ·cases h
 | .ext d x i,kn,kl,hk,s,r,h=>by
  simp only [Ed] at h ⊢
  split at h
  ·split at h
   ·rename_i e
    simp only [if_pos e]
    exact hk _ _ h
   ·cases h
  ·cases h
theorem pJ {ρ:Type} {cal:Nat->GK} {c:GK} (hc:UV cal c):∀ (aos:List Fc) {kn:Nat->St->Option ρ} {kl:St->Option ρ},Conv kn kl->∀ s r,eo c kl s aos=some r->Ev fun j=>eo (cal j) (kn j) s aos=some r
 | [],kn,kl,hk,s,r,h=>by simp only [eo] at h ⊢; exact hk _ _ h
 | o::os,kn,kl,hk,s,r,h=>by
  simp only [eo] at h ⊢
  exact lE hc o (fun s r h=>pJ hc os hk s r h) s r h
end
theorem Xm {ρ:Type} {cal:Nat->GK} {c:GK} (hc:UV cal c) (anc:List (List Nat)) {kn:Nat->St->Option ρ} {kl:St->Option ρ} (hk:Conv kn kl):∀ (t:DT) (T:List (Nat×Nat)) s r,dK c anc kl t T s=some r->Ev fun j=>dK (cal j) anc (kn j) t T s=some r
 | .done,T,s,r,h=>hk _ _ h
 | .take i g ao d,T,s,r,h=>by
  simp only [dK] at h ⊢
  split at h
  ·rename_i e
   simp only [if_pos e]
   exact lE hc ao (fun s r h=>Xm hc anc hk d _ s r h) s r h
  ·cases h
 | .skip i g d t,T,s,r,h=>by
  simp only [dK] at h ⊢
  split at h
  ·rename_i e
   simp only [if_pos e]
   exact Xm hc anc hk t _ _ r h
  ·cases h
 | .only i g ao e fl d,T,s,r,h=>by
  simp only [dK] at h ⊢
  split at h
  ·rename_i e
   simp only [if_pos e]
   exact lE hc ao (fun s r h=>Xm hc anc hk d _ s r h) s r h
  ·cases h
 | .test c a b,T,s,r,h=>by
  simp only [dK] at h ⊢
  split at h
  ·split at h
   ·rename_i e
    simp only [if_pos e]
    exact Xm hc anc hk a _ _ r h
   ·rename_i e
    simp only [if_neg e]
    exact Xm hc anc hk b _ _ r h
  ·cases h
 | .fork i ai ri j aj rj,T,s,r,h=>by
  simp only [dK] at h ⊢
  obtain ⟨ha,hb⟩:=er.1 h
  have ea:Ev fun n=>(if (HZ ai.dsts T&&UG (anc.getD i []) (ai.touch s) s T)=true then Ed (cal n) (fun s'=>dK (cal n) anc (kn n) ri (Gz (anc.getD i []) T) s') s ai else none)=some r:=by
   split at ha
   ·rename_i e
    simp only [if_pos e]
    exact lE hc ai (fun s r h=>Xm hc anc hk ri _ s r h) s r ha
   ·cases ha
  have eb:Ev fun n=>(if (HZ aj.dsts T&&UG (anc.getD j []) (aj.touch s) s T)=true then Ed (cal n) (fun s'=>dK (cal n) anc (kn n) rj (Gz (anc.getD j []) T) s') s aj else none)=some r:=by
   split at hb
   ·rename_i e
    simp only [if_pos e]
    exact lE hc aj (fun s r h=>Xm hc anc hk rj _ s r h) s r hb
   ·cases hb
  exact (ea.and eb).mono fun n h=>er.2 h
noncomputable def GU {ρ:Type} (cal:GK) (lp:Lp ρ):AH->(kn kr:St->Option ρ)->(ke:Nat->St->Option ρ)->St->Option ρ
 | .skip,kn,_,_,s=>kn s
 | .region ops live,kn,_,_,s=>eo cal (fun s'=>kn ⟨live.map fun t=>(t,FW s'.fr t),s'.st⟩) s ops
 | .draw anc t live,kn,_,_,s=>dK cal anc (fun s'=>kn ⟨live.map fun t=>(t,FW s'.fr t),s'.st⟩) t [] s
 | .seqc live a b,kn,kr,ke,s=>GU cal lp a (fun s'=>GU cal lp b kn kr ke (s'.cutH (DY s live) live s.st.length)) kr ke s
 | .seq a b,kn,kr,ke,s=>GU cal lp a (fun s'=>GU cal lp b kn kr ke s') kr ke s
 | .cond c a b,kn,kr,ke,s=>match s.opd c with
  | .bool t=>if t=true then GU cal lp a kn kr ke s else GU cal lp b kn kr ke s
  | _=>none
 | .block id live body,kn,kr,ke,s=>GU cal lp body (fun s'=>kn (s'.cutH (DY s live) live s.st.length)) kr (fun i s'=>if i=id then kn (s'.cutH (DY s live) live s.st.length) else ke i s') s
 | .loop live body,_,kr,ke,s=>lp (fun go s'=>GU cal lp body (fun s''=>go (s''.cutH (DY s live) live s.st.length)) kr ke s') (s.cut live s.st.length)
 | .exit id,_,_,ke,s=>ke id s
 | .ret,_,kr,_,s=>kr s
theorem PN {ρ:Type} (cal:GK) (k:Nat):∀ (a:AH) (kn kr:St->Option ρ) (ke:Nat->St->Option ρ) (s:St),Gt cal k a kn kr ke s=GU cal (NV k) a kn kr ke s
 | .skip,_,_,_,_=>rfl
 | .region ..,_,_,_,_=>rfl
 | .draw ..,_,_,_,_=>rfl
 | .seqc live a b,kn,kr,ke,s=>by simp only [Gt,GU,PN cal k a,PN cal k b]
 | .seq a b,kn,kr,ke,s=>by simp only [Gt,GU,PN cal k a,PN cal k b]
 | .cond c a b,kn,kr,ke,s=>by
  simp only [Gt,GU,PN cal k a,PN cal k b]
  cases s.opd c<;>rfl
 | .block id live a,kn,kr,ke,s=>by simp only [Gt,GU,PN cal k a]
 | .loop live a,kn,kr,ke,s=>by simp only [Gt,GU,PN cal k a]
 | .exit _,_,_,_,_=>rfl
 | .ret,_,_,_,_=>rfl
theorem II {ρ:Type}:∀ (a:AH) {cal:Nat->GK} {c:GK} {lp:Nat->Lp ρ} {ll:Lp ρ} {kn kr:Nat->St->Option ρ} {kl krl:St->Option ρ} {ke:Nat->Nat->St->Option ρ} {kel:Nat->St->Option ρ},UV cal c->vC lp ll->(∀ j,vC (fun _=>lp j) (lp j)) ->
  Conv kn kl->Conv kr krl->(∀ i,Conv (fun j=>ke j i) (kel i))->Conv (fun j=>GU (cal j) (lp j) a (kn j) (kr j) (ke j)) (GU c ll a kl krl kel)
 | .skip,_,_,_,_,_,_,_,_,_,_,hc,hl,hl',hk,hr,he=>hk
 | .region ops live,_,_,_,_,_,_,_,_,_,_,hc,hl,hl',hk,hr,he=>fun s r h=>pJ hc ops (fun s r h=>hk _ r h) s r h
 | .draw anc t live,_,_,_,_,_,_,_,_,_,_,hc,hl,hl',hk,hr,he=>fun s r h=>Xm hc anc (fun s r h=>hk _ r h) t [] s r h
 | .seqc live a b,_,_,_,_,_,_,_,_,_,_,hc,hl,hl',hk,hr,he=>fun s r h=>II a hc hl hl' (fun s' r h=>II b hc hl hl' hk hr he _ r h) hr he s r h
 | .seq a b,_,_,_,_,_,_,_,_,_,_,hc,hl,hl',hk,hr,he=>fun s r h=>II a hc hl hl' (fun s' r h=>II b hc hl hl' hk hr he _ r h) hr he s r h
 | .cond c a b,_,_,_,_,_,_,_,_,_,_,hc,hl,hl',hk,hr,he=>fun s r h=>by
  simp only [GU] at h ⊢
  split at h
  ·split at h
   ·rename_i e
    simp only [if_pos e]
    exact II a hc hl hl' hk hr he s r h
   ·rename_i e
    simp only [if_neg e]
    exact II b hc hl hl' hk hr he s r h
  ·cases h
 | .block id live a,_,_,_,_,_,_,_,_,_,_,hc,hl,hl',hk,hr,he=>fun s r h=>by
  simp only [GU] at h ⊢
  refine II a hc hl hl' (fun s r h=>hk _ r h) hr (fun i s' r h=>?_) s r h
  split at h
  ·rename_i e
   simp only [if_pos e]
   exact hk _ r h
  ·rename_i e
   simp only [if_neg e]
   exact he i _ r h
 | .loop live a,cal,c,lp,ll,kn,kr,kl,krl,ke,kel,hc,hl,hl',hk,hr,he=>fun s r h=>by
  simp only [GU] at h ⊢
  refine hl _ _ (fun go gl hgo s' r h=>?_) (fun j go gl hgo s' r h=>?_) _ r h
  ·exact II a hc hl hl' (fun s r h=>hgo _ r h) hr he s' r h
  ·exact II (cal:=fun _=>cal j) (lp:=fun _=>lp j) (kn:=fun i s'=>go i (s'.cutH (DY s live) live s.st.length)) (kl:=fun s'=>gl (s'.cutH (DY s live) live s.st.length)) (kr:=fun _=>kr j) (krl:=kr j) (ke:=fun _=>ke j) (kel:=ke j) a (UV.refl _) (hl' j) (fun _=>hl' j) (fun s r h=>hgo _ r h) (Conv.refl _) (fun i=>Conv.refl _) s' r h
 | .exit id,_,_,_,_,_,_,_,_,_,_,hc,hl,hl',hk,hr,he=>fun s r h=>he id s r h
 | .ret,_,_,_,_,_,_,_,_,_,_,hc,hl,hl',hk,hr,he=>hr
theorem t_ {ρ:Type} {cal:GK} {a:AH} {hs:List (Nat×Nat)} {live:List Nat} {n:Nat} {kr:St->Option ρ} {ke:Nat->St->Option ρ} {s:St} {r:ρ}
  (h:GU cal KQ a (fun s''=>KQ (fun go s'=>GU cal KQ a (fun s''=>go (s''.cutH hs live n)) kr ke s') (s''.cutH hs live n)) kr ke s=some r) :
  KQ (fun go s'=>GU cal KQ a (fun s''=>go (s''.cutH hs live n)) kr ke s') s=some r :=
 lC (F:=fun go s'=>GU cal KQ a (fun s''=>go (s''.cutH hs live n)) kr ke s') (fun go gl hgo s' r h=>II (cal:=fun _=>cal) (lp:=fun _=>KQ) (kn:=fun i s'=>go i (s'.cutH hs live n)) (kl:=fun s'=>gl (s'.cutH hs live n)) (kr:=fun _=>kr) (krl:=kr) (ke:=fun _=>ke) (kel:=ke) a (UV.refl _) qz (fun _=>qz) (fun s r h=>hgo _ r h) (Conv.refl _) (fun i=>Conv.refl _) s' r h) h
noncomputable def vF (cal:GK) (fn:BM) (args bs:List AV):Option (RT fn.outs) :=
 GU cal KQ fn.body (AG fn) (AG fn) (fun _ _=>none) ⟨PJ 0 (C9 (E_ bs) args),BS bs args⟩
noncomputable def pK (fns:Nat->Option BM) (prims:GK):GK:=fun f a b=>Lm fun k=>iA fns prims k f a b
theorem Mr {fns:Nat->Option BM} {prims:GK} {f:Nat} {args bs r:List AV} (hf:fns f=none) (h:prims f args bs=some r):pK fns prims f args bs=some r:=by
 refine vA ⟨1,fun k hk=>?_⟩
 cases k with
 | zero=>omega
 | succ k=>simp only [iA,hf,h]
theorem uA {fns:Nat->Option BM} {prims:GK} {f:Nat} {fn:BM} {args bs:List AV} {r:RT fn.outs} (hf:fns f=some fn) (hl:args.length=fn.params.length/\bs.length=(Dv fn.params 0).length)
  (h:vF (pK fns prims) fn args bs=some r):pK fns prims f args bs=some (DX fn.outs r):=by
 have hc:UV (fun k=>iA fns prims k) (pK fns prims):=fun f a b r h=>qx h
 obtain ⟨m,hm⟩:=II (lp:=NV) (ll:=KQ) fn.body (kn:=fun _=>AG fn) (kr:=fun _=>AG fn) (ke:=fun _ _ _=>none) hc vD qy (Conv.refl _) (Conv.refl _) (fun i=>Conv.refl _) _ r h
 refine vA ⟨m+1,fun k hk=>?_⟩
 cases k with
 | zero=>omega
 | succ k =>
  simp only [iA,hf,if_pos hl]
  have:=hm k (by omega)
  simp only [<- PN] at this
  unfold sa
  rw [this]
  rfl
theorem Qt:∀ (K:Kd) (x:K.T) (r:List AV),K.dec (K.enc x++r)=some (x,r)
 | .int k,x,r=>by simp [Kd.enc,Kd.dec]
 | .bool,x,r=>rfl
 | .str,x,r=>rfl
 | .slice e,x,r=>by simp [Kd.enc,Kd.dec]
 | .pair a b,x,r=>by simp [Kd.enc,Kd.dec,List.append_assoc,Qt a,Qt b]
 | .own t e,x,r=>by simp [Kd.enc,Kd.dec]
 | .ref K,x,r=>by
  have:=Qt K x []
  rw [List.append_nil] at this
  simp [Kd.enc,Kd.dec,this]
 | .fun f,x,r=>by simp [Kd.enc,Kd.dec]
 | .clo f K,x,r=>by simp [Kd.enc,Kd.dec]
theorem lF (K:Kd) (x:K.T):K.of (K.av x)=some x:=by
 have h:K.ofCells (K.enc x)=some x:=by
  have:=Qt K x []
  rw [List.append_nil] at this
  simp [Kd.ofCells,this]
 unfold Kd.of
 cases K<;>exact h
theorem lH:∀ (Ks:List Kd) (x:RT Ks),Cf Ks (DX Ks x)=some x
 | [],_=>rfl
 | [K],x=>lF K x
 | K::L::Ks,x=>by
  simp only [DX,Cf,lF,X]
  rw [lH (L::Ks) x.2]
  rfl
theorem sI {fns:Nat->Option BM} {prims:GK} {f:Nat} {fn:BM} {args bs:List AV} {r:RT fn.outs} (hf:fns f=some fn) (hl:args.length=fn.params.length/\bs.length=(Dv fn.params 0).length)
  (h:vF (pK fns prims) fn args bs=some r):(pK fns prims f args bs).bind (Cf fn.outs)=some r:=by
 rw [uA hf hl h,X,lH]
theorem vG {P:Program} {fns:Nat->Option BM} {prims:GK} (ht:uz P fns) (hp:I_ P prims) {f:Nat} {args:List AV} (h:(pK fns prims f args []).bind (Cf [.bool])=some true) {W:World} {cargs:List Value}
  (ha:Al (VE (Z5 W)) args cargs):Calls P f cargs.toArray W fun e W'=>e=.returned (.bool true)/\RowKit.Below W.heap.size W W':=by
 cases hq:pK fns prims f args [] with
 | none=>rw [hq] at h; cases h
 | some v =>
  rw [hq,X] at h
  obtain ⟨m,hm⟩:=qx hq
  have hm:=hm m (Nat.le_refl _)
  have e:v=[.bool true]:=by
   match v,h with
   | [a],h =>
    have h:Kd.of .bool a=some true:=h
    unfold Kd.of Kd.ofCells at h
    cases a<;>simp [AV.cells,Kd.dec,AV.fits] at h<;>first | rw [h] | skip
  subst e
  exact tz ht hp hm ha
def w5 (f:Nat):List (Nat×BM)->Option BM
 | []=>none
 | (g,a)::r=>if g=f then some a else w5 f r
inductive s0 (P:Program):List (Nat×BM)->Prop where
 | nil:s0 P []
 | cons {f:Nat} {a:BM} {r:List (Nat×BM)} (h:At P f a=true) (t:s0 P r):s0 P ((f,a)::r)
theorem uB {P:Program} {tab:List (Nat×BM)} (h:s0 P tab):uz P fun f=>w5 f tab:=by
 intro f a hf
 induction h with
 | nil=>cases hf
 | cons h _ ih =>
  simp only [w5] at hf
  split at hf
  ·rename_i e
   cases hf
   rw [<- e]
   exact h
  ·exact ih hf
end Go.Proofs.YtokiohnjegbnpaaGreat.Core

namespace Go.Proofs.YtokiohnjegbnpaaGreat.Core
open Go IntKind
set_option maxRecDepth 100000
noncomputable section
abbrev AJ:Kd:=(.pair (.int .i64) (.pair .str (.pair .str (.pair (.int .i64) (.pair (.int .i64) (.pair (.int .i64) (.pair (.int .i64) (.pair (.int .i64) .str))))))))
abbrev AD:Type:=Int×ByteArray×ByteArray×Int×Int×Int×Int×Int×ByteArray
abbrev AC:Kd:=(.pair .str (.pair .str (.int .i64)))
abbrev Y:Type:=ByteArray×ByteArray×Int
abbrev K9:Kd:=(.pair (.int .i64) (.pair (.int .i64) (.pair (.int .i64) (.pair AC (.slice (.int .i64))))))
abbrev pL:Type:=Int×Int×Int×Y×List Int
abbrev U:Kd:=(.pair (.int .i64) (.pair (.int .i64) (.pair .bool (.pair .bool (.pair .bool (.pair .bool (.pair (.slice (.int .i64)) (.pair (.slice AC) (.pair (.int .i64) K9)))))))))
abbrev O:Type:=Int×Int×Bool×Bool×Bool×Bool×List Int×List Y×Int×Int×Int×Int×Y×List Int
abbrev AF:Kd:=(.pair (.int .i64) (.pair (.int .i64) (.pair (.int .i64) (.pair (.int .i64) (.pair (.int .i64) (.slice AC))))))
abbrev Z:Type:=Int×Int×Int×Int×Int×List Y
abbrev Ag:Kd:=(.pair (.slice (.slice (.int .i64))) (.pair (.slice U) (.pair (.slice AF) (.slice AJ))))
abbrev AB:Type:=List (List Int)×List O×List Z×List AD
abbrev Ae:Kd:=(.pair (.int .i64) (.pair (.int .i64) (.pair (.int .i64) (.pair (.int .i64) (.pair .str .str)))))
abbrev AY:Type:=Int×Int×Int×Int×ByteArray×ByteArray
abbrev Aa:Kd:=(.pair (.slice (.slice (.int .i64))) (.pair (.own 42 U) (.pair (.own 97 AF) (.own 47 AJ))))
abbrev Ar:Kd:=(.pair (.int .i64) (.pair (.int .i64) (.pair (.int .i64) AC)))
abbrev AE:Type:=Int×Int×Int×ByteArray×ByteArray×Int
abbrev sJ:Kd:=(.pair (.int .i64) (.pair (.int .i64) (.pair (.int .i64) (.pair AC (.own 3 (.int .i64))))))
abbrev Ik:Kd:=(.pair (.int .i64) (.pair (.int .i64) (.pair .bool (.pair .bool (.pair .bool (.pair .bool (.pair (.own 3 (.int .i64)) (.pair (.own 38 AC) (.pair (.int .i64) sJ)))))))))
abbrev aV:Kd:=(.pair (.slice (.slice (.int .i64))) (.slice Ae))
abbrev UW:Type:=List (List Int)×List AY
abbrev BC:Kd:=(.pair (.slice (.int .u8)) (.pair (.int .i64) (.int .i64)))
abbrev AP:Type:=List Int×Int×Int
abbrev Xn:Kd:=(.pair (.slice (.slice (.int .i64))) (.own 55 Ae))
abbrev cS:Kd:=(.pair (.slice (.slice (.int .i64))) (.pair (.own 42 U) (.pair (.slice AF) (.slice AJ))))
def sK:Nat×List PK×List Kd:=(9,[.bor (.slice (.int .u8))],[.bool])
def ic:Nat×List PK×List Kd:=(10,[.val (.slice (.int .u8))],[(.slice (.slice (.int .i64))),(.slice Ae)])
def ie:Nat×List PK×List Kd:=(11,[.val (.slice (.slice (.int .i64))),.val (.slice Ae)],[Ag,(.slice (.int .i64)),.bool])
def N7:Nat×List PK×List Kd:=(13,[.bor U],[.bool])
def UX:Nat×List PK×List Kd:=(17,[.val AJ],[(.int .i64)])
def rA:Nat×List PK×List Kd:=(18,[.val Ag,.val (.int .i64)],[Ag])
def pM:Nat×List PK×List Kd:=(19,[.bor (.slice AJ)],[.bool])
def pN:Nat×List PK×List Kd:=(20,[.bor (.slice AJ)],[.bool])
def pO:Nat×List PK×List Kd:=(21,[.bor (.slice AJ)],[.bool])
def pP:Nat×List PK×List Kd:=(22,[.bor (.slice AJ)],[.bool])
def lI:Nat×List PK×List Kd:=(32,[.ptr BC,.val (.slice (.int .u8))],[aV])
def nb:Nat×List PK×List Kd:=(33,[.val (.slice (.int .u8))],[(.ref BC)])
def ig:Nat×List PK×List Kd:=(34,[.val (.slice (.slice (.int .i64)))],[Aa,.bool])
def lJ:Nat×List PK×List Kd:=(35,[.val Ae],[.bool])
def aW:Nat×List PK×List Kd:=(36,[.ptr Aa,.val Ae,.val (.int .i64)],[.bool])
def nc:Nat×List PK×List Kd:=(37,[.val .bool],[(.int .i64)])
def Ms:Nat×List PK×List Kd:=(38,[.val Ag],[Aa])
def ii:Nat×List PK×List Kd:=(39,[.val (.slice (.slice (.int .i64)))],[Ag,.bool])
def pQ:Nat×List PK×List Kd:=(41,[.ptr Ag,.val (.int .i64),.val Ae],[(.int .i64)])
def GG:Nat×List PK×List Kd:=(43,[.val (.int .i64)],[.bool])
def Am:Nat×List PK×List Kd:=(44,[.val (.int .i64),.val (.int .i64),.val (.int .i64)],[.bool])
def Pn:Nat×List PK×List Kd:=(45,[.bor (.slice (.int .i64)),.val (.int .i64),.val (.int .i64)],[.bool])
def K_:Nat×List PK×List Kd:=(46,[.bor (.slice AC)],[.bool])
def Xo:Nat×List PK×List Kd:=(47,[.ptr U],[.bool])
def NL:Nat×List PK×List Kd:=(48,[.val AJ],[.bool])
def UY:Nat×List PK×List Kd:=(49,[.val AJ],[(.int .i64)])
def Xp:Nat×List PK×List Kd:=(50,[.ptr Ag],[.bool])
def Na:Nat×List PK×List Kd:=(51,[.ptr Aa,.val (.int .i64),.val (.int .i64)],[])
def pR:Nat×List PK×List Kd:=(52,[.bor (.slice AJ),.val AJ],[.bool])
def ne:Nat×List PK×List Kd:=(53,[.val AJ,.val AJ],[.bool])
def As:Nat×List PK×List Kd:=(56,[.val (.int .i64),.val (.int .i64),.val (.int .i64)],[.bool])
def Fb:Nat×List PK×List Kd:=(57,[.bor (.slice (.int .i64)),.val (.int .i64)],[.bool])
def Fo:Nat×List PK×List Kd:=(59,[.bor (.slice (.int .i64)),.val (.int .i64)],[.bool])
def IJ:Nat×List PK×List Kd:=(61,[.ptr BC],[(.int .i64)])
def DR:Nat×List PK×List Kd:=(62,[.ptr BC,.val (.int .i64)],[(.int .i64)])
def ij:Nat×List PK×List Kd:=(63,[.ptr BC],[(.slice (.slice (.int .i64)))])
def lK:Nat×List PK×List Kd:=(64,[.ptr BC,.ptr Ag],[Ae])
def GV:Nat×List PK×List Kd:=(65,[.bor (.slice (.slice (.int .i64)))],[.bool])
def Ss:Nat×List PK×List Kd:=(66,[.val (.slice (.slice (.int .i64)))],[(.slice (.slice (.int .i64)))])
def fQ:Nat×List PK×List Kd:=(67,[.val (.int .i64),.val (.slice (.slice (.int .i64)))],[U,.bool])
def cU:Nat×List PK×List Kd:=(68,[.val (.int .i64),.val (.int .i64),.val .str,.val .str],[.bool])
def aX:Nat×List PK×List Kd:=(69,[.ptr Aa,.val Ae,.val (.int .i64)],[.bool])
def aY:Nat×List PK×List Kd:=(70,[.ptr Aa,.val Ae,.val (.int .i64)],[.bool])
def GO:Nat×List PK×List Kd:=(71,[.ptr Aa,.val (.int .i64)],[(.int .i64)])
def rB:Nat×List PK×List Kd:=(72,[.bor U],[Ik])
def Xq:Nat×List PK×List Kd:=(73,[.ptr Aa,.val Ae,.val (.int .i64)],[.bool])
def Jx:Nat×List PK×List Kd:=(74,[.bor (.slice AJ)],[(.own 47 AJ)])
def Fp:Nat×List PK×List Kd:=(75,[.val U],[U])
def Po:Nat×List PK×List Kd:=(76,[.val AF],[AF])
def IK:Nat×List PK×List Kd:=(77,[.bor (.slice (.slice (.int .i64)))],[.bool])
def Zc:Nat×List PK×List Kd:=(78,[.val (.slice (.slice (.int .i64)))],[(.slice (.slice (.int .i64)))])
def fR:Nat×List PK×List Kd:=(79,[.val (.int .i64),.val (.slice (.slice (.int .i64)))],[U,.bool])
def ik:Nat×List PK×List Kd:=(80,[.ptr Ag,.val (.int .i64),.val Ae],[(.int .i64)])
def il:Nat×List PK×List Kd:=(81,[.ptr Ag,.val (.int .i64),.val (.int .i64)],[(.int .i64)])
def Il:Nat×List PK×List Kd:=(82,[.ptr Ag,.val U,.val (.slice AF),.val (.slice Ar),.val (.int .i64)],[])
def rC:Nat×List PK×List Kd:=(83,[.bor U],[Ik])
def ng:Nat×List PK×List Kd:=(84,[.ptr Ag,.val (.int .i64),.val Ae],[(.int .i64)])
def IL:Nat×List PK×List Kd:=(86,[.val U],[U])
def cV:Nat×List PK×List Kd:=(87,[.val .str],[.bool])
def FY:Nat×List PK×List Kd:=(88,[.mov (.own 97 AF),.val (.int .i64),.val (.int .i64)],[(.own 97 AF)])
def lL:Nat×List PK×List Kd:=(89,[.val U,.val (.slice (.slice (.int .i64))),.val AF],[U,(.slice AF),(.slice Ar)])
def LA:Nat×List PK×List Kd:=(90,[.ptr Aa,.val (.slice AF),.val (.slice Ar),.val (.int .i64)],[])
def HL:Nat×List PK×List Kd:=(91,[.bor (.slice AJ),.val (.clo 92 AJ)],[.bool])
def LB:Nat×List PK×List Kd:=(95,[.bor (.slice (.int .i64)),.val (.int .i64)],[(.int .i64)])
def Qu:Nat×List PK×List Kd:=(96,[.ptr BC,.val (.slice (.int .i64))],[(.int .i64)])
def LC:Nat×List PK×List Kd:=(97,[.ptr BC,.val (.int .i64)],[.bool])
def Xr:Nat×List PK×List Kd:=(98,[.ptr BC,.val (.slice .str)],[.str])
def CX:Nat×List PK×List Kd:=(99,[.bor (.slice (.int .i64))],[(.own 3 (.int .i64))])
def pS:Nat×List PK×List Kd:=(100,[.val U,.val (.slice (.slice (.int .i64))),.val (.int .i64),.val (.int .i64),.val .str,.val .str],[U,(.slice AF),(.slice Ar),.bool])
def pT:Nat×List PK×List Kd:=(101,[.val U,.val (.slice (.slice (.int .i64))),.val (.int .i64)],[U,(.slice AF),.bool])
def G3:Nat×List PK×List Kd:=(102,[.bor (.slice U),.val (.clo 103 (.int .i64))],[(.int .i64)])
def Az:Nat×List PK×List Kd:=(104,[.bor (.slice AC)],[(.own 38 AC)])
def lM:Nat×List PK×List Kd:=(105,[.bor (.slice (.int .i64))],[.bool])
def pU:Nat×List PK×List Kd:=(106,[.val U,.val (.slice (.slice (.int .i64))),.val (.int .i64),.val (.int .i64),.val .str,.val .str],[U,(.slice AF),(.slice Ar),.bool])
def pV:Nat×List PK×List Kd:=(107,[.val U,.val (.slice (.slice (.int .i64))),.val (.int .i64)],[U,(.slice AF),.bool])
def lN:Nat×List PK×List Kd:=(108,[.val U,.val (.slice (.slice (.int .i64))),.val AF],[U,(.slice AF),(.slice Ar)])
def pW:Nat×List PK×List Kd:=(109,[.bor AF],[.bool])
def aZ:Nat×List PK×List Kd:=(110,[.ptr U,.val (.slice (.slice (.int .i64))),.val AF],[(.slice AF),(.slice Ar)])
def IM:Nat×List PK×List Kd:=(111,[.bor (.slice AJ),.val (.clo 92 AJ)],[(.int .i64)])
def UZ:Nat×List PK×List Kd:=(113,[.ptr U,.val (.slice (.slice (.int .i64)))],[.bool])
def Z6:Nat×List PK×List Kd:=(114,[.bor (.slice AC),.val .str],[AC])
def Fq:Nat×List PK×List Kd:=(115,[.ptr U,.val (.slice (.int .i64))],[(.slice (.int .i64))])
def MT:Nat×List PK×List Kd:=(116,[.mut (.own 3 (.int .i64))],[])
def Pp:Nat×List PK×List Kd:=(117,[.ptr U],[(.slice Ar)])
def BV:Nat×List PK×List Kd:=(118,[.ptr U,.val (.slice (.int .i64)),.val AF],[(.slice AF)])
def LD:Nat×List PK×List Kd:=(119,[.ptr U],[])
def LE:Nat×List PK×List Kd:=(120,[.ptr U,.val (.slice (.int .i64)),.val (.slice AC)],[(.slice AF)])
def N8:Nat×List PK×List Kd:=(121,[.bor U],[.bool])
def Z7:Nat×List PK×List Kd:=(122,[.bor (.slice AC),.val .str],[AC])
def Pq:Nat×List PK×List Kd:=(123,[.bor (.slice AC),.val AC],[(.own 38 AC)])
def Su:Nat×List PK×List Kd:=(124,[.val (.slice (.int .i64)),.val (.int .i64)],[(.slice (.int .i64))])
def Sv:Nat×List PK×List Kd:=(125,[.ptr U],[(.slice Ar)])
def Z8:Nat×List PK×List Kd:=(126,[.ptr U,.val (.slice (.int .i64)),.val (.slice AC)],[(.slice AF)])
def pX:Nat×List PK×List Kd:=(127,[.bor AF],[.bool])
def nh:Nat×List PK×List Kd:=(128,[.val U,.val (.slice (.int .i64)),.val AF],[U,(.slice AF),(.slice Ar)])
def Xs:Nat×List PK×List Kd:=(129,[.val U,.val (.int .i64)],[U])
def Jf:Nat×List PK×List Kd:=(130,[.val U,.val AF,.val (.int .i64)],[(.slice AF)])
def aa:Nat×List PK×List Kd:=(131,[.ptr U,.val (.slice (.slice (.int .i64))),.val AF],[(.slice AF)])
def XF:Nat×List PK×List Kd:=(132,[.ptr U,.val (.slice (.int .i64)),.val AF],[(.slice AF)])
def Xt:Nat×List PK×List Kd:=(133,[.val (.slice (.int .i64)),.val (.int .i64)],[(.slice (.int .i64))])
def Zd:Nat×List PK×List Kd:=(134,[.ptr U,.val AF],[(.slice AF)])
def Nb:Nat×List PK×List Kd:=(135,[.ptr U,.val (.int .i64),.val AF],[(.slice Ar)])
def Ef:Nat×List PK×List Kd:=(137,[.mut (.own 3 (.int .i64)),.val (.int .i64),.val (.int .i64),.val (.int .i64)],[])
def im:Nat×List PK×List Kd:=(138,[.val (.int .u64)],[(.int .i64)])
def Xu:Nat×List PK×List Kd:=(139,[.bor (.slice AC),.val AC],[(.own 38 AC)])
def Z9:Nat×List PK×List Kd:=(140,[.bor (.slice (.int .i64))],[.bool])
def LF:Nat×List PK×List Kd:=(141,[.bor (.slice AC)],[.bool])
def fS:Nat×List PK×List Kd:=(142,[.bor K9],[.bool])
def Qv:Nat×List PK×List Kd:=(143,[.val (.slice (.int .i64)),.val (.int .i64)],[(.slice (.int .i64))])
def PO:Nat×List PK×List Kd:=(144,[.mov (.own 3 (.int .i64)),.val (.clo 145 (.int .i64))],[(.own 3 (.int .i64))])
def Kp:Nat×List PK×List Kd:=(148,[.mut (.own 3 (.int .i64)),.val (.int .i64),.val (.int .i64)],[])
def N9:Nat×List PK×List Kd:=(149,[.mut (.own 3 (.int .i64)),.val (.int .i64),.val (.int .i64)],[])
def Kq:Nat×List PK×List Kd:=(150,[.mut (.own 3 (.int .i64)),.val (.int .i64),.val (.int .i64)],[])
def MQ:Nat×List PK×List Kd:=(151,[.mut (.own 3 (.int .i64)),.val (.int .i64),.val (.int .i64)],[(.int .i64),(.int .i64)])
def LG:Nat×List PK×List Kd:=(152,[.mut (.own 3 (.int .i64)),.val (.int .i64),.val (.int .i64)],[])
def Ha:Nat×List PK×List Kd:=(153,[.mut (.own 3 (.int .i64)),.val (.int .i64),.val (.int .i64)],[.bool])
def Xv:Nat×List PK×List Kd:=(154,[.val (.int .i64),.val (.int .i64)],[.bool])
def Jy:Nat×List PK×List Kd:=(155,[.mut (.own 3 (.int .i64)),.val (.int .i64),.val (.int .i64),.val (.int .i64)],[(.int .i64)])
def Nc:Nat×List PK×List Kd:=(156,[.mut (.own 3 (.int .i64)),.val (.int .i64),.val (.int .i64),.val (.int .i64)],[(.int .i64),.bool])
def cW:Nat×List PK×List Kd:=(157,[.val (.int .u32)],[(.int .i64)])
def cX:Nat×List PK×List Kd:=(158,[.val (.int .u64)],[(.int .i64)])
def Eg:Nat×List PK×List Kd:=(159,[.bor (.slice AC),.val .str,.val (.fun 160)],[(.int .i64),.bool])
def cY:Nat×List PK×List Kd:=(161,[.val .str,.val .str],[(.int .i64)])
def JP:Nat×List PK×List Kd:=(162,[.mov (.own 38 AC),.val (.int .i64),.mov (.own 38 AC)],[(.own 38 AC)])
def VD:Nat×List PK×List Kd:=(169,[.val (.int .i64)],[.bool])
abbrev zJ { ρ:Type} (t W:Option ρ):Prop:=∀ { r},t=some r->W=some r
abbrev PP {A0 ρ:Type} (t W:A0->Option ρ):Prop:=∀ {a0 r},t a0=some r->W a0=some r
abbrev Oi {A0 A1 ρ:Type} (t W:A0->A1->Option ρ):Prop:=∀ {a0 a1 r},t a0 a1=some r->W a0 a1=some r
abbrev Qw {A0 A1 A2 ρ:Type} (t W:A0->A1->A2->Option ρ):Prop:=∀ {a0 a1 a2 r},t a0 a1 a2=some r->W a0 a1 a2=some r
abbrev bl {A0 A1 A2 A3 ρ:Type} (t W:A0->A1->A2->A3->Option ρ):Prop:=∀ {a0 a1 a2 a3 r},t a0 a1 a2 a3=some r->W a0 a1 a2 a3=some r
abbrev sL {A0 A1 A2 A3 A4 ρ:Type} (t W:A0->A1->A2->A3->A4->Option ρ):Prop:=∀ {a0 a1 a2 a3 a4 r},t a0 a1 a2 a3 a4=some r->W a0 a1 a2 a3 a4=some r
abbrev uC {A0 A1 A2 A3 A4 A5 ρ:Type} (t W:A0->A1->A2->A3->A4->A5->Option ρ):Prop:=∀ {a0 a1 a2 a3 a4 a5 r},t a0 a1 a2 a3 a4 a5=some r->W a0 a1 a2 a3 a4 a5=some r
abbrev vu {A0 A1 A2 A3 A4 A5 A6 ρ:Type} (t W:A0->A1->A2->A3->A4->A5->A6->Option ρ):Prop:=∀ {a0 a1 a2 a3 a4 a5 a6 r},t a0 a1 a2 a3 a4 a5 a6=some r->W a0 a1 a2 a3 a4 a5 a6=some r
abbrev s_ {A0 A1 A2 A3 A4 A5 A6 A7 ρ:Type} (t W:A0->A1->A2->A3->A4->A5->A6->A7->Option ρ):Prop:=∀ {a0 a1 a2 a3 a4 a5 a6 a7 r},t a0 a1 a2 a3 a4 a5 a6 a7=some r->W a0 a1 a2 a3 a4 a5 a6 a7=some r
abbrev yP {A0 A1 A2 A3 A4 A5 A6 A7 A8 ρ:Type} (t W:A0->A1->A2->A3->A4->A5->A6->A7->A8->Option ρ):Prop:=∀ {a0 a1 a2 a3 a4 a5 a6 a7 a8 r},t a0 a1 a2 a3 a4 a5 a6 a7 a8=some r->W a0 a1 a2 a3 a4 a5 a6 a7 a8=some r
abbrev rD {A0 A1 A2 A3 A4 A5 A6 A7 A8 A9 ρ:Type} (t W:A0->A1->A2->A3->A4->A5->A6->A7->A8->A9->Option ρ):Prop:=∀ {a0 a1 a2 a3 a4 a5 a6 a7 a8 a9 r},t a0 a1 a2 a3 a4 a5 a6 a7 a8 a9=some r->W a0 a1 a2 a3 a4 a5 a6 a7 a8 a9=some r
abbrev y_ {A0 A1 A2 A3 A4 A5 A6 A7 A8 A9 A10 ρ:Type} (t W:A0->A1->A2->A3->A4->A5->A6->A7->A8->A9->A10->Option ρ):Prop:=∀ {a0 a1 a2 a3 a4 a5 a6 a7 a8 a9 a10 r},t a0 a1 a2 a3 a4 a5 a6 a7 a8 a9 a10=some r->W a0 a1 a2 a3 a4 a5 a6 a7 a8 a9 a10=some r
abbrev x_ {A0 A1 A2 A3 A4 A5 A6 A7 A8 A9 A10 A11 ρ:Type} (t W:A0->A1->A2->A3->A4->A5->A6->A7->A8->A9->A10->A11->Option ρ):Prop:=∀ {a0 a1 a2 a3 a4 a5 a6 a7 a8 a9 a10 a11 r},t a0 a1 a2 a3 a4 a5 a6 a7 a8 a9 a10 a11=some r->W a0 a1 a2 a3 a4 a5 a6 a7 a8 a9 a10 a11=some r
abbrev yd {A0 A1 A2 A3 A4 A5 A6 A7 A8 A9 A10 A11 A12 A13 A14 ρ:Type} (t W:A0->A1->A2->A3->A4->A5->A6->A7->A8->A9->A10->A11->A12->A13->A14->Option ρ):Prop:=∀ {a0 a1 a2 a3 a4 a5 a6 a7 a8 a9 a10 a11 a12 a13 a14 r},t a0 a1 a2 a3 a4 a5 a6 a7 a8 a9 a10 a11 a12 a13 a14=some r->W a0 a1 a2 a3 a4 a5 a6 a7 a8 a9 a10 a11 a12 a13 a14=some r

def Sw:AH:=(.seq (.seq (.region [.m 51 11,.f 52 8 3,.l 53 52,.len 54 false (.t 53),.b 55 .lss 51 54] [5,8,9,10,11,55]) (.cond (.t 55) .skip (.exit 2))) (.seq (.block 3 [5,8,9,10,11] (.seq (.region [.f 58 8 3,.l 59 58,.m 60 11,.idx 61 9 (.t 59) (.t 60),.ls 62 61 9,.al 12 AJ,.store (.t 12) (.t 62) 9 false] [5,8,9,10,11,12]) (.seq (.region [.f 63 10 0,.l 64 63,.bin 65 .eql (.t 64) (.i 2),.m 66 65,.sc 66 true [.f 67 10 4,.l 68 67,.bin 69 .geq (.t 68) (.i 0)] 70 (.t 69) (.c (.bool false)),.m 71 70,.sc 71 true [.f 72 12 0,.l 73 72,.bin 74 .eql (.t 73) (.i 1)] 75 (.t 74) (.c (.bool false)),.m 76 75,.sc 76 true [.f 77 12 4,.l 78 77,.bin 79 .geq (.t 78) (.i 0)] 80 (.t 79) (.c (.bool false)),.m 81 80,.sc 81 true [.f 82 12 1,.l 83 82,.f 84 10 1,.l 85 84,.b 86 .eql 83 85] 87 (.t 86) (.c (.bool false)),.m 88 87,.sc 88 true [.f 89 12 4,.l 90 89,.f 91 10 3,.l 92 91,.b 93 .lss 90 92] 94 (.t 93) (.c (.bool false)),.m 95 94,.sc 95 true [.f 96 10 5,.l 97 96,.f 98 12 5,.l 99 98,.b 100 .lss 97 99,.m 101 100,.sc 101 false [.f 102 10 5,.l 103 102,.f 104 12 5,.l 105 104,.b 106 .eql 103 105,.m 107 106,.sc 107 true [.f 108 10 8,.l 109 108,.f 110 12 2,.l 111 110,.b 112 .neq 109 111] 113 (.t 112) (.c (.bool false))] 114 (.c (.bool true)) (.t 113)] 115 (.t 114) (.c (.bool false))] [5,8,9,10,11,115]) (.cond (.t 115) (.seq (.region [.mv 2 (.c (.bool false))] [2]) .ret) .skip)))) (.region [.m 56 11,.bin 57 .add (.t 56) (.i 1),.m 11 57] [5,8,9,10,11])))
def Qx:AH:=(.region [.m 44 9,.bin 45 .add (.t 44) (.i 1),.m 9 45] [5,8,9])
def Qy:AH:=(.seq (.seq (.region [.m 39 9,.f 40 8 3,.l 41 40,.len 42 false (.t 41),.b 43 .lss 39 42] [5,8,9,43]) (.cond (.t 43) .skip (.exit 0))) (.seq (.block 1 [5,8,9] (.seq (.region [.f 46 8 3,.l 47 46,.m 48 9,.idx 49 9 (.t 47) (.t 48),.ls 50 49 9,.al 10 AJ,.store (.t 10) (.t 50) 9 false] [5,8,9,10]) (.seq (.region [.mv 11 (.i 0)] [5,8,9,10,11]) (.block 2 [5,8,9] (.loop [5,8,9,10,11] Sw))))) Qx))
def LH:AH:=(.seq (.region [.f 116 8 3,.l 117 116,.cl 118 [117] pM,.m 119 118,.sc 119 true [.f 120 8 3,.l 121 120,.cl 122 [121] pN] 123 (.t 122) (.c (.bool false)),.m 124 123,.sc 124 true [.f 125 8 3,.l 126 125,.cl 127 [126] pO] 128 (.t 127) (.c (.bool false)),.m 129 128,.sc 129 true [.f 130 8 3,.l 131 130,.cl 132 [131] pP] 133 (.t 132) (.c (.bool false)),.m 134 133,.sc 134 true [.f 135 8 3,.l 136 135,.len 137 false (.t 136),.f 138 5 3,.l 139 138,.len 140 false (.t 139),.b 141 .eql 137 140] 142 (.t 141) (.c (.bool false)),.m 2 142] [2]) .ret)
def Qz:AH:=(.seq (.region [.ls 37 5 4,.cx (some 38) [.t 37,.c (.int .i64 1000)] rA,.al 8 Ag,.store (.t 8) (.t 38) 4 false] [5,8]) (.seq (.seq (.region [.mv 9 (.i 0)] [5,8,9]) (.block 0 [5,8] (.loop [5,8,9] Qy))) LH))
def BT:BM:=⟨[.val (.slice (.int .u8))],[⟨2,false,.bool⟩],(.seq (.region [.mv 2 (.c (.bool false))] [0]) (.seq (.seq (.region [.m 13 0,.cl 14 [13] sK] [0,14]) (.cond (.t 14) (.seq (.region [.mv 2 (.c (.bool true))] [2]) .ret) .skip)) (.seq (.region [.m 16 0,.cl 17 [16] ic,.m 15 17,.ext 18 (.t 15) 0,.ext 19 (.t 15) 1,.m 3 18,.m 4 19] [3,4]) (.seq (.region [.m 21 3,.m 22 4,.cl 23 [21,22] ie,.m 20 23,.ext 24 (.t 20) 0,.ext 25 (.t 20) 1,.ext 26 (.t 20) 2,.al 5 Ag,.store (.t 5) (.t 24) 4 false,.m 6 25,.m 7 26] [3,5,7]) (.seq (.seq (.region [.m 27 7,.un 28 .not (.t 27),.m 29 28,.sc 29 false [.f 30 5 0,.l 31 30,.len 32 false (.t 31),.m 33 3,.len 34 false (.t 33),.b 35 .neq 32 34] 36 (.c (.bool true)) (.t 35)] [5,36]) (.cond (.t 36) (.seq (.region [.mv 2 (.c (.bool false))] [2]) .ret) .skip)) Qz)))))⟩
theorem lO:At Tryz.prog 5 BT=true:=by kernel_rfl
def Ua:BM:=⟨[.val (.slice (.int .u8))],[⟨2,false,.bool⟩],(.seq (.region [.mv 2 (.c (.bool false))] [0]) (.seq (.region [.m 3 0,.len 4 false (.t 3),.bin 5 .gtr (.t 4) (.i 1048576),.m 2 5] [2]) .ret))⟩
theorem sM:At Tryz.prog 9 Ua=true:=by kernel_rfl
def Jg:BM:=⟨[.val (.slice (.int .u8))],[⟨2,false,(.slice (.slice (.int .i64)))⟩,⟨3,false,(.slice Ae)⟩],(.seq (.region [.mv 2 (.c (.nil)),.mv 3 (.c (.nil))] [0]) (.seq (.region [.m 5 0,.cl 6 [5] nb,.m 7 0,.cl 8 [6,7] lI,.al 4 aV,.store (.t 4) (.t 8) 2 false] [4]) (.seq (.draw (E2 6 [(2,[]),(4,[1]),(5,[3,4])]) (.tk 6 [.m 3 12,.m 2 10,.l 12 11,.f 11 4 1,.l 10 9,.f 9 4 0] .done) [2,3]) .ret)))⟩
theorem ip:At Tryz.prog 10 Jg=true:=by kernel_rfl
def Q0:AH:=(.seq (.region [.b 31 .lss 30 29] [1,4,7,28,29,30,31]) (.seq (.cond (.t 31) .skip (.exit 0)) (.seq (.block 1 [1,4,7,28,29,30] (.seq (.region [.idx 32 6 (.t 28) (.t 30),.ls 33 32 6,.al 10 Ae,.store (.t 10) (.t 33) 6 false] [1,4,7,10,28,29,30]) (.seq (.region [.ls 34 10 6,.cl 35 [34] lJ,.un 36 .not (.t 35)] [1,4,7,28,29,30,36]) (.cond (.t 36) (.seq (.region [.build 37 [.nil,.nil,.nil,.nil] [],.store (.t 4) (.t 37) 4 false,.mv 5 (.c (.nil)),.mv 6 (.c (.bool false))] [4,5,6]) .ret) .skip)))) (.region [.bin 38 .add (.t 30) (.i 1),.m 30 38] [1,4,7,28,29,30]))))
def Pr:AH:=(.seq (.region [.b 42 .lss 41 40] [4,7,11,39,40,41,42]) (.seq (.cond (.t 42) .skip (.exit 2)) (.seq (.block 3 [4,7,11,39,40,41] (.seq (.region [.m 43 41,.idx 44 6 (.t 39) (.t 41),.ls 45 44 6,.al 13 Ae,.m 12 43,.store (.t 13) (.t 45) 6 false] [4,7,11,12,13,39,40,41]) (.seq (.region [.ls 46 13 6,.m 47 12,.cl 48 [7,46,47] aW,.m 14 48] [4,7,11,14,39,40,41]) (.region [.m 49 11,.m 50 14,.cl 51 [50] nc,.blst 52 (.int .i64) [.t 51],.app 53 3 (.int .i64) (.t 49) (.t 52),.m 11 53] [4,7,11,39,40,41])))) (.region [.bin 54 .add (.t 41) (.i 1),.m 41 54] [4,7,11,39,40,41]))))
def Ps:AH:=(.seq (.region [.ls 55 7 4,.cl 56 [55] Ms,.m 57 11,.store (.t 4) (.t 56) 4 false,.m 5 57,.mv 6 (.c (.bool true))] [4,5,6]) .ret)
def Jz:AH:=(.seq (.region [.nilrow 11 3 (.int .i64)] [1,4,7,11]) (.seq (.seq (.region [.m 39 1,.len 40 false (.t 39),.mv 41 (.i 0)] [4,7,11,39,40,41]) (.block 2 [4,7,11] (.loop [4,7,11,39,40,41] Pr))) Ps))
def Pt:AH:=(.seq (.seq (.region [.m 28 1,.len 29 false (.t 28),.mv 30 (.i 0)] [1,4,7,28,29,30]) (.block 0 [1,4,7] (.loop [1,4,7,28,29,30] Q0))) Jz)
def BA:BM:=⟨[.val (.slice (.slice (.int .i64))),.val (.slice Ae)],[⟨4,true,Ag⟩,⟨5,false,(.slice (.int .i64))⟩,⟨6,false,.bool⟩],(.seq (.region [.al 4 Aa,.mv 5 (.c (.nil)),.mv 6 (.c (.bool false))] [0,1,4]) (.seq (.region [.m 16 0,.cl 17 [16] ig,.m 15 17,.ext 18 (.t 15) 0,.ext 19 (.t 15) 1,.al 7 Aa,.store (.t 7) (.t 18) 4 false,.m 8 19] [1,4,7,8]) (.seq (.seq (.region [.m 20 8,.un 21 .not (.t 20),.m 22 21,.sc 22 false [.m 23 1,.len 24 false (.t 23),.bin 25 .gtr (.t 24) (.i 70)] 26 (.c (.bool true)) (.t 25)] [1,4,7,26]) (.cond (.t 26) (.seq (.region [.build 27 [.nil,.nil,.nil,.nil] [],.store (.t 4) (.t 27) 4 false,.mv 5 (.c (.nil)),.mv 6 (.c (.bool false))] [4,5,6]) .ret) .skip)) Pt)))⟩
theorem iq:At Tryz.prog 11 BA=true:=by kernel_rfl
def Q1:AH:=(.seq (.seq (.region [.f 31 1 5,.l 32 31,.m 33 32,.sc 33 true [.f 34 1 3,.l 35 34,.un 36 .not (.t 35),.m 37 36,.sc 37 false [.f 38 1 4,.l 39 38,.un 40 .not (.t 39)] 41 (.c (.bool true)) (.t 40),.m 42 41,.sc 42 false [.f 43 1 6,.l 44 43,.len 45 false (.t 44),.bin 46 .gtr (.t 45) (.i 0)] 47 (.c (.bool true)) (.t 46)] 48 (.t 47) (.c (.bool false)),.m 49 48,.sc 49 false [.f 50 1 2,.l 51 50,.m 52 51,.sc 52 true [.f 53 1 3,.l 54 53,.m 55 54,.sc 55 false [.f 56 1 4,.l 57 56] 58 (.c (.bool true)) (.t 57)] 59 (.t 58) (.c (.bool false))] 60 (.c (.bool true)) (.t 59)] [1,60]) (.cond (.t 60) (.seq (.region [.mv 2 (.c (.bool false))] [2]) .ret) .skip)) (.seq (.region [.cl 61 [1] Xo,.m 2 61] [2]) .ret))
def Fd:BM:=⟨[.val U],[⟨2,false,.bool⟩],(.seq (.region [.box 1 (.t 0) false,.mv 2 (.c (.bool false))] [1]) (.seq (.seq (.region [.f 3 1 0,.l 4 3,.cl 5 [4] GG,.un 6 .not (.t 5),.m 7 6,.sc 7 false [.f 8 1 1,.l 9 8,.cx (some 10) [.t 9,.c (.int .i64 1),.c (.int .i64 9)] Am,.un 11 .not (.t 10)] 12 (.c (.bool true)) (.t 11),.m 13 12,.sc 13 false [.f 14 1 6,.l 15 14,.cx (some 16) [.t 15,.c (.int .i64 1),.c (.int .i64 6)] Pn,.un 17 .not (.t 16)] 18 (.c (.bool true)) (.t 17),.m 19 18,.sc 19 false [.f 20 1 7,.l 21 20,.cl 22 [21] K_,.un 23 .not (.t 22)] 24 (.c (.bool true)) (.t 23),.m 25 24,.sc 25 false [.f 26 1 8,.l 27 26,.cx (some 28) [.t 27,.c (.int .i64 0),.c (.int .i64 900)] Am,.un 29 .not (.t 28)] 30 (.c (.bool true)) (.t 29)] [1,30]) (.cond (.t 30) (.seq (.region [.mv 2 (.c (.bool false))] [2]) .ret) .skip)) Q1))⟩
theorem ir:At Tryz.prog 13 Fd=true:=by kernel_rfl
def PQ:BM:=⟨[.val AJ],[⟨2,false,(.int .i64)⟩],(.seq (.region [.box 1 (.t 0) false,.mv 2 (.i 0)] [1]) (.seq (.seq (.region [.f 3 1 6,.l 4 3,.cx (some 5) [.t 4,.c (.int .i64 0),.c (.int .i64 9)] Am,.un 6 .not (.t 5),.m 7 6,.sc 7 false [.f 8 1 7,.l 9 8,.cx (some 10) [.t 9,.c (.int .i64 0),.c (.int .i64 999)] Am,.un 11 .not (.t 10)] 12 (.c (.bool true)) (.t 11)] [1,12]) (.cond (.t 12) (.seq (.region [.mv 2 (.i 0)] [2]) .ret) .skip)) (.seq (.region [.f 13 1 6,.l 14 13,.bin 15 .mul (.i 1000) (.t 14),.f 16 1 7,.l 17 16,.b 18 .add 15 17,.m 2 18] [2]) .ret)))⟩
theorem pY:At Tryz.prog 17 PQ=true:=by kernel_rfl
def Z_:AH:=(.seq (.seq (.region [.m 14 6,.bin 15 .gtr (.t 14) (.i 0),.m 16 15,.sc 16 true [.f 17 5 2,.l 18 17,.len 19 false (.t 18),.bin 20 .gtr (.t 19) (.i 0)] 21 (.t 20) (.c (.bool false))] [4,5,6,21]) (.cond (.t 21) .skip (.exit 0))) (.seq (.block 1 [4,5,6] (.region [.cx (some 24) [.t 5,.c (.int .i64 0),.c (.int .i64 70)] Na] [4,5,6])) (.region [.m 22 6,.bin 23 .sub (.t 22) (.i 1),.m 6 23] [4,5,6])))
def aA:AH:=(.seq (.region [.ls 25 5 4,.cl 26 [25] Ms,.store (.t 4) (.t 26) 4 false] [4]) .ret)
def Gv:BM:=⟨[.val Ag,.val (.int .i64)],[⟨4,true,Ag⟩],(.seq (.region [.box 2 (.t 0) true,.al 4 Aa] [1,2,4]) (.seq (.region [.ls 7 2 4,.cl 8 [7] Ms,.al 5 Aa,.store (.t 5) (.t 8) 4 false] [1,2,4,5]) (.seq (.seq (.region [.cl 9 [2] Xp,.un 10 .not (.t 9)] [1,4,5,10]) (.cond (.t 10) (.seq (.region [.ls 11 5 4,.store (.t 4) (.t 11) 4 false] [4]) .ret) .skip)) (.seq (.seq (.region [.m 12 1,.min 13 (.t 12) (.i 1000),.m 6 13] [4,5,6]) (.block 0 [4,5] (.loop [4,5,6] Z_))) aA))))⟩
theorem rE:At Tryz.prog 18 Gv=true:=by kernel_rfl
def Xw:AH:=(.seq (.seq (.region [.f 19 4 5,.l 20 19,.bin 21 .eql (.t 20) (.i 0)] [0,4,5,6,7,21]) (.cond (.t 21) (.seq (.seq (.region [.f 22 4 8,.l 23 22,.bin 24 .neq (.t 23) (.c (.str ⟨#[]⟩))] [0,5,6,7,24]) (.cond (.t 24) (.seq (.region [.mv 2 (.c (.bool false))] [2]) .ret) .skip)) (.exit 1)) .skip)) (.seq (.draw (E2 11 [(1,[]),(2,[0,1]),(7,[4]),(9,[6,8])]) (.tk 2 [.ls 26 4 9,.m 25 0] (.only 2 none (.cl 27 [25,26] pR) false [] (.tk 5 [.m 29 28,.un 28 .not (.t 27)] (.test 29 (.sk 29 false 5 10 35 (.tk 11 [.pick 35 (.t 29) (.c (.bool true)) (.t 34)] .done)) (.tg 29 false 8 [.ls 32 4 9,.l 31 30,.f 30 4 5] (.only 8 (some (29,false)) (.cl 33 [32] UX) false [] (.tg 29 false 10 [.b 34 .gtr 31 33] (.tk 11 [.pick 35 (.t 29) (.c (.bool true)) (.t 34)] .done)))))))) [0,5,6,7,35]) (.cond (.t 35) (.seq (.region [.mv 2 (.c (.bool false))] [2]) .ret) .skip)))
def Xx:AH:=(.region [.bin 36 .add (.t 7) (.i 1),.m 7 36] [0,5,6,7])
def VG:AH:=(.seq (.region [.b 8 .lss 7 6] [0,5,6,7,8]) (.seq (.cond (.t 8) .skip (.exit 0)) (.seq (.block 1 [0,5,6,7] (.seq (.region [.idx 9 9 (.t 5) (.t 7),.ls 10 9 9,.al 4 AJ,.store (.t 4) (.t 10) 9 false] [0,4,5,6,7]) (.seq (.seq (.region [.f 11 4 0,.l 12 11,.bin 13 .neq (.t 12) (.i 2),.m 14 13,.sc 14 false [.ls 15 4 9,.cl 16 [15] NL,.un 17 .not (.t 16)] 18 (.c (.bool true)) (.t 17)] [0,4,5,6,7,18]) (.cond (.t 18) (.exit 1) .skip)) Xw))) Xx)))
def VH:AH:=(.seq (.region [.mv 2 (.c (.bool true))] [2]) .ret)
def Dp:BM:=⟨[.val (.slice AJ)],[⟨2,false,.bool⟩],(.seq (.region [.mv 2 (.c (.bool false))] [0]) (.seq (.seq (.region [.m 5 0,.len 6 false (.t 5),.mv 7 (.i 0)] [0,5,6,7]) (.block 0 [] (.loop [0,5,6,7] VG))) VH))⟩
theorem pZ:At Tryz.prog 19 Dp=true:=by kernel_rfl
def Xy:AH:=(.seq (.seq (.region [.m 31 6,.m 32 0,.len 33 false (.t 32),.b 34 .lss 31 33] [0,3,4,5,6,34]) (.cond (.t 34) .skip (.exit 2))) (.seq (.block 3 [0,3,4,5,6] (.draw (E2 10 [(3,[1]),(4,[1]),(5,[3,4]),(7,[2,6])]) (.tk 2 [.m 38 37,.m 37 5] (.test 38 (.sk 38 false 6 8 45 (.tk 10 [.m 5 45,.pick 45 (.t 38) (.c (.bool true)) (.t 44)] .done)) (.tg 38 false 7 [.ls 43 42 9,.idx 42 9 (.t 40) (.t 41),.m 41 6,.m 40 0,.ls 39 4 9] (.only 7 (some (38,false)) (.cl 44 [39,43] ne) false [] (.tk 10 [.m 5 45,.pick 45 (.t 38) (.c (.bool true)) (.t 44)] .done))))) [0,3,4,5,6])) (.region [.m 35 6,.bin 36 .add (.t 35) (.i 1),.m 6 36] [0,3,4,5,6])))
def N_:AH:=(.seq (.draw (E2 9 [(5,[2]),(7,[4,6])]) (.tk 3 [.m 48 47,.un 47 .not (.t 46),.m 46 5] (.test 48 (.sk 48 false 5 8 54 (.tk 9 [.pick 54 (.t 48) (.c (.bool true)) (.t 53)] .done)) (.tg 48 false 6 [.ls 51 4 9,.l 50 49,.f 49 4 5] (.only 6 (some (48,false)) (.cl 52 [51] UY) false [] (.tg 48 false 8 [.b 53 .gtr 50 52] (.tk 9 [.pick 54 (.t 48) (.c (.bool true)) (.t 53)] .done)))))) [0,3,54]) (.cond (.t 54) (.seq (.region [.mv 2 (.c (.bool false))] [2]) .ret) .skip))
def VI:AH:=(.seq (.seq (.region [.f 25 4 5,.l 26 25,.bin 27 .eql (.t 26) (.i 0)] [0,3,4,27]) (.cond (.t 27) (.seq (.seq (.region [.f 28 4 8,.l 29 28,.bin 30 .neq (.t 29) (.c (.str ⟨#[]⟩))] [0,3,30]) (.cond (.t 30) (.seq (.region [.mv 2 (.c (.bool false))] [2]) .ret) .skip)) (.exit 1)) .skip)) (.seq (.region [.mv 5 (.c (.bool false))] [0,3,4,5]) (.seq (.seq (.region [.mv 6 (.i 0)] [0,3,4,5,6]) (.block 2 [0,3,4,5] (.loop [0,3,4,5,6] Xy))) N_)))
def VJ:AH:=(.region [.m 11 3,.bin 12 .add (.t 11) (.i 1),.m 3 12] [0,3])
def VK:AH:=(.seq (.seq (.region [.m 7 3,.m 8 0,.len 9 false (.t 8),.b 10 .lss 7 9] [0,3,10]) (.cond (.t 10) .skip (.exit 0))) (.seq (.block 1 [0,3] (.seq (.region [.m 13 0,.m 14 3,.idx 15 9 (.t 13) (.t 14),.ls 16 15 9,.al 4 AJ,.store (.t 4) (.t 16) 9 false] [0,3,4]) (.seq (.seq (.region [.f 17 4 0,.l 18 17,.bin 19 .neq (.t 18) (.i 2),.m 20 19,.sc 20 false [.f 21 4 4,.l 22 21,.bin 23 .lss (.t 22) (.i 0)] 24 (.c (.bool true)) (.t 23)] [0,3,4,24]) (.cond (.t 24) (.exit 1) .skip)) VI))) VJ))
def VL:AH:=(.seq (.region [.mv 2 (.c (.bool true))] [2]) .ret)
def CJ:BM:=⟨[.val (.slice AJ)],[⟨2,false,.bool⟩],(.seq (.region [.mv 2 (.c (.bool false))] [0]) (.seq (.seq (.region [.mv 3 (.i 0)] [0,3]) (.block 0 [] (.loop [0,3] VK))) VL))⟩
theorem pa:At Tryz.prog 20 CJ=true:=by kernel_rfl
def VM:DT:=(.sk 47 true 5 25 53 (.tk 27 [.m 7 53,.pick 53 (.t 47) (.t 52) (.c (.bool false))] .done))
def VN:DT:=(.sk 43 true 2 18 46 (.tk 20 [.m 47 46,.pick 46 (.t 43) (.t 45) (.c (.bool false))] VM))
def VO:DT:=(.tg 36 true 14 [.b 41 .eql 38 40,.l 40 39,.f 39 4 1,.l 38 37,.f 37 6 1] (.tk 16 [.m 43 42,.pick 42 (.t 36) (.t 41) (.c (.bool false))] (.test 43 (.tg 43 true 17 [.ls 44 6 9] (.only 17 (some (43,true)) (.cl 45 [44] NL) false [] (.tk 20 [.m 47 46,.pick 46 (.t 43) (.t 45) (.c (.bool false))] (.test 47 (.tg 47 true 21 [.ls 48 6 9] (.tg 47 true 23 [.ls 50 4 9] (.only 21 (some (47,true)) (.cl 49 [48] UX) false [] (.only 23 (some (47,true)) (.cl 51 [50] UX) false [] (.tg 47 true 25 [.b 52 .lss 49 51] (.tk 27 [.m 7 53,.pick 53 (.t 47) (.t 52) (.c (.bool false))] .done)))))) VM)))) VN)))
def VP:AH:=(.seq (.region [.m 54 7,.m 55 54,.sc 55 true [.f 56 4 5,.l 57 56,.f 58 6 5,.l 59 58,.b 60 .lss 57 59] 61 (.t 60) (.c (.bool false))] [0,4,8,9,10,22,23,24,61]) (.cond (.t 61) (.seq (.region [.mv 2 (.c (.bool false))] [2]) .ret) .skip))
def VQ:AH:=(.region [.bin 62 .add (.t 24) (.i 1),.m 24 62] [0,4,8,9,10,22,23,24])
def VR:AH:=(.seq (.region [.b 25 .lss 24 23] [0,4,8,9,10,22,23,24,25]) (.seq (.cond (.t 25) .skip (.exit 2)) (.seq (.block 3 [0,4,8,9,10,22,23,24] (.seq (.region [.idx 26 9 (.t 22) (.t 24),.ls 27 26 9,.al 6 AJ,.store (.t 6) (.t 27) 9 false] [0,4,6,8,9,10,22,23,24]) (.seq (.draw (E2 27 [(11,[8]),(13,[10,12]),(22,[19]),(23,[21,22])]) (.tk 4 [.m 31 30,.bin 30 .eql (.t 29) (.i 1),.l 29 28,.f 28 6 0] (.test 31 (.sk 31 false 3 7 35 (.tk 9 [.m 36 35,.pick 35 (.t 31) (.c (.bool true)) (.t 34)] VO)) (.tg 31 false 7 [.bin 34 .eql (.t 33) (.i 2),.l 33 32,.f 32 6 0] (.tk 9 [.m 36 35,.pick 35 (.t 31) (.c (.bool true)) (.t 34)] (.test 36 VO (.sk 36 true 5 14 42 (.tk 16 [.m 43 42,.pick 42 (.t 36) (.t 41) (.c (.bool false))] VN))))))) [0,4,6,7,8,9,10,22,23,24]) VP))) VQ)))
def VS:AH:=(.region [.bin 63 .add (.t 10) (.i 1),.m 10 63] [0,8,9,10])
def VT:AH:=(.seq (.region [.b 11 .lss 10 9] [0,8,9,10,11]) (.seq (.cond (.t 11) .skip (.exit 0)) (.seq (.block 1 [0,8,9,10] (.seq (.region [.idx 12 9 (.t 8) (.t 10),.ls 13 12 9,.al 4 AJ,.store (.t 4) (.t 13) 9 false] [0,4,8,9,10]) (.seq (.seq (.region [.f 14 4 0,.l 15 14,.bin 16 .neq (.t 15) (.i 2),.m 17 16,.sc 17 false [.ls 18 4 9,.cl 19 [18] NL,.un 20 .not (.t 19)] 21 (.c (.bool true)) (.t 20)] [0,4,8,9,10,21]) (.cond (.t 21) (.exit 1) .skip)) (.seq (.region [.m 22 0,.len 23 false (.t 22),.mv 24 (.i 0)] [0,4,8,9,10,22,23,24]) (.block 2 [0,8,9,10] (.loop [0,4,8,9,10,22,23,24] VR)))))) VS)))
def VU:AH:=(.seq (.region [.mv 2 (.c (.bool true))] [2]) .ret)
def CY:BM:=⟨[.val (.slice AJ)],[⟨2,false,.bool⟩],(.seq (.region [.mv 2 (.c (.bool false))] [0]) (.seq (.seq (.region [.m 8 0,.len 9 false (.t 8),.mv 10 (.i 0)] [0,8,9,10]) (.block 0 [] (.loop [0,8,9,10] VT))) VU))⟩
theorem pb:At Tryz.prog 21 CY=true:=by kernel_rfl
def Xz:DT:=(.sk 54 true 5 33 60 (.tk 34 [.pick 60 (.t 54) (.t 59) (.c (.bool false))] .done))
def VV:DT:=(.sk 47 true 5 26 53 (.tk 28 [.m 54 53,.pick 53 (.t 47) (.t 52) (.c (.bool false))] Xz))
def VX:DT:=(.sk 40 true 5 19 46 (.tk 21 [.m 47 46,.pick 46 (.t 40) (.t 45) (.c (.bool false))] VV))
def VY:DT:=(.sk 35 true 3 12 39 (.tk 14 [.m 40 39,.pick 39 (.t 35) (.t 38) (.c (.bool false))] VX))
def VZ:AH:=(.seq (.seq (.region [.m 13 4,.m 14 0,.len 15 false (.t 14),.b 16 .lss 13 15] [0,3,4,16]) (.cond (.t 16) .skip (.exit 2))) (.seq (.block 3 [0,3,4] (.seq (.region [.m 19 0,.m 20 3,.idx 21 9 (.t 19) (.t 20),.ls 22 21 9,.al 5 AJ,.store (.t 5) (.t 22) 9 false] [0,3,4,5]) (.seq (.region [.m 23 0,.m 24 4,.idx 25 9 (.t 23) (.t 24),.ls 26 25 9,.al 6 AJ,.store (.t 6) (.t 26) 9 false] [0,3,4,5,6]) (.seq (.draw (E2 34 [(16,[13]),(18,[15,17]),(23,[20]),(24,[22,23]),(30,[27]),(32,[29,31])]) (.tk 4 [.m 30 29,.bin 29 .eql (.t 28) (.i 2),.l 28 27,.f 27 5 0] (.test 30 (.tg 30 true 7 [.bin 33 .geq (.t 32) (.i 0),.l 32 31,.f 31 5 4] (.tk 9 [.m 35 34,.pick 34 (.t 30) (.t 33) (.c (.bool false))] (.test 35 (.tg 35 true 12 [.bin 38 .geq (.t 37) (.i 0),.l 37 36,.f 36 6 4] (.tk 14 [.m 40 39,.pick 39 (.t 35) (.t 38) (.c (.bool false))] (.test 40 (.tg 40 true 19 [.b 45 .eql 42 44,.l 44 43,.f 43 5 1,.l 42 41,.f 41 6 1] (.tk 21 [.m 47 46,.pick 46 (.t 40) (.t 45) (.c (.bool false))] (.test 47 (.tg 47 true 22 [.ls 48 6 9] (.tg 47 true 24 [.ls 50 5 9] (.only 22 (some (47,true)) (.cl 49 [48] UY) false [] (.only 24 (some (47,true)) (.cl 51 [50] UY) false [] (.tg 47 true 26 [.b 52 .lss 49 51] (.tk 28 [.m 54 53,.pick 53 (.t 47) (.t 52) (.c (.bool false))] (.test 54 (.tg 54 true 33 [.b 59 .gtr 56 58,.l 58 57,.f 57 5 5,.l 56 55,.f 55 6 5] (.tk 34 [.pick 60 (.t 54) (.t 59) (.c (.bool false))] .done)) Xz))))))) VV))) VX))) VY))) (.sk 30 true 3 7 34 (.tk 9 [.m 35 34,.pick 34 (.t 30) (.t 33) (.c (.bool false))] VY)))) [0,3,4,60]) (.cond (.t 60) (.seq (.region [.mv 2 (.c (.bool false))] [2]) .ret) .skip))))) (.region [.m 17 4,.bin 18 .add (.t 17) (.i 1),.m 4 18] [0,3,4])))
def Va:AH:=(.region [.m 11 3,.bin 12 .add (.t 11) (.i 1),.m 3 12] [0,3])
def Vb:AH:=(.seq (.seq (.region [.m 7 3,.m 8 0,.len 9 false (.t 8),.b 10 .lss 7 9] [0,3,10]) (.cond (.t 10) .skip (.exit 0))) (.seq (.block 1 [0,3] (.seq (.region [.mv 4 (.i 0)] [0,3,4]) (.block 2 [0,3] (.loop [0,3,4] VZ)))) Va))
def Vc:AH:=(.seq (.region [.mv 2 (.c (.bool true))] [2]) .ret)
def DE:BM:=⟨[.val (.slice AJ)],[⟨2,false,.bool⟩],(.seq (.region [.mv 2 (.c (.bool false))] [0]) (.seq (.seq (.region [.mv 3 (.i 0)] [0,3]) (.block 0 [] (.loop [0,3] Vb))) Vc))⟩
theorem pd:At Tryz.prog 22 DE=true:=by kernel_rfl
def Sx:AH:=(.seq (.seq (.region [.m 26 9,.m 27 8,.b 28 .lss 26 27] [0,4,5,6,8,9,28]) (.cond (.t 28) .skip (.exit 0))) (.seq (.block 1 [0,4,5,6,8,9] (.seq (.region [.m 31 0,.cl 32 [31,6] lK,.al 10 Ae,.store (.t 10) (.t 32) 6 false] [0,4,5,6,8,9,10]) (.seq (.region [.m 33 9,.ls 34 10 6,.cl 35 [6,33,34] pQ] [0,4,5,6,8,9,10]) (.region [.f 36 5 1,.l 37 36,.ls 38 10 6,.blst 39 Ae [.t 38],.app 40 55 Ae (.t 37) (.t 39),.f 41 5 1,.store (.t 41) (.t 40) 1 false] [0,4,5,6,8,9])))) (.region [.m 29 9,.bin 30 .add (.t 29) (.i 1),.m 9 30] [0,4,5,6,8,9])))
def Sy:AH:=(.seq (.region [.ls 42 5 2,.store (.t 4) (.t 42) 2 false] [4]) .ret)
def Dy:BM:=⟨[.ptr BC,.val (.slice (.int .u8))],[⟨4,true,aV⟩],(.seq (.region [.al 4 Xn] [0,1,4]) (.seq (.region [.m 11 0,.cl 12 [11] ij,.build 13 [.nil,.nil] [(0,1,.t 12)],.al 5 Xn,.store (.t 5) (.t 13) 2 false] [0,1,4,5]) (.seq (.region [.f 15 5 0,.l 16 15,.cl 17 [16] ii,.m 14 17,.ext 18 (.t 14) 0,.ext 19 (.t 14) 1,.al 6 Ag,.store (.t 6) (.t 18) 4 false,.m 7 19] [0,1,4,5,6]) (.seq (.region [.m 20 1,.len 21 false (.t 20),.bin 22 .quo (.t 21) (.i 4),.bin 23 .add (.i 20) (.t 22),.m 8 23] [0,4,5,6,8]) (.seqc [0,4,5,6,8] (.seq (.region [.m 24 8,.bin 25 .gtr (.t 24) (.i 69)] [0,4,5,6,8,25]) (.cond (.t 25) (.region [.mv 8 (.i 69)] [0,4,5,6,8]) .skip)) (.seq (.seq (.region [.mv 9 (.i 0)] [0,4,5,6,8,9]) (.block 0 [4,5] (.loop [0,4,5,6,8,9] Sx))) Sy))))))⟩
theorem lP:At Tryz.prog 32 Dy=true:=by kernel_rfl
def Vd:AH:=(.seq (.block 1 [0,3,4] (.region [.m 18 3,.bin 19 .mul (.t 18) (.i 131),.m 20 0,.m 21 4,.idx 22 1 (.t 20) (.t 21),.l 23 22,.cvi 24 .i64 (.t 23),.b 25 .add 19 24,.bin 26 .add (.t 25) (.i 7),.bin 27 .and (.t 26) (.i 1073741823),.m 3 27] [0,3,4])) (.region [.m 16 4,.bin 17 .add (.t 16) (.i 1),.m 4 17] [0,3,4]))
def Ve:AH:=(.seq (.seq (.region [.m 8 4,.m 9 0,.len 10 false (.t 9),.b 11 .lss 8 10,.m 12 11,.sc 12 true [.m 13 4,.bin 14 .lss (.t 13) (.i 4000)] 15 (.t 14) (.c (.bool false))] [0,3,4,15]) (.cond (.t 15) .skip (.exit 0))) Vd)
def Vf:AH:=(.seq (.region [.m 28 0,.m 29 3,.bu 30 BC [(0,1,.t 28),(2,1,.t 29)],.box 31 (.t 30) false,.m 2 31] [2]) .ret)
def Dq:BM:=⟨[.val (.slice (.int .u8))],[⟨2,false,(.ref BC)⟩],(.seq (.region [.mv 2 (.c (.undef))] [0]) (.seq (.region [.m 5 0,.len 6 false (.t 5),.bin 7 .add (.i 14301) (.t 6),.m 3 7] [0,3]) (.seq (.seq (.region [.mv 4 (.i 0)] [0,3,4]) (.block 0 [0,3] (.loop [0,3,4] Ve))) Vf)))⟩
theorem ni:At Tryz.prog 33 Dq=true:=by kernel_rfl
def Q2:AH:=(.seq (.seq (.region [.m 15 5,.bin 16 .leq (.t 15) (.i 6)] [0,2,4,5,16]) (.cond (.t 16) .skip (.exit 0))) (.seq (.block 1 [0,2,4,5] (.seq (.region [.m 20 5,.m 21 0,.cl 22 [20,21] fQ,.m 19 22,.ext 23 (.t 19) 0,.ext 24 (.t 19) 1,.al 6 U,.store (.t 6) (.t 23) 16 false,.m 7 24] [0,2,4,5,6]) (.region [.f 25 4 1,.l 26 25,.ls 27 6 16,.blst 28 U [.t 27],.app 29 42 U (.t 26) (.t 28),.f 30 4 1,.store (.t 30) (.t 29) 1 false] [0,2,4,5]))) (.region [.m 17 5,.bin 18 .add (.t 17) (.i 1),.m 5 18] [0,2,4,5])))
def Q3:AH:=(.seq (.region [.ls 31 4 4,.store (.t 2) (.t 31) 4 false,.mv 3 (.c (.bool true))] [2,3]) .ret)
def DS:BM:=⟨[.val (.slice (.slice (.int .i64)))],[⟨2,true,Aa⟩,⟨3,false,.bool⟩],(.seq (.region [.al 2 Aa,.mv 3 (.c (.bool false))] [0,2]) (.seq (.seq (.region [.m 8 0,.cl 9 [8] GV,.un 10 .not (.t 9)] [0,2,10]) (.cond (.t 10) (.seq (.region [.build 11 [.nil,.nil,.nil,.nil] [],.store (.t 2) (.t 11) 4 false,.mv 3 (.c (.bool false))] [2,3]) .ret) .skip)) (.seq (.region [.m 12 0,.cl 13 [12] Ss,.build 14 [.nil,.nil,.nil,.nil] [(0,1,.t 13)],.al 4 Aa,.store (.t 4) (.t 14) 4 false] [0,2,4]) (.seq (.seq (.region [.mv 5 (.i 1)] [0,2,4,5]) (.block 0 [2,4] (.loop [0,2,4,5] Q2))) Q3))))⟩
theorem iu:At Tryz.prog 34 DS=true:=by kernel_rfl
def Sz:AH:=(.seq (.seq (.region [.f 18 1 0,.l 19 18,.bin 20 .eql (.t 19) (.i 1)] [1,20]) (.cond (.t 20) (.seq (.region [.f 21 1 3,.l 22 21,.f 23 1 4,.l 24 23,.f 25 1 5,.l 26 25,.cx (some 27) [.t 22,.c (.int .i64 0),.t 24,.t 26] cU,.m 2 27] [2]) .ret) .skip)) (.seq (.region [.f 28 1 3,.l 29 28,.bin 30 .eql (.t 29) (.i 0),.m 31 30,.sc 31 true [.f 32 1 4,.l 33 32,.bin 34 .eql (.t 33) (.c (.str ⟨#[]⟩))] 35 (.t 34) (.c (.bool false)),.m 36 35,.sc 36 true [.f 37 1 5,.l 38 37,.bin 39 .eql (.t 38) (.c (.str ⟨#[]⟩))] 40 (.t 39) (.c (.bool false)),.m 2 40] [2]) .ret))
def GW:BM:=⟨[.val Ae],[⟨2,false,.bool⟩],(.seq (.region [.box 1 (.t 0) false,.mv 2 (.c (.bool false))] [1]) (.seq (.seq (.region [.f 3 1 0,.l 4 3,.cx (some 5) [.t 4,.c (.int .i64 1),.c (.int .i64 6)] Am,.un 6 .not (.t 5),.m 7 6,.sc 7 false [.f 8 1 1,.l 9 8,.cl 10 [9] GG,.un 11 .not (.t 10)] 12 (.c (.bool true)) (.t 11),.m 13 12,.sc 13 false [.f 14 1 2,.l 15 14,.bin 16 .lss (.t 15) (.i 0)] 17 (.c (.bool true)) (.t 16)] [1,17]) (.cond (.t 17) (.seq (.region [.mv 2 (.c (.bool false))] [2]) .ret) .skip)) Sz))⟩
theorem lQ:At Tryz.prog 35 GW=true:=by kernel_rfl
def G4:BM:=⟨[.ptr Aa,.val Ae,.val (.int .i64)],[⟨6,false,.bool⟩],(.seq (.region [.box 4 (.t 1) false,.mv 6 (.c (.bool false))] [0,2,4]) (.seq (.seq (.region [.f 8 4 0,.l 9 8] [0,2,4,9]) (.block 0 [0,2,4] (.seq (.region [.bin 11 .eql (.t 9) (.i 1),.m 10 11] [0,2,4,9,10]) (.cond (.t 10) (.seq (.region [.m 12 0,.ls 13 4 6,.m 14 2,.cl 15 [12,13,14] aX,.m 6 15] [6]) .ret) (.seq (.region [.bin 17 .eql (.t 9) (.i 5),.m 16 17] [0,2,4,9,16]) (.cond (.t 16) (.seq (.region [.m 18 0,.ls 19 4 6,.m 20 2,.cl 21 [18,19,20] aY,.m 6 21] [6]) .ret) (.seq (.region [.bin 23 .eql (.t 9) (.i 6),.m 22 23] [0,2,4,22]) (.cond (.t 22) (.seq (.region [.m 24 0,.f 25 4 1,.l 26 25,.cl 27 [24,26] GO,.m 7 27] [0,7]) (.seq (.draw (E2 15 [(4,[]),(5,[]),(9,[]),(10,[8,9]),(13,[3,4,12])]) (.tk 12 [.ls 39 38 16,.idx 38 16 (.t 36) (.t 37),.m 37 7,.l 36 35,.f 35 34 1,.n 34 33,.m 33 0,.m 32 7,.l 31 30,.f 30 29 1,.n 29 28,.m 28 0] (.only 12 none (.cl 40 [39] rB) false [] (.tk 14 [.idx 41 16 (.t 31) (.t 32)] (.only 14 none (.store (.t 41) (.t 40) 16 false) false [] .done)))) []) (.seq (.region [.mv 6 (.c (.bool true))] [6]) .ret))) .skip)))))))) (.seq (.region [.m 42 0,.ls 43 4 6,.m 44 2,.cl 45 [42,43,44] Xq,.m 6 45] [6]) .ret)))⟩
theorem ae:At Tryz.prog 36 G4=true:=by kernel_rfl
def NM:BM:=⟨[.val .bool],[⟨2,false,(.int .i64)⟩],(.seq (.region [.mv 2 (.i 0)] [0]) (.seq (.seq (.region [.m 3 0] [3]) (.cond (.t 3) (.seq (.region [.mv 2 (.i 0)] [2]) .ret) .skip)) (.seq (.region [.mv 2 (.i 1)] [2]) .ret)))⟩
theorem nj:At Tryz.prog 37 NM=true:=by kernel_rfl
def Pu:AH:=(.seq (.region [.b 19 .lss 18 17] [1,2,3,16,17,18,19]) (.seq (.cond (.t 19) .skip (.exit 0)) (.seq (.block 1 [1,2,3,16,17,18] (.seq (.region [.idx 20 16 (.t 16) (.t 18),.ls 21 20 16,.al 5 U,.store (.t 5) (.t 21) 16 false] [1,2,3,5,16,17,18]) (.draw (E2 8 [(2,[]),(5,[1,4])]) (.tk 3 [.ls 24 5 16,.l 23 22,.f 22 3 1] (.only 3 none (.cl 25 [24] Fp) false [] (.only 4 none (.blst 26 U [.t 25]) false [] (.only 5 none (.app 27 42 U (.t 23) (.t 26)) false [] (.tk 7 [.f 28 3 1] (.only 7 none (.store (.t 28) (.t 27) 1 false) false [] .done)))))) [1,2,3,16,17,18]))) (.region [.bin 29 .add (.t 18) (.i 1),.m 18 29] [1,2,3,16,17,18]))))
def Oj:AH:=(.seq (.region [.b 34 .lss 33 32] [2,3,31,32,33,34]) (.seq (.cond (.t 34) .skip (.exit 2)) (.seq (.block 3 [2,3,31,32,33] (.seq (.region [.idx 35 6 (.t 31) (.t 33),.ls 36 35 6,.al 7 AF,.store (.t 7) (.t 36) 6 false] [2,3,7,31,32,33]) (.draw (E2 8 [(2,[]),(5,[1,4])]) (.tk 3 [.ls 39 7 6,.l 38 37,.f 37 3 2] (.only 3 none (.cl 40 [39] Po) false [] (.only 4 none (.blst 41 AF [.t 40]) false [] (.only 5 none (.app 42 97 AF (.t 38) (.t 41)) false [] (.tk 7 [.f 43 3 2] (.only 7 none (.store (.t 43) (.t 42) 1 false) false [] .done)))))) [2,3,31,32,33]))) (.region [.bin 44 .add (.t 33) (.i 1),.m 33 44] [2,3,31,32,33]))))
def Ok:AH:=(.seq (.region [.ls 45 3 4,.store (.t 2) (.t 45) 4 false] [2]) .ret)
def JA:AH:=(.seq (.seq (.region [.f 30 1 2,.l 31 30,.len 32 false (.t 31),.mv 33 (.i 0)] [2,3,31,32,33]) (.block 2 [2,3] (.loop [2,3,31,32,33] Oj))) Ok)
def BI:BM:=⟨[.val Ag],[⟨2,true,Aa⟩],(.seq (.region [.box 1 (.t 0) true,.al 2 Aa] [1,2]) (.seq (.draw (E2 9 [(3,[]),(5,[2,4]),(7,[]),(8,[6,7])]) (.tk 2 [.l 9 8,.f 8 1 0] (.tk 5 [.l 12 11,.f 11 1 3] (.only 2 none (.cl 10 [9] Ss) false [(7,.al 3 Aa)] (.only 5 none (.cl 13 [12] Jx) false [(7,.al 3 Aa)] (.tk 7 [.build 14 [.nil,.nil,.nil,.nil] [(0,1,.t 10),(3,1,.t 13)]] (.only 7 none (.al 3 Aa) true [] (.only 8 none (.store (.t 3) (.t 14) 4 false) false [] .done))))))) [1,2,3]) (.seq (.seq (.region [.f 15 1 1,.l 16 15,.len 17 false (.t 16),.mv 18 (.i 0)] [1,2,3,16,17,18]) (.block 0 [1,2,3] (.loop [1,2,3,16,17,18] Pu))) JA)))⟩
theorem fT:At Tryz.prog 38 BI=true:=by kernel_rfl
def Q4:AH:=(.seq (.seq (.region [.m 15 5,.bin 16 .leq (.t 15) (.i 6)] [0,2,4,5,16]) (.cond (.t 16) .skip (.exit 0))) (.seq (.block 1 [0,2,4,5] (.seq (.region [.m 20 5,.m 21 0,.cl 22 [20,21] fR,.m 19 22,.ext 23 (.t 19) 0,.ext 24 (.t 19) 1,.al 6 U,.store (.t 6) (.t 23) 16 false,.m 7 24] [0,2,4,5,6]) (.region [.f 25 4 1,.l 26 25,.ls 27 6 16,.blst 28 U [.t 27],.app 29 42 U (.t 26) (.t 28),.f 30 4 1,.store (.t 30) (.t 29) 1 false] [0,2,4,5]))) (.region [.m 17 5,.bin 18 .add (.t 17) (.i 1),.m 5 18] [0,2,4,5])))
def Q5:AH:=(.seq (.region [.ls 31 4 4,.store (.t 2) (.t 31) 4 false,.mv 3 (.c (.bool true))] [2,3]) .ret)
def DU:BM:=⟨[.val (.slice (.slice (.int .i64)))],[⟨2,true,Ag⟩,⟨3,false,.bool⟩],(.seq (.region [.al 2 cS,.mv 3 (.c (.bool false))] [0,2]) (.seq (.seq (.region [.m 8 0,.cl 9 [8] IK,.un 10 .not (.t 9)] [0,2,10]) (.cond (.t 10) (.seq (.region [.build 11 [.nil,.nil,.nil,.nil] [],.store (.t 2) (.t 11) 4 false,.mv 3 (.c (.bool false))] [2,3]) .ret) .skip)) (.seq (.region [.m 12 0,.cl 13 [12] Zc,.build 14 [.nil,.nil,.nil,.nil] [(0,1,.t 13)],.al 4 cS,.store (.t 4) (.t 14) 4 false] [0,2,4]) (.seq (.seq (.region [.mv 5 (.i 1)] [0,2,4,5]) (.block 0 [2,4] (.loop [0,2,4,5] Q4))) Q5))))⟩
theorem iv:At Tryz.prog 39 DU=true:=by kernel_rfl
def PR:BM:=⟨[.ptr Ag,.val (.int .i64),.val Ae],[⟨6,false,(.int .i64)⟩],(.seq (.region [.box 5 (.t 2) false,.mv 6 (.i 0)] [0,1,5]) (.seq (.seq (.region [.f 7 5 0,.l 8 7] [0,1,5,8]) (.block 0 [0,1,5] (.seq (.region [.bin 10 .eql (.t 8) (.i 1),.m 9 10] [0,1,5,8,9]) (.cond (.t 9) (.seq (.region [.m 11 0,.m 12 1,.ls 13 5 6,.cl 14 [11,12,13] ik,.m 6 14] [6]) .ret) (.seq (.region [.bin 16 .eql (.t 8) (.i 5),.m 15 16] [0,1,5,8,15]) (.cond (.t 15) (.seq (.region [.m 17 0,.m 18 1,.f 19 5 1,.l 20 19,.cl 21 [17,18,20] il,.m 6 21] [6]) .ret) (.seq (.region [.bin 23 .eql (.t 8) (.i 6),.m 22 23] [0,1,5,22]) (.cond (.t 22) (.seq (.draw (E2 15 [(1,[]),(5,[]),(8,[4,7]),(11,[]),(12,[]),(13,[]),(14,[0,10,11,12,13])]) (.tk 10 [.ls 33 32 16,.idx 32 16 (.t 28) (.t 31),.bin 31 .sub (.t 30) (.i 1),.l 30 29,.f 29 5 1,.l 28 27,.f 27 26 1,.n 26 25,.m 25 0,.m 24 0] (.tk 14 [.m 37 1] (.only 10 none (.cl 34 [33] rC) false [(11,.brow 35 97 AF []),(12,.brow 36 126 Ar [])] (.only 11 none (.brow 35 97 AF []) true [(12,.brow 36 126 Ar [])] (.only 12 none (.brow 36 126 Ar []) true [] (.only 14 none (.cl 38 [24,34,35,36,37] Il) false [] .done)))))) []) (.seq (.region [.mv 6 (.i 0)] [6]) .ret)) .skip)))))))) (.seq (.region [.m 39 0,.m 40 1,.ls 41 5 6,.cl 42 [39,40,41] ng,.m 6 42] [6]) .ret)))⟩
theorem pe:At Tryz.prog 41 PR=true:=by kernel_rfl
def NN:BM:=⟨[.val (.int .i64)],[⟨2,false,.bool⟩],(.seq (.region [.mv 2 (.c (.bool false))] [0]) (.seq (.region [.m 3 0,.cx (some 4) [.t 3,.c (.int .i64 1),.c (.int .i64 6)] Am,.m 2 4] [2]) .ret))⟩
theorem nl:At Tryz.prog 43 NN=true:=by kernel_rfl
def LI:BM:=⟨[.val (.int .i64),.val (.int .i64),.val (.int .i64)],[⟨6,false,.bool⟩],(.seq (.region [.mv 6 (.c (.bool false))] [0,1,2]) (.seq (.region [.m 7 0,.m 8 1,.b 9 .geq 7 8,.m 10 9,.sc 10 true [.m 11 0,.m 12 2,.b 13 .leq 11 12] 14 (.t 13) (.c (.bool false)),.m 6 14] [6]) .ret))⟩
theorem lR:At Tryz.prog 44 LI=true:=by kernel_rfl
def Nd:AH:=(.seq (.region [.b 12 .lss 11 10] [0,1,2,9,10,11,12]) (.seq (.cond (.t 12) .skip (.exit 0)) (.seq (.block 1 [0,1,2,9,10,11] (.seq (.region [.m 13 11,.idx 14 1 (.t 9) (.t 11),.l 15 14,.m 7 13,.m 8 15] [0,1,2,7,8,9,10,11]) (.seq (.region [.m 16 8,.m 17 1,.m 18 2,.cl 19 [16,17,18] Am,.un 20 .not (.t 19),.m 21 20,.sc 21 false [.m 22 7,.bin 23 .gtr (.t 22) (.i 0),.m 24 23,.sc 24 true [.m 25 8,.m 26 0,.m 27 7,.bin 28 .sub (.t 27) (.i 1),.idx 29 1 (.t 26) (.t 28),.l 30 29,.b 31 .leq 25 30] 32 (.t 31) (.c (.bool false))] 33 (.c (.bool true)) (.t 32)] [0,1,2,9,10,11,33]) (.cond (.t 33) (.seq (.region [.mv 6 (.c (.bool false))] [6]) .ret) .skip)))) (.region [.bin 34 .add (.t 11) (.i 1),.m 11 34] [0,1,2,9,10,11]))))
def Nf:AH:=(.seq (.region [.mv 6 (.c (.bool true))] [6]) .ret)
def CO:BM:=⟨[.val (.slice (.int .i64)),.val (.int .i64),.val (.int .i64)],[⟨6,false,.bool⟩],(.seq (.region [.mv 6 (.c (.bool false))] [0,1,2]) (.seq (.seq (.region [.m 9 0,.len 10 false (.t 9),.mv 11 (.i 0)] [0,1,2,9,10,11]) (.block 0 [] (.loop [0,1,2,9,10,11] Nd))) Nf))⟩
theorem af:At Tryz.prog 45 CO=true:=by kernel_rfl
def Q6:DT:=(.sk 28 false 3 20 32 (.sk 31 true 9 29 41 (.sk 28 false 1 30 42 (.tk 31 [.pick 42 (.t 28) (.c (.bool true)) (.t 41)] .done))))
def Q7:DT:=(.sk 22 false 4 15 27 (.tk 17 [.m 28 27,.pick 27 (.t 22) (.c (.bool true)) (.t 26)] Q6))
def Q8:DT:=(.tg 28 false 30 [.pick 41 (.t 31) (.t 40) (.c (.bool false))] (.tk 31 [.pick 42 (.t 28) (.c (.bool true)) (.t 41)] .done))
def Q9:AH:=(.seq (.region [.b 8 .lss 7 6] [0,5,6,7,8]) (.seq (.cond (.t 8) .skip (.exit 0)) (.seq (.block 1 [0,5,6,7] (.seq (.region [.m 9 7,.idx 10 3 (.t 5) (.t 7),.ls 11 10 3,.al 4 AC,.m 3 9,.store (.t 4) (.t 11) 3 false] [0,3,4,5,6,7]) (.seq (.draw (E2 31 [(22,[19]),(23,[19]),(25,[22,24]),(28,[21,27])]) (.tk 2 [.l 13 12,.f 12 4 0] (.only 2 none (.cl 14 [13] cV) false [] (.tk 5 [.m 16 15,.un 15 .not (.t 14)] (.test 16 (.sk 16 false 4 9 21 (.tk 11 [.m 22 21,.pick 21 (.t 16) (.c (.bool true)) (.t 20)] Q7)) (.tg 16 false 9 [.bin 20 .gtr (.t 19) (.i 20),.len 19 true (.t 18),.l 18 17,.f 17 4 1] (.tk 11 [.m 22 21,.pick 21 (.t 16) (.c (.bool true)) (.t 20)] (.test 22 Q7 (.tg 22 false 13 [.l 24 23,.f 23 4 2] (.only 13 (some (22,false)) (.cx (some 25) [.t 24,.c (.int .i64 1),.c (.int .i64 1000000000)] Am) false [] (.tg 22 false 15 [.un 26 .not (.t 25)] (.tk 17 [.m 28 27,.pick 27 (.t 22) (.c (.bool true)) (.t 26)] (.test 28 Q6 (.tg 28 false 20 [.m 31 30,.bin 30 .gtr (.t 29) (.i 0),.m 29 3] (.test 31 (.tg 31 true 29 [.b 40 .leq 33 39,.l 39 38,.f 38 37 0,.idx 37 3 (.t 34) (.t 36),.bin 36 .sub (.t 35) (.i 1),.m 35 3,.m 34 0,.l 33 32,.f 32 4 0] Q8) (.sk 31 true 9 29 41 Q8))))))))))))))) [0,5,6,7,42]) (.cond (.t 42) (.seq (.region [.mv 2 (.c (.bool false))] [2]) .ret) .skip)))) (.region [.bin 43 .add (.t 7) (.i 1),.m 7 43] [0,5,6,7]))))
def Q_:AH:=(.seq (.region [.m 44 0,.len 45 false (.t 44),.bin 46 .leq (.t 45) (.i 12),.m 2 46] [2]) .ret)
def Dz:BM:=⟨[.val (.slice AC)],[⟨2,false,.bool⟩],(.seq (.region [.mv 2 (.c (.bool false))] [0]) (.seq (.seq (.region [.m 5 0,.len 6 false (.t 5),.mv 7 (.i 0)] [0,5,6,7]) (.block 0 [0] (.loop [0,5,6,7] Q9))) Q_))⟩
theorem lT:At Tryz.prog 46 Dz=true:=by kernel_rfl
def Fs:BM:=⟨[.ptr U],[⟨2,false,.bool⟩],(.seq (.region [.mv 2 (.c (.bool false))] [0]) (.seq (.region [.m 4 0,.n 5 4,.f 6 5 9,.ls 7 6 7,.al 3 K9,.store (.t 3) (.t 7) 7 false] [0,3]) (.seq (.seq (.region [.f 8 3 0,.l 9 8,.bin 10 .eql (.t 9) (.i 0)] [0,3,10]) (.cond (.t 10) (.seq (.region [.f 11 3 1,.l 12 11,.bin 13 .eql (.t 12) (.i 0),.m 14 13,.sc 14 true [.f 15 3 2,.l 16 15,.bin 17 .eql (.t 16) (.i 0)] 18 (.t 17) (.c (.bool false)),.m 19 18,.sc 19 true [.f 20 3 3,.ls 21 20 3,.bu 22 AC [],.eqs 23 false AC (.t 21) (.t 22)] 24 (.t 23) (.c (.bool false)),.m 25 24,.sc 25 true [.f 26 3 6,.l 27 26,.len 28 false (.t 27),.bin 29 .eql (.t 28) (.i 0)] 30 (.t 29) (.c (.bool false)),.m 2 30] [2]) .ret) .skip)) (.seq (.region [.f 31 3 0,.l 32 31,.cx (some 33) [.t 32,.c (.int .i64 1),.c (.int .i64 2)] Am,.m 34 33,.sc 34 true [.m 35 0,.n 36 35,.f 37 36 5,.l 38 37] 39 (.t 38) (.c (.bool false)),.m 40 39,.sc 40 true [.f 41 3 1,.l 42 41,.cx (some 43) [.t 42,.c (.int .i64 0),.c (.int .i64 1000)] Am] 44 (.t 43) (.c (.bool false)),.m 45 44,.sc 45 true [.f 46 3 2,.l 47 46,.cx (some 48) [.t 47,.c (.int .i64 1),.c (.int .i64 900)] Am] 49 (.t 48) (.c (.bool false)),.m 50 49,.sc 50 true [.f 51 3 6,.l 52 51,.cx (some 53) [.t 52,.c (.int .i64 1),.c (.int .i64 6)] Pn] 54 (.t 53) (.c (.bool false)),.m 2 54] [2]) .ret))))⟩
theorem X0:At Tryz.prog 47 Fs=true:=by kernel_rfl
def NO:BM:=⟨[.val AJ],[⟨2,false,.bool⟩],(.seq (.region [.box 1 (.t 0) false,.mv 2 (.c (.bool false))] [1]) (.seq (.region [.f 3 1 4,.l 4 3,.bin 5 .geq (.t 4) (.i 0),.m 2 5] [2]) .ret))⟩
theorem nn:At Tryz.prog 48 NO=true:=by kernel_rfl
def PS:BM:=⟨[.val AJ],[⟨2,false,(.int .i64)⟩],(.seq (.region [.box 1 (.t 0) false,.mv 2 (.i 0)] [1]) (.seq (.seq (.region [.f 3 1 6,.l 4 3,.cx (some 5) [.t 4,.c (.int .i64 0),.c (.int .i64 9)] As,.un 6 .not (.t 5),.m 7 6,.sc 7 false [.f 8 1 7,.l 9 8,.cx (some 10) [.t 9,.c (.int .i64 0),.c (.int .i64 999)] As,.un 11 .not (.t 10)] 12 (.c (.bool true)) (.t 11)] [1,12]) (.cond (.t 12) (.seq (.region [.mv 2 (.i 0)] [2]) .ret) .skip)) (.seq (.region [.f 13 1 6,.l 14 13,.bin 15 .mul (.i 1000) (.t 14),.f 16 1 7,.l 17 16,.b 18 .add 15 17,.m 2 18] [2]) .ret)))⟩
theorem pf:At Tryz.prog 49 PS=true:=by kernel_rfl
def LJ:AH:=(.seq (.region [.b 13 .lss 12 11] [0,10,11,12,13]) (.seq (.cond (.t 13) .skip (.exit 0)) (.seq (.block 1 [0,10,11,12] (.seq (.region [.m 14 12,.idx 15 16 (.t 10) (.t 12),.ls 16 15 16,.al 4 U,.m 3 14,.store (.t 4) (.t 16) 16 false] [0,3,4,10,11,12]) (.seq (.region [.f 17 4 0,.l 18 17,.m 19 3,.bin 20 .add (.t 19) (.i 1),.b 21 .neq 18 20] [0,10,11,12,21]) (.cond (.t 21) (.seq (.region [.mv 2 (.c (.bool false))] [2]) .ret) .skip)))) (.region [.bin 22 .add (.t 12) (.i 1),.m 12 22] [0,10,11,12]))))
def KR:AH:=(.seq (.region [.b 29 .lss 28 27] [0,26,27,28,29]) (.seq (.cond (.t 29) .skip (.exit 2)) (.seq (.block 3 [0,26,27,28] (.seq (.region [.idx 30 6 (.t 26) (.t 28),.ls 31 30 6,.al 6 AF,.store (.t 6) (.t 31) 6 false] [0,6,26,27,28]) (.seq (.region [.f 32 6 2,.l 33 32,.cl 34 [33] GG,.un 35 .not (.t 34)] [0,26,27,28,35]) (.cond (.t 35) (.seq (.region [.mv 2 (.c (.bool false))] [2]) .ret) .skip)))) (.region [.bin 36 .add (.t 28) (.i 1),.m 28 36] [0,26,27,28]))))
def GX:AH:=(.seq (.region [.m 37 0,.n 38 37,.f 39 38 1,.l 40 39,.len 41 false (.t 40),.bin 42 .eql (.t 41) (.i 6),.m 43 42,.sc 43 true [.m 44 0,.n 45 44,.f 46 45 0,.l 47 46,.cl 48 [47] GV] 49 (.t 48) (.c (.bool false)),.m 2 49] [2]) .ret)
def GY:AH:=(.seq (.seq (.region [.m 23 0,.n 24 23,.f 25 24 2,.l 26 25,.len 27 false (.t 26),.mv 28 (.i 0)] [0,26,27,28]) (.block 2 [0] (.loop [0,26,27,28] KR))) GX)
def Ad:BM:=⟨[.ptr Ag],[⟨2,false,.bool⟩],(.seq (.region [.mv 2 (.c (.bool false))] [0]) (.seq (.seq (.region [.m 7 0,.n 8 7,.f 9 8 1,.l 10 9,.len 11 false (.t 10),.mv 12 (.i 0)] [0,10,11,12]) (.block 0 [0] (.loop [0,10,11,12] LJ))) GY))⟩
theorem X1:At Tryz.prog 50 Ad=true:=by kernel_rfl
def Ft:BM:=⟨[.ptr Aa,.val (.int .i64),.val (.int .i64)],[],(.seq (.region [.m 11 0,.n 12 11,.f 13 12 2,.l 14 13,.m 15 1,.idx 16 6 (.t 14) (.t 15),.ls 17 16 6,.al 6 AF,.store (.t 6) (.t 17) 6 false] [0,1,2,6]) (.seq (.region [.m 18 0,.m 19 0,.n 20 19,.f 21 20 2,.l 22 21,.m 23 1,.m 24 1,.bin 25 .add (.t 24) (.i 1),.cl 26 [22,23,25] FY,.n 27 18,.f 28 27 2,.store (.t 28) (.t 26) 1 false] [0,2,6]) (.seq (.region [.m 29 0,.f 30 6 2,.l 31 30,.cl 32 [29,31] GO,.m 7 32] [0,2,6,7]) (.seq (.region [.m 33 7,.bin 34 .geq (.t 33) (.i 0)] [0,2,6,7,34]) (.cond (.t 34) (.seq (.draw (E2 21 [(4,[]),(5,[3,4]),(7,[]),(11,[]),(12,[6,10,11]),(15,[13]),(16,[13]),(17,[]),(18,[14,17]),(19,[15,18]),(20,[16,19])]) (.tk 12 [.ls 47 6 6,.l 46 45,.f 45 44 0,.n 44 43,.m 43 0,.ls 42 41 16,.idx 41 16 (.t 39) (.t 40),.m 40 7,.l 39 38,.f 38 37 1,.n 37 36,.m 36 0] (.only 12 none (.cl 48 [42,46,47] lL) false [(17,.al 8 U)] (.tk 17 [.ext 51 (.t 35) 2,.ext 50 (.t 35) 1,.ext 49 (.t 35) 0,.m 35 48] (.only 17 none (.al 8 U) true [] (.only 18 none (.store (.t 8) (.t 49) 16 false) false [] (.tk 21 [.m 10 51,.m 9 50] .done)))))) [0,2,7,8,9,10]) (.seq (.draw (E2 8 [(4,[]),(5,[]),(6,[3,4,5])]) (.tk 7 [.idx 58 16 (.t 55) (.t 56),.ls 57 8 16,.m 56 7,.l 55 54,.f 54 53 1,.n 53 52,.m 52 0] (.only 7 none (.store (.t 58) (.t 57) 16 false) false [] .done)) [0,2,9,10]) (.region [.m 59 0,.m 60 9,.m 61 10,.m 62 2,.cl 63 [59,60,61,62] LA] []))) .skip)))))⟩
theorem X2:At Tryz.prog 51 Ft=true:=by kernel_rfl
def PT:BM:=⟨[.val (.slice AJ),.val AJ],[⟨4,false,.bool⟩],(.seq (.region [.fbox 3 (.t 1),.mv 4 (.c (.bool false))] [0,3]) (.seq (.region [.m 5 0,.clo 6 92 AJ (.t 3),.cl 7 [5,6] HL,.m 4 7] [4]) .ret))⟩
theorem ph:At Tryz.prog 52 PT=true:=by kernel_rfl
def NP:BM:=⟨[.val AJ,.val AJ],[⟨4,false,.bool⟩],(.seq (.region [.box 2 (.t 0) false,.box 3 (.t 1) false,.mv 4 (.c (.bool false))] [2,3]) (.seq (.region [.f 5 3 0,.l 6 5,.bin 7 .eql (.t 6) (.i 1),.m 8 7,.sc 8 true [.f 9 3 1,.l 10 9,.f 11 2 1,.l 12 11,.b 13 .eql 10 12] 14 (.t 13) (.c (.bool false)),.m 15 14,.sc 15 true [.f 16 3 2,.l 17 16,.f 18 2 8,.l 19 18,.b 20 .eql 17 19] 21 (.t 20) (.c (.bool false)),.m 22 21,.sc 22 true [.f 23 3 4,.l 24 23,.bin 25 .lss (.t 24) (.i 0),.m 26 25,.sc 26 false [.f 27 3 5,.l 28 27,.f 29 2 5,.l 30 29,.b 31 .eql 28 30] 32 (.c (.bool true)) (.t 31)] 33 (.t 32) (.c (.bool false)),.m 4 33] [4]) .ret))⟩
theorem no:At Tryz.prog 53 NP=true:=by kernel_rfl
def PU:BM:=⟨[.val (.int .i64),.val (.int .i64),.val (.int .i64)],[⟨6,false,.bool⟩],(.seq (.region [.mv 6 (.c (.bool false))] [0,1,2]) (.seq (.region [.m 7 0,.m 8 1,.b 9 .geq 7 8,.m 10 9,.sc 10 true [.m 11 0,.m 12 2,.b 13 .leq 11 12] 14 (.t 13) (.c (.bool false)),.m 6 14] [6]) .ret))⟩
theorem pj:At Tryz.prog 56 PU=true:=by kernel_rfl
def DZ:BM:=⟨[.val (.slice (.int .i64)),.val (.int .i64)],[⟨4,false,.bool⟩],(.seq (.region [.mv 4 (.c (.bool false))] [0,1]) (.seq (.region [.m 5 0,.m 6 1,.cl 7 [5,6] LB,.bin 8 .geq (.t 7) (.i 0),.m 4 8] [4]) .ret))⟩
theorem Qh:At Tryz.prog 57 DZ=true:=by kernel_rfl
def X3:AH:=(.seq (.seq (.region [.m 6 5,.m 7 0,.len 8 false (.t 7),.b 9 .lss 6 8] [0,1,5,9]) (.cond (.t 9) .skip (.exit 0))) (.seq (.block 1 [0,1,5] (.seq (.region [.m 12 0,.m 13 5,.idx 14 1 (.t 12) (.t 13),.l 15 14,.m 16 1,.b 17 .eql 15 16] [0,1,5,17]) (.cond (.t 17) (.seq (.region [.mv 4 (.c (.bool true))] [4]) .ret) .skip))) (.region [.m 10 5,.bin 11 .add (.t 10) (.i 1),.m 5 11] [0,1,5])))
def X4:AH:=(.seq (.region [.mv 4 (.c (.bool false))] [4]) .ret)
def Fu:BM:=⟨[.val (.slice (.int .i64)),.val (.int .i64)],[⟨4,false,.bool⟩],(.seq (.region [.mv 4 (.c (.bool false))] [0,1]) (.seq (.seq (.region [.mv 5 (.i 0)] [0,1,5]) (.block 0 [] (.loop [0,1,5] X3))) X4))⟩
theorem pl:At Tryz.prog 59 Fu=true:=by kernel_rfl
def LK:BM:=⟨[.ptr BC],[⟨2,false,(.int .i64)⟩],(.seq (.region [.mv 2 (.i 0)] [0]) (.seq (.region [.m 4 0,.m 5 0,.n 6 5,.f 7 6 2,.l 8 7,.bin 9 .mul (.t 8) (.i 6364136223846793005),.bin 10 .add (.t 9) (.i 1442695040888963407),.n 11 4,.f 12 11 2,.store (.t 12) (.t 10) 1 false] [0]) (.seq (.draw (E2 13 [(5,[]),(10,[4,9])]) (.tk 13 [.m 3 24,.bin 24 .and (.t 23) (.i 255),.b 23 .xor 17 22,.bin 22 .shr (.t 21) (.c (.int .u64 45)),.l 21 20,.f 20 19 2,.n 19 18,.m 18 0,.bin 17 .shr (.t 16) (.c (.int .u64 33)),.l 16 15,.f 15 14 2,.n 14 13,.m 13 0] .done) [0,3]) (.seqc [3] (.seq (.draw (E2 10 [(4,[]),(9,[3,8])]) (.tk 10 [.b 34 .lss 28 33,.len 33 false (.t 32),.l 32 31,.f 31 30 0,.n 30 29,.m 29 0,.l 28 27,.f 27 26 1,.n 26 25,.m 25 0] .done) [0,3,34]) (.cond (.t 34) (.seq (.draw (E2 15 [(1,[]),(5,[]),(9,[4,8]),(12,[0,11])]) (.tk 15 [.m 3 48,.bin 48 .and (.t 47) (.i 255),.b 47 .add 35 46,.cvi 46 .i64 (.t 45),.l 45 44,.idx 44 1 (.t 39) (.t 43),.l 43 42,.f 42 41 1,.n 41 40,.m 40 0,.l 39 38,.f 38 37 0,.n 37 36,.m 36 0,.m 35 3] .done) [0,3]) (.region [.m 49 0,.m 50 0,.n 51 50,.f 52 51 1,.l 53 52,.bin 54 .add (.t 53) (.i 1),.n 55 49,.f 56 55 1,.store (.t 56) (.t 54) 1 false] [3])) .skip)) (.seq (.region [.m 57 3,.m 2 57] [2]) .ret)))))⟩
theorem lU:At Tryz.prog 61 LK=true:=by kernel_rfl
def Jh:BM:=⟨[.ptr BC,.val (.int .i64)],[⟨4,false,(.int .i64)⟩],(.seq (.region [.mv 4 (.i 0)] [0,1]) (.seq (.seq (.region [.m 9 1,.bin 10 .leq (.t 9) (.i 0)] [0,1,10]) (.cond (.t 10) (.seq (.region [.mv 4 (.i 0)] [4]) .ret) .skip)) (.seq (.seq (.region [.m 11 1,.bin 12 .leq (.t 11) (.i 256)] [0,1,12]) (.cond (.t 12) (.seq (.region [.m 13 0,.cl 14 [13] IJ,.m 15 1,.b 16 .rem 14 15,.m 4 16] [4]) .ret) .skip)) (.seq (.region [.m 17 0,.cl 18 [17] IJ,.m 5 18] [0,1,5]) (.seq (.region [.m 19 0,.cl 20 [19] IJ,.m 6 20] [0,1,5,6]) (.seq (.region [.m 21 0,.cl 22 [21] IJ,.m 7 22] [0,1,5,6,7]) (.seq (.region [.m 23 0,.cl 24 [23] IJ,.m 8 24] [1,5,6,7,8]) (.seq (.region [.m 25 5,.bin 26 .mul (.t 25) (.i 16777216),.m 27 6,.bin 28 .mul (.t 27) (.i 65536),.b 29 .add 26 28,.m 30 7,.bin 31 .mul (.t 30) (.i 256),.b 32 .add 29 31,.m 33 8,.b 34 .add 32 33,.m 35 1,.b 36 .rem 34 35,.m 4 36] [4]) .ret))))))))⟩
theorem iw:At Tryz.prog 62 Jh=true:=by kernel_rfl
def RA:AH:=(.seq (.seq (.region [.m 17 6,.m 18 0,.cx (some 19) [.t 18,.c (.int .i64 3)] DR,.bin 20 .add (.i 1) (.t 19),.b 21 .lss 17 20] [0,3,4,5,6,21]) (.cond (.t 21) .skip (.exit 2))) (.seq (.block 3 [0,3,4,5,6] (.seq (.region [.m 24 0,.cx (some 25) [.t 24,.c (.int .i64 4)] DR,.bin 26 .add (.i 1) (.t 25),.m 7 26] [0,3,4,5,6,7]) (.seq (.region [.m 27 5,.m 28 7,.cl 29 [27,28] Fo,.un 30 .not (.t 29)] [0,3,4,5,6,7,30]) (.cond (.t 30) (.region [.m 31 5,.m 32 7,.blst 33 (.int .i64) [.t 32],.app 34 3 (.int .i64) (.t 31) (.t 33),.m 5 34] [0,3,4,5,6]) .skip)))) (.region [.m 22 6,.bin 23 .add (.t 22) (.i 1),.m 6 23] [0,3,4,5,6])))
def RB:AH:=(.region [.m 35 3,.m 36 5,.blst 37 (.slice (.int .i64)) [.t 36],.app 38 33 (.slice (.int .i64)) (.t 35) (.t 37),.m 3 38] [0,3,4])
def Pv:AH:=(.region [.m 14 4,.bin 15 .add (.t 14) (.i 1),.m 4 15] [0,3,4])
def Pw:AH:=(.seq (.seq (.region [.m 9 4,.m 10 0,.cx (some 11) [.t 10,.c (.int .i64 5)] DR,.bin 12 .add (.i 1) (.t 11),.b 13 .lss 9 12] [0,3,4,13]) (.cond (.t 13) .skip (.exit 0))) (.seq (.block 1 [0,3,4] (.seq (.region [.brow 16 3 (.int .i64) [],.m 5 16] [0,3,4,5]) (.seq (.seq (.region [.mv 6 (.i 0)] [0,3,4,5,6]) (.block 2 [0,3,4,5] (.loop [0,3,4,5,6] RA))) RB))) Pv))
def Px:AH:=(.seq (.region [.m 39 3,.m 2 39] [2]) .ret)
def Bu:BM:=⟨[.ptr BC],[⟨2,false,(.slice (.slice (.int .i64)))⟩],(.seq (.region [.mv 2 (.c (.nil))] [0]) (.seq (.region [.brow 8 33 (.slice (.int .i64)) [],.m 3 8] [0,3]) (.seq (.seq (.region [.mv 4 (.i 0)] [0,3,4]) (.block 0 [3] (.loop [0,3,4] Pw))) Px)))⟩
theorem ix:At Tryz.prog 63 Bu=true:=by kernel_rfl

def S0:AH:=(.seq (.seq (.region [.m 66 6,.m 67 1,.n 68 67,.f 69 68 1,.l 70 69,.len 71 false (.t 70),.b 72 .lss 66 71] [0,1,4,5,6,72]) (.cond (.t 72) .skip (.exit 1))) (.seq (.block 2 [0,1,4,5,6] (.seq (.region [.m 75 1,.n 76 75,.f 77 76 1,.l 78 77,.m 79 6,.idx 80 16 (.t 78) (.t 79),.f 81 80 5,.l 82 81,.m 83 82,.sc 83 true [.m 84 0,.cx (some 85) [.t 84,.c (.int .i64 4)] LC,.un 86 .not (.t 85)] 87 (.t 86) (.c (.bool false))] [0,1,4,5,6,87]) (.cond (.t 87) (.region [.m 88 6,.bin 89 .add (.t 88) (.i 1),.f 90 5 1,.store (.t 90) (.t 89) 1 false] [0,1,4,5,6]) .skip))) (.region [.m 73 6,.bin 74 .add (.t 73) (.i 1),.m 6 74] [0,1,4,5,6])))
def RC:DT:=(.sk 132 true 3 27 136 (.tk 28 [.pick 136 (.t 132) (.t 135) (.c (.bool false))] .done))
def RD:AH:=(.seq (.seq (.region [.m 93 7,.m 94 1,.n 95 94,.f 96 95 1,.l 97 96,.len 98 false (.t 97),.b 99 .lss 93 98] [0,1,4,5,7,99]) (.cond (.t 99) .skip (.exit 3))) (.seq (.block 4 [0,1,4,5,7] (.seq (.region [.m 102 1,.n 103 102,.f 104 103 1,.l 105 104,.m 106 7,.idx 107 16 (.t 105) (.t 106),.ls 108 107 16,.al 8 U,.store (.t 8) (.t 108) 16 false] [0,1,4,5,7,8]) (.seq (.draw (E2 28 [(2,[]),(7,[1,6]),(13,[8]),(15,[12,14]),(19,[8]),(21,[18,20])]) (.tk 9 [.m 117 116,.b 116 .lss 110 115,.len 115 false (.t 114),.l 114 113,.f 113 112 0,.n 112 111,.m 111 1,.l 110 109,.f 109 8 1] (.test 117 (.tg 117 true 22 [.b 130 .eql 127 129,.l 129 128,.f 128 8 0,.l 127 126,.idx 126 1 (.t 125) (.i 0),.l 125 124,.idx 124 1 (.t 121) (.t 123),.l 123 122,.f 122 8 1,.l 121 120,.f 120 119 0,.n 119 118,.m 118 1] (.tk 24 [.m 132 131,.pick 131 (.t 117) (.t 130) (.c (.bool false))] (.test 132 (.tg 132 true 25 [.m 133 0] (.only 25 (some (132,true)) (.cx (some 134) [.t 133,.c (.int .i64 3)] LC) false [] (.tg 132 true 27 [.un 135 .not (.t 134)] (.tk 28 [.pick 136 (.t 132) (.t 135) (.c (.bool false))] .done)))) RC))) (.sk 117 true 13 22 131 (.tk 24 [.m 132 131,.pick 131 (.t 117) (.t 130) (.c (.bool false))] RC)))) [0,1,4,5,7,8,136]) (.cond (.t 136) (.region [.f 137 8 0,.l 138 137,.f 139 5 1,.store (.t 139) (.t 138) 1 false] [0,1,4,5,7]) .skip)))) (.region [.m 100 7,.bin 101 .add (.t 100) (.i 1),.m 7 101] [0,1,4,5,7])))
def RE:AH:=(.seq (.region [.ls 140 5 6,.store (.t 4) (.t 140) 6 false] [4]) .ret)
def RF:AH:=(.seq (.seq (.region [.f 47 5 0,.l 48 47] [0,1,4,5,48]) (.block 0 [4,5] (.seq (.region [.bin 50 .eql (.t 48) (.i 1),.m 49 50] [0,1,4,5,48,49]) (.cond (.t 49) (.seq (.region [.m 51 0,.brow 52 3 (.int .i64) [.c (.int .i64 1),.c (.int .i64 1),.c (.int .i64 2)],.cl 53 [51,52] Qu,.f 54 5 3,.store (.t 54) (.t 53) 1 false] [0,1,4,5]) (.seq (.region [.m 55 0,.brow 56 9 .str [.c (.str ⟨#[97]⟩),.c (.str ⟨#[98]⟩),.c (.str ⟨#[99]⟩)],.cl 57 [55,56] Xr,.f 58 5 4,.store (.t 58) (.t 57) 1 false] [0,1,4,5]) (.seqc [0,1,4,5] (.seq (.region [.f 59 5 3,.l 60 59,.bin 61 .eql (.t 60) (.i 1)] [0,1,4,5,61]) (.cond (.t 61) (.region [.m 62 0,.brow 63 9 .str [.c (.str ⟨#[118]⟩),.c (.str ⟨#[119]⟩),.c (.str ⟨#[120]⟩),.c (.str ⟨#[121]⟩)],.cl 64 [62,63] Xr,.f 65 5 5,.store (.t 65) (.t 64) 1 false] [0,1,4,5]) .skip)) (.seq (.region [.mv 6 (.i 0)] [0,1,4,5,6]) (.block 1 [4,5] (.loop [0,1,4,5,6] S0)))))) (.seq (.region [.bin 92 .eql (.t 48) (.i 5),.m 91 92] [0,1,4,5,91]) (.cond (.t 91) (.seq (.region [.mv 7 (.i 0)] [0,1,4,5,7]) (.block 3 [4,5] (.loop [0,1,4,5,7] RD))) .skip)))))) RE)
def RG:AH:=(.seqc [0,1,4,5] (.seq (.region [.f 39 5 0,.l 40 39,.bin 41 .eql (.t 40) (.i 2),.m 42 41,.sc 42 true [.m 43 0,.cx (some 44) [.t 43,.c (.int .i64 2)] LC] 45 (.t 44) (.c (.bool false))] [0,1,4,5,45]) (.cond (.t 45) (.region [.f 46 5 2,.store (.t 46) (.i 0) 1 false] [0,1,4,5]) .skip)) RF)
def RH:AH:=(.seqc [0,1,4,5] (.seq (.region [.m 18 1,.n 19 18,.f 20 19 2,.l 21 20,.len 22 false (.t 21),.bin 23 .eql (.t 22) (.i 0),.m 24 23,.sc 24 true [.f 25 5 0,.l 26 25,.cx (some 27) [.t 26,.c (.int .i64 2),.c (.int .i64 4)] As] 28 (.t 27) (.c (.bool false))] [0,1,4,5,28]) (.cond (.t 28) (.region [.f 29 5 0,.store (.t 29) (.i 1) 1 false] [0,1,4,5]) .skip)) (.seqc [0,1,4,5] (.seq (.region [.f 30 5 0,.l 31 30,.bin 32 .eql (.t 31) (.i 6),.m 33 32,.sc 33 true [.m 34 0,.cx (some 35) [.t 34,.c (.int .i64 4)] LC,.un 36 .not (.t 35)] 37 (.t 36) (.c (.bool false))] [0,1,4,5,37]) (.cond (.t 37) (.region [.f 38 5 0,.store (.t 38) (.i 1) 1 false] [0,1,4,5]) .skip)) RG))
def BL:BM:=⟨[.ptr BC,.ptr Ag],[⟨4,true,Ae⟩],(.seq (.region [.al 4 Ae] [0,1,4]) (.seq (.region [.m 9 0,.blst 10 (.int .i64) [.c (.int .i64 1),.c (.int .i64 1),.c (.int .i64 1),.c (.int .i64 2),.c (.int .i64 2),.c (.int .i64 2),.c (.int .i64 2),.c (.int .i64 2),.c (.int .i64 2),.c (.int .i64 2),.c (.int .i64 2),.c (.int .i64 3),.c (.int .i64 4),.c (.int .i64 5),.c (.int .i64 6)],.cl 11 [9,10] Qu,.m 12 0,.cx (some 13) [.t 12,.c (.int .i64 4)] DR,.bin 14 .add (.i 1) (.t 13),.m 15 0,.cx (some 16) [.t 15,.c (.int .i64 20)] DR,.bu 17 Ae [(0,1,.t 11),(1,1,.t 14),(2,1,.t 16)],.al 5 Ae,.store (.t 5) (.t 17) 6 false] [0,1,4,5]) RH))⟩
theorem lV:At Tryz.prog 64 BL=true:=by kernel_rfl
def S3:AH:=(.seq (.region [.b 16 .lss 15 14] [0,4,7,8,9,13,14,15,16]) (.seq (.cond (.t 16) .skip (.exit 2)) (.seq (.block 3 [0,4,7,8,9,13,14,15] (.seq (.region [.m 17 15,.idx 18 1 (.t 13) (.t 15),.l 19 18,.m 5 17,.m 6 19] [0,4,5,6,7,8,9,13,14,15]) (.seq (.region [.m 20 6,.cl 21 [20] GG,.un 22 .not (.t 21),.m 23 22,.sc 23 false [.m 24 4,.m 25 6,.cl 26 [24,25] LB,.m 27 5,.b 28 .neq 26 27] 29 (.c (.bool true)) (.t 28)] [0,4,7,8,9,13,14,15,29]) (.cond (.t 29) (.seq (.region [.mv 2 (.c (.bool false))] [2]) .ret) .skip)))) (.region [.bin 30 .add (.t 15) (.i 1),.m 15 30] [0,4,7,8,9,13,14,15]))))
def Mt:AH:=(.seq (.region [.m 31 4,.len 32 false (.t 31),.cx (some 33) [.t 32,.c (.int .i64 1),.c (.int .i64 4)] Am,.un 34 .not (.t 33)] [0,7,8,9,34]) (.cond (.t 34) (.seq (.region [.mv 2 (.c (.bool false))] [2]) .ret) .skip))
def RI:AH:=(.region [.bin 35 .add (.t 9) (.i 1),.m 9 35] [0,7,8,9])
def RJ:AH:=(.seq (.region [.b 10 .lss 9 8] [0,7,8,9,10]) (.seq (.cond (.t 10) .skip (.exit 0)) (.seq (.block 1 [0,7,8,9] (.seq (.region [.idx 11 1 (.t 7) (.t 9),.l 12 11,.m 4 12] [0,4,7,8,9]) (.seq (.seq (.region [.m 13 4,.len 14 false (.t 13),.mv 15 (.i 0)] [0,4,7,8,9,13,14,15]) (.block 2 [0,4,7,8,9] (.loop [0,4,7,8,9,13,14,15] S3))) Mt))) RI)))
def RK:AH:=(.seq (.region [.m 36 0,.len 37 false (.t 36),.cx (some 38) [.t 37,.c (.int .i64 1),.c (.int .i64 9)] Am,.m 2 38] [2]) .ret)
def Bw:BM:=⟨[.val (.slice (.slice (.int .i64)))],[⟨2,false,.bool⟩],(.seq (.region [.mv 2 (.c (.bool false))] [0]) (.seq (.seq (.region [.m 7 0,.len 8 false (.t 7),.mv 9 (.i 0)] [0,7,8,9]) (.block 0 [0] (.loop [0,7,8,9] RJ))) RK))⟩
theorem lW:At Tryz.prog 65 Bw=true:=by kernel_rfl
def Py:AH:=(.seq (.region [.b 9 .lss 8 7] [3,6,7,8,9]) (.seq (.cond (.t 9) .skip (.exit 0)) (.seq (.block 1 [3,6,7,8] (.seq (.region [.idx 10 1 (.t 6) (.t 8),.l 11 10,.m 5 11] [3,5,6,7,8]) (.region [.m 12 3,.m 13 5,.cl 14 [13] CX,.blst 15 (.slice (.int .i64)) [.t 14],.app 16 33 (.slice (.int .i64)) (.t 12) (.t 15),.m 3 16] [3,6,7,8]))) (.region [.bin 17 .add (.t 8) (.i 1),.m 8 17] [3,6,7,8]))))
def Pz:AH:=(.seq (.region [.m 18 3,.m 2 18] [2]) .ret)
def C2:BM:=⟨[.val (.slice (.slice (.int .i64)))],[⟨2,false,(.slice (.slice (.int .i64)))⟩],(.seq (.region [.mv 2 (.c (.nil))] [0]) (.seq (.region [.nilrow 3 33 (.slice (.int .i64))] [0,3]) (.seq (.seq (.region [.m 6 0,.len 7 false (.t 6),.mv 8 (.i 0)] [3,6,7,8]) (.block 0 [3] (.loop [3,6,7,8] Py))) Pz)))⟩
theorem fU:At Tryz.prog 66 C2=true:=by kernel_rfl
def P0:AH:=(.seq (.region [.m 16 1,.idx 17 1 (.t 16) (.i 0),.l 18 17,.idx 19 1 (.t 18) (.i 0),.l 20 19,.m 21 0,.b 22 .eql 20 21,.m 6 22] [0,1,4,6]) (.seq (.region [.m 23 0,.m 24 1,.idx 25 1 (.t 24) (.i 0),.l 26 25,.m 27 0,.cl 28 [26,27] Fb,.m 29 6,.m 30 6,.bu 31 U [(0,1,.t 23),(1,1,.c (.int .i64 1)),(3,1,.t 28),(4,1,.t 29),(5,1,.t 30)],.store (.t 4) (.t 31) 16 false,.mv 5 (.c (.bool true))] [4,5]) .ret))
def E5:BM:=⟨[.val (.int .i64),.val (.slice (.slice (.int .i64)))],[⟨4,true,U⟩,⟨5,false,.bool⟩],(.seq (.region [.al 4 U,.mv 5 (.c (.bool false))] [0,1,4]) (.seq (.seq (.region [.m 7 0,.cl 8 [7] GG,.un 9 .not (.t 8),.m 10 9,.sc 10 false [.m 11 1,.cl 12 [11] GV,.un 13 .not (.t 12)] 14 (.c (.bool true)) (.t 13)] [0,1,4,14]) (.cond (.t 14) (.seq (.region [.bu 15 U [],.store (.t 4) (.t 15) 16 false,.mv 5 (.c (.bool false))] [4,5]) .ret) .skip)) P0))⟩
theorem fV:At Tryz.prog 67 E5=true:=by kernel_rfl
def X5:AH:=(.seq (.region [.m 27 0,.bin 28 .eql (.t 27) (.i 1),.m 29 28,.sc 29 false [.m 30 3,.bin 31 .eql (.t 30) (.c (.str ⟨#[]⟩))] 32 (.c (.bool true)) (.t 31),.m 8 32] [8]) .ret)
def Im:BM:=⟨[.val (.int .i64),.val (.int .i64),.val .str,.val .str],[⟨8,false,.bool⟩],(.seq (.region [.mv 8 (.c (.bool false))] [0,1,2,3]) (.seq (.seq (.region [.m 9 0,.cx (some 10) [.t 9,.c (.int .i64 1),.c (.int .i64 2)] Am,.un 11 .not (.t 10),.m 12 11,.sc 12 false [.m 13 1,.cx (some 14) [.t 13,.c (.int .i64 0),.c (.int .i64 1000)] Am,.un 15 .not (.t 14)] 16 (.c (.bool true)) (.t 15),.m 17 16,.sc 17 false [.m 18 2,.cl 19 [18] cV,.un 20 .not (.t 19)] 21 (.c (.bool true)) (.t 20),.m 22 21,.sc 22 false [.m 23 3,.len 24 true (.t 23),.bin 25 .gtr (.t 24) (.i 20)] 26 (.c (.bool true)) (.t 25)] [0,3,26]) (.cond (.t 26) (.seq (.region [.mv 8 (.c (.bool false))] [8]) .ret) .skip)) X5))⟩
theorem pn:At Tryz.prog 68 Im=true:=by kernel_rfl
def G5:BM:=⟨[.ptr Aa,.val Ae,.val (.int .i64)],[⟨6,false,.bool⟩],(.seq (.region [.box 4 (.t 1) false,.mv 6 (.c (.bool false))] [0,2,4]) (.seq (.region [.m 13 0,.n 14 13,.f 15 14 3,.l 16 15,.len 17 false (.t 16),.m 7 17] [0,2,4,7]) (.seq (.draw (E2 18 [(1,[]),(5,[]),(7,[]),(9,[]),(11,[]),(12,[6,8,10,11]),(14,[4,13]),(15,[0,14])]) (.tk 13 [.bu 30 AJ [(0,1,.t 24),(1,1,.t 26),(2,1,.t 28),(3,1,.t 29),(4,1,.c (.int .i64 (-1)))],.m 29 2,.l 28 27,.f 27 4 5,.l 26 25,.f 25 4 4,.l 24 23,.f 23 4 3,.l 22 21,.f 21 20 3,.n 20 19,.m 19 0,.m 18 0] (.only 13 none (.blst 31 AJ [.t 30]) false [] (.only 14 none (.app 32 47 AJ (.t 22) (.t 31)) false [] (.tk 17 [.f 34 33 3,.n 33 18] (.only 17 none (.store (.t 34) (.t 32) 1 false) false [] .done))))) [0,2,4,7]) (.seq (.region [.m 35 0,.f 36 4 1,.l 37 36,.cl 38 [35,37] GO,.m 8 38] [0,2,4,7,8]) (.seq (.draw (E2 29 [(4,[]),(5,[3,4]),(7,[]),(11,[]),(13,[]),(14,[]),(16,[]),(18,[6,10,12,13,15,17]),(21,[19]),(22,[19]),(23,[19]),(24,[]),(25,[20,24]),(26,[21,25]),(27,[22,26]),(28,[23,27])]) (.tk 18 [.l 57 56,.f 56 4 5,.l 55 54,.f 54 4 4,.m 53 7,.l 52 51,.f 51 4 3,.l 50 49,.f 49 48 0,.n 48 47,.m 47 0,.ls 46 45 16,.idx 45 16 (.t 43) (.t 44),.m 44 8,.l 43 42,.f 42 41 1,.n 41 40,.m 40 0] (.only 18 none (.cl 58 [46,50,52,53,55,57] pS) false [(24,.al 9 U)] (.tk 24 [.ext 62 (.t 39) 3,.ext 61 (.t 39) 2,.ext 60 (.t 39) 1,.ext 59 (.t 39) 0,.m 39 58] (.only 24 none (.al 9 U) true [] (.only 25 none (.store (.t 9) (.t 59) 16 false) false [] (.tk 29 [.m 12 62,.m 11 61,.m 10 60] .done)))))) [0,2,8,9,10,11,12]) (.seq (.seq (.region [.m 63 12,.un 64 .not (.t 63)] [0,2,8,9,10,11,64]) (.cond (.t 64) (.seq (.region [.mv 6 (.c (.bool false))] [6]) .ret) .skip)) (.seq (.draw (E2 8 [(4,[]),(5,[]),(6,[3,4,5])]) (.tk 7 [.idx 71 16 (.t 68) (.t 69),.ls 70 9 16,.m 69 8,.l 68 67,.f 67 66 1,.n 66 65,.m 65 0] (.only 7 none (.store (.t 71) (.t 70) 16 false) false [] .done)) [0,2,10,11]) (.seq (.region [.m 72 0,.m 73 10,.m 74 11,.m 75 2,.cl 76 [72,73,74,75] LA] []) (.seq (.region [.mv 6 (.c (.bool true))] [6]) .ret)))))))))⟩
theorem ag:At Tryz.prog 69 G5=true:=by kernel_rfl
def Ng:AH:=(.seq (.seq (.region [.m 25 8,.m 26 0,.n 27 26,.f 28 27 0,.l 29 28,.len 30 false (.t 29),.b 31 .leq 25 30] [0,2,4,7,8,31]) (.cond (.t 31) .skip (.exit 0))) (.seq (.block 1 [0,2,4,7,8] (.seq (.seq (.draw (E2 13 [(4,[]),(6,[3,5]),(10,[]),(12,[9,11])]) (.tk 13 [.b 46 .neq 43 45,.l 45 44,.f 44 4 1,.l 43 42,.idx 42 1 (.t 41) (.i 0),.l 41 40,.idx 40 1 (.t 37) (.t 39),.bin 39 .sub (.t 38) (.i 1),.m 38 8,.l 37 36,.f 36 35 0,.n 35 34,.m 34 0] .done) [0,2,4,7,8,46]) (.cond (.t 46) (.exit 1) .skip)) (.seq (.draw (E2 21 [(4,[]),(5,[3,4]),(7,[]),(11,[]),(12,[6,10,11]),(15,[13]),(16,[13]),(17,[]),(18,[14,17]),(19,[15,18]),(20,[16,19])]) (.tk 12 [.m 59 8,.l 58 57,.f 57 56 0,.n 56 55,.m 55 0,.ls 54 53 16,.idx 53 16 (.t 51) (.t 52),.m 52 7,.l 51 50,.f 50 49 1,.n 49 48,.m 48 0] (.only 12 none (.cl 60 [54,58,59] pT) false [(17,.al 9 U)] (.tk 17 [.ext 63 (.t 47) 2,.ext 62 (.t 47) 1,.ext 61 (.t 47) 0,.m 47 60] (.only 17 none (.al 9 U) true [] (.only 18 none (.store (.t 9) (.t 61) 16 false) false [] (.tk 21 [.m 11 63,.m 10 62] .done)))))) [0,2,7,9,10,11]) (.seqc [11] (.seq (.region [.m 64 11] [0,2,7,9,10,11,64]) (.cond (.t 64) (.seq (.draw (E2 8 [(4,[]),(5,[]),(6,[3,4,5])]) (.tk 7 [.idx 71 16 (.t 68) (.t 69),.ls 70 9 16,.m 69 7,.l 68 67,.f 67 66 1,.n 66 65,.m 65 0] (.only 7 none (.store (.t 71) (.t 70) 16 false) false [] .done)) [0,2,10,11]) (.region [.m 72 0,.m 73 10,.m 74 2,.cx (some 75) [.t 72,.t 73,.c (.nil),.t 74] LA] [11])) .skip)) (.seq (.region [.m 76 11,.m 6 76] [6]) .ret))))) (.region [.m 32 8,.bin 33 .add (.t 32) (.i 1),.m 8 33] [0,2,4,7,8])))
def MU:AH:=(.seq (.region [.mv 6 (.c (.bool false))] [6]) .ret)
def CP:BM:=⟨[.ptr Aa,.val Ae,.val (.int .i64)],[⟨6,false,.bool⟩],(.seq (.region [.box 4 (.t 1) false,.mv 6 (.c (.bool false))] [0,2,4]) (.seq (.region [.m 12 0,.f 13 4 1,.l 14 13,.cl 15 [12,14] GO,.m 7 15] [0,2,4,7]) (.seq (.seq (.region [.m 16 0,.n 17 16,.f 18 17 1,.l 19 18,.m 20 7,.idx 21 16 (.t 19) (.t 20),.f 22 21 1,.l 23 22,.bin 24 .add (.t 23) (.i 1),.m 8 24] [0,2,4,7,8]) (.block 0 [] (.loop [0,2,4,7,8] Ng))) MU)))⟩
theorem ah:At Tryz.prog 70 CP=true:=by kernel_rfl
def GP:BM:=⟨[.ptr Aa,.val (.int .i64)],[⟨4,false,(.int .i64)⟩],(.seq (.region [.fbox 3 (.t 1),.mv 4 (.i 0)] [0,3]) (.seq (.region [.m 5 0,.n 6 5,.f 7 6 1,.l 8 7,.clo 9 103 (.int .i64) (.t 3),.cl 10 [8,9] G3,.m 4 10] [4]) .ret))⟩
theorem Ze:At Tryz.prog 71 GP=true:=by kernel_rfl
def RL:BM:=⟨[.val U],[⟨2,true,Ik⟩],(.seq (.region [.box 1 (.t 0) true,.al 2 Ik] [1,2]) (.seq (.region [.f 3 1 0,.l 4 3,.f 5 1 1,.l 6 5,.bnew 7 [.int .i64 0,.int .i64 0,.bool false,.bool false,.bool false,.bool false,.new 3 (.int .i64) [],.new 38 AC [],.int .i64 0,.int .i64 0,.int .i64 0,.int .i64 0,.str ByteArray.empty,.str ByteArray.empty,.int .i64 0,.new 3 (.int .i64) []] [(0,1,.t 4),(1,1,.t 6),(2,1,.c (.bool true))],.store (.t 2) (.t 7) 16 false] [2]) .ret))⟩
theorem rF:At Tryz.prog 72 RL=true:=by kernel_rfl
def Fv:BM:=⟨[.ptr Aa,.val Ae,.val (.int .i64)],[⟨6,false,.bool⟩],(.seq (.region [.box 4 (.t 1) false,.mv 6 (.c (.bool false))] [0,2,4]) (.seq (.seq (.region [.m 8 0,.n 9 8,.f 10 9 2,.l 11 10,.len 12 false (.t 11),.bin 13 .eql (.t 12) (.i 0)] [0,2,4,13]) (.cond (.t 13) (.seq (.region [.mv 6 (.c (.bool false))] [6]) .ret) .skip)) (.seq (.draw (E2 9 [(2,[]),(7,[1,6])]) (.tk 9 [.m 7 21,.b 21 .rem 15 20,.len 20 false (.t 19),.l 19 18,.f 18 17 2,.n 17 16,.m 16 0,.l 15 14,.f 14 4 2] .done) [0,2,4,7]) (.seq (.seq (.region [.f 22 4 0,.l 23 22] [0,2,7,23]) (.block 0 [] (.seq (.region [.bin 25 .eql (.t 23) (.i 2),.m 24 25] [0,2,7,23,24]) (.cond (.t 24) (.region [.m 26 0,.m 27 7,.m 28 2,.cl 29 [26,27,28] Na] []) (.seq (.region [.bin 31 .eql (.t 23) (.i 3),.m 30 31] [0,7,23,30]) (.cond (.t 30) (.region [.m 32 0,.m 33 0,.n 34 33,.f 35 34 2,.l 36 35,.m 37 7,.m 38 7,.bin 39 .add (.t 38) (.i 1),.cl 40 [36,37,39] FY,.n 41 32,.f 42 41 2,.store (.t 42) (.t 40) 1 false] []) (.seq (.region [.bin 44 .eql (.t 23) (.i 4),.m 43 44] [0,7,43]) (.cond (.t 43) (.draw (E2 18 [(1,[]),(5,[]),(9,[]),(10,[8,9]),(14,[4,13]),(15,[0,14])]) (.tk 12 [.ls 56 55 6,.idx 55 6 (.t 53) (.t 54),.m 54 7,.l 53 52,.f 52 51 2,.n 51 50,.m 50 0,.l 49 48,.f 48 47 2,.n 47 46,.m 46 0,.m 45 0] (.only 12 none (.cl 57 [56] Po) false [] (.only 13 none (.blst 58 AF [.t 57]) false [] (.only 14 none (.app 59 97 AF (.t 49) (.t 58)) false [] (.tk 17 [.f 61 60 2,.n 60 45] (.only 17 none (.store (.t 61) (.t 59) 1 false) false [] .done)))))) []) .skip)))))))) (.seq (.region [.mv 6 (.c (.bool true))] [6]) .ret)))))⟩
theorem X6:At Tryz.prog 73 Fv=true:=by kernel_rfl
def Hn:BM:=⟨[.val U],[⟨2,true,U⟩],(.seq (.region [.box 1 (.t 0) false,.al 2 U] [1,2]) (.seq (.draw (E2 17 [(3,[]),(5,[2,4]),(6,[]),(9,[5,8]),(10,[2,4,8]),(11,[9,10])]) (.tk 2 [.l 4 3,.f 3 1 6] (.tk 5 [.l 7 6,.f 6 1 7] (.tk 9 [.l 11 10,.f 10 9 6,.f 9 1 9] (.only 2 none (.cl 5 [4] CX) false [] (.tk 11 [.f 13 1 6] (.only 5 none (.cl 8 [7] Az) false [] (.only 9 none (.cl 12 [11] CX) false [] (.only 11 none (.store (.t 13) (.t 5) 1 false) false [] (.tk 13 [.f 14 1 7] (.only 13 none (.store (.t 14) (.t 8) 1 false) false [] (.tk 16 [.f 16 15 6,.f 15 1 9] (.only 16 none (.store (.t 16) (.t 12) 1 false) false [] .done)))))))))))) [1,2]) (.seq (.region [.ls 17 1 16,.store (.t 2) (.t 17) 16 false] [2]) .ret)))⟩
theorem cZ:At Tryz.prog 75 Hn=true:=by kernel_rfl
def LL:BM:=⟨[.val AF],[⟨2,true,AF⟩],(.seq (.region [.box 1 (.t 0) false,.al 2 AF] [1,2]) (.seq (.region [.f 3 1 5,.l 4 3,.cl 5 [4] Az,.f 6 1 5,.store (.t 6) (.t 5) 1 false] [1,2]) (.seq (.region [.ls 7 1 6,.store (.t 2) (.t 7) 6 false] [2]) .ret)))⟩
theorem lX:At Tryz.prog 76 LL=true:=by kernel_rfl
def S4:AH:=(.seq (.seq (.region [.m 4 3,.m 5 0,.len 6 false (.t 5),.b 7 .lss 4 6] [0,3,7]) (.cond (.t 7) .skip (.exit 0))) (.seq (.block 1 [0,3] (.seq (.region [.m 10 0,.m 11 3,.idx 12 1 (.t 10) (.t 11),.l 13 12,.cl 14 [13] lM,.un 15 .not (.t 14)] [0,3,15]) (.cond (.t 15) (.seq (.region [.mv 2 (.c (.bool false))] [2]) .ret) .skip))) (.region [.m 8 3,.bin 9 .add (.t 8) (.i 1),.m 3 9] [0,3])))
def S5:AH:=(.seq (.region [.m 16 0,.len 17 false (.t 16),.cx (some 18) [.t 17,.c (.int .i64 1),.c (.int .i64 9)] As,.m 2 18] [2]) .ret)
def D0:BM:=⟨[.val (.slice (.slice (.int .i64)))],[⟨2,false,.bool⟩],(.seq (.region [.mv 2 (.c (.bool false))] [0]) (.seq (.seq (.region [.mv 3 (.i 0)] [0,3]) (.block 0 [0] (.loop [0,3] S4))) S5))⟩
theorem lY:At Tryz.prog 77 D0=true:=by kernel_rfl
def MV:AH:=(.seq (.seq (.region [.m 6 4,.m 7 0,.len 8 false (.t 7),.b 9 .lss 6 8] [0,3,4,9]) (.cond (.t 9) .skip (.exit 0))) (.seq (.block 1 [0,3,4] (.region [.m 12 3,.brow 13 3 (.int .i64) [],.m 14 0,.m 15 4,.idx 16 1 (.t 14) (.t 15),.l 17 16,.app 18 3 (.int .i64) (.t 13) (.t 17),.blst 19 (.slice (.int .i64)) [.t 18],.app 20 33 (.slice (.int .i64)) (.t 12) (.t 19),.m 3 20] [0,3,4])) (.region [.m 10 4,.bin 11 .add (.t 10) (.i 1),.m 4 11] [0,3,4])))
def MW:AH:=(.seq (.region [.m 21 3,.m 2 21] [2]) .ret)
def CH:BM:=⟨[.val (.slice (.slice (.int .i64)))],[⟨2,false,(.slice (.slice (.int .i64)))⟩],(.seq (.region [.mv 2 (.c (.nil))] [0]) (.seq (.region [.brow 5 33 (.slice (.int .i64)) [],.m 3 5] [0,3]) (.seq (.seq (.region [.mv 4 (.i 0)] [0,3,4]) (.block 0 [3] (.loop [0,3,4] MV))) MW)))⟩
theorem Zf:At Tryz.prog 78 CH=true:=by kernel_rfl
def P1:AH:=(.seq (.region [.m 16 0,.m 17 1,.idx 18 1 (.t 17) (.i 0),.l 19 18,.m 20 0,.cl 21 [19,20] Fo,.bu 22 U [(0,1,.t 16),(1,1,.c (.int .i64 1)),(3,1,.t 21)],.al 6 U,.store (.t 6) (.t 22) 16 false] [0,1,4,6]) (.seq (.region [.m 23 1,.idx 24 1 (.t 23) (.i 0),.l 25 24,.idx 26 1 (.t 25) (.i 0),.l 27 26,.m 28 0,.b 29 .eql 27 28,.f 30 6 4,.store (.t 30) (.t 29) 1 false] [4,6]) (.seq (.region [.f 31 6 4,.l 32 31,.f 33 6 5,.store (.t 33) (.t 32) 1 false] [4,6]) (.seq (.region [.ls 34 6 16,.store (.t 4) (.t 34) 16 false,.mv 5 (.c (.bool true))] [4,5]) .ret))))
def E6:BM:=⟨[.val (.int .i64),.val (.slice (.slice (.int .i64)))],[⟨4,true,U⟩,⟨5,false,.bool⟩],(.seq (.region [.al 4 U,.mv 5 (.c (.bool false))] [0,1,4]) (.seq (.seq (.region [.m 7 1,.cl 8 [7] IK,.un 9 .not (.t 8),.m 10 9,.sc 10 false [.m 11 0,.cx (some 12) [.t 11,.c (.int .i64 1),.c (.int .i64 6)] As,.un 13 .not (.t 12)] 14 (.c (.bool true)) (.t 13)] [0,1,4,14]) (.cond (.t 14) (.seq (.region [.bu 15 U [],.store (.t 4) (.t 15) 16 false,.mv 5 (.c (.bool false))] [4,5]) .ret) .skip)) P1))⟩
theorem fW:At Tryz.prog 79 E6=true:=by kernel_rfl
def Ji:BM:=⟨[.ptr Ag,.val (.int .i64),.val Ae],[⟨6,false,(.int .i64)⟩],(.seq (.region [.box 5 (.t 2) false,.mv 6 (.i 0)] [0,1,5]) (.seq (.draw (E2 20 [(1,[]),(2,[]),(6,[1,5]),(7,[]),(9,[]),(11,[]),(13,[]),(14,[8,10,12,13]),(16,[6,15]),(17,[0,16])]) (.tk 1 [.m 11 0] (.tk 6 [.l 16 15,.f 15 14 3,.n 14 13,.m 13 0] (.tk 15 [.bu 25 AJ [(0,1,.t 19),(1,1,.t 21),(2,1,.t 23),(3,1,.t 24),(4,1,.c (.int .i64 (-1)))],.m 24 1,.l 23 22,.f 22 5 5,.l 21 20,.f 20 5 4,.l 19 18,.f 18 5 3] (.only 1 none (.brow 12 47 AJ []) false [(15,.blst 26 AJ [.t 25])] (.only 6 none (.app 17 47 AJ (.t 12) (.t 16)) false [(15,.blst 26 AJ [.t 25])] (.only 15 none (.blst 26 AJ [.t 25]) true [] (.only 16 none (.app 27 47 AJ (.t 17) (.t 26)) false [] (.tk 19 [.f 29 28 3,.n 28 11] (.only 19 none (.store (.t 29) (.t 27) 1 false) false [] .done))))))))) [0,1,5]) (.seq (.draw (E2 36 [(4,[]),(7,[3,6]),(9,[]),(13,[]),(15,[]),(21,[]),(23,[]),(25,[8,12,14,20,22,24]),(28,[26]),(29,[26]),(30,[26]),(31,[]),(32,[27,31]),(33,[28,32]),(34,[29,33]),(35,[30,34])]) (.tk 25 [.l 55 54,.f 54 5 5,.l 53 52,.f 52 5 4,.bin 51 .sub (.t 50) (.i 1),.len 50 false (.t 49),.l 49 48,.f 48 47 3,.n 47 46,.m 46 0,.l 45 44,.f 44 5 3,.l 43 42,.f 42 41 0,.n 41 40,.m 40 0,.ls 39 38 16,.idx 38 16 (.t 34) (.t 37),.bin 37 .sub (.t 36) (.i 1),.l 36 35,.f 35 5 1,.l 34 33,.f 33 32 1,.n 32 31,.m 31 0] (.only 25 none (.cl 56 [39,43,45,51,53,55] pU) false [(31,.al 7 U)] (.tk 31 [.ext 60 (.t 30) 3,.ext 59 (.t 30) 2,.ext 58 (.t 30) 1,.ext 57 (.t 30) 0,.m 30 56] (.only 31 none (.al 7 U) true [] (.only 32 none (.store (.t 7) (.t 57) 16 false) false [] (.tk 36 [.m 10 60,.m 9 59,.m 8 58] .done)))))) [0,1,7,8,9,10]) (.seq (.seq (.region [.m 61 10,.un 62 .not (.t 61)] [0,1,7,8,9,62]) (.cond (.t 62) (.seq (.region [.mv 6 (.i 1)] [6]) .ret) .skip)) (.seq (.region [.m 63 0,.ls 64 7 16,.m 65 8,.m 66 9,.m 67 1,.cl 68 [63,64,65,66,67] Il] []) (.seq (.region [.mv 6 (.i 0)] [6]) .ret))))))⟩
theorem iy:At Tryz.prog 80 Ji=true:=by kernel_rfl
def RM:AH:=(.seq (.seq (.region [.m 23 8,.m 24 0,.n 25 24,.f 26 25 0,.l 27 26,.len 28 false (.t 27),.b 29 .leq 23 28] [0,1,2,7,8,29]) (.cond (.t 29) .skip (.exit 0))) (.seq (.block 1 [0,1,2,7,8] (.seq (.seq (.region [.m 32 0,.n 33 32,.f 34 33 0,.l 35 34,.m 36 8,.bin 37 .sub (.t 36) (.i 1),.idx 38 1 (.t 35) (.t 37),.l 39 38,.idx 40 1 (.t 39) (.i 0),.l 41 40,.m 42 2,.b 43 .neq 41 42] [0,1,2,7,8,43]) (.cond (.t 43) (.exit 1) .skip)) (.seq (.draw (E2 15 [(1,[]),(5,[]),(6,[0,4,5]),(9,[7]),(10,[7]),(11,[]),(12,[8,11]),(13,[9,12]),(14,[10,13])]) (.tk 6 [.m 50 8,.l 49 48,.f 48 47 0,.n 47 46,.m 46 0,.ls 45 7 16] (.only 6 none (.cl 51 [45,49,50] pV) false [(11,.al 9 U)] (.tk 11 [.ext 54 (.t 44) 2,.ext 53 (.t 44) 1,.ext 52 (.t 44) 0,.m 44 51] (.only 11 none (.al 9 U) true [] (.only 12 none (.store (.t 9) (.t 52) 16 false) false [] (.tk 15 [.m 11 54,.m 10 53] .done)))))) [0,1,9,10,11]) (.seq (.seq (.region [.m 55 11,.un 56 .not (.t 55)] [0,1,9,10,56]) (.cond (.t 56) (.seq (.region [.mv 6 (.i 1)] [6]) .ret) .skip)) (.seq (.region [.m 57 0,.ls 58 9 16,.m 59 10,.brow 60 126 Ar [],.m 61 1,.cl 62 [57,58,59,60,61] Il] []) (.seq (.region [.mv 6 (.i 0)] [6]) .ret)))))) (.region [.m 30 8,.bin 31 .add (.t 30) (.i 1),.m 8 31] [0,1,2,7,8])))
def P2:AH:=(.seq (.region [.mv 6 (.i 1)] [6]) .ret)
def DV:BM:=⟨[.ptr Ag,.val (.int .i64),.val (.int .i64)],[⟨6,false,(.int .i64)⟩],(.seq (.region [.mv 6 (.i 0)] [0,1,2]) (.seq (.region [.m 12 0,.n 13 12,.f 14 13 1,.l 15 14,.m 16 2,.bin 17 .sub (.t 16) (.i 1),.idx 18 16 (.t 15) (.t 17),.ls 19 18 16,.al 7 U,.store (.t 7) (.t 19) 16 false] [0,1,2,7]) (.seq (.seq (.region [.f 20 7 1,.l 21 20,.bin 22 .add (.t 21) (.i 1),.m 8 22] [0,1,2,7,8]) (.block 0 [] (.loop [0,1,2,7,8] RM))) P2)))⟩
theorem iz:At Tryz.prog 81 DV=true:=by kernel_rfl
def Ol:AH:=(.seq (.region [.brow 72 47 AJ [],.m 73 0,.n 74 73,.f 75 74 3,.l 76 75,.app 77 47 AJ (.t 72) (.t 76),.m 13 77] [0,3,4,11,12,13]) (.seq (.region [.m 78 13,.f 79 12 0,.l 80 79,.idx 81 9 (.t 78) (.t 80),.m 14 81] [0,3,4,11,12,13,14]) (.seq (.region [.m 82 14,.m 83 4,.n 84 82,.f 85 84 4,.store (.t 85) (.t 83) 1 false] [0,3,4,11,12,13,14]) (.seq (.region [.m 86 14,.f 87 12 3,.f 88 87 2,.l 89 88,.n 90 86,.f 91 90 5,.store (.t 91) (.t 89) 1 false] [0,3,4,11,12,13,14]) (.seq (.region [.m 92 14,.f 93 12 1,.l 94 93,.n 95 92,.f 96 95 6,.store (.t 96) (.t 94) 1 false] [0,3,4,11,12,13,14]) (.seq (.region [.m 97 14,.f 98 12 2,.l 99 98,.n 100 97,.f 101 100 7,.store (.t 101) (.t 99) 1 false] [0,3,4,11,12,13,14]) (.seqc [0,3,4,11,13] (.seq (.region [.m 102 14,.n 103 102,.f 104 103 0,.l 105 104,.bin 106 .eql (.t 105) (.i 2)] [0,3,4,11,12,13,14,106]) (.cond (.t 106) (.region [.m 107 14,.f 108 12 3,.f 109 108 1,.l 110 109,.n 111 107,.f 112 111 8,.store (.t 112) (.t 110) 1 false] [0,3,4,11,13]) .skip)) (.region [.m 113 0,.m 114 13,.n 115 113,.f 116 115 3,.store (.t 116) (.t 114) 1 false] [0,3,4,11]))))))))
def Om:AH:=(.region [.m 46 11,.bin 47 .add (.t 46) (.i 1),.m 11 47] [0,3,4,11])
def On:AH:=(.seq (.seq (.region [.m 42 11,.m 43 3,.len 44 false (.t 43),.b 45 .lss 42 44] [0,3,4,11,45]) (.cond (.t 45) .skip (.exit 0))) (.seq (.block 1 [0,3,4,11] (.seq (.region [.m 48 3,.m 49 11,.idx 50 6 (.t 48) (.t 49),.ls 51 50 6,.al 12 Ar,.store (.t 12) (.t 51) 6 false] [0,3,4,11,12]) (.seq (.seq (.draw (E2 20 [(2,[]),(7,[1,6]),(13,[8]),(15,[12,14])]) (.tk 9 [.m 60 59,.b 59 .geq 53 58,.len 58 false (.t 57),.l 57 56,.f 56 55 3,.n 55 54,.m 54 0,.l 53 52,.f 52 12 0] (.test 60 (.sk 60 false 10 19 71 (.tk 20 [.pick 71 (.t 60) (.c (.bool true)) (.t 70)] .done)) (.tg 60 false 19 [.bin 70 .geq (.t 69) (.i 0),.l 69 68,.f 68 67 4,.idx 67 9 (.t 64) (.t 66),.l 66 65,.f 65 12 0,.l 64 63,.f 63 62 3,.n 62 61,.m 61 0] (.tk 20 [.pick 71 (.t 60) (.c (.bool true)) (.t 70)] .done)))) [0,3,4,11,12,71]) (.cond (.t 71) (.exit 1) .skip)) Ol))) Om))
def CZ:BM:=⟨[.ptr Ag,.val U,.val (.slice AF),.val (.slice Ar),.val (.int .i64)],[],(.seq (.region [.box 6 (.t 1) false] [0,2,3,4,6]) (.seq (.region [.brow 15 42 U [],.m 16 0,.n 17 16,.f 18 17 1,.l 19 18,.app 20 42 U (.t 15) (.t 19),.m 10 20] [0,2,3,4,6,10]) (.seq (.region [.m 21 10,.f 22 6 0,.l 23 22,.bin 24 .sub (.t 23) (.i 1),.ls 25 6 16,.idx 26 16 (.t 21) (.t 24),.store (.t 26) (.t 25) 16 false] [0,2,3,4,10]) (.seq (.region [.m 27 0,.m 28 10,.n 29 27,.f 30 29 1,.store (.t 30) (.t 28) 1 false] [0,2,3,4]) (.seq (.region [.m 31 0,.brow 32 97 AF [],.m 33 0,.n 34 33,.f 35 34 2,.l 36 35,.app 37 97 AF (.t 32) (.t 36),.m 38 2,.app 39 97 AF (.t 37) (.t 38),.n 40 31,.f 41 40 2,.store (.t 41) (.t 39) 1 false] [0,3,4]) (.seq (.region [.mv 11 (.i 0)] [0,3,4,11]) (.block 0 [] (.loop [0,3,4,11] On))))))))⟩
theorem fX:At Tryz.prog 82 CZ=true:=by kernel_rfl
def RN:BM:=⟨[.val U],[⟨2,true,Ik⟩],(.seq (.region [.box 1 (.t 0) true,.al 2 Ik] [1,2]) (.seq (.region [.f 3 1 0,.l 4 3,.f 5 1 1,.l 6 5,.bnew 7 [.int .i64 0,.int .i64 0,.bool false,.bool false,.bool false,.bool false,.new 3 (.int .i64) [],.new 38 AC [],.int .i64 0,.int .i64 0,.int .i64 0,.int .i64 0,.str ByteArray.empty,.str ByteArray.empty,.int .i64 0,.new 3 (.int .i64) []] [(0,1,.t 4),(1,1,.t 6),(2,1,.c (.bool true))],.store (.t 2) (.t 7) 16 false] [2]) .ret))⟩
theorem rG:At Tryz.prog 83 RN=true:=by kernel_rfl
def NQ:BM:=⟨[.ptr Ag,.val (.int .i64),.val Ae],[⟨6,false,(.int .i64)⟩],(.seq (.region [.box 5 (.t 2) false,.mv 6 (.i 0)] [0,1,5]) (.seq (.seq (.region [.m 12 0,.n 13 12,.f 14 13 2,.l 15 14,.len 16 false (.t 15),.bin 17 .eql (.t 16) (.i 0)] [0,1,5,17]) (.cond (.t 17) (.seq (.region [.mv 6 (.i 1)] [6]) .ret) .skip)) (.seq (.draw (E2 9 [(2,[]),(7,[1,6])]) (.tk 9 [.m 7 25,.b 25 .rem 19 24,.len 24 false (.t 23),.l 23 22,.f 22 21 2,.n 21 20,.m 20 0,.l 19 18,.f 18 5 2] .done) [0,1,5,7]) (.seq (.region [.m 26 0,.n 27 26,.f 28 27 2,.l 29 28,.m 30 7,.idx 31 6 (.t 29) (.t 30),.ls 32 31 6,.al 8 AF,.store (.t 8) (.t 32) 6 false] [0,1,5,7,8]) (.seq (.seq (.region [.f 33 5 0,.l 34 33,.bin 35 .eql (.t 34) (.i 4)] [0,1,5,7,8,35]) (.cond (.t 35) (.seq (.draw (E2 13 [(1,[]),(2,[]),(6,[1,5]),(7,[]),(9,[6,8]),(10,[0,9])]) (.tk 1 [.m 36 0] (.tk 6 [.l 41 40,.f 40 39 2,.n 39 38,.m 38 0] (.tk 8 [.ls 43 8 6] (.only 1 none (.brow 37 97 AF []) false [(8,.blst 44 AF [.t 43])] (.only 6 none (.app 42 97 AF (.t 37) (.t 41)) false [(8,.blst 44 AF [.t 43])] (.only 8 none (.blst 44 AF [.t 43]) true [] (.only 9 none (.app 45 97 AF (.t 42) (.t 44)) false [] (.tk 12 [.f 47 46 2,.n 46 36] (.only 12 none (.store (.t 47) (.t 45) 1 false) false [] .done))))))))) []) (.seq (.region [.mv 6 (.i 0)] [6]) .ret)) .skip)) (.seq (.draw (E2 20 [(1,[]),(2,[]),(6,[]),(7,[5,6]),(8,[1,7]),(9,[]),(13,[]),(15,[12,14]),(16,[8,15]),(17,[0,16])]) (.tk 1 [.m 48 0] (.tk 8 [.sl 55 6 (.t 53) none (some (.t 54)),.m 54 7,.l 53 52,.f 52 51 2,.n 51 50,.m 50 0] (.tk 16 [.sl 63 6 (.t 60) (some (.t 62)) none,.bin 62 .add (.t 61) (.i 1),.m 61 7,.l 60 59,.f 59 58 2,.n 58 57,.m 57 0] (.only 1 none (.brow 49 97 AF []) false [] (.only 8 none (.app 56 97 AF (.t 49) (.t 55)) false [] (.only 16 none (.app 64 97 AF (.t 56) (.t 63)) false [] (.tk 19 [.f 66 65 2,.n 65 48] (.only 19 none (.store (.t 66) (.t 64) 1 false) false [] .done)))))))) [0,1,5,8]) (.seq (.seq (.region [.f 67 5 0,.l 68 67,.bin 69 .eql (.t 68) (.i 3)] [0,1,8,69]) (.cond (.t 69) (.seq (.region [.mv 6 (.i 0)] [6]) .ret) .skip)) (.seq (.draw (E2 23 [(4,[]),(7,[3,6]),(9,[]),(13,[]),(14,[8,12,13]),(17,[15]),(18,[15]),(19,[]),(20,[16,19]),(21,[17,20]),(22,[18,21])]) (.tk 14 [.ls 84 8 6,.l 83 82,.f 82 81 0,.n 81 80,.m 80 0,.ls 79 78 16,.idx 78 16 (.t 74) (.t 77),.bin 77 .sub (.t 76) (.i 1),.l 76 75,.f 75 8 2,.l 74 73,.f 73 72 1,.n 72 71,.m 71 0] (.only 14 none (.cl 85 [79,83,84] lN) false [(19,.al 9 U)] (.tk 19 [.ext 88 (.t 70) 2,.ext 87 (.t 70) 1,.ext 86 (.t 70) 0,.m 70 85] (.only 19 none (.al 9 U) true [] (.only 20 none (.store (.t 9) (.t 86) 16 false) false [] (.tk 23 [.m 11 88,.m 10 87] .done)))))) [0,1,9,10,11]) (.seq (.region [.m 89 0,.ls 90 9 16,.m 91 10,.m 92 11,.m 93 1,.cl 94 [89,90,91,92,93] Il] []) (.seq (.region [.mv 6 (.i 0)] [6]) .ret))))))))))⟩
theorem np:At Tryz.prog 84 NQ=true:=by kernel_rfl
def LN:BM:=⟨[.val U],[⟨2,true,U⟩],(.seq (.region [.box 1 (.t 0) false,.al 2 U] [1,2]) (.seq (.region [.brow 3 3 (.int .i64) [],.f 4 1 6,.l 5 4,.app 6 3 (.int .i64) (.t 3) (.t 5),.f 7 1 6,.store (.t 7) (.t 6) 1 false] [1,2]) (.seq (.region [.brow 8 38 AC [],.f 9 1 7,.l 10 9,.app 11 38 AC (.t 8) (.t 10),.f 12 1 7,.store (.t 12) (.t 11) 1 false] [1,2]) (.seq (.region [.brow 13 3 (.int .i64) [],.f 14 1 9,.f 15 14 6,.l 16 15,.app 17 3 (.int .i64) (.t 13) (.t 16),.f 18 1 9,.f 19 18 6,.store (.t 19) (.t 17) 1 false] [1,2]) (.seq (.region [.ls 20 1 16,.store (.t 2) (.t 20) 16 false] [2]) .ret)))))⟩
theorem lZ:At Tryz.prog 86 LN=true:=by kernel_rfl
def PV:BM:=⟨[.val .str],[⟨2,false,.bool⟩],(.seq (.region [.mv 2 (.c (.bool false))] [0]) (.seq (.region [.m 3 0,.len 4 true (.t 3),.cx (some 5) [.t 4,.c (.int .i64 1),.c (.int .i64 12)] Am,.m 2 5] [2]) .ret))⟩
theorem po:At Tryz.prog 87 PV=true:=by kernel_rfl
def S6:AH:=(.seq (.region [.m 50 1,.ls 51 5 6,.cl 52 [9,50,51] aZ,.m 49 52,.ext 53 (.t 49) 0,.ext 54 (.t 49) 1,.m 10 53,.m 11 54] [6,9,10,11]) (.seq (.region [.ls 55 9 16,.cl 56 [55] Fp,.m 57 10,.m 58 11,.store (.t 6) (.t 56) 16 false,.m 7 57,.m 8 58] [6,7,8]) .ret))
def GZ:BM:=⟨[.val U,.val (.slice (.slice (.int .i64))),.val AF],[⟨6,true,U⟩,⟨7,false,(.slice AF)⟩,⟨8,false,(.slice Ar)⟩],(.seq (.region [.box 3 (.t 0) false,.box 5 (.t 2) false,.al 6 U,.mv 7 (.c (.nil)),.mv 8 (.c (.nil))] [1,3,5,6]) (.seq (.region [.ls 12 3 16,.cl 13 [12] Fp,.al 9 U,.store (.t 9) (.t 13) 16 false] [1,3,5,6,9]) (.seq (.seq (.region [.f 14 5 2,.l 15 14,.f 16 3 0,.l 17 16,.b 18 .neq 15 17,.m 19 18,.sc 19 false [.f 20 5 3,.l 21 20,.f 22 3 1,.l 23 22,.b 24 .lss 21 23] 25 (.c (.bool true)) (.t 24),.m 26 25,.sc 26 false [.f 27 5 3,.l 28 27,.m 29 1,.len 30 false (.t 29),.b 31 .gtr 28 30] 32 (.c (.bool true)) (.t 31),.m 33 32,.sc 33 false [.ls 34 3 16,.cl 35 [34] N7,.un 36 .not (.t 35)] 37 (.c (.bool true)) (.t 36),.m 38 37,.sc 38 false [.m 39 1,.cl 40 [39] GV,.un 41 .not (.t 40)] 42 (.c (.bool true)) (.t 41),.m 43 42,.sc 43 false [.ls 44 5 6,.cl 45 [44] pW,.un 46 .not (.t 45)] 47 (.c (.bool true)) (.t 46)] [1,5,6,9,47]) (.cond (.t 47) (.seq (.region [.ls 48 9 16,.store (.t 6) (.t 48) 16 false,.mv 7 (.c (.nil)),.mv 8 (.c (.nil))] [6,7,8]) .ret) .skip)) S6)))⟩
theorem la:At Tryz.prog 89 GZ=true:=by kernel_rfl
def Oo:AH:=(.seq (.draw (E2 8 [(4,[]),(6,[3,5])]) (.tk 8 [.m 10 54,.idx 54 9 (.t 51) (.t 53),.l 53 52,.f 52 9 0,.l 51 50,.f 50 49 3,.n 49 48,.m 48 0] .done) [0,3,9,10,20,21,22]) (.seq (.draw (E2 24 [(1,[]),(2,[]),(3,[]),(4,[]),(5,[]),(8,[]),(10,[]),(12,[0,4]),(15,[1,7,14]),(18,[2,9,17]),(21,[3,11,20])]) (.tk 14 [.f 68 67 4,.n 67 55,.l 66 65,.f 65 9 2,.l 64 63,.f 63 9 1,.l 62 61,.f 61 60 2,.f 60 9 3,.m 59 3,.m 58 10,.m 57 10,.m 56 10,.m 55 10] (.only 14 none (.store (.t 68) (.t 59) 1 false) false [] (.tk 17 [.f 70 69 5,.n 69 56] (.only 17 none (.store (.t 70) (.t 62) 1 false) false [] (.tk 20 [.f 72 71 6,.n 71 57] (.only 20 none (.store (.t 72) (.t 64) 1 false) false [] (.tk 23 [.f 74 73 7,.n 73 58] (.only 23 none (.store (.t 74) (.t 66) 1 false) false [] .done)))))))) [0,3,9,10,20,21,22]) (.seq (.region [.m 75 10,.n 76 75,.f 77 76 0,.l 78 77,.bin 79 .eql (.t 78) (.i 2)] [0,3,9,10,20,21,22,79]) (.cond (.t 79) (.region [.m 80 10,.f 81 9 3,.f 82 81 1,.l 83 82,.n 84 80,.f 85 84 8,.store (.t 85) (.t 83) 1 false] [0,3,20,21,22]) .skip))))
def Oq:AH:=(.region [.bin 86 .add (.t 22) (.i 1),.m 22 86] [0,3,20,21,22])
def Ot:AH:=(.seq (.region [.b 23 .lss 22 21] [0,3,20,21,22,23]) (.seq (.cond (.t 23) .skip (.exit 0)) (.seq (.block 1 [0,3,20,21,22] (.seq (.region [.idx 24 6 (.t 20) (.t 22),.ls 25 24 6,.al 9 Ar,.store (.t 9) (.t 25) 6 false] [0,3,9,20,21,22]) (.seq (.seq (.draw (E2 22 [(2,[]),(8,[1,7]),(15,[10]),(17,[14,16])]) (.tk 8 [.bin 33 .sub (.t 32) (.i 1),.len 32 false (.t 31),.l 31 30,.f 30 29 3,.n 29 28,.m 28 0,.l 27 26,.f 26 9 0] (.only 8 none (.cx (some 34) [.t 27,.c (.int .i64 0),.t 33] Am) false [] (.tk 11 [.m 36 35,.un 35 .not (.t 34)] (.test 36 (.sk 36 false 10 21 47 (.tk 22 [.pick 47 (.t 36) (.c (.bool true)) (.t 46)] .done)) (.tg 36 false 21 [.bin 46 .neq (.t 45) (.c (.int .i64 (-1))),.l 45 44,.f 44 43 4,.idx 43 9 (.t 40) (.t 42),.l 42 41,.f 41 9 0,.l 40 39,.f 39 38 3,.n 38 37,.m 37 0] (.tk 22 [.pick 47 (.t 36) (.c (.bool true)) (.t 46)] .done)))))) [0,3,9,20,21,22,47]) (.cond (.t 47) (.exit 1) .skip)) Oo))) Oq)))
def CK:BM:=⟨[.ptr Aa,.val (.slice AF),.val (.slice Ar),.val (.int .i64)],[],(.seq (.region [.m 11 0,.m 12 0,.n 13 12,.f 14 13 2,.l 15 14,.m 16 1,.app 17 97 AF (.t 15) (.t 16),.n 18 11,.f 19 18 2,.store (.t 19) (.t 17) 1 false] [0,2,3]) (.seq (.region [.m 20 2,.len 21 false (.t 20),.mv 22 (.i 0)] [0,3,20,21,22]) (.block 0 [] (.loop [0,3,20,21,22] Ot))))⟩
theorem ca:At Tryz.prog 90 CK=true:=by kernel_rfl
def BQ:BM:=⟨[.val (.slice AJ),.val (.clo 92 AJ)],[⟨4,false,.bool⟩],(.seq (.region [.mv 4 (.c (.bool false))] [0,1]) (.seq (.region [.m 5 0,.m 6 1,.cl 7 [5,6] IM,.bin 8 .geq (.t 7) (.i 0),.m 4 8] [4]) .ret))⟩
theorem HM:At Tryz.prog 91 BQ=true:=by kernel_rfl
def LO:BM:=⟨[.val AJ,.val AJ],[⟨3,false,.bool⟩],(.seq (.region [.box 2 (.t 0) false,.mv 3 (.c (.bool false))] [1,2]) (.seq (.region [.f 4 2 0,.l 5 4,.bin 6 .eql (.t 5) (.i 1),.m 7 6,.sc 7 true [.f 8 2 1,.l 9 8,.f 10 1 1,.l 11 10,.b 12 .eql 9 11] 13 (.t 12) (.c (.bool false)),.m 14 13,.sc 14 true [.f 15 2 2,.l 16 15,.f 17 1 8,.l 18 17,.b 19 .eql 16 18] 20 (.t 19) (.c (.bool false)),.m 21 20,.sc 21 true [.ls 22 2 9,.cl 23 [22] NL,.un 24 .not (.t 23),.m 25 24,.sc 25 false [.f 26 2 5,.l 27 26,.f 28 1 5,.l 29 28,.b 30 .eql 27 29] 31 (.c (.bool true)) (.t 30)] 32 (.t 31) (.c (.bool false)),.m 3 32] [3]) .ret))⟩
theorem lc:At Tryz.prog 92 LO=true:=by kernel_rfl
def JQ:AH:=(.seq (.region [.b 9 .lss 8 7] [0,1,7,8,9]) (.seq (.cond (.t 9) .skip (.exit 0)) (.seq (.block 1 [0,1,7,8] (.seq (.region [.m 10 8,.m 5 10] [0,1,5,7,8]) (.seq (.region [.m 11 1,.m 12 0,.m 13 5,.idx 14 1 (.t 12) (.t 13),.l 15 14,.b 16 .eql 11 15] [0,1,5,7,8,16]) (.cond (.t 16) (.seq (.region [.m 17 5,.m 4 17] [4]) .ret) .skip)))) (.region [.bin 18 .add (.t 8) (.i 1),.m 8 18] [0,1,7,8]))))
def JR:AH:=(.seq (.region [.mv 4 (.c (.int .i64 (-1)))] [4]) .ret)
def Bf:BM:=⟨[.val (.slice (.int .i64)),.val (.int .i64)],[⟨4,false,(.int .i64)⟩],(.seq (.region [.mv 4 (.i 0)] [0,1]) (.seq (.seq (.region [.m 6 0,.len 7 false (.t 6),.mv 8 (.i 0)] [0,1,7,8]) (.block 0 [] (.loop [0,1,7,8] JQ))) JR))⟩
theorem Ub:At Tryz.prog 95 Bf=true:=by kernel_rfl
def Ho:BM:=⟨[.ptr BC,.val (.slice (.int .i64))],[⟨4,false,(.int .i64)⟩],(.seq (.region [.mv 4 (.i 0)] [0,1]) (.seq (.region [.m 5 1,.m 6 0,.m 7 1,.len 8 false (.t 7),.cl 9 [6,8] DR,.idx 10 1 (.t 5) (.t 9),.l 11 10,.m 4 11] [4]) .ret))⟩
theorem cc:At Tryz.prog 96 Ho=true:=by kernel_rfl
def LP:BM:=⟨[.ptr BC,.val (.int .i64)],[⟨4,false,.bool⟩],(.seq (.region [.mv 4 (.c (.bool false))] [0,1]) (.seq (.region [.m 5 0,.m 6 1,.cl 7 [5,6] DR,.bin 8 .eql (.t 7) (.i 0),.m 4 8] [4]) .ret))⟩
theorem ld:At Tryz.prog 97 LP=true:=by kernel_rfl
def LQ:BM:=⟨[.ptr BC,.val (.slice .str)],[⟨4,false,.str⟩],(.seq (.region [.mv 4 (.c (.str ⟨#[]⟩))] [0,1]) (.seq (.region [.m 5 1,.m 6 0,.m 7 1,.len 8 false (.t 7),.cl 9 [6,8] DR,.idx 10 1 (.t 5) (.t 9),.l 11 10,.m 4 11] [4]) .ret))⟩
theorem lg:At Tryz.prog 98 LQ=true:=by kernel_rfl
def X7:DT:=(.only 4 none (.store (.t 12) (.t 106) 16 false) false [] (.tk 8 [.mv 15 (.c (.bool true)),.mv 14 (.c (.nil)),.m 13 109] .done))
def X8:AH:=(.seq (.seq (.region [.m 100 18,.len 101 false (.t 100),.bin 102 .eql (.t 101) (.i 0)] [12,16,18,20,102]) (.cond (.t 102) (.seq (.region [.cl 103 [16] Pp,.m 21 103] [12,16,21]) (.seq (.region [.ls 104 16 16,.m 105 21,.store (.t 12) (.t 104) 16 false,.mv 13 (.c (.nil)),.m 14 105,.mv 15 (.c (.bool true))] [12,13,14,15]) .ret)) .skip)) (.seq (.draw (E2 8 [(1,[]),(2,[]),(3,[1,2]),(4,[0,3])]) (.tk 3 [.ls 108 20 6,.m 107 18] (.fork 0 (.ls 106 16 16) (.only 3 none (.cl 109 [16,107,108] BV) false [] X7) 3 (.cl 109 [16,107,108] BV) (.tk 1 [.ls 106 16 16] X7))) [12,13,14,15]) .ret))
def Vg:AH:=(.seq (.region [.m 71 1,.f 72 6 1,.l 73 72,.bin 74 .sub (.t 73) (.i 1),.idx 75 1 (.t 71) (.t 74),.l 76 75,.cl 77 [16,76] Fq,.m 18 77] [2,3,12,16,17,18]) (.seq (.region [.m 78 18,.cl 79 [78] CX,.m 19 79] [2,3,12,16,17,18,19]) (.seq (.region [.m 80 19,.cl 81 [80] MT] [2,3,12,16,17,18,19]) (.seq (.region [.m 82 2,.m 83 3,.f 84 16 8,.l 85 84,.ls 86 17 3,.m 87 19,.bu 88 K9 [(0,1,.t 82),(1,1,.t 83),(2,1,.t 85),(3,3,.t 86),(6,1,.t 87)],.f 89 16 9,.store (.t 89) (.t 88) 7 false] [2,12,16,17,18]) (.seq (.region [.f 90 16 8,.l 91 90,.bu 92 AF [(0,1,.c (.int .i64 7)),(4,1,.t 91)],.al 20 AF,.store (.t 20) (.t 92) 6 false] [2,12,16,17,18,20]) (.seqc [12,16,18,20] (.seq (.region [.m 93 2,.bin 94 .eql (.t 93) (.i 1)] [12,16,17,18,20,94]) (.cond (.t 94) (.region [.f 95 16 8,.l 96 95,.ls 97 17 3,.brow 98 38 AC [.t 97],.bu 99 AF [(0,1,.c (.int .i64 5)),(4,1,.t 96),(5,1,.t 98)],.store (.t 20) (.t 99) 6 false] [12,16,18,20]) .skip)) X8))))))
def Vh:AH:=(.seq (.region [.ls 39 6 16,.cl 40 [39] Fp,.al 16 U,.store (.t 16) (.t 40) 16 false] [1,2,3,4,5,6,12,16]) (.seq (.region [.f 41 16 8,.l 42 41,.bin 43 .add (.t 42) (.i 1),.f 44 16 8,.store (.t 44) (.t 43) 1 false] [1,2,3,4,5,6,12,16]) (.seq (.region [.m 45 4,.m 46 5,.f 47 6 1,.l 48 47,.bin 49 .mul (.i 1000) (.t 48),.f 50 16 8,.l 51 50,.b 52 .add 49 51,.bu 53 AC [(0,1,.t 45),(1,1,.t 46),(2,1,.t 52)],.al 17 AC,.store (.t 17) (.t 53) 3 false] [1,2,3,4,6,12,16,17]) (.seq (.seq (.region [.m 54 2,.bin 55 .eql (.t 54) (.i 1),.m 56 55,.sc 56 true [.f 57 6 7,.l 58 57,.len 59 false (.t 58),.bin 60 .eql (.t 59) (.i 12)] 61 (.t 60) (.c (.bool false)),.m 62 61,.sc 62 true [.f 63 6 7,.l 64 63,.m 65 4,.cl 66 [64,65] Z6,.bu 67 AC [],.eqs 68 false AC (.t 66) (.t 67)] 69 (.t 68) (.c (.bool false))] [1,2,3,6,12,16,17,69]) (.cond (.t 69) (.seq (.region [.bu 70 U [],.store (.t 12) (.t 70) 16 false,.mv 13 (.c (.nil)),.mv 14 (.c (.nil)),.mv 15 (.c (.bool false))] [12,13,14,15]) .ret) .skip)) Vg))))
def Dr:BM:=⟨[.val U,.val (.slice (.slice (.int .i64))),.val (.int .i64),.val (.int .i64),.val .str,.val .str],[⟨12,true,U⟩,⟨13,false,(.slice AF)⟩,⟨14,false,(.slice Ar)⟩,⟨15,false,.bool⟩],(.seq (.region [.box 6 (.t 0) false,.al 12 U,.mv 13 (.c (.nil)),.mv 14 (.c (.nil)),.mv 15 (.c (.bool false))] [1,2,3,4,5,6,12]) (.seq (.seq (.region [.ls 22 6 16,.cl 23 [22] N7,.un 24 .not (.t 23),.m 25 24,.sc 25 false [.m 26 1,.cl 27 [6,26] UZ,.un 28 .not (.t 27)] 29 (.c (.bool true)) (.t 28),.m 30 29,.sc 30 false [.m 31 2,.m 32 3,.m 33 4,.m 34 5,.cl 35 [31,32,33,34] cU,.un 36 .not (.t 35)] 37 (.c (.bool true)) (.t 36)] [1,2,3,4,5,6,12,37]) (.cond (.t 37) (.seq (.region [.bu 38 U [],.store (.t 12) (.t 38) 16 false,.mv 13 (.c (.nil)),.mv 14 (.c (.nil)),.mv 15 (.c (.bool false))] [12,13,14,15]) .ret) .skip)) Vh))⟩
theorem pp:At Tryz.prog 100 Dr=true:=by kernel_rfl
def X9:DT:=(.sk 33 false 10 32 44 (.tk 33 [.pick 44 (.t 33) (.c (.bool true)) (.t 43)] .done))
def Vi:DT:=(.sk 27 false 4 20 32 (.tk 22 [.m 33 32,.pick 32 (.t 27) (.c (.bool true)) (.t 31)] X9))
def Vj:DT:=(.sk 20 false 5 14 26 (.tk 16 [.m 27 26,.pick 26 (.t 20) (.c (.bool true)) (.t 25)] Vi))
def Vk:DT:=(.only 9 none (.store (.t 6) (.t 74) 16 false) false [] (.tk 12 [.mv 8 (.c (.bool true)),.m 7 82] .done))
def Vl:DT:=(.only 8 none (.cl 82 [9,80,81] BV) false [] Vk)
def Vm:AH:=(.seq (.region [.cl 57 [9] LD] [1,2,6,9,10]) (.seq (.region [.m 58 2,.f 59 9 1,.store (.t 59) (.t 58) 1 false,.f 60 9 2,.store (.t 60) (.c (.bool false)) 1 false,.f 61 9 3,.store (.t 61) (.c (.bool false)) 1 false,.f 62 9 4,.store (.t 62) (.c (.bool true)) 1 false] [1,2,6,9,10]) (.seq (.seq (.region [.m 63 10] [1,2,6,9,63]) (.cond (.t 63) (.seq (.draw (E2 9 [(1,[]),(3,[0,2]),(5,[]),(7,[4,6])]) (.tk 7 [.l 70 69,.f 69 9 7,.l 68 67,.idx 67 1 (.t 64) (.t 66),.bin 66 .sub (.t 65) (.i 1),.m 65 2,.m 64 1] (.only 7 none (.cl 71 [9,68,70] LE) false [] (.tk 9 [.m 11 71] .done))) [6,9,11]) (.seq (.region [.ls 72 9 16,.m 73 11,.store (.t 6) (.t 72) 16 false,.m 7 73,.mv 8 (.c (.bool true))] [6,7,8]) .ret)) .skip)) (.seq (.draw (E2 12 [(1,[]),(2,[]),(4,[1,3]),(7,[]),(8,[6,7]),(9,[0,8])]) (.tk 6 [.l 79 78,.idx 78 1 (.t 75) (.t 77),.bin 77 .sub (.t 76) (.i 2),.m 76 2,.m 75 1] (.tk 8 [.bu 81 AF [(0,1,.c (.int .i64 1))]] (.fork 0 (.ls 74 9 16) (.only 6 none (.cl 80 [9,79] Fq) false [] Vl) 6 (.cl 80 [9,79] Fq) (.fork 0 (.ls 74 9 16) Vl 8 (.cl 82 [9,80,81] BV) (.tk 1 [.ls 74 9 16] Vk))))) [6,7,8]) .ret))))
def Vn:AH:=(.seq (.region [.ls 46 3 16,.cl 47 [46] Fp,.al 9 U,.store (.t 9) (.t 47) 16 false] [1,2,3,6,9]) (.seq (.region [.f 48 3 3,.l 49 48,.m 50 49,.sc 50 true [.f 51 3 1,.l 52 51,.m 53 2,.bin 54 .sub (.t 53) (.i 1),.b 55 .eql 52 54] 56 (.t 55) (.c (.bool false)),.m 10 56] [1,2,6,9,10]) Vm))
def Fw:BM:=⟨[.val U,.val (.slice (.slice (.int .i64))),.val (.int .i64)],[⟨6,true,U⟩,⟨7,false,(.slice AF)⟩,⟨8,false,.bool⟩],(.seq (.region [.box 3 (.t 0) false,.al 6 U,.mv 7 (.c (.nil)),.mv 8 (.c (.bool false))] [1,2,3,6]) (.seq (.seq (.draw (E2 33 [(10,[8]),(12,[9,11]),(17,[15]),(19,[16,18]),(23,[21]),(25,[22,24]),(29,[21]),(31,[28,30])]) (.tk 1 [.ls 12 3 16] (.only 1 none (.cl 13 [12] N7) false [] (.tk 4 [.m 15 14,.un 14 .not (.t 13)] (.test 15 (.sk 15 false 3 7 19 (.tk 9 [.m 20 19,.pick 19 (.t 15) (.c (.bool true)) (.t 18)] Vj)) (.tg 15 false 5 [.m 16 1] (.only 5 (some (15,false)) (.cl 17 [16] GV) false [] (.tg 15 false 7 [.un 18 .not (.t 17)] (.tk 9 [.m 20 19,.pick 19 (.t 15) (.c (.bool true)) (.t 18)] (.test 20 Vj (.tg 20 false 12 [.len 23 false (.t 22),.m 22 1,.m 21 2] (.only 12 (some (20,false)) (.cx (some 24) [.t 21,.c (.int .i64 2),.t 23] Am) false [] (.tg 20 false 14 [.un 25 .not (.t 24)] (.tk 16 [.m 27 26,.pick 26 (.t 20) (.c (.bool true)) (.t 25)] (.test 27 Vi (.tg 27 false 20 [.b 31 .leq 28 30,.l 30 29,.f 29 3 1,.m 28 2] (.tk 22 [.m 33 32,.pick 32 (.t 27) (.c (.bool true)) (.t 31)] (.test 33 X9 (.tg 33 false 32 [.b 43 .neq 40 42,.l 42 41,.f 41 3 0,.l 40 39,.idx 39 1 (.t 38) (.i 0),.l 38 37,.idx 37 1 (.t 34) (.t 36),.bin 36 .sub (.t 35) (.i 1),.m 35 2,.m 34 1] (.tk 33 [.pick 44 (.t 33) (.c (.bool true)) (.t 43)] .done))))))))))))))))))) [1,2,3,6,44]) (.cond (.t 44) (.seq (.region [.bu 45 U [],.store (.t 6) (.t 45) 16 false,.mv 7 (.c (.nil)),.mv 8 (.c (.bool false))] [6,7,8]) .ret) .skip)) Vn))⟩
theorem pq:At Tryz.prog 101 Fw=true:=by kernel_rfl
def C3:AH:=(.seq (.region [.b 9 .lss 8 7] [0,1,7,8,9]) (.seq (.cond (.t 9) .skip (.exit 0)) (.seq (.block 1 [0,1,7,8] (.seq (.region [.m 10 8,.m 5 10] [0,1,5,7,8]) (.seq (.region [.m 11 1,.m 12 0,.m 13 5,.idx 14 16 (.t 12) (.t 13),.ls 15 14 16,.call (some 16) 103 [(.t 15,.bor U),(.t 11,.cap 103 (.int .i64))] [.bool]] [0,1,5,7,8,16]) (.cond (.t 16) (.seq (.region [.m 17 5,.m 4 17] [4]) .ret) .skip)))) (.region [.bin 18 .add (.t 8) (.i 1),.m 8 18] [0,1,7,8]))))
def C4:AH:=(.seq (.region [.mv 4 (.c (.int .i64 (-1)))] [4]) .ret)
def AU:BM:=⟨[.val (.slice U),.val (.clo 103 (.int .i64))],[⟨4,false,(.int .i64)⟩],(.seq (.region [.mv 4 (.i 0)] [0,1]) (.seq (.seq (.region [.m 6 0,.len 7 false (.t 6),.mv 8 (.i 0)] [0,1,7,8]) (.block 0 [] (.loop [0,1,7,8] C3))) C4))⟩
theorem G6:At Tryz.prog 102 AU=true:=by kernel_rfl
def FR:BM:=⟨[.val U,.val (.int .i64)],[⟨3,false,.bool⟩],(.seq (.region [.box 2 (.t 0) false,.mv 3 (.c (.bool false))] [1,2]) (.seq (.region [.f 4 2 0,.l 5 4,.l 6 1,.b 7 .eql 5 6,.m 3 7] [3]) .ret))⟩
theorem XG:At Tryz.prog 103 FR=true:=by kernel_rfl
def S7:AH:=(.seq (.seq (.region [.m 8 3,.m 9 0,.len 10 false (.t 9),.b 11 .lss 8 10] [0,3,11]) (.cond (.t 11) .skip (.exit 0))) (.seq (.block 1 [0,3] (.seq (.draw (E2 16 [(1,[]),(2,[0,1]),(8,[6]),(9,[7,8]),(10,[6]),(11,[6]),(12,[10,11]),(14,[9,13])]) (.tk 4 [.l 17 16,.idx 16 1 (.t 14) (.t 15),.m 15 3,.m 14 0] (.only 4 none (.cx (some 18) [.t 17,.c (.int .i64 1),.c (.int .i64 6)] As) false [] (.tk 7 [.m 20 19,.un 19 .not (.t 18)] (.test 20 (.sk 20 false 8 15 29 (.tk 16 [.pick 29 (.t 20) (.c (.bool true)) (.t 28)] .done)) (.tg 20 false 14 [.l 27 26,.idx 26 1 (.t 24) (.t 25),.m 25 3,.m 24 0,.sl 23 1 (.t 21) none (some (.t 22)),.m 22 3,.m 21 0] (.only 14 (some (20,false)) (.cl 28 [23,27] Fo) false [] (.tk 16 [.pick 29 (.t 20) (.c (.bool true)) (.t 28)] .done))))))) [0,3,29]) (.cond (.t 29) (.seq (.region [.mv 2 (.c (.bool false))] [2]) .ret) .skip))) (.region [.m 12 3,.bin 13 .add (.t 12) (.i 1),.m 3 13] [0,3])))
def S8:AH:=(.seq (.region [.mv 2 (.c (.bool true))] [2]) .ret)
def D1:BM:=⟨[.val (.slice (.int .i64))],[⟨2,false,.bool⟩],(.seq (.region [.mv 2 (.c (.bool false))] [0]) (.seq (.seq (.region [.m 4 0,.len 5 false (.t 4),.cx (some 6) [.t 5,.c (.int .i64 1),.c (.int .i64 4)] As,.un 7 .not (.t 6)] [0,7]) (.cond (.t 7) (.seq (.region [.mv 2 (.c (.bool false))] [2]) .ret) .skip)) (.seq (.seq (.region [.mv 3 (.i 0)] [0,3]) (.block 0 [] (.loop [0,3] S7))) S8)))⟩
theorem lh:At Tryz.prog 105 D1=true:=by kernel_rfl

def X_:DT:=(.sk 88 false 11 75 100 (.tk 76 [.pick 100 (.t 88) (.c (.bool true)) (.t 99)] .done))
def Vo:DT:=(.sk 81 false 5 62 87 (.tk 64 [.m 88 87,.pick 87 (.t 81) (.c (.bool true)) (.t 86)] X_))
def Vp:DT:=(.sk 73 false 3 52 77 (.sk 76 true 2 54 79 (.sk 73 false 1 55 80 (.tk 57 [.m 81 80,.pick 80 (.t 73) (.c (.bool true)) (.t 79)] Vo))))
def Vq:DT:=(.sk 68 false 3 47 72 (.tk 49 [.m 73 72,.pick 72 (.t 68) (.c (.bool true)) (.t 71)] Vp))
def Vr:DT:=(.sk 62 false 4 42 67 (.tk 44 [.m 68 67,.pick 67 (.t 62) (.c (.bool true)) (.t 66)] Vq))
def Vs:DT:=(.sk 57 false 3 36 61 (.tk 38 [.m 62 61,.pick 61 (.t 57) (.c (.bool true)) (.t 60)] Vr))
def Vt:DT:=(.sk 49 false 3 28 53 (.sk 52 true 2 30 55 (.sk 49 false 1 31 56 (.tk 33 [.m 57 56,.pick 56 (.t 49) (.c (.bool true)) (.t 55)] Vs))))
def Vu:DT:=(.sk 44 false 3 23 48 (.tk 25 [.m 49 48,.pick 48 (.t 44) (.c (.bool true)) (.t 47)] Vt))
def Vv:DT:=(.sk 38 false 4 18 43 (.tk 20 [.m 44 43,.pick 43 (.t 38) (.c (.bool true)) (.t 42)] Vu))
def Vw:DT:=(.sk 33 false 3 12 37 (.tk 14 [.m 38 37,.pick 37 (.t 33) (.c (.bool true)) (.t 36)] Vv))
def Vx:DT:=(.tg 81 false 62 [.b 86 .gtr 83 85,.len 85 false (.t 84),.m 84 1,.l 83 82,.f 82 6 1] (.tk 64 [.m 88 87,.pick 87 (.t 81) (.c (.bool true)) (.t 86)] (.test 88 X_ (.tg 88 false 75 [.b 99 .neq 96 98,.l 98 97,.f 97 6 0,.l 96 95,.idx 95 1 (.t 94) (.i 0),.l 94 93,.idx 93 1 (.t 89) (.t 92),.bin 92 .sub (.t 91) (.i 1),.l 91 90,.f 90 6 1,.m 89 1] (.tk 76 [.pick 100 (.t 88) (.c (.bool true)) (.t 99)] .done)))))
def S9:DT:=(.tg 57 false 34 [.m 58 3] (.only 34 (some (57,false)) (.cx (some 59) [.t 58,.c (.int .i64 0),.c (.int .i64 1000)] As) false [] (.tg 57 false 36 [.un 60 .not (.t 59)] (.tk 38 [.m 62 61,.pick 61 (.t 57) (.c (.bool true)) (.t 60)] (.test 62 Vr (.tg 62 false 40 [.len 64 true (.t 63),.m 63 4] (.only 40 (some (62,false)) (.cx (some 65) [.t 64,.c (.int .i64 1),.c (.int .i64 12)] As) false [] (.tg 62 false 42 [.un 66 .not (.t 65)] (.tk 44 [.m 68 67,.pick 67 (.t 62) (.c (.bool true)) (.t 66)] (.test 68 Vq (.tg 68 false 47 [.bin 71 .gtr (.t 70) (.i 20),.len 70 true (.t 69),.m 69 5] (.tk 49 [.m 73 72,.pick 72 (.t 68) (.c (.bool true)) (.t 71)] (.test 73 Vp (.tg 73 false 52 [.m 76 75,.bin 75 .eql (.t 74) (.i 2),.m 74 2] (.test 76 (.tg 76 true 54 [.bin 78 .neq (.t 77) (.c (.str ⟨#[]⟩)),.m 77 5] (.tg 73 false 55 [.pick 79 (.t 76) (.t 78) (.c (.bool false))] (.tk 57 [.m 81 80,.pick 80 (.t 73) (.c (.bool true)) (.t 79)] (.test 81 Vo Vx)))) (.sk 76 true 2 54 79 (.tg 73 false 55 [.pick 79 (.t 76) (.t 78) (.c (.bool false))] (.tk 57 [.m 81 80,.pick 80 (.t 73) (.c (.bool true)) (.t 79)] Vx))))))))))))))))))
def Mu:AH:=(.seq (.seq (.region [.m 160 21,.m 161 20,.len 162 false (.t 161),.b 163 .lss 160 162] [2,6,12,16,17,18,19,20,21,163]) (.cond (.t 163) .skip (.exit 0))) (.seq (.block 1 [2,6,12,16,17,18,19,20,21] (.seq (.seq (.draw (E2 7 [(1,[]),(2,[0,1]),(4,[]),(6,[3,5])]) (.tk 7 [.b 172 .eql 169 171,.l 171 170,.f 170 6 0,.l 169 168,.idx 168 1 (.t 166) (.t 167),.m 167 21,.m 166 20] .done) [2,6,12,16,17,18,19,20,21,172]) (.cond (.t 172) (.exit 1) .skip)) (.seq (.draw (E2 13 [(2,[]),(3,[]),(4,[2,3]),(6,[]),(8,[]),(10,[1,5,7,9]),(11,[]),(12,[10,11])]) (.tk 11 [.bu 183 AF [(0,1,.c (.int .i64 7)),(1,1,.t 174),(2,1,.t 178),(3,1,.t 180),(4,1,.t 182)],.l 182 181,.f 181 18 8,.l 180 179,.f 179 6 1,.l 178 177,.idx 177 1 (.t 175) (.t 176),.m 176 21,.m 175 20,.l 174 173,.f 173 6 0] (.only 11 none (.al 22 AF) false [] (.only 12 none (.store (.t 22) (.t 183) 6 false) false [] .done))) [2,6,12,16,17,18,19,20,21,22]) (.seqc [2,6,12,16,17,18,19,20,21,22] (.seq (.region [.m 184 2,.bin 185 .eql (.t 184) (.i 1)] [2,6,12,16,17,18,19,20,21,22,185]) (.cond (.t 185) (.seq (.region [.f 186 22 0,.store (.t 186) (.i 5) 1 false] [2,6,12,16,17,18,19,20,21,22]) (.region [.ls 187 19 3,.brow 188 38 AC [.t 187],.f 189 22 5,.store (.t 189) (.t 188) 1 false] [2,6,12,16,17,18,19,20,21,22])) .skip)) (.region [.m 190 16,.ls 191 22 6,.blst 192 AF [.t 191],.app 193 97 AF (.t 190) (.t 192),.m 16 193] [2,6,12,16,17,18,19,20,21]))))) (.region [.m 164 21,.bin 165 .add (.t 164) (.i 1),.m 21 165] [2,6,12,16,17,18,19,20,21])))
def S_:AH:=(.seq (.region [.ls 194 18 16,.m 195 16,.m 196 17,.store (.t 12) (.t 194) 16 false,.m 13 195,.m 14 196,.mv 15 (.c (.bool true))] [12,13,14,15]) .ret)
def Mv:AH:=(.seq (.region [.m 134 1,.f 135 6 1,.l 136 135,.bin 137 .sub (.t 136) (.i 1),.idx 138 1 (.t 134) (.t 137),.l 139 138,.m 20 139] [2,3,6,12,16,17,18,19,20]) (.seq (.draw (E2 12 [(1,[]),(2,[]),(4,[]),(5,[]),(6,[]),(8,[5,7]),(9,[0,1,3,4,8])]) (.tk 8 [.l 147 146,.f 146 6 0,.m 145 20,.ls 144 19 3,.l 143 142,.f 142 18 8,.m 141 3,.m 140 2] (.only 8 none (.cl 148 [145,147] Su) false [] (.tk 11 [.f 150 18 9,.bu 149 K9 [(0,1,.t 140),(1,1,.t 141),(2,1,.t 143),(3,3,.t 144),(6,1,.t 148)]] (.only 11 none (.store (.t 150) (.t 149) 7 false) false [] .done)))) [2,6,12,16,17,18,19,20]) (.seq (.seq (.region [.f 151 18 9,.f 152 151 6,.l 153 152,.len 154 false (.t 153),.bin 155 .eql (.t 154) (.i 0)] [2,6,12,16,17,18,19,20,155]) (.cond (.t 155) (.seq (.region [.cl 156 [18] Sv,.m 17 156] [12,16,17,18]) (.seq (.region [.ls 157 18 16,.m 158 16,.m 159 17,.store (.t 12) (.t 157) 16 false,.m 13 158,.m 14 159,.mv 15 (.c (.bool true))] [12,13,14,15]) .ret)) .skip)) (.seq (.seq (.region [.mv 21 (.i 0)] [2,6,12,16,17,18,19,20,21]) (.block 0 [12,16,17,18] (.loop [2,6,12,16,17,18,19,20,21] Mu))) S_))))
def TA:AH:=(.seq (.region [.ls 104 6 16,.cl 105 [104] IL,.al 18 U,.store (.t 18) (.t 105) 16 false] [1,2,3,4,5,6,12,16,17,18]) (.seq (.region [.f 106 6 8,.l 107 106,.bin 108 .add (.t 107) (.i 1),.f 109 18 8,.store (.t 109) (.t 108) 1 false] [1,2,3,4,5,6,12,16,17,18]) (.seq (.region [.m 110 4,.m 111 5,.f 112 6 1,.l 113 112,.bin 114 .mul (.i 1000) (.t 113),.f 115 18 8,.l 116 115,.b 117 .add 114 116,.bu 118 AC [(0,1,.t 110),(1,1,.t 111),(2,1,.t 117)],.al 19 AC,.store (.t 19) (.t 118) 3 false] [1,2,3,4,6,12,16,17,18,19]) (.seq (.seq (.draw (E2 12 [(5,[2]),(6,[4,5]),(7,[2]),(8,[6,7]),(9,[2]),(10,[8,9])]) (.tk 3 [.m 121 120,.bin 120 .eql (.t 119) (.i 1),.m 119 2] (.test 121 (.tg 121 true 6 [.ls 124 19 3,.l 123 122,.f 122 6 7] (.tg 121 true 8 [.m 126 4] (.tg 121 true 10 [.ls 128 19 3] (.only 6 (some (121,true)) (.cl 125 [123,124] Pq) false [] (.only 8 (some (121,true)) (.cl 127 [125,126] Z7) false [] (.tg 121 true 11 [.eqs 129 true AC (.t 127) (.t 128)] (.tk 12 [.pick 130 (.t 121) (.t 129) (.c (.bool false))] .done))))))) (.sk 121 true 8 11 130 (.tk 12 [.pick 130 (.t 121) (.t 129) (.c (.bool false))] .done)))) [1,2,3,6,12,16,17,18,19,130]) (.cond (.t 130) (.seq (.region [.bu 131 U [],.m 132 16,.m 133 17,.store (.t 12) (.t 131) 16 false,.m 13 132,.m 14 133,.mv 15 (.c (.bool false))] [12,13,14,15]) .ret) .skip)) Mv))))
def Bo:BM:=⟨[.val U,.val (.slice (.slice (.int .i64))),.val (.int .i64),.val (.int .i64),.val .str,.val .str],[⟨12,true,U⟩,⟨13,false,(.slice AF)⟩,⟨14,false,(.slice Ar)⟩,⟨15,false,.bool⟩],(.seq (.region [.box 6 (.t 0) false,.al 12 U,.mv 13 (.c (.nil)),.mv 14 (.c (.nil)),.mv 15 (.c (.bool false))] [1,2,3,4,5,6,12]) (.seq (.region [.brow 23 97 AF [],.m 16 23] [1,2,3,4,5,6,12,16]) (.seq (.region [.blst 24 Ar [],.m 17 24] [1,2,3,4,5,6,12,16,17]) (.seq (.seq (.draw (E2 76 [(59,[56]),(61,[58,60]),(65,[63]),(68,[64,67]),(72,[63]),(74,[71,73])]) (.tk 1 [.ls 25 6 16] (.only 1 none (.cl 26 [25] N8) false [] (.tk 4 [.m 28 27,.un 27 .not (.t 26)] (.test 28 (.sk 28 false 3 7 32 (.tk 9 [.m 33 32,.pick 32 (.t 28) (.c (.bool true)) (.t 31)] Vw)) (.tg 28 false 5 [.m 29 1] (.only 5 (some (28,false)) (.cl 30 [29] IK) false [] (.tg 28 false 7 [.un 31 .not (.t 30)] (.tk 9 [.m 33 32,.pick 32 (.t 28) (.c (.bool true)) (.t 31)] (.test 33 Vw (.tg 33 false 12 [.un 36 .not (.t 35),.l 35 34,.f 34 6 5] (.tk 14 [.m 38 37,.pick 37 (.t 33) (.c (.bool true)) (.t 36)] (.test 38 Vv (.tg 38 false 18 [.bin 42 .neq (.t 41) (.i 0),.l 41 40,.f 40 39 0,.f 39 6 9] (.tk 20 [.m 44 43,.pick 43 (.t 38) (.c (.bool true)) (.t 42)] (.test 44 Vu (.tg 44 false 23 [.bin 47 .geq (.t 46) (.i 900),.l 46 45,.f 45 6 8] (.tk 25 [.m 49 48,.pick 48 (.t 44) (.c (.bool true)) (.t 47)] (.test 49 Vt (.tg 49 false 28 [.m 52 51,.bin 51 .neq (.t 50) (.i 1),.m 50 2] (.test 52 (.tg 52 true 30 [.bin 54 .neq (.t 53) (.i 2),.m 53 2] (.tg 49 false 31 [.pick 55 (.t 52) (.t 54) (.c (.bool false))] (.tk 33 [.m 57 56,.pick 56 (.t 49) (.c (.bool true)) (.t 55)] (.test 57 Vs S9)))) (.sk 52 true 2 30 55 (.tg 49 false 31 [.pick 55 (.t 52) (.t 54) (.c (.bool false))] (.tk 33 [.m 57 56,.pick 56 (.t 49) (.c (.bool true)) (.t 55)] S9))))))))))))))))))))))) [1,2,3,4,5,6,12,16,17,100]) (.cond (.t 100) (.seq (.region [.bu 101 U [],.m 102 16,.m 103 17,.store (.t 12) (.t 101) 16 false,.m 13 102,.m 14 103,.mv 15 (.c (.bool false))] [12,13,14,15]) .ret) .skip)) TA))))⟩
theorem pr:At Tryz.prog 106 Bo=true:=by kernel_rfl
def YA:DT:=(.sk 37 false 10 32 48 (.tk 33 [.pick 48 (.t 37) (.c (.bool true)) (.t 47)] .done))
def Vy:DT:=(.sk 31 false 4 20 36 (.tk 22 [.m 37 36,.pick 36 (.t 31) (.c (.bool true)) (.t 35)] YA))
def Vz:DT:=(.sk 24 false 5 14 30 (.tk 16 [.m 31 30,.pick 30 (.t 24) (.c (.bool true)) (.t 29)] Vy))
def V0:DT:=(.sk 60 true 8 18 69 (.tk 20 [.m 10 69,.pick 69 (.t 60) (.t 68) (.c (.bool false))] .done))
def V5:AH:=(.seq (.seq (.region [.m 90 13,.m 91 1,.m 92 2,.bin 93 .sub (.t 92) (.i 2),.idx 94 1 (.t 91) (.t 93),.l 95 94,.len 96 false (.t 95),.b 97 .lss 90 96] [1,2,3,6,9,11,13,97]) (.cond (.t 97) .skip (.exit 0))) (.seq (.block 1 [1,2,3,6,9,11,13] (.seq (.region [.m 100 1,.m 101 2,.bin 102 .sub (.t 101) (.i 2),.idx 103 1 (.t 100) (.t 102),.l 104 103,.m 105 13,.idx 106 1 (.t 104) (.t 105),.l 107 106,.m 14 107] [1,2,3,6,9,11,13,14]) (.seq (.region [.m 108 14,.f 109 3 0,.l 110 109,.b 111 .neq 108 110] [1,2,3,6,9,11,13,14,111]) (.cond (.t 111) (.region [.m 112 9,.f 113 3 0,.l 114 113,.m 115 14,.m 116 2,.bu 117 AF [(0,1,.c (.int .i64 1)),(1,1,.t 114),(2,1,.t 115),(3,1,.t 116)],.blst 118 AF [.t 117],.app 119 97 AF (.t 112) (.t 118),.m 9 119] [1,2,3,6,9,11,13]) .skip)))) (.region [.m 98 13,.bin 99 .add (.t 98) (.i 1),.m 13 99] [1,2,3,6,9,11,13])))
def V6:AH:=(.seq (.region [.ls 120 11 16,.cl 121 [120] IL,.m 122 9,.store (.t 6) (.t 121) 16 false,.m 7 122,.mv 8 (.c (.bool true))] [6,7,8]) .ret)
def V7:AH:=(.seq (.draw (E2 10 [(2,[]),(3,[]),(4,[]),(6,[3,5]),(7,[1,2,6]),(8,[]),(9,[7,8])]) (.tk 3 [.m 72 2,.l 71 70,.f 70 3 0] (.tk 6 [.l 75 74,.f 74 3 7] (.only 3 none (.brow 73 38 AC []) false [(8,.al 11 U)] (.only 6 none (.apz 76 38 AC (.t 73) (.t 75)) false [(8,.al 11 U)] (.tk 8 [.bu 77 U [(0,1,.t 71),(1,1,.t 72),(4,1,.c (.bool true)),(7,1,.t 76)]] (.only 8 none (.al 11 U) true [] (.only 9 none (.store (.t 11) (.t 77) 16 false) false [] .done))))))) [1,2,3,6,9,10,11]) (.seq (.seq (.region [.m 78 10] [1,2,3,6,9,11,78]) (.cond (.t 78) (.seq (.draw (E2 9 [(1,[]),(3,[0,2]),(5,[]),(7,[4,6])]) (.tk 7 [.l 85 84,.f 84 3 7,.l 83 82,.idx 82 1 (.t 79) (.t 81),.bin 81 .sub (.t 80) (.i 1),.m 80 2,.m 79 1] (.only 7 none (.cl 86 [11,83,85] Z8) false [] (.tk 9 [.m 12 86] .done))) [6,11,12]) (.seq (.region [.ls 87 11 16,.cl 88 [87] IL,.m 89 12,.store (.t 6) (.t 88) 16 false,.m 7 89,.mv 8 (.c (.bool true))] [6,7,8]) .ret)) .skip)) (.seq (.seq (.region [.mv 13 (.i 0)] [1,2,3,6,9,11,13]) (.block 0 [6,9,11] (.loop [1,2,3,6,9,11,13] V5))) V6)))
def V8:AH:=(.seq (.draw (E2 20 [(5,[2]),(7,[4,6]),(11,[9]),(13,[10,12]),(15,[9]),(17,[14,16])]) (.tk 3 [.m 53 52,.l 52 51,.f 51 3 3] (.test 53 (.tg 53 true 8 [.b 58 .eql 55 57,.bin 57 .sub (.t 56) (.i 1),.m 56 2,.l 55 54,.f 54 3 1] (.tk 10 [.m 60 59,.pick 59 (.t 53) (.t 58) (.c (.bool false))] (.test 60 (.tg 60 true 17 [.l 67 66,.f 66 3 0,.l 65 64,.idx 64 1 (.t 61) (.t 63),.bin 63 .sub (.t 62) (.i 2),.m 62 2,.m 61 1] (.only 17 (some (60,true)) (.cl 68 [65,67] Fo) false [] (.tk 20 [.m 10 69,.pick 69 (.t 60) (.t 68) (.c (.bool false))] .done))) V0))) (.sk 53 true 5 8 59 (.tk 10 [.m 60 59,.pick 59 (.t 53) (.t 58) (.c (.bool false))] V0)))) [1,2,3,6,9,10]) V7)
def Cs:BM:=⟨[.val U,.val (.slice (.slice (.int .i64))),.val (.int .i64)],[⟨6,true,U⟩,⟨7,false,(.slice AF)⟩,⟨8,false,.bool⟩],(.seq (.region [.box 3 (.t 0) false,.al 6 U,.mv 7 (.c (.nil)),.mv 8 (.c (.bool false))] [1,2,3,6]) (.seq (.region [.brow 15 97 AF [],.m 9 15] [1,2,3,6,9]) (.seq (.seq (.draw (E2 33 [(10,[8]),(12,[9,11]),(17,[15]),(19,[16,18]),(23,[21]),(25,[22,24]),(29,[21]),(31,[28,30])]) (.tk 1 [.ls 16 3 16] (.only 1 none (.cl 17 [16] N8) false [] (.tk 4 [.m 19 18,.un 18 .not (.t 17)] (.test 19 (.sk 19 false 3 7 23 (.tk 9 [.m 24 23,.pick 23 (.t 19) (.c (.bool true)) (.t 22)] Vz)) (.tg 19 false 5 [.m 20 1] (.only 5 (some (19,false)) (.cl 21 [20] IK) false [] (.tg 19 false 7 [.un 22 .not (.t 21)] (.tk 9 [.m 24 23,.pick 23 (.t 19) (.c (.bool true)) (.t 22)] (.test 24 Vz (.tg 24 false 12 [.len 27 false (.t 26),.m 26 1,.m 25 2] (.only 12 (some (24,false)) (.cx (some 28) [.t 25,.c (.int .i64 2),.t 27] As) false [] (.tg 24 false 14 [.un 29 .not (.t 28)] (.tk 16 [.m 31 30,.pick 30 (.t 24) (.c (.bool true)) (.t 29)] (.test 31 Vy (.tg 31 false 20 [.b 35 .leq 32 34,.l 34 33,.f 33 3 1,.m 32 2] (.tk 22 [.m 37 36,.pick 36 (.t 31) (.c (.bool true)) (.t 35)] (.test 37 YA (.tg 37 false 32 [.b 47 .neq 44 46,.l 46 45,.f 45 3 0,.l 44 43,.idx 43 1 (.t 42) (.i 0),.l 42 41,.idx 41 1 (.t 38) (.t 40),.bin 40 .sub (.t 39) (.i 1),.m 39 2,.m 38 1] (.tk 33 [.pick 48 (.t 37) (.c (.bool true)) (.t 47)] .done))))))))))))))))))) [1,2,3,6,9,48]) (.cond (.t 48) (.seq (.region [.bu 49 U [],.m 50 9,.store (.t 6) (.t 49) 16 false,.m 7 50,.mv 8 (.c (.bool false))] [6,7,8]) .ret) .skip)) V8)))⟩
theorem pu:At Tryz.prog 107 Cs=true:=by kernel_rfl
def TB:DT:=(.sk 95 true 9 25 105 (.tk 26 [.pick 105 (.t 95) (.t 104) (.c (.bool false))] .done))
def RO:DT:=(.sk 91 true 2 14 94 (.tk 16 [.m 95 94,.pick 94 (.t 91) (.t 93) (.c (.bool false))] TB))
def RP:AH:=(.cond (.t 105) (.seq (.region [.ls 106 3 16,.f 107 5 3,.l 108 107,.cl 109 [106,108] Xs,.al 12 U,.store (.t 12) (.t 109) 16 false] [3,5,6,11,12]) (.seq (.draw (E2 17 [(1,[]),(3,[]),(5,[]),(7,[]),(8,[]),(10,[7,9]),(11,[2,4,6,10]),(13,[]),(14,[0,10]),(15,[12,14]),(16,[13,15])]) (.tk 7 [.l 116 115,.f 115 5 3,.l 114 113,.f 113 5 1,.l 112 111,.f 111 3 0,.ls 110 12 16] (.tk 10 [.l 119 118,.f 118 3 7] (.tk 14 [.m 123 11] (.only 7 none (.brow 117 38 AC []) false [] (.only 10 none (.apz 120 38 AC (.t 117) (.t 119)) false [] (.tk 12 [.bu 121 AF [(0,1,.c (.int .i64 2)),(1,1,.t 112),(2,1,.t 114),(3,1,.t 116),(5,1,.t 120)]] (.only 14 none (.store (.t 6) (.t 110) 16 false) false [(12,.brow 122 97 AF [.t 121])] (.only 12 none (.brow 122 97 AF [.t 121]) true [] (.tk 17 [.m 8 123,.m 7 122] .done))))))))) [6,7,8]) .ret)) .skip)
def RQ:DT:=(.sk 139 true 6 16 146 (.tk 17 [.pick 146 (.t 139) (.t 145) (.c (.bool false))] .done))
def RR:AH:=(.cond (.t 146) (.seq (.draw (E2 11 [(2,[]),(4,[]),(5,[]),(7,[4,6]),(8,[1,3,7]),(9,[]),(10,[8,9])]) (.tk 4 [.l 150 149,.f 149 5 3,.l 148 147,.f 147 3 0] (.tk 7 [.l 153 152,.f 152 5 5] (.only 4 none (.brow 151 38 AC []) false [(9,.al 14 U)] (.only 7 none (.apz 154 38 AC (.t 151) (.t 153)) false [(9,.al 14 U)] (.tk 9 [.bu 155 U [(0,1,.t 148),(1,1,.t 150),(3,1,.c (.bool true)),(7,1,.t 154)]] (.only 9 none (.al 14 U) true [] (.only 10 none (.store (.t 14) (.t 155) 16 false) false [] .done))))))) [3,5,6,11,14]) (.seq (.draw (E2 8 [(1,[]),(2,[]),(3,[1,2]),(4,[]),(5,[0,3]),(7,[4,6])]) (.tk 3 [.ls 158 5 6,.ls 157 3 16,.ls 156 14 16] (.tk 5 [.m 160 11] (.only 3 none (.cx (some 159) [.t 157,.t 158,.c (.int .i64 4)] Jf) false [] (.only 5 none (.store (.t 6) (.t 156) 16 false) false [] (.tk 8 [.m 8 160,.m 7 159] .done))))) [6,7,8]) .ret)) .skip)
def RS:AH:=(.seq (.region [.ls 161 9 16,.m 162 10,.m 163 11,.store (.t 6) (.t 161) 16 false,.m 7 162,.m 8 163] [6,7,8]) .ret)
def LR:AH:=(.seq (.region [.m 124 1,.f 125 5 3,.l 126 125,.bin 127 .sub (.t 126) (.i 1),.idx 128 1 (.t 124) (.t 127),.l 129 128,.m 13 129] [3,5,6,9,10,11,13]) (.seq (.seq (.draw (E2 17 [(5,[3]),(7,[4,6]),(13,[9]),(15,[12,14])]) (.tk 4 [.m 133 132,.bin 132 .eql (.t 131) (.i 3),.l 131 130,.f 130 5 0] (.test 133 (.tg 133 true 7 [.l 136 135,.f 135 3 0,.m 134 13] (.only 7 (some (133,true)) (.cl 137 [134,136] Fo) false [] (.tk 10 [.m 139 138,.pick 138 (.t 133) (.t 137) (.c (.bool false))] (.test 139 (.tg 139 true 16 [.b 145 .neq 142 144,.l 144 143,.f 143 3 0,.l 142 141,.idx 141 1 (.t 140) (.i 0),.m 140 13] (.tk 17 [.pick 146 (.t 139) (.t 145) (.c (.bool false))] .done)) RQ)))) (.sk 133 true 4 8 138 (.tk 10 [.m 139 138,.pick 138 (.t 133) (.t 137) (.c (.bool false))] RQ)))) [3,5,6,9,10,11,146]) RR) RS))
def RU:AH:=(.seq (.seq (.region [.f 63 5 3,.l 64 63,.f 65 3 1,.l 66 65,.b 67 .eql 64 66] [1,3,5,6,9,10,11,67]) (.cond (.t 67) (.seq (.draw (E2 15 [(1,[]),(2,[]),(5,[1,4]),(7,[]),(8,[0,6,7]),(10,[8]),(11,[8]),(12,[9,10,11])]) (.tk 8 [.ls 75 5 6,.l 74 73,.idx 73 1 (.t 69) (.t 72),.bin 72 .sub (.t 71) (.i 1),.l 71 70,.f 70 3 1,.m 69 1,.ls 68 3 16] (.only 8 none (.cl 76 [68,74,75] nh) false [] (.tk 12 [.ext 79 (.t 76) 2,.ext 78 (.t 76) 1,.ext 77 (.t 76) 0] (.only 12 none (.store (.t 6) (.t 77) 16 false) false [] (.tk 15 [.m 8 79,.m 7 78] .done))))) [6,7,8]) .ret) .skip)) (.seq (.seq (.draw (E2 26 [(6,[3]),(9,[5,8]),(17,[15]),(20,[16,19]),(22,[15]),(24,[21,23])]) (.tk 4 [.m 83 82,.bin 82 .eql (.t 81) (.i 1),.l 81 80,.f 80 5 0] (.test 83 (.tg 83 true 10 [.b 89 .eql 85 88,.bin 88 .add (.t 87) (.i 1),.l 87 86,.f 86 3 1,.l 85 84,.f 84 5 3] (.tk 12 [.m 91 90,.pick 90 (.t 83) (.t 89) (.c (.bool false))] (.test 91 (.tg 91 true 14 [.l 93 92,.f 92 3 3] (.tk 16 [.m 95 94,.pick 94 (.t 91) (.t 93) (.c (.bool false))] (.test 95 (.tg 95 true 24 [.l 103 102,.f 102 3 0,.l 101 100,.idx 100 1 (.t 96) (.t 99),.bin 99 .sub (.t 98) (.i 1),.l 98 97,.f 97 3 1,.m 96 1] (.only 24 (some (95,true)) (.cl 104 [101,103] Fo) false [] (.tk 26 [.pick 105 (.t 95) (.t 104) (.c (.bool false))] .done))) TB))) RO))) (.sk 83 true 6 10 90 (.tk 12 [.m 91 90,.pick 90 (.t 83) (.t 89) (.c (.bool false))] RO)))) [1,3,5,6,9,10,11,105]) RP) LR))
def Bg:BM:=⟨[.val U,.val (.slice (.slice (.int .i64))),.val AF],[⟨6,true,U⟩,⟨7,false,(.slice AF)⟩,⟨8,false,(.slice Ar)⟩],(.seq (.region [.box 3 (.t 0) false,.box 5 (.t 2) false,.al 6 U,.mv 7 (.c (.nil)),.mv 8 (.c (.nil))] [1,3,5,6]) (.seq (.region [.ls 15 3 16,.cl 16 [15] IL,.al 9 U,.store (.t 9) (.t 16) 16 false] [1,3,5,6,9]) (.seq (.region [.blst 17 AF [],.m 10 17] [1,3,5,6,9,10]) (.seq (.region [.blst 18 Ar [],.m 11 18] [1,3,5,6,9,10,11]) (.seq (.seq (.region [.ls 19 3 16,.cl 20 [19] N8,.un 21 .not (.t 20),.m 22 21,.sc 22 false [.m 23 1,.cl 24 [23] IK,.un 25 .not (.t 24)] 26 (.c (.bool true)) (.t 25),.m 27 26,.sc 27 false [.ls 28 5 6,.cl 29 [28] pX,.un 30 .not (.t 29)] 31 (.c (.bool true)) (.t 30),.m 32 31,.sc 32 false [.f 33 5 2,.l 34 33,.f 35 3 0,.l 36 35,.b 37 .neq 34 36] 38 (.c (.bool true)) (.t 37),.m 39 38,.sc 39 false [.f 40 5 3,.l 41 40,.f 42 3 1,.l 43 42,.b 44 .lss 41 43] 45 (.c (.bool true)) (.t 44),.m 46 45,.sc 46 false [.f 47 5 3,.l 48 47,.m 49 1,.len 50 false (.t 49),.b 51 .gtr 48 50] 52 (.c (.bool true)) (.t 51),.m 53 52,.sc 53 false [.f 54 3 1,.l 55 54,.m 56 1,.len 57 false (.t 56),.b 58 .gtr 55 57] 59 (.c (.bool true)) (.t 58)] [1,3,5,6,9,10,11,59]) (.cond (.t 59) (.seq (.region [.ls 60 9 16,.m 61 10,.m 62 11,.store (.t 6) (.t 60) 16 false,.m 7 61,.m 8 62] [6,7,8]) .ret) .skip)) RU)))))⟩
theorem ln:At Tryz.prog 108 Bg=true:=by kernel_rfl
def YB:AH:=(.cond (.t 39) (.seq (.region [.mv 2 (.c (.bool true))] [2]) .ret) (.seq (.region [.bin 43 .eql (.t 38) (.i 5),.m 42 43] [1,42]) (.cond (.t 42) (.seq (.region [.f 44 1 5,.l 45 44,.len 46 false (.t 45),.bin 47 .eql (.t 46) (.i 1),.m 2 47] [2]) .ret) .skip)))
def YC:AH:=(.seq (.region [.f 48 1 5,.l 49 48,.len 50 false (.t 49),.bin 51 .eql (.t 50) (.i 0),.m 2 51] [2]) .ret)
def YD:AH:=(.seq (.seq (.region [.f 37 1 0,.l 38 37] [1,38]) (.block 0 [1] (.seqc [1,38,39] (.seq (.region [.bin 40 .eql (.t 38) (.i 2),.m 39 40] [1,38,39]) (.cond (.t 39) .skip (.region [.bin 41 .eql (.t 38) (.i 3),.m 39 41] [1,38,39]))) YB))) YC)
def Eh:BM:=⟨[.val AF],[⟨2,false,.bool⟩],(.seq (.region [.box 1 (.t 0) false,.mv 2 (.c (.bool false))] [1]) (.seq (.seq (.region [.f 3 1 0,.l 4 3,.cx (some 5) [.t 4,.c (.int .i64 1),.c (.int .i64 8)] Am,.un 6 .not (.t 5),.m 7 6,.sc 7 false [.f 8 1 1,.l 9 8,.cl 10 [9] GG,.un 11 .not (.t 10)] 12 (.c (.bool true)) (.t 11),.m 13 12,.sc 13 false [.f 14 1 2,.l 15 14,.cl 16 [15] GG,.un 17 .not (.t 16)] 18 (.c (.bool true)) (.t 17),.m 19 18,.sc 19 false [.f 20 1 3,.l 21 20,.cx (some 22) [.t 21,.c (.int .i64 1),.c (.int .i64 9)] Am,.un 23 .not (.t 22)] 24 (.c (.bool true)) (.t 23),.m 25 24,.sc 25 false [.f 26 1 4,.l 27 26,.cx (some 28) [.t 27,.c (.int .i64 0),.c (.int .i64 1000000000)] Am,.un 29 .not (.t 28)] 30 (.c (.bool true)) (.t 29),.m 31 30,.sc 31 false [.f 32 1 5,.l 33 32,.cl 34 [33] K_,.un 35 .not (.t 34)] 36 (.c (.bool true)) (.t 35)] [1,36]) (.cond (.t 36) (.seq (.region [.mv 2 (.c (.bool false))] [2]) .ret) .skip)) YD))⟩
theorem pw:At Tryz.prog 109 Eh=true:=by kernel_rfl
def Nh:DT:=(.sk 31 true 5 19 37 (.tk 20 [.pick 37 (.t 31) (.t 36) (.c (.bool false))] .done))
def Ni:AH:=(.cond (.t 37) (.seq (.draw (E2 14 [(1,[]),(2,[]),(7,[1,6]),(9,[]),(11,[0,8,10])]) (.tk 11 [.l 48 47,.f 47 5 5,.l 46 45,.idx 45 1 (.t 39) (.t 44),.bin 44 .sub (.t 43) (.i 1),.l 43 42,.f 42 41 1,.n 41 40,.m 40 0,.m 39 1,.m 38 0] (.only 11 none (.cl 49 [38,46,48] LE) false [] (.tk 14 [.mv 7 (.c (.nil)),.m 6 49] .done))) [6,7]) .ret) .skip)
def Nj:AH:=(.cond (.t 75) (.seq (.draw (E2 11 [(1,[]),(5,[]),(7,[4,6]),(8,[0,7])]) (.tk 7 [.l 82 81,.f 81 5 1,.l 80 79,.f 79 78 6,.n 78 77,.m 77 0,.m 76 0] (.only 7 none (.cl 83 [80,82] Xt) false [] (.tk 10 [.f 85 84 6,.n 84 76] (.only 10 none (.store (.t 85) (.t 83) 1 false) false [] .done)))) [0]) (.region [.m 86 0,.m 87 0,.n 88 87,.f 89 88 5,.l 90 89,.m 91 90,.sc 91 false [.m 92 0,.n 93 92,.f 94 93 6,.l 95 94,.len 96 false (.t 95),.bin 97 .eql (.t 96) (.i 0),.m 98 97,.sc 98 true [.m 99 0,.n 100 99,.f 101 100 3,.l 102 101] 103 (.t 102) (.c (.bool false))] 104 (.c (.bool true)) (.t 103),.n 105 86,.f 106 105 5,.store (.t 106) (.t 104) 1 false] [])) .skip)
def MX:AH:=(.cond (.t 107) (.seq (.region [.m 110 0,.ls 111 5 6,.cl 112 [110,111] Zd,.m 6 112,.mv 7 (.c (.nil))] [6,7]) .ret) (.seq (.region [.bin 114 .eql (.t 9) (.i 6),.m 113 114] [0,5,9,113]) (.cond (.t 113) (.seq (.region [.m 115 0,.ls 116 5 6,.cx (some 117) [.t 115,.c (.int .i64 1),.t 116] Nb,.mv 6 (.c (.nil)),.m 7 117] [6,7]) .ret) (.seq (.region [.bin 119 .eql (.t 9) (.i 8),.m 118 119] [0,5,118]) (.cond (.t 118) (.seq (.region [.m 120 0,.ls 121 5 6,.cx (some 122) [.t 120,.c (.int .i64 2),.t 121] Nb,.mv 6 (.c (.nil)),.m 7 122] [6,7]) .ret) .skip)))))
def MY:AH:=(.seq (.region [.mv 6 (.c (.nil)),.mv 7 (.c (.nil))] [6,7]) .ret)
def B9:BM:=⟨[.ptr U,.val (.slice (.slice (.int .i64))),.val AF],[⟨6,false,(.slice AF)⟩,⟨7,false,(.slice Ar)⟩],(.seq (.region [.box 5 (.t 2) false,.mv 6 (.c (.nil)),.mv 7 (.c (.nil))] [0,1,5]) (.seq (.seq (.region [.f 8 5 0,.l 9 8] [0,1,5,9]) (.block 0 [] (.seq (.region [.bin 11 .eql (.t 9) (.i 1),.m 10 11] [0,1,5,9,10]) (.cond (.t 10) (.seq (.region [.m 12 0,.m 13 1,.ls 14 5 6,.cl 15 [12,13,14] aa,.m 6 15,.mv 7 (.c (.nil))] [6,7]) .ret) (.seq (.region [.bin 17 .eql (.t 9) (.i 2),.m 16 17] [0,1,5,9,16]) (.cond (.t 16) (.seq (.draw (E2 20 [(2,[]),(6,[1,5])]) (.tk 8 [.m 25 24,.b 24 .eql 19 23,.l 23 22,.f 22 21 1,.n 21 20,.m 20 0,.l 19 18,.f 18 5 3] (.test 25 (.tg 25 true 12 [.l 29 28,.f 28 27 4,.n 27 26,.m 26 0] (.tk 14 [.m 31 30,.pick 30 (.t 25) (.t 29) (.c (.bool false))] (.test 31 (.tg 31 true 19 [.un 36 .not (.t 35),.l 35 34,.f 34 33 3,.n 33 32,.m 32 0] (.tk 20 [.pick 37 (.t 31) (.t 36) (.c (.bool false))] .done)) Nh))) (.sk 25 true 4 12 30 (.tk 14 [.m 31 30,.pick 30 (.t 25) (.t 29) (.c (.bool false))] Nh)))) [0,1,5,37]) Ni) (.seq (.region [.bin 51 .eql (.t 9) (.i 3),.m 50 51] [0,1,5,9,50]) (.cond (.t 50) (.seq (.draw (E2 11 [(1,[]),(2,[]),(5,[1,4]),(7,[]),(8,[0,6,7])]) (.tk 8 [.ls 59 5 6,.l 58 57,.idx 57 1 (.t 53) (.t 56),.bin 56 .sub (.t 55) (.i 1),.l 55 54,.f 54 5 3,.m 53 1,.m 52 0] (.only 8 none (.cl 60 [52,58,59] XF) false [] (.tk 11 [.mv 7 (.c (.nil)),.m 6 60] .done))) [6,7]) .ret) (.seq (.region [.bin 62 .eql (.t 9) (.i 4),.m 61 62] [0,5,9,61]) (.cond (.t 61) (.seq (.draw (E2 13 [(2,[]),(6,[1,5])]) (.tk 8 [.m 70 69,.b 69 .eql 64 68,.l 68 67,.f 67 66 1,.n 66 65,.m 65 0,.l 64 63,.f 63 5 3] (.test 70 (.tg 70 true 12 [.l 74 73,.f 73 72 4,.n 72 71,.m 71 0] (.tk 13 [.pick 75 (.t 70) (.t 74) (.c (.bool false))] .done)) (.sk 70 true 4 12 75 (.tk 13 [.pick 75 (.t 70) (.t 74) (.c (.bool false))] .done)))) [0,5,75]) Nj) (.seqc [0,5,9,107] (.seq (.region [.bin 108 .eql (.t 9) (.i 5),.m 107 108] [0,5,9,107]) (.cond (.t 107) .skip (.region [.bin 109 .eql (.t 9) (.i 7),.m 107 109] [0,5,9,107]))) MX))))))))))) MY))⟩
theorem ak:At Tryz.prog 110 B9=true:=by kernel_rfl
def Da:AH:=(.seq (.region [.b 9 .lss 8 7] [0,1,7,8,9]) (.seq (.cond (.t 9) .skip (.exit 0)) (.seq (.block 1 [0,1,7,8] (.seq (.region [.m 10 8,.m 5 10] [0,1,5,7,8]) (.seq (.region [.m 11 1,.m 12 0,.m 13 5,.idx 14 9 (.t 12) (.t 13),.ls 15 14 9,.call (some 16) 92 [(.t 15,.val AJ),(.t 11,.cap 92 AJ)] [.bool]] [0,1,5,7,8,16]) (.cond (.t 16) (.seq (.region [.m 17 5,.m 4 17] [4]) .ret) .skip)))) (.region [.bin 18 .add (.t 8) (.i 1),.m 8 18] [0,1,7,8]))))
def Db:AH:=(.seq (.region [.mv 4 (.c (.int .i64 (-1)))] [4]) .ret)
def Ab:BM:=⟨[.val (.slice AJ),.val (.clo 92 AJ)],[⟨4,false,(.int .i64)⟩],(.seq (.region [.mv 4 (.i 0)] [0,1]) (.seq (.seq (.region [.m 6 0,.len 7 false (.t 6),.mv 8 (.i 0)] [0,1,7,8]) (.block 0 [] (.loop [0,1,7,8] Da))) Db))⟩
theorem IN:At Tryz.prog 111 Ab=true:=by kernel_rfl
def JS:AH:=(.seq (.draw (E2 20 [(4,[2]),(9,[3,8]),(13,[2]),(17,[12,16])]) (.tk 1 [.m 34 1] (.only 1 none (.cl 35 [34] GV) false [] (.tk 3 [.m 36 35] (.test 36 (.tg 36 true 18 [.b 51 .eql 46 50,.l 50 49,.f 49 48 0,.n 48 47,.m 47 0,.l 46 45,.idx 45 1 (.t 44) (.i 0),.l 44 43,.idx 43 1 (.t 37) (.t 42),.bin 42 .sub (.t 41) (.i 1),.l 41 40,.f 40 39 1,.n 39 38,.m 38 0,.m 37 1] (.tk 20 [.m 4 52,.pick 52 (.t 36) (.t 51) (.c (.bool false))] .done)) (.sk 36 true 15 18 52 (.tk 20 [.m 4 52,.pick 52 (.t 36) (.t 51) (.c (.bool false))] .done)))))) [4]) .ret)
def Ca:BM:=⟨[.ptr U,.val (.slice (.slice (.int .i64)))],[⟨4,false,.bool⟩],(.seq (.region [.mv 4 (.c (.bool false))] [0,1]) (.seq (.seq (.region [.m 5 0,.n 6 5,.f 7 6 5,.l 8 7,.un 9 .not (.t 8),.m 10 9,.sc 10 false [.m 11 0,.n 12 11,.f 13 12 9,.f 14 13 0,.l 15 14,.bin 16 .neq (.t 15) (.i 0)] 17 (.c (.bool true)) (.t 16),.m 18 17,.sc 18 false [.m 19 0,.n 20 19,.f 21 20 8,.l 22 21,.bin 23 .eql (.t 22) (.i 900)] 24 (.c (.bool true)) (.t 23),.m 25 24,.sc 25 false [.m 26 0,.n 27 26,.f 28 27 1,.l 29 28,.m 30 1,.len 31 false (.t 30),.b 32 .gtr 29 31] 33 (.c (.bool true)) (.t 32)] [0,1,33]) (.cond (.t 33) (.seq (.region [.mv 4 (.c (.bool false))] [4]) .ret) .skip)) JS))⟩
theorem Uc:At Tryz.prog 113 Ca=true:=by kernel_rfl
def V9:AH:=(.seq (.region [.b 10 .lss 9 8] [1,4,7,8,9,10]) (.seq (.cond (.t 10) .skip (.exit 0)) (.seq (.block 1 [1,4,7,8,9] (.seq (.region [.idx 11 3 (.t 7) (.t 9),.ls 12 11 3,.al 6 AC,.store (.t 6) (.t 12) 3 false] [1,4,6,7,8,9]) (.seq (.region [.f 13 6 0,.l 14 13,.m 15 1,.b 16 .eql 14 15] [1,4,6,7,8,9,16]) (.cond (.t 16) (.seq (.region [.ls 17 6 3,.store (.t 4) (.t 17) 3 false] [4]) .ret) .skip)))) (.region [.bin 18 .add (.t 9) (.i 1),.m 9 18] [1,4,7,8,9]))))
def V_:AH:=(.seq (.region [.bu 19 AC [],.store (.t 4) (.t 19) 3 false] [4]) .ret)
def Er:BM:=⟨[.val (.slice AC),.val .str],[⟨4,true,AC⟩],(.seq (.region [.al 4 AC] [0,1,4]) (.seq (.seq (.region [.m 7 0,.len 8 false (.t 7),.mv 9 (.i 0)] [1,4,7,8,9]) (.block 0 [4] (.loop [1,4,7,8,9] V9))) V_))⟩
theorem nq:At Tryz.prog 114 Er=true:=by kernel_rfl
def LT:AH:=(.seq (.region [.b 11 .lss 10 9] [0,5,8,9,10,11]) (.seq (.cond (.t 11) .skip (.exit 0)) (.seq (.block 1 [0,5,8,9,10] (.seq (.region [.idx 12 1 (.t 8) (.t 10),.l 13 12,.m 7 13] [0,5,7,8,9,10]) (.seq (.region [.m 14 7,.m 15 0,.n 16 15,.f 17 16 0,.l 18 17,.b 19 .neq 14 18] [0,5,7,8,9,10,19]) (.cond (.t 19) (.region [.m 20 5,.m 21 7,.blst 22 (.int .i64) [.t 21],.app 23 3 (.int .i64) (.t 20) (.t 22),.m 5 23] [0,5,8,9,10]) .skip)))) (.region [.bin 24 .add (.t 10) (.i 1),.m 10 24] [0,5,8,9,10]))))
def LU:AH:=(.seq (.region [.m 25 5,.m 4 25] [4]) .ret)
def B2:BM:=⟨[.ptr U,.val (.slice (.int .i64))],[⟨4,false,(.slice (.int .i64))⟩],(.seq (.region [.mv 4 (.c (.nil))] [0,1]) (.seq (.region [.nilrow 5 3 (.int .i64)] [0,1,5]) (.seq (.seq (.region [.m 8 1,.len 9 false (.t 8),.mv 10 (.i 0)] [0,5,8,9,10]) (.block 0 [5] (.loop [0,5,8,9,10] LT))) LU)))⟩
theorem YE:At Tryz.prog 115 B2=true:=by kernel_rfl
def FS:BM:=⟨[.mut (.own 3 (.int .i64))],[],(.seq (.region [.m 3 0,.len 4 false (.t 3),.m 2 4] [0,2]) (.region [.m 5 0,.m 6 2,.m 7 2,.cvi 8 .u64 (.t 7),.cl 9 [8] im,.cx (some 10) [.t 5,.c (.int .i64 0),.t 6,.t 9] Ef] []))⟩
theorem XH:At Tryz.prog 116 FS=true:=by kernel_rfl
def Nk:AH:=(.seq (.region [.m 30 0,.bu 31 K9 [],.n 32 30,.f 33 32 9,.store (.t 33) (.t 31) 7 false] [0,3]) (.seq (.draw (E2 13 [(2,[]),(6,[]),(8,[]),(10,[1,5,7,9])]) (.tk 11 [.bu 44 Ar [(0,1,.t 35),(1,1,.t 39),(2,1,.t 41),(3,3,.t 43)],.ls 43 42 3,.f 42 3 3,.l 41 40,.f 40 3 2,.l 39 38,.f 38 37 1,.n 37 36,.m 36 0,.l 35 34,.f 34 3 1] (.only 11 none (.brow 45 126 Ar [.t 44]) false [] (.tk 13 [.m 2 45] .done))) [2]) .ret))
def Dh:BM:=⟨[.ptr U],[⟨2,false,(.slice Ar)⟩],(.seq (.region [.mv 2 (.c (.nil))] [0]) (.seq (.region [.m 4 0,.n 5 4,.f 6 5 9,.ls 7 6 7,.al 3 K9,.store (.t 3) (.t 7) 7 false] [0,3]) (.seqc [0,3] (.seq (.region [.f 8 3 0,.l 9 8,.bin 10 .eql (.t 9) (.i 1)] [0,3,10]) (.cond (.t 10) (.draw (E2 11 [(1,[]),(5,[]),(7,[4,6]),(8,[0,7])]) (.tk 7 [.ls 17 16 3,.f 16 3 3,.l 15 14,.f 14 13 7,.n 13 12,.m 12 0,.m 11 0] (.only 7 none (.cl 18 [15,17] Xu) false [] (.tk 10 [.f 20 19 7,.n 19 11] (.only 10 none (.store (.t 20) (.t 18) 1 false) false [] .done)))) [0,3]) (.draw (E2 10 [(4,[]),(7,[3,6])]) (.tk 7 [.l 27 26,.f 26 25 0,.f 25 3 3,.l 24 23,.f 23 22 7,.n 22 21,.m 21 0] (.only 7 none (.cl 28 [24,27] Z6) false [] (.tk 9 [.f 29 3 3] (.only 9 none (.store (.t 29) (.t 28) 3 false) false [] .done)))) [0,3]))) Nk)))⟩
theorem am:At Tryz.prog 117 Dh=true:=by kernel_rfl
def KS:AH:=(.seq (.region [.b 14 .lss 13 12] [0,5,7,11,12,13,14]) (.seq (.cond (.t 14) .skip (.exit 0)) (.seq (.block 1 [0,5,7,11,12,13] (.seq (.region [.idx 15 1 (.t 11) (.t 13),.l 16 15,.m 9 16] [0,5,7,9,11,12,13]) (.seq (.region [.ls 17 5 6,.cl 18 [17] Po,.al 10 AF,.store (.t 10) (.t 18) 6 false] [0,5,7,9,10,11,12,13]) (.seq (.draw (E2 15 [(4,[]),(5,[]),(9,[3]),(11,[4,10]),(13,[8,12])]) (.tk 10 [.f 28 10 1,.l 27 26,.f 26 25 1,.n 25 24,.m 24 0,.m 23 9,.l 22 21,.f 21 20 0,.n 20 19,.m 19 0] (.only 10 none (.store (.t 28) (.t 22) 1 false) false [] (.tk 12 [.f 29 10 2] (.only 12 none (.store (.t 29) (.t 23) 1 false) false [] (.tk 14 [.f 30 10 3] (.only 14 none (.store (.t 30) (.t 27) 1 false) false [] .done)))))) [0,5,7,10,11,12,13]) (.region [.m 31 7,.ls 32 10 6,.blst 33 AF [.t 32],.app 34 97 AF (.t 31) (.t 33),.m 7 34] [0,5,7,11,12,13]))))) (.region [.bin 35 .add (.t 13) (.i 1),.m 13 35] [0,5,7,11,12,13]))))
def KT:AH:=(.seq (.region [.m 36 7,.m 6 36] [6]) .ret)
def Bm:BM:=⟨[.ptr U,.val (.slice (.int .i64)),.val AF],[⟨6,false,(.slice AF)⟩],(.seq (.region [.box 5 (.t 2) false,.mv 6 (.c (.nil))] [0,1,5]) (.seq (.region [.nilrow 7 97 AF] [0,1,5,7]) (.seq (.seq (.region [.m 11 1,.len 12 false (.t 11),.mv 13 (.i 0)] [0,5,7,11,12,13]) (.block 0 [7] (.loop [0,5,7,11,12,13] KS))) KT)))⟩
theorem XI:At Tryz.prog 118 Bm=true:=by kernel_rfl
def Hp:BM:=⟨[.ptr U],[],(.region [.m 2 0,.m 3 0,.m 4 0,.m 5 0,.m 6 0,.bu 7 K9 [],.n 8 2,.f 9 8 4,.store (.t 9) (.c (.bool false)) 1 false,.n 10 3,.f 11 10 5,.store (.t 11) (.c (.bool false)) 1 false,.n 12 4,.f 13 12 6,.store (.t 13) (.c (.nil)) 1 false,.n 14 5,.f 15 14 8,.store (.t 15) (.i 0) 1 false,.n 16 6,.f 17 16 9,.store (.t 17) (.t 7) 7 false] [])⟩
theorem cd:At Tryz.prog 119 Hp=true:=by kernel_rfl
def Ei:BM:=⟨[.ptr U,.val (.slice (.int .i64)),.val (.slice AC)],[⟨6,false,(.slice AF)⟩],(.seq (.region [.mv 6 (.c (.nil))] [0,1,2]) (.seq (.region [.m 8 0,.m 9 1,.cl 10 [8,9] Fq,.m 7 10] [0,2,7]) (.seq (.region [.m 11 0,.m 12 0,.m 13 2,.cl 14 [13] Az,.n 15 11,.f 16 15 3,.store (.t 16) (.c (.bool true)) 1 true,.n 17 12,.f 18 17 7,.store (.t 18) (.t 14) 1 true] [0,2,7]) (.seq (.region [.m 19 0,.m 20 7,.cl 21 [20] CX,.n 22 19,.f 23 22 6,.store (.t 23) (.t 21) 1 true] [0,2,7]) (.seq (.region [.m 24 0,.n 25 24,.f 26 25 6,.l 27 26,.cl 28 [27] MT] [0,2,7]) (.seqc [0,2,7] (.seq (.region [.m 29 7,.len 30 false (.t 29),.bin 31 .eql (.t 30) (.i 0)] [0,2,7,31]) (.cond (.t 31) (.region [.m 32 0,.n 33 32,.f 34 33 5,.store (.t 34) (.c (.bool true)) 1 true] [0,2,7]) .skip)) (.seq (.region [.m 35 0,.m 36 7,.m 37 2,.bu 38 AF [(0,1,.c (.int .i64 3)),(5,1,.t 37)],.cl 39 [35,36,38] BV,.m 6 39] [6]) .ret)))))))⟩
theorem Ud:At Tryz.prog 120 Ei=true:=by kernel_rfl
def RV:AH:=(.seq (.region [.f 71 1 9,.ls 72 71 7,.al 3 K9,.store (.t 3) (.t 72) 7 false] [1,3]) (.seq (.region [.ls 73 3 7,.cl 74 [73] fS,.m 75 74,.sc 75 false [.f 76 3 0,.l 77 76,.bin 78 .eql (.t 77) (.i 1),.m 79 78,.sc 79 false [.f 80 3 0,.l 81 80,.bin 82 .eql (.t 81) (.i 2)] 83 (.c (.bool true)) (.t 82),.m 84 83,.sc 84 true [.f 85 1 5,.l 86 85] 87 (.t 86) (.c (.bool false)),.m 88 87,.sc 88 true [.f 89 3 1,.l 90 89,.cx (some 91) [.t 90,.c (.int .i64 0),.c (.int .i64 1000)] As] 92 (.t 91) (.c (.bool false)),.m 93 92,.sc 93 true [.f 94 3 2,.l 95 94,.cx (some 96) [.t 95,.c (.int .i64 1),.c (.int .i64 900)] As] 97 (.t 96) (.c (.bool false))] 98 (.c (.bool true)) (.t 97),.m 2 98] [2]) .ret))
def Fe:BM:=⟨[.val U],[⟨2,false,.bool⟩],(.seq (.region [.box 1 (.t 0) false,.mv 2 (.c (.bool false))] [1]) (.seq (.seq (.region [.f 4 1 0,.l 5 4,.cx (some 6) [.t 5,.c (.int .i64 1),.c (.int .i64 6)] As,.un 7 .not (.t 6),.m 8 7,.sc 8 false [.f 9 1 1,.l 10 9,.cx (some 11) [.t 10,.c (.int .i64 1),.c (.int .i64 9)] As,.un 12 .not (.t 11)] 13 (.c (.bool true)) (.t 12),.m 14 13,.sc 14 false [.f 15 1 5,.l 16 15,.m 17 16,.sc 17 true [.f 18 1 3,.l 19 18,.un 20 .not (.t 19),.m 21 20,.sc 21 false [.f 22 1 4,.l 23 22,.un 24 .not (.t 23)] 25 (.c (.bool true)) (.t 24),.m 26 25,.sc 26 false [.f 27 1 6,.l 28 27,.len 29 false (.t 28),.bin 30 .gtr (.t 29) (.i 0)] 31 (.c (.bool true)) (.t 30)] 32 (.t 31) (.c (.bool false))] 33 (.c (.bool true)) (.t 32),.m 34 33,.sc 34 false [.f 35 1 2,.l 36 35,.m 37 36,.sc 37 true [.f 38 1 3,.l 39 38,.m 40 39,.sc 40 false [.f 41 1 4,.l 42 41] 43 (.c (.bool true)) (.t 42)] 44 (.t 43) (.c (.bool false))] 45 (.c (.bool true)) (.t 44),.m 46 45,.sc 46 false [.f 47 1 6,.l 48 47,.cl 49 [48] Z9,.un 50 .not (.t 49)] 51 (.c (.bool true)) (.t 50),.m 52 51,.sc 52 false [.f 53 1 9,.f 54 53 6,.l 55 54,.cl 56 [55] Z9,.un 57 .not (.t 56)] 58 (.c (.bool true)) (.t 57),.m 59 58,.sc 59 false [.f 60 1 7,.l 61 60,.cl 62 [61] LF,.un 63 .not (.t 62)] 64 (.c (.bool true)) (.t 63),.m 65 64,.sc 65 false [.f 66 1 8,.l 67 66,.cx (some 68) [.t 67,.c (.int .i64 0),.c (.int .i64 900)] As,.un 69 .not (.t 68)] 70 (.c (.bool true)) (.t 69)] [1,70]) (.cond (.t 70) (.seq (.region [.mv 2 (.c (.bool false))] [2]) .ret) .skip)) RV))⟩
theorem i4:At Tryz.prog 121 Fe=true:=by kernel_rfl
def WA:AH:=(.seq (.seq (.region [.m 6 5,.m 7 0,.len 8 false (.t 7),.b 9 .lss 6 8] [0,1,4,5,9]) (.cond (.t 9) .skip (.exit 0))) (.seq (.block 1 [0,1,4,5] (.seq (.region [.m 12 0,.m 13 5,.idx 14 3 (.t 12) (.t 13),.f 15 14 0,.l 16 15,.m 17 1,.b 18 .eql 16 17] [0,1,4,5,18]) (.cond (.t 18) (.seq (.region [.m 19 0,.m 20 5,.idx 21 3 (.t 19) (.t 20),.ls 22 21 3,.store (.t 4) (.t 22) 3 false] [4]) .ret) .skip))) (.region [.m 10 5,.bin 11 .add (.t 10) (.i 1),.m 5 11] [0,1,4,5])))
def WB:AH:=(.seq (.region [.bu 23 AC [],.store (.t 4) (.t 23) 3 false] [4]) .ret)
def Es:BM:=⟨[.val (.slice AC),.val .str],[⟨4,true,AC⟩],(.seq (.region [.al 4 AC] [0,1,4]) (.seq (.seq (.region [.mv 5 (.i 0)] [0,1,4,5]) (.block 0 [4] (.loop [0,1,4,5] WA))) WB))⟩
theorem ns:At Tryz.prog 122 Es=true:=by kernel_rfl
def TC:AH:=(.seq (.draw (E2 18 [(1,[]),(2,[0,1]),(5,[]),(7,[4,6]),(10,[8]),(11,[9,10]),(14,[8]),(16,[13,15])]) (.tk 9 [.m 42 41,.b 41 .eql 38 40,.l 40 39,.f 39 3 0,.l 38 37,.f 37 36 0,.idx 36 3 (.t 34) (.t 35),.m 35 7,.m 34 0] (.test 42 (.tg 42 true 17 [.b 50 .geq 47 49,.l 49 48,.f 48 3 2,.l 47 46,.f 46 45 2,.idx 45 3 (.t 43) (.t 44),.m 44 7,.m 43 0] (.tk 18 [.pick 51 (.t 42) (.t 50) (.c (.bool false))] .done)) (.sk 42 true 8 17 51 (.tk 18 [.pick 51 (.t 42) (.t 50) (.c (.bool false))] .done)))) [0,3,5,6,7,51]) (.cond (.t 51) (.seq (.region [.m 52 5,.m 4 52] [4]) .ret) .skip))
def TD:AH:=(.region [.m 17 7,.bin 18 .add (.t 17) (.i 1),.m 7 18] [0,3,5,6,7])
def TE:AH:=(.seq (.seq (.region [.m 13 7,.m 14 0,.len 15 false (.t 14),.b 16 .lss 13 15] [0,3,5,6,7,16]) (.cond (.t 16) .skip (.exit 0))) (.seq (.block 1 [0,3,5,6,7] (.seqc [0,3,5,6,7] (.seq (.draw (E2 8 [(1,[]),(2,[0,1]),(5,[]),(7,[4,6])]) (.tk 8 [.b 26 .lss 23 25,.l 25 24,.f 24 3 0,.l 23 22,.f 22 21 0,.idx 21 3 (.t 19) (.t 20),.m 20 7,.m 19 0] .done) [0,3,5,6,7,26]) (.cond (.t 26) (.region [.m 27 6,.m 28 0,.m 29 7,.idx 30 3 (.t 28) (.t 29),.ls 31 30 3,.blst 32 AC [.t 31],.app 33 38 AC (.t 27) (.t 32),.m 6 33] [0,3,5,6,7]) .skip)) TC)) TD))
def RW:AH:=(.seq (.seq (.region [.m 57 8,.m 58 0,.len 59 false (.t 58),.b 60 .lss 57 59] [0,3,5,6,8,60]) (.cond (.t 60) .skip (.exit 2))) (.seq (.block 3 [0,3,5,6,8] (.seq (.draw (E2 8 [(1,[]),(2,[0,1]),(5,[]),(7,[4,6])]) (.tk 8 [.b 70 .gtr 67 69,.l 69 68,.f 68 3 0,.l 67 66,.f 66 65 0,.idx 65 3 (.t 63) (.t 64),.m 64 8,.m 63 0] .done) [0,3,5,6,8,70]) (.cond (.t 70) (.region [.m 71 6,.m 72 0,.m 73 8,.idx 74 3 (.t 72) (.t 73),.ls 75 74 3,.blst 76 AC [.t 75],.app 77 38 AC (.t 71) (.t 76),.m 6 77] [0,3,5,6,8]) .skip))) (.region [.m 61 8,.bin 62 .add (.t 61) (.i 1),.m 8 62] [0,3,5,6,8])))
def LV:AH:=(.seq (.seq (.region [.m 78 0,.cl 79 [78] LF,.un 80 .not (.t 79),.m 81 80,.sc 81 false [.m 82 6,.cl 83 [82] LF,.un 84 .not (.t 83)] 85 (.c (.bool true)) (.t 84)] [5,6,85]) (.cond (.t 85) (.seq (.region [.m 86 5,.m 4 86] [4]) .ret) .skip)) (.seq (.region [.m 87 6,.m 4 87] [4]) .ret))
def LW:AH:=(.seq (.region [.m 53 6,.ls 54 3 3,.blst 55 AC [.t 54],.app 56 38 AC (.t 53) (.t 55),.m 6 56] [0,3,5,6]) (.seq (.seq (.region [.mv 8 (.i 0)] [0,3,5,6,8]) (.block 2 [0,5,6] (.loop [0,3,5,6,8] RW))) LV))
def Ax:BM:=⟨[.val (.slice AC),.val AC],[⟨4,false,(.own 38 AC)⟩],(.seq (.region [.box 3 (.t 1) false,.mv 4 (.c (.nil))] [0,3]) (.seq (.region [.brow 9 38 AC [],.m 10 0,.app 11 38 AC (.t 9) (.t 10),.m 5 11] [0,3,5]) (.seq (.region [.brow 12 38 AC [],.m 6 12] [0,3,5,6]) (.seq (.seq (.region [.mv 7 (.i 0)] [0,3,5,6,7]) (.block 0 [0,3,5,6] (.loop [0,3,5,6,7] TE))) LW))))⟩
theorem lq:At Tryz.prog 123 Ax=true:=by kernel_rfl
def P3:AH:=(.seq (.seq (.region [.m 8 6,.bin 9 .leq (.t 8) (.i 6)] [0,1,5,6,9]) (.cond (.t 9) .skip (.exit 0))) (.seq (.block 1 [0,1,5,6] (.seq (.region [.m 12 6,.m 13 1,.b 14 .neq 12 13,.m 15 14,.sc 15 true [.m 16 0,.m 17 6,.cl 18 [16,17] Fo] 19 (.t 18) (.c (.bool false))] [0,1,5,6,19]) (.cond (.t 19) (.region [.m 20 5,.m 21 6,.blst 22 (.int .i64) [.t 21],.app 23 3 (.int .i64) (.t 20) (.t 22),.m 5 23] [0,1,5,6]) .skip))) (.region [.m 10 6,.bin 11 .add (.t 10) (.i 1),.m 6 11] [0,1,5,6])))
def P4:AH:=(.seq (.region [.m 24 5,.m 4 24] [4]) .ret)
def C5:BM:=⟨[.val (.slice (.int .i64)),.val (.int .i64)],[⟨4,false,(.slice (.int .i64))⟩],(.seq (.region [.mv 4 (.c (.nil))] [0,1]) (.seq (.region [.brow 7 3 (.int .i64) [],.m 5 7] [0,1,5]) (.seq (.seq (.region [.mv 6 (.i 1)] [0,1,5,6]) (.block 0 [5] (.loop [0,1,5,6] P3))) P4)))⟩
theorem fY:At Tryz.prog 124 C5=true:=by kernel_rfl
def In:BM:=⟨[.ptr U],[⟨2,false,(.slice Ar)⟩],(.seq (.region [.mv 2 (.c (.nil))] [0]) (.seq (.region [.m 5 0,.n 6 5,.f 7 6 9,.ls 8 7 7,.al 3 K9,.store (.t 3) (.t 8) 7 false] [0,3]) (.seq (.draw (E2 13 [(2,[]),(6,[]),(8,[]),(10,[1,5,7,9]),(11,[]),(12,[10,11])]) (.tk 11 [.bu 19 Ar [(0,1,.t 10),(1,1,.t 14),(2,1,.t 16),(3,3,.t 18)],.ls 18 17 3,.f 17 3 3,.l 16 15,.f 15 3 2,.l 14 13,.f 13 12 1,.n 12 11,.m 11 0,.l 10 9,.f 9 3 1] (.only 11 none (.al 4 Ar) false [] (.only 12 none (.store (.t 4) (.t 19) 6 false) false [] .done))) [0,3,4]) (.seqc [0,4] (.seq (.region [.f 20 3 0,.l 21 20,.bin 22 .eql (.t 21) (.i 1)] [0,3,4,22]) (.cond (.t 22) (.draw (E2 11 [(1,[]),(5,[]),(7,[4,6]),(8,[0,7])]) (.tk 7 [.ls 29 28 3,.f 28 3 3,.l 27 26,.f 26 25 7,.n 25 24,.m 24 0,.m 23 0] (.only 7 none (.cl 30 [27,29] Pq) false [] (.tk 10 [.f 32 31 7,.n 31 23] (.only 10 none (.store (.t 32) (.t 30) 1 false) false [] .done)))) [0,4]) (.draw (E2 10 [(4,[]),(7,[3,6])]) (.tk 7 [.l 39 38,.f 38 37 0,.f 37 3 3,.l 36 35,.f 35 34 7,.n 34 33,.m 33 0] (.only 7 none (.cl 40 [36,39] Z7) false [] (.tk 9 [.f 41 4 3] (.only 9 none (.store (.t 41) (.t 40) 3 false) false [] .done)))) [0,4]))) (.seq (.region [.m 42 0,.bu 43 K9 [],.n 44 42,.f 45 44 9,.store (.t 45) (.t 43) 7 false] [4]) (.seq (.region [.ls 46 4 6,.brow 47 126 Ar [.t 46],.m 2 47] [2]) .ret))))))⟩
theorem fZ:At Tryz.prog 125 In=true:=by kernel_rfl
def WC:AH:=(.seq (.seq (.region [.m 37 8,.m 38 1,.len 39 false (.t 38),.b 40 .lss 37 39] [0,1,2,7,8,40]) (.cond (.t 40) .skip (.exit 0))) (.seq (.block 1 [0,1,2,7,8] (.seq (.draw (E2 9 [(1,[]),(2,[0,1]),(4,[]),(8,[3,7])]) (.tk 9 [.b 51 .neq 46 50,.l 50 49,.f 49 48 0,.n 48 47,.m 47 0,.l 46 45,.idx 45 1 (.t 43) (.t 44),.m 44 8,.m 43 1] .done) [0,1,2,7,8,51]) (.cond (.t 51) (.draw (E2 20 [(1,[]),(5,[]),(6,[]),(7,[5,6]),(9,[]),(13,[]),(14,[]),(15,[13,14]),(16,[4,8,12,15]),(18,[0,17])]) (.tk 13 [.l 64 63,.f 63 62 1,.n 62 61,.m 61 0,.l 60 59,.idx 59 1 (.t 57) (.t 58),.m 58 8,.m 57 1,.l 56 55,.f 55 54 0,.n 54 53,.m 53 0,.m 52 7] (.tk 15 [.m 66 2] (.only 13 none (.brow 65 38 AC []) false [] (.only 15 none (.apz 67 38 AC (.t 65) (.t 66)) false [] (.tk 17 [.bu 68 AF [(0,1,.c (.int .i64 3)),(1,1,.t 56),(2,1,.t 60),(3,1,.t 64),(5,1,.t 67)]] (.only 17 none (.blst 69 AF [.t 68]) false [] (.only 18 none (.app 70 97 AF (.t 52) (.t 69)) false [] (.tk 20 [.m 7 70] .done)))))))) [0,1,2,7,8]) .skip))) (.region [.m 41 8,.bin 42 .add (.t 41) (.i 1),.m 8 42] [0,1,2,7,8])))
def WD:AH:=(.seq (.region [.m 71 7,.m 6 71] [6]) .ret)
def Et:BM:=⟨[.ptr U,.val (.slice (.int .i64)),.val (.slice AC)],[⟨6,false,(.slice AF)⟩],(.seq (.region [.mv 6 (.c (.nil))] [0,1,2]) (.seq (.region [.brow 9 97 AF [],.m 7 9] [0,1,2,7]) (.seq (.region [.m 10 0,.n 11 10,.f 12 11 3,.store (.t 12) (.c (.bool true)) 1 false] [0,1,2,7]) (.seq (.region [.m 13 0,.brow 14 38 AC [],.m 15 2,.app 16 38 AC (.t 14) (.t 15),.n 17 13,.f 18 17 7,.store (.t 18) (.t 16) 1 false] [0,1,2,7]) (.seq (.region [.m 19 0,.m 20 1,.m 21 0,.n 22 21,.f 23 22 0,.l 24 23,.cl 25 [20,24] Su,.n 26 19,.f 27 26 6,.store (.t 27) (.t 25) 1 false] [0,1,2,7]) (.seq (.region [.m 28 0,.m 29 0,.n 30 29,.f 31 30 6,.l 32 31,.len 33 false (.t 32),.bin 34 .eql (.t 33) (.i 0),.n 35 28,.f 36 35 5,.store (.t 36) (.t 34) 1 false] [0,1,2,7]) (.seq (.seq (.region [.mv 8 (.i 0)] [0,1,2,7,8]) (.block 0 [7] (.loop [0,1,2,7,8] WC))) WD)))))))⟩
theorem nt:At Tryz.prog 126 Et=true:=by kernel_rfl
def YF:AH:=(.cond (.t 39) (.seq (.region [.mv 2 (.c (.bool true))] [2]) .ret) (.seq (.region [.bin 43 .eql (.t 38) (.i 5),.m 42 43] [1,42]) (.cond (.t 42) (.seq (.region [.f 44 1 5,.l 45 44,.len 46 false (.t 45),.bin 47 .eql (.t 46) (.i 1),.m 2 47] [2]) .ret) .skip)))
def YG:AH:=(.seq (.region [.f 48 1 5,.l 49 48,.len 50 false (.t 49),.bin 51 .eql (.t 50) (.i 0),.m 2 51] [2]) .ret)
def YH:AH:=(.seq (.seq (.region [.f 37 1 0,.l 38 37] [1,38]) (.block 0 [1] (.seqc [1,38,39] (.seq (.region [.bin 40 .eql (.t 38) (.i 2),.m 39 40] [1,38,39]) (.cond (.t 39) .skip (.region [.bin 41 .eql (.t 38) (.i 3),.m 39 41] [1,38,39]))) YF))) YG)
def Ej:BM:=⟨[.val AF],[⟨2,false,.bool⟩],(.seq (.region [.box 1 (.t 0) false,.mv 2 (.c (.bool false))] [1]) (.seq (.seq (.region [.f 3 1 0,.l 4 3,.cx (some 5) [.t 4,.c (.int .i64 1),.c (.int .i64 8)] As,.un 6 .not (.t 5),.m 7 6,.sc 7 false [.f 8 1 1,.l 9 8,.cx (some 10) [.t 9,.c (.int .i64 1),.c (.int .i64 6)] As,.un 11 .not (.t 10)] 12 (.c (.bool true)) (.t 11),.m 13 12,.sc 13 false [.f 14 1 2,.l 15 14,.cx (some 16) [.t 15,.c (.int .i64 1),.c (.int .i64 6)] As,.un 17 .not (.t 16)] 18 (.c (.bool true)) (.t 17),.m 19 18,.sc 19 false [.f 20 1 3,.l 21 20,.cx (some 22) [.t 21,.c (.int .i64 1),.c (.int .i64 9)] As,.un 23 .not (.t 22)] 24 (.c (.bool true)) (.t 23),.m 25 24,.sc 25 false [.f 26 1 4,.l 27 26,.cx (some 28) [.t 27,.c (.int .i64 0),.c (.int .i64 1000000000)] As,.un 29 .not (.t 28)] 30 (.c (.bool true)) (.t 29),.m 31 30,.sc 31 false [.f 32 1 5,.l 33 32,.cl 34 [33] LF,.un 35 .not (.t 34)] 36 (.c (.bool true)) (.t 35)] [1,36]) (.cond (.t 36) (.seq (.region [.mv 2 (.c (.bool false))] [2]) .ret) .skip)) YH))⟩
theorem py:At Tryz.prog 127 Ej=true:=by kernel_rfl

def WE:AH:=(.cond (.t 28) (.seq (.region [.m 29 1,.f 30 5 5,.l 31 30,.cl 32 [9,29,31] Z8,.m 12 32] [6,9,11,12]) (.seq (.region [.ls 33 9 16,.m 34 12,.m 35 11,.store (.t 6) (.t 33) 16 false,.m 7 34,.m 8 35] [6,7,8]) .ret)) .skip)
def WF:AH:=(.seqc [3,5,6,9,11] (.seq (.region [.f 64 9 3,.l 65 64,.un 66 .not (.t 65)] [3,5,6,9,11,66]) (.cond (.t 66) (.seq (.region [.ls 67 3 16,.f 68 3 1,.l 69 68,.cl 70 [67,69] Xs,.store (.t 9) (.t 70) 16 false] [3,5,6,9,11]) (.seq (.region [.f 71 9 3,.store (.t 71) (.c (.bool true)) 1 false] [3,5,6,9,11]) (.region [.brow 72 38 AC [],.f 73 5 5,.l 74 73,.app 75 38 AC (.t 72) (.t 74),.f 76 9 7,.store (.t 76) (.t 75) 1 false] [3,5,6,9,11]))) .skip)) (.seq (.draw (E2 8 [(1,[]),(2,[]),(3,[1,2]),(4,[]),(5,[0,3]),(7,[4,6])]) (.tk 3 [.ls 79 5 6,.ls 78 3 16,.ls 77 9 16] (.tk 5 [.m 81 11] (.only 3 none (.cx (some 80) [.t 78,.t 79,.c (.int .i64 4)] Jf) false [] (.only 5 none (.store (.t 6) (.t 77) 16 false) false [] (.tk 8 [.m 8 81,.m 7 80] .done))))) [6,7,8]) .ret))
def WG:AH:=(.seq (.seq (.region [.f 54 9 3,.l 55 54,.un 56 .not (.t 55),.m 57 56,.sc 57 true [.f 58 9 2,.l 59 58] 60 (.t 59) (.c (.bool false))] [3,5,6,9,10,11,60]) (.cond (.t 60) (.seq (.region [.ls 61 9 16,.m 62 10,.m 63 11,.store (.t 6) (.t 61) 16 false,.m 7 62,.m 8 63] [6,7,8]) .ret) .skip)) WF)
def TF:AH:=(.seq (.region [.f 149 9 9,.f 150 149 6,.l 151 150,.f 152 5 1,.l 153 152,.cl 154 [151,153] Qv,.f 155 9 9,.f 156 155 6,.store (.t 156) (.t 154) 1 false] [6,9,10,11]) (.seq (.region [.f 157 9 9,.f 158 157 6,.l 159 158,.len 160 false (.t 159),.bin 161 .eql (.t 160) (.i 0)] [6,9,10,11,161]) (.cond (.t 161) (.region [.cl 162 [9] Sv,.m 11 162] [6,9,10,11]) .skip)))
def TG:AH:=(.seq (.seq (.region [.f 133 9 9,.f 134 133 0,.l 135 134,.m 136 13,.b 137 .neq 135 136,.m 138 137,.sc 138 false [.f 139 9 9,.f 140 139 2,.l 141 140,.f 142 5 4,.l 143 142,.b 144 .neq 141 143] 145 (.c (.bool true)) (.t 144)] [5,6,9,10,11,145]) (.cond (.t 145) (.seq (.region [.ls 146 9 16,.m 147 10,.m 148 11,.store (.t 6) (.t 146) 16 false,.m 7 147,.m 8 148] [6,7,8]) .ret) .skip)) TF)
def TH:AH:=(.cond (.t 127) (.seq (.region [.mv 13 (.i 1)] [5,6,9,10,11,13]) (.seqc [5,6,9,10,11,13] (.seq (.region [.f 130 5 0,.l 131 130,.bin 132 .eql (.t 131) (.i 8)] [5,6,9,10,11,13,132]) (.cond (.t 132) (.region [.mv 13 (.i 2)] [5,6,9,10,11,13]) .skip)) TG)) .skip)
def TI:AH:=(.seq (.region [.ls 163 9 16,.m 164 10,.m 165 11,.store (.t 6) (.t 163) 16 false,.m 7 164,.m 8 165] [6,7,8]) .ret)
def CS:BM:=⟨[.val U,.val (.slice (.int .i64)),.val AF],[⟨6,true,U⟩,⟨7,false,(.slice AF)⟩,⟨8,false,(.slice Ar)⟩],(.seq (.region [.box 3 (.t 0) false,.box 5 (.t 2) false,.al 6 U,.mv 7 (.c (.nil)),.mv 8 (.c (.nil))] [1,3,5,6]) (.seq (.region [.ls 14 3 16,.cl 15 [14] IL,.al 9 U,.store (.t 9) (.t 15) 16 false] [1,3,5,6,9]) (.seq (.region [.blst 16 AF [],.m 10 16] [1,3,5,6,9,10]) (.seq (.region [.blst 17 Ar [],.m 11 17] [1,3,5,6,9,10,11]) (.seq (.seq (.region [.f 18 5 0,.l 19 18] [1,3,5,6,9,10,11,19]) (.block 0 [6,9,10,11] (.seq (.region [.bin 21 .eql (.t 19) (.i 2),.m 20 21] [1,3,5,6,9,10,11,19,20]) (.cond (.t 20) (.seq (.region [.f 22 9 4,.l 23 22,.m 24 23,.sc 24 true [.f 25 9 3,.l 26 25,.un 27 .not (.t 26)] 28 (.t 27) (.c (.bool false))] [1,5,6,9,10,11,28]) WE) (.seq (.region [.bin 37 .eql (.t 19) (.i 3),.m 36 37] [1,3,5,6,9,10,11,19,36]) (.cond (.t 36) (.seq (.seq (.draw (E2 13 [(1,[]),(3,[0,2]),(9,[5]),(11,[8,10])]) (.tk 3 [.l 40 39,.f 39 3 0,.m 38 1] (.only 3 none (.cl 41 [38,40] Fo) false [] (.tk 6 [.m 43 42,.un 42 .not (.t 41)] (.test 43 (.sk 43 false 6 12 50 (.tk 13 [.pick 50 (.t 43) (.c (.bool true)) (.t 49)] .done)) (.tg 43 false 12 [.b 49 .eql 46 48,.l 48 47,.f 47 3 0,.l 46 45,.idx 45 1 (.t 44) (.i 0),.m 44 1] (.tk 13 [.pick 50 (.t 43) (.c (.bool true)) (.t 49)] .done)))))) [3,5,6,9,10,11,50]) (.cond (.t 50) (.seq (.region [.ls 51 9 16,.m 52 10,.m 53 11,.store (.t 6) (.t 51) 16 false,.m 7 52,.m 8 53] [6,7,8]) .ret) .skip)) WG) (.seq (.region [.bin 83 .eql (.t 19) (.i 4),.m 82 83] [3,5,6,9,10,11,19,82]) (.cond (.t 82) (.seq (.region [.f 84 9 4,.l 85 84] [5,6,9,10,11,85]) (.cond (.t 85) (.seq (.region [.f 86 9 6,.l 87 86,.f 88 5 1,.l 89 88,.cl 90 [87,89] Qv,.f 91 9 6,.store (.t 91) (.t 90) 1 false] [6,9,10,11]) (.region [.f 92 9 3,.l 93 92,.m 94 93,.sc 94 true [.f 95 9 6,.l 96 95,.len 97 false (.t 96),.bin 98 .eql (.t 97) (.i 0)] 99 (.t 98) (.c (.bool false)),.f 100 9 5,.store (.t 100) (.t 99) 1 false] [6,9,10,11])) .skip)) (.seq (.region [.bin 102 .eql (.t 19) (.i 5),.m 101 102] [3,5,6,9,10,11,19,101]) (.cond (.t 101) (.seq (.region [.f 103 9 3,.l 104 103] [3,5,6,9,10,11,104]) (.cond (.t 104) (.seq (.draw (E2 9 [(2,[]),(6,[1,5])]) (.tk 6 [.ls 110 109 3,.idx 109 3 (.t 108) (.i 0),.l 108 107,.f 107 5 5,.l 106 105,.f 105 9 7] (.only 6 none (.cl 111 [106,110] Pq) false [] (.tk 8 [.f 112 9 7] (.only 8 none (.store (.t 112) (.t 111) 1 false) false [] .done)))) [3,5,6,9,11]) (.seq (.draw (E2 8 [(1,[]),(2,[]),(3,[1,2]),(4,[]),(5,[0,3]),(7,[4,6])]) (.tk 3 [.ls 115 5 6,.ls 114 3 16,.ls 113 9 16] (.tk 5 [.m 117 11] (.only 3 none (.cx (some 116) [.t 114,.t 115,.c (.int .i64 6)] Jf) false [] (.only 5 none (.store (.t 6) (.t 113) 16 false) false [] (.tk 8 [.m 8 117,.m 7 116] .done))))) [6,7,8]) .ret)) .skip)) (.seq (.region [.bin 119 .eql (.t 19) (.i 7),.m 118 119] [3,5,6,9,10,11,19,118]) (.cond (.t 118) (.seq (.region [.f 120 9 3,.l 121 120] [3,5,6,9,10,11,121]) (.cond (.t 121) (.seq (.draw (E2 8 [(1,[]),(2,[]),(3,[1,2]),(4,[]),(5,[0,3]),(7,[4,6])]) (.tk 3 [.ls 124 5 6,.ls 123 3 16,.ls 122 9 16] (.tk 5 [.m 126 11] (.only 3 none (.cx (some 125) [.t 123,.t 124,.c (.int .i64 8)] Jf) false [] (.only 5 none (.store (.t 6) (.t 122) 16 false) false [] (.tk 8 [.m 8 126,.m 7 125] .done))))) [6,7,8]) .ret) .skip)) (.seqc [5,6,9,10,11,127] (.seq (.region [.bin 128 .eql (.t 19) (.i 6),.m 127 128] [5,6,9,10,11,19,127]) (.cond (.t 127) .skip (.region [.bin 129 .eql (.t 19) (.i 8),.m 127 129] [5,6,9,10,11,127]))) TH))))))))))))) TI)))))⟩
theorem nu:At Tryz.prog 128 CS=true:=by kernel_rfl
def LX:BM:=⟨[.val U,.val (.int .i64)],[⟨4,true,U⟩],(.seq (.region [.box 2 (.t 0) false,.al 4 U] [1,2,4]) (.seq (.draw (E2 9 [(2,[]),(3,[]),(4,[]),(6,[3,5]),(7,[1,2,6])]) (.tk 3 [.m 7 1,.l 6 5,.f 5 2 0] (.tk 6 [.l 10 9,.f 9 2 7] (.only 3 none (.brow 8 38 AC []) false [] (.only 6 none (.apz 11 38 AC (.t 8) (.t 10)) false [] (.tk 8 [.bu 12 U [(0,1,.t 6),(1,1,.t 7),(7,1,.t 11),(8,1,.c (.int .i64 0))]] (.only 8 none (.store (.t 4) (.t 12) 16 false) false [] .done)))))) [4]) .ret))⟩
theorem lr:At Tryz.prog 129 LX=true:=by kernel_rfl
def Jj:BM:=⟨[.val U,.val AF,.val (.int .i64)],[⟨6,false,(.slice AF)⟩],(.seq (.region [.box 3 (.t 0) false,.box 4 (.t 1) false,.mv 6 (.c (.nil))] [2,3,4]) (.seq (.region [.m 7 2,.f 8 3 0,.l 9 8,.f 10 4 1,.l 11 10,.f 12 4 3,.l 13 12,.f 14 4 4,.l 15 14,.bu 16 AF [(0,1,.t 7),(1,1,.t 9),(2,1,.t 11),(3,1,.t 13),(4,1,.t 15)],.brow 17 97 AF [.t 16],.m 6 17] [6]) .ret))⟩
theorem i5:At Tryz.prog 130 Jj=true:=by kernel_rfl
def MZ:DT:=(.sk 22 false 14 30 37 (.tk 31 [.pick 37 (.t 22) (.c (.bool true)) (.t 36)] .done))
def Ma:AH:=(.seq (.region [.m 38 0,.m 39 0,.f 40 5 3,.l 41 40,.n 42 38,.f 43 42 1,.store (.t 43) (.t 41) 1 false,.n 44 39,.f 45 44 3,.store (.t 45) (.c (.bool false)) 1 false] [0,5]) (.seq (.region [.m 46 0,.cl 47 [46] LD] [0,5]) (.seq (.draw (E2 11 [(1,[]),(4,[]),(9,[0,3,8])]) (.tk 3 [.l 50 49,.f 49 5 1,.m 48 0] (.tk 9 [.bu 56 AF [(0,1,.c (.int .i64 2)),(5,1,.t 55)],.l 55 54,.f 54 53 7,.n 53 52,.m 52 0] (.only 3 none (.brow 51 3 (.int .i64) [.t 50]) false [] (.only 9 none (.cl 57 [48,51,56] BV) false [] (.tk 11 [.m 6 57] .done))))) [6]) .ret)))
def Di:BM:=⟨[.ptr U,.val (.slice (.slice (.int .i64))),.val AF],[⟨6,false,(.slice AF)⟩],(.seq (.region [.box 5 (.t 2) false,.mv 6 (.c (.nil))] [0,1,5]) (.seq (.seq (.draw (E2 31 [(2,[]),(7,[1,6]),(17,[15]),(22,[16,21]),(24,[15]),(28,[23,27])]) (.tk 9 [.m 15 14,.b 14 .neq 8 13,.bin 13 .add (.t 12) (.i 1),.l 12 11,.f 11 10 1,.n 10 9,.m 9 0,.l 8 7,.f 7 5 3] (.test 15 (.sk 15 false 5 14 21 (.tk 16 [.m 22 21,.pick 21 (.t 15) (.c (.bool true)) (.t 20)] MZ)) (.tg 15 false 14 [.un 20 .not (.t 19),.l 19 18,.f 18 17 3,.n 17 16,.m 16 0] (.tk 16 [.m 22 21,.pick 21 (.t 15) (.c (.bool true)) (.t 20)] (.test 22 MZ (.tg 22 false 28 [.l 34 33,.f 33 32 0,.n 32 31,.m 31 0,.l 30 29,.idx 29 1 (.t 23) (.t 28),.bin 28 .sub (.t 27) (.i 1),.l 27 26,.f 26 25 1,.n 25 24,.m 24 0,.m 23 1] (.only 28 (some (22,false)) (.cl 35 [30,34] Fb) false [] (.tg 22 false 30 [.un 36 .not (.t 35)] (.tk 31 [.pick 37 (.t 22) (.c (.bool true)) (.t 36)] .done))))))))) [0,5,37]) (.cond (.t 37) (.seq (.region [.mv 6 (.c (.nil))] [6]) .ret) .skip)) Ma))⟩
theorem an:At Tryz.prog 131 Di=true:=by kernel_rfl
def KU:DT:=(.tg 32 false 20 [.pick 44 (.t 38) (.t 43) (.c (.bool false))] (.tk 22 [.m 24 45,.pick 45 (.t 32) (.c (.bool true)) (.t 44)] .done))
def KV:AH:=(.cond (.t 24) (.seq (.draw (E2 21 [(1,[]),(2,[]),(3,[]),(4,[]),(6,[]),(9,[0,5,8]),(12,[1,11]),(15,[2,14]),(18,[3,17])]) (.tk 8 [.l 53 52,.f 52 5 5,.l 51 50,.f 50 5 3,.m 49 0,.m 48 0,.m 47 0,.m 46 0] (.only 8 none (.cl 54 [53] Az) false [] (.tk 11 [.f 56 55 1,.n 55 46] (.only 11 none (.store (.t 56) (.t 51) 1 false) false [] (.tk 14 [.f 58 57 3,.n 57 47] (.only 14 none (.store (.t 58) (.c (.bool true)) 1 false) false [] (.tk 17 [.f 60 59 2,.n 59 48] (.only 17 none (.store (.t 60) (.c (.bool false)) 1 false) false [] (.tk 20 [.f 62 61 7,.n 61 49] (.only 20 none (.store (.t 62) (.t 54) 1 false) false [] .done)))))))))) [0,5]) (.region [.m 63 0,.cl 64 [63] LD] [0,5])) (.seq (.region [.m 66 0,.n 67 66,.f 68 67 3,.l 69 68,.un 70 .not (.t 69),.m 65 70] [0,5,65]) (.cond (.t 65) (.seq (.region [.mv 6 (.c (.nil))] [6]) .ret) .skip)))
def KW:AH:=(.seq (.region [.m 71 0,.f 72 5 1,.l 73 72,.brow 74 3 (.int .i64) [.t 73],.bu 75 AF [(0,1,.c (.int .i64 4))],.cl 76 [71,74,75] BV,.m 6 76] [6]) .ret)
def KX:AH:=(.seq (.block 0 [0,5] (.seq (.draw (E2 22 [(2,[]),(6,[1,5])]) (.tk 8 [.m 32 31,.b 31 .gtr 26 30,.l 30 29,.f 29 28 1,.n 28 27,.m 27 0,.l 26 25,.f 25 5 3] (.test 32 (.sk 32 false 6 14 39 (.sk 38 true 5 19 44 (.sk 32 false 1 20 45 (.tk 22 [.m 24 45,.pick 45 (.t 32) (.c (.bool true)) (.t 44)] .done)))) (.tg 32 false 14 [.m 38 37,.un 37 .not (.t 36),.l 36 35,.f 35 34 3,.n 34 33,.m 33 0] (.test 38 (.tg 38 true 19 [.un 43 .not (.t 42),.l 42 41,.f 41 40 2,.n 40 39,.m 39 0] KU) (.sk 38 true 5 19 44 KU))))) [0,5,24]) KV)) KW)
def BW:BM:=⟨[.ptr U,.val (.slice (.int .i64)),.val AF],[⟨6,false,(.slice AF)⟩],(.seq (.region [.box 5 (.t 2) false,.mv 6 (.c (.nil))] [0,1,5]) (.seq (.seq (.draw (E2 17 [(1,[]),(5,[0,4]),(11,[7]),(15,[10,14])]) (.tk 5 [.l 11 10,.f 10 9 0,.n 9 8,.m 8 0,.m 7 1] (.only 5 none (.cl 12 [7,11] Fb) false [] (.tk 8 [.m 14 13,.un 13 .not (.t 12)] (.test 14 (.sk 14 false 8 16 23 (.tk 17 [.pick 23 (.t 14) (.c (.bool true)) (.t 22)] .done)) (.tg 14 false 16 [.b 22 .eql 17 21,.l 21 20,.f 20 19 0,.n 19 18,.m 18 0,.l 17 16,.idx 16 1 (.t 15) (.i 0),.m 15 1] (.tk 17 [.pick 23 (.t 14) (.c (.bool true)) (.t 22)] .done)))))) [0,5,23]) (.cond (.t 23) (.seq (.region [.mv 6 (.c (.nil))] [6]) .ret) .skip)) KX))⟩
theorem XJ:At Tryz.prog 132 BW=true:=by kernel_rfl
def LY:BM:=⟨[.val (.slice (.int .i64)),.val (.int .i64)],[⟨4,false,(.slice (.int .i64))⟩],(.seq (.region [.fbox 3 (.t 1),.mv 4 (.c (.nil))] [0,3]) (.seq (.region [.m 5 0,.cl 6 [5] CX,.clo 7 145 (.int .i64) (.t 3),.cl 8 [6,7] PO,.m 4 8] [4]) .ret))⟩
theorem lu:At Tryz.prog 133 LY=true:=by kernel_rfl
def Mb:AH:=(.seq (.seq (.region [.f 19 3 0,.l 20 19,.bin 21 .eql (.t 20) (.i 7)] [0,3,21]) (.cond (.t 21) (.seq (.region [.m 22 0,.f 23 3 1,.l 24 23,.brow 25 3 (.int .i64) [.t 24],.f 26 3 4,.l 27 26,.bu 28 AF [(0,1,.c (.int .i64 8)),(4,1,.t 27)],.cl 29 [22,25,28] BV,.m 4 29] [4]) .ret) .skip)) (.seq (.draw (E2 13 [(1,[]),(5,[]),(9,[4,8]),(10,[0,9])]) (.tk 9 [.ls 38 37 3,.idx 37 3 (.t 36) (.i 0),.l 36 35,.f 35 3 5,.l 34 33,.f 33 32 7,.n 32 31,.m 31 0,.m 30 0] (.only 9 none (.cl 39 [34,38] Xu) false [] (.tk 12 [.f 41 40 7,.n 40 30] (.only 12 none (.store (.t 41) (.t 39) 1 false) false [] .done)))) [0,3]) (.seq (.region [.m 42 0,.f 43 3 1,.l 44 43,.brow 45 3 (.int .i64) [.t 44],.f 46 3 4,.l 47 46,.bu 48 AF [(0,1,.c (.int .i64 6)),(4,1,.t 47)],.cl 49 [42,45,48] BV,.m 4 49] [4]) .ret)))
def DQ:BM:=⟨[.ptr U,.val AF],[⟨4,false,(.slice AF)⟩],(.seq (.region [.box 3 (.t 1) false,.mv 4 (.c (.nil))] [0,3]) (.seq (.seq (.draw (E2 14 [(2,[]),(6,[1,5])]) (.tk 8 [.m 12 11,.b 11 .neq 6 10,.l 10 9,.f 9 8 1,.n 8 7,.m 7 0,.l 6 5,.f 5 3 3] (.test 12 (.sk 12 false 5 13 18 (.tk 14 [.pick 18 (.t 12) (.c (.bool true)) (.t 17)] .done)) (.tg 12 false 13 [.un 17 .not (.t 16),.l 16 15,.f 15 14 3,.n 14 13,.m 13 0] (.tk 14 [.pick 18 (.t 12) (.c (.bool true)) (.t 17)] .done)))) [0,3,18]) (.cond (.t 18) (.seq (.region [.mv 4 (.c (.nil))] [4]) .ret) .skip)) Mb))⟩
theorem Zg:At Tryz.prog 134 DQ=true:=by kernel_rfl
def LZ:DT:=(.sk 23 false 8 25 32 (.tk 26 [.pick 32 (.t 23) (.c (.bool true)) (.t 31)] .done))
def KY:AH:=(.seq (.draw (E2 13 [(1,[]),(6,[]),(8,[5,7]),(9,[0,8])]) (.tk 8 [.l 40 39,.f 39 5 1,.l 38 37,.f 37 36 6,.f 36 35 9,.n 35 34,.m 34 0,.m 33 0] (.only 8 none (.cl 41 [38,40] Xt) false [] (.tk 12 [.f 44 43 6,.f 43 42 9,.n 42 33] (.only 12 none (.store (.t 44) (.t 41) 1 false) false [] .done)))) [0]) (.seq (.seq (.region [.m 45 0,.n 46 45,.f 47 46 9,.f 48 47 6,.l 49 48,.len 50 false (.t 49),.bin 51 .gtr (.t 50) (.i 0)] [0,51]) (.cond (.t 51) (.seq (.region [.mv 6 (.c (.nil))] [6]) .ret) .skip)) (.seq (.region [.m 52 0,.cl 53 [52] Pp,.m 6 53] [6]) .ret)))
def C6:BM:=⟨[.ptr U,.val (.int .i64),.val AF],[⟨6,false,(.slice Ar)⟩],(.seq (.region [.box 5 (.t 2) false,.mv 6 (.c (.nil))] [0,1,5]) (.seq (.seq (.draw (E2 26 [(2,[]),(6,[1,5]),(13,[7]),(14,[12,13]),(22,[16]),(24,[21,23])]) (.tk 8 [.m 14 13,.b 13 .neq 8 12,.l 12 11,.f 11 10 1,.n 10 9,.m 9 0,.l 8 7,.f 7 5 3] (.test 14 (.sk 14 false 7 15 22 (.tk 17 [.m 23 22,.pick 22 (.t 14) (.c (.bool true)) (.t 21)] LZ)) (.tg 14 false 15 [.b 21 .neq 19 20,.m 20 1,.l 19 18,.f 18 17 0,.f 17 16 9,.n 16 15,.m 15 0] (.tk 17 [.m 23 22,.pick 22 (.t 14) (.c (.bool true)) (.t 21)] (.test 23 LZ (.tg 23 false 25 [.b 31 .neq 28 30,.l 30 29,.f 29 5 4,.l 28 27,.f 27 26 2,.f 26 25 9,.n 25 24,.m 24 0] (.tk 26 [.pick 32 (.t 23) (.c (.bool true)) (.t 31)] .done))))))) [0,5,32]) (.cond (.t 32) (.seq (.region [.mv 6 (.c (.nil))] [6]) .ret) .skip)) KY))⟩
theorem YI:At Tryz.prog 135 C6=true:=by kernel_rfl
def Ga:AH:=(.cond (.t 87) (.seq (.region [.m 88 0,.m 89 1,.m 90 2,.m 91 11,.cl 92 [88,89,90,91] Jy,.m 13 92] [0,2,3,8,9,13]) (.seq (.region [.m 93 13,.m 1 93] [0,1,2,3,8,9]) (.exit 1))) .skip)
def Dj:AH:=(.seq (.region [.m 95 0,.m 96 1,.m 97 2,.m 98 11,.cl 99 [95,96,97,98] Nc,.m 94 99,.ext 100 (.t 94) 0,.ext 101 (.t 94) 1,.m 14 100,.m 15 101] [0,1,2,3,10,14,15]) (.seq (.region [.m 102 15,.m 9 102] [0,1,2,3,9,10,14]) (.seq (.region [.m 103 14,.m 104 1,.b 105 .sub 103 104,.m 106 2,.m 107 14,.b 108 .sub 106 107,.m 16 105,.m 17 108] [0,1,2,3,9,10,14,16,17]) (.seq (.region [.m 109 10,.bin 110 .quo (.t 109) (.i 8),.m 18 110] [0,1,2,3,9,14,16,17,18]) (.seq (.region [.m 111 16,.m 112 17,.b 113 .lss 111 112] [0,1,2,3,9,14,16,17,18,113]) (.cond (.t 113) (.seq (.region [.m 114 16,.m 115 18,.b 116 .geq 114 115,.m 8 116] [0,1,2,3,8,9,14]) (.seq (.region [.m 117 0,.m 118 1,.m 119 14,.m 120 3,.cl 121 [117,118,119,120] Ef] [0,2,3,8,9,14]) (.region [.m 122 14,.bin 123 .add (.t 122) (.i 1),.m 1 123] [0,1,2,3,8,9]))) (.seq (.region [.m 124 17,.m 125 18,.b 126 .geq 124 125,.m 8 126] [0,1,2,3,8,9,14]) (.seq (.region [.m 127 0,.m 128 14,.bin 129 .add (.t 128) (.i 1),.m 130 2,.m 131 3,.cl 132 [127,129,130,131] Ef] [0,1,3,8,9,14]) (.region [.m 133 14,.m 2 133] [0,1,2,3,8,9])))))))))
def Gb:AH:=(.seq (.seq (.draw (E2 15 [(4,[2]),(6,[3,5]),(8,[2]),(9,[2]),(10,[8,9]),(12,[7,11])]) (.tk 3 [.m 75 74,.bin 74 .gtr (.t 73) (.i 0),.m 73 1] (.test 75 (.tg 75 true 12 [.l 84 83,.idx 83 1 (.t 81) (.t 82),.m 82 11,.m 81 0,.l 80 79,.idx 79 1 (.t 76) (.t 78),.bin 78 .sub (.t 77) (.i 1),.m 77 1,.m 76 0] (.only 12 (some (75,true)) (.cl 85 [80,84] Xv) false [] (.tg 75 true 14 [.un 86 .not (.t 85)] (.tk 15 [.pick 87 (.t 75) (.t 86) (.c (.bool false))] .done)))) (.sk 75 true 11 14 87 (.tk 15 [.pick 87 (.t 75) (.t 86) (.c (.bool false))] .done)))) [0,1,2,3,8,9,10,11,87]) Ga) Dj)
def Gc:AH:=(.seqc [0,1,2,3,8,9,10,11] (.seq (.region [.m 61 8,.m 62 61,.sc 62 true [.m 63 9] 64 (.t 63) (.c (.bool false)),.m 65 64,.sc 65 true [.m 66 12,.bin 67 .eql (.t 66) (.i 1)] 68 (.t 67) (.c (.bool false))] [0,1,2,3,8,9,10,11,68]) (.cond (.t 68) (.seq (.region [.m 69 0,.m 70 1,.m 71 2,.cl 72 [69,70,71] Ha] [0,1,2,3,8,9,10,11,72]) (.cond (.t 72) .ret .skip)) .skip)) Gb)
def Gd:AH:=(.seq (.region [.m 43 0,.m 44 1,.m 45 2,.cl 46 [43,44,45] MQ,.m 42 46,.ext 47 (.t 42) 0,.ext 48 (.t 42) 1,.m 11 47,.m 12 48] [0,1,2,3,8,9,10,11,12]) (.seqc [0,1,2,3,8,9,10,11,12] (.seq (.region [.m 49 12,.bin 50 .eql (.t 49) (.i 2)] [0,1,2,3,8,9,10,11,12,50]) (.cond (.t 50) (.seq (.region [.m 51 0,.m 52 1,.m 53 2,.cl 54 [51,52,53] LG] [0,1,2,3,8,9,10,11]) (.seq (.region [.m 55 2,.bin 56 .sub (.t 55) (.i 1),.m 57 11,.m 58 1,.b 59 .sub 57 58,.b 60 .sub 56 59,.m 11 60] [0,1,2,3,8,9,10,11]) (.region [.mv 12 (.i 1)] [0,1,2,3,8,9,10,11,12]))) .skip)) Gc))
def Ge:AH:=(.block 1 [0,1,2,3,8,9] (.seq (.region [.m 19 2,.m 20 1,.b 21 .sub 19 20,.m 10 21] [0,1,2,3,8,9,10]) (.seq (.seq (.region [.m 22 10,.bin 23 .leq (.t 22) (.i 12)] [0,1,2,3,8,9,10,23]) (.cond (.t 23) (.seq (.region [.m 24 0,.m 25 1,.m 26 2,.cl 27 [24,25,26] Kp] []) .ret) .skip)) (.seq (.seq (.region [.m 28 3,.bin 29 .eql (.t 28) (.i 0)] [0,1,2,3,8,9,10,29]) (.cond (.t 29) (.seq (.region [.m 30 0,.m 31 1,.m 32 2,.cl 33 [30,31,32] N9] []) .ret) .skip)) (.seqc [0,1,2,3,8,9,10] (.seq (.region [.m 34 8,.un 35 .not (.t 34)] [0,1,2,3,8,9,10,35]) (.cond (.t 35) (.seq (.region [.m 36 0,.m 37 1,.m 38 2,.cl 39 [36,37,38] Kq] [0,1,2,3,8,9,10]) (.region [.m 40 3,.bin 41 .sub (.t 40) (.i 1),.m 3 41] [0,1,2,3,8,9,10])) .skip)) Gd)))))
def AW:BM:=⟨[.mut (.own 3 (.int .i64)),.val (.int .i64),.val (.int .i64),.val (.int .i64)],[],(.seq (.region [.mv 8 (.c (.bool true))] [0,1,2,3,8]) (.seq (.region [.mv 9 (.c (.bool true))] [0,1,2,3,8,9]) (.block 0 [] (.loop [0,1,2,3,8,9] Ge))))⟩
theorem PW:At Tryz.prog 137 AW=true:=by kernel_rfl
def Jk:BM:=⟨[.val (.int .u64)],[⟨2,false,(.int .i64)⟩],(.seq (.region [.mv 2 (.i 0)] [0]) (.seq (.cond (.c (.bool false)) (.seq (.region [.m 3 0,.cvi 4 .u32 (.t 3),.cl 5 [4] cW,.m 2 5] [2]) .ret) .skip) (.seq (.region [.m 6 0,.cl 7 [6] cX,.m 2 7] [2]) .ret)))⟩
theorem i6:At Tryz.prog 138 Jk=true:=by kernel_rfl
def TJ:DT:=(.tg 20 false 15 [.pick 31 (.t 22) (.t 30) (.c (.bool false))] (.tk 16 [.pick 32 (.t 20) (.c (.bool true)) (.t 31)] .done))
def TK:AH:=(.seq (.seq (.region [.m 44 5,.cl 45 [44] K_,.un 46 .not (.t 45)] [0,5,46]) (.cond (.t 46) (.seq (.region [.m 47 0,.cl 48 [47] Az,.m 4 48] [4]) .ret) .skip)) (.seq (.region [.m 49 5,.m 4 49] [4]) .ret))
def TL:AH:=(.seqc [0,5] (.seq (.region [.m 34 7] [0,3,5,6,34]) (.cond (.t 34) (.region [.m 35 5,.m 36 6,.ls 37 3 3,.idx 38 3 (.t 35) (.t 36),.store (.t 38) (.t 37) 3 false] [0,5]) (.region [.m 39 5,.m 40 6,.ls 41 3 3,.brow 42 38 AC [.t 41],.cl 43 [39,40,42] JP,.m 5 43] [0,5]))) TK)
def D2:BM:=⟨[.val (.slice AC),.val AC],[⟨4,false,(.own 38 AC)⟩],(.seq (.region [.box 3 (.t 1) false,.mv 4 (.c (.nil))] [0,3]) (.seq (.region [.m 8 0,.cl 9 [8] Az,.m 5 9] [0,3,5]) (.seq (.region [.m 11 0,.f 12 3 0,.l 13 12,.cx (some 14) [.t 11,.t 13,.c (.fn 160 [])] Eg,.m 10 14,.ext 15 (.t 10) 0,.ext 16 (.t 10) 1,.m 6 15,.m 7 16] [0,3,5,6,7]) (.seq (.seq (.draw (E2 16 [(7,[5]),(8,[6,7]),(11,[5]),(13,[10,12])]) (.tk 1 [.m 17 0] (.only 1 none (.cl 18 [17] K_) false [] (.tk 4 [.m 20 19,.un 19 .not (.t 18)] (.test 20 (.sk 20 false 2 6 23 (.sk 22 true 8 14 31 (.sk 20 false 1 15 32 (.tk 16 [.pick 32 (.t 20) (.c (.bool true)) (.t 31)] .done)))) (.tg 20 false 6 [.m 22 21,.m 21 7] (.test 22 (.tg 22 true 14 [.b 30 .geq 27 29,.l 29 28,.f 28 3 2,.l 27 26,.f 26 25 2,.idx 25 3 (.t 23) (.t 24),.m 24 6,.m 23 0] TJ) (.sk 22 true 8 14 31 TJ))))))) [0,3,5,6,7,32]) (.cond (.t 32) (.seq (.region [.m 33 5,.m 4 33] [4]) .ret) .skip)) TL))))⟩
theorem lw:At Tryz.prog 139 D2=true:=by kernel_rfl
def WH:DT:=(.tg 16 false 21 [.pick 30 (.t 19) (.t 29) (.c (.bool false))] (.tk 22 [.pick 31 (.t 16) (.c (.bool true)) (.t 30)] .done))
def WI:AH:=(.seq (.seq (.region [.m 4 3,.m 5 0,.len 6 false (.t 5),.b 7 .lss 4 6] [0,3,7]) (.cond (.t 7) .skip (.exit 0))) (.seq (.block 1 [0,3] (.seq (.draw (E2 22 [(1,[]),(2,[0,1]),(11,[9]),(13,[10,12]),(15,[9]),(16,[9]),(17,[15,16]),(19,[14,18])]) (.tk 4 [.l 13 12,.idx 12 1 (.t 10) (.t 11),.m 11 3,.m 10 0] (.only 4 none (.cx (some 14) [.t 13,.c (.int .i64 1),.c (.int .i64 6)] As) false [] (.tk 7 [.m 16 15,.un 15 .not (.t 14)] (.test 16 (.sk 16 false 3 10 20 (.sk 19 true 10 20 30 (.sk 16 false 1 21 31 (.tk 22 [.pick 31 (.t 16) (.c (.bool true)) (.t 30)] .done)))) (.tg 16 false 10 [.m 19 18,.bin 18 .gtr (.t 17) (.i 0),.m 17 3] (.test 19 (.tg 19 true 20 [.b 29 .geq 24 28,.l 28 27,.idx 27 1 (.t 25) (.t 26),.m 26 3,.m 25 0,.l 24 23,.idx 23 1 (.t 20) (.t 22),.bin 22 .sub (.t 21) (.i 1),.m 21 3,.m 20 0] WH) (.sk 19 true 10 20 30 WH))))))) [0,3,31]) (.cond (.t 31) (.seq (.region [.mv 2 (.c (.bool false))] [2]) .ret) .skip))) (.region [.m 8 3,.bin 9 .add (.t 8) (.i 1),.m 3 9] [0,3])))
def WJ:AH:=(.seq (.region [.mv 2 (.c (.bool true))] [2]) .ret)
def Eu:BM:=⟨[.val (.slice (.int .i64))],[⟨2,false,.bool⟩],(.seq (.region [.mv 2 (.c (.bool false))] [0]) (.seq (.seq (.region [.mv 3 (.i 0)] [0,3]) (.block 0 [] (.loop [0,3] WI))) WJ))⟩
theorem nw:At Tryz.prog 140 Eu=true:=by kernel_rfl
def RX:DT:=(.sk 32 false 3 21 36 (.sk 35 true 9 30 45 (.sk 32 false 1 31 46 (.tk 32 [.pick 46 (.t 32) (.c (.bool true)) (.t 45)] .done))))
def RY:DT:=(.sk 26 false 4 16 31 (.tk 18 [.m 32 31,.pick 31 (.t 26) (.c (.bool true)) (.t 30)] RX))
def RZ:DT:=(.tg 32 false 31 [.pick 45 (.t 35) (.t 44) (.c (.bool false))] (.tk 32 [.pick 46 (.t 32) (.c (.bool true)) (.t 45)] .done))
def Ra:AH:=(.seq (.seq (.region [.m 5 3,.m 6 0,.len 7 false (.t 6),.b 8 .lss 5 7] [0,3,8]) (.cond (.t 8) .skip (.exit 0))) (.seq (.block 1 [0,3] (.seq (.region [.m 11 0,.m 12 3,.idx 13 3 (.t 11) (.t 12),.ls 14 13 3,.al 4 AC,.store (.t 4) (.t 14) 3 false] [0,3,4]) (.seq (.draw (E2 32 [(22,[20]),(24,[21,23]),(27,[20]),(29,[26,28])]) (.tk 3 [.len 17 true (.t 16),.l 16 15,.f 15 4 0] (.only 3 none (.cx (some 18) [.t 17,.c (.int .i64 1),.c (.int .i64 12)] As) false [] (.tk 6 [.m 20 19,.un 19 .not (.t 18)] (.test 20 (.sk 20 false 4 10 25 (.tk 12 [.m 26 25,.pick 25 (.t 20) (.c (.bool true)) (.t 24)] RY)) (.tg 20 false 10 [.bin 24 .gtr (.t 23) (.i 20),.len 23 true (.t 22),.l 22 21,.f 21 4 1] (.tk 12 [.m 26 25,.pick 25 (.t 20) (.c (.bool true)) (.t 24)] (.test 26 RY (.tg 26 false 14 [.l 28 27,.f 27 4 2] (.only 14 (some (26,false)) (.cx (some 29) [.t 28,.c (.int .i64 1),.c (.int .i64 1000000000)] As) false [] (.tg 26 false 16 [.un 30 .not (.t 29)] (.tk 18 [.m 32 31,.pick 31 (.t 26) (.c (.bool true)) (.t 30)] (.test 32 RX (.tg 32 false 21 [.m 35 34,.bin 34 .gtr (.t 33) (.i 0),.m 33 3] (.test 35 (.tg 35 true 30 [.b 44 .geq 41 43,.l 43 42,.f 42 4 0,.l 41 40,.f 40 39 0,.idx 39 3 (.t 36) (.t 38),.bin 38 .sub (.t 37) (.i 1),.m 37 3,.m 36 0] RZ) (.sk 35 true 9 30 45 RZ))))))))))))))) [0,3,46]) (.cond (.t 46) (.seq (.region [.mv 2 (.c (.bool false))] [2]) .ret) .skip)))) (.region [.m 9 3,.bin 10 .add (.t 9) (.i 1),.m 3 10] [0,3])))
def Rb:AH:=(.seq (.region [.m 47 0,.len 48 false (.t 47),.bin 49 .leq (.t 48) (.i 12),.m 2 49] [2]) .ret)
def D3:BM:=⟨[.val (.slice AC)],[⟨2,false,.bool⟩],(.seq (.region [.mv 2 (.c (.bool false))] [0]) (.seq (.seq (.region [.mv 3 (.i 0)] [0,3]) (.block 0 [0] (.loop [0,3] Ra))) Rb))⟩
theorem lx:At Tryz.prog 141 D3=true:=by kernel_rfl
def Io:BM:=⟨[.val K9],[⟨2,false,.bool⟩],(.seq (.region [.box 1 (.t 0) false,.mv 2 (.c (.bool false))] [1]) (.seq (.region [.f 3 1 0,.l 4 3,.bin 5 .eql (.t 4) (.i 0),.m 6 5,.sc 6 true [.f 7 1 1,.l 8 7,.bin 9 .eql (.t 8) (.i 0)] 10 (.t 9) (.c (.bool false)),.m 11 10,.sc 11 true [.f 12 1 2,.l 13 12,.bin 14 .eql (.t 13) (.i 0)] 15 (.t 14) (.c (.bool false)),.m 16 15,.sc 16 true [.f 17 1 3,.ls 18 17 3,.bu 19 AC [],.eqs 20 false AC (.t 18) (.t 19)] 21 (.t 20) (.c (.bool false)),.m 22 21,.sc 22 true [.f 23 1 6,.l 24 23,.len 25 false (.t 24),.bin 26 .eql (.t 25) (.i 0)] 27 (.t 26) (.c (.bool false)),.m 2 27] [2]) .ret))⟩
theorem fa:At Tryz.prog 142 Io=true:=by kernel_rfl
def Ou:AH:=(.seq (.seq (.region [.m 8 6,.m 9 0,.len 10 false (.t 9),.b 11 .lss 8 10] [0,1,5,6,11]) (.cond (.t 11) .skip (.exit 0))) (.seq (.block 1 [0,1,5,6] (.seq (.region [.m 14 0,.m 15 6,.idx 16 1 (.t 14) (.t 15),.l 17 16,.m 18 1,.b 19 .neq 17 18] [0,1,5,6,19]) (.cond (.t 19) (.region [.m 20 5,.m 21 0,.m 22 6,.idx 23 1 (.t 21) (.t 22),.l 24 23,.blst 25 (.int .i64) [.t 24],.app 26 3 (.int .i64) (.t 20) (.t 25),.m 5 26] [0,1,5,6]) .skip))) (.region [.m 12 6,.bin 13 .add (.t 12) (.i 1),.m 6 13] [0,1,5,6])))
def Ov:AH:=(.seq (.region [.m 27 5,.m 4 27] [4]) .ret)
def Cj:BM:=⟨[.val (.slice (.int .i64)),.val (.int .i64)],[⟨4,false,(.slice (.int .i64))⟩],(.seq (.region [.mv 4 (.c (.nil))] [0,1]) (.seq (.region [.brow 7 3 (.int .i64) [],.m 5 7] [0,1,5]) (.seq (.seq (.region [.mv 6 (.i 0)] [0,1,5,6]) (.block 0 [5] (.loop [0,1,5,6] Ou))) Ov)))⟩
theorem cf:At Tryz.prog 143 Cj=true:=by kernel_rfl
def Ew:AH:=(.seq (.block 3 [0,1,2,6,7] (.draw (E2 18 [(1,[]),(2,[]),(3,[]),(5,[]),(6,[]),(8,[5,7]),(10,[]),(11,[]),(12,[10,11]),(14,[0,1,9,13]),(16,[2,4,15])]) (.tk 15 [.idx 47 1 (.t 33) (.t 34),.l 46 45,.idx 45 1 (.t 43) (.t 44),.m 44 7,.m 43 0,.l 42 41,.idx 41 1 (.t 38) (.t 40),.bin 40 .sub (.t 39) (.i 1),.m 39 7,.m 38 0,.bin 37 .sub (.t 36) (.i 1),.m 36 7,.m 35 0,.m 34 7,.m 33 0] (.only 15 none (.store (.t 47) (.t 42) 1 false) false [] (.tk 17 [.idx 48 1 (.t 35) (.t 37)] (.only 17 none (.store (.t 48) (.t 46) 1 false) false [] .done)))) [0,1,2,6,7])) (.region [.m 31 7,.bin 32 .sub (.t 31) (.i 1),.m 7 32] [0,1,2,6,7]))
def Ex:AH:=(.seq (.seq (.draw (E2 15 [(1,[]),(2,[0,1]),(5,[3]),(6,[4,5]),(8,[3]),(9,[3]),(11,[8,10]),(13,[7,12])]) (.tk 4 [.m 19 18,.b 18 .gtr 16 17,.m 17 1,.m 16 7] (.test 19 (.tg 19 true 13 [.l 28 27,.idx 27 1 (.t 24) (.t 26),.bin 26 .sub (.t 25) (.i 1),.m 25 7,.m 24 0,.l 23 22,.idx 22 1 (.t 20) (.t 21),.m 21 7,.m 20 0] (.only 13 (some (19,true)) (.cl 29 [23,28] Xv) false [] (.tk 15 [.pick 30 (.t 19) (.t 29) (.c (.bool false))] .done))) (.sk 19 true 10 14 30 (.tk 15 [.pick 30 (.t 19) (.t 29) (.c (.bool false))] .done)))) [0,1,2,6,7,30]) (.cond (.t 30) .skip (.exit 2))) Ew)
def Ey:AH:=(.region [.m 13 6,.bin 14 .add (.t 13) (.i 1),.m 6 14] [0,1,2,6])
def Ez:AH:=(.seq (.seq (.region [.m 10 6,.m 11 2,.b 12 .lss 10 11] [0,1,2,6,12]) (.cond (.t 12) .skip (.exit 0))) (.seq (.block 1 [0,1,2,6] (.seq (.region [.m 15 6,.m 7 15] [0,1,2,6,7]) (.block 2 [0,1,2,6] (.loop [0,1,2,6,7] Ex)))) Ey))
def AS:BM:=⟨[.mut (.own 3 (.int .i64)),.val (.int .i64),.val (.int .i64)],[],(.seq (.region [.m 8 1,.bin 9 .add (.t 8) (.i 1),.m 6 9] [0,1,2,6]) (.block 0 [] (.loop [0,1,2,6] Ez)))⟩
theorem Kr:At Tryz.prog 148 AS=true:=by kernel_rfl
def La:BM:=⟨[.val (.int .i64),.val (.int .i64)],[⟨4,false,.bool⟩],(.seq (.region [.mv 4 (.c (.bool false))] [0,1]) (.seq (.region [.m 5 0,.cl 6 [5] VD,.m 7 6,.sc 7 true [.m 8 1,.cl 9 [8] VD,.un 10 .not (.t 9)] 11 (.t 10) (.c (.bool false)),.m 12 11,.sc 12 false [.m 13 0,.m 14 1,.b 15 .lss 13 14] 16 (.c (.bool true)) (.t 15),.m 4 16] [4]) .ret))⟩
theorem ly:At Tryz.prog 154 La=true:=by kernel_rfl
def Ow:AH:=(.seqc [0,2] (.seq (.region [.m 13 0,.bin 14 .geq (.t 13) (.c (.int .u64 256))] [0,2,14]) (.cond (.t 14) (.seq (.region [.m 15 0,.bin 16 .shr (.t 15) (.c (.int .u64 8)),.m 0 16] [0,2]) (.region [.m 17 2,.bin 18 .add (.t 17) (.i 8),.m 2 18] [0,2])) .skip)) (.seq (.region [.m 19 2,.m 20 0,.cvi 21 .u8 (.t 20),.sidx 22 (.c (.str ⟨#[0,1,2,2,3,3,3,3,4,4,4,4,4,4,4,4,5,5,5,5,5,5,5,5,5,5,5,5,5,5,5,5,6,6,6,6,6,6,6,6,6,6,6,6,6,6,6,6,6,6,6,6,6,6,6,6,6,6,6,6,6,6,6,6,7,7,7,7,7,7,7,7,7,7,7,7,7,7,7,7,7,7,7,7,7,7,7,7,7,7,7,7,7,7,7,7,7,7,7,7,7,7,7,7,7,7,7,7,7,7,7,7,7,7,7,7,7,7,7,7,7,7,7,7,7,7,7,7,8,8,8,8,8,8,8,8,8,8,8,8,8,8,8,8,8,8,8,8,8,8,8,8,8,8,8,8,8,8,8,8,8,8,8,8,8,8,8,8,8,8,8,8,8,8,8,8,8,8,8,8,8,8,8,8,8,8,8,8,8,8,8,8,8,8,8,8,8,8,8,8,8,8,8,8,8,8,8,8,8,8,8,8,8,8,8,8,8,8,8,8,8,8,8,8,8,8,8,8,8,8,8,8,8,8,8,8,8,8,8,8,8,8,8,8,8,8,8,8,8,8,8,8,8,8,8,8]⟩)) (.t 21),.cvi 23 .i64 (.t 22),.b 24 .add 19 23,.m 2 24] [2]) .ret))
def Ox:AH:=(.seqc [0,2] (.seq (.region [.m 7 0,.bin 8 .geq (.t 7) (.c (.int .u64 65536))] [0,2,8]) (.cond (.t 8) (.seq (.region [.m 9 0,.bin 10 .shr (.t 9) (.c (.int .u64 16)),.m 0 10] [0,2]) (.region [.m 11 2,.bin 12 .add (.t 11) (.i 16),.m 2 12] [0,2])) .skip)) Ow)
def Ck:BM:=⟨[.val (.int .u64)],[⟨2,false,(.int .i64)⟩],(.seq (.region [.mv 2 (.i 0)] [0,2]) (.seqc [0,2] (.seq (.region [.m 3 0,.bin 4 .geq (.t 3) (.c (.int .u64 4294967296))] [0,2,4]) (.cond (.t 4) (.seq (.region [.m 5 0,.bin 6 .shr (.t 5) (.c (.int .u64 32)),.m 0 6] [0]) (.region [.mv 2 (.i 32)] [0,2])) .skip)) Ox))⟩
theorem cg:At Tryz.prog 158 Ck=true:=by kernel_rfl
def CD:AH:=(.seq (.seq (.region [.m 15 9,.m 16 10,.b 17 .lss 15 16] [0,1,2,8,9,10,17]) (.cond (.t 17) .skip (.exit 0))) (.block 1 [0,1,2,8,9,10] (.seq (.region [.m 18 9,.m 19 10,.b 20 .add 18 19,.cvi 21 .u64 (.t 20),.bin 22 .shr (.t 21) (.c (.int .u64 1)),.cvi 23 .i64 (.t 22),.m 11 23] [0,1,2,8,9,10,11]) (.seq (.region [.m 24 2,.m 25 0,.m 26 11,.idx 27 3 (.t 25) (.t 26),.ls 28 27 3,.m 29 1,.call (some 30) 160 [(.t 28,.val AC),(.t 29,.val .str),(.t 24,.cap0 160)] [(.int .i64)],.bin 31 .lss (.t 30) (.i 0)] [0,1,2,8,9,10,11,31]) (.cond (.t 31) (.region [.m 32 11,.bin 33 .add (.t 32) (.i 1),.m 9 33] [0,1,2,8,9,10]) (.region [.m 34 11,.m 10 34] [0,1,2,8,9,10]))))))
def BJ:AH:=(.seq (.region [.m 35 9,.m 36 9,.m 37 8,.b 38 .lss 36 37,.m 39 38,.sc 39 true [.m 40 2,.m 41 0,.m 42 9,.idx 43 3 (.t 41) (.t 42),.ls 44 43 3,.m 45 1,.call (some 46) 160 [(.t 44,.val AC),(.t 45,.val .str),(.t 40,.cap0 160)] [(.int .i64)],.bin 47 .eql (.t 46) (.i 0)] 48 (.t 47) (.c (.bool false)),.m 6 35,.m 7 48] [6,7]) .ret)
def AI:BM:=⟨[.val (.slice AC),.val .str,.val (.fun 160)],[⟨6,false,(.int .i64)⟩,⟨7,false,.bool⟩],(.seq (.region [.mv 6 (.i 0),.mv 7 (.c (.bool false))] [0,1,2]) (.seq (.region [.m 12 0,.len 13 false (.t 12),.m 8 13] [0,1,2,8]) (.seq (.region [.m 14 8,.mv 9 (.i 0),.m 10 14] [0,1,2,8,9,10]) (.seq (.block 0 [0,1,2,8,9] (.loop [0,1,2,8,9,10] CD)) BJ))))⟩
theorem Ek:At Tryz.prog 159 AI=true:=by kernel_rfl
def Ip:BM:=⟨[.val AC,.val .str],[⟨4,false,(.int .i64)⟩],(.seq (.region [.box 2 (.t 0) false,.mv 4 (.i 0)] [1,2]) (.seq (.region [.f 5 2 0,.l 6 5,.m 7 1,.cl 8 [6,7] cY,.m 4 8] [4]) .ret))⟩
theorem fb:At Tryz.prog 160 Ip=true:=by kernel_rfl
def Jl:BM:=⟨[.val (.int .i64)],[⟨2,false,.bool⟩],(.seq (.region [.mv 2 (.c (.bool false))] [0]) (.seq (.region [.m 3 0,.m 4 0,.b 5 .neq 3 4,.m 2 5] [2]) .ret))⟩
theorem i7:At Tryz.prog 169 Jl=true:=by kernel_rfl
end
end Go.Proofs.YtokiohnjegbnpaaGreat.Core

namespace Go.Proofs.YtokiohnjegbnpaaGreat.Core
open Go Go.Shelf Go.RowKit Go.Lib
variable {P:Program} {ρ:Ren}
set_option maxHeartbeats 2000000 in
set_option maxRecDepth 100000 in
theorem vH (L:SlLaysE0.n41 P ρ) (i0:TypeInfo) (z:Value) (size bytes:Nat) (hi:P.info? (ρ.t 23)=some i0) (hz0:i0.zero=some z) (hz1:i0.size=size) (hz2:i0.bytes=bytes) (hzs:z.cells.size=size) (hsz:0<size)
  (z23:∀ w,(Go.sizeOf (ρ.t 23)).run P w=.ok size w) (ad:Addr) (n c:Nat) (news:List Value) (w:World) (hl:news.length=n*size) (hn:n<=maxLen) (hbig:n*bytes<=140737488355328)
  (hc:∀ j u,news[j]? = some u->w.cell? (ad.add j)=some u) (h1:∀ u∈news,u.oneCell'=true) :
  Calls P (ρ.f 41) #[.slice (some ad) n c] w fun e w'=>∃ v',e=.returned v'/\w'.ownsRow w.heap.size (ρ.t 23) size v' n news/\w.grownBy w' none:=by
 have mixed:=L.mixed; have t4:=L.t4; have a4:=L.a4; have z4:=L.z4; have v4:=L.v4; have t22:=L.t22; have a22:=L.a22; have z22:=L.z22; have v22:=L.v22
 have q22:∀ (w:World) (a:Option Addr) (n c n' c':Nat),(binOp .eql (ρ.t 22) (.slice a n c) (.slice none n' c')).run P w=.ok (.bool a.isNone) w:=fun w a n c n' c'=>Lib.run_eql_slice_nil w _ _ a n c n' c' L.t22
 have u22:∀ w,Sem.run P (underlying (ρ.t 22)) w=.ok (TypeDesc.slice (ρ.t 23)) w:=run_underlying t22
 have A:Aside (∀ j u,news[j]? = some u->w.cell? (ad.add j)=some u):=hc
 clear hc
 obtain ⟨_,_,FG⟩:=L.f41
 go_enter FG,SlBodyN.n41_ntmps ρ
 go_wp2_with (at_builtin; refine wpList_append_own _ rfl _ _ (ρ.t 22) rfl w.heap.size (ρ.t 23) i0 z size bytes t22 hi hz0 hz1 hz2 hzs hsz _ _ _ rfl (World.ownsRow_made w #[] 0 (Nat.le_refl _) (Nat.zero_le _) (by simp)) ad n c news rfl ?qc1 ?qc2 ?qc3 ?qc4 ?qc5 ?qc6 ?_)
 case qc1=>exact hl
 case qc2 =>
  intro j u hj
  exact Lib.cell?_alloc_some _ (A.out j u hj)
 case qc3=>exact h1
 case qc4=>rw [Nat.zero_add]; exact hn
 case qc5=>rw [Nat.zero_add]; exact hbig
 case qc6=>simp
 intro v' w1 hown hgrow hnil
 go_wp2
 go_ret
 refine ⟨v',rfl,by simpa using hown,⟨hgrow.os,hgrow.tape,hgrow.output,?_,fun k hk _=>?_⟩⟩
 ·have:=hgrow.size
  simp at this
  omega
 ·rw [hgrow.block k (by simp; omega) (by simp [Value.ownBlock]; omega)]
  simp only [World.alloc,Array.getElem?_push]
  rw [if_neg (by omega)]
set_option maxHeartbeats 1000000 in
theorem uD (L:SlLaysE0.n41 P ρ) (n c:Nat) (w:World) :
  Calls P (ρ.f 41) #[.slice none n c] w fun e w'=>e=.returned (.slice none 0 0)/\w'=w:=by
 have mixed:=L.mixed; have t4:=L.t4; have a4:=L.a4; have z4:=L.z4; have v4:=L.v4; have t22:=L.t22; have a22:=L.a22; have z22:=L.z22; have v22:=L.v22
 have q22:∀ (w:World) (a:Option Addr) (n c n' c':Nat),(binOp .eql (ρ.t 22) (.slice a n c) (.slice none n' c')).run P w=.ok (.bool a.isNone) w:=fun w a n c n' c'=>Lib.run_eql_slice_nil w _ _ a n c n' c' L.t22
 obtain ⟨_,_,FG⟩:=L.f41
 go_enter FG,SlBodyN.n41_ntmps ρ
 go_wp2
 go_ret
 exact ⟨rfl,rfl⟩
def Ue (P:Program) (f:Nat) (args bs rs:List AV):Prop :=
 pE P f/\(∀ r∈rs,r.cells.all AV.nilFree=true)/\∃ n,n+bs.length=rs.length /\
  ∀ (H:HP) (φ:B5) (w:World) (cargs:List Value),SR H φ (BS bs args) w->Al (VB H φ (BS bs args)) (C9 (E_ bs) args) cargs ->
   Calls P f cargs.toArray w fun out w'=>match out with
    | .returned v=>NJ H φ w args bs (rs.drop n) (rs.take n) v w'
    | _=>False
theorem rH {H H':HP} {φ φ':B5} {w w':World} {args rs:List AV} {v:Value} (h:Ak H φ (BS [] args) w H' φ' (BS [] rs) w') (hr:xq H' φ' (BS [] rs) (C9 (E_ []) rs) v):NJ H φ w args [] [] rs v w':=by
 refine ⟨H',φ',h.le,h.sr,h.fr _ _ _ _ _ ⟨rfl,rfl,rfl,Nat.le_refl _,fun _ _ _=>rfl,fun _ _=>rfl,fun i bi hi _ b hb=>.inr ⟨i,(List.getElem?_eq_some_iff.1 hi).1,hb⟩,fun j hj=>?_,fun _ _ _=>rfl⟩,hr⟩
 simp at hj
theorem vI {K:Kd} (L:SlLaysE0.n41 P ρ) (he:qa P (ρ.t 23) K=true) {xs:List K.T} (hx:xs.length<=68719476736):Ue P (ρ.f 41) [.lst K xs] [] [.new (ρ.t 23) K xs]:=by
 obtain ⟨i,z,hi,hz,h1,h2,h3,h4⟩:=Sl he
 have hn:xs.length<=maxLen:=by unfold maxLen; omega
 refine ⟨?_,?_,1,rfl,fun H φ w cargs hs ha=>?_⟩
 ·obtain ⟨nm,hnm,hf⟩:=L.f41
  exact ⟨_,_,hf,hnm,rfl⟩
 ·intro r hr
  simp only [List.mem_singleton] at hr
  subst hr
  rfl
 ·obtain ⟨v,rest,rfl,hv,hrest⟩:=ha
  have hrest:rest=[]:=hrest
  subst hrest
  ··obtain ⟨sl,cap,e,hc,hr⟩:=(show Xa (GD H K) K.sz H xs v from hv)
    subst e
    have fin:∀ (v':Value) (w':World) (flat:List Value),w'.ownsRow w.heap.size (ρ.t 23) K.sz v' xs.length flat->Dw H K xs flat->w.grownBy w' none->NJ H φ w [.lst K xs] [] [] [.new (ρ.t 23) K xs] v' w':=by
     intro v' w' flat ho hrr hg
     have hst:=Xe (st:=BS [] [.lst K xs]) hs hg ho hrr
     refine rH (rs:=[.new (ρ.t 23) K xs]) hst ?_
     exact ⟨rfl,rfl⟩
    cases sl with
    | none =>
     have:xs=[]:=by
      rcases hr with h | ⟨_,_,_,_,_,h,_⟩
      ·exact h
      ·cases h
     subst this
     refine Calls.mono (uD L _ _ w) fun out w' h=>?_
     obtain ⟨rfl,rfl⟩:=h
     exact fin _ _ [] ⟨by simp,.inl ⟨rfl,rfl⟩⟩ (fun j x h=>by simp at h) ⟨rfl,rfl,rfl,Nat.le_refl _,fun _ _ _=>rfl⟩
    | some ad =>
     obtain ⟨sl2,cap2,flat,e2,_,hl,hrr,hcl⟩:=oO hs.hp (show Xa (GD H K) K.sz H xs (.slice (some ad) xs.length cap) from ⟨some ad,cap,rfl,hc,hr⟩)
     cases e2
     refine Calls.mono (vH L i z K.sz i.bytes hi hz h1 rfl h3 (Kd.sz_pos K) (fun w=>by simp [sizeOf,typeInfo,hi,h1]) ad xs.length cap flat w hl hn (Nat.le_trans (Nat.mul_le_mul hx h2) (by omega)) ?_ (DD hrr hl)) fun out w' h=>?_
     ·intro j u hj
      rcases hcl with rfl | ⟨b,off,c,el,fz,ea,hb,hcc⟩
      ·have:flat=[]:=List.length_eq_zero_iff.1 (by rw [hl]; simp)
       rw [this] at hj
       simp at hj
      ·cases ea
       rw [Addr.add_none]
       have:=hs.hp _ _ hb
       have h5:=hcc j u hj
       simp only [World.cell?,this]
       simpa using h5
     ·obtain ⟨v',rfl,ho,hg⟩:=h
      exact fin v' w' flat ho hrr hg

theorem Rc (w:World) (dT sT ty elem:TypeId) (g o dLen dCap:Nat) (a:Addr) (sLen sCap:Nat) (cur:Array Value) (t:TypeId) (cs:List Value) (k:Nat) (i:TypeInfo)
  (hu:P.underlying dT=some (.slice elem)) (hi:P.info? elem=some i) (hg:w.heap[g]? = some (.cells cur t (0,0))) (hk:Nat.min sLen dLen=k) (hn:cs.length=k*i.size)
  (hsrc:∀ j v,cs[j]? = some v->w.cell? (a.add j)=some v) (hfit:o+cs.length<=cur.size) (h1:∀ v∈cs,v.oneCell'=true) :
  (Builtin.copy_ #[dT,sT] ty #[.slice (some ⟨g,o,none⟩) dLen dCap,.slice (some a) sLen sCap]).run P w =
   .ok (goInt k) (w.setRow g (cur.toList.take o++cs++cur.toList.drop (o+cs.length)).toArray):=by
 have hl:=run_loadCells_list (P:=P) w a cs hsrc
 have hst:=run_storeCells_at P g o t cs 0 cur w hg (by simpa using hfit) h1
 simp [Builtin.copy_,run_underlying hu,Builtin.lenOf,Builtin.firstCells,sizeOf,typeInfo,hi,hk,<- hn,hl,hst]
theorem fc (w:World) (t tn ty e:TypeId) (i:TypeInfo) (z:Value) (kn:IntKind) (ht:P.underlying t=some (.slice e)) (htn:P.underlying tn=some (.int kn)) (hi:P.info? e=some i) (hz:i.zero=some z)
  (b:Addr) (sLen sCap:Nat) (olds:List Value) (hlo:olds.length=sLen*i.size) (holds:∀ j v,olds[j]? = some v->w.cell? (b.add j)=some v) (n:Nat) (h0:0<n) (hs:0<i.size)
  (hg:sCap<sLen+n) (h63:((sLen+n:Nat):Int)<=9223372036854775807) (h48:n*i.bytes<=281474976710656) (hfit:Builtin.nextslicecap (sLen+n) sCap*i.bytes<=281474976710656) (k:IntKind) :
  (Builtin.append_ #[t,tn] ty #[.slice (some b) sLen sCap,.int k n]).run P w =
   .ok (.slice (some ⟨w.heap.size,0,none⟩) (sLen+n) (grownCap w (sLen+n) sCap e))
    (w.drew.alloc (.cells (olds.toArray++Builtin.zeroCells z.cells n++Builtin.zeroCells z.cells (grownCap w (sLen+n) sCap e-(sLen+n))) e)):=by
 have hn:¬ (sLen+n<=sCap):=by omega
 have hw:IntKind.i64.wrap (n:Int)=n:=by rw [IntKind.wrap_i64]; omega
 have h63':¬ (9223372036854775807<((sLen:Int)+(n:Int))):=by omega
 have h48':¬ (281474976710656<Builtin.nextslicecap (sLen+n) sCap*i.bytes):=by omega
 have h48i:¬ (281474976710656<(n:Int)*(i.bytes:Int)):=by
  rw [<- Int.natCast_mul]
  omega
 have hneg:¬ ((n:Int)<0):=by omega
 have hn0:n≠0:=by omega
 have hns:¬ (n*i.size=0):=Nat.mul_ne_zero hn0 (by omega)
 have hfo:=run_firstCells_some (P:=P) w.drew i.size sLen b sLen sCap olds hlo (by simpa using holds)
 simp [Builtin.append_,run_underlying ht,run_underlying htn,sizeOf,typeInfo,zeroValue,hi,hz,asInt,asIntOf,hw,hn,hn0,hneg,hns,h63',h48',h48i,Question.forced,hfo,newRow,grownCap]
 try (congr 2; apply Array.ext'; simp [List.append_assoc])
structure uE (P:Program) (ρ:Ren):Prop where
 mixed:P.follows .mixedOrders=true
 f22:Bears P (ρ.f 22) (Body2.n22 ρ)
 ov:∀ args w,(callFunc (ρ.f 29) args).run P w=((Extern.SlicesOverlaps.overlaps #[(ρ.t 24),(ρ.t 24)] #[(ρ.t 4)] args).run P w).andThen fun v w'=>.ok (.value v) w'
 t3:P.underlying (ρ.t 3)=some (TypeDesc.int IntKind.i64)
 a3:∀ w,(isAgg (ρ.t 3)).run P w=.ok false w
 z3:∀ w,(Go.sizeOf (ρ.t 3)).run P w=.ok 1 w
 v3:∀ w,(zeroValue (ρ.t 3)).run P w=.ok (Value.int IntKind.i64 0) w
 t4:P.underlying (ρ.t 4)=some (TypeDesc.bool)
 a4:∀ w,(isAgg (ρ.t 4)).run P w=.ok false w
 z4:∀ w,(Go.sizeOf (ρ.t 4)).run P w=.ok 1 w
 v4:∀ w,(zeroValue (ρ.t 4)).run P w=.ok (Value.bool false) w
 t24:P.underlying (ρ.t 24)=some (TypeDesc.slice (ρ.t 9))
 a24:∀ w,(isAgg (ρ.t 24)).run P w=.ok false w
 z24:∀ w,(Go.sizeOf (ρ.t 24)).run P w=.ok 1 w
 v24:∀ w,(zeroValue (ρ.t 24)).run P w=.ok (Value.slice none 0 0) w
set_option maxHeartbeats 4000000 in
set_option maxRecDepth 100000 in
theorem sN (L:uE P ρ) (i0:TypeInfo) (z:Value) (size bytes:Nat) (hi:P.info? (ρ.t 9)=some i0) (hz0:i0.zero=some z) (hz1:i0.size=size) (hz2:i0.bytes=bytes) (hzs:z.cells.size=size) (hsz:0<size)
  (z9:∀ w,(Go.sizeOf (ρ.t 9)).run P w=.ok size w) (v:Value) (base:Option Addr) (n cap:Nat) (hv:v=.slice base n cap) (xs:List Value) (w:World) (hown:w.ownsRow 0 (ρ.t 9) size v n xs) (ad:Addr) (m vc:Nat) (news:List Value) (hm:0<m)
  (hl:news.length=m*size) (hn:n+m<=maxLen) (hbig:(n+m)*bytes<=140737488355328) (hnews:∀ j u,news[j]? = some u->w.cell? (ad.add j)=some u) (h1:∀ u∈news,u.oneCell'=true) :
  Calls P (ρ.f 22) #[v,.int .i64 n,.slice (some ad) m vc] w fun e w'=>∃ v',e=.returned v'/\w'.ownsRow 0 (ρ.t 9) size v' (n+m) (xs++news)/\w.grownBy w' v.ownBlock/\(v'.ownBlock=v.ownBlock\/v'.ownBlock=some w.heap.size):=by
 subst hv
 have mixed:=L.mixed; have t3:=L.t3; have a3:=L.a3; have z3:=L.z3; have v3:=L.v3; have t4:=L.t4; have a4:=L.a4; have z4:=L.z4; have v4:=L.v4; have t24:=L.t24; have a24:=L.a24; have z24:=L.z24; have v24:=L.v24
 have u3:=run_underlying L.t3; have u4:=run_underlying L.t4; have u24:=run_underlying L.t24
 have hz1':¬ ((m:Int)=0):=by omega
 have hob:∀ c,(Value.slice base n c).ownBlock=(Value.slice base n cap).ownBlock:=fun c=>by cases base<;>rfl
 have hcap:n<=cap:=by
  rcases hown.2 with ⟨e,e2⟩ | ⟨g,c,cur,e,_,_,h,_⟩
  ·omega
  ·cases e; exact h
 have A:Aside (∀ j u,news[j]? = some u->w.cell? (ad.add j)=some u):=hnews
 clear hnews
 obtain ⟨_,_,FG⟩:=L.f22
 go_enter FG,Body2.n22_ntmps ρ
 go_wp2_with (at_builtin; refine wpList_append_own_at _ rfl _ _ (ρ.t 24) rfl 0 (ρ.t 9) i0 z size bytes t24 hi hz0 hz1 hz2 hzs hsz _ _ _ rfl hown ad m vc news rfl ?qc1 ?qc2 ?qc3 ?qc4 ?qc5 ?qc6 ?_)
 all_goals first
  | exact hl
  | exact A.out
  | exact h1
  | exact hn
  | exact hbig
  | exact Nat.zero_le _
  | (
   intro v' w1 ho hgrow hnil hblk
   go_wp2
   go_ret
   exact ⟨v',rfl,ho,by rw [<- hob]; exact hgrow,by rw [<- hob]; exact hblk⟩)
theorem vJ {α:Type} (c V:List α) (I M N:Nat) (hI:I<=N) (hV:V.length=M) (hN:N+M<=c.length) :
  (((c.take (I+M)++(c.take N).drop I++c.drop (I+M+(N-I))).take I++V++(c.take (I+M)++(c.take N).drop I++c.drop (I+M+(N-I))).drop (I+M)).take (N+M))=c.take I++V++(c.take N).drop I:=by
 have l1:(c.take (I+M)).length=I+M:=by rw [List.length_take]; omega
 have l2:((c.take N).drop I).length=N-I:=by rw [List.length_drop,List.length_take]; omega
 have e1:(c.take (I+M)++(c.take N).drop I++c.drop (I+M+(N-I))).take I=c.take I:=by
  rw [List.append_assoc,List.take_append_of_le_length (by omega),List.take_take,Nat.min_eq_left (by omega)]
 have e2:(c.take (I+M)++(c.take N).drop I++c.drop (I+M+(N-I))).drop (I+M)=(c.take N).drop I++c.drop (I+M+(N-I)):=by
  rw [List.append_assoc,List.drop_append_of_le_length (by omega),List.drop_of_length_le (by omega),List.nil_append]
 rw [e1,e2,<- List.append_assoc]
 have l3:(c.take I++V++(c.take N).drop I).length=N+M:=by simp only [List.length_append,l2,hV,List.length_take]; omega
 rw [List.take_append_of_le_length (by omega),<- l3,List.take_length]
theorem Iq (w:World) (g:Nat) (c:Array Value):(w.setRow g c).heap.size=w.heap.size:=by
 unfold World.setRow
 exact Array.size_modify
theorem rI {w:World} {b:Nat} {c:Array Value} {t:TypeId} {fz:Nat×Nat} (h:w.heap[b]? = some (.cells c t fz)):w.shape? b=some (t,c.size):=by simp [World.shape?,h]
theorem oh {w:World} {b o:Nat} {c:Array Value} {t:TypeId} (h:w.heap[b]? = some (.cells c t (0,0))):w.frozen? ⟨b,o,none⟩=false:=by simp [World.frozen?,h]
theorem PY {w:World} {b o:Nat} {c:Array Value} {t:TypeId} {fz:Nat×Nat} (h:w.heap[b]? = some (.cells c t fz)):w.cell? ⟨b,o,none⟩=c[o]? := by simp [World.cell?,h]
set_option maxHeartbeats 8000000 in
set_option maxRecDepth 100000 in
theorem pz (L:uE P ρ) (i0:TypeInfo) (z:Value) (size bytes:Nat) (hi:P.info? (ρ.t 9)=some i0) (hz0:i0.zero=some z) (hz1:i0.size=size) (hz2:i0.bytes=bytes) (hzs:z.cells.size=size) (hsz:0<size)
  (z9:∀ w,(Go.sizeOf (ρ.t 9)).run P w=.ok size w) (g n cap i:Nat) (cur:Array Value) (w:World) (hg:w.heap[g]? = some (.cells cur (ρ.t 9) (0,0))) (hcs:cur.size=cap*size) (hin:i<n) (vb m vc:Nat) (vcur:Array Value) (hgv:w.heap[vb]? = some (.cells vcur (ρ.t 9) (0,0))) (hvb:vb≠g)
  (hm:0<m) (hroom:n+m<=cap) (hcm:cap<=maxLen) (hvl:m*size<=vcur.size) (h1:∀ u∈cur.toList.take (n*size),u.oneCell'=true) (h1v:∀ u∈vcur.toList.take (m*size),u.oneCell'=true) (hkB:cur.size≠0) :
  Calls P (ρ.f 22) #[.slice (some ⟨g,0,none⟩) n cap,.int .i64 i,.slice (some ⟨vb,0,none⟩) m vc] w fun e w'=>e=.returned (.slice (some ⟨g,0,none⟩) (n+m) cap) /\
   ∃ cur',w'.heap[g]? = some (.cells cur' (ρ.t 9) (0,0))/\cur'.size=cap*size/\cur'.toList.take ((n+m)*size)=cur.toList.take (i*size)++vcur.toList.take (m*size)++(cur.toList.take (n*size)).drop (i*size)/\w.grownBy w' (some g):=by
 have mixed:=L.mixed; have t3:=L.t3; have a3:=L.a3; have z3:=L.z3; have v3:=L.v3; have t4:=L.t4; have a4:=L.a4; have z4:=L.z4; have v4:=L.v4; have t24:=L.t24; have a24:=L.a24; have z24:=L.z24; have v24:=L.v24
 have u3:=run_underlying L.t3; have u4:=run_underlying L.t4; have u24:=run_underlying L.t24
 have hcm':cap<=9223372036854775807:=hcm
 have hz1':¬ ((m:Int)=0):=by omega
 have hz2':¬ ((i:Int)=(n:Int)):=by omega
 have hw1:IntKind.i64.wrap ((i:Int)+(m:Int))=(i:Int)+(m:Int):=by rw [IntKind.wrap_i64]; omega
 have hw2:IntKind.i64.wrap ((n:Int)+(m:Int))=(n:Int)+(m:Int):=by rw [IntKind.wrap_i64]; omega
 have hb1:(0:Int)<=(i:Int)+(m:Int):=by omega
 have hin':i<=n:=by omega
 have htn:((i:Int)+(m:Int)).toNat=i+m:=by omega
 have htn2:((n:Int)+(m:Int)).toNat=n+m:=by omega
 have hb2:¬ (cap=i+m):=by omega
 have hb3:(i:Int)<=(n:Int)+(m:Int):=by omega
 have hb4:¬ (cap=i):=by omega
 have hb5:¬ ((n:Int)+(m:Int)>(cap:Int)):=by omega
 have hov:∀ o lb cb,(callFunc (ρ.f 29) #[.slice (some ⟨vb,0,none⟩) m vc,.slice (some ⟨g,o,none⟩) lb cb]).run P w=.ok (.value (.bool false)) w:=fun o lb cb=>by
  rw [L.ov,Lib.run_overlaps_apart w (ρ.t 24) (ρ.t 4) (ρ.t 9) L.t24 size z9 ⟨vb,0,none⟩ ⟨g,o,none⟩ m vc lb cb hvb _ _ _ _ (rI hgv) (rI hg) hkB (oh hgv) (oh hgv)]
  rfl
 have e1:(i+m)*size=i*size+m*size:=Nat.add_mul i m size
 have e2:(n+m)*size=n*size+m*size:=Nat.add_mul n m size
 have e3:(n-i)*size=n*size-i*size:=Nat.sub_mul n i size
 have e4:i*size<=n*size:=Nat.mul_le_mul_right size hin'
 have e5:n*size+m*size<=cur.size:=by rw [hcs,<- e2]; exact Nat.mul_le_mul_right size hroom
 have lm:((cur.toList.take (n*size)).drop (i*size)).length=(n-i)*size:=by rw [List.length_drop,List.length_take,Array.length_toList,e3]; omega
 have hcp1:∀ ty dc sc,(Builtin.copy_ #[(ρ.t 24),(ρ.t 24)] ty #[.slice (some ⟨g,(i+m)*size,none⟩) (n+m-(i+m)) dc,.slice (some ⟨g,i*size,none⟩) (n+m-i) sc]).run P w.drew=.ok (goInt ((n-i:Nat):Int)) (w.drew.setRow g (cur.toList.take ((i+m)*size)++(cur.toList.take (n*size)).drop (i*size)++cur.toList.drop ((i+m)*size+((cur.toList.take (n*size)).drop (i*size)).length)).toArray):=fun ty dc sc =>
  Rc w.drew _ _ ty (ρ.t 9) g ((i+m)*size) (n+m-(i+m)) dc ⟨g,i*size,none⟩ (n+m-i) sc cur (ρ.t 9) _ (n-i) i0 L.t24 hi hg (by simp only [Nat.min_def]; split<;>omega) (by rw [lm,hz1])
   (fun j v hj=>by
    rw [Addr.add_none]
    have:w.drew.cell? ⟨g,i*size+j,none⟩=cur[i*size+j]? := PY hg
    rw [this,<- hj,List.getElem?_drop,List.getElem?_take]
    have:i*size+j<n*size:=by
     have:=(List.getElem?_eq_some_iff.1 hj).1
     omega
    rw [if_pos this,Array.getElem?_toList])
   (by rw [lm,e1,e3]; omega) (fun v hv=>h1 v (List.mem_of_mem_drop hv))
 obtain ⟨cur1,hcur1⟩:∃ c1,c1=(cur.toList.take ((i+m)*size)++(cur.toList.take (n*size)).drop (i*size)++cur.toList.drop ((i+m)*size+((cur.toList.take (n*size)).drop (i*size)).length)).toArray:=⟨_,rfl⟩
 rw [<- hcur1] at hcp1
 have hs1:cur1.size=cap*size:=by
  rw [hcur1,List.size_toArray]
  simp only [List.length_append,List.length_take,List.length_drop,Array.length_toList,e1]
  omega
 have hg1:(w.drew.setRow g cur1).heap[g]? = some (.cells cur1 (ρ.t 9) (0,0)):=setRow_heap w.drew g cur cur1 (ρ.t 9) _ hg
 have hgv1:(w.drew.setRow g cur1).heap[vb]? = some (.cells vcur (ρ.t 9) (0,0)):=by rw [setRow_other w.drew g vb cur1 hvb]; exact hgv
 have lv:(vcur.toList.take (m*size)).length=m*size:=by rw [List.length_take,Array.length_toList]; omega
 have hcp2:∀ (W:World),W.heap=(w.drew.setRow g cur1).heap->∀ ty dc,(Builtin.copy_ #[(ρ.t 24),(ρ.t 24)] ty #[.slice (some ⟨g,i*size,none⟩) (n+m-i) dc,.slice (some ⟨vb,0,none⟩) m vc]).run P W=.ok (goInt m) (W.setRow g (cur1.toList.take (i*size)++vcur.toList.take (m*size)++cur1.toList.drop (i*size+(vcur.toList.take (m*size)).length)).toArray):=fun W hW ty dc =>
  Rc W _ _ ty (ρ.t 9) g (i*size) (n+m-i) dc ⟨vb,0,none⟩ m vc cur1 (ρ.t 9) _ m i0 L.t24 hi (by rw [hW]; exact hg1) (by simp only [Nat.min_def]; split<;>omega) (by rw [lv,hz1])
   (fun j v hj=>by
    rw [Addr.add_none,PY (by rw [hW]; exact hgv1),<- hj,List.getElem?_take,Nat.zero_add]
    have:j<m*size:=by
     have:=(List.getElem?_eq_some_iff.1 hj).1
     omega
    rw [if_pos this,Array.getElem?_toList])
   (by rw [lv]; omega) h1v
 clear e1 e2 e3
 obtain ⟨_,_,FG⟩:=L.f22
 go_enter FG,Body2.n22_ntmps ρ
 go_wp2_with (simp only [hov])
 go_region_law_o (refine step_copy_runI rfl _ _ (ρ.t 24) (ρ.t 24) rfl _ _ (by simp [Act.eval,Act.put]) (by simp [Act.eval,Act.put]) (hcp1 _ _ _) ?_)
 go_wp2_with (at_builtin; refine wpList_copy_runI _ rfl _ _ (ρ.t 24) (ρ.t 24) rfl _ _ rfl rfl (hcp2 _ rfl _ _) ?_)
 go_ret
 have e1:(i+m)*size=i*size+m*size:=Nat.add_mul i m size
 have e2:(n+m)*size=n*size+m*size:=Nat.add_mul n m size
 have e3:(n-i)*size=n*size-i*size:=Nat.sub_mul n i size
 have e6:cur.toList.length=cap*size:=by rw [Array.length_toList,hcs]
 have e7:vcur.toList.length=vcur.size:=Array.length_toList
 refine ⟨rfl,_,setRow_heap _ g _ _ _ _ (setRow_heap w.drew g cur _ (ρ.t 9) _ hg),?_,?_,⟨rfl,rfl,rfl,by rw [Iq,Iq]; exact Nat.le_refl _,fun k hk hne=>?_⟩⟩
 ·simp only [List.size_toArray,List.length_append,List.length_take,List.length_drop,e1,e3,e6,e7]
  omega
 ·have:=vJ cur.toList (vcur.toList.take (m*size)) (i*size) (m*size) (n*size) e4 lv (by omega)
  simp only [e1,e2,e3]
  simpa only [List.append_assoc] using this
 ·have hk':k≠g:=fun e=>hne (by rw [e])
  rw [setRow_other _ g k _ hk',setRow_other _ g k _ hk']
  rfl
set_option maxHeartbeats 8000000 in
set_option maxRecDepth 100000 in
theorem rJ (L:uE P ρ) (i0:TypeInfo) (z:Value) (size bytes:Nat) (hi:P.info? (ρ.t 9)=some i0) (hz0:i0.zero=some z) (hz1:i0.size=size) (hz2:i0.bytes=bytes) (hzs:z.cells.size=size) (hsz:0<size)
  (z9:∀ w,(Go.sizeOf (ρ.t 9)).run P w=.ok size w) (g n cap i:Nat) (cur:Array Value) (w:World) (hg:w.heap[g]? = some (.cells cur (ρ.t 9) (0,0))) (hcs:cur.size=cap*size) (hin:i<n) (vb m vc:Nat) (vcur:Array Value) (hgv:w.heap[vb]? = some (.cells vcur (ρ.t 9) (0,0))) (hvb:vb≠g)
  (hm:0<m) (hnc:n<=cap) (hroom:cap<n+m) (hcm:n+m<=68719476736) (hby:bytes<=2048) (hvl:m*size<=vcur.size) (h1:∀ u∈cur.toList.take (n*size),u.oneCell'=true) (h1v:∀ u∈vcur.toList.take (m*size),u.oneCell'=true) :
  Calls P (ρ.f 22) #[.slice (some ⟨g,0,none⟩) n cap,.int .i64 i,.slice (some ⟨vb,0,none⟩) m vc] w fun e w'=>∃ cap',e=.returned (.slice (some ⟨w.heap.size,0,none⟩) (n+m) cap')/\n+m<=cap'/\cap'<=maxLen /\
   ∃ cur',w'.heap[w.heap.size]? = some (.cells cur' (ρ.t 9) (0,0))/\cur'.size=cap'*size/\cur'.toList.take ((n+m)*size)=cur.toList.take (i*size)++vcur.toList.take (m*size)++(cur.toList.take (n*size)).drop (i*size)/\w.grownBy w' none:=by
 have mixed:=L.mixed; have t3:=L.t3; have a3:=L.a3; have z3:=L.z3; have v3:=L.v3; have t4:=L.t4; have a4:=L.a4; have z4:=L.z4; have v4:=L.v4; have t24:=L.t24; have a24:=L.a24; have z24:=L.z24; have v24:=L.v24
 have u3:=run_underlying L.t3; have u4:=run_underlying L.t4; have u24:=run_underlying L.t24
 have hcm':n+m<=9223372036854775807:=by omega
 have hz1':¬ ((m:Int)=0):=by omega
 have hz2':¬ ((i:Int)=(n:Int)):=by omega
 have hw1:IntKind.i64.wrap ((i:Int)+(m:Int))=(i:Int)+(m:Int):=by rw [IntKind.wrap_i64]; omega
 have hw2:IntKind.i64.wrap ((n:Int)+(m:Int))=(n:Int)+(m:Int):=by rw [IntKind.wrap_i64]; omega
 have hw3:IntKind.i64.wrap ((n:Int)+(m:Int)-(i:Int))=(n:Int)+(m:Int)-(i:Int):=by rw [IntKind.wrap_i64]; omega
 have hb1:(0:Int)<=(i:Int)+(m:Int):=by omega
 have hin':i<=n:=by omega
 have htn:((i:Int)+(m:Int)).toNat=i+m:=by omega
 have htn2:((n:Int)+(m:Int)).toNat=n+m:=by omega
 have hb4:¬ (cap=i):=by omega
 have hb5:(n:Int)+(m:Int)>(cap:Int):=by omega
 have hb6:¬ (cap=0):=by omega
 have e1:(i+m)*size=i*size+m*size:=Nat.add_mul i m size
 have e2:(n+m)*size=n*size+m*size:=Nat.add_mul n m size
 have e3:(n-i)*size=n*size-i*size:=Nat.sub_mul n i size
 have e4:i*size<=n*size:=Nat.mul_le_mul_right size hin'
 have e5:n*size<=cur.size:=by rw [hcs]; exact Nat.mul_le_mul_right size hnc
 have lo:(cur.toList.take (i*size)).length=i*size:=by rw [List.length_take,Array.length_toList]; omega
 have lv:(vcur.toList.take (m*size)).length=m*size:=by rw [List.length_take,Array.length_toList]; omega
 have lm:((cur.toList.take (n*size)).drop (i*size)).length=(n-i)*size:=by rw [List.length_drop,List.length_take,Array.length_toList,e3]; omega
 have hgl:g<w.heap.size:=(Array.getElem?_eq_some_iff.1 hg).1
 have hvl2:vb<w.heap.size:=(Array.getElem?_eq_some_iff.1 hgv).1
 have hbb:(n+m)*bytes<=140737488355328:=Nat.le_trans (Nat.mul_le_mul hcm hby) (by omega)
 obtain ⟨C,new,hap,hC1,hC2,hns,hnt⟩:∃ (C:Nat) (new:Array Value),(∀ ty,(Builtin.append_ #[(ρ.t 24),(ρ.t 3)] ty #[.slice (some ⟨g,0,none⟩) i cap,.int .i64 ((n:Int)+(m:Int)-(i:Int))]).run P w=.ok (.slice (some ⟨w.heap.size,0,none⟩) (n+m) C) (w.drew.alloc (.cells new (ρ.t 9)))) /\
   n+m<=C/\C<=maxLen/\new.size=C*size/\new.toList.take (i*size)=cur.toList.take (i*size):=by
  have hsum:i+(n+m-i)=n+m:=by omega
  have hge:=grownCap_ge w (n+m) cap (ρ.t 9)
  refine ⟨grownCap w (n+m) cap (ρ.t 9),(cur.toList.take (i*size)).toArray++Builtin.zeroCells z.cells (n+m-i)++Builtin.zeroCells z.cells (grownCap w (n+m) cap (ρ.t 9)-(n+m)),fun ty=>?_,hge,grownCap_le_maxLen _ _ _ _ (by unfold maxLen; omega),?_,?_⟩
  ·have:=fc (P:=P) w (ρ.t 24) (ρ.t 3) ty (ρ.t 9) i0 z .i64 L.t24 L.t3 hi hz0 ⟨g,0,none⟩ i cap (cur.toList.take (i*size)) (by rw [lo,hz1]) (fun j v hj=>by
     rw [Addr.add_none,PY hg,<- hj,List.getElem?_take,Nat.zero_add]
     have:j<i*size:=by
      have:=(List.getElem?_eq_some_iff.1 hj).1
      omega
     rw [if_pos this,Array.getElem?_toList]) (n+m-i) (by omega) (by omega) (by omega) (by omega) (by rw [hz2]; exact Nat.le_trans (Nat.mul_le_mul_right bytes (Nat.sub_le _ _)) (by omega)) (by rw [hsum,hz2]; exact growslice_fits hroom hbb) .i64
   rw [hsum,show ((n+m-i:Nat):Int)=(n:Int)+(m:Int)-(i:Int) by omega] at this
   exact this
  ·simp only [Array.size_append,List.size_toArray,size_zeroCells,hzs,lo,<- Nat.add_mul]
   congr 1
   omega
  ·simp only [Array.toList_append,List.append_assoc]
   exact (congrArg (fun k=>List.take k _) lo.symm).trans (by rw [List.take_left])
 have hW1:(w.drew.alloc (.cells new (ρ.t 9))).heap[w.heap.size]? = some (.cells new (ρ.t 9) (0,0)):=heap_alloc_new w.drew _
 have hW1o:∀ k,k<w.heap.size->(w.drew.alloc (.cells new (ρ.t 9))).heap[k]? = w.heap[k]? := fun k hk=>heap_alloc_old w.drew _ hk
 have e8:i*size+m*size<=new.size:=by rw [hns,<- e1]; exact Nat.mul_le_mul_right size (by omega)
 have e9:n*size+m*size<=new.size:=by rw [hns,<- e2]; exact Nat.mul_le_mul_right size (by omega)
 have hcp1:∀ (W:World),W.heap=(w.drew.alloc (.cells new (ρ.t 9))).heap->∀ ty dc,(Builtin.copy_ #[(ρ.t 24),(ρ.t 24)] ty #[.slice (some ⟨w.heap.size,i*size,none⟩) (n+m-i) dc,.slice (some ⟨vb,0,none⟩) m vc]).run P W=.ok (goInt m) (W.setRow w.heap.size (new.toList.take (i*size)++vcur.toList.take (m*size)++new.toList.drop (i*size+(vcur.toList.take (m*size)).length)).toArray):=fun W hW ty dc =>
  Rc W _ _ ty (ρ.t 9) w.heap.size (i*size) (n+m-i) dc ⟨vb,0,none⟩ m vc new (ρ.t 9) _ m i0 L.t24 hi (by rw [hW]; exact hW1) (by simp only [Nat.min_def]; split<;>omega) (by rw [lv,hz1])
   (fun j v hj=>by
    rw [Addr.add_none,PY (by rw [hW,hW1o vb hvl2]; exact hgv),<- hj,List.getElem?_take,Nat.zero_add]
    have:j<m*size:=by
     have:=(List.getElem?_eq_some_iff.1 hj).1
     omega
    rw [if_pos this,Array.getElem?_toList])
   (by rw [lv]; omega) h1v
 obtain ⟨cur1,hcur1⟩:∃ c1,c1=(new.toList.take (i*size)++vcur.toList.take (m*size)++new.toList.drop (i*size+(vcur.toList.take (m*size)).length)).toArray:=⟨_,rfl⟩
 rw [<- hcur1] at hcp1
 have hln:new.toList.length=new.size:=Array.length_toList
 have hs1:cur1.size=C*size:=by
  rw [hcur1,List.size_toArray,<- hns]
  simp only [List.length_append,List.length_take,List.length_drop,hln,lv]
  omega
 have hcp2:∀ (W:World),W.heap=((w.drew.alloc (.cells new (ρ.t 9))).setRow w.heap.size cur1).heap->∀ ty dc sc,(Builtin.copy_ #[(ρ.t 24),(ρ.t 24)] ty #[.slice (some ⟨w.heap.size,(i+m)*size,none⟩) (n+m-(i+m)) dc,.slice (some ⟨g,i*size,none⟩) (n-i) sc]).run P W=.ok (goInt ((n-i:Nat):Int)) (W.setRow w.heap.size (cur1.toList.take ((i+m)*size)++(cur.toList.take (n*size)).drop (i*size)++cur1.toList.drop ((i+m)*size+((cur.toList.take (n*size)).drop (i*size)).length)).toArray):=fun W hW ty dc sc =>
  Rc W _ _ ty (ρ.t 9) w.heap.size ((i+m)*size) (n+m-(i+m)) dc ⟨g,i*size,none⟩ (n-i) sc cur1 (ρ.t 9) _ (n-i) i0 L.t24 hi (by rw [hW]; exact setRow_heap _ _ new cur1 _ _ hW1) (by simp only [Nat.min_def]; split<;>omega) (by rw [lm,hz1])
   (fun j v hj=>by
    rw [Addr.add_none,PY (by rw [hW,setRow_other _ _ g _ (by omega),hW1o g hgl]; exact hg),<- hj,List.getElem?_drop,List.getElem?_take]
    have:i*size+j<n*size:=by
     have:=(List.getElem?_eq_some_iff.1 hj).1
     omega
    rw [if_pos this,Array.getElem?_toList])
   (by rw [lm,hs1,<- hns,e1,e3]; omega) (fun v hv=>h1 v (List.mem_of_mem_drop hv))
 have fin:(cur1.toList.take ((i+m)*size)++(cur.toList.take (n*size)).drop (i*size)++cur1.toList.drop ((i+m)*size+((cur.toList.take (n*size)).drop (i*size)).length)).take ((n+m)*size)=cur.toList.take (i*size)++vcur.toList.take (m*size)++(cur.toList.take (n*size)).drop (i*size):=by
  have l1:(new.toList.take (i*size)).length=i*size:=by rw [List.length_take,hln]; omega
  have t1:cur1.toList.take ((i+m)*size)=cur.toList.take (i*size)++vcur.toList.take (m*size):=by
   rw [hcur1,<- hnt,e1]
   have l2:(new.toList.take (i*size)++vcur.toList.take (m*size)).length=i*size+m*size:=by rw [List.length_append,l1,lv]
   exact (congrArg (fun k=>List.take k _) l2.symm).trans (by rw [List.take_left])
  rw [t1]
  have l3:(cur.toList.take (i*size)++vcur.toList.take (m*size)++(cur.toList.take (n*size)).drop (i*size)).length=(n+m)*size:=by
   simp only [List.length_append,lo,lv,lm,e2,e3]
   omega
  exact (congrArg (fun k=>List.take k _) l3.symm).trans (by rw [List.take_left])
 obtain ⟨cur2,hcur2⟩:∃ c2,c2=(cur1.toList.take ((i+m)*size)++(cur.toList.take (n*size)).drop (i*size)++cur1.toList.drop ((i+m)*size+((cur.toList.take (n*size)).drop (i*size)).length)).toArray:=⟨_,rfl⟩
 rw [<- hcur2] at hcp2
 have hs2:cur2.size=C*size:=by
  rw [hcur2,List.size_toArray,<- hs1]
  simp only [List.length_append,List.length_take,List.length_drop,Array.length_toList,lm,e1,e3]
  omega
 have fin2:cur2.toList.take ((n+m)*size)=cur.toList.take (i*size)++vcur.toList.take (m*size)++(cur.toList.take (n*size)).drop (i*size):=by rw [hcur2]; exact fin
 clear e1 e2 e3 hcur1 hcur2 fin
 obtain ⟨W1,hW1d⟩:∃ W1,W1=w.drew.alloc (.cells new (ρ.t 9)):=⟨_,rfl⟩
 have hWs:W1.heap.size=w.heap.size+1:=by rw [hW1d]; exact Array.size_push _
 have hWos:W1.os=w.os/\W1.tape=w.tape/\W1.output=w.output:=by rw [hW1d]; exact ⟨rfl,rfl,rfl⟩
 rw [<- hW1d] at hW1 hW1o hcp1 hcp2 hap
 clear hW1d
 have hcp3:=hcp2 (W1.setRow w.heap.size cur1).drew rfl
 clear hcp2
 have hb7:¬ (C=i+m):=by omega
 have hb8:¬ (C=i):=by omega
 obtain ⟨_,_,FG⟩:=L.f22
 go_enter FG,Body2.n22_ntmps ρ
 go_wp2_with (at_builtin; refine Lib.wpList_append_run _ rfl _ _ (ρ.t 24) (ρ.t 3) rfl _ _ rfl rfl _ _ (hap _) ?_)
 go_region_law_o (refine step_copy_runI rfl _ _ (ρ.t 24) (ρ.t 24) rfl _ _ (by simp [Act.eval,Act.put]) (by simp [Act.eval,Act.put]) (hcp3 _ _ _) ?_)
 go_wp2
 go_ret
 refine ⟨C,rfl,hC1,hC2,cur2,setRow_heap _ _ cur1 cur2 _ _ (setRow_heap _ _ new cur1 _ _ hW1),hs2,fin2,⟨hWos.1,hWos.2.1,hWos.2.2,?_,fun k hk _=>?_⟩⟩
 ·rw [Iq]
  show w.heap.size<=(W1.setRow w.heap.size cur1).heap.size
  rw [Iq,hWs]
  omega
 ·rw [setRow_other _ _ k _ (by omega)]
  show (W1.setRow w.heap.size cur1).heap[k]? = _
  rw [setRow_other _ _ k _ (by omega),hW1o k hk]
theorem iP {H:HP} {K:Kd} {xs:List K.T} {f:List Value} (h:Dw H K xs f) (i:Nat):Dw H K (xs.take i) (f.take (i*K.sz)):=by
 intro j x hx
 rw [List.getElem?_take] at hx
 split at hx
 ·rename_i hj
  have:=h j x hx
  have hle:(j+1)*K.sz<=i*K.sz:=Nat.mul_le_mul_right _ hj
  rw [Nat.succ_mul] at hle
  rw [List.drop_take,List.take_take,Nat.min_eq_left (by omega)]
  exact this
 ·cases hx
theorem iQ {H:HP} {K:Kd} {xs:List K.T} {f:List Value} (h:Dw H K xs f) (i:Nat):Dw H K (xs.drop i) (f.drop (i*K.sz)):=by
 intro j x hx
 rw [List.getElem?_drop] at hx
 have:=h _ x hx
 rw [List.drop_drop,<- Nat.add_mul]
 exact this
theorem p8 {H:HP} {φ:B5} {w w':World} {t:TypeId} {K:Kd} {xs vs ys:List K.T} {n:Int} {v':Value} {flat:List Value}
  (hs:SR H φ (BS [] [.new t K xs,.int .i64 n,.new t K vs]) w) (hg:w.grownBy w' (E3 (φ 0))) (hb:∀ b,E3 v'=some b->E3 (φ 0)=some b\/w.heap.size<=b)
  (ho:w'.ownsRow 0 t K.sz v' ys.length flat) (hr:Dw H K ys flat):NJ H φ w [.new t K xs,.int .i64 n,.new t K vs] [] [] [.new t K ys] v' w':=by
 have hout:∀ b,E3 (φ 0)=some b->H b=none:=fun b h=>hs.out 0 (.rows t K xs) rfl rfl b h
 have hlt:∀ b o,H b=some o->b<w.heap.size:=fun b o h=>(Array.getElem?_eq_some_iff.1 (hs.hp b o h)).1
 refine ⟨H,fun _=>v',HP.le_refl H,⟨fun b o h=>?_,fun id bx hid=>?_,fun i j bi bj hi hj _ _ hne=>?_,fun i bi hi _ b hv=>?_,fun id cs hid=>?_⟩,⟨hg.os,hg.tape,hg.output,hg.size,fun b hlt hne=>hg.block b hlt (fun e=>hne 0 (by show 0<2; omega) e.symm),fun j hj=>by simp at hj,fun i bi hi _ b hv=>?_,fun j hj=>by simp at hj,fun _ _ _=>rfl⟩,⟨rfl,rfl⟩⟩
 ·rw [hg.block b (hlt b o h) (fun e=>by rw [hout b e.symm] at h; cases h)]
  exact hs.hp b o h
 ·cases id with
  | zero=>cases hid; exact ⟨flat,ho,hr⟩
  | succ k=>cases hid
 ·cases i with
  | succ k=>cases hi
  | zero =>
   cases j with
   | succ k=>cases hj
   | zero=>exact absurd rfl hne
 ·cases hh:H b with
  | none=>rfl
  | some o =>
   rcases hb b hv with h | h
   ·rw [hout b h] at hh; cases hh
   ·have:=hlt b o hh; omega
 ·cases id with
  | zero=>cases hid
  | succ k=>cases hid
 ·rcases hb b hv with h | h
  ·exact .inr ⟨0,(by show 0<2; omega),h⟩
  ·exact .inl h
theorem uF {K:Kd} (L:uE P ρ) (he:qa P (ρ.t 9) K=true) {xs vs:List K.T} {i:Nat} (hx:xs.length+vs.length<=68719476736) (hv:vs≠[]) (hi:i<=xs.length) :
  Ue P (ρ.f 22) [.new (ρ.t 9) K xs,.int .i64 i,.new (ρ.t 9) K vs] [] [.new (ρ.t 9) K (xs.take i++vs++xs.drop i)]:=by
 obtain ⟨i0,z,hi0,hz,h1,h2,h3,h4⟩:=Sl he
 have hm:0<vs.length:=List.length_pos_iff.2 hv
 have hsz:=Kd.sz_pos K
 refine ⟨?_,?_,1,rfl,fun H φ w cargs hs ha=>?_⟩
 ·obtain ⟨nm,hnm,hf⟩:=L.f22
  exact ⟨_,_,hf,hnm,rfl⟩
 ·intro r hr
  simp only [List.mem_singleton] at hr
  subst hr
  rfl
 ·obtain ⟨v0,r0,rfl,hv0,ha⟩:=ha
  obtain ⟨v1,r1,rfl,hv1,ha⟩:=ha
  obtain ⟨v2,r2,rfl,hv2,ha⟩:=ha
  have hr2:r2=[]:=ha
  subst hr2
  have e0:v0=φ 0:=hv0.1
  have e1:v1=.int .i64 i:=hv1
  have e2:v2=φ 1:=hv2.1
  subst e0 e1 e2
  obtain ⟨flat,ho,hr⟩:=hs.box 0 (.rows (ρ.t 9) K xs) rfl
  obtain ⟨flatv,hov,hrv⟩:=hs.box 1 (.rows (ρ.t 9) K vs) rfl
  have hnew:(xs.take i++vs++xs.drop i).length=xs.length+vs.length:=by simp only [List.length_append,List.length_take,List.length_drop]; omega
  have hnil:vs.length≠0:=by omega
  obtain ⟨gv,capv,curv,ev,_,hgv,hcv,hcmv,hsv,htv⟩:=hov.2.resolve_left (fun h=>hnil h.2)
  have hlv:vs.length*K.sz<=curv.size:=by rw [hsv]; exact Nat.mul_le_mul_right _ hcv
  have hn:xs.length+vs.length<=maxLen:=by unfold maxLen; omega
  have hbb:(xs.length+vs.length)*i0.bytes<=140737488355328:=Nat.le_trans (Nat.mul_le_mul hx h2) (by omega)
  have hcv2:∀ j u,flatv[j]? = some u->w.cell? ((⟨gv,0,none⟩:Addr).add j)=some u:=fun j u hj=>by
   rw [Addr.add_none,PY hgv,Nat.zero_add]
   rw [<- htv,List.getElem?_take] at hj
   split at hj
   ·rwa [Array.getElem?_toList] at hj
   ·cases hj
  have one:(w.ownsRow 0 (ρ.t 9) K.sz (φ 1) vs.length flatv):=hov
  rw [ev]
  by_cases hin:i=xs.length
  ·subst hin
   obtain ⟨base,n,cap,e0,hnn⟩:∃ base n cap,φ 0=.slice base n cap/\n=xs.length:=by
    rcases ho.2 with ⟨e,h⟩ | ⟨g,cap,cur,e,_⟩
    ·exact ⟨none,0,0,e,h.symm⟩
    ·exact ⟨_,_,_,e,rfl⟩
   subst hnn
   refine Calls.mono (sN L i0 z K.sz i0.bytes hi0 hz h1 rfl h3 hsz (fun w=>by simp [sizeOf,typeInfo,hi0,h1]) (φ 0) base _ cap e0 flat w ho ⟨gv,0,none⟩ vs.length capv flatv hm hov.1 hn hbb hcv2 (DD hrv hov.1)) fun out w' h=>?_
   obtain ⟨v',rfl,ho',hg,hbk⟩:=h
   have hbv:∀ {v:Value} {n:Nat} {fl:List Value} {ww:World},ww.ownsRow 0 (ρ.t 9) K.sz v n fl->E3 v=v.ownBlock:=fun h=>by
    rcases h.2 with ⟨e,_⟩ | ⟨g,c,cu,e,_⟩<;>rw [e]<;>rfl
   have hbl:E3 (φ 0)=(φ 0).ownBlock:=by rw [e0]; cases base<;>rfl
   refine p8 (flat:=flat++flatv) hs (by rw [hbl]; exact hg) (fun b hb=>?_) (by rw [hnew]; exact ho') ?_
   ·rw [hbv ho'] at hb
    rcases hbk with h | h
    ·exact .inl (by rw [hbl,<- h]; exact hb)
    ·rw [h] at hb
     cases hb
     exact .inr (Nat.le_refl _)
   ·rw [List.take_length,List.drop_length,List.append_nil]
    exact HV hr ho.1 hrv
  ·have hlt:i<xs.length:=by omega
   obtain ⟨g,cap,cur,e0,_,hg,hc,hcm,hsc,ht⟩:=ho.2.resolve_left (fun h=>by omega)
   have hne:gv≠g:=fun e=>hs.sep 0 1 _ _ rfl rfl rfl rfl (by decide) g (by rw [e0]; rfl) (by rw [ev,e]; rfl)
   rw [e0]
   have z9:∀ w,(Go.sizeOf (ρ.t 9)).run P w=.ok K.sz w:=fun w=>by simp [sizeOf,typeInfo,hi0,h1]
   have hcap0:cur.size≠0:=by
    have:=Nat.mul_le_mul_right K.sz hc
    have h5:0<xs.length*K.sz:=Nat.mul_pos (by omega) hsz
    omega
   have htk:cur.toList.take (i*K.sz)=flat.take (i*K.sz):=by
    rw [<- ht,List.take_take,Nat.min_eq_left (Nat.mul_le_mul_right _ hi)]
   have hrow:∀ (cur':Array Value),cur'.toList.take ((xs.length+vs.length)*K.sz)=cur.toList.take (i*K.sz)++curv.toList.take (vs.length*K.sz)++(cur.toList.take (xs.length*K.sz)).drop (i*K.sz)->cur'.toList.take ((xs.length+vs.length)*K.sz)=flat.take (i*K.sz)++flatv++flat.drop (i*K.sz):=fun cur' h=>by rw [h,htk,htv,ht]
   have hlf:(flat.take (i*K.sz)++flatv++flat.drop (i*K.sz)).length=(xs.length+vs.length)*K.sz:=by
    have h5:=ho.1
    have h6:=hov.1
    have h7:i*K.sz<=xs.length*K.sz:=Nat.mul_le_mul_right _ hi
    simp only [List.length_append,List.length_take,List.length_drop,h5,h6,Nat.add_mul]
    omega
   have hrr:Dw H K (xs.take i++vs++xs.drop i) (flat.take (i*K.sz)++flatv++flat.drop (i*K.sz)):=by
    have h5:=ho.1
    have h7:i*K.sz<=xs.length*K.sz:=Nat.mul_le_mul_right _ hi
    have l1:(flat.take (i*K.sz)).length=(xs.take i).length*K.sz:=by rw [List.length_take,List.length_take,Nat.min_eq_left hi,h5]; omega
    refine HV (HV (iP hr i) l1 hrv) ?_ (iQ hr i)
    rw [List.length_append,List.length_append,l1,hov.1,Nat.add_mul]
   by_cases hroom:xs.length+vs.length<=cap
   ·refine Calls.mono (pz L i0 z K.sz i0.bytes hi0 hz h1 rfl h3 hsz z9 g xs.length cap i cur w hg hsc hlt gv vs.length capv curv hgv hne hm hroom hcm hlv (by rw [ht]; exact DD hr ho.1) (by rw [htv]; exact DD hrv hov.1) hcap0) fun out w' h=>?_
    obtain ⟨rfl,cur',g1,g2,g3,g4⟩:=h
    refine p8 hs (by rw [e0]; exact g4) (fun b hb=>.inl (by rw [e0]; exact hb)) (flat:=flat.take (i*K.sz)++flatv++flat.drop (i*K.sz)) ?_ hrr
    rw [hnew]
    exact ⟨hlf,.inr ⟨g,cap,cur',rfl,Nat.zero_le _,g1,hroom,hcm,g2,hrow cur' g3⟩⟩
   ·refine Calls.mono (rJ L i0 z K.sz i0.bytes hi0 hz h1 rfl h3 hsz z9 g xs.length cap i cur w hg hsc hlt gv vs.length capv curv hgv hne hm hc (by omega) hx h2 hlv (by rw [ht]; exact DD hr ho.1) (by rw [htv]; exact DD hrv hov.1)) fun out w' h=>?_
    obtain ⟨cap',rfl,g5,g6,cur',g1,g2,g3,g4⟩:=h
    refine p8 hs ⟨g4.os,g4.tape,g4.output,g4.size,fun k hk _=>g4.block k hk (by simp)⟩ (fun b hb=>.inr (by cases hb; exact Nat.le_refl _)) (flat:=flat.take (i*K.sz)++flatv++flat.drop (i*K.sz)) ?_ hrr
    rw [hnew]
    exact ⟨hlf,.inr ⟨w.heap.size,cap',cur',rfl,Nat.zero_le _,g1,g5,g6,g2,hrow cur' g3⟩⟩
def l7 (t:TypeId) (K:Kd) (args bs:List AV):Option (List AV) :=
 match args,bs with
 | [.lst K' xs],[]=>if h:K'=K then (if xs.length<=68719476736 then some [.new t K (h▸xs)] else none) else none
 | _,_=>none
theorem l8 {t:TypeId} {K:Kd} {xs:List K.T} (h:xs.length<=68719476736):l7 t K [.lst K xs] []=some [.new t K xs]:=by simp [l7,h]
theorem l9 {K:Kd} (L:SlLaysE0.n41 P ρ) (he:qa P (ρ.t 23) K=true) {args bs rs:List AV} (h:l7 (ρ.t 23) K args bs=some rs):Ue P (ρ.f 41) args bs rs:=by
 unfold l7 at h
 split at h
 ·split at h
  ·rename_i hk
   subst hk
   split at h
   ·cases h
    exact vI L he (by assumption)
   ·cases h
  ·cases h
 ·cases h
def vK (t:TypeId) (K:Kd) (args bs:List AV):Option (List AV) :=
 match args,bs with
 | [.new t1 K1 xs,.int k i,.new t2 K2 vs],[]=>if h1:K1=K then (if h2:K2=K then (if t1=t/\t2=t/\k=.i64/\0<=i/\i<=xs.length/\vs.length≠0/\xs.length+vs.length<=68719476736 then
   some [.new t K ((h1▸xs).take i.toNat++(h2▸vs)++(h1▸xs).drop i.toNat)] else none) else none) else none
 | _,_=>none
theorem w6 {t:TypeId} {K:Kd} {xs vs:List K.T} {i:Nat} (h:xs.length+vs.length<=68719476736) (hi:i<=xs.length) (hv:vs.length≠0):vK t K [.new t K xs,.int .i64 i,.new t K vs] []=some [.new t K (xs.take i++vs++xs.drop i)]:=by
 have hi':(i:Int)<=(xs.length:Int):=by omega
 have h0:(0:Int)<=(i:Int):=by omega
 simp only [vK,dif_pos,true_and]
 rw [if_pos ⟨h0,hi',hv,h⟩,Int.toNat_natCast]
theorem w7 {K:Kd} (L:uE P ρ) (he:qa P (ρ.t 9) K=true) {args bs rs:List AV} (h:vK (ρ.t 9) K args bs=some rs):Ue P (ρ.f 22) args bs rs:=by
 unfold vK at h
 split at h
 ·split at h
  ·rename_i hk
   subst hk
   split at h
   ·rename_i hk2
    subst hk2
    split at h
    ·rename_i hc
     obtain ⟨rfl,rfl,rfl,h0,hi,hv,hx⟩:=hc
     cases h
     rename_i n _
     obtain ⟨m,rfl⟩:=Int.eq_ofNat_of_zero_le h0
     exact uF L he hx (fun e=>hv (by rw [e]; rfl)) (by omega)
    ·cases h
   ·cases h
  ·cases h
 ·cases h
def yA (args bs:List AV):Option (List AV) :=
 match args,bs with
 | [.str a,.str b],[]=>some [.int .i64 (Lib.compareBytes a.data.toList b.data.toList)]
 | _,_=>none
theorem w8 (L:Lays.n106 P ρ) {args bs rs:List AV} (h:yA args bs=some rs):Ue P (ρ.f 106) args bs rs:=by
 unfold yA at h
 split at h
 ·cases h
  rename_i a b
  refine ⟨⟨_,_,L.f106,by rfl,rfl⟩,?_,1,rfl,fun H φ w cargs hs ha=>?_⟩
  ·intro r hr
   simp only [List.mem_singleton] at hr
   subst hr
   rfl
  ·obtain ⟨v0,r0,rfl,hv0,ha⟩:=ha
   obtain ⟨v1,r1,rfl,hv1,ha⟩:=ha
   have hr1:r1=[]:=ha
   subst hr1
   have e0:v0=.string a:=hv0
   have e1:v1=.string b:=hv1
   subst e0 e1
   refine Calls.mono (Any.strings_Compare L a b w) fun out w' h=>?_
   obtain ⟨rfl,rfl⟩:=h
   exact rH (rs:=[.int .i64 (Lib.compareBytes a.data.toList b.data.toList)]) (Ak.refl hs) rfl
 ·cases h
theorem kI {H:HP} {φ:B5} {w w':World} {t:TypeId} {K:Kd} {xs ys:List K.T} {ags:List AV} {v':Value} {flat:List Value} (hst:BS [] (.new t K xs::ags)=[.rows t K xs])
  (hs:SR H φ (BS [] (.new t K xs::ags)) w) (hg:w.grownBy w' (E3 (φ 0))) (hb:∀ b,E3 v'=some b->E3 (φ 0)=some b\/w.heap.size<=b)
  (ho:w'.ownsRow 0 t K.sz v' ys.length flat) (hr:Dw H K ys flat):NJ H φ w (.new t K xs::ags) [] [] [.new t K ys] v' w':=by
 have hbx:(BS [] (.new t K xs::ags))[0]? = some (.rows t K xs):=by rw [hst]; rfl
 have hout:∀ b,E3 (φ 0)=some b->H b=none:=fun b h=>hs.out 0 (.rows t K xs) hbx rfl b h
 have hlt:∀ b o,H b=some o->b<w.heap.size:=fun b o h=>(Array.getElem?_eq_some_iff.1 (hs.hp b o h)).1
 refine ⟨H,fun _=>v',HP.le_refl H,⟨fun b o h=>?_,fun id bx hid=>?_,fun i j bi bj hi hj _ _ hne=>?_,fun i bi hi _ b hv=>?_,fun id cs hid=>?_⟩,⟨hg.os,hg.tape,hg.output,hg.size,fun b hlt hne=>hg.block b hlt (fun e=>hne 0 (by rw [hst]; show 0<1; omega) e.symm),fun j hj=>by simp at hj,fun i bi hi _ b hv=>?_,fun j hj=>by simp at hj,fun _ _ _=>rfl⟩,⟨rfl,rfl⟩⟩
 ·rw [hg.block b (hlt b o h) (fun e=>by rw [hout b e.symm] at h; cases h)]
  exact hs.hp b o h
 ·cases id with
  | zero=>cases hid; exact ⟨flat,ho,hr⟩
  | succ k=>cases hid
 ·cases i with
  | succ k=>cases hi
  | zero =>
   cases j with
   | succ k=>cases hj
   | zero=>exact absurd rfl hne
 ·cases hh:H b with
  | none=>rfl
  | some o =>
   rcases hb b hv with h | h
   ·rw [hout b h] at hh; cases hh
   ·have:=hlt b o hh; omega
 ·cases id with
  | zero=>cases hid
  | succ k=>cases hid
 ·rcases hb b hv with h | h
  ·exact .inr ⟨0,(by rw [hst]; show 0<1; omega),h⟩
  ·exact .inl h

structure yB (P:Program) (g:Nat):Prop where
 eg:∀ args w,(callFunc g args).run P w=.ok (.enter g args) w
 says:∀ (n x:Int) (b o:Nat) (W:World),W.cell? ⟨b,o,none⟩=some (.int .i64 n) ->
  Calls P g #[.int .i64 x,.pointer (some ⟨b,o,none⟩)] W fun e w'=>e=.returned (.bool (x==n))/\∃ q,w'=W.drewN q
set_option maxHeartbeats 2000000 in
theorem rK (L:SlLaysH.n10 P ρ) (fv:Value) (w:World) :
  Calls P (ρ.f 10) #[.slice none 0 0,fv] w fun e w'=>e=.returned (.slice none 0 0)/\w'=w:=by
 have mixed:=L.mixed; have t0:=L.t0; have a0:=L.a0; have z0:=L.z0; have v0:=L.v0; have t3:=L.t3; have a3:=L.a3; have z3:=L.z3; have v3:=L.v3; have t4:=L.t4; have a4:=L.a4; have z4:=L.z4; have v4:=L.v4; have t22:=L.t22; have a22:=L.a22; have z22:=L.z22; have v22:=L.v22; have a23:=L.a23; have z23:=L.z23; have t25:=L.t25; have a25:=L.a25; have z25:=L.z25; have v25:=L.v25
 have e6:∀ args w,(callFunc (ρ.f 6) args).run P w=.ok (.enter (ρ.f 6) args) w:=L.f6.enters rfl
 have hIF:=AnyE.slices_IndexFunc_empty (P:=P) (ρ:=ρ) { L with } none 0 fv w
 obtain ⟨_,_,FG⟩:=L.f10
 go_enter FG,SlBodyH.n10_ntmps ρ
 go_wp2_with (go_at_fn (ρ.f 6); refine hIF.mono ?_; rintro e w' ⟨rfl,rfl⟩)
 go_ret
 exact ⟨rfl,rfl⟩
theorem ci {α:Type} [Inhabited α] (enc:α->Value) (w:World) (b off:Nat) (d:Array α):(Sort.putRow enc w b off d).heap.size=w.heap.size:=by
 simp [Sort.putRow,Sort.mapBlock]
theorem cj {α:Type} [Inhabited α] (enc:α->Value) (w:World) (b off k:Nat) (d:Array α) (h:k≠b):(Sort.putRow enc w b off d).heap[k]? = w.heap[k]? := by
 simp only [Sort.putRow,Sort.mapBlock,Array.getElem?_modify]
 rw [if_neg (fun e=>h e.symm)]
theorem ff {α:Type} [Inhabited α] (enc:α->Value) (w:World) (b off:Nat) (d:Array α) {c:Array Value} {e:TypeId} {fr:Nat×Nat} (h:w.heap[b]? = some (.cells c e fr)) :
  (Sort.putRow enc w b off d).heap[b]? = some (.cells (Sort.putCells enc off d c) e fr):=by
 simp only [Sort.putRow,Sort.mapBlock,Array.getElem?_modify,if_true,h,Option.map_some,Sort.onCells]
theorem sO (L:SlLaysH.n10 P ρ) (hv:∀ w,(zeroValue (ρ.t 23)).run P w=.ok (.int .i64 0) w) {g:Nat} (E:yB P g) {xs:List Int} {n:Int} :
  Ue P (ρ.f 10) [.new (ρ.t 23) (.int .i64) xs,.clo g (.int .i64) n] [] [.new (ρ.t 23) (.int .i64) (xs.filter fun x=>!(x==n))]:=by
 refine ⟨?_,?_,1,rfl,fun H φ w cargs hs ha=>?_⟩
 ·obtain ⟨nm,hnm,hf⟩:=L.f10
  exact ⟨_,_,hf,hnm,rfl⟩
 ·intro r hr
  simp only [List.mem_singleton] at hr
  subst hr
  rfl
 ·obtain ⟨v0,r0,rfl,hv0,ha⟩:=ha
  obtain ⟨v1,r1,rfl,hv1,ha⟩:=ha
  have hr1:r1=[]:=ha
  subst hr1
  have e0:v0=φ 0:=hv0.1
  subst e0
  obtain ⟨b,o,c,el,fz,e1,hb,vs,hvs,hvc⟩:=(show qf H g (GD H (.int .i64) n) v1 from hv1)
  have hvs:vs=[.int .i64 n]:=hvs
  subst hvs e1
  have hcn:c[o]? = some (.int .i64 n):=hvc 0 _ rfl
  have hwb:=hs.hp _ _ hb
  have hbl:b<w.heap.size:=(Array.getElem?_eq_some_iff.1 hwb).1
  have hcell:w.cell? ⟨b,o,none⟩=some (.int .i64 n):=by rw [PY hwb]; exact hcn
  obtain ⟨flat,ho,hr⟩:=hs.box 0 (.rows (ρ.t 23) (.int .i64) xs) rfl
  have hstk:BS [] [AV.new (ρ.t 23) (.int .i64) xs,.clo g (.int .i64) n]=[.rows (ρ.t 23) (.int .i64) xs]:=rfl
  have hout:∀ bb,E3 (φ 0)=some bb->H bb=none:=fun bb h=>hs.out 0 (.rows (ρ.t 23) (.int .i64) xs) rfl rfl bb h
  obtain ⟨hfl,⟨e0,hx⟩ | ⟨gb,cap,cur,e0,hle,hg,hc,hcm,hsc,ht⟩⟩:=ho
  ·have:xs=[]:=List.length_eq_zero_iff.1 (by omega)
   subst this
   rw [e0]
   refine Calls.mono (rK L _ w) fun out w' h=>?_
   obtain ⟨rfl,rfl⟩:=h
   exact kI hstk hs ⟨rfl,rfl,rfl,Nat.le_refl _,fun _ _ _=>rfl⟩ (fun b hb=>by simp [E3] at hb) (flat:=[]) ⟨by simp,.inl ⟨rfl,rfl⟩⟩ (fun j x h=>by simp at h)
  ·have hne:b≠gb:=fun e=>by
    have:=hout gb (by rw [e0]; rfl)
    rw [<- e] at this
    rw [this] at hb; cases hb
   have hgl:gb<w.heap.size:=(Array.getElem?_eq_some_iff.1 hg).1
   have hflat:∀ j (h:j<xs.length),cur[j]? = some (.int .i64 xs[j]):=fun j hj=>by
    have h1:(flat.drop (j*1)).take 1=[.int .i64 xs[j]]:=hr j xs[j] (List.getElem?_eq_getElem hj)
    have h4:((flat.drop (j*1)).take 1)[0]? = some (.int .i64 xs[j]):=by rw [h1]; rfl
    have h5:flat[j]? = some (.int .i64 xs[j]):=by simpa using h4
    rw [<- ht] at h5
    have h6:j<xs.length*Kd.sz (.int .i64):=by simpa [Kd.sz] using hj
    rw [List.getElem?_take,if_pos h6,Array.getElem?_toList] at h5
    exact h5
   have hH:Sort.Holds (Value.int .i64) w gb 0 xs.toArray:=fun j hj=>by
    have hj':j<xs.length:=by simpa using hj
    have hx:xs.toArray[j]! = xs[j]:=by simp [hj']
    refine ⟨?_,?_⟩
    ·rw [PY hg,Nat.zero_add,hflat j hj',hx]
    ·simp [World.frozen?,hg]
   have hp:PredAt P g #[.pointer (some ⟨b,o,none⟩)] (Value.int .i64) (fun x=>x==n) w:=fun W x hB=>E.says n x b o W ((hB.cell (p:=⟨b,o,none⟩) hbl).trans hcell)
   have hpo:PredOver P g #[.pointer (some ⟨b,o,none⟩)] (Value.int .i64) (fun x=>x==n) gb 0 xs.toArray.size w:=fun k os dk x _=>E.says n x b o _ (by
    unfold sortWorld
    rw [Sort.cell?_grow _ _ _ (by show b<(Sort.putRow _ _ _ _ _).heap.size; rw [ci]; exact hbl),Sort.cell?_putRow_other _ _ gb 0 _ _ (Or.inl hne)]
    exact hcell)
   have hcm':cap<=9223372036854775807:=hcm
   have hcall:=AnyE.slices_DeleteFunc L (Value.int .i64) (fun _=>rfl) (fun x=>x==n) g #[.pointer (some ⟨b,o,none⟩)] E.eg 0 hv gb 0 cap xs.toArray w hp hpo hH (by simp; omega) (by simpa using hc)
   rw [e0]
   refine Calls.mono (by simpa using hcall) fun out w' h=>?_
   obtain ⟨rfl,q,rfl⟩:=h
   have hfl':(xs.filter fun x=>!(x==n)).length<=xs.length:=List.length_filter_le _ _
   generalize hys:(xs.filter fun x=>!(x==n))=ys at hfl' ⊢
   have hd:(ys++List.replicate (xs.length-ys.length) 0).length=xs.length:=by simp; omega
   generalize hdd:(ys++List.replicate (xs.length-ys.length) (0:Int))=zs at hd ⊢
   refine kI (flat:=ys.map (Value.int .i64)) hstk hs ⟨rfl,rfl,rfl,?_,fun k hk hne2=>?_⟩ (fun b hb=>.inl (by rw [e0]; exact hb)) ?_ ?_
   ·rw [ci]; exact Nat.le_refl _
   ·rw [cj _ _ _ _ _ _ (fun e=>hne2 (by rw [e0,e]; rfl))]; rfl
   ·refine ⟨by simp [Kd.sz],.inr ⟨gb,cap,_,rfl,Nat.zero_le _,ff _ _ _ _ _ (show (Sort.ahead w q).heap[gb]? = _ from hg),by omega,hcm,by simpa [Sort.putCells] using hsc,?_⟩⟩
    apply List.ext_getElem?
    intro j
    have hcs:cur.size=cap:=by simpa [Kd.sz] using hsc
    rw [List.getElem?_take]
    by_cases hj:j<ys.length
    ·have h6:j<ys.length*Kd.sz (.int .i64):=by simpa [Kd.sz] using hj
     have hj2:j<cur.size:=by omega
     rw [if_pos h6,Array.getElem?_toList,Sort.putCells,Array.getElem?_mapIdx,Array.getElem?_eq_getElem hj2]
     have h7:zs.toArray[j-0]! = ys[j]:=by
      subst hdd
      simp [List.getElem?_append_left hj,hj]
     simp only [Option.map_some,List.getElem?_map,List.getElem?_eq_getElem hj]
     rw [if_pos ⟨Nat.zero_le _,by simp; omega⟩,h7]
    ·have h6:¬ j<ys.length*Kd.sz (.int .i64):=by simpa [Kd.sz] using hj
     rw [if_neg h6,List.getElem?_map,List.getElem?_eq_none (by omega)]; rfl
   ·intro j x hx
    show ((ys.map (Value.int .i64)).drop (j*1)).take 1=[.int .i64 x]
    have hj:=(List.getElem?_eq_some_iff.1 hx).1
    have hxj:=(List.getElem?_eq_some_iff.1 hx).2
    rw [Nat.mul_one,List.drop_eq_getElem_cons (by simpa using hj)]
    simp [hxj]
def rL (t g:Nat) (args bs:List AV):Option (List AV) :=
 match args,bs with
 | [.new t1 (.int k) xs,.clo g1 (.int k1) n],[]=>if t1=t/\g1=g/\k=.i64/\k1=.i64 then
   some [.new t (.int .i64) ((show List Int from xs).filter fun x=>!(x==(show Int from n)))] else none
 | _,_=>none
theorem vL {t g:Nat} {xs:List Int} {n:Int}:rL t g [.new t (.int .i64) xs,.clo g (.int .i64) n] []=some [.new t (.int .i64) (xs.filter fun x=>!(x==n))]:=by
 simp [rL]
theorem vM (L:SlLaysH.n10 P ρ) (hv:∀ w,(zeroValue (ρ.t 23)).run P w=.ok (.int .i64 0) w) {g:Nat} (E:yB P g) {args bs rs:List AV} (h:rL (ρ.t 23) g args bs=some rs):Ue P (ρ.f 10) args bs rs:=by
 unfold rL at h
 split at h
 ·split at h
  ·rename_i hc
   obtain ⟨rfl,rfl,rfl,rfl⟩:=hc
   cases h
   exact sO L hv E
  ·cases h
 ·cases h

theorem p9 (w:World) (t e ty:TypeId) (z:Value) (ht:P.underlying t=some (.slice e)) (hz:∀ w,(zeroValue e).run P w=.ok z w) (g o n c:Nat) (cur:Array Value) (te:TypeId) (hg:w.heap[g]? = some (.cells cur te (0,0))) (hn:0<n)
  (hfit:o+n*z.cells.size<=cur.size) (h1:∀ v∈(Builtin.zeroCells z.cells n).toList,v.oneCell'=true) :
  (Builtin.clear_ #[t] ty #[.slice (some ⟨g,o,none⟩) n c]).run P w=.ok (.tuple #[]) (w.setRow g (cur.toList.take o++(Builtin.zeroCells z.cells n).toList++cur.toList.drop (o+(Builtin.zeroCells z.cells n).toList.length)).toArray):=by
 have hl:(Builtin.zeroCells z.cells n).toList.length=n*z.cells.size:=by rw [Array.length_toList,size_zeroCells]
 have hst:=run_storeCells_at P g o te (Builtin.zeroCells z.cells n).toList 0 cur w hg (by rw [hl]; simpa using hfit) h1
 cases n with
 | zero=>omega
 | succ n=>simp [Builtin.clear_,run_underlying ht,hz,hst]
theorem fg {ops:Array Oper} {o:Oper} {a:Act} {w:World} {K:Act->World->Prop} {Q:Exit->Act->World->Prop} {E:Prop}
  (hg:o.guard=none) (d x:Operand) (dT sT:TypeId) (hop:o.op=Op.call { callee:=Callee.builtin Builtin.append,args:=#[d,x],argTypes:=#[dT,sT] })
  (v u:Value) (hd:a.eval d=v) (hx:a.eval x=u) {v':Value} {w':World} (hr:(Builtin.append_ #[dT,sT] o.type #[v,u]).run P w=.ok v' w') (hK:K (a.put o.dst v') w') :
  if Region.wanted o (yielded ops a.tmps)=true then Oper.wp P o a w K Q else E:=by
 have hw:Region.wanted o (yielded ops a.tmps)=true:=by simp [Region.wanted,hg]
 rw [if_pos hw]
 unfold Oper.wp
 simp [execOp,hop,resolve,invoke,builtin,hd,hx,hr,Result.andThen]
 exact hK
theorem cm (w:World) {ops:Array Oper} {rest:List Oper} {o:Oper} {a:Act} {Q:Exit->Act->World->Prop} (hgd:o.guard=none) (s:Operand) (t:TypeId)
  (ho:o.op=.call { callee:=.builtin .clear,args:=#[s],argTypes:=#[t] }) (v:Value) (hs:a.eval s=v) {v':Value} {w':World}
  (hr:(Builtin.clear_ #[t] o.type #[v]).run P w=.ok v' w') (h:wpList P ops Q rest (a.put o.dst v') w'):wpList P ops Q (o::rest) a w :=
 wpList_plain hgd fun K hK=>by
  unfold Oper.wp execOp
  simp only [ho,resolve,invoke,builtin,Sem.run_bind,Sem.run_pure,Result.andThen_ok,List.map_toArray,List.map_cons,List.map_nil,hs,hr]
  exact hK _ _ h
set_option maxHeartbeats 8000000 in
set_option maxRecDepth 100000 in
theorem rM (L:SlLaysE0.n45 P ρ) (i0:TypeInfo) (size:Nat) (hi:P.info? (ρ.t 23)=some i0) (hz1:i0.size=size) (z23:∀ w,(Go.sizeOf (ρ.t 23)).run P w=.ok size w) (base:Option Addr) (n cap i:Nat) (w:World) (hin:i<=n) (hnc:n<=cap) (hcm:cap<=maxLen) :
  Calls P (ρ.f 45) #[.slice base n cap,.int .i64 i,.int .i64 i] w fun e w'=>e=.returned (.slice base n cap)/\w'=w:=by
 have mixed:=L.mixed; have t0:=L.t0; have a0:=L.a0; have z0:=L.z0; have v0:=L.v0; have t3:=L.t3; have a3:=L.a3; have z3:=L.z3; have v3:=L.v3; have t4:=L.t4; have a4:=L.a4; have z4:=L.z4; have v4:=L.v4; have t22:=L.t22; have a22:=L.a22; have z22:=L.z22; have v22:=L.v22
 obtain ⟨_,_,FG⟩:=L.f45
 go_enter FG,SlBodyN.n45_ntmps ρ
 go_wp2
 all_goals (go_ret; exact ⟨rfl,rfl⟩)
set_option maxHeartbeats 8000000 in
set_option maxRecDepth 100000 in
theorem rN (L:SlLaysE0.n45 P ρ) (i0:TypeInfo) (z:Value) (size bytes:Nat) (hi:P.info? (ρ.t 23)=some i0) (hz0:i0.zero=some z) (hz1:i0.size=size) (hzs:z.cells.size=size) (hzo:∀ v∈z.cells.toList,v.oneCell'=true) (hsz:0<size)
  (z23:∀ w,(Go.sizeOf (ρ.t 23)).run P w=.ok size w) (v23:∀ w,(zeroValue (ρ.t 23)).run P w=.ok z w) (g n cap i j:Nat) (cur:Array Value) (w:World) (hg:w.heap[g]? = some (.cells cur (ρ.t 23) (0,0))) (hcs:cur.size=cap*size) (hij:i<j) (hjn:j<=n) (hnc:n<=cap) (hcm:cap<=maxLen)
  (h1:∀ u∈cur.toList.take (n*size),u.oneCell'=true) :
  Calls P (ρ.f 45) #[.slice (some ⟨g,0,none⟩) n cap,.int .i64 i,.int .i64 j] w fun e w'=>e=.returned (.slice (some ⟨g,0,none⟩) (n-(j-i)) cap) /\
   ∃ cur',w'.heap[g]? = some (.cells cur' (ρ.t 23) (0,0))/\cur'.size=cap*size/\cur'.toList.take ((n-(j-i))*size)=cur.toList.take (i*size)++(cur.toList.take (n*size)).drop (j*size)/\w.grownBy w' (some g):=by
 have mixed:=L.mixed; have t0:=L.t0; have a0:=L.a0; have z0:=L.z0; have v0:=L.v0; have t3:=L.t3; have a3:=L.a3; have z3:=L.z3; have v3:=L.v3; have t4:=L.t4; have a4:=L.a4; have z4:=L.z4; have v4:=L.v4; have t22:=L.t22; have a22:=L.a22; have z22:=L.z22; have v22:=L.v22
 have hcm':cap<=9223372036854775807:=hcm
 have hij1:¬ ((i:Int)=(j:Int)):=by omega
 have hb1:(i:Int)<=(j:Int):=by omega
 have hb2:¬ (cap=0):=by omega
 have hb3:(j:Int)<=(n:Int):=by omega
 have hb4:¬ (cap=i):=by omega
 have e4:j*size<=n*size:=Nat.mul_le_mul_right size hjn
 have e5:n*size<=cur.size:=by rw [hcs]; exact Nat.mul_le_mul_right size hnc
 have e6:i*size<=j*size:=Nat.mul_le_mul_right size (by omega)
 have e3:(n-j)*size=n*size-j*size:=Nat.sub_mul n j size
 have e7:(i+(n-j))*size=i*size+(n-j)*size:=Nat.add_mul _ _ size
 have hln:cur.toList.length=cur.size:=Array.length_toList
 have lm:((cur.toList.take (n*size)).drop (j*size)).length=(n-j)*size:=by rw [List.length_drop,List.length_take,hln,e3]; omega
 have hap:∀ (A:Addr) (c:Nat),(A=(⟨g,j*size,none⟩:Addr)\/n=j)->∀ ty,(Builtin.append_ #[(ρ.t 22),(ρ.t 22)] ty #[.slice (some ⟨g,0,none⟩) i cap,.slice (some A) (n-j) c]).run P w.drew=.ok (.slice (some ⟨g,0,none⟩) (i+(n-j)) cap) (w.drew.setRow g (cur.toList.take (i*size)++(cur.toList.take (n*size)).drop (j*size)++cur.toList.drop (i*size+((cur.toList.take (n*size)).drop (j*size)).length)).toArray):=fun A c hA ty=>by
  have:=run_append_room (P:=P) w.drew (ρ.t 22) ty (ρ.t 23) i0 L.t22 hi g i cap cur hg A (n-j) c ((cur.toList.take (n*size)).drop (j*size)) (by rw [lm,hz1]) (fun k u hk=>by
   have hk2:=(List.getElem?_eq_some_iff.1 hk).1
   rw [lm] at hk2
   rcases hA with rfl | rfl
   ·rw [Addr.add_none]
    have h5:w.drew.cell? ⟨g,j*size+k,none⟩=cur[j*size+k]? := PY hg
    rw [h5,<- hk,List.getElem?_drop,List.getElem?_take,if_pos (by omega),Array.getElem?_toList]
   ·simp at hk2) (fun u hu=>h1 u (List.mem_of_mem_drop hu)) (by omega) (by rw [lm,hz1,e3]; omega)
  rw [hz1] at this
  exact this
 obtain ⟨cur1,hcur1⟩:∃ c1,c1=(cur.toList.take (i*size)++(cur.toList.take (n*size)).drop (j*size)++cur.toList.drop (i*size+((cur.toList.take (n*size)).drop (j*size)).length)).toArray:=⟨_,rfl⟩
 rw [<- hcur1] at hap
 have hs1:cur1.size=cap*size:=by
  rw [hcur1,List.size_toArray,<- hcs]
  simp only [List.length_append,List.length_take,List.length_drop,hln,lm]
  omega
 have ht1:cur1.toList.take ((i+(n-j))*size)=cur.toList.take (i*size)++(cur.toList.take (n*size)).drop (j*size):=by
  have l3:(cur.toList.take (i*size)++(cur.toList.take (n*size)).drop (j*size)).length=(i+(n-j))*size:=by
   simp only [List.length_append,List.length_take,hln,lm,e7]
   omega
  rw [hcur1]
  exact (congrArg (fun k=>List.take k _) l3.symm).trans (by rw [List.take_left])
 have hg1:(w.drew.setRow g cur1).heap[g]? = some (.cells cur1 (ρ.t 23) (0,0)):=setRow_heap w.drew g cur cur1 (ρ.t 23) _ hg
 obtain ⟨d,hd⟩:∃ d,d=n-(i+(n-j)):=⟨_,rfl⟩
 have hdp:0<d:=by omega
 have e8:(i+(n-j))*size+d*size<=cur1.size:=by rw [hs1,<- Nat.add_mul]; exact Nat.mul_le_mul_right size (by omega)
 have hzc:∀ v∈(Builtin.zeroCells z.cells d).toList,v.oneCell'=true:=by
  intro v hv
  simp only [Builtin.zeroCells,Array.toList_map,List.mem_map] at hv
  obtain ⟨k,_,rfl⟩:=hv
  refine hzo _ ?_
  have hk:k % z.cells.size<z.cells.size:=Nat.mod_lt _ (by omega)
  rw [getElem!_pos z.cells _ hk]
  exact Array.getElem_mem_toList hk
 have hcl:∀ ty c,(Builtin.clear_ #[(ρ.t 22)] ty #[.slice (some ⟨g,(i+(n-j))*size,none⟩) (n-(i+(n-j))) c]).run P (w.drew.setRow g cur1)=.ok (.tuple #[]) ((w.drew.setRow g cur1).setRow g (cur1.toList.take ((i+(n-j))*size)++(Builtin.zeroCells z.cells d).toList++cur1.toList.drop ((i+(n-j))*size+(Builtin.zeroCells z.cells d).toList.length)).toArray):=fun ty c=>by
  rw [<- hd]
  exact p9 _ _ (ρ.t 23) ty z L.t22 v23 g _ d c cur1 (ρ.t 23) hg1 hdp (by rw [hzs]; exact e8) hzc
 have lz:(Builtin.zeroCells z.cells d).toList.length=d*size:=by rw [Array.length_toList,size_zeroCells,hzs]
 obtain ⟨cur2,hcur2⟩:∃ c2,c2=(cur1.toList.take ((i+(n-j))*size)++(Builtin.zeroCells z.cells d).toList++cur1.toList.drop ((i+(n-j))*size+(Builtin.zeroCells z.cells d).toList.length)).toArray:=⟨_,rfl⟩
 rw [<- hcur2] at hcl
 have hs2:cur2.size=cap*size:=by
  rw [hcur2,List.size_toArray,<- hs1]
  simp only [List.length_append,List.length_take,List.length_drop,Array.length_toList,lz]
  rw [Array.length_toList] at lz
  omega
 have ht2:cur2.toList.take ((i+(n-j))*size)=cur.toList.take (i*size)++(cur.toList.take (n*size)).drop (j*size):=by
  have l4:(cur1.toList.take ((i+(n-j))*size)).length=(i+(n-j))*size:=by rw [List.length_take,Array.length_toList]; omega
  rw [hcur2,<- ht1,List.append_assoc]
  exact (congrArg (fun k=>List.take k _) l4.symm).trans (by rw [List.take_left])
 have hkn:n-(j-i)=i+(n-j):=by omega
 rw [hkn]
 have hW1s:((w.drew.setRow g cur1).setRow g cur2).heap[g]? = some (.cells cur2 (ρ.t 23) (0,0)):=setRow_heap _ g cur1 cur2 _ _ hg1
 have hgr:w.grownBy ((w.drew.setRow g cur1).setRow g cur2) (some g):=by
  refine ⟨rfl,rfl,rfl,by rw [Iq,Iq]; exact Nat.le_refl _,fun k hk hne=>?_⟩
  have hk':k≠g:=fun e=>hne (by rw [e])
  rw [setRow_other _ g k _ hk',setRow_other _ g k _ hk']
  rfl
 obtain ⟨W1,hW1⟩:∃ W1,W1=w.drew.setRow g cur1:=⟨_,rfl⟩
 obtain ⟨W2,hW2⟩:∃ W2,W2=W1.setRow g cur2:=⟨_,rfl⟩
 rw [<- hW1,<- hW2] at hcl hW1s hgr
 rw [<- hW1] at hap
 have hb6:¬ (cap=i+(n-j)):=by omega
 have hb7:i+(n-j)<=n:=by omega
 have hb8:i<=cap:=by omega
 clear e3 e4 e5 e6 e7 e8 hcur1 hcur2 lm hW1 hW2 hd hkn hs1 ht1 hg1 lz
 obtain ⟨A,hAe,hAd⟩:∃ A:Addr,(if cap=j then some (⟨g,0,none⟩:Addr) else some ⟨g,j*size,none⟩)=some A/\(A=(⟨g,j*size,none⟩:Addr)\/n=j):=by
  by_cases h:cap=j
  ·exact ⟨⟨g,0,none⟩,by simp [h],.inr (by omega)⟩
  ·exact ⟨⟨g,j*size,none⟩,by simp [h],.inl rfl⟩
 have hap2:=hap A (cap-j) hAd
 clear hap hAd
 obtain ⟨_,_,FG⟩:=L.f45
 go_enter FG,SlBodyN.n45_ntmps ρ
 go_wp2
 go_region_law_o (refine fg rfl _ _ (ρ.t 22) (ρ.t 22) rfl _ _ (by simp [Act.eval,Act.put]) (by simp [Act.eval,Act.put,hAe]) (hap2 _) ?_)
 go_wp2_with (at_builtin; refine cm _ rfl _ (ρ.t 22) rfl _ rfl (hcl _ _) ?_)
 go_ret
 exact ⟨rfl,cur2,hW1s,hs2,ht2,hgr⟩
theorem uG {K:Kd} (L:SlLaysE0.n45 P ρ) (he:qa P (ρ.t 23) K=true) {xs:List K.T} {i j:Nat} (hij:i<=j) (hj:j<=xs.length) :
  Ue P (ρ.f 45) [.new (ρ.t 23) K xs,.int .i64 i,.int .i64 j] [] [.new (ρ.t 23) K (xs.take i++xs.drop j)]:=by
 obtain ⟨i0,z,hi0,hz,h1,h2,h3,h4⟩:=Sl he
 have hsz:=Kd.sz_pos K
 have z23:∀ w,(Go.sizeOf (ρ.t 23)).run P w=.ok K.sz w:=fun w=>by simp [sizeOf,typeInfo,hi0,h1]
 have v23:∀ w,(zeroValue (ρ.t 23)).run P w=.ok z w:=fun w=>by simp [zeroValue,typeInfo,hi0,hz]
 refine ⟨?_,?_,1,rfl,fun H φ w cargs hs ha=>?_⟩
 ·obtain ⟨nm,hnm,hf⟩:=L.f45
  exact ⟨_,_,hf,hnm,rfl⟩
 ·intro r hr
  simp only [List.mem_singleton] at hr
  subst hr
  rfl
 ·obtain ⟨v0,r0,rfl,hv0,ha⟩:=ha
  obtain ⟨v1,r1,rfl,hv1,ha⟩:=ha
  obtain ⟨v2,r2,rfl,hv2,ha⟩:=ha
  have hr2:r2=[]:=ha
  subst hr2
  have e0:v0=φ 0:=hv0.1
  have e1:v1=.int .i64 i:=hv1
  have e2:v2=.int .i64 j:=hv2
  subst e0 e1 e2
  obtain ⟨flat,ho,hr⟩:=hs.box 0 (.rows (ρ.t 23) K xs) rfl
  have hnew:(xs.take i++xs.drop j).length=xs.length-(j-i):=by simp only [List.length_append,List.length_take,List.length_drop]; omega
  have hstk:BS [] [AV.new (ρ.t 23) K xs,.int .i64 i,.int .i64 j]=[.rows (ρ.t 23) K xs]:=rfl
  by_cases hlt:i=j
  ·subst hlt
   obtain ⟨base,n,cap,e0,hnn,hcap,hcm⟩:∃ base n cap,φ 0=.slice base n cap/\n=xs.length/\n<=cap/\cap<=maxLen:=by
    rcases ho.2 with ⟨e,h⟩ | ⟨g,cap,cur,e,_,_,hc,hm,_⟩
    ·exact ⟨none,0,0,e,h.symm,Nat.le_refl _,Nat.zero_le _⟩
    ·exact ⟨_,_,_,e,rfl,hc,hm⟩
   subst hnn
   rw [e0]
   refine Calls.mono (rM L i0 K.sz hi0 h1 z23 base _ cap i w hj hcap hcm) fun out w' h=>?_
   obtain ⟨rfl,rfl⟩:=h
   refine kI hstk hs ⟨rfl,rfl,rfl,Nat.le_refl _,fun _ _ _=>rfl⟩ (fun b hb=>.inl (by rw [e0]; exact hb)) (flat:=flat) ?_ ?_
   ·rw [List.take_append_drop,<- e0]; exact ho
   ·rw [List.take_append_drop]; exact hr
  ·obtain ⟨g,cap,cur,e0,_,hg,hc,hcm,hsc,ht⟩:=ho.2.resolve_left (fun h=>by omega)
   rw [e0]
   have hzo:∀ v∈z.cells.toList,v.oneCell'=true:=Xc (h4 H)
   refine Calls.mono (rN L i0 z K.sz i0.bytes hi0 hz h1 h3 hzo hsz z23 v23 g xs.length cap i j cur w hg hsc (by omega) hj hc hcm (by rw [ht]; exact DD hr ho.1)) fun out w' h=>?_
   obtain ⟨rfl,cur',g1,g2,g3,g4⟩:=h
   have htk:cur.toList.take (i*K.sz)=flat.take (i*K.sz):=by
    rw [<- ht,List.take_take,Nat.min_eq_left (Nat.mul_le_mul_right _ (by omega))]
   have l1:(flat.take (i*K.sz)).length=(xs.take i).length*K.sz:=by
    have h5:=ho.1
    have h7:i*K.sz<=xs.length*K.sz:=Nat.mul_le_mul_right _ (by omega)
    rw [List.length_take,List.length_take,Nat.min_eq_left (show i<=xs.length by omega),h5]; omega
   have l2:(flat.drop (j*K.sz)).length=(xs.drop j).length*K.sz:=by rw [List.length_drop,List.length_drop,ho.1,Nat.sub_mul]
   refine kI hstk hs (by rw [e0]; exact g4) (fun b hb=>.inl (by rw [e0]; exact hb)) (flat:=flat.take (i*K.sz)++flat.drop (j*K.sz)) ?_ (HV (iP hr i) l1 (iQ hr j))
   rw [hnew]
   refine ⟨?_,.inr ⟨g,cap,cur',rfl,Nat.zero_le _,g1,by omega,hcm,g2,by rw [g3,htk,ht]⟩⟩
   rw [List.length_append,l1,l2,<- Nat.add_mul,<- hnew,List.length_append]
def vN (t:TypeId) (K:Kd) (args bs:List AV):Option (List AV) :=
 match args,bs with
 | [.new t1 K1 xs,.int k i,.int k2 j],[]=>if h1:K1=K then (if t1=t/\k=.i64/\k2=.i64/\0<=i/\i<=j/\j<=xs.length then
   some [.new t K ((h1▸xs).take i.toNat++(h1▸xs).drop j.toNat)] else none) else none
 | _,_=>none
theorem w9 {t:TypeId} {K:Kd} {xs:List K.T} {i j:Nat} (hi:i<=j) (hj:j<=xs.length):vN t K [.new t K xs,.int .i64 i,.int .i64 j] []=some [.new t K (xs.take i++xs.drop j)]:=by
 have h0:(0:Int)<=(i:Int):=by omega
 have h1:(i:Int)<=(j:Int):=by omega
 have h2:(j:Int)<=(xs.length:Int):=by omega
 simp only [vN,dif_pos,true_and]
 rw [if_pos ⟨h0,h1,h2⟩,Int.toNat_natCast,Int.toNat_natCast]
theorem w_ {K:Kd} (L:SlLaysE0.n45 P ρ) (he:qa P (ρ.t 23) K=true) {args bs rs:List AV} (h:vN (ρ.t 23) K args bs=some rs):Ue P (ρ.f 45) args bs rs:=by
 unfold vN at h
 split at h
 ·split at h
  ·rename_i hk
   subst hk
   split at h
   ·rename_i hc
    obtain ⟨rfl,rfl,rfl,h0,hij,hj⟩:=hc
    cases h
    rename_i i _ j _
    obtain ⟨a,rfl⟩:=Int.eq_ofNat_of_zero_le h0
    obtain ⟨b,rfl⟩:=Int.eq_ofNat_of_zero_le (Int.le_trans h0 hij)
    exact uG L he (by omega) (by omega)
   ·cases h
  ·cases h
 ·cases h
end Go.Proofs.YtokiohnjegbnpaaGreat.Core

namespace Go.Proofs.YtokiohnjegbnpaaGreat.Core
open Go IntKind
set_option maxRecDepth 100000
noncomputable section
def yC:Go.Shelf.Ren:=⟨fun | 41=>74 | n=>n,fun | 22=>30 | 23=>47 | n=>n,fun | n=>n⟩
theorem xA:SlLaysE0.n41 Tryz.prog yC:={
 mixed:=by kernel_rfl
 f41:=⟨Tryz.f74.name,by decide,Tryz.func74.trans (congrArg some (by kernel_rfl))⟩
 t4:=Tryz.underlying4
 a4:=Tryz.isAgg4
 z4:=Tryz.sizeOf4
 v4:=Tryz.zeroValue4
 t22:=Tryz.underlying30
 a22:=Tryz.isAgg30
 z22:=Tryz.sizeOf30
 v22:=Tryz.zeroValue30 }
theorem ye:qa Tryz.prog 47 AJ=true:=by kernel_rfl
def yD:Go.Shelf.Ren:=⟨fun | 45=>88 | n=>n,fun | 22=>29 | 23=>97 | n=>n,fun | n=>n⟩
theorem xB:SlLaysE0.n45 Tryz.prog yD:={
 mixed:=by kernel_rfl
 f45:=⟨Tryz.f88.name,by decide,Tryz.func88.trans (congrArg some (by kernel_rfl))⟩
 t0:=Tryz.underlying0
 a0:=Tryz.isAgg0
 z0:=Tryz.sizeOf0
 v0:=Tryz.zeroValue0
 t3:=Tryz.underlying3
 a3:=Tryz.isAgg3
 z3:=Tryz.sizeOf3
 v3:=Tryz.zeroValue3
 t4:=Tryz.underlying4
 a4:=Tryz.isAgg4
 z4:=Tryz.sizeOf4
 v4:=Tryz.zeroValue4
 t22:=Tryz.underlying29
 a22:=Tryz.isAgg29
 z22:=Tryz.sizeOf29
 v22:=Tryz.zeroValue29 }
theorem yf:qa Tryz.prog 97 AF=true:=by kernel_rfl
def yE:Go.Shelf.Ren:=⟨fun | 41=>99 | n=>n,fun | 22=>33 | 23=>3 | n=>n,fun | n=>n⟩
theorem xC:SlLaysE0.n41 Tryz.prog yE:={
 mixed:=by kernel_rfl
 f41:=⟨Tryz.f99.name,by decide,Tryz.func99.trans (congrArg some (by kernel_rfl))⟩
 t4:=Tryz.underlying4
 a4:=Tryz.isAgg4
 z4:=Tryz.sizeOf4
 v4:=Tryz.zeroValue4
 t22:=Tryz.underlying33
 a22:=Tryz.isAgg33
 z22:=Tryz.sizeOf33
 v22:=Tryz.zeroValue33 }
theorem yg:qa Tryz.prog 3 (.int .i64)=true:=by kernel_rfl
def xD:Go.Shelf.Ren:=⟨fun | 41=>104 | n=>n,fun | 22=>36 | 23=>38 | n=>n,fun | n=>n⟩
theorem vO:SlLaysE0.n41 Tryz.prog xD:={
 mixed:=by kernel_rfl
 f41:=⟨Tryz.f104.name,by decide,Tryz.func104.trans (congrArg some (by kernel_rfl))⟩
 t4:=Tryz.underlying4
 a4:=Tryz.isAgg4
 z4:=Tryz.sizeOf4
 v4:=Tryz.zeroValue4
 t22:=Tryz.underlying36
 a22:=Tryz.isAgg36
 z22:=Tryz.sizeOf36
 v22:=Tryz.zeroValue36 }
theorem yF:qa Tryz.prog 38 AC=true:=by kernel_rfl
def xE:Go.Shelf.Ren:=⟨fun | 10=>144 | 6=>163 | n=>n,fun | 22=>33 | 23=>3 | 25=>69 | n=>n,fun | n=>n⟩
theorem vP:SlLaysH.n10 Tryz.prog xE:={
 mixed:=by kernel_rfl
 f6:=⟨Tryz.f163.name,by decide,Tryz.func163.trans (congrArg some (by kernel_rfl))⟩
 f10:=⟨Tryz.f144.name,by decide,Tryz.func144.trans (congrArg some (by kernel_rfl))⟩
 t0:=Tryz.underlying0
 a0:=Tryz.isAgg0
 z0:=Tryz.sizeOf0
 v0:=Tryz.zeroValue0
 t3:=Tryz.underlying3
 a3:=Tryz.isAgg3
 z3:=Tryz.sizeOf3
 v3:=Tryz.zeroValue3
 t4:=Tryz.underlying4
 a4:=Tryz.isAgg4
 z4:=Tryz.sizeOf4
 v4:=Tryz.zeroValue4
 t22:=Tryz.underlying33
 a22:=Tryz.isAgg33
 z22:=Tryz.sizeOf33
 v22:=Tryz.zeroValue33
 a23:=Tryz.isAgg3
 z23:=Tryz.sizeOf3
 t25:=Tryz.underlying69
 a25:=Tryz.isAgg69
 z25:=Tryz.sizeOf69
 v25:=Tryz.zeroValue69 }
theorem vQ:yB Tryz.prog 145:=⟨enters_of Tryz.func145 (by kernel_rfl) rfl,fun n x b o W hc=>by
 go_enter Tryz.func145,Tryz.ntmps145
 go_wp2
 all_goals (go_ret; exact ⟨by simp_all,0,rfl⟩)⟩
def xF:Go.Shelf.Ren:=⟨fun | 106=>161 | 213=>170 | 265=>174 | n=>n,fun | n=>n,fun | n=>n⟩
theorem vR:Lays.n106 Tryz.prog xF:={
 mixed:=by kernel_rfl
 f106:=Tryz.func161.trans (congrArg some (by kernel_rfl))
 f213:=Tryz.func170.trans (congrArg some (by kernel_rfl))
 f265:=Tryz.func174.trans (congrArg some (by kernel_rfl))
 t3:=Tryz.underlying3
 a3:=Tryz.isAgg3
 z3:=Tryz.sizeOf3
 v3:=Tryz.zeroValue3
 t9:=Tryz.underlying9
 a9:=Tryz.isAgg9
 z9:=Tryz.sizeOf9
 v9:=Tryz.zeroValue9 }
def xG:Go.Shelf.Ren:=⟨fun | 22=>162 | 29=>171 | 30=>172 | n=>n,fun | 24=>36 | 9=>38 | n=>n,fun | n=>n⟩
theorem vS:uE Tryz.prog xG:={
 mixed:=by kernel_rfl
 f22:=⟨Tryz.f162.name,by decide,Tryz.func162.trans (congrArg some (by kernel_rfl))⟩
 ov:=fun args w=>run_callFunc_extern Tryz.func171 (by kernel_rfl) (by kernel_rfl) (by kernel_rfl) (by kernel_rfl) args w
 t3:=Tryz.underlying3
 a3:=Tryz.isAgg3
 z3:=Tryz.sizeOf3
 v3:=Tryz.zeroValue3
 t4:=Tryz.underlying4
 a4:=Tryz.isAgg4
 z4:=Tryz.sizeOf4
 v4:=Tryz.zeroValue4
 t24:=Tryz.underlying36
 a24:=Tryz.isAgg36
 z24:=Tryz.sizeOf36
 v24:=Tryz.zeroValue36 }
theorem yG:qa Tryz.prog 38 AC=true:=by kernel_rfl
end
end Go.Proofs.YtokiohnjegbnpaaGreat.Core
