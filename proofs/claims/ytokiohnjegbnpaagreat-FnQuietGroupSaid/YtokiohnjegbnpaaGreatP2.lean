/- Texts of the proof, packed: part 3. -/
import Derived.Test.YtokiohnjegbnpaaGreatP1
import Derived.Test.YtokiohnjegbnpaaGreatProg
import Derived.Shelf.SlLaysE0
import Derived.Shelf.RegionOpenPlain
import Derived.WalkKit
import Derived.Deep.LoopGhost
import Derived.Lib.Walk
import Derived.Lib.SliceRun
import Derived.Shelf.Lays2
import Derived.Lib.JoinLaws
import Derived.Lib.AppendZeros
import Derived.Lib.Overlaps
import Derived.Laws.Externs
import Derived.Laws.IdiomCopy
import Derived.Laws.CopyRow
import Derived.Maps.AppendAt
import Derived.Shelf.Small.Strs
import Derived.Shelf.Spec.SlicesInsert
import Derived.Shelf.SlicesE.DeleteFunc
set_option linter.unusedVariables false
set_option linter.unusedSimpArgs false
namespace Go.Proofs.YtokiohnjegbnpaaGreat.Core
open Go
def Ev (p:Nat->Prop):Prop:=∃ m,∀ k,m<=k->p k
theorem Ev.mono {p q:Nat->Prop} (h:Ev p) (f:∀ k,p k->q k):Ev q:=h.elim fun m hm=>⟨m,fun k hk=>f k (hm k hk)⟩
theorem Ev.const {p:Prop} (h:p):Ev fun _=>p:=⟨0,fun _ _=>h⟩
theorem Ev.all {p:Nat->Prop} (h:∀ k,p k):Ev p:=⟨0,fun k _=>h k⟩
theorem Ev.and {p q:Nat->Prop} (h:Ev p) (g:Ev q):Ev fun k=>p k/\q k:=by
 obtain ⟨m,hm⟩:=h
 obtain ⟨n,hn⟩:=g
 exact ⟨max m n,fun k hk=>⟨hm k (by omega),hn k (by omega)⟩⟩
noncomputable def Lm {ρ:Type} (u:Nat->Option ρ):Option ρ :=
 @dite _ (∃ r,Ev fun k=>u k=some r) (Classical.propDecidable _) (fun h=>some (Classical.choose h)) (fun _=>none)
theorem dg {ρ:Type} {u:Nat->Option ρ} {r:ρ} (h:Lm u=some r):Ev fun k=>u k=some r:=by
 unfold Lm at h
 split at h
 ·rename_i hx
  cases h
  exact Classical.choose_spec hx
 ·cases h
theorem ik {ρ:Type} {u:Nat->Option ρ} {r:ρ} (h:Ev fun k=>u k=some r):Lm u=some r:=by
 have hx:∃ r,Ev fun k=>u k=some r:=⟨r,h⟩
 unfold Lm
 rw [dif_pos hx]
 obtain ⟨m,hm⟩:=(Classical.choose_spec hx).and h
 obtain ⟨a,b⟩:=hm m (Nat.le_refl _)
 rw [<- b,a]
def Conv {ρ:Type} (kn:Nat->St->Option ρ) (kl:St->Option ρ):Prop:=∀ s r,kl s=some r->Ev fun j=>kn j s=some r
theorem Conv.refl {ρ:Type} (kl:St->Option ρ):Conv (fun _=>kl) kl:=fun _ _ h=>.const h
def Pg (cal:Nat->E4) (c:E4):Prop:=∀ f a b r,c f a b=some r->Ev fun j=>cal j f a b=some r
theorem Pg.refl (c:E4):Pg (fun _=>c) c:=fun _ _ _ _ h=>.const h
abbrev Lp (ρ:Type):Type:=((St->Option ρ)->St->Option ρ)->St->Option ρ
def il {ρ:Type} (F:Nat->(St->Option ρ)->St->Option ρ) (FL:(St->Option ρ)->St->Option ρ):Prop :=
 ∀ (go:Nat->St->Option ρ) (gl:St->Option ρ),Conv go gl->Conv (fun j=>F j (go j)) (FL gl)
def im {ρ:Type} (lp:Nat->Lp ρ) (ll:Lp ρ):Prop:=∀ (F:Nat->(St->Option ρ)->St->Option ρ) (FL:(St->Option ρ)->St->Option ρ),il F FL->(∀ j,il (fun _=>F j) (F j))->Conv (fun j=>lp j (F j)) (ll FL)
noncomputable def Ic {ρ:Type}:Lp ρ:=fun F s=>Lm fun n=>Kr n F s
theorem ip {ρ:Type}:im (ρ:=ρ) Kr Ic:=by
 intro F FL hF _ s r h
 have h:=dg h
 obtain ⟨m,hm⟩:=h
 have key:∀ n,∀ g:Nat->Nat,(∀ j,n<=g j)->Conv (fun j=>Kr (g j) (F j)) (Kr n FL):=by
  intro n
  induction n with
  | zero=>intro g _ s r h; cases h
  | succ n ih =>
   intro g hg s r h
   refine (hF (fun j=>Kr (g j-1) (F j)) (Kr n FL) (ih (fun j=>g j-1) fun j=>by have:=hg j; omega) s r h).mono fun j hj=>?_
   have e:g j=(g j-1)+1:=by have:=hg j; omega
   show Kr (g j) (F j) s=some r
   rw [e]
   exact hj
 obtain ⟨k,hk⟩:=key m (fun j=>max j m) (fun j=>by omega) s r (hm m (Nat.le_refl _))
 refine ⟨max k m,fun j hj=>?_⟩
 have:=hk j (by omega)
 simp only [show max j m=j by omega] at this
 exact this
theorem dh {ρ:Type} (k:Nat):im (ρ:=ρ) (fun _=>Kr k) (Kr k):=by
 intro F FL hF _
 induction k with
 | zero=>intro s r h; cases h
 | succ k ih=>exact hF _ _ ih
theorem ZH {ρ:Type} {F:(St->Option ρ)->St->Option ρ} (hF:il (fun _=>F) F) {s:St} {r:ρ} (h:F (Ic F) s=some r):Ic F s=some r:=by
 obtain ⟨m,hm⟩:=hF (fun j=>Kr j F) (Ic F) (fun s r h=>dg h) s r h
 exact ik ⟨m+1,fun k hk=>by
  cases k with
  | zero=>omega
  | succ k=>exact hm k (by omega)⟩
theorem di {ρ:Type}:im (ρ:=ρ) (fun _=>Ic) Ic:=by
 intro F FL hF hs s r h
 obtain ⟨m,hm⟩:=dg h
 have key:∀ n,Conv (fun j=>Ic (F j)) (Kr n FL):=by
  intro n
  induction n with
  | zero=>intro s r h; cases h
  | succ n ih=>intro s r h; exact (hF _ _ ih s r h).mono fun j hj=>ZH (hs j) hj
 exact key m s r (hm m (Nat.le_refl _))
theorem Cf {α β:Type} {x:Option α} {f:Nat->α->Option β} {g:α->Option β} (h:∀ a r,g a=some r->Ev fun j=>f j a=some r) (r:β) (hx:x.bind g=some r):Ev fun j=>x.bind (f j)=some r:=by
 cases x with
 | none=>cases hx
 | some a=>exact h a r hx
theorem ZI {ρ:Type} {s:St} {v:AV} {K:Kd} {kn:Nat->List K.T->Option ρ} {kl:List K.T->Option ρ} (hk:∀ a r,kl a=some r->Ev fun j=>kn j a=some r) (r:ρ) (h:s.list v K kl=some r):Ev fun j=>s.list v K (kn j)=some r:=by
 unfold St.list at h ⊢
 split at h
 ·exact hk _ _ h
 ·split at h
  ·rename_i e
   simp only [dif_pos e]
   exact hk _ _ h
  ·cases h
 ·split at h
  ·rename_i e0
   split at h
   ·rename_i e
    simp only [e0,dif_pos e]
    exact hk _ _ h
   ·cases h
  ·rename_i e0
   split at h
   ·rename_i e
    simp only [e0,dif_pos e]
    exact hk _ _ h
   ·cases h
  ·rename_i e0
   split at h
   ·rename_i e
    simp only [e0,dif_pos e]
    exact hk _ _ h
   ·cases h
  ·cases h
 ·cases h
theorem gd {ρ:Type} {op:BinOp} {x y:AV} {kn:Nat->AV->Option ρ} {kl:AV->Option ρ} (hk:∀ a r,kl a=some r->Ev fun j=>kn j a=some r) (r:ρ) (h:XP op x y kl=some r):Ev fun j=>XP op x y (kn j)=some r:=by
 have e:∀ k:AV->Option ρ,XP op x y k=(XP op x y some).bind k:=by
  intro k
  unfold XP
  repeat' split
  all_goals rfl
 rw [e] at h
 simp only [e (kn _)]
 exact Cf hk r h
theorem iq {ρ:Type} {op:UnOp} {x:AV} {kn:Nat->AV->Option ρ} {kl:AV->Option ρ} (hk:∀ a r,kl a=some r->Ev fun j=>kn j a=some r) (r:ρ) (h:gA op x kl=some r):Ev fun j=>gA op x (kn j)=some r:=by
 unfold gA at h ⊢
 split at h<;>first | exact hk _ _ h | cases h
theorem dj {α β:Type} {x:Nat->Option α} {xl:Option α} {f:Nat->α->Option β} {g:α->Option β} (hx:∀ a,xl=some a->Ev fun j=>x j=some a) (h:∀ a r,g a=some r->Ev fun j=>f j a=some r) (r:β) (hr:xl.bind g=some r):Ev fun j=>(x j).bind (f j)=some r:=by
 cases xl with
 | none=>cases hr
 | some a=>exact ((hx a rfl).and (h a r hr)).mono fun j hj=>by rw [hj.1]; exact hj.2
theorem lq {ρ:Type} {cal:Nat->E4} {c:E4} {d z:Nat} {x:Ca} {lo hi:Option Ca} {kn:Nat->St->Option ρ} {kl:St->Option ρ} (hk:Conv kn kl) (s:St) (r:ρ) (h:Ds c kl s (.sl d z x lo hi)=some r):Ev fun j=>Ds (cal j) (kn j) s (.sl d z x lo hi)=some r:=by
 simp only [Ds] at h ⊢
 split at h
 ·split at h
  ·rename_i ez
   split at h
   ·split at h
    ·rename_i g1
     split at h
     ·rename_i g2
      split at h
      ·rename_i g3
       simp only [if_pos ez,if_pos g1,if_pos g2,if_pos g3]
       exact hk _ _ h
      ·cases h
     ·cases h
    ·cases h
   ·cases h
  ·cases h
 ·split at h
  ·rename_i ez
   split at h
   ·split at h
    ·rename_i g1
     split at h
     ·rename_i g2
      split at h
      ·rename_i g3
       simp only [if_pos ez,if_pos g1,if_pos g2,if_pos g3]
       exact hk _ _ h
      ·cases h
     ·cases h
    ·cases h
   ·cases h
  ·cases h
 ·cases h
mutual
theorem ZJ {ρ:Type} {cal:Nat->E4} {c:E4} (hc:Pg cal c):∀ (ao:Ed) {kn:Nat->St->Option ρ} {kl:St->Option ρ},Conv kn kl->∀ s r,Ds c kl s ao=some r->Ev fun j=>Ds (cal j) (kn j) s ao=some r
 | .mv d x,kn,kl,hk,s,r,h=>hk _ _ h
 | .nilrow d t K,kn,kl,hk,s,r,h=>hk _ _ h
 | .pick d c a b,kn,kl,hk,s,r,h=>by
  simp only [Ds] at h ⊢
  split at h
  ·split at h<;>rename_i e<;>simp only [e,if_true,if_false,Bool.false_eq_true]<;>exact hk _ _ h
  ·cases h
 | .sc c want ops d a b,kn,kl,hk,s,r,h=>by
  simp only [Ds] at h ⊢
  split at h
  ·split at h
   ·rename_i e
    simp only [e,if_true]
    exact cC hc ops (kn:=fun j s'=>kn j (s'.put d (if want then s'.opd a else s'.opd b))) (kl:=fun s'=>kl (s'.put d (if want then s'.opd a else s'.opd b))) (fun s r h=>hk _ _ h) s r h
   ·rename_i e
    simp only [if_neg e]
    exact hk _ _ h
  ·cases h
 | .alloc d cs,kn,kl,hk,s,r,h=>hk _ _ h
 | .box d x own,kn,kl,hk,s,r,h=>by
  simp only [Ds] at h ⊢
  exact Cf (fun a r h=>hk _ _ h) r h
 | .build d zero parts,kn,kl,hk,s,r,h=>by
  simp only [Ds] at h ⊢
  exact Cf (fun a r h=>hk _ _ h) r h
 | .bnew d zero parts,kn,kl,hk,s,r,h=>by
  simp only [Ds] at h ⊢
  exact Cf (fun a r h=>hk _ _ h) r h
 | .brow d t K parts,kn,kl,hk,s,r,h=>by
  simp only [Ds] at h ⊢
  exact Cf (fun a r h=>Cf (fun a r h=>hk _ _ h) r h) r h
 | .blst d K parts,kn,kl,hk,s,r,h=>by
  simp only [Ds] at h ⊢
  exact Cf (fun a r h=>Cf (fun a r h=>hk _ _ h) r h) r h
 | .load d x n,kn,kl,hk,s,r,h=>by
  simp only [Ds] at h ⊢
  refine Cf (fun a r h=>?_) r h
  split at h
  ·rename_i e
   simp only [if_pos e]
   exact hk _ _ h
  ·cases h
 | .store x y m own,kn,kl,hk,s,r,h=>by
  simp only [Ds] at h ⊢
  split at h
  ·rename_i e
   simp only [if_pos e]
   exact Cf (fun a r h=>hk _ _ h) r h
  ·cases h
 | .nilc d x,kn,kl,hk,s,r,h=>by
  simp only [Ds] at h ⊢
  split at h<;>first | exact hk _ _ h | cases h
 | .bin d op x y,kn,kl,hk,s,r,h=>by
  simp only [Ds] at h ⊢
  exact gd (fun a r h=>hk _ _ h) r h
 | .eqs d neg K x y,kn,kl,hk,s,r,h=>by
  simp only [Ds] at h ⊢
  exact Cf (fun a r h=>Cf (fun a r h=>hk _ _ h) r h) r h
 | .un d op x,kn,kl,hk,s,r,h=>by
  simp only [Ds] at h ⊢
  exact iq (fun a r h=>hk _ _ h) r h
 | .cvi d k x,kn,kl,hk,s,r,h=>by
  simp only [Ds] at h ⊢
  split at h<;>first | exact hk _ _ h | cases h
 | .bts d x,kn,kl,hk,s,r,h=>by
  simp only [Ds] at h ⊢
  exact ZI (fun a r h=>hk _ _ h) r h
 | .fld d x off,kn,kl,hk,s,r,h=>by
  simp only [Ds] at h ⊢
  split at h<;>first | exact hk _ _ h | cases h
 | .field d x off n,kn,kl,hk,s,r,h=>by
  simp only [Ds] at h ⊢
  split at h
  ·split at h
   ·rename_i e
    simp only [if_pos e]
    exact hk _ _ h
   ·cases h
  ·cases h
 | .idx d z x i,kn,kl,hk,s,r,h=>by
  have e:∀ k:St->Option ρ,Ds (cal 0) k s (.idx d z x i)=(Ds (cal 0) some s (.idx d z x i)).bind k:=by
   intro k
   simp only [Ds]
   repeat' split
   all_goals rfl
  have e2:∀ k:St->Option ρ,∀ c:E4,Ds c k s (.idx d z x i)=Ds (cal 0) k s (.idx d z x i):=fun k c=>by simp only [Ds]
  rw [e2,e] at h
  simp only [e2 (kn _),e (kn _)]
  exact Cf (fun a r h=>hk _ _ h) r h
 | .sidx d x i,kn,kl,hk,s,r,h=>by
  have e:∀ k:St->Option ρ,Ds (cal 0) k s (.sidx d x i)=(Ds (cal 0) some s (.sidx d x i)).bind k:=by
   intro k
   simp only [Ds]
   repeat' split
   all_goals rfl
  have e2:∀ k:St->Option ρ,∀ c:E4,Ds c k s (.sidx d x i)=Ds (cal 0) k s (.sidx d x i):=fun k c=>by simp only [Ds]
  rw [e2,e] at h
  simp only [e2 (kn _),e (kn _)]
  exact Cf (fun a r h=>hk _ _ h) r h
 | .sl d z x lo hi,kn,kl,hk,s,r,h=>lq hk s r h
 | .mk d t K n,kn,kl,hk,s,r,h=>by
  have e:∀ k:St->Option ρ,Ds (cal 0) k s (.mk d t K n)=(Ds (cal 0) some s (.mk d t K n)).bind k:=by
   intro k
   simp only [Ds]
   repeat' split
   all_goals rfl
  have e2:∀ k:St->Option ρ,∀ c:E4,Ds c k s (.mk d t K n)=Ds (cal 0) k s (.mk d t K n):=fun k c=>by simp only [Ds]
  rw [e2,e] at h
  simp only [e2 (kn _),e (kn _)]
  exact Cf (fun a r h=>hk _ _ h) r h
 | .fn d f caps,kn,kl,hk,s,r,h=>hk _ _ h
 | .clo d f K x,kn,kl,hk,s,r,h=>by
  simp only [Ds] at h ⊢
  split at h
  ·exact Cf (fun a r h=>hk _ _ h) r h
  ·cases h
 | .fbox d x,kn,kl,hk,s,r,h=>by
  simp only [Ds] at h ⊢
  exact Cf (fun a r h=>hk _ _ h) r h
 | .min d x y,kn,kl,hk,s,r,h=>by
  simp only [Ds] at h ⊢
  split at h
  ·split at h
   ·rename_i e
    simp only [if_pos e]
    exact hk _ _ h
   ·cases h
  ·cases h
 | .app d e K a b,kn,kl,hk,s,r,h=>by
  simp only [Ds] at h ⊢
  split at h
  ·split at h
   ·rename_i e1
    split at h
    ·rename_i e2
     split at h
     ·rename_i e3
      simp only [e1,dif_pos e2,if_pos e3]
      refine ZI (fun a r h=>?_) r h
      split at h
      ·rename_i e4
       simp only [if_pos e4]
       exact hk _ _ h
      ·cases h
     ·cases h
    ·cases h
   ·cases h
  ·cases h
 | .apz d e K a b,kn,kl,hk,s,r,h=>by
  simp only [Ds] at h ⊢
  split at h
  ·split at h
   ·rename_i e1
    split at h
    ·rename_i e2
     split at h
     ·rename_i e3
      simp only [e1,dif_pos e2,if_pos e3]
      refine ZI (fun a r h=>?_) r h
      split at h
      ·rename_i e4
       simp only [if_pos e4]
       exact hk _ _ h
      ·cases h
     ·cases h
    ·cases h
   ·cases h
  ·cases h
 | .len d t x,kn,kl,hk,s,r,h=>by
  have e:∀ k:St->Option ρ,Ds (cal 0) k s (.len d t x)=(Ds (cal 0) some s (.len d t x)).bind k:=by
   intro k
   simp only [Ds]
   repeat' split
   all_goals rfl
  have e2:∀ k:St->Option ρ,∀ c:E4,Ds c k s (.len d t x)=Ds (cal 0) k s (.len d t x):=fun k c=>by simp only [Ds]
  rw [e2,e] at h
  simp only [e2 (kn _),e (kn _)]
  exact Cf (fun a r h=>hk _ _ h) r h
 | .call d f args res,kn,kl,hk,s,r,h=>by
  simp only [Ds] at h ⊢
  refine Cf (fun q r h=>Cf (fun bx r h=>?_) r h) r h
  split at h
  ·rename_i e
   simp only [if_pos e]
   refine dj (fun a ha=>?_) (fun y r h=>?_) r h
   ·exact dj (f:=fun _=>CN _) (g:=CN _) (fun a ha=>hc _ _ _ _ ha) (fun y r h=>.const h) a ha
   ·split at h
    ·rename_i e
     simp only [if_pos e]
     exact hk _ _ h
    ·cases h
  ·cases h
 | .ext d x i,kn,kl,hk,s,r,h=>by
  simp only [Ds] at h ⊢
  split at h
  ·split at h
   ·rename_i e
    simp only [if_pos e]
    exact hk _ _ h
   ·cases h
  ·cases h
theorem cC {ρ:Type} {cal:Nat->E4} {c:E4} (hc:Pg cal c):∀ (aos:List Ed) {kn:Nat->St->Option ρ} {kl:St->Option ρ},Conv kn kl->∀ s r,WN c kl s aos=some r->Ev fun j=>WN (cal j) (kn j) s aos=some r
 | [],kn,kl,hk,s,r,h=>by simp only [WN] at h ⊢; exact hk _ _ h
 | o::os,kn,kl,hk,s,r,h=>by
  simp only [WN] at h ⊢
  exact ZJ hc o (fun s r h=>cC hc os hk s r h) s r h
end
theorem Rq {ρ:Type} {cal:Nat->E4} {c:E4} (hc:Pg cal c) (anc:List (List Nat)) {kn:Nat->St->Option ρ} {kl:St->Option ρ} (hk:Conv kn kl):∀ (t:DT) (T:List (Nat×Nat)) s r,dK c anc kl t T s=some r->Ev fun j=>dK (cal j) anc (kn j) t T s=some r
 | .done,T,s,r,h=>hk _ _ h
 | .take i g ao d,T,s,r,h=>by
  simp only [dK] at h ⊢
  split at h
  ·rename_i e
   simp only [if_pos e]
   exact ZJ hc ao (fun s r h=>Rq hc anc hk d _ s r h) s r h
  ·cases h
 | .skip i g d t,T,s,r,h=>by
  simp only [dK] at h ⊢
  split at h
  ·rename_i e
   simp only [if_pos e]
   exact Rq hc anc hk t _ _ r h
  ·cases h
 | .only i g ao e fl d,T,s,r,h=>by
  simp only [dK] at h ⊢
  split at h
  ·rename_i e
   simp only [if_pos e]
   exact ZJ hc ao (fun s r h=>Rq hc anc hk d _ s r h) s r h
  ·cases h
 | .test c a b,T,s,r,h=>by
  simp only [dK] at h ⊢
  split at h
  ·split at h
   ·rename_i e
    simp only [if_pos e]
    exact Rq hc anc hk a _ _ r h
   ·rename_i e
    simp only [if_neg e]
    exact Rq hc anc hk b _ _ r h
  ·cases h
 | .fork i ai ri j aj rj,T,s,r,h=>by
  simp only [dK] at h ⊢
  obtain ⟨ha,hb⟩:=WO.1 h
  have ea:Ev fun n=>(if (GF ai.dsts T&&PQ (anc.getD i []) (ai.touch s) s T)=true then Ds (cal n) (fun s'=>dK (cal n) anc (kn n) ri (Fb (anc.getD i []) T) s') s ai else none)=some r:=by
   split at ha
   ·rename_i e
    simp only [if_pos e]
    exact ZJ hc ai (fun s r h=>Rq hc anc hk ri _ s r h) s r ha
   ·cases ha
  have eb:Ev fun n=>(if (GF aj.dsts T&&PQ (anc.getD j []) (aj.touch s) s T)=true then Ds (cal n) (fun s'=>dK (cal n) anc (kn n) rj (Fb (anc.getD j []) T) s') s aj else none)=some r:=by
   split at hb
   ·rename_i e
    simp only [if_pos e]
    exact ZJ hc aj (fun s r h=>Rq hc anc hk rj _ s r h) s r hb
   ·cases hb
  exact (ea.and eb).mono fun n h=>WO.2 h
noncomputable def FB {ρ:Type} (cal:E4) (lp:Lp ρ):AH->(kn kr:St->Option ρ)->(ke:Nat->St->Option ρ)->St->Option ρ
 | .skip,kn,_,_,s=>kn s
 | .region ops live,kn,_,_,s=>WN cal (fun s'=>kn ⟨live.map fun t=>(t,EY s'.fr t),s'.st⟩) s ops
 | .draw anc t live,kn,_,_,s=>dK cal anc (fun s'=>kn ⟨live.map fun t=>(t,EY s'.fr t),s'.st⟩) t [] s
 | .seqc live a b,kn,kr,ke,s=>FB cal lp a (fun s'=>FB cal lp b kn kr ke (s'.cutH (C1 s live) live s.st.length)) kr ke s
 | .seq a b,kn,kr,ke,s=>FB cal lp a (fun s'=>FB cal lp b kn kr ke s') kr ke s
 | .cond c a b,kn,kr,ke,s=>match s.opd c with
  | .bool t=>if t=true then FB cal lp a kn kr ke s else FB cal lp b kn kr ke s
  | _=>none
 | .block id live body,kn,kr,ke,s=>FB cal lp body (fun s'=>kn (s'.cutH (C1 s live) live s.st.length)) kr (fun i s'=>if i=id then kn (s'.cutH (C1 s live) live s.st.length) else ke i s') s
 | .loop live body,_,kr,ke,s=>lp (fun go s'=>FB cal lp body (fun s''=>go (s''.cutH (C1 s live) live s.st.length)) kr ke s') (s.cut live s.st.length)
 | .exit id,_,_,ke,s=>ke id s
 | .ret,_,kr,_,s=>kr s
theorem MS {ρ:Type} (cal:E4) (k:Nat):∀ (a:AH) (kn kr:St->Option ρ) (ke:Nat->St->Option ρ) (s:St),FX cal k a kn kr ke s=FB cal (Kr k) a kn kr ke s
 | .skip,_,_,_,_=>rfl
 | .region ..,_,_,_,_=>rfl
 | .draw ..,_,_,_,_=>rfl
 | .seqc live a b,kn,kr,ke,s=>by simp only [FX,FB,MS cal k a,MS cal k b]
 | .seq a b,kn,kr,ke,s=>by simp only [FX,FB,MS cal k a,MS cal k b]
 | .cond c a b,kn,kr,ke,s=>by
  simp only [FX,FB,MS cal k a,MS cal k b]
  cases s.opd c<;>rfl
 | .block id live a,kn,kr,ke,s=>by simp only [FX,FB,MS cal k a]
 | .loop live a,kn,kr,ke,s=>by simp only [FX,FB,MS cal k a]
 | .exit _,_,_,_,_=>rfl
 | .ret,_,_,_,_=>rfl
theorem Gf {ρ:Type}:∀ (a:AH) {cal:Nat->E4} {c:E4} {lp:Nat->Lp ρ} {ll:Lp ρ} {kn kr:Nat->St->Option ρ} {kl krl:St->Option ρ} {ke:Nat->Nat->St->Option ρ} {kel:Nat->St->Option ρ},Pg cal c->im lp ll->(∀ j,im (fun _=>lp j) (lp j)) ->
  Conv kn kl->Conv kr krl->(∀ i,Conv (fun j=>ke j i) (kel i))->Conv (fun j=>FB (cal j) (lp j) a (kn j) (kr j) (ke j)) (FB c ll a kl krl kel)
 | .skip,_,_,_,_,_,_,_,_,_,_,hc,hl,hl',hk,hr,he=>hk
 | .region ops live,_,_,_,_,_,_,_,_,_,_,hc,hl,hl',hk,hr,he=>fun s r h=>cC hc ops (fun s r h=>hk _ r h) s r h
 | .draw anc t live,_,_,_,_,_,_,_,_,_,_,hc,hl,hl',hk,hr,he=>fun s r h=>Rq hc anc (fun s r h=>hk _ r h) t [] s r h
 | .seqc live a b,_,_,_,_,_,_,_,_,_,_,hc,hl,hl',hk,hr,he=>fun s r h=>Gf a hc hl hl' (fun s' r h=>Gf b hc hl hl' hk hr he _ r h) hr he s r h
 | .seq a b,_,_,_,_,_,_,_,_,_,_,hc,hl,hl',hk,hr,he=>fun s r h=>Gf a hc hl hl' (fun s' r h=>Gf b hc hl hl' hk hr he _ r h) hr he s r h
 | .cond c a b,_,_,_,_,_,_,_,_,_,_,hc,hl,hl',hk,hr,he=>fun s r h=>by
  simp only [FB] at h ⊢
  split at h
  ·split at h
   ·rename_i e
    simp only [if_pos e]
    exact Gf a hc hl hl' hk hr he s r h
   ·rename_i e
    simp only [if_neg e]
    exact Gf b hc hl hl' hk hr he s r h
  ·cases h
 | .block id live a,_,_,_,_,_,_,_,_,_,_,hc,hl,hl',hk,hr,he=>fun s r h=>by
  simp only [FB] at h ⊢
  refine Gf a hc hl hl' (fun s r h=>hk _ r h) hr (fun i s' r h=>?_) s r h
  split at h
  ·rename_i e
   simp only [if_pos e]
   exact hk _ r h
  ·rename_i e
   simp only [if_neg e]
   exact he i _ r h
 | .loop live a,cal,c,lp,ll,kn,kr,kl,krl,ke,kel,hc,hl,hl',hk,hr,he=>fun s r h=>by
  simp only [FB] at h ⊢
  refine hl _ _ (fun go gl hgo s' r h=>?_) (fun j go gl hgo s' r h=>?_) _ r h
  ·exact Gf a hc hl hl' (fun s r h=>hgo _ r h) hr he s' r h
  ·exact Gf (cal:=fun _=>cal j) (lp:=fun _=>lp j) (kn:=fun i s'=>go i (s'.cutH (C1 s live) live s.st.length)) (kl:=fun s'=>gl (s'.cutH (C1 s live) live s.st.length)) (kr:=fun _=>kr j) (krl:=kr j) (ke:=fun _=>ke j) (kel:=ke j) a (Pg.refl _) (hl' j) (fun _=>hl' j) (fun s r h=>hgo _ r h) (Conv.refl _) (fun i=>Conv.refl _) s' r h
 | .exit id,_,_,_,_,_,_,_,_,_,_,hc,hl,hl',hk,hr,he=>fun s r h=>he id s r h
 | .ret,_,_,_,_,_,_,_,_,_,_,hc,hl,hl',hk,hr,he=>hr
theorem ge {ρ:Type} {cal:E4} {a:AH} {hs:List (Nat×Nat)} {live:List Nat} {n:Nat} {kr:St->Option ρ} {ke:Nat->St->Option ρ} {s:St} {r:ρ}
  (h:FB cal Ic a (fun s''=>Ic (fun go s'=>FB cal Ic a (fun s''=>go (s''.cutH hs live n)) kr ke s') (s''.cutH hs live n)) kr ke s=some r) :
  Ic (fun go s'=>FB cal Ic a (fun s''=>go (s''.cutH hs live n)) kr ke s') s=some r :=
 ZH (F:=fun go s'=>FB cal Ic a (fun s''=>go (s''.cutH hs live n)) kr ke s') (fun go gl hgo s' r h=>Gf (cal:=fun _=>cal) (lp:=fun _=>Ic) (kn:=fun i s'=>go i (s'.cutH hs live n)) (kl:=fun s'=>gl (s'.cutH hs live n)) (kr:=fun _=>kr) (krl:=kr) (ke:=fun _=>ke) (kel:=ke) a (Pg.refl _) di (fun _=>di) (fun s r h=>hgo _ r h) (Conv.refl _) (fun i=>Conv.refl _) s' r h) h
noncomputable def ir (cal:E4) (fn:CC) (args bs:List AV):Option (RT fn.outs) :=
 FB cal Ic fn.body (AK fn) (AK fn) (fun _ _=>none) ⟨MQ 0 (Cn (EG bs) args),BE bs args⟩
noncomputable def cD (fns:Nat->Option CC) (prims:E4):E4:=fun f a b=>Lm fun k=>XR fns prims k f a b
theorem KM {fns:Nat->Option CC} {prims:E4} {f:Nat} {args bs r:List AV} (hf:fns f=none) (h:prims f args bs=some r):cD fns prims f args bs=some r:=by
 refine ik ⟨1,fun k hk=>?_⟩
 cases k with
 | zero=>omega
 | succ k=>simp only [XR,hf,h]
theorem gf {fns:Nat->Option CC} {prims:E4} {f:Nat} {fn:CC} {args bs:List AV} {r:RT fn.outs} (hf:fns f=some fn) (hl:args.length=fn.params.length/\bs.length=(DO fn.params 0).length)
  (h:ir (cD fns prims) fn args bs=some r):cD fns prims f args bs=some (C0 fn.outs r):=by
 have hc:Pg (fun k=>XR fns prims k) (cD fns prims):=fun f a b r h=>dg h
 obtain ⟨m,hm⟩:=Gf (lp:=Kr) (ll:=Ic) fn.body (kn:=fun _=>AK fn) (kr:=fun _=>AK fn) (ke:=fun _ _ _=>none) hc ip dh (Conv.refl _) (Conv.refl _) (fun i=>Conv.refl _) _ r h
 refine ik ⟨m+1,fun k hk=>?_⟩
 cases k with
 | zero=>omega
 | succ k =>
  simp only [XR,hf,if_pos hl]
  have:=hm k (by omega)
  simp only [<- MS] at this
  unfold fK
  rw [this]
  rfl
theorem Ni:∀ (K:Kd) (x:K.T) (r:List AV),K.dec (K.enc x++r)=some (x,r)
 | .int k,x,r=>by simp [Kd.enc,Kd.dec]
 | .bool,x,r=>rfl
 | .str,x,r=>rfl
 | .slice e,x,r=>by simp [Kd.enc,Kd.dec]
 | .pair a b,x,r=>by simp [Kd.enc,Kd.dec,List.append_assoc,Ni a,Ni b]
 | .own t e,x,r=>by simp [Kd.enc,Kd.dec]
 | .ref K,x,r=>by
  have:=Ni K x []
  rw [List.append_nil] at this
  simp [Kd.enc,Kd.dec,this]
 | .fun f,x,r=>by simp [Kd.enc,Kd.dec]
 | .clo f K,x,r=>by simp [Kd.enc,Kd.dec]
theorem ZK (K:Kd) (x:K.T):K.of (K.av x)=some x:=by
 have h:K.ofCells (K.enc x)=some x:=by
  have:=Ni K x []
  rw [List.append_nil] at this
  simp [Kd.ofCells,this]
 unfold Kd.of
 cases K<;>exact h
theorem ZL:∀ (Ks:List Kd) (x:RT Ks),CN Ks (C0 Ks x)=some x
 | [],_=>rfl
 | [K],x=>ZK K x
 | K::L::Ks,x=>by
  simp only [C0,CN,ZK,X]
  rw [ZL (L::Ks) x.2]
  rfl
theorem eZ {fns:Nat->Option CC} {prims:E4} {f:Nat} {fn:CC} {args bs:List AV} {r:RT fn.outs} (hf:fns f=some fn) (hl:args.length=fn.params.length/\bs.length=(DO fn.params 0).length)
  (h:ir (cD fns prims) fn args bs=some r):(cD fns prims f args bs).bind (CN fn.outs)=some r:=by
 rw [gf hf hl h,X,ZL]
theorem iu {P:Program} {fns:Nat->Option CC} {prims:E4} (ht:ig P fns) (hp:HM P prims) {f:Nat} {args:List AV} (h:(cD fns prims f args []).bind (CN [.bool])=some true) {W:World} {cargs:List Value}
  (ha:Ah (VE (Th W)) args cargs):Calls P f cargs.toArray W fun e W'=>e=.returned (.bool true)/\RowKit.Below W.heap.size W W':=by
 cases hq:cD fns prims f args [] with
 | none=>rw [hq] at h; cases h
 | some v =>
  rw [hq,X] at h
  obtain ⟨m,hm⟩:=dg hq
  have hm:=hm m (Nat.le_refl _)
  have e:v=[.bool true]:=by
   match v,h with
   | [a],h =>
    have h:Kd.of .bool a=some true:=h
    unfold Kd.of Kd.ofCells at h
    cases a<;>simp [AV.cells,Kd.dec,AV.fits] at h<;>first | rw [h] | skip
  subst e
  exact ga ht hp hm ha
def kL (f:Nat):List (Nat×CC)->Option CC
 | []=>none
 | (g,a)::r=>if g=f then some a else kL f r
inductive fb (P:Program):List (Nat×CC)->Prop where
 | nil:fb P []
 | cons {f:Nat} {a:CC} {r:List (Nat×CC)} (h:Bi P f a=true) (t:fb P r):fb P ((f,a)::r)
theorem gh {P:Program} {tab:List (Nat×CC)} (h:fb P tab):ig P fun f=>kL f tab:=by
 intro f a hf
 induction h with
 | nil=>cases hf
 | cons h _ ih =>
  simp only [kL] at hf
  split at hf
  ·rename_i e
   cases hf
   rw [<- e]
   exact h
  ·exact ih hf
end Go.Proofs.YtokiohnjegbnpaaGreat.Core

namespace Go.Proofs.YtokiohnjegbnpaaGreat.Core
open Go IntKind
set_option maxRecDepth 100000
noncomputable section
abbrev AF:Kd:=(.pair (.int .i64) (.pair .str (.pair .str (.pair (.int .i64) (.pair (.int .i64) (.pair (.int .i64) (.pair (.int .i64) (.pair (.int .i64) .str))))))))
abbrev Z:Type:=Int×ByteArray×ByteArray×Int×Int×Int×Int×Int×ByteArray
abbrev Am:Kd:=(.pair (.int .i64) (.pair (.int .i64) (.pair (.int .i64) (.pair (.int .i64) (.pair .str .str)))))
abbrev Ay:Type:=Int×Int×Int×Int×ByteArray×ByteArray
abbrev AL:Kd:=(.pair .str (.pair .str (.int .i64)))
abbrev AD:Type:=ByteArray×ByteArray×Int
abbrev Tz:Kd:=(.pair (.int .i64) (.pair (.int .i64) (.pair (.int .i64) (.pair AL (.slice (.int .i64))))))
abbrev iv:Type:=Int×Int×Int×AD×List Int
abbrev U:Kd:=(.pair (.int .i64) (.pair (.int .i64) (.pair .bool (.pair .bool (.pair .bool (.pair .bool (.pair (.slice (.int .i64)) (.pair (.slice AL) (.pair (.int .i64) Tz)))))))))
abbrev O:Type:=Int×Int×Bool×Bool×Bool×Bool×List Int×List AD×Int×Int×Int×Int×AD×List Int
abbrev AO:Kd:=(.pair (.int .i64) (.pair (.int .i64) (.pair (.int .i64) (.pair (.int .i64) (.pair (.int .i64) (.slice AL))))))
abbrev AB:Type:=Int×Int×Int×Int×Int×List AD
abbrev DI:Kd:=(.pair (.slice (.slice (.int .i64))) (.pair (.slice U) (.pair (.slice AO) (.slice AF))))
abbrev AM:Type:=List (List Int)×List O×List AB×List Z
abbrev Ha:Kd:=(.pair (.slice (.int .u8)) (.pair (.int .i64) (.int .i64)))
abbrev Dg:Type:=List Int×Int×Int
abbrev AY:Kd:=(.pair (.slice (.slice (.int .i64))) (.pair (.own 42 U) (.pair (.own 97 AO) (.own 47 AF))))
abbrev ed:Kd:=(.pair (.int .i64) (.pair (.int .i64) (.pair (.int .i64) (.pair AL (.own 3 (.int .i64))))))
abbrev Ph:Kd:=(.pair (.int .i64) (.pair (.int .i64) (.pair .bool (.pair .bool (.pair .bool (.pair .bool (.pair (.own 3 (.int .i64)) (.pair (.own 38 AL) (.pair (.int .i64) ed)))))))))
abbrev Ff:Kd:=(.pair (.int .i64) (.pair (.int .i64) (.pair (.int .i64) AL)))
abbrev B3:Type:=Int×Int×Int×ByteArray×ByteArray×Int
def ee:Nat×List PK×List Kd:=(9,[.bor (.slice (.int .u8))],[.bool])
def Xu:Nat×List PK×List Kd:=(11,[.val (.slice (.slice (.int .i64))),.val (.slice Am)],[DI,(.slice (.int .i64)),.bool])
def LU:Nat×List PK×List Kd:=(13,[.bor U],[.bool])
def aT:Nat×List PK×List Kd:=(15,[.bor (.slice AF)],[.bool])
def Fg:Nat×List PK×List Kd:=(17,[.val AF],[(.int .i64)])
def cE:Nat×List PK×List Kd:=(19,[.bor (.slice AF)],[.bool])
def cH:Nat×List PK×List Kd:=(21,[.bor (.slice AF)],[.bool])
def cI:Nat×List PK×List Kd:=(24,[.bor DI],[.bool])
def Wh:Nat×List PK×List Kd:=(27,[.bor DI],[.bool])
def cJ:Nat×List PK×List Kd:=(29,[.bor DI],[.bool])
def U_:Nat×List PK×List Kd:=(31,[.val (.slice (.int .u8))],[(.slice (.int .i64))])
def aU:Nat×List PK×List Kd:=(33,[.val (.slice (.int .u8))],[(.ref Ha)])
def Xv:Nat×List PK×List Kd:=(34,[.val (.slice (.slice (.int .i64)))],[AY,.bool])
def ZM:Nat×List PK×List Kd:=(35,[.val Am],[.bool])
def T0:Nat×List PK×List Kd:=(36,[.ptr AY,.val Am,.val (.int .i64)],[.bool])
def aV:Nat×List PK×List Kd:=(37,[.val .bool],[(.int .i64)])
def Wi:Nat×List PK×List Kd:=(38,[.val DI],[AY])
def GD:Nat×List PK×List Kd:=(43,[.val (.int .i64)],[.bool])
def Af:Nat×List PK×List Kd:=(44,[.val (.int .i64),.val (.int .i64),.val (.int .i64)],[.bool])
def Mq:Nat×List PK×List Kd:=(45,[.bor (.slice (.int .i64)),.val (.int .i64),.val (.int .i64)],[.bool])
def I8:Nat×List PK×List Kd:=(46,[.bor (.slice AL)],[.bool])
def Rr:Nat×List PK×List Kd:=(47,[.ptr U],[.bool])
def GE:Nat×List PK×List Kd:=(48,[.val AF],[.bool])
def Rs:Nat×List PK×List Kd:=(51,[.ptr AY,.val (.int .i64),.val (.int .i64)],[])
def cK:Nat×List PK×List Kd:=(52,[.bor (.slice AF),.val AF],[.bool])
def Nj:Nat×List PK×List Kd:=(55,[.ptr DI,.val (.int .i64)],[(.slice (.int .i64))])
def C2:Nat×List PK×List Kd:=(57,[.bor (.slice (.int .i64)),.val (.int .i64)],[.bool])
def H8:Nat×List PK×List Kd:=(58,[.bor (.slice AL),.bor (.slice AL)],[.bool])
def FC:Nat×List PK×List Kd:=(61,[.ptr Ha],[(.int .i64)])
def Xw:Nat×List PK×List Kd:=(62,[.ptr Ha,.val (.int .i64)],[(.int .i64)])
def Gg:Nat×List PK×List Kd:=(65,[.bor (.slice (.slice (.int .i64)))],[.bool])
def Oh:Nat×List PK×List Kd:=(66,[.val (.slice (.slice (.int .i64)))],[(.slice (.slice (.int .i64)))])
def Wj:Nat×List PK×List Kd:=(67,[.val (.int .i64),.val (.slice (.slice (.int .i64)))],[U,.bool])
def VD:Nat×List PK×List Kd:=(68,[.val (.int .i64),.val (.int .i64),.val .str,.val .str],[.bool])
def T1:Nat×List PK×List Kd:=(69,[.ptr AY,.val Am,.val (.int .i64)],[.bool])
def T2:Nat×List PK×List Kd:=(70,[.ptr AY,.val Am,.val (.int .i64)],[.bool])
def E8:Nat×List PK×List Kd:=(71,[.ptr AY,.val (.int .i64)],[(.int .i64)])
def dl:Nat×List PK×List Kd:=(72,[.bor U],[Ph])
def Rt:Nat×List PK×List Kd:=(73,[.ptr AY,.val Am,.val (.int .i64)],[.bool])
def H9:Nat×List PK×List Kd:=(74,[.bor (.slice AF)],[(.own 47 AF)])
def Ek:Nat×List PK×List Kd:=(75,[.val U],[U])
def Mr:Nat×List PK×List Kd:=(76,[.val AO],[AO])
def VG:Nat×List PK×List Kd:=(87,[.val .str],[.bool])
def Ea:Nat×List PK×List Kd:=(88,[.mov (.own 97 AO),.val (.int .i64),.val (.int .i64)],[(.own 97 AO)])
def ZN:Nat×List PK×List Kd:=(89,[.val U,.val (.slice (.slice (.int .i64))),.val AO],[U,(.slice AO),(.slice Ff)])
def I9:Nat×List PK×List Kd:=(90,[.ptr AY,.val (.slice AO),.val (.slice Ff),.val (.int .i64)],[])
def F0:Nat×List PK×List Kd:=(91,[.bor (.slice AF),.val (.clo 92 AF)],[.bool])
def I_:Nat×List PK×List Kd:=(95,[.bor (.slice (.int .i64)),.val (.int .i64)],[(.int .i64)])
def CF:Nat×List PK×List Kd:=(99,[.bor (.slice (.int .i64))],[(.own 3 (.int .i64))])
def cL:Nat×List PK×List Kd:=(100,[.val U,.val (.slice (.slice (.int .i64))),.val (.int .i64),.val (.int .i64),.val .str,.val .str],[U,(.slice AO),(.slice Ff),.bool])
def cM:Nat×List PK×List Kd:=(101,[.val U,.val (.slice (.slice (.int .i64))),.val (.int .i64)],[U,(.slice AO),.bool])
def Fh:Nat×List PK×List Kd:=(102,[.bor (.slice U),.val (.clo 103 (.int .i64))],[(.int .i64)])
def Ao:Nat×List PK×List Kd:=(104,[.bor (.slice AL)],[(.own 38 AL)])
def cN:Nat×List PK×List Kd:=(109,[.bor AO],[.bool])
def T3:Nat×List PK×List Kd:=(110,[.ptr U,.val (.slice (.slice (.int .i64))),.val AO],[(.slice AO),(.slice Ff)])
def Gh:Nat×List PK×List Kd:=(111,[.bor (.slice AF),.val (.clo 92 AF)],[(.int .i64)])
def Pi:Nat×List PK×List Kd:=(113,[.ptr U,.val (.slice (.slice (.int .i64)))],[.bool])
def Ti:Nat×List PK×List Kd:=(114,[.bor (.slice AL),.val .str],[AL])
def El:Nat×List PK×List Kd:=(115,[.ptr U,.val (.slice (.int .i64))],[(.slice (.int .i64))])
def Js:Nat×List PK×List Kd:=(116,[.mut (.own 3 (.int .i64))],[])
def Ms:Nat×List PK×List Kd:=(117,[.ptr U],[(.slice Ff)])
def BG:Nat×List PK×List Kd:=(118,[.ptr U,.val (.slice (.int .i64)),.val AO],[(.slice AO)])
def JA:Nat×List PK×List Kd:=(119,[.ptr U],[])
def JB:Nat×List PK×List Kd:=(120,[.ptr U,.val (.slice (.int .i64)),.val (.slice AL)],[(.slice AO)])
def T4:Nat×List PK×List Kd:=(131,[.ptr U,.val (.slice (.slice (.int .i64))),.val AO],[(.slice AO)])
def RE:Nat×List PK×List Kd:=(132,[.ptr U,.val (.slice (.int .i64)),.val AO],[(.slice AO)])
def Ru:Nat×List PK×List Kd:=(133,[.val (.slice (.int .i64)),.val (.int .i64)],[(.slice (.int .i64))])
def TG:Nat×List PK×List Kd:=(134,[.ptr U,.val AO],[(.slice AO)])
def Kx:Nat×List PK×List Kd:=(135,[.ptr U,.val (.int .i64),.val AO],[(.slice Ff)])
def Du:Nat×List PK×List Kd:=(137,[.mut (.own 3 (.int .i64)),.val (.int .i64),.val (.int .i64),.val (.int .i64)],[])
def Xx:Nat×List PK×List Kd:=(138,[.val (.int .u64)],[(.int .i64)])
def Rv:Nat×List PK×List Kd:=(139,[.bor (.slice AL),.val AL],[(.own 38 AL)])
def MT:Nat×List PK×List Kd:=(144,[.mov (.own 3 (.int .i64)),.val (.clo 145 (.int .i64))],[(.own 3 (.int .i64))])
def It:Nat×List PK×List Kd:=(148,[.mut (.own 3 (.int .i64)),.val (.int .i64),.val (.int .i64)],[])
def LV:Nat×List PK×List Kd:=(149,[.mut (.own 3 (.int .i64)),.val (.int .i64),.val (.int .i64)],[])
def Iu:Nat×List PK×List Kd:=(150,[.mut (.own 3 (.int .i64)),.val (.int .i64),.val (.int .i64)],[])
def Jq:Nat×List PK×List Kd:=(151,[.mut (.own 3 (.int .i64)),.val (.int .i64),.val (.int .i64)],[(.int .i64),(.int .i64)])
def JC:Nat×List PK×List Kd:=(152,[.mut (.own 3 (.int .i64)),.val (.int .i64),.val (.int .i64)],[])
def GG:Nat×List PK×List Kd:=(153,[.mut (.own 3 (.int .i64)),.val (.int .i64),.val (.int .i64)],[.bool])
def Rw:Nat×List PK×List Kd:=(154,[.val (.int .i64),.val (.int .i64)],[.bool])
def H_:Nat×List PK×List Kd:=(155,[.mut (.own 3 (.int .i64)),.val (.int .i64),.val (.int .i64),.val (.int .i64)],[(.int .i64)])
def Ky:Nat×List PK×List Kd:=(156,[.mut (.own 3 (.int .i64)),.val (.int .i64),.val (.int .i64),.val (.int .i64)],[(.int .i64),.bool])
def VH:Nat×List PK×List Kd:=(157,[.val (.int .u32)],[(.int .i64)])
def VI:Nat×List PK×List Kd:=(158,[.val (.int .u64)],[(.int .i64)])
def Dv:Nat×List PK×List Kd:=(159,[.bor (.slice AL),.val .str,.val (.fun 160)],[(.int .i64),.bool])
def VJ:Nat×List PK×List Kd:=(161,[.val .str,.val .str],[(.int .i64)])
def Hc:Nat×List PK×List Kd:=(162,[.mov (.own 38 AL),.val (.int .i64),.mov (.own 38 AL)],[(.own 38 AL)])
def QD:Nat×List PK×List Kd:=(169,[.val (.int .i64)],[.bool])
abbrev m9 { ρ:Type} (t W:Option ρ):Prop:=∀ { r},t=some r->W=some r
abbrev S6 {A0 ρ:Type} (t W:A0->Option ρ):Prop:=∀ {a0 r},t a0=some r->W a0=some r
abbrev VK {A0 A1 ρ:Type} (t W:A0->A1->Option ρ):Prop:=∀ {a0 a1 r},t a0 a1=some r->W a0 a1=some r
abbrev VL {A0 A1 A2 ρ:Type} (t W:A0->A1->A2->Option ρ):Prop:=∀ {a0 a1 a2 r},t a0 a1 a2=some r->W a0 a1 a2=some r
abbrev aW {A0 A1 A2 A3 ρ:Type} (t W:A0->A1->A2->A3->Option ρ):Prop:=∀ {a0 a1 a2 a3 r},t a0 a1 a2 a3=some r->W a0 a1 a2 a3=some r
abbrev lr {A0 A1 A2 A3 A4 ρ:Type} (t W:A0->A1->A2->A3->A4->Option ρ):Prop:=∀ {a0 a1 a2 a3 a4 r},t a0 a1 a2 a3 a4=some r->W a0 a1 a2 a3 a4=some r
abbrev ja {A0 A1 A2 A3 A4 A5 ρ:Type} (t W:A0->A1->A2->A3->A4->A5->Option ρ):Prop:=∀ {a0 a1 a2 a3 a4 a5 r},t a0 a1 a2 a3 a4 a5=some r->W a0 a1 a2 a3 a4 a5=some r
abbrev mS {A0 A1 A2 A3 A4 A5 A6 ρ:Type} (t W:A0->A1->A2->A3->A4->A5->A6->Option ρ):Prop:=∀ {a0 a1 a2 a3 a4 a5 a6 r},t a0 a1 a2 a3 a4 a5 a6=some r->W a0 a1 a2 a3 a4 a5 a6=some r
abbrev lE {A0 A1 A2 A3 A4 A5 A6 A7 ρ:Type} (t W:A0->A1->A2->A3->A4->A5->A6->A7->Option ρ):Prop:=∀ {a0 a1 a2 a3 a4 a5 a6 a7 r},t a0 a1 a2 a3 a4 a5 a6 a7=some r->W a0 a1 a2 a3 a4 a5 a6 a7=some r
abbrev mT {A0 A1 A2 A3 A4 A5 A6 A7 A8 ρ:Type} (t W:A0->A1->A2->A3->A4->A5->A6->A7->A8->Option ρ):Prop:=∀ {a0 a1 a2 a3 a4 a5 a6 a7 a8 r},t a0 a1 a2 a3 a4 a5 a6 a7 a8=some r->W a0 a1 a2 a3 a4 a5 a6 a7 a8=some r
abbrev gj {A0 A1 A2 A3 A4 A5 A6 A7 A8 A9 ρ:Type} (t W:A0->A1->A2->A3->A4->A5->A6->A7->A8->A9->Option ρ):Prop:=∀ {a0 a1 a2 a3 a4 a5 a6 a7 a8 a9 r},t a0 a1 a2 a3 a4 a5 a6 a7 a8 a9=some r->W a0 a1 a2 a3 a4 a5 a6 a7 a8 a9=some r
abbrev mr {A0 A1 A2 A3 A4 A5 A6 A7 A8 A9 A10 ρ:Type} (t W:A0->A1->A2->A3->A4->A5->A6->A7->A8->A9->A10->Option ρ):Prop:=∀ {a0 a1 a2 a3 a4 a5 a6 a7 a8 a9 a10 r},t a0 a1 a2 a3 a4 a5 a6 a7 a8 a9 a10=some r->W a0 a1 a2 a3 a4 a5 a6 a7 a8 a9 a10=some r
abbrev lu {A0 A1 A2 A3 A4 A5 A6 A7 A8 A9 A10 A11 ρ:Type} (t W:A0->A1->A2->A3->A4->A5->A6->A7->A8->A9->A10->A11->Option ρ):Prop:=∀ {a0 a1 a2 a3 a4 a5 a6 a7 a8 a9 a10 a11 r},t a0 a1 a2 a3 a4 a5 a6 a7 a8 a9 a10 a11=some r->W a0 a1 a2 a3 a4 a5 a6 a7 a8 a9 a10 a11=some r
abbrev mU {A0 A1 A2 A3 A4 A5 A6 A7 A8 A9 A10 A11 A12 A13 A14 ρ:Type} (t W:A0->A1->A2->A3->A4->A5->A6->A7->A8->A9->A10->A11->A12->A13->A14->Option ρ):Prop:=∀ {a0 a1 a2 a3 a4 a5 a6 a7 a8 a9 a10 a11 a12 a13 a14 r},t a0 a1 a2 a3 a4 a5 a6 a7 a8 a9 a10 a11 a12 a13 a14=some r->W a0 a1 a2 a3 a4 a5 a6 a7 a8 a9 a10 a11 a12 a13 a14=some r

def Jt:AH:=(.seq (.region [.m 52 6,.m 53 5,.idx 54 1 (.t 53) (.i 0),.l 55 54,.b 56 .neq 52 55,.m 57 56,.sc 57 true [.m 58 3,.m 59 6,.bin 60 .add (.i 5) (.t 59),.idx 61 1 (.t 58) (.t 60),.l 62 61,.bin 63 .rem (.t 62) (.i 2),.bin 64 .eql (.t 63) (.i 0)] 65 (.t 64) (.c (.bool false))] [3,4,5,6,65]) (.cond (.t 65) (.region [.m 66 5,.m 67 6,.blst 68 (.int .i64) [.t 67],.app 69 3 (.int .i64) (.t 66) (.t 68),.m 5 69] [3,4,5,6]) .skip))
def Ju:AH:=(.region [.m 32 6,.bin 33 .add (.t 32) (.i 1),.m 6 33] [3,4,5,6])
def Jv:AH:=(.seq (.seq (.region [.m 30 6,.bin 31 .leq (.t 30) (.i 3)] [3,4,5,6,31]) (.cond (.t 31) .skip (.exit 0))) (.seq (.block 1 [3,4,5,6] (.seqc [3,4,5,6] (.seq (.region [.m 34 6,.m 35 4,.idx 36 1 (.t 35) (.i 0),.l 37 36,.b 38 .neq 34 37,.m 39 38,.sc 39 true [.m 40 3,.m 41 6,.bin 42 .add (.i 2) (.t 41),.idx 43 1 (.t 40) (.t 42),.l 44 43,.bin 45 .rem (.t 44) (.i 2),.bin 46 .eql (.t 45) (.i 0)] 47 (.t 46) (.c (.bool false))] [3,4,5,6,47]) (.cond (.t 47) (.region [.m 48 4,.m 49 6,.blst 50 (.int .i64) [.t 49],.app 51 3 (.int .i64) (.t 48) (.t 50),.m 4 51] [3,4,5,6]) .skip)) Jt)) Ju))
def JD:AH:=(.seq (.seq (.region [.m 79 10,.bin 80 .lss (.t 79) (.i 10)] [5,7,8,9,10,80]) (.cond (.t 80) .skip (.exit 2))) (.seq (.block 3 [5,7,8,9,10] (.region [.m 83 9,.bu 84 Am [(0,1,.c (.int .i64 2)),(1,1,.c (.int .i64 1))],.blst 85 Am [.t 84],.app 86 55 Am (.t 83) (.t 85),.m 9 86] [5,7,8,9,10])) (.region [.m 81 10,.bin 82 .add (.t 81) (.i 1),.m 10 82] [5,7,8,9,10])))
def Fi:AH:=(.seq (.region [.m 87 8,.m 88 9,.app 89 55 Am (.t 87) (.t 88),.m 8 89] [5,7,8,9]) (.seq (.region [.m 90 8,.m 91 5,.idx 92 1 (.t 91) (.i 0),.l 93 92,.bu 94 Am [(0,1,.c (.int .i64 5)),(1,1,.t 93)],.blst 95 Am [.t 94],.app 96 55 Am (.t 90) (.t 95),.m 8 96] [5,7,8,9]) (.seq (.region [.m 97 8,.m 98 9,.app 99 55 Am (.t 97) (.t 98),.m 8 99] [5,7,8,9]) (.seq (.region [.m 100 8,.m 101 5,.idx 102 1 (.t 101) (.i 0),.l 103 102,.bu 104 Am [(0,1,.c (.int .i64 1)),(1,1,.t 103),(3,1,.c (.int .i64 2)),(4,1,.c (.str ⟨#[97]⟩))],.blst 105 Am [.t 104],.app 106 55 Am (.t 100) (.t 105),.m 8 106] [7,8,9]) (.seq (.region [.m 107 8,.m 108 9,.app 109 55 Am (.t 107) (.t 108),.m 8 109] [7,8]) (.seq (.region [.m 111 7,.m 112 8,.cl 113 [111,112] Xu,.m 110 113,.ext 114 (.t 110) 0,.ext 115 (.t 110) 1,.ext 116 (.t 110) 2,.al 11 DI,.store (.t 11) (.t 114) 4 false,.m 12 115,.m 13 116] [11,13]) (.seq (.region [.m 117 13,.m 118 117,.sc 118 true [.f 119 11 3,.l 120 119,.len 121 false (.t 120),.bin 122 .eql (.t 121) (.i 2)] 123 (.t 122) (.c (.bool false)),.m 124 123,.sc 124 true [.f 125 11 3,.l 126 125,.idx 127 9 (.t 126) (.i 0),.f 128 127 4,.l 129 128,.bin 130 .geq (.t 129) (.i 0)] 131 (.t 130) (.c (.bool false)),.m 132 131,.sc 132 true [.f 133 11 3,.l 134 133,.idx 135 9 (.t 134) (.i 1),.f 136 135 4,.l 137 136,.bin 138 .geq (.t 137) (.i 0)] 139 (.t 138) (.c (.bool false)),.m 140 139,.sc 140 true [.f 141 11 3,.l 142 141,.idx 143 9 (.t 142) (.i 1),.f 144 143 8,.l 145 144,.bin 146 .eql (.t 145) (.c (.str ⟨#[111,110,101]⟩))] 147 (.t 146) (.c (.bool false)),.m 148 147,.sc 148 true [.f 149 11 3,.l 150 149,.idx 151 9 (.t 150) (.i 1),.f 152 151 5,.l 153 152,.bin 154 .eql (.t 153) (.i 1001)] 155 (.t 154) (.c (.bool false)),.m 156 155,.sc 156 true [.f 157 11 3,.l 158 157,.idx 159 9 (.t 158) (.i 1),.f 160 159 6,.l 161 160,.bin 162 .eql (.t 161) (.i 2)] 163 (.t 162) (.c (.bool false)),.m 164 163,.sc 164 true [.ls 165 11 4,.cl 166 [165] cI] 167 (.t 166) (.c (.bool false)),.m 168 167,.sc 168 true [.f 169 11 2,.l 170 169,.len 171 false (.t 170),.bin 172 .eql (.t 171) (.i 0)] 173 (.t 172) (.c (.bool false)),.m 2 173] [2]) .ret)))))))
def Fj:AH:=(.seq (.region [.m 70 4,.m 71 5,.brow 72 33 (.slice (.int .i64)) [.t 70,.t 71],.m 7 72] [4,5,7]) (.seq (.region [.m 73 4,.idx 74 1 (.t 73) (.i 0),.l 75 74,.bu 76 Am [(0,1,.c (.int .i64 1)),(1,1,.t 75),(3,1,.c (.int .i64 1)),(4,1,.c (.str ⟨#[97]⟩)),(5,1,.c (.str ⟨#[111,110,101]⟩))],.brow 77 55 Am [.t 76],.m 8 77] [5,7,8]) (.seq (.region [.brow 78 55 Am [],.m 9 78] [5,7,8,9]) (.seq (.seq (.region [.mv 10 (.i 0)] [5,7,8,9,10]) (.block 2 [5,7,8,9] (.loop [5,7,8,9,10] JD))) Fi))))
def AU:CC:=⟨[.val (.slice (.int .u8))],[⟨2,false,.bool⟩],(.seq (.region [.mv 2 (.c (.bool false))] [0]) (.seq (.seq (.region [.m 14 0,.cl 15 [14] ee] [0,15]) (.cond (.t 15) (.seq (.region [.mv 2 (.c (.bool true))] [2]) .ret) .skip)) (.seq (.region [.m 16 0,.cl 17 [16] U_,.m 3 17] [3]) (.seq (.region [.m 18 3,.idx 19 1 (.t 18) (.i 0),.l 20 19,.bin 21 .rem (.t 20) (.i 3),.bin 22 .add (.i 1) (.t 21),.brow 23 3 (.int .i64) [.t 22],.m 4 23] [3,4]) (.seq (.region [.m 24 3,.idx 25 1 (.t 24) (.i 1),.l 26 25,.bin 27 .rem (.t 26) (.i 3),.bin 28 .add (.i 1) (.t 27),.brow 29 3 (.int .i64) [.t 28],.m 5 29] [3,4,5]) (.seq (.seq (.region [.mv 6 (.i 1)] [3,4,5,6]) (.block 0 [4,5] (.loop [3,4,5,6] Jv))) Fj))))))⟩
theorem TH:Bi Tryz.prog 8 AU=true:=by kernel_rfl
def Pj:CC:=⟨[.val (.slice (.int .u8))],[⟨2,false,.bool⟩],(.seq (.region [.mv 2 (.c (.bool false))] [0]) (.seq (.region [.m 3 0,.len 4 false (.t 3),.bin 5 .gtr (.t 4) (.i 1048576),.m 2 5] [2]) .ret))⟩
theorem en:Bi Tryz.prog 9 Pj=true:=by kernel_rfl
def Nk:AH:=(.seq (.region [.b 31 .lss 30 29] [1,4,7,28,29,30,31]) (.seq (.cond (.t 31) .skip (.exit 0)) (.seq (.block 1 [1,4,7,28,29,30] (.seq (.region [.idx 32 6 (.t 28) (.t 30),.ls 33 32 6,.al 10 Am,.store (.t 10) (.t 33) 6 false] [1,4,7,10,28,29,30]) (.seq (.region [.ls 34 10 6,.cl 35 [34] ZM,.un 36 .not (.t 35)] [1,4,7,28,29,30,36]) (.cond (.t 36) (.seq (.region [.build 37 [.nil,.nil,.nil,.nil] [],.store (.t 4) (.t 37) 4 false,.mv 5 (.c (.nil)),.mv 6 (.c (.bool false))] [4,5,6]) .ret) .skip)))) (.region [.bin 38 .add (.t 30) (.i 1),.m 30 38] [1,4,7,28,29,30]))))
def Mt:AH:=(.seq (.region [.b 42 .lss 41 40] [4,7,11,39,40,41,42]) (.seq (.cond (.t 42) .skip (.exit 2)) (.seq (.block 3 [4,7,11,39,40,41] (.seq (.region [.m 43 41,.idx 44 6 (.t 39) (.t 41),.ls 45 44 6,.al 13 Am,.m 12 43,.store (.t 13) (.t 45) 6 false] [4,7,11,12,13,39,40,41]) (.seq (.region [.ls 46 13 6,.m 47 12,.cl 48 [7,46,47] T0,.m 14 48] [4,7,11,14,39,40,41]) (.region [.m 49 11,.m 50 14,.cl 51 [50] aV,.blst 52 (.int .i64) [.t 51],.app 53 3 (.int .i64) (.t 49) (.t 52),.m 11 53] [4,7,11,39,40,41])))) (.region [.bin 54 .add (.t 41) (.i 1),.m 41 54] [4,7,11,39,40,41]))))
def Mu:AH:=(.seq (.region [.ls 55 7 4,.cl 56 [55] Wi,.m 57 11,.store (.t 4) (.t 56) 4 false,.m 5 57,.mv 6 (.c (.bool true))] [4,5,6]) .ret)
def IC:AH:=(.seq (.region [.nilrow 11 3 (.int .i64)] [1,4,7,11]) (.seq (.seq (.region [.m 39 1,.len 40 false (.t 39),.mv 41 (.i 0)] [4,7,11,39,40,41]) (.block 2 [4,7,11] (.loop [4,7,11,39,40,41] Mt))) Mu))
def Mv:AH:=(.seq (.seq (.region [.m 28 1,.len 29 false (.t 28),.mv 30 (.i 0)] [1,4,7,28,29,30]) (.block 0 [1,4,7] (.loop [1,4,7,28,29,30] Nk))) IC)
def Ar:CC:=⟨[.val (.slice (.slice (.int .i64))),.val (.slice Am)],[⟨4,true,DI⟩,⟨5,false,(.slice (.int .i64))⟩,⟨6,false,.bool⟩],(.seq (.region [.al 4 AY,.mv 5 (.c (.nil)),.mv 6 (.c (.bool false))] [0,1,4]) (.seq (.region [.m 16 0,.cl 17 [16] Xv,.m 15 17,.ext 18 (.t 15) 0,.ext 19 (.t 15) 1,.al 7 AY,.store (.t 7) (.t 18) 4 false,.m 8 19] [1,4,7,8]) (.seq (.seq (.region [.m 20 8,.un 21 .not (.t 20),.m 22 21,.sc 22 false [.m 23 1,.len 24 false (.t 23),.bin 25 .gtr (.t 24) (.i 70)] 26 (.c (.bool true)) (.t 25)] [1,4,7,26]) (.cond (.t 26) (.seq (.region [.build 27 [.nil,.nil,.nil,.nil] [],.store (.t 4) (.t 27) 4 false,.mv 5 (.c (.nil)),.mv 6 (.c (.bool false))] [4,5,6]) .ret) .skip)) Mv)))⟩
theorem Xy:Bi Tryz.prog 11 Ar=true:=by kernel_rfl
def Nl:AH:=(.seq (.seq (.region [.f 31 1 5,.l 32 31,.m 33 32,.sc 33 true [.f 34 1 3,.l 35 34,.un 36 .not (.t 35),.m 37 36,.sc 37 false [.f 38 1 4,.l 39 38,.un 40 .not (.t 39)] 41 (.c (.bool true)) (.t 40),.m 42 41,.sc 42 false [.f 43 1 6,.l 44 43,.len 45 false (.t 44),.bin 46 .gtr (.t 45) (.i 0)] 47 (.c (.bool true)) (.t 46)] 48 (.t 47) (.c (.bool false)),.m 49 48,.sc 49 false [.f 50 1 2,.l 51 50,.m 52 51,.sc 52 true [.f 53 1 3,.l 54 53,.m 55 54,.sc 55 false [.f 56 1 4,.l 57 56] 58 (.c (.bool true)) (.t 57)] 59 (.t 58) (.c (.bool false))] 60 (.c (.bool true)) (.t 59)] [1,60]) (.cond (.t 60) (.seq (.region [.mv 2 (.c (.bool false))] [2]) .ret) .skip)) (.seq (.region [.cl 61 [1] Rr,.m 2 61] [2]) .ret))
def Ee:CC:=⟨[.val U],[⟨2,false,.bool⟩],(.seq (.region [.box 1 (.t 0) false,.mv 2 (.c (.bool false))] [1]) (.seq (.seq (.region [.f 3 1 0,.l 4 3,.cl 5 [4] GD,.un 6 .not (.t 5),.m 7 6,.sc 7 false [.f 8 1 1,.l 9 8,.cx (some 10) [.t 9,.c (.int .i64 1),.c (.int .i64 9)] Af,.un 11 .not (.t 10)] 12 (.c (.bool true)) (.t 11),.m 13 12,.sc 13 false [.f 14 1 6,.l 15 14,.cx (some 16) [.t 15,.c (.int .i64 1),.c (.int .i64 6)] Mq,.un 17 .not (.t 16)] 18 (.c (.bool true)) (.t 17),.m 19 18,.sc 19 false [.f 20 1 7,.l 21 20,.cl 22 [21] I8,.un 23 .not (.t 22)] 24 (.c (.bool true)) (.t 23),.m 25 24,.sc 25 false [.f 26 1 8,.l 27 26,.cx (some 28) [.t 27,.c (.int .i64 0),.c (.int .i64 900)] Af,.un 29 .not (.t 28)] 30 (.c (.bool true)) (.t 29)] [1,30]) (.cond (.t 30) (.seq (.region [.mv 2 (.c (.bool false))] [2]) .ret) .skip)) Nl))⟩
theorem Xz:Bi Tryz.prog 13 Ee=true:=by kernel_rfl
def QE:DT:=(.tg 39 false 18 [.pick 51 (.t 45) (.t 50) (.c (.bool false))] (.tk 19 [.pick 52 (.t 39) (.c (.bool true)) (.t 51)] .done))
def QF:AH:=(.seq (.draw (Ki 19 [(2,[]),(3,[1,2]),(8,[5]),(10,[7,9]),(14,[11]),(15,[13,14])]) (.tk 1 [.ls 34 4 9] (.tk 3 [.ls 36 6 9] (.only 1 none (.cl 35 [34] Fg) false [] (.only 3 none (.cl 37 [36] Fg) false [] (.tk 6 [.m 39 38,.b 38 .eql 35 37] (.test 39 (.sk 39 false 6 12 46 (.sk 45 true 5 17 51 (.sk 39 false 1 18 52 (.tk 19 [.pick 52 (.t 39) (.c (.bool true)) (.t 51)] .done)))) (.tg 39 false 12 [.m 45 44,.b 44 .lss 41 43,.l 43 42,.f 42 6 3,.l 41 40,.f 40 4 4] (.test 45 (.tg 45 true 13 [.ls 46 4 9] (.tg 45 true 15 [.ls 48 6 9] (.only 13 (some (45,true)) (.cl 47 [46] Fg) false [] (.only 15 (some (45,true)) (.cl 49 [48] Fg) false [] (.tg 45 true 17 [.b 50 .gtr 47 49] QE))))) (.sk 45 true 5 17 51 QE))))))))) [0,3,4,7,8,9,14,15,16,52]) (.cond (.t 52) (.seq (.region [.mv 2 (.c (.bool false))] [2]) .ret) .skip))
def QG:AH:=(.region [.bin 53 .add (.t 16) (.i 1),.m 16 53] [0,3,4,7,8,9,14,15,16])
def QH:AH:=(.seq (.region [.b 17 .lss 16 15] [0,3,4,7,8,9,14,15,16,17]) (.seq (.cond (.t 17) .skip (.exit 2)) (.seq (.block 3 [0,3,4,7,8,9,14,15,16] (.seq (.region [.m 18 16,.idx 19 9 (.t 14) (.t 16),.ls 20 19 9,.al 6 AF,.m 5 18,.store (.t 6) (.t 20) 9 false] [0,3,4,5,6,7,8,9,14,15,16]) (.seq (.seq (.region [.m 21 3,.m 22 5,.b 23 .eql 21 22,.m 24 23,.sc 24 false [.ls 25 4 9,.cl 26 [25] GE,.un 27 .not (.t 26)] 28 (.c (.bool true)) (.t 27),.m 29 28,.sc 29 false [.ls 30 6 9,.cl 31 [30] GE,.un 32 .not (.t 31)] 33 (.c (.bool true)) (.t 32)] [0,3,4,6,7,8,9,14,15,16,33]) (.cond (.t 33) (.exit 3) .skip)) QF))) QG)))
def Oi:AH:=(.region [.bin 54 .add (.t 9) (.i 1),.m 9 54] [0,7,8,9])
def Oj:AH:=(.seq (.region [.b 10 .lss 9 8] [0,7,8,9,10]) (.seq (.cond (.t 10) .skip (.exit 0)) (.seq (.block 1 [0,7,8,9] (.seq (.region [.m 11 9,.idx 12 9 (.t 7) (.t 9),.ls 13 12 9,.al 4 AF,.m 3 11,.store (.t 4) (.t 13) 9 false] [0,3,4,7,8,9]) (.seq (.region [.m 14 0,.len 15 false (.t 14),.mv 16 (.i 0)] [0,3,4,7,8,9,14,15,16]) (.block 2 [0,7,8,9] (.loop [0,3,4,7,8,9,14,15,16] QH))))) Oi)))
def Ok:AH:=(.seq (.region [.mv 2 (.c (.bool true))] [2]) .ret)
def B2:CC:=⟨[.val (.slice AF)],[⟨2,false,.bool⟩],(.seq (.region [.mv 2 (.c (.bool false))] [0]) (.seq (.seq (.region [.m 7 0,.len 8 false (.t 7),.mv 9 (.i 0)] [0,7,8,9]) (.block 0 [] (.loop [0,7,8,9] Oj))) Ok))⟩
theorem aX:Bi Tryz.prog 15 B2=true:=by kernel_rfl
def MU:CC:=⟨[.val AF],[⟨2,false,(.int .i64)⟩],(.seq (.region [.box 1 (.t 0) false,.mv 2 (.i 0)] [1]) (.seq (.seq (.region [.f 3 1 6,.l 4 3,.cx (some 5) [.t 4,.c (.int .i64 0),.c (.int .i64 9)] Af,.un 6 .not (.t 5),.m 7 6,.sc 7 false [.f 8 1 7,.l 9 8,.cx (some 10) [.t 9,.c (.int .i64 0),.c (.int .i64 999)] Af,.un 11 .not (.t 10)] 12 (.c (.bool true)) (.t 11)] [1,12]) (.cond (.t 12) (.seq (.region [.mv 2 (.i 0)] [2]) .ret) .skip)) (.seq (.region [.f 13 1 6,.l 14 13,.bin 15 .mul (.i 1000) (.t 14),.f 16 1 7,.l 17 16,.b 18 .add 15 17,.m 2 18] [2]) .ret)))⟩
theorem cO:Bi Tryz.prog 17 MU=true:=by kernel_rfl
def Rx:AH:=(.seq (.seq (.region [.f 19 4 5,.l 20 19,.bin 21 .eql (.t 20) (.i 0)] [0,4,5,6,7,21]) (.cond (.t 21) (.seq (.seq (.region [.f 22 4 8,.l 23 22,.bin 24 .neq (.t 23) (.c (.str ⟨#[]⟩))] [0,5,6,7,24]) (.cond (.t 24) (.seq (.region [.mv 2 (.c (.bool false))] [2]) .ret) .skip)) (.exit 1)) .skip)) (.seq (.draw (Ki 11 [(1,[]),(2,[0,1]),(7,[4]),(9,[6,8])]) (.tk 2 [.ls 26 4 9,.m 25 0] (.only 2 none (.cl 27 [25,26] cK) false [] (.tk 5 [.m 29 28,.un 28 .not (.t 27)] (.test 29 (.sk 29 false 5 10 35 (.tk 11 [.pick 35 (.t 29) (.c (.bool true)) (.t 34)] .done)) (.tg 29 false 8 [.ls 32 4 9,.l 31 30,.f 30 4 5] (.only 8 (some (29,false)) (.cl 33 [32] Fg) false [] (.tg 29 false 10 [.b 34 .gtr 31 33] (.tk 11 [.pick 35 (.t 29) (.c (.bool true)) (.t 34)] .done)))))))) [0,5,6,7,35]) (.cond (.t 35) (.seq (.region [.mv 2 (.c (.bool false))] [2]) .ret) .skip)))
def Ry:AH:=(.region [.bin 36 .add (.t 7) (.i 1),.m 7 36] [0,5,6,7])
def QI:AH:=(.seq (.region [.b 8 .lss 7 6] [0,5,6,7,8]) (.seq (.cond (.t 8) .skip (.exit 0)) (.seq (.block 1 [0,5,6,7] (.seq (.region [.idx 9 9 (.t 5) (.t 7),.ls 10 9 9,.al 4 AF,.store (.t 4) (.t 10) 9 false] [0,4,5,6,7]) (.seq (.seq (.region [.f 11 4 0,.l 12 11,.bin 13 .neq (.t 12) (.i 2),.m 14 13,.sc 14 false [.ls 15 4 9,.cl 16 [15] GE,.un 17 .not (.t 16)] 18 (.c (.bool true)) (.t 17)] [0,4,5,6,7,18]) (.cond (.t 18) (.exit 1) .skip)) Rx))) Ry)))
def QJ:AH:=(.seq (.region [.mv 2 (.c (.bool true))] [2]) .ret)
def DJ:CC:=⟨[.val (.slice AF)],[⟨2,false,.bool⟩],(.seq (.region [.mv 2 (.c (.bool false))] [0]) (.seq (.seq (.region [.m 5 0,.len 6 false (.t 5),.mv 7 (.i 0)] [0,5,6,7]) (.block 0 [] (.loop [0,5,6,7] QI))) QJ))⟩
theorem cQ:Bi Tryz.prog 19 DJ=true:=by kernel_rfl
def QK:DT:=(.sk 47 true 5 25 53 (.tk 27 [.m 7 53,.pick 53 (.t 47) (.t 52) (.c (.bool false))] .done))
def QL:DT:=(.sk 43 true 2 18 46 (.tk 20 [.m 47 46,.pick 46 (.t 43) (.t 45) (.c (.bool false))] QK))
def QM:DT:=(.tg 36 true 14 [.b 41 .eql 38 40,.l 40 39,.f 39 4 1,.l 38 37,.f 37 6 1] (.tk 16 [.m 43 42,.pick 42 (.t 36) (.t 41) (.c (.bool false))] (.test 43 (.tg 43 true 17 [.ls 44 6 9] (.only 17 (some (43,true)) (.cl 45 [44] GE) false [] (.tk 20 [.m 47 46,.pick 46 (.t 43) (.t 45) (.c (.bool false))] (.test 47 (.tg 47 true 21 [.ls 48 6 9] (.tg 47 true 23 [.ls 50 4 9] (.only 21 (some (47,true)) (.cl 49 [48] Fg) false [] (.only 23 (some (47,true)) (.cl 51 [50] Fg) false [] (.tg 47 true 25 [.b 52 .lss 49 51] (.tk 27 [.m 7 53,.pick 53 (.t 47) (.t 52) (.c (.bool false))] .done)))))) QK)))) QL)))
def QN:AH:=(.seq (.region [.m 54 7,.m 55 54,.sc 55 true [.f 56 4 5,.l 57 56,.f 58 6 5,.l 59 58,.b 60 .lss 57 59] 61 (.t 60) (.c (.bool false))] [0,4,8,9,10,22,23,24,61]) (.cond (.t 61) (.seq (.region [.mv 2 (.c (.bool false))] [2]) .ret) .skip))
def QO:AH:=(.region [.bin 62 .add (.t 24) (.i 1),.m 24 62] [0,4,8,9,10,22,23,24])
def QP:AH:=(.seq (.region [.b 25 .lss 24 23] [0,4,8,9,10,22,23,24,25]) (.seq (.cond (.t 25) .skip (.exit 2)) (.seq (.block 3 [0,4,8,9,10,22,23,24] (.seq (.region [.idx 26 9 (.t 22) (.t 24),.ls 27 26 9,.al 6 AF,.store (.t 6) (.t 27) 9 false] [0,4,6,8,9,10,22,23,24]) (.seq (.draw (Ki 27 [(11,[8]),(13,[10,12]),(22,[19]),(23,[21,22])]) (.tk 4 [.m 31 30,.bin 30 .eql (.t 29) (.i 1),.l 29 28,.f 28 6 0] (.test 31 (.sk 31 false 3 7 35 (.tk 9 [.m 36 35,.pick 35 (.t 31) (.c (.bool true)) (.t 34)] QM)) (.tg 31 false 7 [.bin 34 .eql (.t 33) (.i 2),.l 33 32,.f 32 6 0] (.tk 9 [.m 36 35,.pick 35 (.t 31) (.c (.bool true)) (.t 34)] (.test 36 QM (.sk 36 true 5 14 42 (.tk 16 [.m 43 42,.pick 42 (.t 36) (.t 41) (.c (.bool false))] QL))))))) [0,4,6,7,8,9,10,22,23,24]) QN))) QO)))
def QQ:AH:=(.region [.bin 63 .add (.t 10) (.i 1),.m 10 63] [0,8,9,10])
def QR:AH:=(.seq (.region [.b 11 .lss 10 9] [0,8,9,10,11]) (.seq (.cond (.t 11) .skip (.exit 0)) (.seq (.block 1 [0,8,9,10] (.seq (.region [.idx 12 9 (.t 8) (.t 10),.ls 13 12 9,.al 4 AF,.store (.t 4) (.t 13) 9 false] [0,4,8,9,10]) (.seq (.seq (.region [.f 14 4 0,.l 15 14,.bin 16 .neq (.t 15) (.i 2),.m 17 16,.sc 17 false [.ls 18 4 9,.cl 19 [18] GE,.un 20 .not (.t 19)] 21 (.c (.bool true)) (.t 20)] [0,4,8,9,10,21]) (.cond (.t 21) (.exit 1) .skip)) (.seq (.region [.m 22 0,.len 23 false (.t 22),.mv 24 (.i 0)] [0,4,8,9,10,22,23,24]) (.block 2 [0,8,9,10] (.loop [0,4,8,9,10,22,23,24] QP)))))) QQ)))
def QS:AH:=(.seq (.region [.mv 2 (.c (.bool true))] [2]) .ret)
def CG:CC:=⟨[.val (.slice AF)],[⟨2,false,.bool⟩],(.seq (.region [.mv 2 (.c (.bool false))] [0]) (.seq (.seq (.region [.m 8 0,.len 9 false (.t 8),.mv 10 (.i 0)] [0,8,9,10]) (.block 0 [] (.loop [0,8,9,10] QR))) QS))⟩
theorem cR:Bi Tryz.prog 21 CG=true:=by kernel_rfl
def MV:CC:=⟨[.val DI],[⟨2,false,.bool⟩],(.seq (.region [.box 1 (.t 0) true,.mv 2 (.c (.bool false))] [1]) (.seq (.region [.f 3 1 3,.l 4 3,.cl 5 [4] aT,.m 6 5,.sc 6 true [.f 7 1 3,.l 8 7,.cl 9 [8] cE] 10 (.t 9) (.c (.bool false)),.m 11 10,.sc 11 true [.f 12 1 3,.l 13 12,.cl 14 [13] cH] 15 (.t 14) (.c (.bool false)),.m 16 15,.sc 16 true [.ls 17 1 4,.cl 18 [17] Wh] 19 (.t 18) (.c (.bool false)),.m 20 19,.sc 20 true [.ls 21 1 4,.cl 22 [21] cJ] 23 (.t 22) (.c (.bool false)),.m 2 23] [2]) .ret))⟩
theorem cS:Bi Tryz.prog 24 MV=true:=by kernel_rfl
def Mw:AH:=(.seq (.region [.b 39 .lss 38 37] [1,4,9,10,11,36,37,38,39]) (.seq (.cond (.t 39) .skip (.exit 2)) (.seq (.block 3 [1,4,9,10,11,36,37,38] (.seq (.region [.idx 40 16 (.t 36) (.t 38),.ls 41 40 16,.al 7 U,.store (.t 7) (.t 41) 16 false] [1,4,7,9,10,11,36,37,38]) (.seq (.region [.f 42 7 5,.l 43 42,.m 44 43,.sc 44 true [.f 45 7 1,.l 46 45,.f 47 4 1,.l 48 47,.b 49 .eql 46 48] 50 (.t 49) (.c (.bool false))] [1,4,9,10,11,36,37,38,50]) (.cond (.t 50) (.seq (.region [.mv 2 (.c (.bool false))] [2]) .ret) .skip)))) (.region [.bin 51 .add (.t 38) (.i 1),.m 38 51] [1,4,9,10,11,36,37,38]))))
def Mx:AH:=(.seq (.region [.f 33 1 1,.l 34 33,.m 35 3,.sl 36 16 (.t 34) none (some (.t 35)),.len 37 false (.t 36),.mv 38 (.i 0)] [1,4,9,10,11,36,37,38]) (.block 2 [1,9,10,11] (.loop [1,4,9,10,11,36,37,38] Mw)))
def Lt:AH:=(.region [.bin 52 .add (.t 11) (.i 1),.m 11 52] [1,9,10,11])
def Lu:AH:=(.seq (.region [.b 12 .lss 11 10] [1,9,10,11,12]) (.seq (.cond (.t 12) .skip (.exit 0)) (.seq (.block 1 [1,9,10,11] (.seq (.region [.m 13 11,.idx 14 16 (.t 9) (.t 11),.ls 15 14 16,.al 4 U,.m 3 13,.store (.t 4) (.t 15) 16 false] [1,3,4,9,10,11]) (.seq (.seq (.region [.f 16 4 5,.l 17 16,.un 18 .not (.t 17)] [1,3,4,9,10,11,18]) (.cond (.t 18) (.exit 1) .skip)) (.seq (.region [.f 19 4 1,.l 20 19,.cl 21 [1,20] Nj,.m 5 21] [1,3,4,5,9,10,11]) (.seq (.seq (.draw (Ki 11 [(7,[3]),(9,[6,8])]) (.tk 4 [.m 25 24,.bin 24 .eql (.t 23) (.i 0),.len 23 false (.t 22),.m 22 5] (.test 25 (.sk 25 false 6 10 32 (.tk 11 [.pick 32 (.t 25) (.c (.bool true)) (.t 31)] .done)) (.tg 25 false 10 [.b 31 .neq 28 30,.l 30 29,.f 29 4 0,.l 28 27,.idx 27 1 (.t 26) (.i 0),.m 26 5] (.tk 11 [.pick 32 (.t 25) (.c (.bool true)) (.t 31)] .done)))) [1,3,4,9,10,11,32]) (.cond (.t 32) (.seq (.region [.mv 2 (.c (.bool false))] [2]) .ret) .skip)) Mx))))) Lt)))
def Lv:AH:=(.seq (.region [.mv 2 (.c (.bool true))] [2]) .ret)
def BO:CC:=⟨[.val DI],[⟨2,false,.bool⟩],(.seq (.region [.box 1 (.t 0) true,.mv 2 (.c (.bool false))] [1]) (.seq (.seq (.region [.f 8 1 1,.l 9 8,.len 10 false (.t 9),.mv 11 (.i 0)] [1,9,10,11]) (.block 0 [] (.loop [1,9,10,11] Lu))) Lv))⟩
theorem Wk:Bi Tryz.prog 27 BO=true:=by kernel_rfl
def Rz:AH:=(.seq (.region [.b 32 .lss 31 30] [1,3,4,5,9,10,11,29,30,31,32]) (.seq (.cond (.t 32) .skip (.exit 2)) (.seq (.block 3 [1,3,4,5,9,10,11,29,30,31] (.seq (.region [.m 33 31,.idx 34 16 (.t 29) (.t 31),.ls 35 34 16,.al 7 U,.m 6 33,.store (.t 7) (.t 35) 16 false] [1,3,4,5,6,7,9,10,11,29,30,31]) (.seq (.region [.m 36 6,.m 37 3,.b 38 .neq 36 37,.m 39 38,.sc 39 true [.m 40 5,.f 41 7 0,.l 42 41,.cl 43 [40,42] C2] 44 (.t 43) (.c (.bool false)),.m 45 44,.sc 45 true [.f 46 7 3,.l 47 46] 48 (.t 47) (.c (.bool false)),.m 49 48,.sc 49 true [.f 50 7 1,.l 51 50,.f 52 4 1,.l 53 52,.b 54 .eql 51 53] 55 (.t 54) (.c (.bool false)),.m 56 55,.sc 56 true [.f 57 7 7,.l 58 57,.f 59 4 7,.l 60 59,.cl 61 [58,60] H8,.un 62 .not (.t 61)] 63 (.t 62) (.c (.bool false))] [1,3,4,5,9,10,11,29,30,31,63]) (.cond (.t 63) (.seq (.region [.mv 2 (.c (.bool false))] [2]) .ret) .skip)))) (.region [.bin 64 .add (.t 31) (.i 1),.m 31 64] [1,3,4,5,9,10,11,29,30,31]))))
def R0:AH:=(.seq (.region [.f 25 4 1,.l 26 25,.cl 27 [1,26] Nj,.m 5 27] [1,3,4,5,9,10,11]) (.seq (.region [.f 28 1 1,.l 29 28,.len 30 false (.t 29),.mv 31 (.i 0)] [1,3,4,5,9,10,11,29,30,31]) (.block 2 [1,9,10,11] (.loop [1,3,4,5,9,10,11,29,30,31] Rz))))
def QT:AH:=(.region [.bin 65 .add (.t 11) (.i 1),.m 11 65] [1,9,10,11])
def QU:AH:=(.seq (.region [.b 12 .lss 11 10] [1,9,10,11,12]) (.seq (.cond (.t 12) .skip (.exit 0)) (.seq (.block 1 [1,9,10,11] (.seq (.region [.m 13 11,.idx 14 16 (.t 9) (.t 11),.ls 15 14 16,.al 4 U,.m 3 13,.store (.t 4) (.t 15) 16 false] [1,3,4,9,10,11]) (.seq (.seq (.region [.f 16 4 5,.l 17 16,.un 18 .not (.t 17),.m 19 18,.sc 19 false [.f 20 4 9,.f 21 20 0,.l 22 21,.bin 23 .neq (.t 22) (.i 0)] 24 (.c (.bool true)) (.t 23)] [1,3,4,9,10,11,24]) (.cond (.t 24) (.exit 1) .skip)) R0))) QT)))
def QV:AH:=(.seq (.region [.mv 2 (.c (.bool true))] [2]) .ret)
def CY:CC:=⟨[.val DI],[⟨2,false,.bool⟩],(.seq (.region [.box 1 (.t 0) true,.mv 2 (.c (.bool false))] [1]) (.seq (.seq (.region [.f 8 1 1,.l 9 8,.len 10 false (.t 9),.mv 11 (.i 0)] [1,9,10,11]) (.block 0 [] (.loop [1,9,10,11] QU))) QV))⟩
theorem cU:Bi Tryz.prog 29 CY=true:=by kernel_rfl
def Lw:AH:=(.seq (.seq (.region [.m 11 5,.bin 12 .lss (.t 11) (.i 12)] [3,4,5,12]) (.cond (.t 12) .skip (.exit 0))) (.seq (.block 1 [3,4,5] (.region [.m 15 4,.m 16 3,.cx (some 17) [.t 16,.c (.int .i64 10000)] Xw,.blst 18 (.int .i64) [.t 17],.app 19 3 (.int .i64) (.t 15) (.t 18),.m 4 19] [3,4,5])) (.region [.m 13 5,.bin 14 .add (.t 13) (.i 1),.m 5 14] [3,4,5])))
def Lx:AH:=(.seq (.region [.m 20 4,.m 2 20] [2]) .ret)
def CQ:CC:=⟨[.val (.slice (.int .u8))],[⟨2,false,(.slice (.int .i64))⟩],(.seq (.region [.mv 2 (.c (.nil))] [0]) (.seq (.region [.m 6 0,.cl 7 [6] aU,.m 3 7] [3]) (.seq (.region [.m 8 3,.cl 9 [8] FC] [3]) (.seq (.region [.brow 10 3 (.int .i64) [],.m 4 10] [3,4]) (.seq (.seq (.region [.mv 5 (.i 0)] [3,4,5]) (.block 0 [4] (.loop [3,4,5] Lw))) Lx)))))⟩
theorem VM:Bi Tryz.prog 31 CQ=true:=by kernel_rfl
def QW:AH:=(.seq (.block 1 [0,3,4] (.region [.m 18 3,.bin 19 .mul (.t 18) (.i 131),.m 20 0,.m 21 4,.idx 22 1 (.t 20) (.t 21),.l 23 22,.cvi 24 .i64 (.t 23),.b 25 .add 19 24,.bin 26 .add (.t 25) (.i 7),.bin 27 .and (.t 26) (.i 1073741823),.m 3 27] [0,3,4])) (.region [.m 16 4,.bin 17 .add (.t 16) (.i 1),.m 4 17] [0,3,4]))
def QX:AH:=(.seq (.seq (.region [.m 8 4,.m 9 0,.len 10 false (.t 9),.b 11 .lss 8 10,.m 12 11,.sc 12 true [.m 13 4,.bin 14 .lss (.t 13) (.i 4000)] 15 (.t 14) (.c (.bool false))] [0,3,4,15]) (.cond (.t 15) .skip (.exit 0))) QW)
def QY:AH:=(.seq (.region [.m 28 0,.m 29 3,.bu 30 Ha [(0,1,.t 28),(2,1,.t 29)],.box 31 (.t 30) false,.m 2 31] [2]) .ret)
def DK:CC:=⟨[.val (.slice (.int .u8))],[⟨2,false,(.ref Ha)⟩],(.seq (.region [.mv 2 (.c (.undef))] [0]) (.seq (.region [.m 5 0,.len 6 false (.t 5),.bin 7 .add (.i 14301) (.t 6),.m 3 7] [0,3]) (.seq (.seq (.region [.mv 4 (.i 0)] [0,3,4]) (.block 0 [0,3] (.loop [0,3,4] QX))) QY)))⟩
theorem aY:Bi Tryz.prog 33 DK=true:=by kernel_rfl
def Nm:AH:=(.seq (.seq (.region [.m 15 5,.bin 16 .leq (.t 15) (.i 6)] [0,2,4,5,16]) (.cond (.t 16) .skip (.exit 0))) (.seq (.block 1 [0,2,4,5] (.seq (.region [.m 20 5,.m 21 0,.cl 22 [20,21] Wj,.m 19 22,.ext 23 (.t 19) 0,.ext 24 (.t 19) 1,.al 6 U,.store (.t 6) (.t 23) 16 false,.m 7 24] [0,2,4,5,6]) (.region [.f 25 4 1,.l 26 25,.ls 27 6 16,.blst 28 U [.t 27],.app 29 42 U (.t 26) (.t 28),.f 30 4 1,.store (.t 30) (.t 29) 1 false] [0,2,4,5]))) (.region [.m 17 5,.bin 18 .add (.t 17) (.i 1),.m 5 18] [0,2,4,5])))
def Nn:AH:=(.seq (.region [.ls 31 4 4,.store (.t 2) (.t 31) 4 false,.mv 3 (.c (.bool true))] [2,3]) .ret)
def Cy:CC:=⟨[.val (.slice (.slice (.int .i64)))],[⟨2,true,AY⟩,⟨3,false,.bool⟩],(.seq (.region [.al 2 AY,.mv 3 (.c (.bool false))] [0,2]) (.seq (.seq (.region [.m 8 0,.cl 9 [8] Gg,.un 10 .not (.t 9)] [0,2,10]) (.cond (.t 10) (.seq (.region [.build 11 [.nil,.nil,.nil,.nil] [],.store (.t 2) (.t 11) 4 false,.mv 3 (.c (.bool false))] [2,3]) .ret) .skip)) (.seq (.region [.m 12 0,.cl 13 [12] Oh,.build 14 [.nil,.nil,.nil,.nil] [(0,1,.t 13)],.al 4 AY,.store (.t 4) (.t 14) 4 false] [0,2,4]) (.seq (.seq (.region [.mv 5 (.i 1)] [0,2,4,5]) (.block 0 [2,4] (.loop [0,2,4,5] Nm))) Nn))))⟩
theorem X0:Bi Tryz.prog 34 Cy=true:=by kernel_rfl
def Ol:AH:=(.seq (.seq (.region [.f 18 1 0,.l 19 18,.bin 20 .eql (.t 19) (.i 1)] [1,20]) (.cond (.t 20) (.seq (.region [.f 21 1 3,.l 22 21,.f 23 1 4,.l 24 23,.f 25 1 5,.l 26 25,.cx (some 27) [.t 22,.c (.int .i64 0),.t 24,.t 26] VD,.m 2 27] [2]) .ret) .skip)) (.seq (.region [.f 28 1 3,.l 29 28,.bin 30 .eql (.t 29) (.i 0),.m 31 30,.sc 31 true [.f 32 1 4,.l 33 32,.bin 34 .eql (.t 33) (.c (.str ⟨#[]⟩))] 35 (.t 34) (.c (.bool false)),.m 36 35,.sc 36 true [.f 37 1 5,.l 38 37,.bin 39 .eql (.t 38) (.c (.str ⟨#[]⟩))] 40 (.t 39) (.c (.bool false)),.m 2 40] [2]) .ret))
def FD:CC:=⟨[.val Am],[⟨2,false,.bool⟩],(.seq (.region [.box 1 (.t 0) false,.mv 2 (.c (.bool false))] [1]) (.seq (.seq (.region [.f 3 1 0,.l 4 3,.cx (some 5) [.t 4,.c (.int .i64 1),.c (.int .i64 6)] Af,.un 6 .not (.t 5),.m 7 6,.sc 7 false [.f 8 1 1,.l 9 8,.cl 10 [9] GD,.un 11 .not (.t 10)] 12 (.c (.bool true)) (.t 11),.m 13 12,.sc 13 false [.f 14 1 2,.l 15 14,.bin 16 .lss (.t 15) (.i 0)] 17 (.c (.bool true)) (.t 16)] [1,17]) (.cond (.t 17) (.seq (.region [.mv 2 (.c (.bool false))] [2]) .ret) .skip)) Ol))⟩
theorem ZO:Bi Tryz.prog 35 FD=true:=by kernel_rfl
def Fk:CC:=⟨[.ptr AY,.val Am,.val (.int .i64)],[⟨6,false,.bool⟩],(.seq (.region [.box 4 (.t 1) false,.mv 6 (.c (.bool false))] [0,2,4]) (.seq (.seq (.region [.f 8 4 0,.l 9 8] [0,2,4,9]) (.block 0 [0,2,4] (.seq (.region [.bin 11 .eql (.t 9) (.i 1),.m 10 11] [0,2,4,9,10]) (.cond (.t 10) (.seq (.region [.m 12 0,.ls 13 4 6,.m 14 2,.cl 15 [12,13,14] T1,.m 6 15] [6]) .ret) (.seq (.region [.bin 17 .eql (.t 9) (.i 5),.m 16 17] [0,2,4,9,16]) (.cond (.t 16) (.seq (.region [.m 18 0,.ls 19 4 6,.m 20 2,.cl 21 [18,19,20] T2,.m 6 21] [6]) .ret) (.seq (.region [.bin 23 .eql (.t 9) (.i 6),.m 22 23] [0,2,4,22]) (.cond (.t 22) (.seq (.region [.m 24 0,.f 25 4 1,.l 26 25,.cl 27 [24,26] E8,.m 7 27] [0,7]) (.seq (.draw (Ki 15 [(4,[]),(5,[]),(9,[]),(10,[8,9]),(13,[3,4,12])]) (.tk 12 [.ls 39 38 16,.idx 38 16 (.t 36) (.t 37),.m 37 7,.l 36 35,.f 35 34 1,.n 34 33,.m 33 0,.m 32 7,.l 31 30,.f 30 29 1,.n 29 28,.m 28 0] (.only 12 none (.cl 40 [39] dl) false [] (.tk 14 [.idx 41 16 (.t 31) (.t 32)] (.only 14 none (.store (.t 41) (.t 40) 16 false) false [] .done)))) []) (.seq (.region [.mv 6 (.c (.bool true))] [6]) .ret))) .skip)))))))) (.seq (.region [.m 42 0,.ls 43 4 6,.m 44 2,.cl 45 [42,43,44] Rt,.m 6 45] [6]) .ret)))⟩
theorem T5:Bi Tryz.prog 36 Fk=true:=by kernel_rfl
def Kl:CC:=⟨[.val .bool],[⟨2,false,(.int .i64)⟩],(.seq (.region [.mv 2 (.i 0)] [0]) (.seq (.seq (.region [.m 3 0] [3]) (.cond (.t 3) (.seq (.region [.mv 2 (.i 0)] [2]) .ret) .skip)) (.seq (.region [.mv 2 (.i 1)] [2]) .ret)))⟩
theorem aZ:Bi Tryz.prog 37 Kl=true:=by kernel_rfl
def My:AH:=(.seq (.region [.b 19 .lss 18 17] [1,2,3,16,17,18,19]) (.seq (.cond (.t 19) .skip (.exit 0)) (.seq (.block 1 [1,2,3,16,17,18] (.seq (.region [.idx 20 16 (.t 16) (.t 18),.ls 21 20 16,.al 5 U,.store (.t 5) (.t 21) 16 false] [1,2,3,5,16,17,18]) (.draw (Ki 8 [(2,[]),(5,[1,4])]) (.tk 3 [.ls 24 5 16,.l 23 22,.f 22 3 1] (.only 3 none (.cl 25 [24] Ek) false [] (.only 4 none (.blst 26 U [.t 25]) false [] (.only 5 none (.app 27 42 U (.t 23) (.t 26)) false [] (.tk 7 [.f 28 3 1] (.only 7 none (.store (.t 28) (.t 27) 1 false) false [] .done)))))) [1,2,3,16,17,18]))) (.region [.bin 29 .add (.t 18) (.i 1),.m 18 29] [1,2,3,16,17,18]))))
def Ly:AH:=(.seq (.region [.b 34 .lss 33 32] [2,3,31,32,33,34]) (.seq (.cond (.t 34) .skip (.exit 2)) (.seq (.block 3 [2,3,31,32,33] (.seq (.region [.idx 35 6 (.t 31) (.t 33),.ls 36 35 6,.al 7 AO,.store (.t 7) (.t 36) 6 false] [2,3,7,31,32,33]) (.draw (Ki 8 [(2,[]),(5,[1,4])]) (.tk 3 [.ls 39 7 6,.l 38 37,.f 37 3 2] (.only 3 none (.cl 40 [39] Mr) false [] (.only 4 none (.blst 41 AO [.t 40]) false [] (.only 5 none (.app 42 97 AO (.t 38) (.t 41)) false [] (.tk 7 [.f 43 3 2] (.only 7 none (.store (.t 43) (.t 42) 1 false) false [] .done)))))) [2,3,31,32,33]))) (.region [.bin 44 .add (.t 33) (.i 1),.m 33 44] [2,3,31,32,33]))))
def Lz:AH:=(.seq (.region [.ls 45 3 4,.store (.t 2) (.t 45) 4 false] [2]) .ret)
def HN:AH:=(.seq (.seq (.region [.f 30 1 2,.l 31 30,.len 32 false (.t 31),.mv 33 (.i 0)] [2,3,31,32,33]) (.block 2 [2,3] (.loop [2,3,31,32,33] Ly))) Lz)
def Aw:CC:=⟨[.val DI],[⟨2,true,AY⟩],(.seq (.region [.box 1 (.t 0) true,.al 2 AY] [1,2]) (.seq (.draw (Ki 9 [(3,[]),(5,[2,4]),(7,[]),(8,[6,7])]) (.tk 2 [.l 9 8,.f 8 1 0] (.tk 5 [.l 12 11,.f 11 1 3] (.only 2 none (.cl 10 [9] Oh) false [(7,.al 3 AY)] (.only 5 none (.cl 13 [12] H9) false [(7,.al 3 AY)] (.tk 7 [.build 14 [.nil,.nil,.nil,.nil] [(0,1,.t 10),(3,1,.t 13)]] (.only 7 none (.al 3 AY) true [] (.only 8 none (.store (.t 3) (.t 14) 4 false) false [] .done))))))) [1,2,3]) (.seq (.seq (.region [.f 15 1 1,.l 16 15,.len 17 false (.t 16),.mv 18 (.i 0)] [1,2,3,16,17,18]) (.block 0 [1,2,3] (.loop [1,2,3,16,17,18] My))) HN)))⟩
theorem Wl:Bi Tryz.prog 38 Aw=true:=by kernel_rfl
def Km:CC:=⟨[.val (.int .i64)],[⟨2,false,.bool⟩],(.seq (.region [.mv 2 (.c (.bool false))] [0]) (.seq (.region [.m 3 0,.cx (some 4) [.t 3,.c (.int .i64 1),.c (.int .i64 6)] Af,.m 2 4] [2]) .ret))⟩
theorem aa:Bi Tryz.prog 43 Km=true:=by kernel_rfl
def JE:CC:=⟨[.val (.int .i64),.val (.int .i64),.val (.int .i64)],[⟨6,false,.bool⟩],(.seq (.region [.mv 6 (.c (.bool false))] [0,1,2]) (.seq (.region [.m 7 0,.m 8 1,.b 9 .geq 7 8,.m 10 9,.sc 10 true [.m 11 0,.m 12 2,.b 13 .leq 11 12] 14 (.t 13) (.c (.bool false)),.m 6 14] [6]) .ret))⟩
theorem ZP:Bi Tryz.prog 44 JE=true:=by kernel_rfl
def Kz:AH:=(.seq (.region [.b 12 .lss 11 10] [0,1,2,9,10,11,12]) (.seq (.cond (.t 12) .skip (.exit 0)) (.seq (.block 1 [0,1,2,9,10,11] (.seq (.region [.m 13 11,.idx 14 1 (.t 9) (.t 11),.l 15 14,.m 7 13,.m 8 15] [0,1,2,7,8,9,10,11]) (.seq (.region [.m 16 8,.m 17 1,.m 18 2,.cl 19 [16,17,18] Af,.un 20 .not (.t 19),.m 21 20,.sc 21 false [.m 22 7,.bin 23 .gtr (.t 22) (.i 0),.m 24 23,.sc 24 true [.m 25 8,.m 26 0,.m 27 7,.bin 28 .sub (.t 27) (.i 1),.idx 29 1 (.t 26) (.t 28),.l 30 29,.b 31 .leq 25 30] 32 (.t 31) (.c (.bool false))] 33 (.c (.bool true)) (.t 32)] [0,1,2,9,10,11,33]) (.cond (.t 33) (.seq (.region [.mv 6 (.c (.bool false))] [6]) .ret) .skip)))) (.region [.bin 34 .add (.t 11) (.i 1),.m 11 34] [0,1,2,9,10,11]))))
def K3:AH:=(.seq (.region [.mv 6 (.c (.bool true))] [6]) .ret)
def B9:CC:=⟨[.val (.slice (.int .i64)),.val (.int .i64),.val (.int .i64)],[⟨6,false,.bool⟩],(.seq (.region [.mv 6 (.c (.bool false))] [0,1,2]) (.seq (.seq (.region [.m 9 0,.len 10 false (.t 9),.mv 11 (.i 0)] [0,1,2,9,10,11]) (.block 0 [] (.loop [0,1,2,9,10,11] Kz))) K3))⟩
theorem T6:Bi Tryz.prog 45 B9=true:=by kernel_rfl
def No:DT:=(.sk 28 false 3 20 32 (.sk 31 true 9 29 41 (.sk 28 false 1 30 42 (.tk 31 [.pick 42 (.t 28) (.c (.bool true)) (.t 41)] .done))))
def Np:DT:=(.sk 22 false 4 15 27 (.tk 17 [.m 28 27,.pick 27 (.t 22) (.c (.bool true)) (.t 26)] No))
def Nq:DT:=(.tg 28 false 30 [.pick 41 (.t 31) (.t 40) (.c (.bool false))] (.tk 31 [.pick 42 (.t 28) (.c (.bool true)) (.t 41)] .done))
def Nr:AH:=(.seq (.region [.b 8 .lss 7 6] [0,5,6,7,8]) (.seq (.cond (.t 8) .skip (.exit 0)) (.seq (.block 1 [0,5,6,7] (.seq (.region [.m 9 7,.idx 10 3 (.t 5) (.t 7),.ls 11 10 3,.al 4 AL,.m 3 9,.store (.t 4) (.t 11) 3 false] [0,3,4,5,6,7]) (.seq (.draw (Ki 31 [(22,[19]),(23,[19]),(25,[22,24]),(28,[21,27])]) (.tk 2 [.l 13 12,.f 12 4 0] (.only 2 none (.cl 14 [13] VG) false [] (.tk 5 [.m 16 15,.un 15 .not (.t 14)] (.test 16 (.sk 16 false 4 9 21 (.tk 11 [.m 22 21,.pick 21 (.t 16) (.c (.bool true)) (.t 20)] Np)) (.tg 16 false 9 [.bin 20 .gtr (.t 19) (.i 20),.len 19 true (.t 18),.l 18 17,.f 17 4 1] (.tk 11 [.m 22 21,.pick 21 (.t 16) (.c (.bool true)) (.t 20)] (.test 22 Np (.tg 22 false 13 [.l 24 23,.f 23 4 2] (.only 13 (some (22,false)) (.cx (some 25) [.t 24,.c (.int .i64 1),.c (.int .i64 1000000000)] Af) false [] (.tg 22 false 15 [.un 26 .not (.t 25)] (.tk 17 [.m 28 27,.pick 27 (.t 22) (.c (.bool true)) (.t 26)] (.test 28 No (.tg 28 false 20 [.m 31 30,.bin 30 .gtr (.t 29) (.i 0),.m 29 3] (.test 31 (.tg 31 true 29 [.b 40 .leq 33 39,.l 39 38,.f 38 37 0,.idx 37 3 (.t 34) (.t 36),.bin 36 .sub (.t 35) (.i 1),.m 35 3,.m 34 0,.l 33 32,.f 32 4 0] Nq) (.sk 31 true 9 29 41 Nq))))))))))))))) [0,5,6,7,42]) (.cond (.t 42) (.seq (.region [.mv 2 (.c (.bool false))] [2]) .ret) .skip)))) (.region [.bin 43 .add (.t 7) (.i 1),.m 7 43] [0,5,6,7]))))
def Ns:AH:=(.seq (.region [.m 44 0,.len 45 false (.t 44),.bin 46 .leq (.t 45) (.i 12),.m 2 46] [2]) .ret)
def DR:CC:=⟨[.val (.slice AL)],[⟨2,false,.bool⟩],(.seq (.region [.mv 2 (.c (.bool false))] [0]) (.seq (.seq (.region [.m 5 0,.len 6 false (.t 5),.mv 7 (.i 0)] [0,5,6,7]) (.block 0 [0] (.loop [0,5,6,7] Nr))) Ns))⟩
theorem ZQ:Bi Tryz.prog 46 DR=true:=by kernel_rfl
def Em:CC:=⟨[.ptr U],[⟨2,false,.bool⟩],(.seq (.region [.mv 2 (.c (.bool false))] [0]) (.seq (.region [.m 4 0,.n 5 4,.f 6 5 9,.ls 7 6 7,.al 3 Tz,.store (.t 3) (.t 7) 7 false] [0,3]) (.seq (.seq (.region [.f 8 3 0,.l 9 8,.bin 10 .eql (.t 9) (.i 0)] [0,3,10]) (.cond (.t 10) (.seq (.region [.f 11 3 1,.l 12 11,.bin 13 .eql (.t 12) (.i 0),.m 14 13,.sc 14 true [.f 15 3 2,.l 16 15,.bin 17 .eql (.t 16) (.i 0)] 18 (.t 17) (.c (.bool false)),.m 19 18,.sc 19 true [.f 20 3 3,.ls 21 20 3,.bu 22 AL [],.eqs 23 false AL (.t 21) (.t 22)] 24 (.t 23) (.c (.bool false)),.m 25 24,.sc 25 true [.f 26 3 6,.l 27 26,.len 28 false (.t 27),.bin 29 .eql (.t 28) (.i 0)] 30 (.t 29) (.c (.bool false)),.m 2 30] [2]) .ret) .skip)) (.seq (.region [.f 31 3 0,.l 32 31,.cx (some 33) [.t 32,.c (.int .i64 1),.c (.int .i64 2)] Af,.m 34 33,.sc 34 true [.m 35 0,.n 36 35,.f 37 36 5,.l 38 37] 39 (.t 38) (.c (.bool false)),.m 40 39,.sc 40 true [.f 41 3 1,.l 42 41,.cx (some 43) [.t 42,.c (.int .i64 0),.c (.int .i64 1000)] Af] 44 (.t 43) (.c (.bool false)),.m 45 44,.sc 45 true [.f 46 3 2,.l 47 46,.cx (some 48) [.t 47,.c (.int .i64 1),.c (.int .i64 900)] Af] 49 (.t 48) (.c (.bool false)),.m 50 49,.sc 50 true [.f 51 3 6,.l 52 51,.cx (some 53) [.t 52,.c (.int .i64 1),.c (.int .i64 6)] Mq] 54 (.t 53) (.c (.bool false)),.m 2 54] [2]) .ret))))⟩
theorem R1:Bi Tryz.prog 47 Em=true:=by kernel_rfl
def Kn:CC:=⟨[.val AF],[⟨2,false,.bool⟩],(.seq (.region [.box 1 (.t 0) false,.mv 2 (.c (.bool false))] [1]) (.seq (.region [.f 3 1 4,.l 4 3,.bin 5 .geq (.t 4) (.i 0),.m 2 5] [2]) .ret))⟩
theorem ae:Bi Tryz.prog 48 Kn=true:=by kernel_rfl
def En:CC:=⟨[.ptr AY,.val (.int .i64),.val (.int .i64)],[],(.seq (.region [.m 11 0,.n 12 11,.f 13 12 2,.l 14 13,.m 15 1,.idx 16 6 (.t 14) (.t 15),.ls 17 16 6,.al 6 AO,.store (.t 6) (.t 17) 6 false] [0,1,2,6]) (.seq (.region [.m 18 0,.m 19 0,.n 20 19,.f 21 20 2,.l 22 21,.m 23 1,.m 24 1,.bin 25 .add (.t 24) (.i 1),.cl 26 [22,23,25] Ea,.n 27 18,.f 28 27 2,.store (.t 28) (.t 26) 1 false] [0,2,6]) (.seq (.region [.m 29 0,.f 30 6 2,.l 31 30,.cl 32 [29,31] E8,.m 7 32] [0,2,6,7]) (.seq (.region [.m 33 7,.bin 34 .geq (.t 33) (.i 0)] [0,2,6,7,34]) (.cond (.t 34) (.seq (.draw (Ki 21 [(4,[]),(5,[3,4]),(7,[]),(11,[]),(12,[6,10,11]),(15,[13]),(16,[13]),(17,[]),(18,[14,17]),(19,[15,18]),(20,[16,19])]) (.tk 12 [.ls 47 6 6,.l 46 45,.f 45 44 0,.n 44 43,.m 43 0,.ls 42 41 16,.idx 41 16 (.t 39) (.t 40),.m 40 7,.l 39 38,.f 38 37 1,.n 37 36,.m 36 0] (.only 12 none (.cl 48 [42,46,47] ZN) false [(17,.al 8 U)] (.tk 17 [.ext 51 (.t 35) 2,.ext 50 (.t 35) 1,.ext 49 (.t 35) 0,.m 35 48] (.only 17 none (.al 8 U) true [] (.only 18 none (.store (.t 8) (.t 49) 16 false) false [] (.tk 21 [.m 10 51,.m 9 50] .done)))))) [0,2,7,8,9,10]) (.seq (.draw (Ki 8 [(4,[]),(5,[]),(6,[3,4,5])]) (.tk 7 [.idx 58 16 (.t 55) (.t 56),.ls 57 8 16,.m 56 7,.l 55 54,.f 54 53 1,.n 53 52,.m 52 0] (.only 7 none (.store (.t 58) (.t 57) 16 false) false [] .done)) [0,2,9,10]) (.region [.m 59 0,.m 60 9,.m 61 10,.m 62 2,.cl 63 [59,60,61,62] I9] []))) .skip)))))⟩
theorem R2:Bi Tryz.prog 51 En=true:=by kernel_rfl
def MW:CC:=⟨[.val (.slice AF),.val AF],[⟨4,false,.bool⟩],(.seq (.region [.fbox 3 (.t 1),.mv 4 (.c (.bool false))] [0,3]) (.seq (.region [.m 5 0,.clo 6 92 AF (.t 3),.cl 7 [5,6] F0,.m 4 7] [4]) .ret))⟩
theorem cV:Bi Tryz.prog 52 MW=true:=by kernel_rfl
def GU:CC:=⟨[.ptr DI,.val (.int .i64)],[⟨4,false,(.slice (.int .i64))⟩],(.seq (.region [.mv 4 (.c (.nil))] [0,1]) (.seq (.seq (.region [.m 5 1,.m 6 0,.n 7 6,.f 8 7 0,.l 9 8,.len 10 false (.t 9),.cx (some 11) [.t 5,.c (.int .i64 1),.t 10] Af,.un 12 .not (.t 11)] [0,1,12]) (.cond (.t 12) (.seq (.region [.mv 4 (.c (.nil))] [4]) .ret) .skip)) (.seq (.region [.m 13 0,.n 14 13,.f 15 14 0,.l 16 15,.m 17 1,.bin 18 .sub (.t 17) (.i 1),.idx 19 1 (.t 16) (.t 18),.l 20 19,.m 4 20] [4]) .ret)))⟩
theorem VN:Bi Tryz.prog 55 GU=true:=by kernel_rfl
def C3:CC:=⟨[.val (.slice (.int .i64)),.val (.int .i64)],[⟨4,false,.bool⟩],(.seq (.region [.mv 4 (.c (.bool false))] [0,1]) (.seq (.region [.m 5 0,.m 6 1,.cl 7 [5,6] I_,.bin 8 .geq (.t 7) (.i 0),.m 4 8] [4]) .ret))⟩
theorem NV:Bi Tryz.prog 57 C3=true:=by kernel_rfl
def Dh:AH:=(.seq (.region [.b 14 .lss 13 12] [0,1,12,13,14]) (.seq (.cond (.t 14) .skip (.exit 0)) (.seq (.block 1 [0,1,12,13] (.seq (.region [.m 15 13,.m 5 15] [0,1,5,12,13]) (.seq (.draw (Ki 9 [(1,[]),(2,[0,1]),(4,[]),(5,[]),(6,[4,5]),(8,[3,7])]) (.tk 9 [.eqs 24 true AL (.t 19) (.t 23),.ls 23 22 3,.idx 22 3 (.t 20) (.t 21),.m 21 5,.m 20 1,.ls 19 18 3,.idx 18 3 (.t 16) (.t 17),.m 17 5,.m 16 0] .done) [0,1,12,13,24]) (.cond (.t 24) (.seq (.region [.mv 4 (.c (.bool false))] [4]) .ret) .skip)))) (.region [.bin 25 .add (.t 13) (.i 1),.m 13 25] [0,1,12,13]))))
def Di:AH:=(.seq (.region [.mv 4 (.c (.bool true))] [4]) .ret)
def Aa:CC:=⟨[.val (.slice AL),.val (.slice AL)],[⟨4,false,.bool⟩],(.seq (.region [.mv 4 (.c (.bool false))] [0,1]) (.seq (.seq (.region [.m 6 0,.len 7 false (.t 6),.m 8 1,.len 9 false (.t 8),.b 10 .neq 7 9] [0,1,10]) (.cond (.t 10) (.seq (.region [.mv 4 (.c (.bool false))] [4]) .ret) .skip)) (.seq (.seq (.region [.m 11 0,.len 12 false (.t 11),.mv 13 (.i 0)] [0,1,12,13]) (.block 0 [] (.loop [0,1,12,13] Dh))) Di)))⟩
theorem ID:Bi Tryz.prog 58 Aa=true:=by kernel_rfl
def JF:CC:=⟨[.ptr Ha],[⟨2,false,(.int .i64)⟩],(.seq (.region [.mv 2 (.i 0)] [0]) (.seq (.region [.m 4 0,.m 5 0,.n 6 5,.f 7 6 2,.l 8 7,.bin 9 .mul (.t 8) (.i 6364136223846793005),.bin 10 .add (.t 9) (.i 1442695040888963407),.n 11 4,.f 12 11 2,.store (.t 12) (.t 10) 1 false] [0]) (.seq (.draw (Ki 13 [(5,[]),(10,[4,9])]) (.tk 13 [.m 3 24,.bin 24 .and (.t 23) (.i 255),.b 23 .xor 17 22,.bin 22 .shr (.t 21) (.c (.int .u64 45)),.l 21 20,.f 20 19 2,.n 19 18,.m 18 0,.bin 17 .shr (.t 16) (.c (.int .u64 33)),.l 16 15,.f 15 14 2,.n 14 13,.m 13 0] .done) [0,3]) (.seqc [3] (.seq (.draw (Ki 10 [(4,[]),(9,[3,8])]) (.tk 10 [.b 34 .lss 28 33,.len 33 false (.t 32),.l 32 31,.f 31 30 0,.n 30 29,.m 29 0,.l 28 27,.f 27 26 1,.n 26 25,.m 25 0] .done) [0,3,34]) (.cond (.t 34) (.seq (.draw (Ki 15 [(1,[]),(5,[]),(9,[4,8]),(12,[0,11])]) (.tk 15 [.m 3 48,.bin 48 .and (.t 47) (.i 255),.b 47 .add 35 46,.cvi 46 .i64 (.t 45),.l 45 44,.idx 44 1 (.t 39) (.t 43),.l 43 42,.f 42 41 1,.n 41 40,.m 40 0,.l 39 38,.f 38 37 0,.n 37 36,.m 36 0,.m 35 3] .done) [0,3]) (.region [.m 49 0,.m 50 0,.n 51 50,.f 52 51 1,.l 53 52,.bin 54 .add (.t 53) (.i 1),.n 55 49,.f 56 55 1,.store (.t 56) (.t 54) 1 false] [3])) .skip)) (.seq (.region [.m 57 3,.m 2 57] [2]) .ret)))))⟩
theorem ZR:Bi Tryz.prog 61 JF=true:=by kernel_rfl
def Hq:CC:=⟨[.ptr Ha,.val (.int .i64)],[⟨4,false,(.int .i64)⟩],(.seq (.region [.mv 4 (.i 0)] [0,1]) (.seq (.seq (.region [.m 9 1,.bin 10 .leq (.t 9) (.i 0)] [0,1,10]) (.cond (.t 10) (.seq (.region [.mv 4 (.i 0)] [4]) .ret) .skip)) (.seq (.seq (.region [.m 11 1,.bin 12 .leq (.t 11) (.i 256)] [0,1,12]) (.cond (.t 12) (.seq (.region [.m 13 0,.cl 14 [13] FC,.m 15 1,.b 16 .rem 14 15,.m 4 16] [4]) .ret) .skip)) (.seq (.region [.m 17 0,.cl 18 [17] FC,.m 5 18] [0,1,5]) (.seq (.region [.m 19 0,.cl 20 [19] FC,.m 6 20] [0,1,5,6]) (.seq (.region [.m 21 0,.cl 22 [21] FC,.m 7 22] [0,1,5,6,7]) (.seq (.region [.m 23 0,.cl 24 [23] FC,.m 8 24] [1,5,6,7,8]) (.seq (.region [.m 25 5,.bin 26 .mul (.t 25) (.i 16777216),.m 27 6,.bin 28 .mul (.t 27) (.i 65536),.b 29 .add 26 28,.m 30 7,.bin 31 .mul (.t 30) (.i 256),.b 32 .add 29 31,.m 33 8,.b 34 .add 32 33,.m 35 1,.b 36 .rem 34 35,.m 4 36] [4]) .ret))))))))⟩
theorem X1:Bi Tryz.prog 62 Hq=true:=by kernel_rfl
def Om:AH:=(.seq (.region [.b 16 .lss 15 14] [0,4,7,8,9,13,14,15,16]) (.seq (.cond (.t 16) .skip (.exit 2)) (.seq (.block 3 [0,4,7,8,9,13,14,15] (.seq (.region [.m 17 15,.idx 18 1 (.t 13) (.t 15),.l 19 18,.m 5 17,.m 6 19] [0,4,5,6,7,8,9,13,14,15]) (.seq (.region [.m 20 6,.cl 21 [20] GD,.un 22 .not (.t 21),.m 23 22,.sc 23 false [.m 24 4,.m 25 6,.cl 26 [24,25] I_,.m 27 5,.b 28 .neq 26 27] 29 (.c (.bool true)) (.t 28)] [0,4,7,8,9,13,14,15,29]) (.cond (.t 29) (.seq (.region [.mv 2 (.c (.bool false))] [2]) .ret) .skip)))) (.region [.bin 30 .add (.t 15) (.i 1),.m 15 30] [0,4,7,8,9,13,14,15]))))
def KN:AH:=(.seq (.region [.m 31 4,.len 32 false (.t 31),.cx (some 33) [.t 32,.c (.int .i64 1),.c (.int .i64 4)] Af,.un 34 .not (.t 33)] [0,7,8,9,34]) (.cond (.t 34) (.seq (.region [.mv 2 (.c (.bool false))] [2]) .ret) .skip))
def Nt:AH:=(.region [.bin 35 .add (.t 9) (.i 1),.m 9 35] [0,7,8,9])
def Nu:AH:=(.seq (.region [.b 10 .lss 9 8] [0,7,8,9,10]) (.seq (.cond (.t 10) .skip (.exit 0)) (.seq (.block 1 [0,7,8,9] (.seq (.region [.idx 11 1 (.t 7) (.t 9),.l 12 11,.m 4 12] [0,4,7,8,9]) (.seq (.seq (.region [.m 13 4,.len 14 false (.t 13),.mv 15 (.i 0)] [0,4,7,8,9,13,14,15]) (.block 2 [0,4,7,8,9] (.loop [0,4,7,8,9,13,14,15] Om))) KN))) Nt)))
def Nv:AH:=(.seq (.region [.m 36 0,.len 37 false (.t 36),.cx (some 38) [.t 37,.c (.int .i64 1),.c (.int .i64 9)] Af,.m 2 38] [2]) .ret)
def Bd:CC:=⟨[.val (.slice (.slice (.int .i64)))],[⟨2,false,.bool⟩],(.seq (.region [.mv 2 (.c (.bool false))] [0]) (.seq (.seq (.region [.m 7 0,.len 8 false (.t 7),.mv 9 (.i 0)] [0,7,8,9]) (.block 0 [0] (.loop [0,7,8,9] Nu))) Nv))⟩
theorem ZS:Bi Tryz.prog 65 Bd=true:=by kernel_rfl
def Mz:AH:=(.seq (.region [.b 9 .lss 8 7] [3,6,7,8,9]) (.seq (.cond (.t 9) .skip (.exit 0)) (.seq (.block 1 [3,6,7,8] (.seq (.region [.idx 10 1 (.t 6) (.t 8),.l 11 10,.m 5 11] [3,5,6,7,8]) (.region [.m 12 3,.m 13 5,.cl 14 [13] CF,.blst 15 (.slice (.int .i64)) [.t 14],.app 16 33 (.slice (.int .i64)) (.t 12) (.t 15),.m 3 16] [3,6,7,8]))) (.region [.bin 17 .add (.t 8) (.i 1),.m 8 17] [3,6,7,8]))))
def M0:AH:=(.seq (.region [.m 18 3,.m 2 18] [2]) .ret)
def Cg:CC:=⟨[.val (.slice (.slice (.int .i64)))],[⟨2,false,(.slice (.slice (.int .i64)))⟩],(.seq (.region [.mv 2 (.c (.nil))] [0]) (.seq (.region [.nilrow 3 33 (.slice (.int .i64))] [0,3]) (.seq (.seq (.region [.m 6 0,.len 7 false (.t 6),.mv 8 (.i 0)] [3,6,7,8]) (.block 0 [3] (.loop [3,6,7,8] Mz))) M0)))⟩
theorem Wm:Bi Tryz.prog 66 Cg=true:=by kernel_rfl
def M1:AH:=(.seq (.region [.m 16 1,.idx 17 1 (.t 16) (.i 0),.l 18 17,.idx 19 1 (.t 18) (.i 0),.l 20 19,.m 21 0,.b 22 .eql 20 21,.m 6 22] [0,1,4,6]) (.seq (.region [.m 23 0,.m 24 1,.idx 25 1 (.t 24) (.i 0),.l 26 25,.m 27 0,.cl 28 [26,27] C2,.m 29 6,.m 30 6,.bu 31 U [(0,1,.t 23),(1,1,.c (.int .i64 1)),(3,1,.t 28),(4,1,.t 29),(5,1,.t 30)],.store (.t 4) (.t 31) 16 false,.mv 5 (.c (.bool true))] [4,5]) .ret))
def EE:CC:=⟨[.val (.int .i64),.val (.slice (.slice (.int .i64)))],[⟨4,true,U⟩,⟨5,false,.bool⟩],(.seq (.region [.al 4 U,.mv 5 (.c (.bool false))] [0,1,4]) (.seq (.seq (.region [.m 7 0,.cl 8 [7] GD,.un 9 .not (.t 8),.m 10 9,.sc 10 false [.m 11 1,.cl 12 [11] Gg,.un 13 .not (.t 12)] 14 (.c (.bool true)) (.t 13)] [0,1,4,14]) (.cond (.t 14) (.seq (.region [.bu 15 U [],.store (.t 4) (.t 15) 16 false,.mv 5 (.c (.bool false))] [4,5]) .ret) .skip)) M1))⟩
theorem Wn:Bi Tryz.prog 67 EE=true:=by kernel_rfl
def R3:AH:=(.seq (.region [.m 27 0,.bin 28 .eql (.t 27) (.i 1),.m 29 28,.sc 29 false [.m 30 3,.bin 31 .eql (.t 30) (.c (.str ⟨#[]⟩))] 32 (.c (.bool true)) (.t 31),.m 8 32] [8]) .ret)
def G4:CC:=⟨[.val (.int .i64),.val (.int .i64),.val .str,.val .str],[⟨8,false,.bool⟩],(.seq (.region [.mv 8 (.c (.bool false))] [0,1,2,3]) (.seq (.seq (.region [.m 9 0,.cx (some 10) [.t 9,.c (.int .i64 1),.c (.int .i64 2)] Af,.un 11 .not (.t 10),.m 12 11,.sc 12 false [.m 13 1,.cx (some 14) [.t 13,.c (.int .i64 0),.c (.int .i64 1000)] Af,.un 15 .not (.t 14)] 16 (.c (.bool true)) (.t 15),.m 17 16,.sc 17 false [.m 18 2,.cl 19 [18] VG,.un 20 .not (.t 19)] 21 (.c (.bool true)) (.t 20),.m 22 21,.sc 22 false [.m 23 3,.len 24 true (.t 23),.bin 25 .gtr (.t 24) (.i 20)] 26 (.c (.bool true)) (.t 25)] [0,3,26]) (.cond (.t 26) (.seq (.region [.mv 8 (.c (.bool false))] [8]) .ret) .skip)) R3))⟩
theorem cW:Bi Tryz.prog 68 G4=true:=by kernel_rfl
def Fl:CC:=⟨[.ptr AY,.val Am,.val (.int .i64)],[⟨6,false,.bool⟩],(.seq (.region [.box 4 (.t 1) false,.mv 6 (.c (.bool false))] [0,2,4]) (.seq (.region [.m 13 0,.n 14 13,.f 15 14 3,.l 16 15,.len 17 false (.t 16),.m 7 17] [0,2,4,7]) (.seq (.draw (Ki 18 [(1,[]),(5,[]),(7,[]),(9,[]),(11,[]),(12,[6,8,10,11]),(14,[4,13]),(15,[0,14])]) (.tk 13 [.bu 30 AF [(0,1,.t 24),(1,1,.t 26),(2,1,.t 28),(3,1,.t 29),(4,1,.c (.int .i64 (-1)))],.m 29 2,.l 28 27,.f 27 4 5,.l 26 25,.f 25 4 4,.l 24 23,.f 23 4 3,.l 22 21,.f 21 20 3,.n 20 19,.m 19 0,.m 18 0] (.only 13 none (.blst 31 AF [.t 30]) false [] (.only 14 none (.app 32 47 AF (.t 22) (.t 31)) false [] (.tk 17 [.f 34 33 3,.n 33 18] (.only 17 none (.store (.t 34) (.t 32) 1 false) false [] .done))))) [0,2,4,7]) (.seq (.region [.m 35 0,.f 36 4 1,.l 37 36,.cl 38 [35,37] E8,.m 8 38] [0,2,4,7,8]) (.seq (.draw (Ki 29 [(4,[]),(5,[3,4]),(7,[]),(11,[]),(13,[]),(14,[]),(16,[]),(18,[6,10,12,13,15,17]),(21,[19]),(22,[19]),(23,[19]),(24,[]),(25,[20,24]),(26,[21,25]),(27,[22,26]),(28,[23,27])]) (.tk 18 [.l 57 56,.f 56 4 5,.l 55 54,.f 54 4 4,.m 53 7,.l 52 51,.f 51 4 3,.l 50 49,.f 49 48 0,.n 48 47,.m 47 0,.ls 46 45 16,.idx 45 16 (.t 43) (.t 44),.m 44 8,.l 43 42,.f 42 41 1,.n 41 40,.m 40 0] (.only 18 none (.cl 58 [46,50,52,53,55,57] cL) false [(24,.al 9 U)] (.tk 24 [.ext 62 (.t 39) 3,.ext 61 (.t 39) 2,.ext 60 (.t 39) 1,.ext 59 (.t 39) 0,.m 39 58] (.only 24 none (.al 9 U) true [] (.only 25 none (.store (.t 9) (.t 59) 16 false) false [] (.tk 29 [.m 12 62,.m 11 61,.m 10 60] .done)))))) [0,2,8,9,10,11,12]) (.seq (.seq (.region [.m 63 12,.un 64 .not (.t 63)] [0,2,8,9,10,11,64]) (.cond (.t 64) (.seq (.region [.mv 6 (.c (.bool false))] [6]) .ret) .skip)) (.seq (.draw (Ki 8 [(4,[]),(5,[]),(6,[3,4,5])]) (.tk 7 [.idx 71 16 (.t 68) (.t 69),.ls 70 9 16,.m 69 8,.l 68 67,.f 67 66 1,.n 66 65,.m 65 0] (.only 7 none (.store (.t 71) (.t 70) 16 false) false [] .done)) [0,2,10,11]) (.seq (.region [.m 72 0,.m 73 10,.m 74 11,.m 75 2,.cl 76 [72,73,74,75] I9] []) (.seq (.region [.mv 6 (.c (.bool true))] [6]) .ret)))))))))⟩
theorem T7:Bi Tryz.prog 69 Fl=true:=by kernel_rfl

def K4:AH:=(.seq (.seq (.region [.m 25 8,.m 26 0,.n 27 26,.f 28 27 0,.l 29 28,.len 30 false (.t 29),.b 31 .leq 25 30] [0,2,4,7,8,31]) (.cond (.t 31) .skip (.exit 0))) (.seq (.block 1 [0,2,4,7,8] (.seq (.seq (.draw (Ki 13 [(4,[]),(6,[3,5]),(10,[]),(12,[9,11])]) (.tk 13 [.b 46 .neq 43 45,.l 45 44,.f 44 4 1,.l 43 42,.idx 42 1 (.t 41) (.i 0),.l 41 40,.idx 40 1 (.t 37) (.t 39),.bin 39 .sub (.t 38) (.i 1),.m 38 8,.l 37 36,.f 36 35 0,.n 35 34,.m 34 0] .done) [0,2,4,7,8,46]) (.cond (.t 46) (.exit 1) .skip)) (.seq (.draw (Ki 21 [(4,[]),(5,[3,4]),(7,[]),(11,[]),(12,[6,10,11]),(15,[13]),(16,[13]),(17,[]),(18,[14,17]),(19,[15,18]),(20,[16,19])]) (.tk 12 [.m 59 8,.l 58 57,.f 57 56 0,.n 56 55,.m 55 0,.ls 54 53 16,.idx 53 16 (.t 51) (.t 52),.m 52 7,.l 51 50,.f 50 49 1,.n 49 48,.m 48 0] (.only 12 none (.cl 60 [54,58,59] cM) false [(17,.al 9 U)] (.tk 17 [.ext 63 (.t 47) 2,.ext 62 (.t 47) 1,.ext 61 (.t 47) 0,.m 47 60] (.only 17 none (.al 9 U) true [] (.only 18 none (.store (.t 9) (.t 61) 16 false) false [] (.tk 21 [.m 11 63,.m 10 62] .done)))))) [0,2,7,9,10,11]) (.seqc [11] (.seq (.region [.m 64 11] [0,2,7,9,10,11,64]) (.cond (.t 64) (.seq (.draw (Ki 8 [(4,[]),(5,[]),(6,[3,4,5])]) (.tk 7 [.idx 71 16 (.t 68) (.t 69),.ls 70 9 16,.m 69 7,.l 68 67,.f 67 66 1,.n 66 65,.m 65 0] (.only 7 none (.store (.t 71) (.t 70) 16 false) false [] .done)) [0,2,10,11]) (.region [.m 72 0,.m 73 10,.m 74 2,.cx (some 75) [.t 72,.t 73,.c (.nil),.t 74] I9] [11])) .skip)) (.seq (.region [.m 76 11,.m 6 76] [6]) .ret))))) (.region [.m 32 8,.bin 33 .add (.t 32) (.i 1),.m 8 33] [0,2,4,7,8])))
def Jw:AH:=(.seq (.region [.mv 6 (.c (.bool false))] [6]) .ret)
def B_:CC:=⟨[.ptr AY,.val Am,.val (.int .i64)],[⟨6,false,.bool⟩],(.seq (.region [.box 4 (.t 1) false,.mv 6 (.c (.bool false))] [0,2,4]) (.seq (.region [.m 12 0,.f 13 4 1,.l 14 13,.cl 15 [12,14] E8,.m 7 15] [0,2,4,7]) (.seq (.seq (.region [.m 16 0,.n 17 16,.f 18 17 1,.l 19 18,.m 20 7,.idx 21 16 (.t 19) (.t 20),.f 22 21 1,.l 23 22,.bin 24 .add (.t 23) (.i 1),.m 8 24] [0,2,4,7,8]) (.block 0 [] (.loop [0,2,4,7,8] K4))) Jw)))⟩
theorem T8:Bi Tryz.prog 70 B_=true:=by kernel_rfl
def E9:CC:=⟨[.ptr AY,.val (.int .i64)],[⟨4,false,(.int .i64)⟩],(.seq (.region [.fbox 3 (.t 1),.mv 4 (.i 0)] [0,3]) (.seq (.region [.m 5 0,.n 6 5,.f 7 6 1,.l 8 7,.clo 9 103 (.int .i64) (.t 3),.cl 10 [8,9] Fh,.m 4 10] [4]) .ret))⟩
theorem TI:Bi Tryz.prog 71 E9=true:=by kernel_rfl
def Nw:CC:=⟨[.val U],[⟨2,true,Ph⟩],(.seq (.region [.box 1 (.t 0) true,.al 2 Ph] [1,2]) (.seq (.region [.f 3 1 0,.l 4 3,.f 5 1 1,.l 6 5,.bnew 7 [.int .i64 0,.int .i64 0,.bool false,.bool false,.bool false,.bool false,.new 3 (.int .i64) [],.new 38 AL [],.int .i64 0,.int .i64 0,.int .i64 0,.int .i64 0,.str ByteArray.empty,.str ByteArray.empty,.int .i64 0,.new 3 (.int .i64) []] [(0,1,.t 4),(1,1,.t 6),(2,1,.c (.bool true))],.store (.t 2) (.t 7) 16 false] [2]) .ret))⟩
theorem dp:Bi Tryz.prog 72 Nw=true:=by kernel_rfl
def Eo:CC:=⟨[.ptr AY,.val Am,.val (.int .i64)],[⟨6,false,.bool⟩],(.seq (.region [.box 4 (.t 1) false,.mv 6 (.c (.bool false))] [0,2,4]) (.seq (.seq (.region [.m 8 0,.n 9 8,.f 10 9 2,.l 11 10,.len 12 false (.t 11),.bin 13 .eql (.t 12) (.i 0)] [0,2,4,13]) (.cond (.t 13) (.seq (.region [.mv 6 (.c (.bool false))] [6]) .ret) .skip)) (.seq (.draw (Ki 9 [(2,[]),(7,[1,6])]) (.tk 9 [.m 7 21,.b 21 .rem 15 20,.len 20 false (.t 19),.l 19 18,.f 18 17 2,.n 17 16,.m 16 0,.l 15 14,.f 14 4 2] .done) [0,2,4,7]) (.seq (.seq (.region [.f 22 4 0,.l 23 22] [0,2,7,23]) (.block 0 [] (.seq (.region [.bin 25 .eql (.t 23) (.i 2),.m 24 25] [0,2,7,23,24]) (.cond (.t 24) (.region [.m 26 0,.m 27 7,.m 28 2,.cl 29 [26,27,28] Rs] []) (.seq (.region [.bin 31 .eql (.t 23) (.i 3),.m 30 31] [0,7,23,30]) (.cond (.t 30) (.region [.m 32 0,.m 33 0,.n 34 33,.f 35 34 2,.l 36 35,.m 37 7,.m 38 7,.bin 39 .add (.t 38) (.i 1),.cl 40 [36,37,39] Ea,.n 41 32,.f 42 41 2,.store (.t 42) (.t 40) 1 false] []) (.seq (.region [.bin 44 .eql (.t 23) (.i 4),.m 43 44] [0,7,43]) (.cond (.t 43) (.draw (Ki 18 [(1,[]),(5,[]),(9,[]),(10,[8,9]),(14,[4,13]),(15,[0,14])]) (.tk 12 [.ls 56 55 6,.idx 55 6 (.t 53) (.t 54),.m 54 7,.l 53 52,.f 52 51 2,.n 51 50,.m 50 0,.l 49 48,.f 48 47 2,.n 47 46,.m 46 0,.m 45 0] (.only 12 none (.cl 57 [56] Mr) false [] (.only 13 none (.blst 58 AO [.t 57]) false [] (.only 14 none (.app 59 97 AO (.t 49) (.t 58)) false [] (.tk 17 [.f 61 60 2,.n 60 45] (.only 17 none (.store (.t 61) (.t 59) 1 false) false [] .done)))))) []) .skip)))))))) (.seq (.region [.mv 6 (.c (.bool true))] [6]) .ret)))))⟩
theorem R4:Bi Tryz.prog 73 Eo=true:=by kernel_rfl
def GV:CC:=⟨[.val U],[⟨2,true,U⟩],(.seq (.region [.box 1 (.t 0) false,.al 2 U] [1,2]) (.seq (.draw (Ki 17 [(3,[]),(5,[2,4]),(6,[]),(9,[5,8]),(10,[2,4,8]),(11,[9,10])]) (.tk 2 [.l 4 3,.f 3 1 6] (.tk 5 [.l 7 6,.f 6 1 7] (.tk 9 [.l 11 10,.f 10 9 6,.f 9 1 9] (.only 2 none (.cl 5 [4] CF) false [] (.tk 11 [.f 13 1 6] (.only 5 none (.cl 8 [7] Ao) false [] (.only 9 none (.cl 12 [11] CF) false [] (.only 11 none (.store (.t 13) (.t 5) 1 false) false [] (.tk 13 [.f 14 1 7] (.only 13 none (.store (.t 14) (.t 8) 1 false) false [] (.tk 16 [.f 16 15 6,.f 15 1 9] (.only 16 none (.store (.t 16) (.t 12) 1 false) false [] .done)))))))))))) [1,2]) (.seq (.region [.ls 17 1 16,.store (.t 2) (.t 17) 16 false] [2]) .ret)))⟩
theorem VO:Bi Tryz.prog 75 GV=true:=by kernel_rfl
def JG:CC:=⟨[.val AO],[⟨2,true,AO⟩],(.seq (.region [.box 1 (.t 0) false,.al 2 AO] [1,2]) (.seq (.region [.f 3 1 5,.l 4 3,.cl 5 [4] Ao,.f 6 1 5,.store (.t 6) (.t 5) 1 false] [1,2]) (.seq (.region [.ls 7 1 6,.store (.t 2) (.t 7) 6 false] [2]) .ret)))⟩
theorem ZT:Bi Tryz.prog 76 JG=true:=by kernel_rfl
def MX:CC:=⟨[.val .str],[⟨2,false,.bool⟩],(.seq (.region [.mv 2 (.c (.bool false))] [0]) (.seq (.region [.m 3 0,.len 4 true (.t 3),.cx (some 5) [.t 4,.c (.int .i64 1),.c (.int .i64 12)] Af,.m 2 5] [2]) .ret))⟩
theorem cX:Bi Tryz.prog 87 MX=true:=by kernel_rfl
def On:AH:=(.seq (.region [.m 50 1,.ls 51 5 6,.cl 52 [9,50,51] T3,.m 49 52,.ext 53 (.t 49) 0,.ext 54 (.t 49) 1,.m 10 53,.m 11 54] [6,9,10,11]) (.seq (.region [.ls 55 9 16,.cl 56 [55] Ek,.m 57 10,.m 58 11,.store (.t 6) (.t 56) 16 false,.m 7 57,.m 8 58] [6,7,8]) .ret))
def FE:CC:=⟨[.val U,.val (.slice (.slice (.int .i64))),.val AO],[⟨6,true,U⟩,⟨7,false,(.slice AO)⟩,⟨8,false,(.slice Ff)⟩],(.seq (.region [.box 3 (.t 0) false,.box 5 (.t 2) false,.al 6 U,.mv 7 (.c (.nil)),.mv 8 (.c (.nil))] [1,3,5,6]) (.seq (.region [.ls 12 3 16,.cl 13 [12] Ek,.al 9 U,.store (.t 9) (.t 13) 16 false] [1,3,5,6,9]) (.seq (.seq (.region [.f 14 5 2,.l 15 14,.f 16 3 0,.l 17 16,.b 18 .neq 15 17,.m 19 18,.sc 19 false [.f 20 5 3,.l 21 20,.f 22 3 1,.l 23 22,.b 24 .lss 21 23] 25 (.c (.bool true)) (.t 24),.m 26 25,.sc 26 false [.f 27 5 3,.l 28 27,.m 29 1,.len 30 false (.t 29),.b 31 .gtr 28 30] 32 (.c (.bool true)) (.t 31),.m 33 32,.sc 33 false [.ls 34 3 16,.cl 35 [34] LU,.un 36 .not (.t 35)] 37 (.c (.bool true)) (.t 36),.m 38 37,.sc 38 false [.m 39 1,.cl 40 [39] Gg,.un 41 .not (.t 40)] 42 (.c (.bool true)) (.t 41),.m 43 42,.sc 43 false [.ls 44 5 6,.cl 45 [44] cN,.un 46 .not (.t 45)] 47 (.c (.bool true)) (.t 46)] [1,5,6,9,47]) (.cond (.t 47) (.seq (.region [.ls 48 9 16,.store (.t 6) (.t 48) 16 false,.mv 7 (.c (.nil)),.mv 8 (.c (.nil))] [6,7,8]) .ret) .skip)) On)))⟩
theorem ZU:Bi Tryz.prog 89 FE=true:=by kernel_rfl
def L0:AH:=(.seq (.draw (Ki 8 [(4,[]),(6,[3,5])]) (.tk 8 [.m 10 54,.idx 54 9 (.t 51) (.t 53),.l 53 52,.f 52 9 0,.l 51 50,.f 50 49 3,.n 49 48,.m 48 0] .done) [0,3,9,10,20,21,22]) (.seq (.draw (Ki 24 [(1,[]),(2,[]),(3,[]),(4,[]),(5,[]),(8,[]),(10,[]),(12,[0,4]),(15,[1,7,14]),(18,[2,9,17]),(21,[3,11,20])]) (.tk 14 [.f 68 67 4,.n 67 55,.l 66 65,.f 65 9 2,.l 64 63,.f 63 9 1,.l 62 61,.f 61 60 2,.f 60 9 3,.m 59 3,.m 58 10,.m 57 10,.m 56 10,.m 55 10] (.only 14 none (.store (.t 68) (.t 59) 1 false) false [] (.tk 17 [.f 70 69 5,.n 69 56] (.only 17 none (.store (.t 70) (.t 62) 1 false) false [] (.tk 20 [.f 72 71 6,.n 71 57] (.only 20 none (.store (.t 72) (.t 64) 1 false) false [] (.tk 23 [.f 74 73 7,.n 73 58] (.only 23 none (.store (.t 74) (.t 66) 1 false) false [] .done)))))))) [0,3,9,10,20,21,22]) (.seq (.region [.m 75 10,.n 76 75,.f 77 76 0,.l 78 77,.bin 79 .eql (.t 78) (.i 2)] [0,3,9,10,20,21,22,79]) (.cond (.t 79) (.region [.m 80 10,.f 81 9 3,.f 82 81 1,.l 83 82,.n 84 80,.f 85 84 8,.store (.t 85) (.t 83) 1 false] [0,3,20,21,22]) .skip))))
def L2:AH:=(.region [.bin 86 .add (.t 22) (.i 1),.m 22 86] [0,3,20,21,22])
def L4:AH:=(.seq (.region [.b 23 .lss 22 21] [0,3,20,21,22,23]) (.seq (.cond (.t 23) .skip (.exit 0)) (.seq (.block 1 [0,3,20,21,22] (.seq (.region [.idx 24 6 (.t 20) (.t 22),.ls 25 24 6,.al 9 Ff,.store (.t 9) (.t 25) 6 false] [0,3,9,20,21,22]) (.seq (.seq (.draw (Ki 22 [(2,[]),(8,[1,7]),(15,[10]),(17,[14,16])]) (.tk 8 [.bin 33 .sub (.t 32) (.i 1),.len 32 false (.t 31),.l 31 30,.f 30 29 3,.n 29 28,.m 28 0,.l 27 26,.f 26 9 0] (.only 8 none (.cx (some 34) [.t 27,.c (.int .i64 0),.t 33] Af) false [] (.tk 11 [.m 36 35,.un 35 .not (.t 34)] (.test 36 (.sk 36 false 10 21 47 (.tk 22 [.pick 47 (.t 36) (.c (.bool true)) (.t 46)] .done)) (.tg 36 false 21 [.bin 46 .neq (.t 45) (.c (.int .i64 (-1))),.l 45 44,.f 44 43 4,.idx 43 9 (.t 40) (.t 42),.l 42 41,.f 41 9 0,.l 40 39,.f 39 38 3,.n 38 37,.m 37 0] (.tk 22 [.pick 47 (.t 36) (.c (.bool true)) (.t 46)] .done)))))) [0,3,9,20,21,22,47]) (.cond (.t 47) (.exit 1) .skip)) L0))) L2)))
def B4:CC:=⟨[.ptr AY,.val (.slice AO),.val (.slice Ff),.val (.int .i64)],[],(.seq (.region [.m 11 0,.m 12 0,.n 13 12,.f 14 13 2,.l 15 14,.m 16 1,.app 17 97 AO (.t 15) (.t 16),.n 18 11,.f 19 18 2,.store (.t 19) (.t 17) 1 false] [0,2,3]) (.seq (.region [.m 20 2,.len 21 false (.t 20),.mv 22 (.i 0)] [0,3,20,21,22]) (.block 0 [] (.loop [0,3,20,21,22] L4))))⟩
theorem VP:Bi Tryz.prog 90 B4=true:=by kernel_rfl
def BC:CC:=⟨[.val (.slice AF),.val (.clo 92 AF)],[⟨4,false,.bool⟩],(.seq (.region [.mv 4 (.c (.bool false))] [0,1]) (.seq (.region [.m 5 0,.m 6 1,.cl 7 [5,6] Gh,.bin 8 .geq (.t 7) (.i 0),.m 4 8] [4]) .ret))⟩
theorem F3:Bi Tryz.prog 91 BC=true:=by kernel_rfl
def JH:CC:=⟨[.val AF,.val AF],[⟨3,false,.bool⟩],(.seq (.region [.box 2 (.t 0) false,.mv 3 (.c (.bool false))] [1,2]) (.seq (.region [.f 4 2 0,.l 5 4,.bin 6 .eql (.t 5) (.i 1),.m 7 6,.sc 7 true [.f 8 2 1,.l 9 8,.f 10 1 1,.l 11 10,.b 12 .eql 9 11] 13 (.t 12) (.c (.bool false)),.m 14 13,.sc 14 true [.f 15 2 2,.l 16 15,.f 17 1 8,.l 18 17,.b 19 .eql 16 18] 20 (.t 19) (.c (.bool false)),.m 21 20,.sc 21 true [.ls 22 2 9,.cl 23 [22] GE,.un 24 .not (.t 23),.m 25 24,.sc 25 false [.f 26 2 5,.l 27 26,.f 28 1 5,.l 29 28,.b 30 .eql 27 29] 31 (.c (.bool true)) (.t 30)] 32 (.t 31) (.c (.bool false)),.m 3 32] [3]) .ret))⟩
theorem ZV:Bi Tryz.prog 92 JH=true:=by kernel_rfl
def Hd:AH:=(.seq (.region [.b 9 .lss 8 7] [0,1,7,8,9]) (.seq (.cond (.t 9) .skip (.exit 0)) (.seq (.block 1 [0,1,7,8] (.seq (.region [.m 10 8,.m 5 10] [0,1,5,7,8]) (.seq (.region [.m 11 1,.m 12 0,.m 13 5,.idx 14 1 (.t 12) (.t 13),.l 15 14,.b 16 .eql 11 15] [0,1,5,7,8,16]) (.cond (.t 16) (.seq (.region [.m 17 5,.m 4 17] [4]) .ret) .skip)))) (.region [.bin 18 .add (.t 8) (.i 1),.m 8 18] [0,1,7,8]))))
def He:AH:=(.seq (.region [.mv 4 (.c (.int .i64 (-1)))] [4]) .ret)
def BQ:CC:=⟨[.val (.slice (.int .i64)),.val (.int .i64)],[⟨4,false,(.int .i64)⟩],(.seq (.region [.mv 4 (.i 0)] [0,1]) (.seq (.seq (.region [.m 6 0,.len 7 false (.t 6),.mv 8 (.i 0)] [0,1,7,8]) (.block 0 [] (.loop [0,1,7,8] Hd))) He))⟩
theorem Pk:Bi Tryz.prog 95 BQ=true:=by kernel_rfl
def R5:DT:=(.only 4 none (.store (.t 12) (.t 106) 16 false) false [] (.tk 8 [.mv 15 (.c (.bool true)),.mv 14 (.c (.nil)),.m 13 109] .done))
def R6:AH:=(.seq (.seq (.region [.m 100 18,.len 101 false (.t 100),.bin 102 .eql (.t 101) (.i 0)] [12,16,18,20,102]) (.cond (.t 102) (.seq (.region [.cl 103 [16] Ms,.m 21 103] [12,16,21]) (.seq (.region [.ls 104 16 16,.m 105 21,.store (.t 12) (.t 104) 16 false,.mv 13 (.c (.nil)),.m 14 105,.mv 15 (.c (.bool true))] [12,13,14,15]) .ret)) .skip)) (.seq (.draw (Ki 8 [(1,[]),(2,[]),(3,[1,2]),(4,[0,3])]) (.tk 3 [.ls 108 20 6,.m 107 18] (.fork 0 (.ls 106 16 16) (.only 3 none (.cl 109 [16,107,108] BG) false [] R5) 3 (.cl 109 [16,107,108] BG) (.tk 1 [.ls 106 16 16] R5))) [12,13,14,15]) .ret))
def QZ:AH:=(.seq (.region [.m 71 1,.f 72 6 1,.l 73 72,.bin 74 .sub (.t 73) (.i 1),.idx 75 1 (.t 71) (.t 74),.l 76 75,.cl 77 [16,76] El,.m 18 77] [2,3,12,16,17,18]) (.seq (.region [.m 78 18,.cl 79 [78] CF,.m 19 79] [2,3,12,16,17,18,19]) (.seq (.region [.m 80 19,.cl 81 [80] Js] [2,3,12,16,17,18,19]) (.seq (.region [.m 82 2,.m 83 3,.f 84 16 8,.l 85 84,.ls 86 17 3,.m 87 19,.bu 88 Tz [(0,1,.t 82),(1,1,.t 83),(2,1,.t 85),(3,3,.t 86),(6,1,.t 87)],.f 89 16 9,.store (.t 89) (.t 88) 7 false] [2,12,16,17,18]) (.seq (.region [.f 90 16 8,.l 91 90,.bu 92 AO [(0,1,.c (.int .i64 7)),(4,1,.t 91)],.al 20 AO,.store (.t 20) (.t 92) 6 false] [2,12,16,17,18,20]) (.seqc [12,16,18,20] (.seq (.region [.m 93 2,.bin 94 .eql (.t 93) (.i 1)] [12,16,17,18,20,94]) (.cond (.t 94) (.region [.f 95 16 8,.l 96 95,.ls 97 17 3,.brow 98 38 AL [.t 97],.bu 99 AO [(0,1,.c (.int .i64 5)),(4,1,.t 96),(5,1,.t 98)],.store (.t 20) (.t 99) 6 false] [12,16,18,20]) .skip)) R6))))))
def Qa:AH:=(.seq (.region [.ls 39 6 16,.cl 40 [39] Ek,.al 16 U,.store (.t 16) (.t 40) 16 false] [1,2,3,4,5,6,12,16]) (.seq (.region [.f 41 16 8,.l 42 41,.bin 43 .add (.t 42) (.i 1),.f 44 16 8,.store (.t 44) (.t 43) 1 false] [1,2,3,4,5,6,12,16]) (.seq (.region [.m 45 4,.m 46 5,.f 47 6 1,.l 48 47,.bin 49 .mul (.i 1000) (.t 48),.f 50 16 8,.l 51 50,.b 52 .add 49 51,.bu 53 AL [(0,1,.t 45),(1,1,.t 46),(2,1,.t 52)],.al 17 AL,.store (.t 17) (.t 53) 3 false] [1,2,3,4,6,12,16,17]) (.seq (.seq (.region [.m 54 2,.bin 55 .eql (.t 54) (.i 1),.m 56 55,.sc 56 true [.f 57 6 7,.l 58 57,.len 59 false (.t 58),.bin 60 .eql (.t 59) (.i 12)] 61 (.t 60) (.c (.bool false)),.m 62 61,.sc 62 true [.f 63 6 7,.l 64 63,.m 65 4,.cl 66 [64,65] Ti,.bu 67 AL [],.eqs 68 false AL (.t 66) (.t 67)] 69 (.t 68) (.c (.bool false))] [1,2,3,6,12,16,17,69]) (.cond (.t 69) (.seq (.region [.bu 70 U [],.store (.t 12) (.t 70) 16 false,.mv 13 (.c (.nil)),.mv 14 (.c (.nil)),.mv 15 (.c (.bool false))] [12,13,14,15]) .ret) .skip)) QZ))))
def DL:CC:=⟨[.val U,.val (.slice (.slice (.int .i64))),.val (.int .i64),.val (.int .i64),.val .str,.val .str],[⟨12,true,U⟩,⟨13,false,(.slice AO)⟩,⟨14,false,(.slice Ff)⟩,⟨15,false,.bool⟩],(.seq (.region [.box 6 (.t 0) false,.al 12 U,.mv 13 (.c (.nil)),.mv 14 (.c (.nil)),.mv 15 (.c (.bool false))] [1,2,3,4,5,6,12]) (.seq (.seq (.region [.ls 22 6 16,.cl 23 [22] LU,.un 24 .not (.t 23),.m 25 24,.sc 25 false [.m 26 1,.cl 27 [6,26] Pi,.un 28 .not (.t 27)] 29 (.c (.bool true)) (.t 28),.m 30 29,.sc 30 false [.m 31 2,.m 32 3,.m 33 4,.m 34 5,.cl 35 [31,32,33,34] VD,.un 36 .not (.t 35)] 37 (.c (.bool true)) (.t 36)] [1,2,3,4,5,6,12,37]) (.cond (.t 37) (.seq (.region [.bu 38 U [],.store (.t 12) (.t 38) 16 false,.mv 13 (.c (.nil)),.mv 14 (.c (.nil)),.mv 15 (.c (.bool false))] [12,13,14,15]) .ret) .skip)) Qa))⟩
theorem cY:Bi Tryz.prog 100 DL=true:=by kernel_rfl
def R7:DT:=(.sk 33 false 10 32 44 (.tk 33 [.pick 44 (.t 33) (.c (.bool true)) (.t 43)] .done))
def Qb:DT:=(.sk 27 false 4 20 32 (.tk 22 [.m 33 32,.pick 32 (.t 27) (.c (.bool true)) (.t 31)] R7))
def Qc:DT:=(.sk 20 false 5 14 26 (.tk 16 [.m 27 26,.pick 26 (.t 20) (.c (.bool true)) (.t 25)] Qb))
def Qd:DT:=(.only 9 none (.store (.t 6) (.t 74) 16 false) false [] (.tk 12 [.mv 8 (.c (.bool true)),.m 7 82] .done))
def Qe:DT:=(.only 8 none (.cl 82 [9,80,81] BG) false [] Qd)
def Qf:AH:=(.seq (.region [.cl 57 [9] JA] [1,2,6,9,10]) (.seq (.region [.m 58 2,.f 59 9 1,.store (.t 59) (.t 58) 1 false,.f 60 9 2,.store (.t 60) (.c (.bool false)) 1 false,.f 61 9 3,.store (.t 61) (.c (.bool false)) 1 false,.f 62 9 4,.store (.t 62) (.c (.bool true)) 1 false] [1,2,6,9,10]) (.seq (.seq (.region [.m 63 10] [1,2,6,9,63]) (.cond (.t 63) (.seq (.draw (Ki 9 [(1,[]),(3,[0,2]),(5,[]),(7,[4,6])]) (.tk 7 [.l 70 69,.f 69 9 7,.l 68 67,.idx 67 1 (.t 64) (.t 66),.bin 66 .sub (.t 65) (.i 1),.m 65 2,.m 64 1] (.only 7 none (.cl 71 [9,68,70] JB) false [] (.tk 9 [.m 11 71] .done))) [6,9,11]) (.seq (.region [.ls 72 9 16,.m 73 11,.store (.t 6) (.t 72) 16 false,.m 7 73,.mv 8 (.c (.bool true))] [6,7,8]) .ret)) .skip)) (.seq (.draw (Ki 12 [(1,[]),(2,[]),(4,[1,3]),(7,[]),(8,[6,7]),(9,[0,8])]) (.tk 6 [.l 79 78,.idx 78 1 (.t 75) (.t 77),.bin 77 .sub (.t 76) (.i 2),.m 76 2,.m 75 1] (.tk 8 [.bu 81 AO [(0,1,.c (.int .i64 1))]] (.fork 0 (.ls 74 9 16) (.only 6 none (.cl 80 [9,79] El) false [] Qe) 6 (.cl 80 [9,79] El) (.fork 0 (.ls 74 9 16) Qe 8 (.cl 82 [9,80,81] BG) (.tk 1 [.ls 74 9 16] Qd))))) [6,7,8]) .ret))))
def Qg:AH:=(.seq (.region [.ls 46 3 16,.cl 47 [46] Ek,.al 9 U,.store (.t 9) (.t 47) 16 false] [1,2,3,6,9]) (.seq (.region [.f 48 3 3,.l 49 48,.m 50 49,.sc 50 true [.f 51 3 1,.l 52 51,.m 53 2,.bin 54 .sub (.t 53) (.i 1),.b 55 .eql 52 54] 56 (.t 55) (.c (.bool false)),.m 10 56] [1,2,6,9,10]) Qf))
def Ep:CC:=⟨[.val U,.val (.slice (.slice (.int .i64))),.val (.int .i64)],[⟨6,true,U⟩,⟨7,false,(.slice AO)⟩,⟨8,false,.bool⟩],(.seq (.region [.box 3 (.t 0) false,.al 6 U,.mv 7 (.c (.nil)),.mv 8 (.c (.bool false))] [1,2,3,6]) (.seq (.seq (.draw (Ki 33 [(10,[8]),(12,[9,11]),(17,[15]),(19,[16,18]),(23,[21]),(25,[22,24]),(29,[21]),(31,[28,30])]) (.tk 1 [.ls 12 3 16] (.only 1 none (.cl 13 [12] LU) false [] (.tk 4 [.m 15 14,.un 14 .not (.t 13)] (.test 15 (.sk 15 false 3 7 19 (.tk 9 [.m 20 19,.pick 19 (.t 15) (.c (.bool true)) (.t 18)] Qc)) (.tg 15 false 5 [.m 16 1] (.only 5 (some (15,false)) (.cl 17 [16] Gg) false [] (.tg 15 false 7 [.un 18 .not (.t 17)] (.tk 9 [.m 20 19,.pick 19 (.t 15) (.c (.bool true)) (.t 18)] (.test 20 Qc (.tg 20 false 12 [.len 23 false (.t 22),.m 22 1,.m 21 2] (.only 12 (some (20,false)) (.cx (some 24) [.t 21,.c (.int .i64 2),.t 23] Af) false [] (.tg 20 false 14 [.un 25 .not (.t 24)] (.tk 16 [.m 27 26,.pick 26 (.t 20) (.c (.bool true)) (.t 25)] (.test 27 Qb (.tg 27 false 20 [.b 31 .leq 28 30,.l 30 29,.f 29 3 1,.m 28 2] (.tk 22 [.m 33 32,.pick 32 (.t 27) (.c (.bool true)) (.t 31)] (.test 33 R7 (.tg 33 false 32 [.b 43 .neq 40 42,.l 42 41,.f 41 3 0,.l 40 39,.idx 39 1 (.t 38) (.i 0),.l 38 37,.idx 37 1 (.t 34) (.t 36),.bin 36 .sub (.t 35) (.i 1),.m 35 2,.m 34 1] (.tk 33 [.pick 44 (.t 33) (.c (.bool true)) (.t 43)] .done))))))))))))))))))) [1,2,3,6,44]) (.cond (.t 44) (.seq (.region [.bu 45 U [],.store (.t 6) (.t 45) 16 false,.mv 7 (.c (.nil)),.mv 8 (.c (.bool false))] [6,7,8]) .ret) .skip)) Qg))⟩
theorem cZ:Bi Tryz.prog 101 Ep=true:=by kernel_rfl
def Ch:AH:=(.seq (.region [.b 9 .lss 8 7] [0,1,7,8,9]) (.seq (.cond (.t 9) .skip (.exit 0)) (.seq (.block 1 [0,1,7,8] (.seq (.region [.m 10 8,.m 5 10] [0,1,5,7,8]) (.seq (.region [.m 11 1,.m 12 0,.m 13 5,.idx 14 16 (.t 12) (.t 13),.ls 15 14 16,.call (some 16) 103 [(.t 15,.bor U),(.t 11,.cap 103 (.int .i64))] [.bool]] [0,1,5,7,8,16]) (.cond (.t 16) (.seq (.region [.m 17 5,.m 4 17] [4]) .ret) .skip)))) (.region [.bin 18 .add (.t 8) (.i 1),.m 8 18] [0,1,7,8]))))
def Ci:AH:=(.seq (.region [.mv 4 (.c (.int .i64 (-1)))] [4]) .ret)
def AP:CC:=⟨[.val (.slice U),.val (.clo 103 (.int .i64))],[⟨4,false,(.int .i64)⟩],(.seq (.region [.mv 4 (.i 0)] [0,1]) (.seq (.seq (.region [.m 6 0,.len 7 false (.t 6),.mv 8 (.i 0)] [0,1,7,8]) (.block 0 [] (.loop [0,1,7,8] Ch))) Ci))⟩
theorem Fm:Bi Tryz.prog 102 AP=true:=by kernel_rfl
def ET:CC:=⟨[.val U,.val (.int .i64)],[⟨3,false,.bool⟩],(.seq (.region [.box 2 (.t 0) false,.mv 3 (.c (.bool false))] [1,2]) (.seq (.region [.f 4 2 0,.l 5 4,.l 6 1,.b 7 .eql 5 6,.m 3 7] [3]) .ret))⟩
theorem RF:Bi Tryz.prog 103 ET=true:=by kernel_rfl
def R8:AH:=(.cond (.t 39) (.seq (.region [.mv 2 (.c (.bool true))] [2]) .ret) (.seq (.region [.bin 43 .eql (.t 38) (.i 5),.m 42 43] [1,42]) (.cond (.t 42) (.seq (.region [.f 44 1 5,.l 45 44,.len 46 false (.t 45),.bin 47 .eql (.t 46) (.i 1),.m 2 47] [2]) .ret) .skip)))
def R9:AH:=(.seq (.region [.f 48 1 5,.l 49 48,.len 50 false (.t 49),.bin 51 .eql (.t 50) (.i 0),.m 2 51] [2]) .ret)
def R_:AH:=(.seq (.seq (.region [.f 37 1 0,.l 38 37] [1,38]) (.block 0 [1] (.seqc [1,38,39] (.seq (.region [.bin 40 .eql (.t 38) (.i 2),.m 39 40] [1,38,39]) (.cond (.t 39) .skip (.region [.bin 41 .eql (.t 38) (.i 3),.m 39 41] [1,38,39]))) R8))) R9)
def Dw:CC:=⟨[.val AO],[⟨2,false,.bool⟩],(.seq (.region [.box 1 (.t 0) false,.mv 2 (.c (.bool false))] [1]) (.seq (.seq (.region [.f 3 1 0,.l 4 3,.cx (some 5) [.t 4,.c (.int .i64 1),.c (.int .i64 8)] Af,.un 6 .not (.t 5),.m 7 6,.sc 7 false [.f 8 1 1,.l 9 8,.cl 10 [9] GD,.un 11 .not (.t 10)] 12 (.c (.bool true)) (.t 11),.m 13 12,.sc 13 false [.f 14 1 2,.l 15 14,.cl 16 [15] GD,.un 17 .not (.t 16)] 18 (.c (.bool true)) (.t 17),.m 19 18,.sc 19 false [.f 20 1 3,.l 21 20,.cx (some 22) [.t 21,.c (.int .i64 1),.c (.int .i64 9)] Af,.un 23 .not (.t 22)] 24 (.c (.bool true)) (.t 23),.m 25 24,.sc 25 false [.f 26 1 4,.l 27 26,.cx (some 28) [.t 27,.c (.int .i64 0),.c (.int .i64 1000000000)] Af,.un 29 .not (.t 28)] 30 (.c (.bool true)) (.t 29),.m 31 30,.sc 31 false [.f 32 1 5,.l 33 32,.cl 34 [33] I8,.un 35 .not (.t 34)] 36 (.c (.bool true)) (.t 35)] [1,36]) (.cond (.t 36) (.seq (.region [.mv 2 (.c (.bool false))] [2]) .ret) .skip)) R_))⟩
theorem ca:Bi Tryz.prog 109 Dw=true:=by kernel_rfl
def K5:DT:=(.sk 31 true 5 19 37 (.tk 20 [.pick 37 (.t 31) (.t 36) (.c (.bool false))] .done))
def K6:AH:=(.cond (.t 37) (.seq (.draw (Ki 14 [(1,[]),(2,[]),(7,[1,6]),(9,[]),(11,[0,8,10])]) (.tk 11 [.l 48 47,.f 47 5 5,.l 46 45,.idx 45 1 (.t 39) (.t 44),.bin 44 .sub (.t 43) (.i 1),.l 43 42,.f 42 41 1,.n 41 40,.m 40 0,.m 39 1,.m 38 0] (.only 11 none (.cl 49 [38,46,48] JB) false [] (.tk 14 [.mv 7 (.c (.nil)),.m 6 49] .done))) [6,7]) .ret) .skip)
def K7:AH:=(.cond (.t 75) (.seq (.draw (Ki 11 [(1,[]),(5,[]),(7,[4,6]),(8,[0,7])]) (.tk 7 [.l 82 81,.f 81 5 1,.l 80 79,.f 79 78 6,.n 78 77,.m 77 0,.m 76 0] (.only 7 none (.cl 83 [80,82] Ru) false [] (.tk 10 [.f 85 84 6,.n 84 76] (.only 10 none (.store (.t 85) (.t 83) 1 false) false [] .done)))) [0]) (.region [.m 86 0,.m 87 0,.n 88 87,.f 89 88 5,.l 90 89,.m 91 90,.sc 91 false [.m 92 0,.n 93 92,.f 94 93 6,.l 95 94,.len 96 false (.t 95),.bin 97 .eql (.t 96) (.i 0),.m 98 97,.sc 98 true [.m 99 0,.n 100 99,.f 101 100 3,.l 102 101] 103 (.t 102) (.c (.bool false))] 104 (.c (.bool true)) (.t 103),.n 105 86,.f 106 105 5,.store (.t 106) (.t 104) 1 false] [])) .skip)
def Jx:AH:=(.cond (.t 107) (.seq (.region [.m 110 0,.ls 111 5 6,.cl 112 [110,111] TG,.m 6 112,.mv 7 (.c (.nil))] [6,7]) .ret) (.seq (.region [.bin 114 .eql (.t 9) (.i 6),.m 113 114] [0,5,9,113]) (.cond (.t 113) (.seq (.region [.m 115 0,.ls 116 5 6,.cx (some 117) [.t 115,.c (.int .i64 1),.t 116] Kx,.mv 6 (.c (.nil)),.m 7 117] [6,7]) .ret) (.seq (.region [.bin 119 .eql (.t 9) (.i 8),.m 118 119] [0,5,118]) (.cond (.t 118) (.seq (.region [.m 120 0,.ls 121 5 6,.cx (some 122) [.t 120,.c (.int .i64 2),.t 121] Kx,.mv 6 (.c (.nil)),.m 7 122] [6,7]) .ret) .skip)))))
def Jy:AH:=(.seq (.region [.mv 6 (.c (.nil)),.mv 7 (.c (.nil))] [6,7]) .ret)
def Bq:CC:=⟨[.ptr U,.val (.slice (.slice (.int .i64))),.val AO],[⟨6,false,(.slice AO)⟩,⟨7,false,(.slice Ff)⟩],(.seq (.region [.box 5 (.t 2) false,.mv 6 (.c (.nil)),.mv 7 (.c (.nil))] [0,1,5]) (.seq (.seq (.region [.f 8 5 0,.l 9 8] [0,1,5,9]) (.block 0 [] (.seq (.region [.bin 11 .eql (.t 9) (.i 1),.m 10 11] [0,1,5,9,10]) (.cond (.t 10) (.seq (.region [.m 12 0,.m 13 1,.ls 14 5 6,.cl 15 [12,13,14] T4,.m 6 15,.mv 7 (.c (.nil))] [6,7]) .ret) (.seq (.region [.bin 17 .eql (.t 9) (.i 2),.m 16 17] [0,1,5,9,16]) (.cond (.t 16) (.seq (.draw (Ki 20 [(2,[]),(6,[1,5])]) (.tk 8 [.m 25 24,.b 24 .eql 19 23,.l 23 22,.f 22 21 1,.n 21 20,.m 20 0,.l 19 18,.f 18 5 3] (.test 25 (.tg 25 true 12 [.l 29 28,.f 28 27 4,.n 27 26,.m 26 0] (.tk 14 [.m 31 30,.pick 30 (.t 25) (.t 29) (.c (.bool false))] (.test 31 (.tg 31 true 19 [.un 36 .not (.t 35),.l 35 34,.f 34 33 3,.n 33 32,.m 32 0] (.tk 20 [.pick 37 (.t 31) (.t 36) (.c (.bool false))] .done)) K5))) (.sk 25 true 4 12 30 (.tk 14 [.m 31 30,.pick 30 (.t 25) (.t 29) (.c (.bool false))] K5)))) [0,1,5,37]) K6) (.seq (.region [.bin 51 .eql (.t 9) (.i 3),.m 50 51] [0,1,5,9,50]) (.cond (.t 50) (.seq (.draw (Ki 11 [(1,[]),(2,[]),(5,[1,4]),(7,[]),(8,[0,6,7])]) (.tk 8 [.ls 59 5 6,.l 58 57,.idx 57 1 (.t 53) (.t 56),.bin 56 .sub (.t 55) (.i 1),.l 55 54,.f 54 5 3,.m 53 1,.m 52 0] (.only 8 none (.cl 60 [52,58,59] RE) false [] (.tk 11 [.mv 7 (.c (.nil)),.m 6 60] .done))) [6,7]) .ret) (.seq (.region [.bin 62 .eql (.t 9) (.i 4),.m 61 62] [0,5,9,61]) (.cond (.t 61) (.seq (.draw (Ki 13 [(2,[]),(6,[1,5])]) (.tk 8 [.m 70 69,.b 69 .eql 64 68,.l 68 67,.f 67 66 1,.n 66 65,.m 65 0,.l 64 63,.f 63 5 3] (.test 70 (.tg 70 true 12 [.l 74 73,.f 73 72 4,.n 72 71,.m 71 0] (.tk 13 [.pick 75 (.t 70) (.t 74) (.c (.bool false))] .done)) (.sk 70 true 4 12 75 (.tk 13 [.pick 75 (.t 70) (.t 74) (.c (.bool false))] .done)))) [0,5,75]) K7) (.seqc [0,5,9,107] (.seq (.region [.bin 108 .eql (.t 9) (.i 5),.m 107 108] [0,5,9,107]) (.cond (.t 107) .skip (.region [.bin 109 .eql (.t 9) (.i 7),.m 107 109] [0,5,9,107]))) Jx))))))))))) Jy))⟩
theorem T9:Bi Tryz.prog 110 Bq=true:=by kernel_rfl
def C4:AH:=(.seq (.region [.b 9 .lss 8 7] [0,1,7,8,9]) (.seq (.cond (.t 9) .skip (.exit 0)) (.seq (.block 1 [0,1,7,8] (.seq (.region [.m 10 8,.m 5 10] [0,1,5,7,8]) (.seq (.region [.m 11 1,.m 12 0,.m 13 5,.idx 14 9 (.t 12) (.t 13),.ls 15 14 9,.call (some 16) 92 [(.t 15,.val AF),(.t 11,.cap 92 AF)] [.bool]] [0,1,5,7,8,16]) (.cond (.t 16) (.seq (.region [.m 17 5,.m 4 17] [4]) .ret) .skip)))) (.region [.bin 18 .add (.t 8) (.i 1),.m 8 18] [0,1,7,8]))))
def C5:AH:=(.seq (.region [.mv 4 (.c (.int .i64 (-1)))] [4]) .ret)
def AT:CC:=⟨[.val (.slice AF),.val (.clo 92 AF)],[⟨4,false,(.int .i64)⟩],(.seq (.region [.mv 4 (.i 0)] [0,1]) (.seq (.seq (.region [.m 6 0,.len 7 false (.t 6),.mv 8 (.i 0)] [0,1,7,8]) (.block 0 [] (.loop [0,1,7,8] C4))) C5))⟩
theorem Gi:Bi Tryz.prog 111 AT=true:=by kernel_rfl
def Hf:AH:=(.seq (.draw (Ki 20 [(4,[2]),(9,[3,8]),(13,[2]),(17,[12,16])]) (.tk 1 [.m 34 1] (.only 1 none (.cl 35 [34] Gg) false [] (.tk 3 [.m 36 35] (.test 36 (.tg 36 true 18 [.b 51 .eql 46 50,.l 50 49,.f 49 48 0,.n 48 47,.m 47 0,.l 46 45,.idx 45 1 (.t 44) (.i 0),.l 44 43,.idx 43 1 (.t 37) (.t 42),.bin 42 .sub (.t 41) (.i 1),.l 41 40,.f 40 39 1,.n 39 38,.m 38 0,.m 37 1] (.tk 20 [.m 4 52,.pick 52 (.t 36) (.t 51) (.c (.bool false))] .done)) (.sk 36 true 15 18 52 (.tk 20 [.m 4 52,.pick 52 (.t 36) (.t 51) (.c (.bool false))] .done)))))) [4]) .ret)
def CH:CC:=⟨[.ptr U,.val (.slice (.slice (.int .i64)))],[⟨4,false,.bool⟩],(.seq (.region [.mv 4 (.c (.bool false))] [0,1]) (.seq (.seq (.region [.m 5 0,.n 6 5,.f 7 6 5,.l 8 7,.un 9 .not (.t 8),.m 10 9,.sc 10 false [.m 11 0,.n 12 11,.f 13 12 9,.f 14 13 0,.l 15 14,.bin 16 .neq (.t 15) (.i 0)] 17 (.c (.bool true)) (.t 16),.m 18 17,.sc 18 false [.m 19 0,.n 20 19,.f 21 20 8,.l 22 21,.bin 23 .eql (.t 22) (.i 900)] 24 (.c (.bool true)) (.t 23),.m 25 24,.sc 25 false [.m 26 0,.n 27 26,.f 28 27 1,.l 29 28,.m 30 1,.len 31 false (.t 30),.b 32 .gtr 29 31] 33 (.c (.bool true)) (.t 32)] [0,1,33]) (.cond (.t 33) (.seq (.region [.mv 4 (.c (.bool false))] [4]) .ret) .skip)) Hf))⟩
theorem Pl:Bi Tryz.prog 113 CH=true:=by kernel_rfl
def Qh:AH:=(.seq (.region [.b 10 .lss 9 8] [1,4,7,8,9,10]) (.seq (.cond (.t 10) .skip (.exit 0)) (.seq (.block 1 [1,4,7,8,9] (.seq (.region [.idx 11 3 (.t 7) (.t 9),.ls 12 11 3,.al 6 AL,.store (.t 6) (.t 12) 3 false] [1,4,6,7,8,9]) (.seq (.region [.f 13 6 0,.l 14 13,.m 15 1,.b 16 .eql 14 15] [1,4,6,7,8,9,16]) (.cond (.t 16) (.seq (.region [.ls 17 6 3,.store (.t 4) (.t 17) 3 false] [4]) .ret) .skip)))) (.region [.bin 18 .add (.t 9) (.i 1),.m 9 18] [1,4,7,8,9]))))
def Qi:AH:=(.seq (.region [.bu 19 AL [],.store (.t 4) (.t 19) 3 false] [4]) .ret)
def D5:CC:=⟨[.val (.slice AL),.val .str],[⟨4,true,AL⟩],(.seq (.region [.al 4 AL] [0,1,4]) (.seq (.seq (.region [.m 7 0,.len 8 false (.t 7),.mv 9 (.i 0)] [1,4,7,8,9]) (.block 0 [4] (.loop [1,4,7,8,9] Qh))) Qi))⟩
theorem af:Bi Tryz.prog 114 D5=true:=by kernel_rfl
def JI:AH:=(.seq (.region [.b 11 .lss 10 9] [0,5,8,9,10,11]) (.seq (.cond (.t 11) .skip (.exit 0)) (.seq (.block 1 [0,5,8,9,10] (.seq (.region [.idx 12 1 (.t 8) (.t 10),.l 13 12,.m 7 13] [0,5,7,8,9,10]) (.seq (.region [.m 14 7,.m 15 0,.n 16 15,.f 17 16 0,.l 18 17,.b 19 .neq 14 18] [0,5,7,8,9,10,19]) (.cond (.t 19) (.region [.m 20 5,.m 21 7,.blst 22 (.int .i64) [.t 21],.app 23 3 (.int .i64) (.t 20) (.t 22),.m 5 23] [0,5,8,9,10]) .skip)))) (.region [.bin 24 .add (.t 10) (.i 1),.m 10 24] [0,5,8,9,10]))))
def JJ:AH:=(.seq (.region [.m 25 5,.m 4 25] [4]) .ret)
def Bj:CC:=⟨[.ptr U,.val (.slice (.int .i64))],[⟨4,false,(.slice (.int .i64))⟩],(.seq (.region [.mv 4 (.c (.nil))] [0,1]) (.seq (.region [.nilrow 5 3 (.int .i64)] [0,1,5]) (.seq (.seq (.region [.m 8 1,.len 9 false (.t 8),.mv 10 (.i 0)] [0,5,8,9,10]) (.block 0 [5] (.loop [0,5,8,9,10] JI))) JJ)))⟩
theorem SA:Bi Tryz.prog 115 Bj=true:=by kernel_rfl
def EU:CC:=⟨[.mut (.own 3 (.int .i64))],[],(.seq (.region [.m 3 0,.len 4 false (.t 3),.m 2 4] [0,2]) (.region [.m 5 0,.m 6 2,.m 7 2,.cvi 8 .u64 (.t 7),.cl 9 [8] Xx,.cx (some 10) [.t 5,.c (.int .i64 0),.t 6,.t 9] Du] []))⟩
theorem RG:Bi Tryz.prog 116 EU=true:=by kernel_rfl
def K8:AH:=(.seq (.region [.m 30 0,.bu 31 Tz [],.n 32 30,.f 33 32 9,.store (.t 33) (.t 31) 7 false] [0,3]) (.seq (.draw (Ki 13 [(2,[]),(6,[]),(8,[]),(10,[1,5,7,9])]) (.tk 11 [.bu 44 Ff [(0,1,.t 35),(1,1,.t 39),(2,1,.t 41),(3,3,.t 43)],.ls 43 42 3,.f 42 3 3,.l 41 40,.f 40 3 2,.l 39 38,.f 38 37 1,.n 37 36,.m 36 0,.l 35 34,.f 34 3 1] (.only 11 none (.brow 45 126 Ff [.t 44]) false [] (.tk 13 [.m 2 45] .done))) [2]) .ret))
def DA:CC:=⟨[.ptr U],[⟨2,false,(.slice Ff)⟩],(.seq (.region [.mv 2 (.c (.nil))] [0]) (.seq (.region [.m 4 0,.n 5 4,.f 6 5 9,.ls 7 6 7,.al 3 Tz,.store (.t 3) (.t 7) 7 false] [0,3]) (.seqc [0,3] (.seq (.region [.f 8 3 0,.l 9 8,.bin 10 .eql (.t 9) (.i 1)] [0,3,10]) (.cond (.t 10) (.draw (Ki 11 [(1,[]),(5,[]),(7,[4,6]),(8,[0,7])]) (.tk 7 [.ls 17 16 3,.f 16 3 3,.l 15 14,.f 14 13 7,.n 13 12,.m 12 0,.m 11 0] (.only 7 none (.cl 18 [15,17] Rv) false [] (.tk 10 [.f 20 19 7,.n 19 11] (.only 10 none (.store (.t 20) (.t 18) 1 false) false [] .done)))) [0,3]) (.draw (Ki 10 [(4,[]),(7,[3,6])]) (.tk 7 [.l 27 26,.f 26 25 0,.f 25 3 3,.l 24 23,.f 23 22 7,.n 22 21,.m 21 0] (.only 7 none (.cl 28 [24,27] Ti) false [] (.tk 9 [.f 29 3 3] (.only 9 none (.store (.t 29) (.t 28) 3 false) false [] .done)))) [0,3]))) K8)))⟩
theorem T_:Bi Tryz.prog 117 DA=true:=by kernel_rfl
def Id:AH:=(.seq (.region [.b 14 .lss 13 12] [0,5,7,11,12,13,14]) (.seq (.cond (.t 14) .skip (.exit 0)) (.seq (.block 1 [0,5,7,11,12,13] (.seq (.region [.idx 15 1 (.t 11) (.t 13),.l 16 15,.m 9 16] [0,5,7,9,11,12,13]) (.seq (.region [.ls 17 5 6,.cl 18 [17] Mr,.al 10 AO,.store (.t 10) (.t 18) 6 false] [0,5,7,9,10,11,12,13]) (.seq (.draw (Ki 15 [(4,[]),(5,[]),(9,[3]),(11,[4,10]),(13,[8,12])]) (.tk 10 [.f 28 10 1,.l 27 26,.f 26 25 1,.n 25 24,.m 24 0,.m 23 9,.l 22 21,.f 21 20 0,.n 20 19,.m 19 0] (.only 10 none (.store (.t 28) (.t 22) 1 false) false [] (.tk 12 [.f 29 10 2] (.only 12 none (.store (.t 29) (.t 23) 1 false) false [] (.tk 14 [.f 30 10 3] (.only 14 none (.store (.t 30) (.t 27) 1 false) false [] .done)))))) [0,5,7,10,11,12,13]) (.region [.m 31 7,.ls 32 10 6,.blst 33 AO [.t 32],.app 34 97 AO (.t 31) (.t 33),.m 7 34] [0,5,7,11,12,13]))))) (.region [.bin 35 .add (.t 13) (.i 1),.m 13 35] [0,5,7,11,12,13]))))
def Ie:AH:=(.seq (.region [.m 36 7,.m 6 36] [6]) .ret)
def BW:CC:=⟨[.ptr U,.val (.slice (.int .i64)),.val AO],[⟨6,false,(.slice AO)⟩],(.seq (.region [.box 5 (.t 2) false,.mv 6 (.c (.nil))] [0,1,5]) (.seq (.region [.nilrow 7 97 AO] [0,1,5,7]) (.seq (.seq (.region [.m 11 1,.len 12 false (.t 11),.mv 13 (.i 0)] [0,5,7,11,12,13]) (.block 0 [7] (.loop [0,5,7,11,12,13] Id))) Ie)))⟩
theorem RH:Bi Tryz.prog 118 BW=true:=by kernel_rfl
def GW:CC:=⟨[.ptr U],[],(.region [.m 2 0,.m 3 0,.m 4 0,.m 5 0,.m 6 0,.bu 7 Tz [],.n 8 2,.f 9 8 4,.store (.t 9) (.c (.bool false)) 1 false,.n 10 3,.f 11 10 5,.store (.t 11) (.c (.bool false)) 1 false,.n 12 4,.f 13 12 6,.store (.t 13) (.c (.nil)) 1 false,.n 14 5,.f 15 14 8,.store (.t 15) (.i 0) 1 false,.n 16 6,.f 17 16 9,.store (.t 17) (.t 7) 7 false] [])⟩
theorem VQ:Bi Tryz.prog 119 GW=true:=by kernel_rfl
def Dx:CC:=⟨[.ptr U,.val (.slice (.int .i64)),.val (.slice AL)],[⟨6,false,(.slice AO)⟩],(.seq (.region [.mv 6 (.c (.nil))] [0,1,2]) (.seq (.region [.m 8 0,.m 9 1,.cl 10 [8,9] El,.m 7 10] [0,2,7]) (.seq (.region [.m 11 0,.m 12 0,.m 13 2,.cl 14 [13] Ao,.n 15 11,.f 16 15 3,.store (.t 16) (.c (.bool true)) 1 true,.n 17 12,.f 18 17 7,.store (.t 18) (.t 14) 1 true] [0,2,7]) (.seq (.region [.m 19 0,.m 20 7,.cl 21 [20] CF,.n 22 19,.f 23 22 6,.store (.t 23) (.t 21) 1 true] [0,2,7]) (.seq (.region [.m 24 0,.n 25 24,.f 26 25 6,.l 27 26,.cl 28 [27] Js] [0,2,7]) (.seqc [0,2,7] (.seq (.region [.m 29 7,.len 30 false (.t 29),.bin 31 .eql (.t 30) (.i 0)] [0,2,7,31]) (.cond (.t 31) (.region [.m 32 0,.n 33 32,.f 34 33 5,.store (.t 34) (.c (.bool true)) 1 true] [0,2,7]) .skip)) (.seq (.region [.m 35 0,.m 36 7,.m 37 2,.bu 38 AO [(0,1,.c (.int .i64 3)),(5,1,.t 37)],.cl 39 [35,36,38] BG,.m 6 39] [6]) .ret)))))))⟩
theorem Pm:Bi Tryz.prog 120 Dx=true:=by kernel_rfl
def Jz:DT:=(.sk 22 false 14 30 37 (.tk 31 [.pick 37 (.t 22) (.c (.bool true)) (.t 36)] .done))
def J3:AH:=(.seq (.region [.m 38 0,.m 39 0,.f 40 5 3,.l 41 40,.n 42 38,.f 43 42 1,.store (.t 43) (.t 41) 1 false,.n 44 39,.f 45 44 3,.store (.t 45) (.c (.bool false)) 1 false] [0,5]) (.seq (.region [.m 46 0,.cl 47 [46] JA] [0,5]) (.seq (.draw (Ki 11 [(1,[]),(4,[]),(9,[0,3,8])]) (.tk 3 [.l 50 49,.f 49 5 1,.m 48 0] (.tk 9 [.bu 56 AO [(0,1,.c (.int .i64 2)),(5,1,.t 55)],.l 55 54,.f 54 53 7,.n 53 52,.m 52 0] (.only 3 none (.brow 51 3 (.int .i64) [.t 50]) false [] (.only 9 none (.cl 57 [48,51,56] BG) false [] (.tk 11 [.m 6 57] .done))))) [6]) .ret)))
def DB:CC:=⟨[.ptr U,.val (.slice (.slice (.int .i64))),.val AO],[⟨6,false,(.slice AO)⟩],(.seq (.region [.box 5 (.t 2) false,.mv 6 (.c (.nil))] [0,1,5]) (.seq (.seq (.draw (Ki 31 [(2,[]),(7,[1,6]),(17,[15]),(22,[16,21]),(24,[15]),(28,[23,27])]) (.tk 9 [.m 15 14,.b 14 .neq 8 13,.bin 13 .add (.t 12) (.i 1),.l 12 11,.f 11 10 1,.n 10 9,.m 9 0,.l 8 7,.f 7 5 3] (.test 15 (.sk 15 false 5 14 21 (.tk 16 [.m 22 21,.pick 21 (.t 15) (.c (.bool true)) (.t 20)] Jz)) (.tg 15 false 14 [.un 20 .not (.t 19),.l 19 18,.f 18 17 3,.n 17 16,.m 16 0] (.tk 16 [.m 22 21,.pick 21 (.t 15) (.c (.bool true)) (.t 20)] (.test 22 Jz (.tg 22 false 28 [.l 34 33,.f 33 32 0,.n 32 31,.m 31 0,.l 30 29,.idx 29 1 (.t 23) (.t 28),.bin 28 .sub (.t 27) (.i 1),.l 27 26,.f 26 25 1,.n 25 24,.m 24 0,.m 23 1] (.only 28 (some (22,false)) (.cl 35 [30,34] C2) false [] (.tg 22 false 30 [.un 36 .not (.t 35)] (.tk 31 [.pick 37 (.t 22) (.c (.bool true)) (.t 36)] .done))))))))) [0,5,37]) (.cond (.t 37) (.seq (.region [.mv 6 (.c (.nil))] [6]) .ret) .skip)) J3))⟩
theorem UA:Bi Tryz.prog 131 DB=true:=by kernel_rfl
def If:DT:=(.tg 32 false 20 [.pick 44 (.t 38) (.t 43) (.c (.bool false))] (.tk 22 [.m 24 45,.pick 45 (.t 32) (.c (.bool true)) (.t 44)] .done))
def Ig:AH:=(.cond (.t 24) (.seq (.draw (Ki 21 [(1,[]),(2,[]),(3,[]),(4,[]),(6,[]),(9,[0,5,8]),(12,[1,11]),(15,[2,14]),(18,[3,17])]) (.tk 8 [.l 53 52,.f 52 5 5,.l 51 50,.f 50 5 3,.m 49 0,.m 48 0,.m 47 0,.m 46 0] (.only 8 none (.cl 54 [53] Ao) false [] (.tk 11 [.f 56 55 1,.n 55 46] (.only 11 none (.store (.t 56) (.t 51) 1 false) false [] (.tk 14 [.f 58 57 3,.n 57 47] (.only 14 none (.store (.t 58) (.c (.bool true)) 1 false) false [] (.tk 17 [.f 60 59 2,.n 59 48] (.only 17 none (.store (.t 60) (.c (.bool false)) 1 false) false [] (.tk 20 [.f 62 61 7,.n 61 49] (.only 20 none (.store (.t 62) (.t 54) 1 false) false [] .done)))))))))) [0,5]) (.region [.m 63 0,.cl 64 [63] JA] [0,5])) (.seq (.region [.m 66 0,.n 67 66,.f 68 67 3,.l 69 68,.un 70 .not (.t 69),.m 65 70] [0,5,65]) (.cond (.t 65) (.seq (.region [.mv 6 (.c (.nil))] [6]) .ret) .skip)))
def Ih:AH:=(.seq (.region [.m 71 0,.f 72 5 1,.l 73 72,.brow 74 3 (.int .i64) [.t 73],.bu 75 AO [(0,1,.c (.int .i64 4))],.cl 76 [71,74,75] BG,.m 6 76] [6]) .ret)
def Ii:AH:=(.seq (.block 0 [0,5] (.seq (.draw (Ki 22 [(2,[]),(6,[1,5])]) (.tk 8 [.m 32 31,.b 31 .gtr 26 30,.l 30 29,.f 29 28 1,.n 28 27,.m 27 0,.l 26 25,.f 25 5 3] (.test 32 (.sk 32 false 6 14 39 (.sk 38 true 5 19 44 (.sk 32 false 1 20 45 (.tk 22 [.m 24 45,.pick 45 (.t 32) (.c (.bool true)) (.t 44)] .done)))) (.tg 32 false 14 [.m 38 37,.un 37 .not (.t 36),.l 36 35,.f 35 34 3,.n 34 33,.m 33 0] (.test 38 (.tg 38 true 19 [.un 43 .not (.t 42),.l 42 41,.f 41 40 2,.n 40 39,.m 39 0] If) (.sk 38 true 5 19 44 If))))) [0,5,24]) Ig)) Ih)
def BH:CC:=⟨[.ptr U,.val (.slice (.int .i64)),.val AO],[⟨6,false,(.slice AO)⟩],(.seq (.region [.box 5 (.t 2) false,.mv 6 (.c (.nil))] [0,1,5]) (.seq (.seq (.draw (Ki 17 [(1,[]),(5,[0,4]),(11,[7]),(15,[10,14])]) (.tk 5 [.l 11 10,.f 10 9 0,.n 9 8,.m 8 0,.m 7 1] (.only 5 none (.cl 12 [7,11] C2) false [] (.tk 8 [.m 14 13,.un 13 .not (.t 12)] (.test 14 (.sk 14 false 8 16 23 (.tk 17 [.pick 23 (.t 14) (.c (.bool true)) (.t 22)] .done)) (.tg 14 false 16 [.b 22 .eql 17 21,.l 21 20,.f 20 19 0,.n 19 18,.m 18 0,.l 17 16,.idx 16 1 (.t 15) (.i 0),.m 15 1] (.tk 17 [.pick 23 (.t 14) (.c (.bool true)) (.t 22)] .done)))))) [0,5,23]) (.cond (.t 23) (.seq (.region [.mv 6 (.c (.nil))] [6]) .ret) .skip)) Ii))⟩
theorem RI:Bi Tryz.prog 132 BH=true:=by kernel_rfl
def JK:CC:=⟨[.val (.slice (.int .i64)),.val (.int .i64)],[⟨4,false,(.slice (.int .i64))⟩],(.seq (.region [.fbox 3 (.t 1),.mv 4 (.c (.nil))] [0,3]) (.seq (.region [.m 5 0,.cl 6 [5] CF,.clo 7 145 (.int .i64) (.t 3),.cl 8 [6,7] MT,.m 4 8] [4]) .ret))⟩
theorem ZW:Bi Tryz.prog 133 JK=true:=by kernel_rfl
def J5:AH:=(.seq (.seq (.region [.f 19 3 0,.l 20 19,.bin 21 .eql (.t 20) (.i 7)] [0,3,21]) (.cond (.t 21) (.seq (.region [.m 22 0,.f 23 3 1,.l 24 23,.brow 25 3 (.int .i64) [.t 24],.f 26 3 4,.l 27 26,.bu 28 AO [(0,1,.c (.int .i64 8)),(4,1,.t 27)],.cl 29 [22,25,28] BG,.m 4 29] [4]) .ret) .skip)) (.seq (.draw (Ki 13 [(1,[]),(5,[]),(9,[4,8]),(10,[0,9])]) (.tk 9 [.ls 38 37 3,.idx 37 3 (.t 36) (.i 0),.l 36 35,.f 35 3 5,.l 34 33,.f 33 32 7,.n 32 31,.m 31 0,.m 30 0] (.only 9 none (.cl 39 [34,38] Rv) false [] (.tk 12 [.f 41 40 7,.n 40 30] (.only 12 none (.store (.t 41) (.t 39) 1 false) false [] .done)))) [0,3]) (.seq (.region [.m 42 0,.f 43 3 1,.l 44 43,.brow 45 3 (.int .i64) [.t 44],.f 46 3 4,.l 47 46,.bu 48 AO [(0,1,.c (.int .i64 6)),(4,1,.t 47)],.cl 49 [42,45,48] BG,.m 4 49] [4]) .ret)))
def Cx:CC:=⟨[.ptr U,.val AO],[⟨4,false,(.slice AO)⟩],(.seq (.region [.box 3 (.t 1) false,.mv 4 (.c (.nil))] [0,3]) (.seq (.seq (.draw (Ki 14 [(2,[]),(6,[1,5])]) (.tk 8 [.m 12 11,.b 11 .neq 6 10,.l 10 9,.f 9 8 1,.n 8 7,.m 7 0,.l 6 5,.f 5 3 3] (.test 12 (.sk 12 false 5 13 18 (.tk 14 [.pick 18 (.t 12) (.c (.bool true)) (.t 17)] .done)) (.tg 12 false 13 [.un 17 .not (.t 16),.l 16 15,.f 15 14 3,.n 14 13,.m 13 0] (.tk 14 [.pick 18 (.t 12) (.c (.bool true)) (.t 17)] .done)))) [0,3,18]) (.cond (.t 18) (.seq (.region [.mv 4 (.c (.nil))] [4]) .ret) .skip)) J5))⟩
theorem TJ:Bi Tryz.prog 134 Cx=true:=by kernel_rfl
def JL:DT:=(.sk 23 false 8 25 32 (.tk 26 [.pick 32 (.t 23) (.c (.bool true)) (.t 31)] .done))
def Ij:AH:=(.seq (.draw (Ki 13 [(1,[]),(6,[]),(8,[5,7]),(9,[0,8])]) (.tk 8 [.l 40 39,.f 39 5 1,.l 38 37,.f 37 36 6,.f 36 35 9,.n 35 34,.m 34 0,.m 33 0] (.only 8 none (.cl 41 [38,40] Ru) false [] (.tk 12 [.f 44 43 6,.f 43 42 9,.n 42 33] (.only 12 none (.store (.t 44) (.t 41) 1 false) false [] .done)))) [0]) (.seq (.seq (.region [.m 45 0,.n 46 45,.f 47 46 9,.f 48 47 6,.l 49 48,.len 50 false (.t 49),.bin 51 .gtr (.t 50) (.i 0)] [0,51]) (.cond (.t 51) (.seq (.region [.mv 6 (.c (.nil))] [6]) .ret) .skip)) (.seq (.region [.m 52 0,.cl 53 [52] Ms,.m 6 53] [6]) .ret)))
def Cj:CC:=⟨[.ptr U,.val (.int .i64),.val AO],[⟨6,false,(.slice Ff)⟩],(.seq (.region [.box 5 (.t 2) false,.mv 6 (.c (.nil))] [0,1,5]) (.seq (.seq (.draw (Ki 26 [(2,[]),(6,[1,5]),(13,[7]),(14,[12,13]),(22,[16]),(24,[21,23])]) (.tk 8 [.m 14 13,.b 13 .neq 8 12,.l 12 11,.f 11 10 1,.n 10 9,.m 9 0,.l 8 7,.f 7 5 3] (.test 14 (.sk 14 false 7 15 22 (.tk 17 [.m 23 22,.pick 22 (.t 14) (.c (.bool true)) (.t 21)] JL)) (.tg 14 false 15 [.b 21 .neq 19 20,.m 20 1,.l 19 18,.f 18 17 0,.f 17 16 9,.n 16 15,.m 15 0] (.tk 17 [.m 23 22,.pick 22 (.t 14) (.c (.bool true)) (.t 21)] (.test 23 JL (.tg 23 false 25 [.b 31 .neq 28 30,.l 30 29,.f 29 5 4,.l 28 27,.f 27 26 2,.f 26 25 9,.n 25 24,.m 24 0] (.tk 26 [.pick 32 (.t 23) (.c (.bool true)) (.t 31)] .done))))))) [0,5,32]) (.cond (.t 32) (.seq (.region [.mv 6 (.c (.nil))] [6]) .ret) .skip)) Ij))⟩
theorem SB:Bi Tryz.prog 135 Cj=true:=by kernel_rfl
def FF:AH:=(.cond (.t 87) (.seq (.region [.m 88 0,.m 89 1,.m 90 2,.m 91 11,.cl 92 [88,89,90,91] H_,.m 13 92] [0,2,3,8,9,13]) (.seq (.region [.m 93 13,.m 1 93] [0,1,2,3,8,9]) (.exit 1))) .skip)
def DC:AH:=(.seq (.region [.m 95 0,.m 96 1,.m 97 2,.m 98 11,.cl 99 [95,96,97,98] Ky,.m 94 99,.ext 100 (.t 94) 0,.ext 101 (.t 94) 1,.m 14 100,.m 15 101] [0,1,2,3,10,14,15]) (.seq (.region [.m 102 15,.m 9 102] [0,1,2,3,9,10,14]) (.seq (.region [.m 103 14,.m 104 1,.b 105 .sub 103 104,.m 106 2,.m 107 14,.b 108 .sub 106 107,.m 16 105,.m 17 108] [0,1,2,3,9,10,14,16,17]) (.seq (.region [.m 109 10,.bin 110 .quo (.t 109) (.i 8),.m 18 110] [0,1,2,3,9,14,16,17,18]) (.seq (.region [.m 111 16,.m 112 17,.b 113 .lss 111 112] [0,1,2,3,9,14,16,17,18,113]) (.cond (.t 113) (.seq (.region [.m 114 16,.m 115 18,.b 116 .geq 114 115,.m 8 116] [0,1,2,3,8,9,14]) (.seq (.region [.m 117 0,.m 118 1,.m 119 14,.m 120 3,.cl 121 [117,118,119,120] Du] [0,2,3,8,9,14]) (.region [.m 122 14,.bin 123 .add (.t 122) (.i 1),.m 1 123] [0,1,2,3,8,9]))) (.seq (.region [.m 124 17,.m 125 18,.b 126 .geq 124 125,.m 8 126] [0,1,2,3,8,9,14]) (.seq (.region [.m 127 0,.m 128 14,.bin 129 .add (.t 128) (.i 1),.m 130 2,.m 131 3,.cl 132 [127,129,130,131] Du] [0,1,3,8,9,14]) (.region [.m 133 14,.m 2 133] [0,1,2,3,8,9])))))))))
def FH:AH:=(.seq (.seq (.draw (Ki 15 [(4,[2]),(6,[3,5]),(8,[2]),(9,[2]),(10,[8,9]),(12,[7,11])]) (.tk 3 [.m 75 74,.bin 74 .gtr (.t 73) (.i 0),.m 73 1] (.test 75 (.tg 75 true 12 [.l 84 83,.idx 83 1 (.t 81) (.t 82),.m 82 11,.m 81 0,.l 80 79,.idx 79 1 (.t 76) (.t 78),.bin 78 .sub (.t 77) (.i 1),.m 77 1,.m 76 0] (.only 12 (some (75,true)) (.cl 85 [80,84] Rw) false [] (.tg 75 true 14 [.un 86 .not (.t 85)] (.tk 15 [.pick 87 (.t 75) (.t 86) (.c (.bool false))] .done)))) (.sk 75 true 11 14 87 (.tk 15 [.pick 87 (.t 75) (.t 86) (.c (.bool false))] .done)))) [0,1,2,3,8,9,10,11,87]) FF) DC)
def FI:AH:=(.seqc [0,1,2,3,8,9,10,11] (.seq (.region [.m 61 8,.m 62 61,.sc 62 true [.m 63 9] 64 (.t 63) (.c (.bool false)),.m 65 64,.sc 65 true [.m 66 12,.bin 67 .eql (.t 66) (.i 1)] 68 (.t 67) (.c (.bool false))] [0,1,2,3,8,9,10,11,68]) (.cond (.t 68) (.seq (.region [.m 69 0,.m 70 1,.m 71 2,.cl 72 [69,70,71] GG] [0,1,2,3,8,9,10,11,72]) (.cond (.t 72) .ret .skip)) .skip)) FH)
def FJ:AH:=(.seq (.region [.m 43 0,.m 44 1,.m 45 2,.cl 46 [43,44,45] Jq,.m 42 46,.ext 47 (.t 42) 0,.ext 48 (.t 42) 1,.m 11 47,.m 12 48] [0,1,2,3,8,9,10,11,12]) (.seqc [0,1,2,3,8,9,10,11,12] (.seq (.region [.m 49 12,.bin 50 .eql (.t 49) (.i 2)] [0,1,2,3,8,9,10,11,12,50]) (.cond (.t 50) (.seq (.region [.m 51 0,.m 52 1,.m 53 2,.cl 54 [51,52,53] JC] [0,1,2,3,8,9,10,11]) (.seq (.region [.m 55 2,.bin 56 .sub (.t 55) (.i 1),.m 57 11,.m 58 1,.b 59 .sub 57 58,.b 60 .sub 56 59,.m 11 60] [0,1,2,3,8,9,10,11]) (.region [.mv 12 (.i 1)] [0,1,2,3,8,9,10,11,12]))) .skip)) FI))
def FK:AH:=(.block 1 [0,1,2,3,8,9] (.seq (.region [.m 19 2,.m 20 1,.b 21 .sub 19 20,.m 10 21] [0,1,2,3,8,9,10]) (.seq (.seq (.region [.m 22 10,.bin 23 .leq (.t 22) (.i 12)] [0,1,2,3,8,9,10,23]) (.cond (.t 23) (.seq (.region [.m 24 0,.m 25 1,.m 26 2,.cl 27 [24,25,26] It] []) .ret) .skip)) (.seq (.seq (.region [.m 28 3,.bin 29 .eql (.t 28) (.i 0)] [0,1,2,3,8,9,10,29]) (.cond (.t 29) (.seq (.region [.m 30 0,.m 31 1,.m 32 2,.cl 33 [30,31,32] LV] []) .ret) .skip)) (.seqc [0,1,2,3,8,9,10] (.seq (.region [.m 34 8,.un 35 .not (.t 34)] [0,1,2,3,8,9,10,35]) (.cond (.t 35) (.seq (.region [.m 36 0,.m 37 1,.m 38 2,.cl 39 [36,37,38] Iu] [0,1,2,3,8,9,10]) (.region [.m 40 3,.bin 41 .sub (.t 40) (.i 1),.m 3 41] [0,1,2,3,8,9,10])) .skip)) FJ)))))
def AQ:CC:=⟨[.mut (.own 3 (.int .i64)),.val (.int .i64),.val (.int .i64),.val (.int .i64)],[],(.seq (.region [.mv 8 (.c (.bool true))] [0,1,2,3,8]) (.seq (.region [.mv 9 (.c (.bool true))] [0,1,2,3,8,9]) (.block 0 [] (.loop [0,1,2,3,8,9] FK))))⟩
theorem MY:Bi Tryz.prog 137 AQ=true:=by kernel_rfl
def Hr:CC:=⟨[.val (.int .u64)],[⟨2,false,(.int .i64)⟩],(.seq (.region [.mv 2 (.i 0)] [0]) (.seq (.cond (.c (.bool false)) (.seq (.region [.m 3 0,.cvi 4 .u32 (.t 3),.cl 5 [4] VH,.m 2 5] [2]) .ret) .skip) (.seq (.region [.m 6 0,.cl 7 [6] VI,.m 2 7] [2]) .ret)))⟩
theorem X2:Bi Tryz.prog 138 Hr=true:=by kernel_rfl
def Oo:DT:=(.tg 20 false 15 [.pick 31 (.t 22) (.t 30) (.c (.bool false))] (.tk 16 [.pick 32 (.t 20) (.c (.bool true)) (.t 31)] .done))
def Oq:AH:=(.seq (.seq (.region [.m 44 5,.cl 45 [44] I8,.un 46 .not (.t 45)] [0,5,46]) (.cond (.t 46) (.seq (.region [.m 47 0,.cl 48 [47] Ao,.m 4 48] [4]) .ret) .skip)) (.seq (.region [.m 49 5,.m 4 49] [4]) .ret))
def Ot:AH:=(.seqc [0,5] (.seq (.region [.m 34 7] [0,3,5,6,34]) (.cond (.t 34) (.region [.m 35 5,.m 36 6,.ls 37 3 3,.idx 38 3 (.t 35) (.t 36),.store (.t 38) (.t 37) 3 false] [0,5]) (.region [.m 39 5,.m 40 6,.ls 41 3 3,.brow 42 38 AL [.t 41],.cl 43 [39,40,42] Hc,.m 5 43] [0,5]))) Oq)
def DS:CC:=⟨[.val (.slice AL),.val AL],[⟨4,false,(.own 38 AL)⟩],(.seq (.region [.box 3 (.t 1) false,.mv 4 (.c (.nil))] [0,3]) (.seq (.region [.m 8 0,.cl 9 [8] Ao,.m 5 9] [0,3,5]) (.seq (.region [.m 11 0,.f 12 3 0,.l 13 12,.cx (some 14) [.t 11,.t 13,.c (.fn 160 [])] Dv,.m 10 14,.ext 15 (.t 10) 0,.ext 16 (.t 10) 1,.m 6 15,.m 7 16] [0,3,5,6,7]) (.seq (.seq (.draw (Ki 16 [(7,[5]),(8,[6,7]),(11,[5]),(13,[10,12])]) (.tk 1 [.m 17 0] (.only 1 none (.cl 18 [17] I8) false [] (.tk 4 [.m 20 19,.un 19 .not (.t 18)] (.test 20 (.sk 20 false 2 6 23 (.sk 22 true 8 14 31 (.sk 20 false 1 15 32 (.tk 16 [.pick 32 (.t 20) (.c (.bool true)) (.t 31)] .done)))) (.tg 20 false 6 [.m 22 21,.m 21 7] (.test 22 (.tg 22 true 14 [.b 30 .geq 27 29,.l 29 28,.f 28 3 2,.l 27 26,.f 26 25 2,.idx 25 3 (.t 23) (.t 24),.m 24 6,.m 23 0] Oo) (.sk 22 true 8 14 31 Oo))))))) [0,3,5,6,7,32]) (.cond (.t 32) (.seq (.region [.m 33 5,.m 4 33] [4]) .ret) .skip)) Ot))))⟩
theorem ZX:Bi Tryz.prog 139 DS=true:=by kernel_rfl

def D6:AH:=(.seq (.block 3 [0,1,2,6,7] (.draw (Ki 18 [(1,[]),(2,[]),(3,[]),(5,[]),(6,[]),(8,[5,7]),(10,[]),(11,[]),(12,[10,11]),(14,[0,1,9,13]),(16,[2,4,15])]) (.tk 15 [.idx 47 1 (.t 33) (.t 34),.l 46 45,.idx 45 1 (.t 43) (.t 44),.m 44 7,.m 43 0,.l 42 41,.idx 41 1 (.t 38) (.t 40),.bin 40 .sub (.t 39) (.i 1),.m 39 7,.m 38 0,.bin 37 .sub (.t 36) (.i 1),.m 36 7,.m 35 0,.m 34 7,.m 33 0] (.only 15 none (.store (.t 47) (.t 42) 1 false) false [] (.tk 17 [.idx 48 1 (.t 35) (.t 37)] (.only 17 none (.store (.t 48) (.t 46) 1 false) false [] .done)))) [0,1,2,6,7])) (.region [.m 31 7,.bin 32 .sub (.t 31) (.i 1),.m 7 32] [0,1,2,6,7]))
def D7:AH:=(.seq (.seq (.draw (Ki 15 [(1,[]),(2,[0,1]),(5,[3]),(6,[4,5]),(8,[3]),(9,[3]),(11,[8,10]),(13,[7,12])]) (.tk 4 [.m 19 18,.b 18 .gtr 16 17,.m 17 1,.m 16 7] (.test 19 (.tg 19 true 13 [.l 28 27,.idx 27 1 (.t 24) (.t 26),.bin 26 .sub (.t 25) (.i 1),.m 25 7,.m 24 0,.l 23 22,.idx 22 1 (.t 20) (.t 21),.m 21 7,.m 20 0] (.only 13 (some (19,true)) (.cl 29 [23,28] Rw) false [] (.tk 15 [.pick 30 (.t 19) (.t 29) (.c (.bool false))] .done))) (.sk 19 true 10 14 30 (.tk 15 [.pick 30 (.t 19) (.t 29) (.c (.bool false))] .done)))) [0,1,2,6,7,30]) (.cond (.t 30) .skip (.exit 2))) D6)
def D8:AH:=(.region [.m 13 6,.bin 14 .add (.t 13) (.i 1),.m 6 14] [0,1,2,6])
def D9:AH:=(.seq (.seq (.region [.m 10 6,.m 11 2,.b 12 .lss 10 11] [0,1,2,6,12]) (.cond (.t 12) .skip (.exit 0))) (.seq (.block 1 [0,1,2,6] (.seq (.region [.m 15 6,.m 7 15] [0,1,2,6,7]) (.block 2 [0,1,2,6] (.loop [0,1,2,6,7] D7)))) D8))
def AN:CC:=⟨[.mut (.own 3 (.int .i64)),.val (.int .i64),.val (.int .i64)],[],(.seq (.region [.m 8 1,.bin 9 .add (.t 8) (.i 1),.m 6 9] [0,1,2,6]) (.block 0 [] (.loop [0,1,2,6] D9)))⟩
theorem Iv:Bi Tryz.prog 148 AN=true:=by kernel_rfl
def JM:CC:=⟨[.val (.int .i64),.val (.int .i64)],[⟨4,false,.bool⟩],(.seq (.region [.mv 4 (.c (.bool false))] [0,1]) (.seq (.region [.m 5 0,.cl 6 [5] QD,.m 7 6,.sc 7 true [.m 8 1,.cl 9 [8] QD,.un 10 .not (.t 9)] 11 (.t 10) (.c (.bool false)),.m 12 11,.sc 12 false [.m 13 0,.m 14 1,.b 15 .lss 13 14] 16 (.c (.bool true)) (.t 15),.m 4 16] [4]) .ret))⟩
theorem ZY:Bi Tryz.prog 154 JM=true:=by kernel_rfl
def L5:AH:=(.seqc [0,2] (.seq (.region [.m 13 0,.bin 14 .geq (.t 13) (.c (.int .u64 256))] [0,2,14]) (.cond (.t 14) (.seq (.region [.m 15 0,.bin 16 .shr (.t 15) (.c (.int .u64 8)),.m 0 16] [0,2]) (.region [.m 17 2,.bin 18 .add (.t 17) (.i 8),.m 2 18] [0,2])) .skip)) (.seq (.region [.m 19 2,.m 20 0,.cvi 21 .u8 (.t 20),.sidx 22 (.c (.str ⟨#[0,1,2,2,3,3,3,3,4,4,4,4,4,4,4,4,5,5,5,5,5,5,5,5,5,5,5,5,5,5,5,5,6,6,6,6,6,6,6,6,6,6,6,6,6,6,6,6,6,6,6,6,6,6,6,6,6,6,6,6,6,6,6,6,7,7,7,7,7,7,7,7,7,7,7,7,7,7,7,7,7,7,7,7,7,7,7,7,7,7,7,7,7,7,7,7,7,7,7,7,7,7,7,7,7,7,7,7,7,7,7,7,7,7,7,7,7,7,7,7,7,7,7,7,7,7,7,7,8,8,8,8,8,8,8,8,8,8,8,8,8,8,8,8,8,8,8,8,8,8,8,8,8,8,8,8,8,8,8,8,8,8,8,8,8,8,8,8,8,8,8,8,8,8,8,8,8,8,8,8,8,8,8,8,8,8,8,8,8,8,8,8,8,8,8,8,8,8,8,8,8,8,8,8,8,8,8,8,8,8,8,8,8,8,8,8,8,8,8,8,8,8,8,8,8,8,8,8,8,8,8,8,8,8,8,8,8,8,8,8,8,8,8,8,8,8,8,8,8,8,8,8,8,8,8,8]⟩)) (.t 21),.cvi 23 .i64 (.t 22),.b 24 .add 19 23,.m 2 24] [2]) .ret))
def L6:AH:=(.seqc [0,2] (.seq (.region [.m 7 0,.bin 8 .geq (.t 7) (.c (.int .u64 65536))] [0,2,8]) (.cond (.t 8) (.seq (.region [.m 9 0,.bin 10 .shr (.t 9) (.c (.int .u64 16)),.m 0 10] [0,2]) (.region [.m 11 2,.bin 12 .add (.t 11) (.i 16),.m 2 12] [0,2])) .skip)) L5)
def CR:CC:=⟨[.val (.int .u64)],[⟨2,false,(.int .i64)⟩],(.seq (.region [.mv 2 (.i 0)] [0,2]) (.seqc [0,2] (.seq (.region [.m 3 0,.bin 4 .geq (.t 3) (.c (.int .u64 4294967296))] [0,2,4]) (.cond (.t 4) (.seq (.region [.m 5 0,.bin 6 .shr (.t 5) (.c (.int .u64 32)),.m 0 6] [0]) (.region [.mv 2 (.i 32)] [0,2])) .skip)) L6))⟩
theorem VR:Bi Tryz.prog 158 CR=true:=by kernel_rfl
def Bx:AH:=(.seq (.seq (.region [.m 15 9,.m 16 10,.b 17 .lss 15 16] [0,1,2,8,9,10,17]) (.cond (.t 17) .skip (.exit 0))) (.block 1 [0,1,2,8,9,10] (.seq (.region [.m 18 9,.m 19 10,.b 20 .add 18 19,.cvi 21 .u64 (.t 20),.bin 22 .shr (.t 21) (.c (.int .u64 1)),.cvi 23 .i64 (.t 22),.m 11 23] [0,1,2,8,9,10,11]) (.seq (.region [.m 24 2,.m 25 0,.m 26 11,.idx 27 3 (.t 25) (.t 26),.ls 28 27 3,.m 29 1,.call (some 30) 160 [(.t 28,.val AL),(.t 29,.val .str),(.t 24,.cap0 160)] [(.int .i64)],.bin 31 .lss (.t 30) (.i 0)] [0,1,2,8,9,10,11,31]) (.cond (.t 31) (.region [.m 32 11,.bin 33 .add (.t 32) (.i 1),.m 9 33] [0,1,2,8,9,10]) (.region [.m 34 11,.m 10 34] [0,1,2,8,9,10]))))))
def Ax:AH:=(.seq (.region [.m 35 9,.m 36 9,.m 37 8,.b 38 .lss 36 37,.m 39 38,.sc 39 true [.m 40 2,.m 41 0,.m 42 9,.idx 43 3 (.t 41) (.t 42),.ls 44 43 3,.m 45 1,.call (some 46) 160 [(.t 44,.val AL),(.t 45,.val .str),(.t 40,.cap0 160)] [(.int .i64)],.bin 47 .eql (.t 46) (.i 0)] 48 (.t 47) (.c (.bool false)),.m 6 35,.m 7 48] [6,7]) .ret)
def AA:CC:=⟨[.val (.slice AL),.val .str,.val (.fun 160)],[⟨6,false,(.int .i64)⟩,⟨7,false,.bool⟩],(.seq (.region [.mv 6 (.i 0),.mv 7 (.c (.bool false))] [0,1,2]) (.seq (.region [.m 12 0,.len 13 false (.t 12),.m 8 13] [0,1,2,8]) (.seq (.region [.m 14 8,.mv 9 (.i 0),.m 10 14] [0,1,2,8,9,10]) (.seq (.block 0 [0,1,2,8,9] (.loop [0,1,2,8,9,10] Bx)) Ax))))⟩
theorem Dy:Bi Tryz.prog 159 AA=true:=by kernel_rfl
def G5:CC:=⟨[.val AL,.val .str],[⟨4,false,(.int .i64)⟩],(.seq (.region [.box 2 (.t 0) false,.mv 4 (.i 0)] [1,2]) (.seq (.region [.f 5 2 0,.l 6 5,.m 7 1,.cl 8 [6,7] VJ,.m 4 8] [4]) .ret))⟩
theorem Wo:Bi Tryz.prog 160 G5=true:=by kernel_rfl
def Hs:CC:=⟨[.val (.int .i64)],[⟨2,false,.bool⟩],(.seq (.region [.mv 2 (.c (.bool false))] [0]) (.seq (.region [.m 3 0,.m 4 0,.b 5 .neq 3 4,.m 2 5] [2]) .ret))⟩
theorem X3:Bi Tryz.prog 169 Hs=true:=by kernel_rfl
end
end Go.Proofs.YtokiohnjegbnpaaGreat.Core

namespace Go.Proofs.YtokiohnjegbnpaaGreat.Core
open Go Go.Shelf Go.RowKit Go.Lib
variable {P:Program} {ρ:Ren}
set_option maxHeartbeats 2000000 in
set_option maxRecDepth 100000 in
theorem iw (L:SlLaysE0.n41 P ρ) (i0:TypeInfo) (z:Value) (size bytes:Nat) (hi:P.info? (ρ.t 23)=some i0) (hz0:i0.zero=some z) (hz1:i0.size=size) (hz2:i0.bytes=bytes) (hzs:z.cells.size=size) (hsz:0<size)
  (z23:∀ w,(Go.sizeOf (ρ.t 23)).run P w=.ok size w) (ad:Addr) (n c:Nat) (news:List Value) (w:World) (hl:news.length=n*size) (hn:n<=maxLen) (hbig:n*bytes<=140737488355328)
  (hc:∀ j u,news[j]? = some u->w.cell? (ad.add j)=some u) (h1:∀ u∈news,u.oneCell'=true) :
  Calls P (ρ.f 41) #[.slice (some ad) n c] w fun e w'=>∃ v',e=.returned v'/\w'.ownsRow w.heap.size (ρ.t 23) size v' n news/\w.grownBy w' none:=by
 have mixed:=L.mixed; have t4:=L.t4; have a4:=L.a4; have z4:=L.z4; have v4:=L.v4; have t22:=L.t22; have a22:=L.a22; have z22:=L.z22; have v22:=L.v22
 have q22:∀ (w:World) (a:Option Addr) (n c n' c':Nat),(binOp .eql (ρ.t 22) (.slice a n c) (.slice none n' c')).run P w=.ok (.bool a.isNone) w:=fun w a n c n' c'=>Lib.run_eql_slice_nil w _ _ a n c n' c' L.t22
 have u22:∀ w,Sem.run P (underlying (ρ.t 22)) w=.ok (TypeDesc.slice (ρ.t 23)) w:=run_underlying t22
 have A:Aside (∀ j u,news[j]? = some u->w.cell? (ad.add j)=some u):=hc
 clear hc
 obtain ⟨_,_,FG⟩:=L.f41
 go_enter FG,SlBodyN.n41_ntmps ρ
 go_wp2_with (at_builtin; refine wpList_append_own _ rfl _ _ (ρ.t 22) rfl w.heap.size (ρ.t 23) i0 z size bytes t22 hi hz0 hz1 hz2 hzs hsz _ _ _ rfl (World.ownsRow_made w #[] 0 (Nat.le_refl _) (Nat.zero_le _) (by simp)) ad n c news rfl ?qc1 ?qc2 ?qc3 ?qc4 ?qc5 ?qc6 ?_)
 case qc1=>exact hl
 case qc2 =>
  intro j u hj
  exact Lib.cell?_alloc_some _ (A.out j u hj)
 case qc3=>exact h1
 case qc4=>rw [Nat.zero_add]; exact hn
 case qc5=>rw [Nat.zero_add]; exact hbig
 case qc6=>simp
 intro v' w1 hown hgrow hnil
 go_wp2
 go_ret
 refine ⟨v',rfl,by simpa using hown,⟨hgrow.os,hgrow.tape,hgrow.output,?_,fun k hk _=>?_⟩⟩
 ·have:=hgrow.size
  simp at this
  omega
 ·rw [hgrow.block k (by simp; omega) (by simp [Value.ownBlock]; omega)]
  simp only [World.alloc,Array.getElem?_push]
  rw [if_neg (by omega)]
set_option maxHeartbeats 1000000 in
theorem gm (L:SlLaysE0.n41 P ρ) (n c:Nat) (w:World) :
  Calls P (ρ.f 41) #[.slice none n c] w fun e w'=>e=.returned (.slice none 0 0)/\w'=w:=by
 have mixed:=L.mixed; have t4:=L.t4; have a4:=L.a4; have z4:=L.z4; have v4:=L.v4; have t22:=L.t22; have a22:=L.a22; have z22:=L.z22; have v22:=L.v22
 have q22:∀ (w:World) (a:Option Addr) (n c n' c':Nat),(binOp .eql (ρ.t 22) (.slice a n c) (.slice none n' c')).run P w=.ok (.bool a.isNone) w:=fun w a n c n' c'=>Lib.run_eql_slice_nil w _ _ a n c n' c' L.t22
 obtain ⟨_,_,FG⟩:=L.f41
 go_enter FG,SlBodyN.n41_ntmps ρ
 go_wp2
 go_ret
 exact ⟨rfl,rfl⟩
def Pn (P:Program) (f:Nat) (args bs rs:List AV):Prop :=
 b8 P f/\(∀ r∈rs,r.cells.all AV.nilFree=true)/\∃ n,n+bs.length=rs.length /\
  ∀ (H:HP) (φ:Bm) (w:World) (cargs:List Value),SR H φ (BE bs args) w->Ah (VB H φ (BE bs args)) (Cn (EG bs) args) cargs ->
   Calls P f cargs.toArray w fun out w'=>match out with
    | .returned v=>Kj H φ w args bs (rs.drop n) (rs.take n) v w'
    | _=>False
theorem dq {H H':HP} {φ φ':Bm} {w w':World} {args rs:List AV} {v:Value} (h:Ad H φ (BE [] args) w H' φ' (BE [] rs) w') (hr:lY H' φ' (BE [] rs) (Cn (EG []) rs) v):Kj H φ w args [] [] rs v w':=by
 refine ⟨H',φ',h.le,h.sr,h.fr _ _ _ _ _ ⟨rfl,rfl,rfl,Nat.le_refl _,fun _ _ _=>rfl,fun _ _=>rfl,fun i bi hi _ b hb=>.inr ⟨i,(List.getElem?_eq_some_iff.1 hi).1,hb⟩,fun j hj=>?_,fun _ _ _=>rfl⟩,hr⟩
 simp at hj
theorem ix {K:Kd} (L:SlLaysE0.n41 P ρ) (he:dG P (ρ.t 23) K=true) {xs:List K.T} (hx:xs.length<=68719476736):Pn P (ρ.f 41) [.lst K xs] [] [.new (ρ.t 23) K xs]:=by
 obtain ⟨i,z,hi,hz,h1,h2,h3,h4⟩:=Oa he
 have hn:xs.length<=maxLen:=by unfold maxLen; omega
 refine ⟨?_,?_,1,rfl,fun H φ w cargs hs ha=>?_⟩
 ·obtain ⟨nm,hnm,hf⟩:=L.f41
  exact ⟨_,_,hf,hnm,rfl⟩
 ·intro r hr
  simp only [List.mem_singleton] at hr
  subst hr
  rfl
 ·obtain ⟨v,rest,rfl,hv,hrest⟩:=ha
  have hrest:rest=[]:=hrest
  subst hrest
  ··obtain ⟨sl,cap,e,hc,hr⟩:=(show Re (Ez H K) K.sz H xs v from hv)
    subst e
    have fin:∀ (v':Value) (w':World) (flat:List Value),w'.ownsRow w.heap.size (ρ.t 23) K.sz v' xs.length flat->DP H K xs flat->w.grownBy w' none->Kj H φ w [.lst K xs] [] [] [.new (ρ.t 23) K xs] v' w':=by
     intro v' w' flat ho hrr hg
     have hst:=Ri (st:=BE [] [.lst K xs]) hs hg ho hrr
     refine dq (rs:=[.new (ρ.t 23) K xs]) hst ?_
     exact ⟨rfl,rfl⟩
    cases sl with
    | none =>
     have:xs=[]:=by
      rcases hr with h | ⟨_,_,_,_,_,h,_⟩
      ·exact h
      ·cases h
     subst this
     refine Calls.mono (gm L _ _ w) fun out w' h=>?_
     obtain ⟨rfl,rfl⟩:=h
     exact fin _ _ [] ⟨by simp,.inl ⟨rfl,rfl⟩⟩ (fun j x h=>by simp at h) ⟨rfl,rfl,rfl,Nat.le_refl _,fun _ _ _=>rfl⟩
    | some ad =>
     obtain ⟨sl2,cap2,flat,e2,_,hl,hrr,hcl⟩:=bD hs.hp (show Re (Ez H K) K.sz H xs (.slice (some ad) xs.length cap) from ⟨some ad,cap,rfl,hc,hr⟩)
     cases e2
     refine Calls.mono (iw L i z K.sz i.bytes hi hz h1 rfl h3 (Kd.sz_pos K) (fun w=>by simp [sizeOf,typeInfo,hi,h1]) ad xs.length cap flat w hl hn (Nat.le_trans (Nat.mul_le_mul hx h2) (by omega)) ?_ (Cr hrr hl)) fun out w' h=>?_
     ·intro j u hj
      rcases hcl with rfl | ⟨b,off,c,el,fz,ea,hb,hcc⟩
      ·have:flat=[]:=List.length_eq_zero_iff.1 (by rw [hl]; simp)
       rw [this] at hj
       simp at hj
      ·cases ea
       rw [Addr.add_none]
       have:=hs.hp _ _ hb
       have h5:=hcc j u hj
       simp only [World.cell?,this]
       simpa using h5
     ·obtain ⟨v',rfl,ho,hg⟩:=h
      exact fin v' w' flat ho hrr hg

theorem Nx (w:World) (dT sT ty elem:TypeId) (g o dLen dCap:Nat) (a:Addr) (sLen sCap:Nat) (cur:Array Value) (t:TypeId) (cs:List Value) (k:Nat) (i:TypeInfo)
  (hu:P.underlying dT=some (.slice elem)) (hi:P.info? elem=some i) (hg:w.heap[g]? = some (.cells cur t (0,0))) (hk:Nat.min sLen dLen=k) (hn:cs.length=k*i.size)
  (hsrc:∀ j v,cs[j]? = some v->w.cell? (a.add j)=some v) (hfit:o+cs.length<=cur.size) (h1:∀ v∈cs,v.oneCell'=true) :
  (Builtin.copy_ #[dT,sT] ty #[.slice (some ⟨g,o,none⟩) dLen dCap,.slice (some a) sLen sCap]).run P w =
   .ok (goInt k) (w.setRow g (cur.toList.take o++cs++cur.toList.drop (o+cs.length)).toArray):=by
 have hl:=run_loadCells_list (P:=P) w a cs hsrc
 have hst:=run_storeCells_at P g o t cs 0 cur w hg (by simpa using hfit) h1
 simp [Builtin.copy_,run_underlying hu,Builtin.lenOf,Builtin.firstCells,sizeOf,typeInfo,hi,hk,<- hn,hl,hst]
theorem Wp (w:World) (t tn ty e:TypeId) (i:TypeInfo) (z:Value) (kn:IntKind) (ht:P.underlying t=some (.slice e)) (htn:P.underlying tn=some (.int kn)) (hi:P.info? e=some i) (hz:i.zero=some z)
  (b:Addr) (sLen sCap:Nat) (olds:List Value) (hlo:olds.length=sLen*i.size) (holds:∀ j v,olds[j]? = some v->w.cell? (b.add j)=some v) (n:Nat) (h0:0<n) (hs:0<i.size)
  (hg:sCap<sLen+n) (h63:((sLen+n:Nat):Int)<=9223372036854775807) (h48:n*i.bytes<=281474976710656) (hfit:Builtin.nextslicecap (sLen+n) sCap*i.bytes<=281474976710656) (k:IntKind) :
  (Builtin.append_ #[t,tn] ty #[.slice (some b) sLen sCap,.int k n]).run P w =
   .ok (.slice (some ⟨w.heap.size,0,none⟩) (sLen+n) (grownCap w (sLen+n) sCap e))
    (w.drew.alloc (.cells (olds.toArray++Builtin.zeroCells z.cells n++Builtin.zeroCells z.cells (grownCap w (sLen+n) sCap e-(sLen+n))) e)):=by
 have hn:¬ (sLen+n<=sCap):=by omega
 have hw:IntKind.i64.wrap (n:Int)=n:=by rw [IntKind.wrap_i64]; omega
 have h63':¬ (9223372036854775807<((sLen:Int)+(n:Int))):=by omega
 have h48':¬ (281474976710656<Builtin.nextslicecap (sLen+n) sCap*i.bytes):=by omega
 have h48i:¬ (281474976710656<(n:Int)*(i.bytes:Int)):=by
  rw [<- Int.natCast_mul]
  omega
 have hneg:¬ ((n:Int)<0):=by omega
 have hn0:n≠0:=by omega
 have hns:¬ (n*i.size=0):=Nat.mul_ne_zero hn0 (by omega)
 have hfo:=run_firstCells_some (P:=P) w.drew i.size sLen b sLen sCap olds hlo (by simpa using holds)
 simp [Builtin.append_,run_underlying ht,run_underlying htn,sizeOf,typeInfo,zeroValue,hi,hz,asInt,asIntOf,hw,hn,hn0,hneg,hns,h63',h48',h48i,Question.forced,hfo,newRow,grownCap]
 try (congr 2; apply Array.ext'; simp [List.append_assoc])
structure gp (P:Program) (ρ:Ren):Prop where
 mixed:P.follows .mixedOrders=true
 f22:Bears P (ρ.f 22) (Body2.n22 ρ)
 ov:∀ args w,(callFunc (ρ.f 29) args).run P w=((Extern.SlicesOverlaps.overlaps #[(ρ.t 24),(ρ.t 24)] #[(ρ.t 4)] args).run P w).andThen fun v w'=>.ok (.value v) w'
 t3:P.underlying (ρ.t 3)=some (TypeDesc.int IntKind.i64)
 a3:∀ w,(isAgg (ρ.t 3)).run P w=.ok false w
 z3:∀ w,(Go.sizeOf (ρ.t 3)).run P w=.ok 1 w
 v3:∀ w,(zeroValue (ρ.t 3)).run P w=.ok (Value.int IntKind.i64 0) w
 t4:P.underlying (ρ.t 4)=some (TypeDesc.bool)
 a4:∀ w,(isAgg (ρ.t 4)).run P w=.ok false w
 z4:∀ w,(Go.sizeOf (ρ.t 4)).run P w=.ok 1 w
 v4:∀ w,(zeroValue (ρ.t 4)).run P w=.ok (Value.bool false) w
 t24:P.underlying (ρ.t 24)=some (TypeDesc.slice (ρ.t 9))
 a24:∀ w,(isAgg (ρ.t 24)).run P w=.ok false w
 z24:∀ w,(Go.sizeOf (ρ.t 24)).run P w=.ok 1 w
 v24:∀ w,(zeroValue (ρ.t 24)).run P w=.ok (Value.slice none 0 0) w
set_option maxHeartbeats 4000000 in
set_option maxRecDepth 100000 in
theorem eo (L:gp P ρ) (i0:TypeInfo) (z:Value) (size bytes:Nat) (hi:P.info? (ρ.t 9)=some i0) (hz0:i0.zero=some z) (hz1:i0.size=size) (hz2:i0.bytes=bytes) (hzs:z.cells.size=size) (hsz:0<size)
  (z9:∀ w,(Go.sizeOf (ρ.t 9)).run P w=.ok size w) (v:Value) (base:Option Addr) (n cap:Nat) (hv:v=.slice base n cap) (xs:List Value) (w:World) (hown:w.ownsRow 0 (ρ.t 9) size v n xs) (ad:Addr) (m vc:Nat) (news:List Value) (hm:0<m)
  (hl:news.length=m*size) (hn:n+m<=maxLen) (hbig:(n+m)*bytes<=140737488355328) (hnews:∀ j u,news[j]? = some u->w.cell? (ad.add j)=some u) (h1:∀ u∈news,u.oneCell'=true) :
  Calls P (ρ.f 22) #[v,.int .i64 n,.slice (some ad) m vc] w fun e w'=>∃ v',e=.returned v'/\w'.ownsRow 0 (ρ.t 9) size v' (n+m) (xs++news)/\w.grownBy w' v.ownBlock/\(v'.ownBlock=v.ownBlock\/v'.ownBlock=some w.heap.size):=by
 subst hv
 have mixed:=L.mixed; have t3:=L.t3; have a3:=L.a3; have z3:=L.z3; have v3:=L.v3; have t4:=L.t4; have a4:=L.a4; have z4:=L.z4; have v4:=L.v4; have t24:=L.t24; have a24:=L.a24; have z24:=L.z24; have v24:=L.v24
 have u3:=run_underlying L.t3; have u4:=run_underlying L.t4; have u24:=run_underlying L.t24
 have hz1':¬ ((m:Int)=0):=by omega
 have hob:∀ c,(Value.slice base n c).ownBlock=(Value.slice base n cap).ownBlock:=fun c=>by cases base<;>rfl
 have hcap:n<=cap:=by
  rcases hown.2 with ⟨e,e2⟩ | ⟨g,c,cur,e,_,_,h,_⟩
  ·omega
  ·cases e; exact h
 have A:Aside (∀ j u,news[j]? = some u->w.cell? (ad.add j)=some u):=hnews
 clear hnews
 obtain ⟨_,_,FG⟩:=L.f22
 go_enter FG,Body2.n22_ntmps ρ
 go_wp2_with (at_builtin; refine wpList_append_own_at _ rfl _ _ (ρ.t 24) rfl 0 (ρ.t 9) i0 z size bytes t24 hi hz0 hz1 hz2 hzs hsz _ _ _ rfl hown ad m vc news rfl ?qc1 ?qc2 ?qc3 ?qc4 ?qc5 ?qc6 ?_)
 all_goals first
  | exact hl
  | exact A.out
  | exact h1
  | exact hn
  | exact hbig
  | exact Nat.zero_le _
  | (
   intro v' w1 ho hgrow hnil hblk
   go_wp2
   go_ret
   exact ⟨v',rfl,ho,by rw [<- hob]; exact hgrow,by rw [<- hob]; exact hblk⟩)
theorem iy {α:Type} (c V:List α) (I M N:Nat) (hI:I<=N) (hV:V.length=M) (hN:N+M<=c.length) :
  (((c.take (I+M)++(c.take N).drop I++c.drop (I+M+(N-I))).take I++V++(c.take (I+M)++(c.take N).drop I++c.drop (I+M+(N-I))).drop (I+M)).take (N+M))=c.take I++V++(c.take N).drop I:=by
 have l1:(c.take (I+M)).length=I+M:=by rw [List.length_take]; omega
 have l2:((c.take N).drop I).length=N-I:=by rw [List.length_drop,List.length_take]; omega
 have e1:(c.take (I+M)++(c.take N).drop I++c.drop (I+M+(N-I))).take I=c.take I:=by
  rw [List.append_assoc,List.take_append_of_le_length (by omega),List.take_take,Nat.min_eq_left (by omega)]
 have e2:(c.take (I+M)++(c.take N).drop I++c.drop (I+M+(N-I))).drop (I+M)=(c.take N).drop I++c.drop (I+M+(N-I)):=by
  rw [List.append_assoc,List.drop_append_of_le_length (by omega),List.drop_of_length_le (by omega),List.nil_append]
 rw [e1,e2,<- List.append_assoc]
 have l3:(c.take I++V++(c.take N).drop I).length=N+M:=by simp only [List.length_append,l2,hV,List.length_take]; omega
 rw [List.take_append_of_le_length (by omega),<- l3,List.take_length]
theorem G6 (w:World) (g:Nat) (c:Array Value):(w.setRow g c).heap.size=w.heap.size:=by
 unfold World.setRow
 exact Array.size_modify
theorem dr {w:World} {b:Nat} {c:Array Value} {t:TypeId} {fz:Nat×Nat} (h:w.heap[b]? = some (.cells c t fz)):w.shape? b=some (t,c.size):=by simp [World.shape?,h]
theorem bT {w:World} {b o:Nat} {c:Array Value} {t:TypeId} (h:w.heap[b]? = some (.cells c t (0,0))):w.frozen? ⟨b,o,none⟩=false:=by simp [World.frozen?,h]
theorem MZ {w:World} {b o:Nat} {c:Array Value} {t:TypeId} {fz:Nat×Nat} (h:w.heap[b]? = some (.cells c t fz)):w.cell? ⟨b,o,none⟩=c[o]? := by simp [World.cell?,h]
set_option maxHeartbeats 8000000 in
set_option maxRecDepth 100000 in
theorem cc (L:gp P ρ) (i0:TypeInfo) (z:Value) (size bytes:Nat) (hi:P.info? (ρ.t 9)=some i0) (hz0:i0.zero=some z) (hz1:i0.size=size) (hz2:i0.bytes=bytes) (hzs:z.cells.size=size) (hsz:0<size)
  (z9:∀ w,(Go.sizeOf (ρ.t 9)).run P w=.ok size w) (g n cap i:Nat) (cur:Array Value) (w:World) (hg:w.heap[g]? = some (.cells cur (ρ.t 9) (0,0))) (hcs:cur.size=cap*size) (hin:i<n) (vb m vc:Nat) (vcur:Array Value) (hgv:w.heap[vb]? = some (.cells vcur (ρ.t 9) (0,0))) (hvb:vb≠g)
  (hm:0<m) (hroom:n+m<=cap) (hcm:cap<=maxLen) (hvl:m*size<=vcur.size) (h1:∀ u∈cur.toList.take (n*size),u.oneCell'=true) (h1v:∀ u∈vcur.toList.take (m*size),u.oneCell'=true) (hkB:cur.size≠0) :
  Calls P (ρ.f 22) #[.slice (some ⟨g,0,none⟩) n cap,.int .i64 i,.slice (some ⟨vb,0,none⟩) m vc] w fun e w'=>e=.returned (.slice (some ⟨g,0,none⟩) (n+m) cap) /\
   ∃ cur',w'.heap[g]? = some (.cells cur' (ρ.t 9) (0,0))/\cur'.size=cap*size/\cur'.toList.take ((n+m)*size)=cur.toList.take (i*size)++vcur.toList.take (m*size)++(cur.toList.take (n*size)).drop (i*size)/\w.grownBy w' (some g):=by
 have mixed:=L.mixed; have t3:=L.t3; have a3:=L.a3; have z3:=L.z3; have v3:=L.v3; have t4:=L.t4; have a4:=L.a4; have z4:=L.z4; have v4:=L.v4; have t24:=L.t24; have a24:=L.a24; have z24:=L.z24; have v24:=L.v24
 have u3:=run_underlying L.t3; have u4:=run_underlying L.t4; have u24:=run_underlying L.t24
 have hcm':cap<=9223372036854775807:=hcm
 have hz1':¬ ((m:Int)=0):=by omega
 have hz2':¬ ((i:Int)=(n:Int)):=by omega
 have hw1:IntKind.i64.wrap ((i:Int)+(m:Int))=(i:Int)+(m:Int):=by rw [IntKind.wrap_i64]; omega
 have hw2:IntKind.i64.wrap ((n:Int)+(m:Int))=(n:Int)+(m:Int):=by rw [IntKind.wrap_i64]; omega
 have hb1:(0:Int)<=(i:Int)+(m:Int):=by omega
 have hin':i<=n:=by omega
 have htn:((i:Int)+(m:Int)).toNat=i+m:=by omega
 have htn2:((n:Int)+(m:Int)).toNat=n+m:=by omega
 have hb2:¬ (cap=i+m):=by omega
 have hb3:(i:Int)<=(n:Int)+(m:Int):=by omega
 have hb4:¬ (cap=i):=by omega
 have hb5:¬ ((n:Int)+(m:Int)>(cap:Int)):=by omega
 have hov:∀ o lb cb,(callFunc (ρ.f 29) #[.slice (some ⟨vb,0,none⟩) m vc,.slice (some ⟨g,o,none⟩) lb cb]).run P w=.ok (.value (.bool false)) w:=fun o lb cb=>by
  rw [L.ov,Lib.run_overlaps_apart w (ρ.t 24) (ρ.t 4) (ρ.t 9) L.t24 size z9 ⟨vb,0,none⟩ ⟨g,o,none⟩ m vc lb cb hvb _ _ _ _ (dr hgv) (dr hg) hkB (bT hgv) (bT hgv)]
  rfl
 have e1:(i+m)*size=i*size+m*size:=Nat.add_mul i m size
 have e2:(n+m)*size=n*size+m*size:=Nat.add_mul n m size
 have e3:(n-i)*size=n*size-i*size:=Nat.sub_mul n i size
 have e4:i*size<=n*size:=Nat.mul_le_mul_right size hin'
 have e5:n*size+m*size<=cur.size:=by rw [hcs,<- e2]; exact Nat.mul_le_mul_right size hroom
 have lm:((cur.toList.take (n*size)).drop (i*size)).length=(n-i)*size:=by rw [List.length_drop,List.length_take,Array.length_toList,e3]; omega
 have hcp1:∀ ty dc sc,(Builtin.copy_ #[(ρ.t 24),(ρ.t 24)] ty #[.slice (some ⟨g,(i+m)*size,none⟩) (n+m-(i+m)) dc,.slice (some ⟨g,i*size,none⟩) (n+m-i) sc]).run P w.drew=.ok (goInt ((n-i:Nat):Int)) (w.drew.setRow g (cur.toList.take ((i+m)*size)++(cur.toList.take (n*size)).drop (i*size)++cur.toList.drop ((i+m)*size+((cur.toList.take (n*size)).drop (i*size)).length)).toArray):=fun ty dc sc =>
  Nx w.drew _ _ ty (ρ.t 9) g ((i+m)*size) (n+m-(i+m)) dc ⟨g,i*size,none⟩ (n+m-i) sc cur (ρ.t 9) _ (n-i) i0 L.t24 hi hg (by simp only [Nat.min_def]; split<;>omega) (by rw [lm,hz1])
   (fun j v hj=>by
    rw [Addr.add_none]
    have:w.drew.cell? ⟨g,i*size+j,none⟩=cur[i*size+j]? := MZ hg
    rw [this,<- hj,List.getElem?_drop,List.getElem?_take]
    have:i*size+j<n*size:=by
     have:=(List.getElem?_eq_some_iff.1 hj).1
     omega
    rw [if_pos this,Array.getElem?_toList])
   (by rw [lm,e1,e3]; omega) (fun v hv=>h1 v (List.mem_of_mem_drop hv))
 obtain ⟨cur1,hcur1⟩:∃ c1,c1=(cur.toList.take ((i+m)*size)++(cur.toList.take (n*size)).drop (i*size)++cur.toList.drop ((i+m)*size+((cur.toList.take (n*size)).drop (i*size)).length)).toArray:=⟨_,rfl⟩
 rw [<- hcur1] at hcp1
 have hs1:cur1.size=cap*size:=by
  rw [hcur1,List.size_toArray]
  simp only [List.length_append,List.length_take,List.length_drop,Array.length_toList,e1]
  omega
 have hg1:(w.drew.setRow g cur1).heap[g]? = some (.cells cur1 (ρ.t 9) (0,0)):=setRow_heap w.drew g cur cur1 (ρ.t 9) _ hg
 have hgv1:(w.drew.setRow g cur1).heap[vb]? = some (.cells vcur (ρ.t 9) (0,0)):=by rw [setRow_other w.drew g vb cur1 hvb]; exact hgv
 have lv:(vcur.toList.take (m*size)).length=m*size:=by rw [List.length_take,Array.length_toList]; omega
 have hcp2:∀ (W:World),W.heap=(w.drew.setRow g cur1).heap->∀ ty dc,(Builtin.copy_ #[(ρ.t 24),(ρ.t 24)] ty #[.slice (some ⟨g,i*size,none⟩) (n+m-i) dc,.slice (some ⟨vb,0,none⟩) m vc]).run P W=.ok (goInt m) (W.setRow g (cur1.toList.take (i*size)++vcur.toList.take (m*size)++cur1.toList.drop (i*size+(vcur.toList.take (m*size)).length)).toArray):=fun W hW ty dc =>
  Nx W _ _ ty (ρ.t 9) g (i*size) (n+m-i) dc ⟨vb,0,none⟩ m vc cur1 (ρ.t 9) _ m i0 L.t24 hi (by rw [hW]; exact hg1) (by simp only [Nat.min_def]; split<;>omega) (by rw [lv,hz1])
   (fun j v hj=>by
    rw [Addr.add_none,MZ (by rw [hW]; exact hgv1),<- hj,List.getElem?_take,Nat.zero_add]
    have:j<m*size:=by
     have:=(List.getElem?_eq_some_iff.1 hj).1
     omega
    rw [if_pos this,Array.getElem?_toList])
   (by rw [lv]; omega) h1v
 clear e1 e2 e3
 obtain ⟨_,_,FG⟩:=L.f22
 go_enter FG,Body2.n22_ntmps ρ
 go_wp2_with (simp only [hov])
 go_region_law_o (refine step_copy_runI rfl _ _ (ρ.t 24) (ρ.t 24) rfl _ _ (by simp [Act.eval,Act.put]) (by simp [Act.eval,Act.put]) (hcp1 _ _ _) ?_)
 go_wp2_with (at_builtin; refine wpList_copy_runI _ rfl _ _ (ρ.t 24) (ρ.t 24) rfl _ _ rfl rfl (hcp2 _ rfl _ _) ?_)
 go_ret
 have e1:(i+m)*size=i*size+m*size:=Nat.add_mul i m size
 have e2:(n+m)*size=n*size+m*size:=Nat.add_mul n m size
 have e3:(n-i)*size=n*size-i*size:=Nat.sub_mul n i size
 have e6:cur.toList.length=cap*size:=by rw [Array.length_toList,hcs]
 have e7:vcur.toList.length=vcur.size:=Array.length_toList
 refine ⟨rfl,_,setRow_heap _ g _ _ _ _ (setRow_heap w.drew g cur _ (ρ.t 9) _ hg),?_,?_,⟨rfl,rfl,rfl,by rw [G6,G6]; exact Nat.le_refl _,fun k hk hne=>?_⟩⟩
 ·simp only [List.size_toArray,List.length_append,List.length_take,List.length_drop,e1,e3,e6,e7]
  omega
 ·have:=iy cur.toList (vcur.toList.take (m*size)) (i*size) (m*size) (n*size) e4 lv (by omega)
  simp only [e1,e2,e3]
  simpa only [List.append_assoc] using this
 ·have hk':k≠g:=fun e=>hne (by rw [e])
  rw [setRow_other _ g k _ hk',setRow_other _ g k _ hk']
  rfl
set_option maxHeartbeats 8000000 in
set_option maxRecDepth 100000 in
theorem dt (L:gp P ρ) (i0:TypeInfo) (z:Value) (size bytes:Nat) (hi:P.info? (ρ.t 9)=some i0) (hz0:i0.zero=some z) (hz1:i0.size=size) (hz2:i0.bytes=bytes) (hzs:z.cells.size=size) (hsz:0<size)
  (z9:∀ w,(Go.sizeOf (ρ.t 9)).run P w=.ok size w) (g n cap i:Nat) (cur:Array Value) (w:World) (hg:w.heap[g]? = some (.cells cur (ρ.t 9) (0,0))) (hcs:cur.size=cap*size) (hin:i<n) (vb m vc:Nat) (vcur:Array Value) (hgv:w.heap[vb]? = some (.cells vcur (ρ.t 9) (0,0))) (hvb:vb≠g)
  (hm:0<m) (hnc:n<=cap) (hroom:cap<n+m) (hcm:n+m<=68719476736) (hby:bytes<=2048) (hvl:m*size<=vcur.size) (h1:∀ u∈cur.toList.take (n*size),u.oneCell'=true) (h1v:∀ u∈vcur.toList.take (m*size),u.oneCell'=true) :
  Calls P (ρ.f 22) #[.slice (some ⟨g,0,none⟩) n cap,.int .i64 i,.slice (some ⟨vb,0,none⟩) m vc] w fun e w'=>∃ cap',e=.returned (.slice (some ⟨w.heap.size,0,none⟩) (n+m) cap')/\n+m<=cap'/\cap'<=maxLen /\
   ∃ cur',w'.heap[w.heap.size]? = some (.cells cur' (ρ.t 9) (0,0))/\cur'.size=cap'*size/\cur'.toList.take ((n+m)*size)=cur.toList.take (i*size)++vcur.toList.take (m*size)++(cur.toList.take (n*size)).drop (i*size)/\w.grownBy w' none:=by
 have mixed:=L.mixed; have t3:=L.t3; have a3:=L.a3; have z3:=L.z3; have v3:=L.v3; have t4:=L.t4; have a4:=L.a4; have z4:=L.z4; have v4:=L.v4; have t24:=L.t24; have a24:=L.a24; have z24:=L.z24; have v24:=L.v24
 have u3:=run_underlying L.t3; have u4:=run_underlying L.t4; have u24:=run_underlying L.t24
 have hcm':n+m<=9223372036854775807:=by omega
 have hz1':¬ ((m:Int)=0):=by omega
 have hz2':¬ ((i:Int)=(n:Int)):=by omega
 have hw1:IntKind.i64.wrap ((i:Int)+(m:Int))=(i:Int)+(m:Int):=by rw [IntKind.wrap_i64]; omega
 have hw2:IntKind.i64.wrap ((n:Int)+(m:Int))=(n:Int)+(m:Int):=by rw [IntKind.wrap_i64]; omega
 have hw3:IntKind.i64.wrap ((n:Int)+(m:Int)-(i:Int))=(n:Int)+(m:Int)-(i:Int):=by rw [IntKind.wrap_i64]; omega
 have hb1:(0:Int)<=(i:Int)+(m:Int):=by omega
 have hin':i<=n:=by omega
 have htn:((i:Int)+(m:Int)).toNat=i+m:=by omega
 have htn2:((n:Int)+(m:Int)).toNat=n+m:=by omega
 have hb4:¬ (cap=i):=by omega
 have hb5:(n:Int)+(m:Int)>(cap:Int):=by omega
 have hb6:¬ (cap=0):=by omega
 have e1:(i+m)*size=i*size+m*size:=Nat.add_mul i m size
 have e2:(n+m)*size=n*size+m*size:=Nat.add_mul n m size
 have e3:(n-i)*size=n*size-i*size:=Nat.sub_mul n i size
 have e4:i*size<=n*size:=Nat.mul_le_mul_right size hin'
 have e5:n*size<=cur.size:=by rw [hcs]; exact Nat.mul_le_mul_right size hnc
 have lo:(cur.toList.take (i*size)).length=i*size:=by rw [List.length_take,Array.length_toList]; omega
 have lv:(vcur.toList.take (m*size)).length=m*size:=by rw [List.length_take,Array.length_toList]; omega
 have lm:((cur.toList.take (n*size)).drop (i*size)).length=(n-i)*size:=by rw [List.length_drop,List.length_take,Array.length_toList,e3]; omega
 have hgl:g<w.heap.size:=(Array.getElem?_eq_some_iff.1 hg).1
 have hvl2:vb<w.heap.size:=(Array.getElem?_eq_some_iff.1 hgv).1
 have hbb:(n+m)*bytes<=140737488355328:=Nat.le_trans (Nat.mul_le_mul hcm hby) (by omega)
 obtain ⟨C,new,hap,hC1,hC2,hns,hnt⟩:∃ (C:Nat) (new:Array Value),(∀ ty,(Builtin.append_ #[(ρ.t 24),(ρ.t 3)] ty #[.slice (some ⟨g,0,none⟩) i cap,.int .i64 ((n:Int)+(m:Int)-(i:Int))]).run P w=.ok (.slice (some ⟨w.heap.size,0,none⟩) (n+m) C) (w.drew.alloc (.cells new (ρ.t 9)))) /\
   n+m<=C/\C<=maxLen/\new.size=C*size/\new.toList.take (i*size)=cur.toList.take (i*size):=by
  have hsum:i+(n+m-i)=n+m:=by omega
  have hge:=grownCap_ge w (n+m) cap (ρ.t 9)
  refine ⟨grownCap w (n+m) cap (ρ.t 9),(cur.toList.take (i*size)).toArray++Builtin.zeroCells z.cells (n+m-i)++Builtin.zeroCells z.cells (grownCap w (n+m) cap (ρ.t 9)-(n+m)),fun ty=>?_,hge,grownCap_le_maxLen _ _ _ _ (by unfold maxLen; omega),?_,?_⟩
  ·have:=Wp (P:=P) w (ρ.t 24) (ρ.t 3) ty (ρ.t 9) i0 z .i64 L.t24 L.t3 hi hz0 ⟨g,0,none⟩ i cap (cur.toList.take (i*size)) (by rw [lo,hz1]) (fun j v hj=>by
     rw [Addr.add_none,MZ hg,<- hj,List.getElem?_take,Nat.zero_add]
     have:j<i*size:=by
      have:=(List.getElem?_eq_some_iff.1 hj).1
      omega
     rw [if_pos this,Array.getElem?_toList]) (n+m-i) (by omega) (by omega) (by omega) (by omega) (by rw [hz2]; exact Nat.le_trans (Nat.mul_le_mul_right bytes (Nat.sub_le _ _)) (by omega)) (by rw [hsum,hz2]; exact growslice_fits hroom hbb) .i64
   rw [hsum,show ((n+m-i:Nat):Int)=(n:Int)+(m:Int)-(i:Int) by omega] at this
   exact this
  ·simp only [Array.size_append,List.size_toArray,size_zeroCells,hzs,lo,<- Nat.add_mul]
   congr 1
   omega
  ·simp only [Array.toList_append,List.append_assoc]
   exact (congrArg (fun k=>List.take k _) lo.symm).trans (by rw [List.take_left])
 have hW1:(w.drew.alloc (.cells new (ρ.t 9))).heap[w.heap.size]? = some (.cells new (ρ.t 9) (0,0)):=heap_alloc_new w.drew _
 have hW1o:∀ k,k<w.heap.size->(w.drew.alloc (.cells new (ρ.t 9))).heap[k]? = w.heap[k]? := fun k hk=>heap_alloc_old w.drew _ hk
 have e8:i*size+m*size<=new.size:=by rw [hns,<- e1]; exact Nat.mul_le_mul_right size (by omega)
 have e9:n*size+m*size<=new.size:=by rw [hns,<- e2]; exact Nat.mul_le_mul_right size (by omega)
 have hcp1:∀ (W:World),W.heap=(w.drew.alloc (.cells new (ρ.t 9))).heap->∀ ty dc,(Builtin.copy_ #[(ρ.t 24),(ρ.t 24)] ty #[.slice (some ⟨w.heap.size,i*size,none⟩) (n+m-i) dc,.slice (some ⟨vb,0,none⟩) m vc]).run P W=.ok (goInt m) (W.setRow w.heap.size (new.toList.take (i*size)++vcur.toList.take (m*size)++new.toList.drop (i*size+(vcur.toList.take (m*size)).length)).toArray):=fun W hW ty dc =>
  Nx W _ _ ty (ρ.t 9) w.heap.size (i*size) (n+m-i) dc ⟨vb,0,none⟩ m vc new (ρ.t 9) _ m i0 L.t24 hi (by rw [hW]; exact hW1) (by simp only [Nat.min_def]; split<;>omega) (by rw [lv,hz1])
   (fun j v hj=>by
    rw [Addr.add_none,MZ (by rw [hW,hW1o vb hvl2]; exact hgv),<- hj,List.getElem?_take,Nat.zero_add]
    have:j<m*size:=by
     have:=(List.getElem?_eq_some_iff.1 hj).1
     omega
    rw [if_pos this,Array.getElem?_toList])
   (by rw [lv]; omega) h1v
 obtain ⟨cur1,hcur1⟩:∃ c1,c1=(new.toList.take (i*size)++vcur.toList.take (m*size)++new.toList.drop (i*size+(vcur.toList.take (m*size)).length)).toArray:=⟨_,rfl⟩
 rw [<- hcur1] at hcp1
 have hln:new.toList.length=new.size:=Array.length_toList
 have hs1:cur1.size=C*size:=by
  rw [hcur1,List.size_toArray,<- hns]
  simp only [List.length_append,List.length_take,List.length_drop,hln,lv]
  omega
 have hcp2:∀ (W:World),W.heap=((w.drew.alloc (.cells new (ρ.t 9))).setRow w.heap.size cur1).heap->∀ ty dc sc,(Builtin.copy_ #[(ρ.t 24),(ρ.t 24)] ty #[.slice (some ⟨w.heap.size,(i+m)*size,none⟩) (n+m-(i+m)) dc,.slice (some ⟨g,i*size,none⟩) (n-i) sc]).run P W=.ok (goInt ((n-i:Nat):Int)) (W.setRow w.heap.size (cur1.toList.take ((i+m)*size)++(cur.toList.take (n*size)).drop (i*size)++cur1.toList.drop ((i+m)*size+((cur.toList.take (n*size)).drop (i*size)).length)).toArray):=fun W hW ty dc sc =>
  Nx W _ _ ty (ρ.t 9) w.heap.size ((i+m)*size) (n+m-(i+m)) dc ⟨g,i*size,none⟩ (n-i) sc cur1 (ρ.t 9) _ (n-i) i0 L.t24 hi (by rw [hW]; exact setRow_heap _ _ new cur1 _ _ hW1) (by simp only [Nat.min_def]; split<;>omega) (by rw [lm,hz1])
   (fun j v hj=>by
    rw [Addr.add_none,MZ (by rw [hW,setRow_other _ _ g _ (by omega),hW1o g hgl]; exact hg),<- hj,List.getElem?_drop,List.getElem?_take]
    have:i*size+j<n*size:=by
     have:=(List.getElem?_eq_some_iff.1 hj).1
     omega
    rw [if_pos this,Array.getElem?_toList])
   (by rw [lm,hs1,<- hns,e1,e3]; omega) (fun v hv=>h1 v (List.mem_of_mem_drop hv))
 have fin:(cur1.toList.take ((i+m)*size)++(cur.toList.take (n*size)).drop (i*size)++cur1.toList.drop ((i+m)*size+((cur.toList.take (n*size)).drop (i*size)).length)).take ((n+m)*size)=cur.toList.take (i*size)++vcur.toList.take (m*size)++(cur.toList.take (n*size)).drop (i*size):=by
  have l1:(new.toList.take (i*size)).length=i*size:=by rw [List.length_take,hln]; omega
  have t1:cur1.toList.take ((i+m)*size)=cur.toList.take (i*size)++vcur.toList.take (m*size):=by
   rw [hcur1,<- hnt,e1]
   have l2:(new.toList.take (i*size)++vcur.toList.take (m*size)).length=i*size+m*size:=by rw [List.length_append,l1,lv]
   exact (congrArg (fun k=>List.take k _) l2.symm).trans (by rw [List.take_left])
  rw [t1]
  have l3:(cur.toList.take (i*size)++vcur.toList.take (m*size)++(cur.toList.take (n*size)).drop (i*size)).length=(n+m)*size:=by
   simp only [List.length_append,lo,lv,lm,e2,e3]
   omega
  exact (congrArg (fun k=>List.take k _) l3.symm).trans (by rw [List.take_left])
 obtain ⟨cur2,hcur2⟩:∃ c2,c2=(cur1.toList.take ((i+m)*size)++(cur.toList.take (n*size)).drop (i*size)++cur1.toList.drop ((i+m)*size+((cur.toList.take (n*size)).drop (i*size)).length)).toArray:=⟨_,rfl⟩
 rw [<- hcur2] at hcp2
 have hs2:cur2.size=C*size:=by
  rw [hcur2,List.size_toArray,<- hs1]
  simp only [List.length_append,List.length_take,List.length_drop,Array.length_toList,lm,e1,e3]
  omega
 have fin2:cur2.toList.take ((n+m)*size)=cur.toList.take (i*size)++vcur.toList.take (m*size)++(cur.toList.take (n*size)).drop (i*size):=by rw [hcur2]; exact fin
 clear e1 e2 e3 hcur1 hcur2 fin
 obtain ⟨W1,hW1d⟩:∃ W1,W1=w.drew.alloc (.cells new (ρ.t 9)):=⟨_,rfl⟩
 have hWs:W1.heap.size=w.heap.size+1:=by rw [hW1d]; exact Array.size_push _
 have hWos:W1.os=w.os/\W1.tape=w.tape/\W1.output=w.output:=by rw [hW1d]; exact ⟨rfl,rfl,rfl⟩
 rw [<- hW1d] at hW1 hW1o hcp1 hcp2 hap
 clear hW1d
 have hcp3:=hcp2 (W1.setRow w.heap.size cur1).drew rfl
 clear hcp2
 have hb7:¬ (C=i+m):=by omega
 have hb8:¬ (C=i):=by omega
 obtain ⟨_,_,FG⟩:=L.f22
 go_enter FG,Body2.n22_ntmps ρ
 go_wp2_with (at_builtin; refine Lib.wpList_append_run _ rfl _ _ (ρ.t 24) (ρ.t 3) rfl _ _ rfl rfl _ _ (hap _) ?_)
 go_region_law_o (refine step_copy_runI rfl _ _ (ρ.t 24) (ρ.t 24) rfl _ _ (by simp [Act.eval,Act.put]) (by simp [Act.eval,Act.put]) (hcp3 _ _ _) ?_)
 go_wp2
 go_ret
 refine ⟨C,rfl,hC1,hC2,cur2,setRow_heap _ _ cur1 cur2 _ _ (setRow_heap _ _ new cur1 _ _ hW1),hs2,fin2,⟨hWos.1,hWos.2.1,hWos.2.2,?_,fun k hk _=>?_⟩⟩
 ·rw [G6]
  show w.heap.size<=(W1.setRow w.heap.size cur1).heap.size
  rw [G6,hWs]
  omega
 ·rw [setRow_other _ _ k _ (by omega)]
  show (W1.setRow w.heap.size cur1).heap[k]? = _
  rw [setRow_other _ _ k _ (by omega),hW1o k hk]
theorem Xg {H:HP} {K:Kd} {xs:List K.T} {f:List Value} (h:DP H K xs f) (i:Nat):DP H K (xs.take i) (f.take (i*K.sz)):=by
 intro j x hx
 rw [List.getElem?_take] at hx
 split at hx
 ·rename_i hj
  have:=h j x hx
  have hle:(j+1)*K.sz<=i*K.sz:=Nat.mul_le_mul_right _ hj
  rw [Nat.succ_mul] at hle
  rw [List.drop_take,List.take_take,Nat.min_eq_left (by omega)]
  exact this
 ·cases hx
theorem Xh {H:HP} {K:Kd} {xs:List K.T} {f:List Value} (h:DP H K xs f) (i:Nat):DP H K (xs.drop i) (f.drop (i*K.sz)):=by
 intro j x hx
 rw [List.getElem?_drop] at hx
 have:=h _ x hx
 rw [List.drop_drop,<- Nat.add_mul]
 exact this
theorem cd {H:HP} {φ:Bm} {w w':World} {t:TypeId} {K:Kd} {xs vs ys:List K.T} {n:Int} {v':Value} {flat:List Value}
  (hs:SR H φ (BE [] [.new t K xs,.int .i64 n,.new t K vs]) w) (hg:w.grownBy w' (EC (φ 0))) (hb:∀ b,EC v'=some b->EC (φ 0)=some b\/w.heap.size<=b)
  (ho:w'.ownsRow 0 t K.sz v' ys.length flat) (hr:DP H K ys flat):Kj H φ w [.new t K xs,.int .i64 n,.new t K vs] [] [] [.new t K ys] v' w':=by
 have hout:∀ b,EC (φ 0)=some b->H b=none:=fun b h=>hs.out 0 (.rows t K xs) rfl rfl b h
 have hlt:∀ b o,H b=some o->b<w.heap.size:=fun b o h=>(Array.getElem?_eq_some_iff.1 (hs.hp b o h)).1
 refine ⟨H,fun _=>v',HP.le_refl H,⟨fun b o h=>?_,fun id bx hid=>?_,fun i j bi bj hi hj _ _ hne=>?_,fun i bi hi _ b hv=>?_,fun id cs hid=>?_⟩,⟨hg.os,hg.tape,hg.output,hg.size,fun b hlt hne=>hg.block b hlt (fun e=>hne 0 (by show 0<2; omega) e.symm),fun j hj=>by simp at hj,fun i bi hi _ b hv=>?_,fun j hj=>by simp at hj,fun _ _ _=>rfl⟩,⟨rfl,rfl⟩⟩
 ·rw [hg.block b (hlt b o h) (fun e=>by rw [hout b e.symm] at h; cases h)]
  exact hs.hp b o h
 ·cases id with
  | zero=>cases hid; exact ⟨flat,ho,hr⟩
  | succ k=>cases hid
 ·cases i with
  | succ k=>cases hi
  | zero =>
   cases j with
   | succ k=>cases hj
   | zero=>exact absurd rfl hne
 ·cases hh:H b with
  | none=>rfl
  | some o =>
   rcases hb b hv with h | h
   ·rw [hout b h] at hh; cases hh
   ·have:=hlt b o hh; omega
 ·cases id with
  | zero=>cases hid
  | succ k=>cases hid
 ·rcases hb b hv with h | h
  ·exact .inr ⟨0,(by show 0<2; omega),h⟩
  ·exact .inl h
theorem gq {K:Kd} (L:gp P ρ) (he:dG P (ρ.t 9) K=true) {xs vs:List K.T} {i:Nat} (hx:xs.length+vs.length<=68719476736) (hv:vs≠[]) (hi:i<=xs.length) :
  Pn P (ρ.f 22) [.new (ρ.t 9) K xs,.int .i64 i,.new (ρ.t 9) K vs] [] [.new (ρ.t 9) K (xs.take i++vs++xs.drop i)]:=by
 obtain ⟨i0,z,hi0,hz,h1,h2,h3,h4⟩:=Oa he
 have hm:0<vs.length:=List.length_pos_iff.2 hv
 have hsz:=Kd.sz_pos K
 refine ⟨?_,?_,1,rfl,fun H φ w cargs hs ha=>?_⟩
 ·obtain ⟨nm,hnm,hf⟩:=L.f22
  exact ⟨_,_,hf,hnm,rfl⟩
 ·intro r hr
  simp only [List.mem_singleton] at hr
  subst hr
  rfl
 ·obtain ⟨v0,r0,rfl,hv0,ha⟩:=ha
  obtain ⟨v1,r1,rfl,hv1,ha⟩:=ha
  obtain ⟨v2,r2,rfl,hv2,ha⟩:=ha
  have hr2:r2=[]:=ha
  subst hr2
  have e0:v0=φ 0:=hv0.1
  have e1:v1=.int .i64 i:=hv1
  have e2:v2=φ 1:=hv2.1
  subst e0 e1 e2
  obtain ⟨flat,ho,hr⟩:=hs.box 0 (.rows (ρ.t 9) K xs) rfl
  obtain ⟨flatv,hov,hrv⟩:=hs.box 1 (.rows (ρ.t 9) K vs) rfl
  have hnew:(xs.take i++vs++xs.drop i).length=xs.length+vs.length:=by simp only [List.length_append,List.length_take,List.length_drop]; omega
  have hnil:vs.length≠0:=by omega
  obtain ⟨gv,capv,curv,ev,_,hgv,hcv,hcmv,hsv,htv⟩:=hov.2.resolve_left (fun h=>hnil h.2)
  have hlv:vs.length*K.sz<=curv.size:=by rw [hsv]; exact Nat.mul_le_mul_right _ hcv
  have hn:xs.length+vs.length<=maxLen:=by unfold maxLen; omega
  have hbb:(xs.length+vs.length)*i0.bytes<=140737488355328:=Nat.le_trans (Nat.mul_le_mul hx h2) (by omega)
  have hcv2:∀ j u,flatv[j]? = some u->w.cell? ((⟨gv,0,none⟩:Addr).add j)=some u:=fun j u hj=>by
   rw [Addr.add_none,MZ hgv,Nat.zero_add]
   rw [<- htv,List.getElem?_take] at hj
   split at hj
   ·rwa [Array.getElem?_toList] at hj
   ·cases hj
  have one:(w.ownsRow 0 (ρ.t 9) K.sz (φ 1) vs.length flatv):=hov
  rw [ev]
  by_cases hin:i=xs.length
  ·subst hin
   obtain ⟨base,n,cap,e0,hnn⟩:∃ base n cap,φ 0=.slice base n cap/\n=xs.length:=by
    rcases ho.2 with ⟨e,h⟩ | ⟨g,cap,cur,e,_⟩
    ·exact ⟨none,0,0,e,h.symm⟩
    ·exact ⟨_,_,_,e,rfl⟩
   subst hnn
   refine Calls.mono (eo L i0 z K.sz i0.bytes hi0 hz h1 rfl h3 hsz (fun w=>by simp [sizeOf,typeInfo,hi0,h1]) (φ 0) base _ cap e0 flat w ho ⟨gv,0,none⟩ vs.length capv flatv hm hov.1 hn hbb hcv2 (Cr hrv hov.1)) fun out w' h=>?_
   obtain ⟨v',rfl,ho',hg,hbk⟩:=h
   have hbv:∀ {v:Value} {n:Nat} {fl:List Value} {ww:World},ww.ownsRow 0 (ρ.t 9) K.sz v n fl->EC v=v.ownBlock:=fun h=>by
    rcases h.2 with ⟨e,_⟩ | ⟨g,c,cu,e,_⟩<;>rw [e]<;>rfl
   have hbl:EC (φ 0)=(φ 0).ownBlock:=by rw [e0]; cases base<;>rfl
   refine cd (flat:=flat++flatv) hs (by rw [hbl]; exact hg) (fun b hb=>?_) (by rw [hnew]; exact ho') ?_
   ·rw [hbv ho'] at hb
    rcases hbk with h | h
    ·exact .inl (by rw [hbl,<- h]; exact hb)
    ·rw [h] at hb
     cases hb
     exact .inr (Nat.le_refl _)
   ·rw [List.take_length,List.drop_length,List.append_nil]
    exact GA hr ho.1 hrv
  ·have hlt:i<xs.length:=by omega
   obtain ⟨g,cap,cur,e0,_,hg,hc,hcm,hsc,ht⟩:=ho.2.resolve_left (fun h=>by omega)
   have hne:gv≠g:=fun e=>hs.sep 0 1 _ _ rfl rfl rfl rfl (by decide) g (by rw [e0]; rfl) (by rw [ev,e]; rfl)
   rw [e0]
   have z9:∀ w,(Go.sizeOf (ρ.t 9)).run P w=.ok K.sz w:=fun w=>by simp [sizeOf,typeInfo,hi0,h1]
   have hcap0:cur.size≠0:=by
    have:=Nat.mul_le_mul_right K.sz hc
    have h5:0<xs.length*K.sz:=Nat.mul_pos (by omega) hsz
    omega
   have htk:cur.toList.take (i*K.sz)=flat.take (i*K.sz):=by
    rw [<- ht,List.take_take,Nat.min_eq_left (Nat.mul_le_mul_right _ hi)]
   have hrow:∀ (cur':Array Value),cur'.toList.take ((xs.length+vs.length)*K.sz)=cur.toList.take (i*K.sz)++curv.toList.take (vs.length*K.sz)++(cur.toList.take (xs.length*K.sz)).drop (i*K.sz)->cur'.toList.take ((xs.length+vs.length)*K.sz)=flat.take (i*K.sz)++flatv++flat.drop (i*K.sz):=fun cur' h=>by rw [h,htk,htv,ht]
   have hlf:(flat.take (i*K.sz)++flatv++flat.drop (i*K.sz)).length=(xs.length+vs.length)*K.sz:=by
    have h5:=ho.1
    have h6:=hov.1
    have h7:i*K.sz<=xs.length*K.sz:=Nat.mul_le_mul_right _ hi
    simp only [List.length_append,List.length_take,List.length_drop,h5,h6,Nat.add_mul]
    omega
   have hrr:DP H K (xs.take i++vs++xs.drop i) (flat.take (i*K.sz)++flatv++flat.drop (i*K.sz)):=by
    have h5:=ho.1
    have h7:i*K.sz<=xs.length*K.sz:=Nat.mul_le_mul_right _ hi
    have l1:(flat.take (i*K.sz)).length=(xs.take i).length*K.sz:=by rw [List.length_take,List.length_take,Nat.min_eq_left hi,h5]; omega
    refine GA (GA (Xg hr i) l1 hrv) ?_ (Xh hr i)
    rw [List.length_append,List.length_append,l1,hov.1,Nat.add_mul]
   by_cases hroom:xs.length+vs.length<=cap
   ·refine Calls.mono (cc L i0 z K.sz i0.bytes hi0 hz h1 rfl h3 hsz z9 g xs.length cap i cur w hg hsc hlt gv vs.length capv curv hgv hne hm hroom hcm hlv (by rw [ht]; exact Cr hr ho.1) (by rw [htv]; exact Cr hrv hov.1) hcap0) fun out w' h=>?_
    obtain ⟨rfl,cur',g1,g2,g3,g4⟩:=h
    refine cd hs (by rw [e0]; exact g4) (fun b hb=>.inl (by rw [e0]; exact hb)) (flat:=flat.take (i*K.sz)++flatv++flat.drop (i*K.sz)) ?_ hrr
    rw [hnew]
    exact ⟨hlf,.inr ⟨g,cap,cur',rfl,Nat.zero_le _,g1,hroom,hcm,g2,hrow cur' g3⟩⟩
   ·refine Calls.mono (dt L i0 z K.sz i0.bytes hi0 hz h1 rfl h3 hsz z9 g xs.length cap i cur w hg hsc hlt gv vs.length capv curv hgv hne hm hc (by omega) hx h2 hlv (by rw [ht]; exact Cr hr ho.1) (by rw [htv]; exact Cr hrv hov.1)) fun out w' h=>?_
    obtain ⟨cap',rfl,g5,g6,cur',g1,g2,g3,g4⟩:=h
    refine cd hs ⟨g4.os,g4.tape,g4.output,g4.size,fun k hk _=>g4.block k hk (by simp)⟩ (fun b hb=>.inr (by cases hb; exact Nat.le_refl _)) (flat:=flat.take (i*K.sz)++flatv++flat.drop (i*K.sz)) ?_ hrr
    rw [hnew]
    exact ⟨hlf,.inr ⟨w.heap.size,cap',cur',rfl,Nat.zero_le _,g1,g5,g6,g2,hrow cur' g3⟩⟩
def ZZ (t:TypeId) (K:Kd) (args bs:List AV):Option (List AV) :=
 match args,bs with
 | [.lst K' xs],[]=>if h:K'=K then (if xs.length<=68719476736 then some [.new t K (h▸xs)] else none) else none
 | _,_=>none
theorem Za {t:TypeId} {K:Kd} {xs:List K.T} (h:xs.length<=68719476736):ZZ t K [.lst K xs] []=some [.new t K xs]:=by simp [ZZ,h]
theorem Zb {K:Kd} (L:SlLaysE0.n41 P ρ) (he:dG P (ρ.t 23) K=true) {args bs rs:List AV} (h:ZZ (ρ.t 23) K args bs=some rs):Pn P (ρ.f 41) args bs rs:=by
 unfold ZZ at h
 split at h
 ·split at h
  ·rename_i hk
   subst hk
   split at h
   ·cases h
    exact ix L he (by assumption)
   ·cases h
  ·cases h
 ·cases h
def iz (t:TypeId) (K:Kd) (args bs:List AV):Option (List AV) :=
 match args,bs with
 | [.new t1 K1 xs,.int k i,.new t2 K2 vs],[]=>if h1:K1=K then (if h2:K2=K then (if t1=t/\t2=t/\k=.i64/\0<=i/\i<=xs.length/\vs.length≠0/\xs.length+vs.length<=68719476736 then
   some [.new t K ((h1▸xs).take i.toNat++(h2▸vs)++(h1▸xs).drop i.toNat)] else none) else none) else none
 | _,_=>none
theorem kM {t:TypeId} {K:Kd} {xs vs:List K.T} {i:Nat} (h:xs.length+vs.length<=68719476736) (hi:i<=xs.length) (hv:vs.length≠0):iz t K [.new t K xs,.int .i64 i,.new t K vs] []=some [.new t K (xs.take i++vs++xs.drop i)]:=by
 have hi':(i:Int)<=(xs.length:Int):=by omega
 have h0:(0:Int)<=(i:Int):=by omega
 simp only [iz,dif_pos,true_and]
 rw [if_pos ⟨h0,hi',hv,h⟩,Int.toNat_natCast]
theorem kN {K:Kd} (L:gp P ρ) (he:dG P (ρ.t 9) K=true) {args bs rs:List AV} (h:iz (ρ.t 9) K args bs=some rs):Pn P (ρ.f 22) args bs rs:=by
 unfold iz at h
 split at h
 ·split at h
  ·rename_i hk
   subst hk
   split at h
   ·rename_i hk2
    subst hk2
    split at h
    ·rename_i hc
     obtain ⟨rfl,rfl,rfl,h0,hi,hv,hx⟩:=hc
     cases h
     rename_i n _
     obtain ⟨m,rfl⟩:=Int.eq_ofNat_of_zero_le h0
     exact gq L he hx (fun e=>hv (by rw [e]; rfl)) (by omega)
    ·cases h
   ·cases h
  ·cases h
 ·cases h
def lw (args bs:List AV):Option (List AV) :=
 match args,bs with
 | [.str a,.str b],[]=>some [.int .i64 (Lib.compareBytes a.data.toList b.data.toList)]
 | _,_=>none
theorem kO (L:Lays.n106 P ρ) {args bs rs:List AV} (h:lw args bs=some rs):Pn P (ρ.f 106) args bs rs:=by
 unfold lw at h
 split at h
 ·cases h
  rename_i a b
  refine ⟨⟨_,_,L.f106,by rfl,rfl⟩,?_,1,rfl,fun H φ w cargs hs ha=>?_⟩
  ·intro r hr
   simp only [List.mem_singleton] at hr
   subst hr
   rfl
  ·obtain ⟨v0,r0,rfl,hv0,ha⟩:=ha
   obtain ⟨v1,r1,rfl,hv1,ha⟩:=ha
   have hr1:r1=[]:=ha
   subst hr1
   have e0:v0=.string a:=hv0
   have e1:v1=.string b:=hv1
   subst e0 e1
   refine Calls.mono (Any.strings_Compare L a b w) fun out w' h=>?_
   obtain ⟨rfl,rfl⟩:=h
   exact dq (rs:=[.int .i64 (Lib.compareBytes a.data.toList b.data.toList)]) (Ad.refl hs) rfl
 ·cases h
theorem Yk {H:HP} {φ:Bm} {w w':World} {t:TypeId} {K:Kd} {xs ys:List K.T} {ags:List AV} {v':Value} {flat:List Value} (hst:BE [] (.new t K xs::ags)=[.rows t K xs])
  (hs:SR H φ (BE [] (.new t K xs::ags)) w) (hg:w.grownBy w' (EC (φ 0))) (hb:∀ b,EC v'=some b->EC (φ 0)=some b\/w.heap.size<=b)
  (ho:w'.ownsRow 0 t K.sz v' ys.length flat) (hr:DP H K ys flat):Kj H φ w (.new t K xs::ags) [] [] [.new t K ys] v' w':=by
 have hbx:(BE [] (.new t K xs::ags))[0]? = some (.rows t K xs):=by rw [hst]; rfl
 have hout:∀ b,EC (φ 0)=some b->H b=none:=fun b h=>hs.out 0 (.rows t K xs) hbx rfl b h
 have hlt:∀ b o,H b=some o->b<w.heap.size:=fun b o h=>(Array.getElem?_eq_some_iff.1 (hs.hp b o h)).1
 refine ⟨H,fun _=>v',HP.le_refl H,⟨fun b o h=>?_,fun id bx hid=>?_,fun i j bi bj hi hj _ _ hne=>?_,fun i bi hi _ b hv=>?_,fun id cs hid=>?_⟩,⟨hg.os,hg.tape,hg.output,hg.size,fun b hlt hne=>hg.block b hlt (fun e=>hne 0 (by rw [hst]; show 0<1; omega) e.symm),fun j hj=>by simp at hj,fun i bi hi _ b hv=>?_,fun j hj=>by simp at hj,fun _ _ _=>rfl⟩,⟨rfl,rfl⟩⟩
 ·rw [hg.block b (hlt b o h) (fun e=>by rw [hout b e.symm] at h; cases h)]
  exact hs.hp b o h
 ·cases id with
  | zero=>cases hid; exact ⟨flat,ho,hr⟩
  | succ k=>cases hid
 ·cases i with
  | succ k=>cases hi
  | zero =>
   cases j with
   | succ k=>cases hj
   | zero=>exact absurd rfl hne
 ·cases hh:H b with
  | none=>rfl
  | some o =>
   rcases hb b hv with h | h
   ·rw [hout b h] at hh; cases hh
   ·have:=hlt b o hh; omega
 ·cases id with
  | zero=>cases hid
  | succ k=>cases hid
 ·rcases hb b hv with h | h
  ·exact .inr ⟨0,(by rw [hst]; show 0<1; omega),h⟩
  ·exact .inl h

structure lx (P:Program) (g:Nat):Prop where
 eg:∀ args w,(callFunc g args).run P w=.ok (.enter g args) w
 says:∀ (n x:Int) (b o:Nat) (W:World),W.cell? ⟨b,o,none⟩=some (.int .i64 n) ->
  Calls P g #[.int .i64 x,.pointer (some ⟨b,o,none⟩)] W fun e w'=>e=.returned (.bool (x==n))/\∃ q,w'=W.drewN q
set_option maxHeartbeats 2000000 in
theorem du (L:SlLaysH.n10 P ρ) (fv:Value) (w:World) :
  Calls P (ρ.f 10) #[.slice none 0 0,fv] w fun e w'=>e=.returned (.slice none 0 0)/\w'=w:=by
 have mixed:=L.mixed; have t0:=L.t0; have a0:=L.a0; have z0:=L.z0; have v0:=L.v0; have t3:=L.t3; have a3:=L.a3; have z3:=L.z3; have v3:=L.v3; have t4:=L.t4; have a4:=L.a4; have z4:=L.z4; have v4:=L.v4; have t22:=L.t22; have a22:=L.a22; have z22:=L.z22; have v22:=L.v22; have a23:=L.a23; have z23:=L.z23; have t25:=L.t25; have a25:=L.a25; have z25:=L.z25; have v25:=L.v25
 have e6:∀ args w,(callFunc (ρ.f 6) args).run P w=.ok (.enter (ρ.f 6) args) w:=L.f6.enters rfl
 have hIF:=AnyE.slices_IndexFunc_empty (P:=P) (ρ:=ρ) { L with } none 0 fv w
 obtain ⟨_,_,FG⟩:=L.f10
 go_enter FG,SlBodyH.n10_ntmps ρ
 go_wp2_with (go_at_fn (ρ.f 6); refine hIF.mono ?_; rintro e w' ⟨rfl,rfl⟩)
 go_ret
 exact ⟨rfl,rfl⟩
theorem VS {α:Type} [Inhabited α] (enc:α->Value) (w:World) (b off:Nat) (d:Array α):(Sort.putRow enc w b off d).heap.size=w.heap.size:=by
 simp [Sort.putRow,Sort.mapBlock]
theorem VT {α:Type} [Inhabited α] (enc:α->Value) (w:World) (b off k:Nat) (d:Array α) (h:k≠b):(Sort.putRow enc w b off d).heap[k]? = w.heap[k]? := by
 simp only [Sort.putRow,Sort.mapBlock,Array.getElem?_modify]
 rw [if_neg (fun e=>h e.symm)]
theorem Wq {α:Type} [Inhabited α] (enc:α->Value) (w:World) (b off:Nat) (d:Array α) {c:Array Value} {e:TypeId} {fr:Nat×Nat} (h:w.heap[b]? = some (.cells c e fr)) :
  (Sort.putRow enc w b off d).heap[b]? = some (.cells (Sort.putCells enc off d c) e fr):=by
 simp only [Sort.putRow,Sort.mapBlock,Array.getElem?_modify,if_true,h,Option.map_some,Sort.onCells]
theorem er (L:SlLaysH.n10 P ρ) (hv:∀ w,(zeroValue (ρ.t 23)).run P w=.ok (.int .i64 0) w) {g:Nat} (E:lx P g) {xs:List Int} {n:Int} :
  Pn P (ρ.f 10) [.new (ρ.t 23) (.int .i64) xs,.clo g (.int .i64) n] [] [.new (ρ.t 23) (.int .i64) (xs.filter fun x=>!(x==n))]:=by
 refine ⟨?_,?_,1,rfl,fun H φ w cargs hs ha=>?_⟩
 ·obtain ⟨nm,hnm,hf⟩:=L.f10
  exact ⟨_,_,hf,hnm,rfl⟩
 ·intro r hr
  simp only [List.mem_singleton] at hr
  subst hr
  rfl
 ·obtain ⟨v0,r0,rfl,hv0,ha⟩:=ha
  obtain ⟨v1,r1,rfl,hv1,ha⟩:=ha
  have hr1:r1=[]:=ha
  subst hr1
  have e0:v0=φ 0:=hv0.1
  subst e0
  obtain ⟨b,o,c,el,fz,e1,hb,vs,hvs,hvc⟩:=(show dN H g (Ez H (.int .i64) n) v1 from hv1)
  have hvs:vs=[.int .i64 n]:=hvs
  subst hvs e1
  have hcn:c[o]? = some (.int .i64 n):=hvc 0 _ rfl
  have hwb:=hs.hp _ _ hb
  have hbl:b<w.heap.size:=(Array.getElem?_eq_some_iff.1 hwb).1
  have hcell:w.cell? ⟨b,o,none⟩=some (.int .i64 n):=by rw [MZ hwb]; exact hcn
  obtain ⟨flat,ho,hr⟩:=hs.box 0 (.rows (ρ.t 23) (.int .i64) xs) rfl
  have hstk:BE [] [AV.new (ρ.t 23) (.int .i64) xs,.clo g (.int .i64) n]=[.rows (ρ.t 23) (.int .i64) xs]:=rfl
  have hout:∀ bb,EC (φ 0)=some bb->H bb=none:=fun bb h=>hs.out 0 (.rows (ρ.t 23) (.int .i64) xs) rfl rfl bb h
  obtain ⟨hfl,⟨e0,hx⟩ | ⟨gb,cap,cur,e0,hle,hg,hc,hcm,hsc,ht⟩⟩:=ho
  ·have:xs=[]:=List.length_eq_zero_iff.1 (by omega)
   subst this
   rw [e0]
   refine Calls.mono (du L _ w) fun out w' h=>?_
   obtain ⟨rfl,rfl⟩:=h
   exact Yk hstk hs ⟨rfl,rfl,rfl,Nat.le_refl _,fun _ _ _=>rfl⟩ (fun b hb=>by simp [EC] at hb) (flat:=[]) ⟨by simp,.inl ⟨rfl,rfl⟩⟩ (fun j x h=>by simp at h)
  ·have hne:b≠gb:=fun e=>by
    have:=hout gb (by rw [e0]; rfl)
    rw [<- e] at this
    rw [this] at hb; cases hb
   have hgl:gb<w.heap.size:=(Array.getElem?_eq_some_iff.1 hg).1
   have hflat:∀ j (h:j<xs.length),cur[j]? = some (.int .i64 xs[j]):=fun j hj=>by
    have h1:(flat.drop (j*1)).take 1=[.int .i64 xs[j]]:=hr j xs[j] (List.getElem?_eq_getElem hj)
    have h4:((flat.drop (j*1)).take 1)[0]? = some (.int .i64 xs[j]):=by rw [h1]; rfl
    have h5:flat[j]? = some (.int .i64 xs[j]):=by simpa using h4
    rw [<- ht] at h5
    have h6:j<xs.length*Kd.sz (.int .i64):=by simpa [Kd.sz] using hj
    rw [List.getElem?_take,if_pos h6,Array.getElem?_toList] at h5
    exact h5
   have hH:Sort.Holds (Value.int .i64) w gb 0 xs.toArray:=fun j hj=>by
    have hj':j<xs.length:=by simpa using hj
    have hx:xs.toArray[j]! = xs[j]:=by simp [hj']
    refine ⟨?_,?_⟩
    ·rw [MZ hg,Nat.zero_add,hflat j hj',hx]
    ·simp [World.frozen?,hg]
   have hp:PredAt P g #[.pointer (some ⟨b,o,none⟩)] (Value.int .i64) (fun x=>x==n) w:=fun W x hB=>E.says n x b o W ((hB.cell (p:=⟨b,o,none⟩) hbl).trans hcell)
   have hpo:PredOver P g #[.pointer (some ⟨b,o,none⟩)] (Value.int .i64) (fun x=>x==n) gb 0 xs.toArray.size w:=fun k os dk x _=>E.says n x b o _ (by
    unfold sortWorld
    rw [Sort.cell?_grow _ _ _ (by show b<(Sort.putRow _ _ _ _ _).heap.size; rw [VS]; exact hbl),Sort.cell?_putRow_other _ _ gb 0 _ _ (Or.inl hne)]
    exact hcell)
   have hcm':cap<=9223372036854775807:=hcm
   have hcall:=AnyE.slices_DeleteFunc L (Value.int .i64) (fun _=>rfl) (fun x=>x==n) g #[.pointer (some ⟨b,o,none⟩)] E.eg 0 hv gb 0 cap xs.toArray w hp hpo hH (by simp; omega) (by simpa using hc)
   rw [e0]
   refine Calls.mono (by simpa using hcall) fun out w' h=>?_
   obtain ⟨rfl,q,rfl⟩:=h
   have hfl':(xs.filter fun x=>!(x==n)).length<=xs.length:=List.length_filter_le _ _
   generalize hys:(xs.filter fun x=>!(x==n))=ys at hfl' ⊢
   have hd:(ys++List.replicate (xs.length-ys.length) 0).length=xs.length:=by simp; omega
   generalize hdd:(ys++List.replicate (xs.length-ys.length) (0:Int))=zs at hd ⊢
   refine Yk (flat:=ys.map (Value.int .i64)) hstk hs ⟨rfl,rfl,rfl,?_,fun k hk hne2=>?_⟩ (fun b hb=>.inl (by rw [e0]; exact hb)) ?_ ?_
   ·rw [VS]; exact Nat.le_refl _
   ·rw [VT _ _ _ _ _ _ (fun e=>hne2 (by rw [e0,e]; rfl))]; rfl
   ·refine ⟨by simp [Kd.sz],.inr ⟨gb,cap,_,rfl,Nat.zero_le _,Wq _ _ _ _ _ (show (Sort.ahead w q).heap[gb]? = _ from hg),by omega,hcm,by simpa [Sort.putCells] using hsc,?_⟩⟩
    apply List.ext_getElem?
    intro j
    have hcs:cur.size=cap:=by simpa [Kd.sz] using hsc
    rw [List.getElem?_take]
    by_cases hj:j<ys.length
    ·have h6:j<ys.length*Kd.sz (.int .i64):=by simpa [Kd.sz] using hj
     have hj2:j<cur.size:=by omega
     rw [if_pos h6,Array.getElem?_toList,Sort.putCells,Array.getElem?_mapIdx,Array.getElem?_eq_getElem hj2]
     have h7:zs.toArray[j-0]! = ys[j]:=by
      subst hdd
      simp [List.getElem?_append_left hj,hj]
     simp only [Option.map_some,List.getElem?_map,List.getElem?_eq_getElem hj]
     rw [if_pos ⟨Nat.zero_le _,by simp; omega⟩,h7]
    ·have h6:¬ j<ys.length*Kd.sz (.int .i64):=by simpa [Kd.sz] using hj
     rw [if_neg h6,List.getElem?_map,List.getElem?_eq_none (by omega)]; rfl
   ·intro j x hx
    show ((ys.map (Value.int .i64)).drop (j*1)).take 1=[.int .i64 x]
    have hj:=(List.getElem?_eq_some_iff.1 hx).1
    have hxj:=(List.getElem?_eq_some_iff.1 hx).2
    rw [Nat.mul_one,List.drop_eq_getElem_cons (by simpa using hj)]
    simp [hxj]
def dv (t g:Nat) (args bs:List AV):Option (List AV) :=
 match args,bs with
 | [.new t1 (.int k) xs,.clo g1 (.int k1) n],[]=>if t1=t/\g1=g/\k=.i64/\k1=.i64 then
   some [.new t (.int .i64) ((show List Int from xs).filter fun x=>!(x==(show Int from n)))] else none
 | _,_=>none
theorem i4 {t g:Nat} {xs:List Int} {n:Int}:dv t g [.new t (.int .i64) xs,.clo g (.int .i64) n] []=some [.new t (.int .i64) (xs.filter fun x=>!(x==n))]:=by
 simp [dv]
theorem i5 (L:SlLaysH.n10 P ρ) (hv:∀ w,(zeroValue (ρ.t 23)).run P w=.ok (.int .i64 0) w) {g:Nat} (E:lx P g) {args bs rs:List AV} (h:dv (ρ.t 23) g args bs=some rs):Pn P (ρ.f 10) args bs rs:=by
 unfold dv at h
 split at h
 ·split at h
  ·rename_i hc
   obtain ⟨rfl,rfl,rfl,rfl⟩:=hc
   cases h
   exact er L hv E
  ·cases h
 ·cases h

theorem ce (w:World) (t e ty:TypeId) (z:Value) (ht:P.underlying t=some (.slice e)) (hz:∀ w,(zeroValue e).run P w=.ok z w) (g o n c:Nat) (cur:Array Value) (te:TypeId) (hg:w.heap[g]? = some (.cells cur te (0,0))) (hn:0<n)
  (hfit:o+n*z.cells.size<=cur.size) (h1:∀ v∈(Builtin.zeroCells z.cells n).toList,v.oneCell'=true) :
  (Builtin.clear_ #[t] ty #[.slice (some ⟨g,o,none⟩) n c]).run P w=.ok (.tuple #[]) (w.setRow g (cur.toList.take o++(Builtin.zeroCells z.cells n).toList++cur.toList.drop (o+(Builtin.zeroCells z.cells n).toList.length)).toArray):=by
 have hl:(Builtin.zeroCells z.cells n).toList.length=n*z.cells.size:=by rw [Array.length_toList,size_zeroCells]
 have hst:=run_storeCells_at P g o te (Builtin.zeroCells z.cells n).toList 0 cur w hg (by rw [hl]; simpa using hfit) h1
 cases n with
 | zero=>omega
 | succ n=>simp [Builtin.clear_,run_underlying ht,hz,hst]
theorem Wr {ops:Array Oper} {o:Oper} {a:Act} {w:World} {K:Act->World->Prop} {Q:Exit->Act->World->Prop} {E:Prop}
  (hg:o.guard=none) (d x:Operand) (dT sT:TypeId) (hop:o.op=Op.call { callee:=Callee.builtin Builtin.append,args:=#[d,x],argTypes:=#[dT,sT] })
  (v u:Value) (hd:a.eval d=v) (hx:a.eval x=u) {v':Value} {w':World} (hr:(Builtin.append_ #[dT,sT] o.type #[v,u]).run P w=.ok v' w') (hK:K (a.put o.dst v') w') :
  if Region.wanted o (yielded ops a.tmps)=true then Oper.wp P o a w K Q else E:=by
 have hw:Region.wanted o (yielded ops a.tmps)=true:=by simp [Region.wanted,hg]
 rw [if_pos hw]
 unfold Oper.wp
 simp [execOp,hop,resolve,invoke,builtin,hd,hx,hr,Result.andThen]
 exact hK
theorem VU (w:World) {ops:Array Oper} {rest:List Oper} {o:Oper} {a:Act} {Q:Exit->Act->World->Prop} (hgd:o.guard=none) (s:Operand) (t:TypeId)
  (ho:o.op=.call { callee:=.builtin .clear,args:=#[s],argTypes:=#[t] }) (v:Value) (hs:a.eval s=v) {v':Value} {w':World}
  (hr:(Builtin.clear_ #[t] o.type #[v]).run P w=.ok v' w') (h:wpList P ops Q rest (a.put o.dst v') w'):wpList P ops Q (o::rest) a w :=
 wpList_plain hgd fun K hK=>by
  unfold Oper.wp execOp
  simp only [ho,resolve,invoke,builtin,Sem.run_bind,Sem.run_pure,Result.andThen_ok,List.map_toArray,List.map_cons,List.map_nil,hs,hr]
  exact hK _ _ h
set_option maxHeartbeats 8000000 in
set_option maxRecDepth 100000 in
theorem dw (L:SlLaysE0.n45 P ρ) (i0:TypeInfo) (size:Nat) (hi:P.info? (ρ.t 23)=some i0) (hz1:i0.size=size) (z23:∀ w,(Go.sizeOf (ρ.t 23)).run P w=.ok size w) (base:Option Addr) (n cap i:Nat) (w:World) (hin:i<=n) (hnc:n<=cap) (hcm:cap<=maxLen) :
  Calls P (ρ.f 45) #[.slice base n cap,.int .i64 i,.int .i64 i] w fun e w'=>e=.returned (.slice base n cap)/\w'=w:=by
 have mixed:=L.mixed; have t0:=L.t0; have a0:=L.a0; have z0:=L.z0; have v0:=L.v0; have t3:=L.t3; have a3:=L.a3; have z3:=L.z3; have v3:=L.v3; have t4:=L.t4; have a4:=L.a4; have z4:=L.z4; have v4:=L.v4; have t22:=L.t22; have a22:=L.a22; have z22:=L.z22; have v22:=L.v22
 obtain ⟨_,_,FG⟩:=L.f45
 go_enter FG,SlBodyN.n45_ntmps ρ
 go_wp2
 all_goals (go_ret; exact ⟨rfl,rfl⟩)
set_option maxHeartbeats 8000000 in
set_option maxRecDepth 100000 in
theorem dx (L:SlLaysE0.n45 P ρ) (i0:TypeInfo) (z:Value) (size bytes:Nat) (hi:P.info? (ρ.t 23)=some i0) (hz0:i0.zero=some z) (hz1:i0.size=size) (hzs:z.cells.size=size) (hzo:∀ v∈z.cells.toList,v.oneCell'=true) (hsz:0<size)
  (z23:∀ w,(Go.sizeOf (ρ.t 23)).run P w=.ok size w) (v23:∀ w,(zeroValue (ρ.t 23)).run P w=.ok z w) (g n cap i j:Nat) (cur:Array Value) (w:World) (hg:w.heap[g]? = some (.cells cur (ρ.t 23) (0,0))) (hcs:cur.size=cap*size) (hij:i<j) (hjn:j<=n) (hnc:n<=cap) (hcm:cap<=maxLen)
  (h1:∀ u∈cur.toList.take (n*size),u.oneCell'=true) :
  Calls P (ρ.f 45) #[.slice (some ⟨g,0,none⟩) n cap,.int .i64 i,.int .i64 j] w fun e w'=>e=.returned (.slice (some ⟨g,0,none⟩) (n-(j-i)) cap) /\
   ∃ cur',w'.heap[g]? = some (.cells cur' (ρ.t 23) (0,0))/\cur'.size=cap*size/\cur'.toList.take ((n-(j-i))*size)=cur.toList.take (i*size)++(cur.toList.take (n*size)).drop (j*size)/\w.grownBy w' (some g):=by
 have mixed:=L.mixed; have t0:=L.t0; have a0:=L.a0; have z0:=L.z0; have v0:=L.v0; have t3:=L.t3; have a3:=L.a3; have z3:=L.z3; have v3:=L.v3; have t4:=L.t4; have a4:=L.a4; have z4:=L.z4; have v4:=L.v4; have t22:=L.t22; have a22:=L.a22; have z22:=L.z22; have v22:=L.v22
 have hcm':cap<=9223372036854775807:=hcm
 have hij1:¬ ((i:Int)=(j:Int)):=by omega
 have hb1:(i:Int)<=(j:Int):=by omega
 have hb2:¬ (cap=0):=by omega
 have hb3:(j:Int)<=(n:Int):=by omega
 have hb4:¬ (cap=i):=by omega
 have e4:j*size<=n*size:=Nat.mul_le_mul_right size hjn
 have e5:n*size<=cur.size:=by rw [hcs]; exact Nat.mul_le_mul_right size hnc
 have e6:i*size<=j*size:=Nat.mul_le_mul_right size (by omega)
 have e3:(n-j)*size=n*size-j*size:=Nat.sub_mul n j size
 have e7:(i+(n-j))*size=i*size+(n-j)*size:=Nat.add_mul _ _ size
 have hln:cur.toList.length=cur.size:=Array.length_toList
 have lm:((cur.toList.take (n*size)).drop (j*size)).length=(n-j)*size:=by rw [List.length_drop,List.length_take,hln,e3]; omega
 have hap:∀ (A:Addr) (c:Nat),(A=(⟨g,j*size,none⟩:Addr)\/n=j)->∀ ty,(Builtin.append_ #[(ρ.t 22),(ρ.t 22)] ty #[.slice (some ⟨g,0,none⟩) i cap,.slice (some A) (n-j) c]).run P w.drew=.ok (.slice (some ⟨g,0,none⟩) (i+(n-j)) cap) (w.drew.setRow g (cur.toList.take (i*size)++(cur.toList.take (n*size)).drop (j*size)++cur.toList.drop (i*size+((cur.toList.take (n*size)).drop (j*size)).length)).toArray):=fun A c hA ty=>by
  have:=run_append_room (P:=P) w.drew (ρ.t 22) ty (ρ.t 23) i0 L.t22 hi g i cap cur hg A (n-j) c ((cur.toList.take (n*size)).drop (j*size)) (by rw [lm,hz1]) (fun k u hk=>by
   have hk2:=(List.getElem?_eq_some_iff.1 hk).1
   rw [lm] at hk2
   rcases hA with rfl | rfl
   ·rw [Addr.add_none]
    have h5:w.drew.cell? ⟨g,j*size+k,none⟩=cur[j*size+k]? := MZ hg
    rw [h5,<- hk,List.getElem?_drop,List.getElem?_take,if_pos (by omega),Array.getElem?_toList]
   ·simp at hk2) (fun u hu=>h1 u (List.mem_of_mem_drop hu)) (by omega) (by rw [lm,hz1,e3]; omega)
  rw [hz1] at this
  exact this
 obtain ⟨cur1,hcur1⟩:∃ c1,c1=(cur.toList.take (i*size)++(cur.toList.take (n*size)).drop (j*size)++cur.toList.drop (i*size+((cur.toList.take (n*size)).drop (j*size)).length)).toArray:=⟨_,rfl⟩
 rw [<- hcur1] at hap
 have hs1:cur1.size=cap*size:=by
  rw [hcur1,List.size_toArray,<- hcs]
  simp only [List.length_append,List.length_take,List.length_drop,hln,lm]
  omega
 have ht1:cur1.toList.take ((i+(n-j))*size)=cur.toList.take (i*size)++(cur.toList.take (n*size)).drop (j*size):=by
  have l3:(cur.toList.take (i*size)++(cur.toList.take (n*size)).drop (j*size)).length=(i+(n-j))*size:=by
   simp only [List.length_append,List.length_take,hln,lm,e7]
   omega
  rw [hcur1]
  exact (congrArg (fun k=>List.take k _) l3.symm).trans (by rw [List.take_left])
 have hg1:(w.drew.setRow g cur1).heap[g]? = some (.cells cur1 (ρ.t 23) (0,0)):=setRow_heap w.drew g cur cur1 (ρ.t 23) _ hg
 obtain ⟨d,hd⟩:∃ d,d=n-(i+(n-j)):=⟨_,rfl⟩
 have hdp:0<d:=by omega
 have e8:(i+(n-j))*size+d*size<=cur1.size:=by rw [hs1,<- Nat.add_mul]; exact Nat.mul_le_mul_right size (by omega)
 have hzc:∀ v∈(Builtin.zeroCells z.cells d).toList,v.oneCell'=true:=by
  intro v hv
  simp only [Builtin.zeroCells,Array.toList_map,List.mem_map] at hv
  obtain ⟨k,_,rfl⟩:=hv
  refine hzo _ ?_
  have hk:k % z.cells.size<z.cells.size:=Nat.mod_lt _ (by omega)
  rw [getElem!_pos z.cells _ hk]
  exact Array.getElem_mem_toList hk
 have hcl:∀ ty c,(Builtin.clear_ #[(ρ.t 22)] ty #[.slice (some ⟨g,(i+(n-j))*size,none⟩) (n-(i+(n-j))) c]).run P (w.drew.setRow g cur1)=.ok (.tuple #[]) ((w.drew.setRow g cur1).setRow g (cur1.toList.take ((i+(n-j))*size)++(Builtin.zeroCells z.cells d).toList++cur1.toList.drop ((i+(n-j))*size+(Builtin.zeroCells z.cells d).toList.length)).toArray):=fun ty c=>by
  rw [<- hd]
  exact ce _ _ (ρ.t 23) ty z L.t22 v23 g _ d c cur1 (ρ.t 23) hg1 hdp (by rw [hzs]; exact e8) hzc
 have lz:(Builtin.zeroCells z.cells d).toList.length=d*size:=by rw [Array.length_toList,size_zeroCells,hzs]
 obtain ⟨cur2,hcur2⟩:∃ c2,c2=(cur1.toList.take ((i+(n-j))*size)++(Builtin.zeroCells z.cells d).toList++cur1.toList.drop ((i+(n-j))*size+(Builtin.zeroCells z.cells d).toList.length)).toArray:=⟨_,rfl⟩
 rw [<- hcur2] at hcl
 have hs2:cur2.size=cap*size:=by
  rw [hcur2,List.size_toArray,<- hs1]
  simp only [List.length_append,List.length_take,List.length_drop,Array.length_toList,lz]
  rw [Array.length_toList] at lz
  omega
 have ht2:cur2.toList.take ((i+(n-j))*size)=cur.toList.take (i*size)++(cur.toList.take (n*size)).drop (j*size):=by
  have l4:(cur1.toList.take ((i+(n-j))*size)).length=(i+(n-j))*size:=by rw [List.length_take,Array.length_toList]; omega
  rw [hcur2,<- ht1,List.append_assoc]
  exact (congrArg (fun k=>List.take k _) l4.symm).trans (by rw [List.take_left])
 have hkn:n-(j-i)=i+(n-j):=by omega
 rw [hkn]
 have hW1s:((w.drew.setRow g cur1).setRow g cur2).heap[g]? = some (.cells cur2 (ρ.t 23) (0,0)):=setRow_heap _ g cur1 cur2 _ _ hg1
 have hgr:w.grownBy ((w.drew.setRow g cur1).setRow g cur2) (some g):=by
  refine ⟨rfl,rfl,rfl,by rw [G6,G6]; exact Nat.le_refl _,fun k hk hne=>?_⟩
  have hk':k≠g:=fun e=>hne (by rw [e])
  rw [setRow_other _ g k _ hk',setRow_other _ g k _ hk']
  rfl
 obtain ⟨W1,hW1⟩:∃ W1,W1=w.drew.setRow g cur1:=⟨_,rfl⟩
 obtain ⟨W2,hW2⟩:∃ W2,W2=W1.setRow g cur2:=⟨_,rfl⟩
 rw [<- hW1,<- hW2] at hcl hW1s hgr
 rw [<- hW1] at hap
 have hb6:¬ (cap=i+(n-j)):=by omega
 have hb7:i+(n-j)<=n:=by omega
 have hb8:i<=cap:=by omega
 clear e3 e4 e5 e6 e7 e8 hcur1 hcur2 lm hW1 hW2 hd hkn hs1 ht1 hg1 lz
 obtain ⟨A,hAe,hAd⟩:∃ A:Addr,(if cap=j then some (⟨g,0,none⟩:Addr) else some ⟨g,j*size,none⟩)=some A/\(A=(⟨g,j*size,none⟩:Addr)\/n=j):=by
  by_cases h:cap=j
  ·exact ⟨⟨g,0,none⟩,by simp [h],.inr (by omega)⟩
  ·exact ⟨⟨g,j*size,none⟩,by simp [h],.inl rfl⟩
 have hap2:=hap A (cap-j) hAd
 clear hap hAd
 obtain ⟨_,_,FG⟩:=L.f45
 go_enter FG,SlBodyN.n45_ntmps ρ
 go_wp2
 go_region_law_o (refine Wr rfl _ _ (ρ.t 22) (ρ.t 22) rfl _ _ (by simp [Act.eval,Act.put]) (by simp [Act.eval,Act.put,hAe]) (hap2 _) ?_)
 go_wp2_with (at_builtin; refine VU _ rfl _ (ρ.t 22) rfl _ rfl (hcl _ _) ?_)
 go_ret
 exact ⟨rfl,cur2,hW1s,hs2,ht2,hgr⟩
theorem gu {K:Kd} (L:SlLaysE0.n45 P ρ) (he:dG P (ρ.t 23) K=true) {xs:List K.T} {i j:Nat} (hij:i<=j) (hj:j<=xs.length) :
  Pn P (ρ.f 45) [.new (ρ.t 23) K xs,.int .i64 i,.int .i64 j] [] [.new (ρ.t 23) K (xs.take i++xs.drop j)]:=by
 obtain ⟨i0,z,hi0,hz,h1,h2,h3,h4⟩:=Oa he
 have hsz:=Kd.sz_pos K
 have z23:∀ w,(Go.sizeOf (ρ.t 23)).run P w=.ok K.sz w:=fun w=>by simp [sizeOf,typeInfo,hi0,h1]
 have v23:∀ w,(zeroValue (ρ.t 23)).run P w=.ok z w:=fun w=>by simp [zeroValue,typeInfo,hi0,hz]
 refine ⟨?_,?_,1,rfl,fun H φ w cargs hs ha=>?_⟩
 ·obtain ⟨nm,hnm,hf⟩:=L.f45
  exact ⟨_,_,hf,hnm,rfl⟩
 ·intro r hr
  simp only [List.mem_singleton] at hr
  subst hr
  rfl
 ·obtain ⟨v0,r0,rfl,hv0,ha⟩:=ha
  obtain ⟨v1,r1,rfl,hv1,ha⟩:=ha
  obtain ⟨v2,r2,rfl,hv2,ha⟩:=ha
  have hr2:r2=[]:=ha
  subst hr2
  have e0:v0=φ 0:=hv0.1
  have e1:v1=.int .i64 i:=hv1
  have e2:v2=.int .i64 j:=hv2
  subst e0 e1 e2
  obtain ⟨flat,ho,hr⟩:=hs.box 0 (.rows (ρ.t 23) K xs) rfl
  have hnew:(xs.take i++xs.drop j).length=xs.length-(j-i):=by simp only [List.length_append,List.length_take,List.length_drop]; omega
  have hstk:BE [] [AV.new (ρ.t 23) K xs,.int .i64 i,.int .i64 j]=[.rows (ρ.t 23) K xs]:=rfl
  by_cases hlt:i=j
  ·subst hlt
   obtain ⟨base,n,cap,e0,hnn,hcap,hcm⟩:∃ base n cap,φ 0=.slice base n cap/\n=xs.length/\n<=cap/\cap<=maxLen:=by
    rcases ho.2 with ⟨e,h⟩ | ⟨g,cap,cur,e,_,_,hc,hm,_⟩
    ·exact ⟨none,0,0,e,h.symm,Nat.le_refl _,Nat.zero_le _⟩
    ·exact ⟨_,_,_,e,rfl,hc,hm⟩
   subst hnn
   rw [e0]
   refine Calls.mono (dw L i0 K.sz hi0 h1 z23 base _ cap i w hj hcap hcm) fun out w' h=>?_
   obtain ⟨rfl,rfl⟩:=h
   refine Yk hstk hs ⟨rfl,rfl,rfl,Nat.le_refl _,fun _ _ _=>rfl⟩ (fun b hb=>.inl (by rw [e0]; exact hb)) (flat:=flat) ?_ ?_
   ·rw [List.take_append_drop,<- e0]; exact ho
   ·rw [List.take_append_drop]; exact hr
  ·obtain ⟨g,cap,cur,e0,_,hg,hc,hcm,hsc,ht⟩:=ho.2.resolve_left (fun h=>by omega)
   rw [e0]
   have hzo:∀ v∈z.cells.toList,v.oneCell'=true:=Rg (h4 H)
   refine Calls.mono (dx L i0 z K.sz i0.bytes hi0 hz h1 h3 hzo hsz z23 v23 g xs.length cap i j cur w hg hsc (by omega) hj hc hcm (by rw [ht]; exact Cr hr ho.1)) fun out w' h=>?_
   obtain ⟨rfl,cur',g1,g2,g3,g4⟩:=h
   have htk:cur.toList.take (i*K.sz)=flat.take (i*K.sz):=by
    rw [<- ht,List.take_take,Nat.min_eq_left (Nat.mul_le_mul_right _ (by omega))]
   have l1:(flat.take (i*K.sz)).length=(xs.take i).length*K.sz:=by
    have h5:=ho.1
    have h7:i*K.sz<=xs.length*K.sz:=Nat.mul_le_mul_right _ (by omega)
    rw [List.length_take,List.length_take,Nat.min_eq_left (show i<=xs.length by omega),h5]; omega
   have l2:(flat.drop (j*K.sz)).length=(xs.drop j).length*K.sz:=by rw [List.length_drop,List.length_drop,ho.1,Nat.sub_mul]
   refine Yk hstk hs (by rw [e0]; exact g4) (fun b hb=>.inl (by rw [e0]; exact hb)) (flat:=flat.take (i*K.sz)++flat.drop (j*K.sz)) ?_ (GA (Xg hr i) l1 (Xh hr j))
   rw [hnew]
   refine ⟨?_,.inr ⟨g,cap,cur',rfl,Nat.zero_le _,g1,by omega,hcm,g2,by rw [g3,htk,ht]⟩⟩
   rw [List.length_append,l1,l2,<- Nat.add_mul,<- hnew,List.length_append]
def i6 (t:TypeId) (K:Kd) (args bs:List AV):Option (List AV) :=
 match args,bs with
 | [.new t1 K1 xs,.int k i,.int k2 j],[]=>if h1:K1=K then (if t1=t/\k=.i64/\k2=.i64/\0<=i/\i<=j/\j<=xs.length then
   some [.new t K ((h1▸xs).take i.toNat++(h1▸xs).drop j.toNat)] else none) else none
 | _,_=>none
theorem kP {t:TypeId} {K:Kd} {xs:List K.T} {i j:Nat} (hi:i<=j) (hj:j<=xs.length):i6 t K [.new t K xs,.int .i64 i,.int .i64 j] []=some [.new t K (xs.take i++xs.drop j)]:=by
 have h0:(0:Int)<=(i:Int):=by omega
 have h1:(i:Int)<=(j:Int):=by omega
 have h2:(j:Int)<=(xs.length:Int):=by omega
 simp only [i6,dif_pos,true_and]
 rw [if_pos ⟨h0,h1,h2⟩,Int.toNat_natCast,Int.toNat_natCast]
theorem kQ {K:Kd} (L:SlLaysE0.n45 P ρ) (he:dG P (ρ.t 23) K=true) {args bs rs:List AV} (h:i6 (ρ.t 23) K args bs=some rs):Pn P (ρ.f 45) args bs rs:=by
 unfold i6 at h
 split at h
 ·split at h
  ·rename_i hk
   subst hk
   split at h
   ·rename_i hc
    obtain ⟨rfl,rfl,rfl,h0,hij,hj⟩:=hc
    cases h
    rename_i i _ j _
    obtain ⟨a,rfl⟩:=Int.eq_ofNat_of_zero_le h0
    obtain ⟨b,rfl⟩:=Int.eq_ofNat_of_zero_le (Int.le_trans h0 hij)
    exact gu L he (by omega) (by omega)
   ·cases h
  ·cases h
 ·cases h
end Go.Proofs.YtokiohnjegbnpaaGreat.Core

namespace Go.Proofs.YtokiohnjegbnpaaGreat.Core
open Go IntKind
set_option maxRecDepth 100000
noncomputable section
def ly:Go.Shelf.Ren:=⟨fun | 41=>74 | n=>n,fun | 22=>30 | 23=>47 | n=>n,fun | n=>n⟩
theorem kR:SlLaysE0.n41 Tryz.prog ly:={
 mixed:=by kernel_rfl
 f41:=⟨Tryz.f74.name,by decide,Tryz.func74.trans (congrArg some (by kernel_rfl))⟩
 t4:=Tryz.underlying4
 a4:=Tryz.isAgg4
 z4:=Tryz.sizeOf4
 v4:=Tryz.zeroValue4
 t22:=Tryz.underlying30
 a22:=Tryz.isAgg30
 z22:=Tryz.sizeOf30
 v22:=Tryz.zeroValue30 }
theorem mV:dG Tryz.prog 47 AF=true:=by kernel_rfl
def l5:Go.Shelf.Ren:=⟨fun | 45=>88 | n=>n,fun | 22=>29 | 23=>97 | n=>n,fun | n=>n⟩
theorem kS:SlLaysE0.n45 Tryz.prog l5:={
 mixed:=by kernel_rfl
 f45:=⟨Tryz.f88.name,by decide,Tryz.func88.trans (congrArg some (by kernel_rfl))⟩
 t0:=Tryz.underlying0
 a0:=Tryz.isAgg0
 z0:=Tryz.sizeOf0
 v0:=Tryz.zeroValue0
 t3:=Tryz.underlying3
 a3:=Tryz.isAgg3
 z3:=Tryz.sizeOf3
 v3:=Tryz.zeroValue3
 t4:=Tryz.underlying4
 a4:=Tryz.isAgg4
 z4:=Tryz.sizeOf4
 v4:=Tryz.zeroValue4
 t22:=Tryz.underlying29
 a22:=Tryz.isAgg29
 z22:=Tryz.sizeOf29
 v22:=Tryz.zeroValue29 }
theorem mW:dG Tryz.prog 97 AO=true:=by kernel_rfl
def l6:Go.Shelf.Ren:=⟨fun | 41=>99 | n=>n,fun | 22=>33 | 23=>3 | n=>n,fun | n=>n⟩
theorem kU:SlLaysE0.n41 Tryz.prog l6:={
 mixed:=by kernel_rfl
 f41:=⟨Tryz.f99.name,by decide,Tryz.func99.trans (congrArg some (by kernel_rfl))⟩
 t4:=Tryz.underlying4
 a4:=Tryz.isAgg4
 z4:=Tryz.sizeOf4
 v4:=Tryz.zeroValue4
 t22:=Tryz.underlying33
 a22:=Tryz.isAgg33
 z22:=Tryz.sizeOf33
 v22:=Tryz.zeroValue33 }
theorem mX:dG Tryz.prog 3 (.int .i64)=true:=by kernel_rfl
def kV:Go.Shelf.Ren:=⟨fun | 41=>104 | n=>n,fun | 22=>36 | 23=>38 | n=>n,fun | n=>n⟩
theorem i7:SlLaysE0.n41 Tryz.prog kV:={
 mixed:=by kernel_rfl
 f41:=⟨Tryz.f104.name,by decide,Tryz.func104.trans (congrArg some (by kernel_rfl))⟩
 t4:=Tryz.underlying4
 a4:=Tryz.isAgg4
 z4:=Tryz.sizeOf4
 v4:=Tryz.zeroValue4
 t22:=Tryz.underlying36
 a22:=Tryz.isAgg36
 z22:=Tryz.sizeOf36
 v22:=Tryz.zeroValue36 }
theorem l7:dG Tryz.prog 38 AL=true:=by kernel_rfl
def kW:Go.Shelf.Ren:=⟨fun | 10=>144 | 6=>163 | n=>n,fun | 22=>33 | 23=>3 | 25=>69 | n=>n,fun | n=>n⟩
theorem i8:SlLaysH.n10 Tryz.prog kW:={
 mixed:=by kernel_rfl
 f6:=⟨Tryz.f163.name,by decide,Tryz.func163.trans (congrArg some (by kernel_rfl))⟩
 f10:=⟨Tryz.f144.name,by decide,Tryz.func144.trans (congrArg some (by kernel_rfl))⟩
 t0:=Tryz.underlying0
 a0:=Tryz.isAgg0
 z0:=Tryz.sizeOf0
 v0:=Tryz.zeroValue0
 t3:=Tryz.underlying3
 a3:=Tryz.isAgg3
 z3:=Tryz.sizeOf3
 v3:=Tryz.zeroValue3
 t4:=Tryz.underlying4
 a4:=Tryz.isAgg4
 z4:=Tryz.sizeOf4
 v4:=Tryz.zeroValue4
 t22:=Tryz.underlying33
 a22:=Tryz.isAgg33
 z22:=Tryz.sizeOf33
 v22:=Tryz.zeroValue33
 a23:=Tryz.isAgg3
 z23:=Tryz.sizeOf3
 t25:=Tryz.underlying69
 a25:=Tryz.isAgg69
 z25:=Tryz.sizeOf69
 v25:=Tryz.zeroValue69 }
theorem i9:lx Tryz.prog 145:=⟨enters_of Tryz.func145 (by kernel_rfl) rfl,fun n x b o W hc=>by
 go_enter Tryz.func145,Tryz.ntmps145
 go_wp2
 all_goals (go_ret; exact ⟨by simp_all,0,rfl⟩)⟩
def kX:Go.Shelf.Ren:=⟨fun | 106=>161 | 213=>170 | 265=>174 | n=>n,fun | n=>n,fun | n=>n⟩
theorem i_:Lays.n106 Tryz.prog kX:={
 mixed:=by kernel_rfl
 f106:=Tryz.func161.trans (congrArg some (by kernel_rfl))
 f213:=Tryz.func170.trans (congrArg some (by kernel_rfl))
 f265:=Tryz.func174.trans (congrArg some (by kernel_rfl))
 t3:=Tryz.underlying3
 a3:=Tryz.isAgg3
 z3:=Tryz.sizeOf3
 v3:=Tryz.zeroValue3
 t9:=Tryz.underlying9
 a9:=Tryz.isAgg9
 z9:=Tryz.sizeOf9
 v9:=Tryz.zeroValue9 }
def kY:Go.Shelf.Ren:=⟨fun | 22=>162 | 29=>171 | 30=>172 | n=>n,fun | 24=>36 | 9=>38 | n=>n,fun | n=>n⟩
theorem jA:gp Tryz.prog kY:={
 mixed:=by kernel_rfl
 f22:=⟨Tryz.f162.name,by decide,Tryz.func162.trans (congrArg some (by kernel_rfl))⟩
 ov:=fun args w=>run_callFunc_extern Tryz.func171 (by kernel_rfl) (by kernel_rfl) (by kernel_rfl) (by kernel_rfl) args w
 t3:=Tryz.underlying3
 a3:=Tryz.isAgg3
 z3:=Tryz.sizeOf3
 v3:=Tryz.zeroValue3
 t4:=Tryz.underlying4
 a4:=Tryz.isAgg4
 z4:=Tryz.sizeOf4
 v4:=Tryz.zeroValue4
 t24:=Tryz.underlying36
 a24:=Tryz.isAgg36
 z24:=Tryz.sizeOf36
 v24:=Tryz.zeroValue36 }
theorem l8:dG Tryz.prog 38 AL=true:=by kernel_rfl

def mY:List (Nat×CC):=[(8,AU),(9,Pj),(11,Ar),(13,Ee),(15,B2),(17,MU),(19,DJ),(21,CG),(24,MV),(27,BO),(29,CY),(31,CQ),(33,DK),(34,Cy),(35,FD),(36,Fk),(37,Kl),(38,Aw),(43,Km),(44,JE),(45,B9),(46,DR),(47,Em),(48,Kn),(51,En),(52,MW),(55,GU),(57,C3),(58,Aa),(61,JF),(62,Hq),(65,Bd),(66,Cg),(67,EE),(68,G4),(69,Fl),(70,B_),(71,E9),(72,Nw),(73,Eo),(75,GV),(76,JG),(87,MX),(89,FE),(90,B4),(91,BC),(92,JH),(95,BQ),(100,DL),(101,Ep),(102,AP),(103,ET),(109,Dw),(110,Bq),(111,AT),(113,CH),(114,D5),(115,Bj),(116,EU),(117,DA),(118,BW),(119,GW),(120,Dx),(131,DB),(132,BH),(133,JK),(134,Cx),(135,Cj),(137,AQ),(138,Hr),(139,DS),(148,AN),(154,JM),(158,CR),(159,AA),(160,G5),(169,Hs)]
def fns (f:Nat):Option CC:=kL f mY
theorem mt:ig Tryz.prog fns:=gh (.cons TH <| .cons en <| .cons Xy <| .cons Xz <| .cons aX <| .cons cO <| .cons cQ <| .cons cR <| .cons cS <| .cons Wk <| .cons cU <| .cons VM <| .cons aY <| .cons X0 <| .cons ZO <| .cons T5 <| .cons aZ <| .cons Wl <| .cons aa <| .cons ZP <| .cons T6 <| .cons ZQ <| .cons R1 <| .cons ae <| .cons R2 <| .cons cV <| .cons VN <| .cons NV <| .cons ID <| .cons ZR <| .cons X1 <| .cons ZS <| .cons Wm <| .cons Wn <| .cons cW <| .cons T7 <| .cons T8 <| .cons TI <| .cons dp <| .cons R4 <| .cons VO <| .cons ZT <| .cons cX <| .cons ZU <| .cons VP <| .cons F3 <| .cons ZV <| .cons Pk <| .cons cY <| .cons cZ <| .cons Fm <| .cons RF <| .cons ca <| .cons T9 <| .cons Gi <| .cons Pl <| .cons af <| .cons SA <| .cons RG <| .cons T_ <| .cons RH <| .cons VQ <| .cons Pm <| .cons UA <| .cons RI <| .cons ZW <| .cons TJ <| .cons SB <| .cons MY <| .cons X2 <| .cons ZX <| .cons Iv <| .cons ZY <| .cons VR <| .cons Dy <| .cons Wo <| .cons X3 .nil)
def prims:E4:=fun f args bs=>if f=74 then ZZ 47 AF args bs else if f=88 then i6 97 AO args bs else if f=99 then ZZ 3 (.int .i64) args bs else if f=104 then ZZ 38 AL args bs else if f=144 then dv 3 145 args bs else if f=161 then lw args bs else if f=162 then iz 38 AL args bs else none
theorem kZ:HM Tryz.prog prims:=fun f args bs rs h=>by
 unfold prims at h
 split at h
 ·rename_i e; subst e; exact Zb kR mV h
 split at h
 ·rename_i e; subst e; exact kQ kS mW h
 split at h
 ·rename_i e; subst e; exact Zb kU mX h
 split at h
 ·rename_i e; subst e; exact Zb i7 l7 h
 split at h
 ·rename_i e; subst e; exact i5 i8 Tryz.zeroValue3 i9 h
 split at h
 ·rename_i e; subst e; exact kO i_ h
 split at h
 ·rename_i e; subst e; exact kN jA l8 h
 cases h
abbrev cP:E4:=cD fns prims
def cG {ρ:Type} (c:AH) (kn kr:St->Option ρ) (ke:Nat->St->Option ρ):St->Option ρ:=FB cP Ic c kn kr ke
def lG {ρ:Type} (c:AH) (hs:List (Nat×Nat)) (l:List Nat) (n:Nat) (kr:St->Option ρ) (ke:Nat->St->Option ρ):St->Option ρ:=Ic fun go s'=>FB cP Ic c (fun s''=>go (s''.cutH hs l n)) kr ke s'
def kJ {ρ:Type} (c:AH) (hs:List (Nat×Nat)) (l:List Nat) (n:Nat) (kn kr:St->Option ρ) (ke:Nat->St->Option ρ):St->Option ρ:=fun s=>cG c kn kr ke (s.cutH hs l n)
def kB {ρ:Type} (hs:List (Nat×Nat)) (l:List Nat) (n:Nat) (kn:St->Option ρ):St->Option ρ:=fun s=>kn (s.cutH hs l n)
def kE {ρ:Type} (b:Nat) (hs:List (Nat×Nat)) (l:List Nat) (n:Nat) (kn:St->Option ρ) (ke:Nat->St->Option ρ):Nat->St->Option ρ:=fun i s=>if i=b then kn (s.cutH hs l n) else ke i s
def kx {ρ:Type}:Nat->St->Option ρ:=fun _ _=>none
def cF (f:Nat) (a:CC) (x b:List AV):Option (RT a.outs):=(cP f x b).bind (CN a.outs)
theorem cT (a:CC) {f:Nat} {x b:List AV} {t:Option (RT a.outs)} {r:RT a.outs} (hf:fns f=some a) (hl:x.length=a.params.length/\b.length=(DO a.params 0).length) (e:ir cP a x b=t) (h:t=some r):cF f a x b=some r:=eZ hf hl (e.trans h)
theorem jS {ρ:Type} {t w:Option ρ} {r:ρ} (e:w=t) (h:t=some r):w=some r:=e.trans h
theorem lS {ρ:Type} {c:AH} {hs:List (Nat×Nat)} {l:List Nat} {n:Nat} {kr:St->Option ρ} {ke:Nat->St->Option ρ} {s:St} {t:Option ρ} {r:ρ} (e:FB cP Ic c (fun s=>lG c hs l n kr ke (s.cutH hs l n)) kr ke s=t) (h:t=some r):lG c hs l n kr ke s=some r:=ge (e.trans h)
def L7 (x0:List Int):Option Bool:=cF 8 AU [.lst (.int .u8) x0] []
def UB (x0:List Int):Option Bool:=cF 9 Pj [.lst (.int .u8) x0] []
def Ht (x0:List (List Int)) (x1:List Ay):Option (AM×List Int×Bool):=cF 11 Ar [.lst (.slice (.int .i64)) x0,.lst Am x1] []
def Ef (x0:O):Option Bool:=cF 13 Ee [.agg (U.enc x0)] []
def OK (x0:List Z):Option Bool:=cF 15 B2 [.lst AF x0] []
def Cs (x0:Z):Option Int:=cF 17 MU [.agg (AF.enc x0)] []
def Po (x0:List Z):Option Bool:=cF 19 DJ [.lst AF x0] []
def Pp (x0:List Z):Option Bool:=cF 21 CG [.lst AF x0] []
def Pq (x0:AM):Option Bool:=cF 24 MV [.agg (DI.enc x0)] []
def KO (x0:AM):Option Bool:=cF 27 BO [.agg (DI.enc x0)] []
def Pr (x0:AM):Option Bool:=cF 29 CY [.agg (DI.enc x0)] []
def JN (x0:List Int):Option (List Int):=cF 31 CQ [.lst (.int .u8) x0] []
def OL (x0:List Int):Option Dg:=cF 33 DK [.lst (.int .u8) x0] []
def LW (x0:List (List Int)):Option (AM×Bool):=cF 34 Cy [.lst (.slice (.int .i64)) x0] []
def M2 (x0:Ay):Option Bool:=cF 35 FD [.agg (Am.enc x0)] []
def Fn (x1:Ay) (x2:Int) (b0:AM):Option (Bool×AM):=cF 36 Fk [.ptr 0 0,.agg (Am.enc x1),.int .i64 x2] [.agg (AY.enc b0)]
def OM (x0:Bool):Option Int:=cF 37 Kl [.bool x0] []
def G7 (x0:AM):Option AM:=cF 38 Aw [.agg (DI.enc x0)] []
def D_ (x0:Int):Option Bool:=cF 43 Km [.int .i64 x0] []
def AW (x0 x1 x2:Int):Option Bool:=cF 44 JE [.int .i64 x0,.int .i64 x1,.int .i64 x2] []
def Fo (x0:List Int) (x1 x2:Int):Option Bool:=cF 45 B9 [.lst (.int .i64) x0,.int .i64 x1,.int .i64 x2] []
def EK (x0:List AD):Option Bool:=cF 46 DR [.lst AL x0] []
def Ck (b0:O):Option (Bool×O):=cF 47 Em [.ptr 0 0] [.agg (U.enc b0)]
def DM (x0:Z):Option Bool:=cF 48 Kn [.agg (AF.enc x0)] []
def Gj (x1 x2:Int) (b0:AM):Option AM:=cF 51 En [.ptr 0 0,.int .i64 x1,.int .i64 x2] [.agg (AY.enc b0)]
def Ps (x0:List Z) (x1:Z):Option Bool:=cF 52 MW [.lst AF x0,.agg (AF.enc x1)] []
def GX (x1:Int) (b0:AM):Option (List Int×AM):=cF 55 GU [.ptr 0 0,.int .i64 x1] [.agg (DI.enc b0)]
def Bn (x0:List Int) (x1:Int):Option Bool:=cF 57 C3 [.lst (.int .i64) x0,.int .i64 x1] []
def Cc (x0 x1:List AD):Option Bool:=cF 58 Aa [.lst AL x0,.lst AL x1] []
def DU (b0:Dg):Option (Int×Dg):=cF 61 JF [.ptr 0 0] [.agg (Ha.enc b0)]
def LX (x1:Int) (b0:Dg):Option (Int×Dg):=cF 62 Hq [.ptr 0 0,.int .i64 x1] [.agg (Ha.enc b0)]
def DV (x0:List (List Int)):Option Bool:=cF 65 Bd [.lst (.slice (.int .i64)) x0] []
def G8 (x0:List (List Int)):Option (List (List Int)):=cF 66 Cg [.lst (.slice (.int .i64)) x0] []
def KP (x0:Int) (x1:List (List Int)):Option (O×Bool):=cF 67 EE [.int .i64 x0,.lst (.slice (.int .i64)) x1] []
def JO (x0 x1:Int) (x2 x3:ByteArray):Option Bool:=cF 68 G4 [.int .i64 x0,.int .i64 x1,.str x2,.str x3] []
def IG (x1:Ay) (x2:Int) (b0:AM):Option (Bool×AM):=cF 69 Fl [.ptr 0 0,.agg (Am.enc x1),.int .i64 x2] [.agg (AY.enc b0)]
def IH (x1:Ay) (x2:Int) (b0:AM):Option (Bool×AM):=cF 70 B_ [.ptr 0 0,.agg (Am.enc x1),.int .i64 x2] [.agg (AY.enc b0)]
def BY (x1:Int) (b0:AM):Option (Int×AM):=cF 71 E9 [.ptr 0 0,.int .i64 x1] [.agg (AY.enc b0)]
def Ny (x0:O):Option O:=cF 72 Nw [.agg (U.enc x0)] []
def Gk (x1:Ay) (x2:Int) (b0:AM):Option (Bool×AM):=cF 73 Eo [.ptr 0 0,.agg (Am.enc x1),.int .i64 x2] [.agg (AY.enc b0)]
def CS (x0:O):Option O:=cF 75 GV [.agg (U.enc x0)] []
def FM (x0:AB):Option AB:=cF 76 JG [.agg (AO.enc x0)] []
def Ma (x0:ByteArray):Option Bool:=cF 87 MX [.str x0] []
def JP (x0:O) (x1:List (List Int)) (x2:AB):Option (O×List AB×List B3):=cF 89 FE [.agg (U.enc x0),.lst (.slice (.int .i64)) x1,.agg (AO.enc x2)] []
def Er (x1:List AB) (x2:List B3) (x3:Int) (b0:AM):Option AM:=cF 90 B4 [.ptr 0 0,.lst AO x1,.lst Ff x2,.int .i64 x3] [.agg (AY.enc b0)]
def By (x0:List Z) (x1:Z):Option Bool:=cF 91 BC [.lst AF x0,.clo 92 AF x1] []
def M3 (x0 x1:Z):Option Bool:=cF 92 JH [.agg (AF.enc x0),.fptr [.int .i64 x1.1,.str x1.2.1,.str x1.2.2.1,.int .i64 x1.2.2.2.1,.int .i64 x1.2.2.2.2.1,.int .i64 x1.2.2.2.2.2.1,.int .i64 x1.2.2.2.2.2.2.1,.int .i64 x1.2.2.2.2.2.2.2.1,.str x1.2.2.2.2.2.2.2.2] 0] []
def Ct (x0:List Int) (x1:Int):Option Int:=cF 95 BQ [.lst (.int .i64) x0,.int .i64 x1] []
def Mb (x0:O) (x1:List (List Int)) (x2 x3:Int) (x4 x5:ByteArray):Option (O×List AB×List B3×Bool):=cF 100 DL [.agg (U.enc x0),.lst (.slice (.int .i64)) x1,.int .i64 x2,.int .i64 x3,.str x4,.str x5] []
def Mc (x0:O) (x1:List (List Int)) (x2:Int):Option (O×List AB×Bool):=cF 101 Ep [.agg (U.enc x0),.lst (.slice (.int .i64)) x1,.int .i64 x2] []
def Br (x0:List O) (x1:Int):Option Int:=cF 102 AP [.lst U x0,.clo 103 (.int .i64) x1] []
def GH (x0:O) (x1:Int):Option Bool:=cF 103 ET [.agg (U.enc x0),.fptr [.int .i64 x1] 0] []
def Pt (x0:AB):Option Bool:=cF 109 Dw [.agg (AO.enc x0)] []
def II (x1:List (List Int)) (x2:AB) (b0:O):Option (List AB×List B3×O):=cF 110 Bq [.ptr 0 0,.lst (.slice (.int .i64)) x1,.agg (AO.enc x2)] [.agg (U.enc b0)]
def CA (x0:List Z) (x1:Z):Option Int:=cF 111 AT [.lst AF x0,.clo 92 AF x1] []
def Fp (x1:List (List Int)) (b0:O):Option (Bool×O):=cF 113 CH [.ptr 0 0,.lst (.slice (.int .i64)) x1] [.agg (U.enc b0)]
def Ko (x0:List AD) (x1:ByteArray):Option AD:=cF 114 D5 [.lst AL x0,.str x1] []
def Bk (x1:List Int) (b0:O):Option (List Int×O):=cF 115 Bj [.ptr 0 0,.lst (.int .i64) x1] [.agg (U.enc b0)]
def CU (b0:List Int):Option (List Int):=cF 116 EU [.row 0] [.new 3 (.int .i64) b0]
def Fq (b0:O):Option (List B3×O):=cF 117 DA [.ptr 0 0] [.agg (U.enc b0)]
def Ac (x1:List Int) (x2:AB) (b0:O):Option (List AB×O):=cF 118 BW [.ptr 0 0,.lst (.int .i64) x1,.agg (AO.enc x2)] [.agg (U.enc b0)]
def Es (b0:O):Option O:=cF 119 GW [.ptr 0 0] [.agg (U.enc b0)]
def Cu (x1:List Int) (x2:List AD) (b0:O):Option (List AB×O):=cF 120 Dx [.ptr 0 0,.lst (.int .i64) x1,.lst AL x2] [.agg (U.enc b0)]
def IJ (x1:List (List Int)) (x2:AB) (b0:O):Option (List AB×O):=cF 131 DB [.ptr 0 0,.lst (.slice (.int .i64)) x1,.agg (AO.enc x2)] [.agg (U.enc b0)]
def GI (x1:List Int) (x2:AB) (b0:O):Option (List AB×O):=cF 132 BH [.ptr 0 0,.lst (.int .i64) x1,.agg (AO.enc x2)] [.agg (U.enc b0)]
def JQ (x0:List Int) (x1:Int):Option (List Int):=cF 133 JK [.lst (.int .i64) x0,.int .i64 x1] []
def HO (x1:AB) (b0:O):Option (List AB×O):=cF 134 Cx [.ptr 0 0,.agg (AO.enc x1)] [.agg (U.enc b0)]
def Et (x1:Int) (x2:AB) (b0:O):Option (List B3×O):=cF 135 Cj [.ptr 0 0,.int .i64 x1,.agg (AO.enc x2)] [.agg (U.enc b0)]
def B5 (x1 x2 x3:Int) (b0:List Int):Option (List Int):=cF 137 AQ [.row 0,.int .i64 x1,.int .i64 x2,.int .i64 x3] [.new 3 (.int .i64) b0]
def LY (x0:Int):Option Int:=cF 138 Hr [.int .u64 x0] []
def JR (x0:List AD) (x1:AD):Option (List AD):=cF 139 DS [.lst AL x0,.agg (AL.enc x1)] []
def Co (x1 x2:Int) (b0:List Int):Option (List Int):=cF 148 AN [.row 0,.int .i64 x1,.int .i64 x2] [.new 3 (.int .i64) b0]
def JS (x0 x1:Int):Option Bool:=cF 154 JM [.int .i64 x0,.int .i64 x1] []
def JT (x0:Int):Option Int:=cF 158 CR [.int .u64 x0] []
def BA (x0:List AD) (x1:ByteArray) (x2:Unit):Option (Int×Bool):=cF 159 AA [.lst AL x0,.str x1,.fn 160 []] []
def G9 (x0:AD) (x1:ByteArray):Option Int:=cF 160 G5 [.agg (AL.enc x0),.str x1] []
def Hu (x0:Int):Option Bool:=cF 169 Hs [.int .i64 x0] []
def Cd (q0:List Z):Option (List Z):=(cP 74 [.lst AF q0] []).bind (CN [(.own 47 AF)])
def BK (q0:List AB) (q1 q2:Int):Option (List AB):=(cP 88 [.new 97 AO q0,.int .i64 q1,.int .i64 q2] []).bind (CN [(.own 97 AO)])
def BR (q0:List Int):Option (List Int):=(cP 99 [.lst (.int .i64) q0] []).bind (CN [(.own 3 (.int .i64))])
def Ab (q0:List AD):Option (List AD):=(cP 104 [.lst AL q0] []).bind (CN [(.own 38 AL)])
def Dz (q0:List Int) (q1:Int):Option (List Int):=(cP 144 [.new 3 (.int .i64) q0,.clo 145 (.int .i64) q1] []).bind (CN [(.own 3 (.int .i64))])
def LZ (q0 q1:Int) (q2:List Int):Option (List Int):=(cP 149 [.row 0,.int .i64 q0,.int .i64 q1] [.new 3 (.int .i64) q2]).bind (CN [(.own 3 (.int .i64))])
def Iw (q0 q1:Int) (q2:List Int):Option (List Int):=(cP 150 [.row 0,.int .i64 q0,.int .i64 q1] [.new 3 (.int .i64) q2]).bind (CN [(.own 3 (.int .i64))])
def Jr (q0 q1:Int) (q2:List Int):Option (Int×Int×List Int):=(cP 151 [.row 0,.int .i64 q0,.int .i64 q1] [.new 3 (.int .i64) q2]).bind (CN [(.int .i64),(.int .i64),(.own 3 (.int .i64))])
def JU (q0 q1:Int) (q2:List Int):Option (List Int):=(cP 152 [.row 0,.int .i64 q0,.int .i64 q1] [.new 3 (.int .i64) q2]).bind (CN [(.own 3 (.int .i64))])
def GJ (q0 q1:Int) (q2:List Int):Option (Bool×List Int):=(cP 153 [.row 0,.int .i64 q0,.int .i64 q1] [.new 3 (.int .i64) q2]).bind (CN [.bool,(.own 3 (.int .i64))])
def IK (q0 q1 q2:Int) (q3:List Int):Option (Int×List Int):=(cP 155 [.row 0,.int .i64 q0,.int .i64 q1,.int .i64 q2] [.new 3 (.int .i64) q3]).bind (CN [(.int .i64),(.own 3 (.int .i64))])
def K9 (q0 q1 q2:Int) (q3:List Int):Option (Int×Bool×List Int):=(cP 156 [.row 0,.int .i64 q0,.int .i64 q1,.int .i64 q2] [.new 3 (.int .i64) q3]).bind (CN [(.int .i64),.bool,(.own 3 (.int .i64))])
def CV (q0:List AD) (q1:Int) (q2:List AD):Option (List AD):=(cP 162 [.new 38 AL q0,.int .i64 q1,.new 38 AL q2] []).bind (CN [(.own 38 AL)])
def JV (q0 q1:ByteArray):Option Int:=(cP 161 [.str q0,.str q1] []).bind (CN [(.int .i64)])
theorem IL {x0:List Z} (h:x0.length<=68719476736):Cd x0=some x0:=by
 unfold Cd cP
 rw [KM (r:=[.new 47 AF x0]) rfl (Za (t:=47) (K:=AF) (xs:=x0) h)]
 rfl
theorem Eb {x0:List AB} {i j:Nat} (hi:i<=j) (hj:j<=x0.length):BK x0 (i:Int) (j:Int)=some (x0.take i++x0.drop j):=by
 unfold BK cP
 rw [KM (r:=[.new 97 AO (x0.take i++x0.drop j)]) rfl (kP (t:=97) (K:=AO) (xs:=x0) hi hj)]
 rfl
theorem CI {x0:List Int} (h:x0.length<=68719476736):BR x0=some x0:=by
 unfold BR cP
 rw [KM (r:=[.new 3 (.int .i64) x0]) rfl (Za (t:=3) (K:=(.int .i64)) (xs:=x0) h)]
 rfl
theorem Ap {x0:List AD} (h:x0.length<=68719476736):Ab x0=some x0:=by
 unfold Ab cP
 rw [KM (r:=[.new 38 AL x0]) rfl (Za (t:=38) (K:=AL) (xs:=x0) h)]
 rfl
theorem Md {x0:List Int} {x1:Int}:Dz x0 x1=some (x0.filter fun x=>!(x==x1)):=by
 unfold Dz cP
 rw [KM (fns:=fns) (prims:=prims) (f:=144) (args:=[.new 3 (.int .i64) x0,.clo 145 (.int .i64) x1]) (bs:=[]) (r:=[.new 3 (.int .i64) (x0.filter fun x=>!(x==x1))]) rfl (i4 (t:=3) (g:=145) (xs:=x0) (n:=x1))]
 rfl
theorem VV {x0 x1:ByteArray}:JV x0 x1=some (Go.Lib.compareBytes x0.data.toList x1.data.toList):=by
 unfold JV cP
 rw [KM (r:=[.int .i64 (Go.Lib.compareBytes x0.data.toList x1.data.toList)]) rfl rfl]
 rfl
theorem Hg {x0:List AD} {i:Nat} {x2:List AD} (h:x0.length+x2.length<=68719476736) (hi:i<=x0.length) (hv:x2.length≠0):CV x0 (i:Int) x2=some (x0.take i++x2++x0.drop i):=by
 unfold CV cP
 rw [KM (r:=[.new 38 AL (x0.take i++x2++x0.drop i)]) rfl (kM (t:=38) (K:=AL) (xs:=x0) (vs:=x2) (i:=i) h hi hv)]
 rfl

def RJ:=cG Fi (AK AU) (AK AU) kx
def RK:=kE 2 [(5,1),(7,2),(8,3),(9,4)] [5,7,8,9] 5 RJ kx
def Pu:St->Option (RT (CC.outs AU)):=lG JD [(5,1),(7,2),(8,3),(9,4)] [5,7,8,9,10] 5 (AK AU) RK
def RL:=cG Fj (AK AU) (AK AU) kx
def GK:=kE 0 [(4,0),(5,1)] [4,5] 2 RL kx
def JW:St->Option (RT (CC.outs AU)):=lG Jv [(4,0),(5,1)] [3,4,5,6] 2 (AK AU) GK
def RM:=kB [(4,0),(5,1)] [3,4,5,6] 2 JW
def J6:=cG Ju RM (AK AU) GK
def RN:=kB [(4,0),(5,1)] [3,4,5,6] 2 J6
def RO:=kE 1 [(4,0),(5,1)] [3,4,5,6] 2 J6 GK
def Cv (x0:List Int) (x1:Int) (x2 x3:List Int):Option Bool:=cG Jt RN (AK AU) RO ⟨[(3,.lst (.int .i64) x0),(4,.row 0),(5,.row 1),(6,.int .i64 x1)],[.rows 3 (.int .i64) x2,.rows 3 (.int .i64) x3]⟩
def D0 (x0 x1:List Int) (x2:List (List Int)) (x3 x4:List Ay):Option Bool:=cG Fi (AK AU) (AK AU) kx ⟨[(5,.row 1),(7,.row 2),(8,.row 3),(9,.row 4)],[.frz (.int .i64) x0,.frz (.int .i64) x1,.rows 33 (.slice (.int .i64)) x2,.rows 55 Am x3,.rows 55 Am x4]⟩
def D1 (x0:Int) (x1 x2:List Int) (x3:List (List Int)) (x4 x5:List Ay):Option Bool:=Pu ⟨[(5,.row 1),(7,.row 2),(8,.row 3),(9,.row 4),(10,.int .i64 x0)],[.frz (.int .i64) x1,.frz (.int .i64) x2,.rows 33 (.slice (.int .i64)) x3,.rows 55 Am x4,.rows 55 Am x5]⟩
def Fs (x0 x1:List Int):Option Bool:=cG Fj (AK AU) (AK AU) kx ⟨[(4,.row 0),(5,.row 1)],[.rows 3 (.int .i64) x0,.rows 3 (.int .i64) x1]⟩
def Bs (x0:List Int) (x1:Int) (x2 x3:List Int):Option Bool:=JW ⟨[(3,.lst (.int .i64) x0),(4,.row 0),(5,.row 1),(6,.int .i64 x1)],[.rows 3 (.int .i64) x2,.rows 3 (.int .i64) x3]⟩
def JX (x0:List Int) (x1:Int) (x2 x3:List Int):Option Bool:=(if 0<=(0:Int) then (if 0<(x3.length:Int) then (if (x1 != (x3.getD ((0:Int).toNat) 0))=true then (if 0<=(i64.wrap (5+x1)) then (if (i64.wrap (5+x1))<(x0.length:Int) then (if 2=0 then none else (if ((Int.tmod (x0.getD (i64.wrap (5+x1)).toNat 0) 2)==0)=true then (if x3.length+([x1]:List Int).length<=68719476736 then (Bs x0 (i64.wrap (x1+1)) x2 (x3++([x1]:List Int))) else none) else (Bs x0 (i64.wrap (x1+1)) x2 x3))) else none) else none) else (Bs x0 (i64.wrap (x1+1)) x2 x3)) else none) else none)
def JY (x0 x1:List Int) (x2:List (List Int)) (x3 x4:List Ay):Option Bool:=(if x3.length+x4.length<=68719476736 then (if 0<=(0:Int) then (if 0<(x1.length:Int) then (if (x3++x4).length+([(5,(x1.getD ((0:Int).toNat) 0),0,0,ByteArray.empty,ByteArray.empty)]:List Ay).length<=68719476736 then (if ((x3++x4)++([(5,(x1.getD ((0:Int).toNat) 0),0,0,ByteArray.empty,ByteArray.empty)]:List Ay)).length+x4.length<=68719476736 then (if 0<=(0:Int) then (if 0<(x1.length:Int) then (if (((x3++x4)++([(5,(x1.getD ((0:Int).toNat) 0),0,0,ByteArray.empty,ByteArray.empty)]:List Ay))++x4).length+([(1,(x1.getD ((0:Int).toNat) 0),0,2,(⟨#[97]⟩:ByteArray),ByteArray.empty)]:List Ay).length<=68719476736 then (if ((((x3++x4)++([(5,(x1.getD ((0:Int).toNat) 0),0,0,ByteArray.empty,ByteArray.empty)]:List Ay))++x4)++([(1,(x1.getD ((0:Int).toNat) 0),0,2,(⟨#[97]⟩:ByteArray),ByteArray.empty)]:List Ay)).length+x4.length<=68719476736 then ((Ht x2 (((((x3++x4)++([(5,(x1.getD ((0:Int).toNat) 0),0,0,ByteArray.empty,ByteArray.empty)]:List Ay))++x4)++([(1,(x1.getD ((0:Int).toNat) 0),0,2,(⟨#[97]⟩:ByteArray),ByteArray.empty)]:List Ay))++x4)).bind fun y3=>(if y3.2.2=true then (if ((y3.1.2.2.2.length:Int)==2)=true then (if 0<=(0:Int) then (if 0<(y3.1.2.2.2.length:Int) then (if (decide (((((((y3.1.2.2.2.getD (0:Int).toNat (0,ByteArray.empty,ByteArray.empty,0,0,0,0,0,ByteArray.empty)).2).2).2).2).1)>=0))=true then (if 0<=(1:Int) then (if 1<(y3.1.2.2.2.length:Int) then (if (decide (((((((y3.1.2.2.2.getD (1:Int).toNat (0,ByteArray.empty,ByteArray.empty,0,0,0,0,0,ByteArray.empty)).2).2).2).2).1)>=0))=true then (if 0<=(1:Int) then (if 1<(y3.1.2.2.2.length:Int) then (if ((((((((((y3.1.2.2.2.getD (1:Int).toNat (0,ByteArray.empty,ByteArray.empty,0,0,0,0,0,ByteArray.empty)).2).2).2).2).2).2).2).2).toList==(⟨#[111,110,101]⟩:ByteArray).toList)=true then (if 0<=(1:Int) then (if 1<(y3.1.2.2.2.length:Int) then (if ((((((((y3.1.2.2.2.getD (1:Int).toNat (0,ByteArray.empty,ByteArray.empty,0,0,0,0,0,ByteArray.empty)).2).2).2).2).2).1)==1001)=true then (if 0<=(1:Int) then (if 1<(y3.1.2.2.2.length:Int) then (if (((((((((y3.1.2.2.2.getD (1:Int).toNat (0,ByteArray.empty,ByteArray.empty,0,0,0,0,0,ByteArray.empty)).2).2).2).2).2).2).1)==2)=true then ((Pq y3.1).bind fun y4=>(if y4=true then (some ((y3.1.2.2.1.length:Int)==0)) else (some false))) else (some false)) else none) else none) else (some false)) else none) else none) else (some false)) else none) else none) else (some false)) else none) else none) else (some false)) else none) else none) else (some false)) else (some false))) else none) else none) else none) else none) else none) else none) else none) else none) else none)
def Ft (x0:Int) (x1 x2:List Int) (x3:List (List Int)) (x4 x5:List Ay):Option Bool:=(if (decide (x0<10))=true then (if x5.length+([(2,1,0,0,ByteArray.empty,ByteArray.empty)]:List Ay).length<=68719476736 then (D1 (i64.wrap (x0+1)) x1 x2 x3 x4 (x5++([(2,1,0,0,ByteArray.empty,ByteArray.empty)]:List Ay))) else none) else (D0 x1 x2 x3 x4 x5))
def JZ (x0 x1:List Int):Option Bool:=(if 0<=(0:Int) then (if 0<(x0.length:Int) then (D1 0 x0 x1 ([x0,x1]:List (List Int)) ([(1,(x0.getD ((0:Int).toNat) 0),0,1,(⟨#[97]⟩:ByteArray),(⟨#[111,110,101]⟩:ByteArray))]:List Ay) ([]:List Ay)) else none) else none)
def Fu (x0:List Int) (x1:Int) (x2 x3:List Int):Option Bool:=(if (decide (x1<=3))=true then (if 0<=(0:Int) then (if 0<(x2.length:Int) then (if (x1 != (x2.getD ((0:Int).toNat) 0))=true then (if 0<=(i64.wrap (2+x1)) then (if (i64.wrap (2+x1))<(x0.length:Int) then (if 2=0 then none else (if ((Int.tmod (x0.getD (i64.wrap (2+x1)).toNat 0) 2)==0)=true then (if x2.length+([x1]:List Int).length<=68719476736 then (Cv x0 x1 (x2++([x1]:List Int)) x3) else none) else (Cv x0 x1 x2 x3))) else none) else none) else (Cv x0 x1 x2 x3)) else none) else none) else (Fs x2 x3))
def L8 (x0:List Int):Option Bool:=((UB x0).bind fun y1=>(if y1=true then (some true) else ((JN x0).bind fun y2=>(if 0<=(0:Int) then (if 0<(y2.length:Int) then (if 3=0 then none else (if 0<=(1:Int) then (if 1<(y2.length:Int) then (if 3=0 then none else (Bs y2 1 ([(i64.wrap (1+(Int.tmod (y2.getD (0:Int).toNat 0) 3)))]:List Int) ([(i64.wrap (1+(Int.tmod (y2.getD (1:Int).toNat 0) 3)))]:List Int))) else none) else none)) else none) else none))))
theorem Pv:aW JX Cv:=jS (by kernel_rfl)
theorem Pw:lr JY D0:=jS (by kernel_rfl)
theorem Ja:ja Ft D1:=lS (by kernel_rfl)
theorem Px:VK JZ Fs:=jS (by kernel_rfl)
theorem Jb:aW Fu Bs:=lS (by kernel_rfl)
theorem TK:S6 L8 L7:=cT AU rfl ⟨rfl,rfl⟩ (by kernel_rfl)
def ew (x0:List Int):Option Bool:=(some (decide ((x0.length:Int)>1048576)))
theorem e_:S6 ew UB:=cT Pj rfl ⟨rfl,rfl⟩ (by kernel_rfl)
def VX:=cG Mu (AK Ar) (AK Ar) kx
def VY:=kE 2 [(11,11)] [4,7,11] 12 VX kx
def UC:St->Option (RT (CC.outs Ar)):=lG Mt [(11,11)] [4,7,11,39,40,41] 12 (AK Ar) VY
def VZ:=cG IC (AK Ar) (AK Ar) kx
def Va:=kE 0 [] [1,4,7] 11 VZ kx
def UD:St->Option (RT (CC.outs Ar)):=lG Nk [] [1,4,7,28,29,30] 11 (AK Ar) Va
def EL (x0:List Ay) (x1 x2:Int) (x3:List O) (x4:List AB) (x5:List Z) (x6:List (List Int)) (x7:List O) (x8:List AB) (x9:List Z) (x10:List (List Int)) (x11:List Int):Option (AM×List Int×Bool):=UC ⟨[(4,.ptr 3 0),(7,.ptr 10 0),(11,.row 11),(39,.lst Am x0),(40,.int .i64 x1),(41,.int .i64 x2)],[.rows 42 U x3,.rows 97 AO x4,.rows 47 AF x5,.var [.lst (.slice (.int .i64)) x6,.row 0,.row 1,.row 2],.dead,.dead,.dead,.rows 42 U x7,.rows 97 AO x8,.rows 47 AF x9,.var [.lst (.slice (.int .i64)) x10,.row 7,.row 8,.row 9],.rows 3 (.int .i64) x11]⟩
def M4 (x0:List Ay) (x1:List O) (x2:List AB) (x3:List Z) (x4:List (List Int)) (x5:List O) (x6:List AB) (x7:List Z) (x8:List (List Int)):Option (AM×List Int×Bool):=cG IC (AK Ar) (AK Ar) kx ⟨[(1,.lst Am x0),(4,.ptr 3 0),(7,.ptr 10 0)],[.rows 42 U x1,.rows 97 AO x2,.rows 47 AF x3,.var [.lst (.slice (.int .i64)) x4,.row 0,.row 1,.row 2],.dead,.dead,.dead,.rows 42 U x5,.rows 97 AO x6,.rows 47 AF x7,.var [.lst (.slice (.int .i64)) x8,.row 7,.row 8,.row 9]]⟩
def EM (x0 x1:List Ay) (x2 x3:Int) (x4:List O) (x5:List AB) (x6:List Z) (x7:List (List Int)) (x8:List O) (x9:List AB) (x10:List Z) (x11:List (List Int)):Option (AM×List Int×Bool):=UD ⟨[(1,.lst Am x0),(4,.ptr 3 0),(7,.ptr 10 0),(28,.lst Am x1),(29,.int .i64 x2),(30,.int .i64 x3)],[.rows 42 U x4,.rows 97 AO x5,.rows 47 AF x6,.var [.lst (.slice (.int .i64)) x7,.row 0,.row 1,.row 2],.dead,.dead,.dead,.rows 42 U x8,.rows 97 AO x9,.rows 47 AF x10,.var [.lst (.slice (.int .i64)) x11,.row 7,.row 8,.row 9]]⟩
def M5 (x0:List Ay) (x1:Bool) (x2:List O) (x3:List AB) (x4:List Z) (x5:List (List Int)) (x6:List O) (x7:List AB) (x8:List Z) (x9:List (List Int)):Option (AM×List Int×Bool):=cG Mv (AK Ar) (AK Ar) kx ⟨[(1,.lst Am x0),(4,.ptr 3 0),(7,.ptr 10 0),(26,.bool x1)],[.rows 42 U x2,.rows 97 AO x3,.rows 47 AF x4,.var [.lst (.slice (.int .i64)) x5,.row 0,.row 1,.row 2],.dead,.dead,.dead,.rows 42 U x6,.rows 97 AO x7,.rows 47 AF x8,.var [.lst (.slice (.int .i64)) x9,.row 7,.row 8,.row 9]]⟩
def IM (x0:List Ay) (x1 x2:Int) (x3:List O) (x4:List AB) (x5:List Z) (x6:List (List Int)) (x7:List O) (x8:List AB) (x9:List Z) (x10:List (List Int)) (x11:List Int):Option (AM×List Int×Bool):=(if (decide (x2<x1))=true then (if 0<=x2 then (if x2<(x0.length:Int) then ((Fn (x0.getD x2.toNat (0,0,0,0,ByteArray.empty,ByteArray.empty)) x2 (x10,x7,x8,x9)).bind fun y3=>((OM y3.1).bind fun y4=>(if x11.length+([y4]:List Int).length<=68719476736 then (EL x0 x1 (i64.wrap (x2+1)) x3 x4 x5 x6 y3.2.2.1 y3.2.2.2.1 y3.2.2.2.2 y3.2.1 (x11++([y4]:List Int))) else none))) else none) else none) else ((G7 (x10,x7,x8,x9)).bind fun y5=>(some (y5,x11,true))))
def M6 (x0:List Ay) (x1:List O) (x2:List AB) (x3:List Z) (x4:List (List Int)) (x5:List O) (x6:List AB) (x7:List Z) (x8:List (List Int)):Option (AM×List Int×Bool):=(EL x0 (x0.length:Int) 0 x1 x2 x3 x4 x5 x6 x7 x8 ([]:List Int))
def IN (x0 x1:List Ay) (x2 x3:Int) (x4:List O) (x5:List AB) (x6:List Z) (x7:List (List Int)) (x8:List O) (x9:List AB) (x10:List Z) (x11:List (List Int)):Option (AM×List Int×Bool):=(if (decide (x3<x2))=true then (if 0<=x3 then (if x3<(x1.length:Int) then ((M2 (x1.getD x3.toNat (0,0,0,0,ByteArray.empty,ByteArray.empty))).bind fun y2=>(if (!y2)=true then (some (([],([]:List O),([]:List AB),([]:List Z)),[],false)) else (EM x0 x1 x2 (i64.wrap (x3+1)) x4 x5 x6 x7 x8 x9 x10 x11))) else none) else none) else (M4 x0 x4 x5 x6 x7 x8 x9 x10 x11))
def M7 (x0:List Ay) (x1:Bool) (x2:List O) (x3:List AB) (x4:List Z) (x5:List (List Int)) (x6:List O) (x7:List AB) (x8:List Z) (x9:List (List Int)):Option (AM×List Int×Bool):=(EM x0 x0 (x0.length:Int) 0 x2 x3 x4 x5 x6 x7 x8 x9)
def Qj (x0:List (List Int)) (x1:List Ay):Option (AM×List Int×Bool):=((LW x0).bind fun y1=>(if (!y1.2)=false then (if (decide ((x1.length:Int)>70))=true then (some (([],([]:List O),([]:List AB),([]:List Z)),[],false)) else (M5 x1 (decide ((x1.length:Int)>70)) ([]:List O) ([]:List AB) ([]:List Z) ([]:List (List Int)) y1.1.2.1 y1.1.2.2.1 y1.1.2.2.2 y1.1.1)) else (some (([],([]:List O),([]:List AB),([]:List Z)),[],false))))
theorem M8:lu IM EL:=lS (by kernel_rfl)
theorem UE:mT M6 M4:=jS (by kernel_rfl)
theorem M9:lu IN EM:=lS (by kernel_rfl)
theorem UF:gj M7 M5:=jS (by kernel_rfl)
theorem X4:VK Qj Ht:=cT Ar rfl ⟨rfl,rfl⟩ (by kernel_rfl)
def IP (x0:Bool) (x1:O):Option Bool:=cG Nl (AK Ee) (AK Ee) kx ⟨[(1,.ptr 0 0),(30,.bool x0)],[.var (U.enc x1)]⟩
def M_ (x0:Bool) (x1:O):Option Bool:=(if x1.2.2.2.2.2.1=true then (if (!x1.2.2.2.1)=false then (if (!x1.2.2.2.2.1)=false then (if (decide ((x1.2.2.2.2.2.2.1.length:Int)>0))=false then (if x1.2.2.1=true then (if x1.2.2.2.1=false then (if x1.2.2.2.2.1=true then (some false) else ((Ck x1).bind fun y6=>(some y6.1))) else (some false)) else ((Ck x1).bind fun y7=>(some y7.1))) else (some false)) else (some false)) else (some false)) else (if x1.2.2.1=true then (if x1.2.2.2.1=false then (if x1.2.2.2.2.1=true then (some false) else ((Ck x1).bind fun y8=>(some y8.1))) else (some false)) else ((Ck x1).bind fun y9=>(some y9.1))))
def Qk (x0:O):Option Bool:=((D_ x0.1).bind fun y1=>(if (!y1)=false then ((AW x0.2.1 1 9).bind fun y2=>(if (!y2)=false then ((Fo x0.2.2.2.2.2.2.1 1 6).bind fun y3=>(if (!y3)=false then ((EK x0.2.2.2.2.2.2.2.1).bind fun y4=>(if (!y4)=false then ((AW x0.2.2.2.2.2.2.2.2.1 0 900).bind fun y5=>(if (!y5)=true then (some false) else (IP (!y5) x0))) else (some false))) else (some false))) else (some false))) else (some false)))
theorem UG:VK M_ IP:=jS (by kernel_rfl)
theorem X5:S6 Qk Ef:=cT Ee rfl ⟨rfl,rfl⟩ (by kernel_rfl)
def X6:=cG Ok (AK B2) (AK B2) kx
def La:=kE 0 [] [] 0 X6 kx
def Ou:St->Option (RT (CC.outs B2)):=lG Oj [] [0,7,8,9] 0 (AK B2) La
def X7:=kB [] [0,7,8,9] 0 Ou
def Ql:=cG Oi X7 (AK B2) La
def X8:=kB [] [0,7,8,9] 0 Ql
def X9:=kE 1 [] [0,7,8,9] 0 Ql La
def Lb:=kE 2 [] [0,7,8,9] 1 X8 X9
def Ov:St->Option (RT (CC.outs B2)):=lG QH [] [0,3,4,7,8,9,14,15,16] 1 (AK B2) Lb
def X_:=kB [] [0,3,4,7,8,9,14,15,16] 1 Ov
def Qm:=cG QG X_ (AK B2) Lb
def YA:=kB [] [0,3,4,7,8,9,14,15,16] 1 Qm
def Ws:=kE 3 [] [0,3,4,7,8,9,14,15,16] 1 Qm Lb
def KQ (x0:List Z) (x1:Int) (x2:List Z) (x3 x4:Int) (x5:List Z) (x6 x7:Int) (x8:Bool) (x9 x10:Z):Option Bool:=cG QF YA (AK B2) Ws ⟨[(0,.lst AF x0),(3,.int .i64 x1),(4,.ptr 0 0),(6,.ptr 1 0),(7,.lst AF x2),(8,.int .i64 x3),(9,.int .i64 x4),(14,.lst AF x5),(15,.int .i64 x6),(16,.int .i64 x7),(33,.bool x8)],[.var (AF.enc x9),.var (AF.enc x10)]⟩
def Cl (x0:List Z) (x1:Int) (x2:List Z) (x3 x4:Int) (x5:List Z) (x6 x7:Int) (x8:Z):Option Bool:=Ov ⟨[(0,.lst AF x0),(3,.int .i64 x1),(4,.ptr 0 0),(7,.lst AF x2),(8,.int .i64 x3),(9,.int .i64 x4),(14,.lst AF x5),(15,.int .i64 x6),(16,.int .i64 x7)],[.var (AF.enc x8)]⟩
def G_ (x0 x1:List Z) (x2 x3:Int):Option Bool:=Ou ⟨[(0,.lst AF x0),(7,.lst AF x1),(8,.int .i64 x2),(9,.int .i64 x3)],[]⟩
def Ow (x0:List Z) (x1:Int) (x2:List Z) (x3 x4:Int) (x5:List Z) (x6 x7:Int) (x8:Bool) (x9 x10:Z):Option Bool:=((Cs x9).bind fun y3=>((Cs x10).bind fun y4=>(if (y3==y4)=true then (some false) else (if (decide (x9.2.2.2.2.1<x10.2.2.2.1))=true then ((Cs x9).bind fun y5=>((Cs x10).bind fun y6=>(if (decide (y5>y6))=true then (some false) else (Cl x0 x1 x2 x3 x4 x5 x6 (i64.wrap (x7+1)) x9)))) else (Cl x0 x1 x2 x3 x4 x5 x6 (i64.wrap (x7+1)) x9)))))
def KR (x0:List Z) (x1:Int) (x2:List Z) (x3 x4:Int) (x5:List Z) (x6 x7:Int) (x8:Z):Option Bool:=(if (decide (x7<x6))=true then (if 0<=x7 then (if x7<(x5.length:Int) then (if (x1==x7)=false then ((DM x8).bind fun y1=>(if (!y1)=false then ((DM (x5.getD x7.toNat (0,ByteArray.empty,ByteArray.empty,0,0,0,0,0,ByteArray.empty))).bind fun y2=>(if (!y2)=true then (Cl x0 x1 x2 x3 x4 x5 x6 (i64.wrap (x7+1)) x8) else (KQ x0 x1 x2 x3 x4 x5 x6 x7 (!y2) x8 (x5.getD x7.toNat (0,ByteArray.empty,ByteArray.empty,0,0,0,0,0,ByteArray.empty))))) else (Cl x0 x1 x2 x3 x4 x5 x6 (i64.wrap (x7+1)) x8))) else (Cl x0 x1 x2 x3 x4 x5 x6 (i64.wrap (x7+1)) x8)) else none) else none) else (G_ x0 x2 x3 (i64.wrap (x4+1))))
def KS (x0 x1:List Z) (x2 x3:Int):Option Bool:=(if (decide (x3<x2))=true then (if 0<=x3 then (if x3<(x1.length:Int) then (Cl x0 x3 x1 x2 x3 x0 (x0.length:Int) 0 (x1.getD x3.toNat (0,ByteArray.empty,ByteArray.empty,0,0,0,0,0,ByteArray.empty))) else none) else none) else (some true))
def Tj (x0:List Z):Option Bool:=(G_ x0 x0 (x0.length:Int) 0)
theorem Wt:mr Ow KQ:=jS (by kernel_rfl)
theorem Ox:mT KR Cl:=lS (by kernel_rfl)
theorem Oy:aW KS G_:=lS (by kernel_rfl)
theorem ag:S6 Tj OK:=cT B2 rfl ⟨rfl,rfl⟩ (by kernel_rfl)
def Vb (x0:Z):Option Int:=((AW x0.2.2.2.2.2.2.1 0 9).bind fun y1=>(if (!y1)=false then ((AW x0.2.2.2.2.2.2.2.1 0 999).bind fun y2=>(if (!y2)=true then (some 0) else (some (i64.wrap ((i64.wrap (1000*x0.2.2.2.2.2.2.1))+x0.2.2.2.2.2.2.2.1))))) else (some 0)))
theorem cf:S6 Vb Cs:=cT MU rfl ⟨rfl,rfl⟩ (by kernel_rfl)
def Zc:=cG QJ (AK DJ) (AK DJ) kx
def NA:=kE 0 [] [] 0 Zc kx
def Qn:St->Option (RT (CC.outs DJ)):=lG QI [] [0,5,6,7] 0 (AK DJ) NA
def Zd:=kB [] [0,5,6,7] 0 Qn
def SC:=cG Ry Zd (AK DJ) NA
def Ze:=kB [] [0,5,6,7] 0 SC
def Zf:=kE 1 [] [0,5,6,7] 0 SC NA
def Lc (x0 x1:List Z) (x2 x3:Int) (x4:Bool) (x5:Z):Option Bool:=cG Rx Ze (AK DJ) Zf ⟨[(0,.lst AF x0),(4,.ptr 0 0),(5,.lst AF x1),(6,.int .i64 x2),(7,.int .i64 x3),(18,.bool x4)],[.var (AF.enc x5)]⟩
def Dc (x0 x1:List Z) (x2 x3:Int):Option Bool:=Qn ⟨[(0,.lst AF x0),(5,.lst AF x1),(6,.int .i64 x2),(7,.int .i64 x3)],[]⟩
def Qo (x0 x1:List Z) (x2 x3:Int) (x4:Bool) (x5:Z):Option Bool:=(if (x5.2.2.2.2.2.1==0)=true then (if (!(x5.2.2.2.2.2.2.2.2.toList==(⟨#[]⟩:ByteArray).toList))=true then (some false) else (Dc x0 x1 x2 (i64.wrap (x3+1)))) else ((Ps x0 x5).bind fun y2=>(if (!y2)=true then (some false) else ((Cs x5).bind fun y3=>(if (decide (x5.2.2.2.2.2.1>y3))=true then (some false) else (Dc x0 x1 x2 (i64.wrap (x3+1))))))))
def Ld (x0 x1:List Z) (x2 x3:Int):Option Bool:=(if (decide (x3<x2))=true then (if 0<=x3 then (if x3<(x1.length:Int) then (if (((x1.getD x3.toNat (0,ByteArray.empty,ByteArray.empty,0,0,0,0,0,ByteArray.empty)).1) != 2)=false then ((DM (x1.getD x3.toNat (0,ByteArray.empty,ByteArray.empty,0,0,0,0,0,ByteArray.empty))).bind fun y1=>(if (!y1)=true then (Dc x0 x1 x2 (i64.wrap (x3+1))) else (Lc x0 x1 x2 x3 (!y1) (x1.getD x3.toNat (0,ByteArray.empty,ByteArray.empty,0,0,0,0,0,ByteArray.empty))))) else (Dc x0 x1 x2 (i64.wrap (x3+1)))) else none) else none) else (some true))
def Vc (x0:List Z):Option Bool:=(Dc x0 x0 (x0.length:Int) 0)
theorem YB:ja Qo Lc:=jS (by kernel_rfl)
theorem Qp:aW Ld Dc:=lS (by kernel_rfl)
theorem cg:S6 Vc Po:=cT DJ rfl ⟨rfl,rfl⟩ (by kernel_rfl)
def Zg:=cG QS (AK CG) (AK CG) kx
def NB:=kE 0 [] [] 0 Zg kx
def Qq:St->Option (RT (CC.outs CG)):=lG QR [] [0,8,9,10] 0 (AK CG) NB
def Zh:=kB [] [0,8,9,10] 0 Qq
def SD:=cG QQ Zh (AK CG) NB
def Zi:=kB [] [0,8,9,10] 0 SD
def Zj:=kE 1 [] [0,8,9,10] 0 SD NB
def NC:=kE 2 [] [0,8,9,10] 1 Zi Zj
def Qr:St->Option (RT (CC.outs CG)):=lG QP [] [0,4,8,9,10,22,23,24] 1 (AK CG) NC
def Zk:=kB [] [0,4,8,9,10,22,23,24] 1 Qr
def SE:=cG QO Zk (AK CG) NC
def Zl:=kB [] [0,4,8,9,10,22,23,24] 1 SE
def YC:=kE 3 [] [0,4,8,9,10,22,23,24] 1 SE NC
def CD (x0:List Z) (x1:Bool) (x2:List Z) (x3 x4:Int) (x5:List Z) (x6 x7:Int) (x8 x9:Z):Option Bool:=cG QN Zl (AK CG) YC ⟨[(0,.lst AF x0),(4,.ptr 0 0),(6,.ptr 1 0),(7,.bool x1),(8,.lst AF x2),(9,.int .i64 x3),(10,.int .i64 x4),(22,.lst AF x5),(23,.int .i64 x6),(24,.int .i64 x7)],[.var (AF.enc x8),.var (AF.enc x9)]⟩
def F4 (x0 x1:List Z) (x2 x3:Int) (x4:List Z) (x5 x6:Int) (x7:Z):Option Bool:=Qr ⟨[(0,.lst AF x0),(4,.ptr 0 0),(8,.lst AF x1),(9,.int .i64 x2),(10,.int .i64 x3),(22,.lst AF x4),(23,.int .i64 x5),(24,.int .i64 x6)],[.var (AF.enc x7)]⟩
def Eg (x0 x1:List Z) (x2 x3:Int):Option Bool:=Qq ⟨[(0,.lst AF x0),(8,.lst AF x1),(9,.int .i64 x2),(10,.int .i64 x3)],[]⟩
def Qs (x0:List Z) (x1:Bool) (x2:List Z) (x3 x4:Int) (x5:List Z) (x6 x7:Int) (x8 x9:Z):Option Bool:=(if x1=true then (if (decide (x8.2.2.2.2.2.1<x9.2.2.2.2.2.1))=true then (some false) else (F4 x0 x2 x3 x4 x5 x6 (i64.wrap (x7+1)) x8)) else (F4 x0 x2 x3 x4 x5 x6 (i64.wrap (x7+1)) x8))
def Le (x0 x1:List Z) (x2 x3:Int) (x4:List Z) (x5 x6:Int) (x7:Z):Option Bool:=(if (decide (x6<x5))=true then (if 0<=x6 then (if x6<(x4.length:Int) then (if (((x4.getD x6.toNat (0,ByteArray.empty,ByteArray.empty,0,0,0,0,0,ByteArray.empty)).1)==1)=true then (if ((((x4.getD x6.toNat (0,ByteArray.empty,ByteArray.empty,0,0,0,0,0,ByteArray.empty)).2).1).toList==x7.2.1.toList)=true then ((DM (x4.getD x6.toNat (0,ByteArray.empty,ByteArray.empty,0,0,0,0,0,ByteArray.empty))).bind fun y2=>(if y2=true then ((Cs (x4.getD x6.toNat (0,ByteArray.empty,ByteArray.empty,0,0,0,0,0,ByteArray.empty))).bind fun y3=>((Cs x7).bind fun y4=>(CD x0 (decide (y3<y4)) x1 x2 x3 x4 x5 x6 x7 (x4.getD x6.toNat (0,ByteArray.empty,ByteArray.empty,0,0,0,0,0,ByteArray.empty))))) else (CD x0 false x1 x2 x3 x4 x5 x6 x7 (x4.getD x6.toNat (0,ByteArray.empty,ByteArray.empty,0,0,0,0,0,ByteArray.empty))))) else (CD x0 false x1 x2 x3 x4 x5 x6 x7 (x4.getD x6.toNat (0,ByteArray.empty,ByteArray.empty,0,0,0,0,0,ByteArray.empty)))) else (if (((x4.getD x6.toNat (0,ByteArray.empty,ByteArray.empty,0,0,0,0,0,ByteArray.empty)).1)==2)=true then (if ((((x4.getD x6.toNat (0,ByteArray.empty,ByteArray.empty,0,0,0,0,0,ByteArray.empty)).2).1).toList==x7.2.1.toList)=true then ((DM (x4.getD x6.toNat (0,ByteArray.empty,ByteArray.empty,0,0,0,0,0,ByteArray.empty))).bind fun y5=>(if y5=true then ((Cs (x4.getD x6.toNat (0,ByteArray.empty,ByteArray.empty,0,0,0,0,0,ByteArray.empty))).bind fun y6=>((Cs x7).bind fun y7=>(CD x0 (decide (y6<y7)) x1 x2 x3 x4 x5 x6 x7 (x4.getD x6.toNat (0,ByteArray.empty,ByteArray.empty,0,0,0,0,0,ByteArray.empty))))) else (CD x0 false x1 x2 x3 x4 x5 x6 x7 (x4.getD x6.toNat (0,ByteArray.empty,ByteArray.empty,0,0,0,0,0,ByteArray.empty))))) else (CD x0 false x1 x2 x3 x4 x5 x6 x7 (x4.getD x6.toNat (0,ByteArray.empty,ByteArray.empty,0,0,0,0,0,ByteArray.empty)))) else (CD x0 false x1 x2 x3 x4 x5 x6 x7 (x4.getD x6.toNat (0,ByteArray.empty,ByteArray.empty,0,0,0,0,0,ByteArray.empty))))) else none) else none) else (Eg x0 x1 x2 (i64.wrap (x3+1))))
def Lf (x0 x1:List Z) (x2 x3:Int):Option Bool:=(if (decide (x3<x2))=true then (if 0<=x3 then (if x3<(x1.length:Int) then (if (((x1.getD x3.toNat (0,ByteArray.empty,ByteArray.empty,0,0,0,0,0,ByteArray.empty)).1) != 2)=false then ((DM (x1.getD x3.toNat (0,ByteArray.empty,ByteArray.empty,0,0,0,0,0,ByteArray.empty))).bind fun y1=>(if (!y1)=true then (Eg x0 x1 x2 (i64.wrap (x3+1))) else (F4 x0 x1 x2 x3 x0 (x0.length:Int) 0 (x1.getD x3.toNat (0,ByteArray.empty,ByteArray.empty,0,0,0,0,0,ByteArray.empty))))) else (Eg x0 x1 x2 (i64.wrap (x3+1)))) else none) else none) else (some true))
def Vd (x0:List Z):Option Bool:=(Eg x0 x0 (x0.length:Int) 0)
theorem YD:gj Qs CD:=jS (by kernel_rfl)
theorem Qt:lE Le F4:=lS (by kernel_rfl)
theorem Qu:aW Lf Eg:=lS (by kernel_rfl)
theorem ci:S6 Vd Pp:=cT CG rfl ⟨rfl,rfl⟩ (by kernel_rfl)
def Ve (x0:AM):Option Bool:=((OK x0.2.2.2).bind fun y1=>(if y1=true then ((Po x0.2.2.2).bind fun y2=>(if y2=true then ((Pp x0.2.2.2).bind fun y3=>(if y3=true then ((KO x0).bind fun y4=>(if y4=true then ((Pr x0).bind fun y5=>(some y5)) else (some false))) else (some false))) else (some false))) else (some false)))
theorem cj:S6 Ve Pq:=cT MV rfl ⟨rfl,rfl⟩ (by kernel_rfl)
def UH:=cG Lv (AK BO) (AK BO) kx
def IQ:=kE 0 [] [] 1 UH kx
def L9:St->Option (RT (CC.outs BO)):=lG Lu [] [1,9,10,11] 1 (AK BO) IQ
def UI:=kB [] [1,9,10,11] 1 L9
def ND:=cG Lt UI (AK BO) IQ
def NE:=kB [] [1,9,10,11] 1 ND
def NF:=kE 1 [] [1,9,10,11] 1 ND IQ
def UJ:=kE 2 [] [1,9,10,11] 2 NE NF
def TL:St->Option (RT (CC.outs BO)):=lG Mw [] [1,4,9,10,11,36,37,38] 2 (AK BO) UJ
def Dj (x0:List O) (x1 x2:Int) (x3:List O) (x4 x5:Int) (x6:AM) (x7:O):Option Bool:=TL ⟨[(1,.ptr 0 0),(4,.ptr 1 0),(9,.lst U x0),(10,.int .i64 x1),(11,.int .i64 x2),(36,.lst U x3),(37,.int .i64 x4),(38,.int .i64 x5)],[.var (DI.enc x6),.var (U.enc x7)]⟩
def HQ (x0:Int) (x1:List O) (x2 x3:Int) (x4:Bool) (x5:AM) (x6:O):Option Bool:=cG Mx NE (AK BO) NF ⟨[(1,.ptr 0 0),(3,.int .i64 x0),(4,.ptr 1 0),(9,.lst U x1),(10,.int .i64 x2),(11,.int .i64 x3),(32,.bool x4)],[.var (DI.enc x5),.var (U.enc x6)]⟩
def Dk (x0:List O) (x1 x2:Int) (x3:List (List Int)) (x4:List O) (x5:List AB) (x6:List Z):Option Bool:=L9 ⟨[(1,.ptr 0 0),(9,.lst U x0),(10,.int .i64 x1),(11,.int .i64 x2)],[.var [.lst (.slice (.int .i64)) x3,.lst U x4,.lst AO x5,.lst AF x6]]⟩
def HR (x0:List O) (x1 x2:Int) (x3:List O) (x4 x5:Int) (x6:AM) (x7:O):Option Bool:=(if (decide (x5<x4))=true then (if 0<=x5 then (if x5<(x3.length:Int) then (if (((((((x3.getD x5.toNat (0,0,false,false,false,false,([]:List Int),([]:List AD),0,0,0,0,(ByteArray.empty,ByteArray.empty,0),([]:List Int))).2).2).2).2).2).1)=true then (if ((((x3.getD x5.toNat (0,0,false,false,false,false,([]:List Int),([]:List AD),0,0,0,0,(ByteArray.empty,ByteArray.empty,0),([]:List Int))).2).1)==x7.2.1)=true then (some false) else (Dj x0 x1 x2 x3 x4 (i64.wrap (x5+1)) x6 x7)) else (Dj x0 x1 x2 x3 x4 (i64.wrap (x5+1)) x6 x7)) else none) else none) else (Dk x0 x1 (i64.wrap (x2+1)) x6.1 x6.2.1 x6.2.2.1 x6.2.2.2))
def L_ (x0:Int) (x1:List O) (x2 x3:Int) (x4:Bool) (x5:AM) (x6:O):Option Bool:=(if 0<=(0:Int) then (if 0<=x0 then (if x0<=(x5.2.1.length:Int) then (Dj x1 x2 x3 ((x5.2.1.take x0.toNat).drop (0:Int).toNat) (((x5.2.1.take x0.toNat).drop (0:Int).toNat).length:Int) 0 x5 x6) else none) else none) else none)
def HS (x0:List O) (x1 x2:Int) (x3:List (List Int)) (x4:List O) (x5:List AB) (x6:List Z):Option Bool:=(if (decide (x2<x1))=true then (if 0<=x2 then (if x2<(x0.length:Int) then (if (!(((((((x0.getD x2.toNat (0,0,false,false,false,false,([]:List Int),([]:List AD),0,0,0,0,(ByteArray.empty,ByteArray.empty,0),([]:List Int))).2).2).2).2).2).1))=true then (Dk x0 x1 (i64.wrap (x2+1)) x3 x4 x5 x6) else ((GX (((x0.getD x2.toNat (0,0,false,false,false,false,([]:List Int),([]:List AD),0,0,0,0,(ByteArray.empty,ByteArray.empty,0),([]:List Int))).2).1) (x3,x4,x5,x6)).bind fun y1=>(if ((y1.1.length:Int)==0)=true then (some false) else (if 0<=(0:Int) then (if 0<(y1.1.length:Int) then (if ((y1.1.getD (0:Int).toNat 0) != ((x0.getD x2.toNat (0,0,false,false,false,false,([]:List Int),([]:List AD),0,0,0,0,(ByteArray.empty,ByteArray.empty,0),([]:List Int))).1))=true then (some false) else (HQ x2 x0 x1 x2 ((y1.1.getD (0:Int).toNat 0) != ((x0.getD x2.toNat (0,0,false,false,false,false,([]:List Int),([]:List AD),0,0,0,0,(ByteArray.empty,ByteArray.empty,0),([]:List Int))).1)) y1.2 (x0.getD x2.toNat (0,0,false,false,false,false,([]:List Int),([]:List AD),0,0,0,0,(ByteArray.empty,ByteArray.empty,0),([]:List Int))))) else none) else none)))) else none) else none) else (some true))
def Oz (x0:AM):Option Bool:=(Dk x0.2.1 (x0.2.1.length:Int) 0 x0.1 x0.2.1 x0.2.2.1 x0.2.2.2)
theorem MA:lE HR Dj:=lS (by kernel_rfl)
theorem TM:mS L_ HQ:=jS (by kernel_rfl)
theorem MB:mS HS Dk:=lS (by kernel_rfl)
theorem Wu:S6 Oz KO:=cT BO rfl ⟨rfl,rfl⟩ (by kernel_rfl)
def Zm:=cG QV (AK CY) (AK CY) kx
def NG:=kE 0 [] [] 1 Zm kx
def Qv:St->Option (RT (CC.outs CY)):=lG QU [] [1,9,10,11] 1 (AK CY) NG
def Zn:=kB [] [1,9,10,11] 1 Qv
def SF:=cG QT Zn (AK CY) NG
def SG:=kB [] [1,9,10,11] 1 SF
def SH:=kE 1 [] [1,9,10,11] 1 SF NG
def Zo:=kE 2 [] [1,9,10,11] 2 SG SH
def YE:St->Option (RT (CC.outs CY)):=lG Rz [] [1,3,4,5,9,10,11,29,30,31] 2 (AK CY) Zo
def CZ (x0:Int) (x1:List Int) (x2:List O) (x3 x4:Int) (x5:List O) (x6 x7:Int) (x8:AM) (x9:O):Option Bool:=YE ⟨[(1,.ptr 0 0),(3,.int .i64 x0),(4,.ptr 1 0),(5,.lst (.int .i64) x1),(9,.lst U x2),(10,.int .i64 x3),(11,.int .i64 x4),(29,.lst U x5),(30,.int .i64 x6),(31,.int .i64 x7)],[.var (DI.enc x8),.var (U.enc x9)]⟩
def Lg (x0:Int) (x1:List O) (x2 x3:Int) (x4:Bool) (x5:List (List Int)) (x6:List O) (x7:List AB) (x8:List Z) (x9:O):Option Bool:=cG R0 SG (AK CY) SH ⟨[(1,.ptr 0 0),(3,.int .i64 x0),(4,.ptr 1 0),(9,.lst U x1),(10,.int .i64 x2),(11,.int .i64 x3),(24,.bool x4)],[.var [.lst (.slice (.int .i64)) x5,.lst U x6,.lst AO x7,.lst AF x8],.var (U.enc x9)]⟩
def Eh (x0:List O) (x1 x2:Int) (x3:List (List Int)) (x4:List O) (x5:List AB) (x6:List Z):Option Bool:=Qv ⟨[(1,.ptr 0 0),(9,.lst U x0),(10,.int .i64 x1),(11,.int .i64 x2)],[.var [.lst (.slice (.int .i64)) x3,.lst U x4,.lst AO x5,.lst AF x6]]⟩
def Lh (x0:Int) (x1:List Int) (x2:List O) (x3 x4:Int) (x5:List O) (x6 x7:Int) (x8:AM) (x9:O):Option Bool:=(if (decide (x7<x6))=true then (if 0<=x7 then (if x7<(x5.length:Int) then (if (x7 != x0)=true then ((Bn x1 ((x5.getD x7.toNat (0,0,false,false,false,false,([]:List Int),([]:List AD),0,0,0,0,(ByteArray.empty,ByteArray.empty,0),([]:List Int))).1)).bind fun y2=>(if y2=true then (if (((((x5.getD x7.toNat (0,0,false,false,false,false,([]:List Int),([]:List AD),0,0,0,0,(ByteArray.empty,ByteArray.empty,0),([]:List Int))).2).2).2).1)=true then (if ((((x5.getD x7.toNat (0,0,false,false,false,false,([]:List Int),([]:List AD),0,0,0,0,(ByteArray.empty,ByteArray.empty,0),([]:List Int))).2).1)==x9.2.1)=true then ((Cc (((((((((x5.getD x7.toNat (0,0,false,false,false,false,([]:List Int),([]:List AD),0,0,0,0,(ByteArray.empty,ByteArray.empty,0),([]:List Int))).2).2).2).2).2).2).2).1) x9.2.2.2.2.2.2.2.1).bind fun y3=>(if (!y3)=true then (some false) else (CZ x0 x1 x2 x3 x4 x5 x6 (i64.wrap (x7+1)) x8 x9))) else (CZ x0 x1 x2 x3 x4 x5 x6 (i64.wrap (x7+1)) x8 x9)) else (CZ x0 x1 x2 x3 x4 x5 x6 (i64.wrap (x7+1)) x8 x9)) else (CZ x0 x1 x2 x3 x4 x5 x6 (i64.wrap (x7+1)) x8 x9))) else (CZ x0 x1 x2 x3 x4 x5 x6 (i64.wrap (x7+1)) x8 x9)) else none) else none) else (Eh x2 x3 (i64.wrap (x4+1)) x8.1 x8.2.1 x8.2.2.1 x8.2.2.2))
def Qw (x0:Int) (x1:List O) (x2 x3:Int) (x4:Bool) (x5:List (List Int)) (x6:List O) (x7:List AB) (x8:List Z) (x9:O):Option Bool:=((GX x9.2.1 (x5,x6,x7,x8)).bind fun y1=>(CZ x0 y1.1 x1 x2 x3 y1.2.2.1 (y1.2.2.1.length:Int) 0 y1.2 x9))
def Li (x0:List O) (x1 x2:Int) (x3:List (List Int)) (x4:List O) (x5:List AB) (x6:List Z):Option Bool:=(if (decide (x2<x1))=true then (if 0<=x2 then (if x2<(x0.length:Int) then (if (!(((((((x0.getD x2.toNat (0,0,false,false,false,false,([]:List Int),([]:List AD),0,0,0,0,(ByteArray.empty,ByteArray.empty,0),([]:List Int))).2).2).2).2).2).1))=false then (if ((((((((((((x0.getD x2.toNat (0,0,false,false,false,false,([]:List Int),([]:List AD),0,0,0,0,(ByteArray.empty,ByteArray.empty,0),([]:List Int))).2).2).2).2).2).2).2).2).2).1) != 0)=true then (Eh x0 x1 (i64.wrap (x2+1)) x3 x4 x5 x6) else (Lg x2 x0 x1 x2 ((((((((((((x0.getD x2.toNat (0,0,false,false,false,false,([]:List Int),([]:List AD),0,0,0,0,(ByteArray.empty,ByteArray.empty,0),([]:List Int))).2).2).2).2).2).2).2).2).2).1) != 0) x3 x4 x5 x6 (x0.getD x2.toNat (0,0,false,false,false,false,([]:List Int),([]:List AD),0,0,0,0,(ByteArray.empty,ByteArray.empty,0),([]:List Int))))) else (Eh x0 x1 (i64.wrap (x2+1)) x3 x4 x5 x6)) else none) else none) else (some true))
def Vf (x0:AM):Option Bool:=(Eh x0.2.1 (x0.2.1.length:Int) 0 x0.1 x0.2.1 x0.2.2.1 x0.2.2.2)
theorem Qx:gj Lh CZ:=lS (by kernel_rfl)
theorem YF:gj Qw Lg:=jS (by kernel_rfl)
theorem Qy:mS Li Eh:=lS (by kernel_rfl)
theorem cm:S6 Vf Pr:=cT CY rfl ⟨rfl,rfl⟩ (by kernel_rfl)
def TN:=cG Lx (AK CQ) (AK CQ) kx
def TO:=kE 0 [(4,1)] [4] 2 TN kx
def SI:St->Option (RT (CC.outs CQ)):=lG Lw [(4,1)] [3,4,5] 2 (AK CQ) TO
def Eu (x0:Int) (x1:Dg) (x2:List Int):Option (List Int):=SI ⟨[(3,.ptr 0 0),(4,.row 1),(5,.int .i64 x0)],[.var (Ha.enc x1),.rows 3 (.int .i64) x2]⟩
def Gl (x0:Int) (x1:Dg) (x2:List Int):Option (List Int):=(if (decide (x0<12))=true then ((LX 10000 x1).bind fun y3=>(if x2.length+([y3.1]:List Int).length<=68719476736 then (Eu (i64.wrap (x0+1)) y3.2 (x2++([y3.1]:List Int))) else none)) else (some x2))
def Nz (x0:List Int):Option (List Int):=((OL x0).bind fun y1=>((DU y1).bind fun y2=>(Eu 0 y2.2 ([]:List Int))))
theorem K_:VL Gl Eu:=lS (by kernel_rfl)
theorem Vg:S6 Nz JN:=cT CQ rfl ⟨rfl,rfl⟩ (by kernel_rfl)
def YG:=cG QY (AK DK) (AK DK) kx
def Qz:=kE 0 [] [0,3] 0 YG kx
def O0:St->Option (RT (CC.outs DK)):=lG QX [] [0,3,4] 0 (AK DK) Qz
def YH:=kB [] [0,3,4] 0 O0
def O1 (x0:List Int) (x1 x2:Int) (x3:Bool):Option Dg:=cG QW YH (AK DK) Qz ⟨[(0,.lst (.int .u8) x0),(3,.int .i64 x1),(4,.int .i64 x2),(15,.bool x3)],[]⟩
def HA (x0:List Int) (x1 x2:Int):Option Dg:=O0 ⟨[(0,.lst (.int .u8) x0),(3,.int .i64 x1),(4,.int .i64 x2)],[]⟩
def O2 (x0:List Int) (x1 x2:Int) (x3:Bool):Option Dg:=(if 0<=x2 then (if x2<(x0.length:Int) then (HA x0 (Ix .i64 (i64.wrap ((i64.wrap ((i64.wrap (x1*131))+(i64.wrap (x0.getD x2.toNat 0))))+7)) 1073741823) (i64.wrap (x2+1))) else none) else none)
def HB (x0:List Int) (x1 x2:Int):Option Dg:=(if (decide (x2<(x0.length:Int)))=true then (if (decide (x2<4000))=true then (O1 x0 x1 x2 (decide (x2<4000))) else (some (x0,0,x1))) else (some (x0,0,x1)))
def ah (x0:List Int):Option Dg:=(HA x0 (i64.wrap (14301+(x0.length:Int))) 0)
theorem Ww:aW O2 O1:=jS (by kernel_rfl)
theorem KT:VL HB HA:=lS (by kernel_rfl)
theorem ak:S6 ah OL:=cT DK rfl ⟨rfl,rfl⟩ (by kernel_rfl)
def Vh:=cG Nn (AK Cy) (AK Cy) kx
def Vi:=kE 0 [] [2,4] 8 Vh kx
def UK:St->Option (RT (CC.outs Cy)):=lG Nm [] [0,2,4,5] 8 (AK Cy) Vi
def EN (x0:List (List Int)) (x1:Int) (x2:List O) (x3:List AB) (x4:List Z) (x5:List (List Int)) (x6:List O) (x7:List AB) (x8:List Z) (x9:List (List Int)):Option (AM×Bool):=UK ⟨[(0,.lst (.slice (.int .i64)) x0),(2,.ptr 3 0),(4,.ptr 7 0),(5,.int .i64 x1)],[.rows 42 U x2,.rows 97 AO x3,.rows 47 AF x4,.var [.lst (.slice (.int .i64)) x5,.row 0,.row 1,.row 2],.rows 42 U x6,.rows 97 AO x7,.rows 47 AF x8,.var [.lst (.slice (.int .i64)) x9,.row 4,.row 5,.row 6]]⟩
def IR (x0:List (List Int)) (x1:Int) (x2:List O) (x3:List AB) (x4:List Z) (x5:List (List Int)) (x6:List O) (x7:List AB) (x8:List Z) (x9:List (List Int)):Option (AM×Bool):=(if (decide (x1<=6))=true then ((KP x1 x0).bind fun y3=>(if x6.length+([y3.1]:List O).length<=68719476736 then (EN x0 (i64.wrap (x1+1)) x2 x3 x4 x5 (x6++([y3.1]:List O)) x7 x8 x9) else none)) else (some ((x9,x6,x7,x8),true)))
def Q0 (x0:List (List Int)):Option (AM×Bool):=((DV x0).bind fun y1=>(if (!y1)=true then (some (([],([]:List O),([]:List AB),([]:List Z)),false)) else ((G8 x0).bind fun y2=>(EN x0 1 ([]:List O) ([]:List AB) ([]:List Z) ([]:List (List Int)) ([]:List O) ([]:List AB) ([]:List Z) y2))))
theorem NH:gj IR EN:=lS (by kernel_rfl)
theorem YI:S6 Q0 LW:=cT Cy rfl ⟨rfl,rfl⟩ (by kernel_rfl)
def Jc (x0:Bool) (x1:Ay):Option Bool:=cG Ol (AK FD) (AK FD) kx ⟨[(1,.ptr 0 0),(17,.bool x0)],[.var (Am.enc x1)]⟩
def N0 (x0:Bool) (x1:Ay):Option Bool:=(if (x1.1==1)=true then ((JO x1.2.2.2.1 0 x1.2.2.2.2.1 x1.2.2.2.2.2).bind fun y3=>(some y3)) else (if (x1.2.2.2.1==0)=true then (if (x1.2.2.2.2.1.toList==(⟨#[]⟩:ByteArray).toList)=true then (some (x1.2.2.2.2.2.toList==(⟨#[]⟩:ByteArray).toList)) else (some false)) else (some false)))
def SJ (x0:Ay):Option Bool:=((AW x0.1 1 6).bind fun y1=>(if (!y1)=false then ((D_ x0.2.1).bind fun y2=>(if (!y2)=false then (if (decide (x0.2.2.1<0))=true then (some false) else (Jc (decide (x0.2.2.1<0)) x0)) else (some false))) else (some false)))
theorem Vj:VK N0 Jc:=jS (by kernel_rfl)
theorem Zp:S6 SJ M2:=cT FD rfl ⟨rfl,rfl⟩ (by kernel_rfl)
def NI (x1:Ay) (x2:Int) (b0:AM):Option (Bool×AM):=(if (x1.1==1)=true then ((IG x1 x2 b0).bind fun y1=>(some (y1.1,y1.2))) else (if (x1.1==5)=true then ((IH x1 x2 b0).bind fun y2=>(some (y2.1,y2.2))) else (if (x1.1==6)=true then ((BY x1.2.1 b0).bind fun y3=>(if 0<=y3.1 then (if y3.1<(y3.2.2.1.length:Int) then ((Ny (y3.2.2.1.getD y3.1.toNat (0,0,false,false,false,false,([]:List Int),([]:List AD),0,0,0,0,(ByteArray.empty,ByteArray.empty,0),([]:List Int)))).bind fun y4=>(if 0<=y3.1 then (if y3.1<(y3.2.2.1.length:Int) then (let z5:List O:=y3.2.2.1.set y3.1.toNat y4; (some (true,(y3.2.1,z5,y3.2.2.2)))) else none) else none)) else none) else none)) else ((Gk x1 x2 b0).bind fun y6=>(some (y6.1,y6.2))))))
theorem UL:VL NI Fn:=cT Fk rfl ⟨rfl,rfl⟩ (by kernel_rfl)
def Tk (x0:Bool):Option Int:=(if x0=true then (some 0) else (some 1))
theorem am:S6 Tk OM:=cT Kl rfl ⟨rfl,rfl⟩ (by kernel_rfl)
end
end Go.Proofs.YtokiohnjegbnpaaGreat.Core
