/- Texts of the proof, packed: part 3. -/
import Derived.Test.YtffahmnodgnohaaP1
import Derived.Test.YtffahmnodgnohaaProg
import Derived.Shelf.SlLaysE0
import Derived.Shelf.RegionOpenPlain
import Derived.WalkKit
import Derived.Deep.LoopGhost
import Derived.Lib.Walk
import Derived.Lib.SliceRun
import Derived.Shelf.Lays2
import Derived.Lib.JoinLaws
import Derived.Lib.AppendZeros
import Derived.Lib.Overlaps
import Derived.Laws.Externs
import Derived.Laws.IdiomCopy
import Derived.Laws.CopyRow
import Derived.Maps.AppendAt
import Derived.Shelf.Small.Strs
import Derived.Shelf.Spec.SlicesInsert
import Derived.Shelf.SlicesE.DeleteFunc
import Derived.Shelf.Strings.Builder1
import Derived.IntWalk
import Derived.JoinedOf
import Derived.Test.YtffahmnodgnohaaRows
import Derived.ProofKit
set_option linter.unusedVariables false
set_option linter.unusedSimpArgs false
namespace Go.Proofs.Ytffahmnodgnohaa.Core
open Go
def Ev (p:Nat->Prop):Prop:=∃ m,∀ k,m<=k->p k
theorem Ev.mono {p q:Nat->Prop} (h:Ev p) (f:∀ k,p k->q k):Ev q:=h.elim fun m hm=>⟨m,fun k hk=>f k (hm k hk)⟩
theorem Ev.const {p:Prop} (h:p):Ev fun _=>p:=⟨0,fun _ _=>h⟩
theorem Ev.all {p:Nat->Prop} (h:∀ k,p k):Ev p:=⟨0,fun k _=>h k⟩
theorem Ev.and {p q:Nat->Prop} (h:Ev p) (g:Ev q):Ev fun k=>p k/\q k:=by
 obtain ⟨m,hm⟩:=h
 obtain ⟨n,hn⟩:=g
 exact ⟨max m n,fun k hk=>⟨hm k (by omega),hn k (by omega)⟩⟩
noncomputable def Lm {ρ:Type} (u:Nat->Option ρ):Option ρ :=
 @dite _ (∃ r,Ev fun k=>u k=some r) (Classical.propDecidable _) (fun h=>some (Classical.choose h)) (fun _=>none)
theorem Re {ρ:Type} {u:Nat->Option ρ} {r:ρ} (h:Lm u=some r):Ev fun k=>u k=some r:=by
 unfold Lm at h
 split at h
 ·rename_i hx
  cases h
  exact Classical.choose_spec hx
 ·cases h
theorem T6 {ρ:Type} {u:Nat->Option ρ} {r:ρ} (h:Ev fun k=>u k=some r):Lm u=some r:=by
 have hx:∃ r,Ev fun k=>u k=some r:=⟨r,h⟩
 unfold Lm
 rw [dif_pos hx]
 obtain ⟨m,hm⟩:=(Classical.choose_spec hx).and h
 obtain ⟨a,b⟩:=hm m (Nat.le_refl _)
 rw [<- b,a]
def Conv {ρ:Type} (kn:Nat->St->Option ρ) (kl:St->Option ρ):Prop:=∀ s r,kl s=some r->Ev fun j=>kn j s=some r
theorem Conv.refl {ρ:Type} (kl:St->Option ρ):Conv (fun _=>kl) kl:=fun _ _ h=>.const h
def I1 (cal:Nat->Cl) (c:Cl):Prop:=∀ f a b r,c f a b=some r->Ev fun j=>cal j f a b=some r
theorem I1.refl (c:Cl):I1 (fun _=>c) c:=fun _ _ _ _ h=>.const h
abbrev Lp (ρ:Type):Type:=((St->Option ρ)->St->Option ρ)->St->Option ρ
def T7 {ρ:Type} (F:Nat->(St->Option ρ)->St->Option ρ) (FL:(St->Option ρ)->St->Option ρ):Prop :=
 ∀ (go:Nat->St->Option ρ) (gl:St->Option ρ),Conv go gl->Conv (fun j=>F j (go j)) (FL gl)
def T8 {ρ:Type} (lp:Nat->Lp ρ) (ll:Lp ρ):Prop:=∀ (F:Nat->(St->Option ρ)->St->Option ρ) (FL:(St->Option ρ)->St->Option ρ),T7 F FL->(∀ j,T7 (fun _=>F j) (F j))->Conv (fun j=>lp j (F j)) (ll FL)
noncomputable def EL {ρ:Type}:Lp ρ:=fun F s=>Lm fun n=>Fi n F s
theorem T9 {ρ:Type}:T8 (ρ:=ρ) Fi EL:=by
 intro F FL hF _ s r h
 have h:=Re h
 obtain ⟨m,hm⟩:=h
 have key:∀ n,∀ g:Nat->Nat,(∀ j,n<=g j)->Conv (fun j=>Fi (g j) (F j)) (Fi n FL):=by
  intro n
  induction n with
  | zero=>intro g _ s r h; cases h
  | succ n ih =>
   intro g hg s r h
   refine (hF (fun j=>Fi (g j-1) (F j)) (Fi n FL) (ih (fun j=>g j-1) fun j=>by have:=hg j; omega) s r h).mono fun j hj=>?_
   have e:g j=(g j-1)+1:=by have:=hg j; omega
   show Fi (g j) (F j) s=some r
   rw [e]
   exact hj
 obtain ⟨k,hk⟩:=key m (fun j=>max j m) (fun j=>by omega) s r (hm m (Nat.le_refl _))
 refine ⟨max k m,fun j hj=>?_⟩
 have:=hk j (by omega)
 simp only [show max j m=j by omega] at this
 exact this
theorem Rf {ρ:Type} (k:Nat):T8 (ρ:=ρ) (fun _=>Fi k) (Fi k):=by
 intro F FL hF _
 induction k with
 | zero=>intro s r h; cases h
 | succ k ih=>exact hF _ _ ih
theorem Ol {ρ:Type} {F:(St->Option ρ)->St->Option ρ} (hF:T7 (fun _=>F) F) {s:St} {r:ρ} (h:F (EL F) s=some r):EL F s=some r:=by
 obtain ⟨m,hm⟩:=hF (fun j=>Fi j F) (EL F) (fun s r h=>Re h) s r h
 exact T6 ⟨m+1,fun k hk=>by
  cases k with
  | zero=>omega
  | succ k=>exact hm k (by omega)⟩
theorem Rg {ρ:Type}:T8 (ρ:=ρ) (fun _=>EL) EL:=by
 intro F FL hF hs s r h
 obtain ⟨m,hm⟩:=Re h
 have key:∀ n,Conv (fun j=>EL (F j)) (Fi n FL):=by
  intro n
  induction n with
  | zero=>intro s r h; cases h
  | succ n ih=>intro s r h; exact (hF _ _ ih s r h).mono fun j hj=>Ol (hs j) hj
 exact key m s r (hm m (Nat.le_refl _))
theorem BE {α β:Type} {x:Option α} {f:Nat->α->Option β} {g:α->Option β} (h:∀ a r,g a=some r->Ev fun j=>f j a=some r) (r:β) (hx:x.bind g=some r):Ev fun j=>x.bind (f j)=some r:=by
 cases x with
 | none=>cases hx
 | some a=>exact h a r hx
theorem Om {ρ:Type} {s:St} {v:AV} {K:Kd} {kn:Nat->List K.T->Option ρ} {kl:List K.T->Option ρ} (hk:∀ a r,kl a=some r->Ev fun j=>kn j a=some r) (r:ρ) (h:s.list v K kl=some r):Ev fun j=>s.list v K (kn j)=some r:=by
 unfold St.list at h ⊢
 split at h
 ·exact hk _ _ h
 ·split at h
  ·rename_i e
   simp only [dif_pos e]
   exact hk _ _ h
  ·cases h
 ·split at h
  ·rename_i e0
   split at h
   ·rename_i e
    simp only [e0,dif_pos e]
    exact hk _ _ h
   ·cases h
  ·rename_i e0
   split at h
   ·rename_i e
    simp only [e0,dif_pos e]
    exact hk _ _ h
   ·cases h
  ·rename_i e0
   split at h
   ·rename_i e
    simp only [e0,dif_pos e]
    exact hk _ _ h
   ·cases h
  ·cases h
 ·cases h
theorem TD {ρ:Type} {op:BinOp} {x y:AV} {kn:Nat->AV->Option ρ} {kl:AV->Option ρ} (hk:∀ a r,kl a=some r->Ev fun j=>kn j a=some r) (r:ρ) (h:NV op x y kl=some r):Ev fun j=>NV op x y (kn j)=some r:=by
 have e:∀ k:AV->Option ρ,NV op x y k=(NV op x y some).bind k:=by
  intro k
  unfold NV
  repeat' split
  all_goals rfl
 rw [e] at h
 simp only [e (kn _)]
 exact BE hk r h
theorem T_ {ρ:Type} {op:UnOp} {x:AV} {kn:Nat->AV->Option ρ} {kl:AV->Option ρ} (hk:∀ a r,kl a=some r->Ev fun j=>kn j a=some r) (r:ρ) (h:Sl op x kl=some r):Ev fun j=>Sl op x (kn j)=some r:=by
 unfold Sl at h ⊢
 split at h<;>first | exact hk _ _ h | cases h
theorem Rh {α β:Type} {x:Nat->Option α} {xl:Option α} {f:Nat->α->Option β} {g:α->Option β} (hx:∀ a,xl=some a->Ev fun j=>x j=some a) (h:∀ a r,g a=some r->Ev fun j=>f j a=some r) (r:β) (hr:xl.bind g=some r):Ev fun j=>(x j).bind (f j)=some r:=by
 cases xl with
 | none=>cases hr
 | some a=>exact ((hx a rfl).and (h a r hr)).mono fun j hj=>by rw [hj.1]; exact hj.2
theorem V0 {ρ:Type} {cal:Nat->Cl} {c:Cl} {d z:Nat} {x:BD} {lo hi:Option BD} {kn:Nat->St->Option ρ} {kl:St->Option ρ} (hk:Conv kn kl) (s:St) (r:ρ) (h:Bo c kl s (.sl d z x lo hi)=some r):Ev fun j=>Bo (cal j) (kn j) s (.sl d z x lo hi)=some r:=by
 simp only [Bo] at h ⊢
 split at h
 ·split at h
  ·rename_i ez
   split at h
   ·split at h
    ·rename_i g1
     split at h
     ·rename_i g2
      split at h
      ·rename_i g3
       simp only [if_pos ez,if_pos g1,if_pos g2,if_pos g3]
       exact hk _ _ h
      ·cases h
     ·cases h
    ·cases h
   ·cases h
  ·cases h
 ·split at h
  ·rename_i ez
   split at h
   ·split at h
    ·rename_i g1
     split at h
     ·rename_i g2
      split at h
      ·rename_i g3
       simp only [if_pos ez,if_pos g1,if_pos g2,if_pos g3]
       exact hk _ _ h
      ·cases h
     ·cases h
    ·cases h
   ·cases h
  ·cases h
 ·cases h
mutual
theorem On {ρ:Type} {cal:Nat->Cl} {c:Cl} (hc:I1 cal c):∀ (ao:CU) {kn:Nat->St->Option ρ} {kl:St->Option ρ},Conv kn kl->∀ s r,Bo c kl s ao=some r->Ev fun j=>Bo (cal j) (kn j) s ao=some r
 | .mv d x,kn,kl,hk,s,r,h=>hk _ _ h
 | .nilrow d t K,kn,kl,hk,s,r,h=>hk _ _ h
 | .pick d c a b,kn,kl,hk,s,r,h=>by
  simp only [Bo] at h ⊢
  split at h
  ·split at h<;>rename_i e<;>simp only [e,if_true,if_false,Bool.false_eq_true]<;>exact hk _ _ h
  ·cases h
 | .sc c want ops d a b,kn,kl,hk,s,r,h=>by
  simp only [Bo] at h ⊢
  split at h
  ·split at h
   ·rename_i e
    simp only [e,if_true]
    exact Qp hc ops (kn:=fun j s'=>kn j (s'.put d (if want then s'.opd a else s'.opd b))) (kl:=fun s'=>kl (s'.put d (if want then s'.opd a else s'.opd b))) (fun s r h=>hk _ _ h) s r h
   ·rename_i e
    simp only [if_neg e]
    exact hk _ _ h
  ·cases h
 | .alloc d cs,kn,kl,hk,s,r,h=>hk _ _ h
 | .box d x own,kn,kl,hk,s,r,h=>by
  simp only [Bo] at h ⊢
  exact BE (fun a r h=>hk _ _ h) r h
 | .build d zero parts,kn,kl,hk,s,r,h=>by
  simp only [Bo] at h ⊢
  exact BE (fun a r h=>hk _ _ h) r h
 | .bnew d zero parts,kn,kl,hk,s,r,h=>by
  simp only [Bo] at h ⊢
  exact BE (fun a r h=>hk _ _ h) r h
 | .brow d t K parts,kn,kl,hk,s,r,h=>by
  simp only [Bo] at h ⊢
  exact BE (fun a r h=>BE (fun a r h=>hk _ _ h) r h) r h
 | .blst d K parts,kn,kl,hk,s,r,h=>by
  simp only [Bo] at h ⊢
  exact BE (fun a r h=>BE (fun a r h=>hk _ _ h) r h) r h
 | .load d x n,kn,kl,hk,s,r,h=>by
  simp only [Bo] at h ⊢
  refine BE (fun a r h=>?_) r h
  split at h
  ·rename_i e
   simp only [if_pos e]
   exact hk _ _ h
  ·cases h
 | .store x y m own,kn,kl,hk,s,r,h=>by
  simp only [Bo] at h ⊢
  split at h
  ·rename_i e
   simp only [if_pos e]
   exact BE (fun a r h=>hk _ _ h) r h
  ·cases h
 | .nilc d x,kn,kl,hk,s,r,h=>by
  simp only [Bo] at h ⊢
  split at h<;>first | exact hk _ _ h | cases h
 | .bin d op x y,kn,kl,hk,s,r,h=>by
  simp only [Bo] at h ⊢
  exact TD (fun a r h=>hk _ _ h) r h
 | .eqs d neg K x y,kn,kl,hk,s,r,h=>by
  simp only [Bo] at h ⊢
  exact BE (fun a r h=>BE (fun a r h=>hk _ _ h) r h) r h
 | .un d op x,kn,kl,hk,s,r,h=>by
  simp only [Bo] at h ⊢
  exact T_ (fun a r h=>hk _ _ h) r h
 | .cvi d k x,kn,kl,hk,s,r,h=>by
  simp only [Bo] at h ⊢
  split at h<;>first | exact hk _ _ h | cases h
 | .bts d x,kn,kl,hk,s,r,h=>by
  simp only [Bo] at h ⊢
  exact Om (fun a r h=>hk _ _ h) r h
 | .fld d x off,kn,kl,hk,s,r,h=>by
  simp only [Bo] at h ⊢
  split at h<;>first | exact hk _ _ h | cases h
 | .field d x off n,kn,kl,hk,s,r,h=>by
  simp only [Bo] at h ⊢
  split at h
  ·split at h
   ·rename_i e
    simp only [if_pos e]
    exact hk _ _ h
   ·cases h
  ·cases h
 | .idx d z x i,kn,kl,hk,s,r,h=>by
  have e:∀ k:St->Option ρ,Bo (cal 0) k s (.idx d z x i)=(Bo (cal 0) some s (.idx d z x i)).bind k:=by
   intro k
   simp only [Bo]
   repeat' split
   all_goals rfl
  have e2:∀ k:St->Option ρ,∀ c:Cl,Bo c k s (.idx d z x i)=Bo (cal 0) k s (.idx d z x i):=fun k c=>by simp only [Bo]
  rw [e2,e] at h
  simp only [e2 (kn _),e (kn _)]
  exact BE (fun a r h=>hk _ _ h) r h
 | .aidx d n x i,kn,kl,hk,s,r,h=>by
  simp only [Bo] at h ⊢
  split at h
  ·refine BE (fun xs r h=>?_) r h
   split at h
   ·rename_i e1
    split at h
    ·rename_i e2
     split at h
     ·rename_i e3
      simp only [if_pos e1,if_pos e2,if_pos e3]
      exact hk _ _ h
     ·cases h
    ·cases h
   ·cases h
  ·cases h
 | .sidx d x i,kn,kl,hk,s,r,h=>by
  have e:∀ k:St->Option ρ,Bo (cal 0) k s (.sidx d x i)=(Bo (cal 0) some s (.sidx d x i)).bind k:=by
   intro k
   simp only [Bo]
   repeat' split
   all_goals rfl
  have e2:∀ k:St->Option ρ,∀ c:Cl,Bo c k s (.sidx d x i)=Bo (cal 0) k s (.sidx d x i):=fun k c=>by simp only [Bo]
  rw [e2,e] at h
  simp only [e2 (kn _),e (kn _)]
  exact BE (fun a r h=>hk _ _ h) r h
 | .sl d z x lo hi,kn,kl,hk,s,r,h=>V0 hk s r h
 | .mk d t K n,kn,kl,hk,s,r,h=>by
  have e:∀ k:St->Option ρ,Bo (cal 0) k s (.mk d t K n)=(Bo (cal 0) some s (.mk d t K n)).bind k:=by
   intro k
   simp only [Bo]
   repeat' split
   all_goals rfl
  have e2:∀ k:St->Option ρ,∀ c:Cl,Bo c k s (.mk d t K n)=Bo (cal 0) k s (.mk d t K n):=fun k c=>by simp only [Bo]
  rw [e2,e] at h
  simp only [e2 (kn _),e (kn _)]
  exact BE (fun a r h=>hk _ _ h) r h
 | .fn d f caps,kn,kl,hk,s,r,h=>hk _ _ h
 | .clo d f K x,kn,kl,hk,s,r,h=>by
  simp only [Bo] at h ⊢
  split at h
  ·exact BE (fun a r h=>hk _ _ h) r h
  ·cases h
 | .fbox d x,kn,kl,hk,s,r,h=>by
  simp only [Bo] at h ⊢
  exact BE (fun a r h=>hk _ _ h) r h
 | .min d x y,kn,kl,hk,s,r,h=>by
  simp only [Bo] at h ⊢
  split at h
  ·split at h
   ·rename_i e
    simp only [if_pos e]
    exact hk _ _ h
   ·cases h
  ·cases h
 | .app d e K a b,kn,kl,hk,s,r,h=>by
  simp only [Bo] at h ⊢
  split at h
  ·split at h
   ·rename_i e1
    split at h
    ·rename_i e2
     split at h
     ·rename_i e3
      simp only [e1,dif_pos e2,if_pos e3]
      refine Om (fun a r h=>?_) r h
      split at h
      ·rename_i e4
       simp only [if_pos e4]
       exact hk _ _ h
      ·cases h
     ·cases h
    ·cases h
   ·cases h
  ·cases h
 | .apz d e K a b,kn,kl,hk,s,r,h=>by
  simp only [Bo] at h ⊢
  split at h
  ·split at h
   ·rename_i e1
    split at h
    ·rename_i e2
     split at h
     ·rename_i e3
      simp only [e1,dif_pos e2,if_pos e3]
      refine Om (fun a r h=>?_) r h
      split at h
      ·rename_i e4
       simp only [if_pos e4]
       exact hk _ _ h
      ·cases h
     ·cases h
    ·cases h
   ·cases h
  ·cases h
 | .len d t x,kn,kl,hk,s,r,h=>by
  have e:∀ k:St->Option ρ,Bo (cal 0) k s (.len d t x)=(Bo (cal 0) some s (.len d t x)).bind k:=by
   intro k
   simp only [Bo]
   repeat' split
   all_goals rfl
  have e2:∀ k:St->Option ρ,∀ c:Cl,Bo c k s (.len d t x)=Bo (cal 0) k s (.len d t x):=fun k c=>by simp only [Bo]
  rw [e2,e] at h
  simp only [e2 (kn _),e (kn _)]
  exact BE (fun a r h=>hk _ _ h) r h
 | .call d f args res,kn,kl,hk,s,r,h=>by
  simp only [Bo] at h ⊢
  refine BE (fun q r h=>BE (fun bx r h=>?_) r h) r h
  split at h
  ·rename_i e
   simp only [if_pos e]
   refine Rh (fun a ha=>?_) (fun y r h=>?_) r h
   ·exact Rh (f:=fun _=>Bz _) (g:=Bz _) (fun a ha=>hc _ _ _ _ ha) (fun y r h=>.const h) a ha
   ·split at h
    ·rename_i e
     simp only [if_pos e]
     exact hk _ _ h
    ·cases h
  ·cases h
 | .bld d k f t x y,kn,kl,hk,s,r,h=>by
  simp only [Bo] at h ⊢
  split at h
  ·rename_i id e1
   split at h
   ·rename_i T j e2
    split at h
    ·rename_i t' xs e3
     split at h
     ·rename_i e4
      cases e5:c (CQ+f) [.int .i64 k,.int .i64 t,.int .i64 T] [] with
      | none=>rw [e5] at h; cases h
      | some q =>
       have hq:=hc _ _ _ _ e5
       rw [e5,J] at h
       cases e8:Bz [] q with
       | none=>rw [e8] at h; cases h
       | some u =>
        rw [e8,J] at h
        split at h
        ·rename_i e6
         split at h
         ·rename_i e7
          refine (hq.and (hk _ _ h)).mono fun j hj=>?_
          simp only [e2,e3,if_pos e4,hj.1,J,e8,if_pos e6,if_pos e7]
          exact hj.2
         ·cases h
        ·rename_i e6
         cases ha:UZ k (s.opd y) with
         | none=>rw [ha] at h; cases h
         | some ys =>
          rw [ha,J] at h
          split at h
          ·rename_i e7
           refine (hq.and (hk _ _ h)).mono fun j hj=>?_
           simp only [e2,e3,if_pos e4,hj.1,J,e8,if_neg e6,ha,if_pos e7]
           exact hj.2
          ·cases h
     ·cases h
    ·cases h
   ·cases h
  ·cases h
 | .ext d x i,kn,kl,hk,s,r,h=>by
  simp only [Bo] at h ⊢
  split at h
  ·split at h
   ·rename_i e
    simp only [if_pos e]
    exact hk _ _ h
   ·cases h
  ·cases h
theorem Qp {ρ:Type} {cal:Nat->Cl} {c:Cl} (hc:I1 cal c):∀ (aos:List CU) {kn:Nat->St->Option ρ} {kl:St->Option ρ},Conv kn kl->∀ s r,ML c kl s aos=some r->Ev fun j=>ML (cal j) (kn j) s aos=some r
 | [],kn,kl,hk,s,r,h=>by simp only [ML] at h ⊢; exact hk _ _ h
 | o::os,kn,kl,hk,s,r,h=>by
  simp only [ML] at h ⊢
  exact On hc o (fun s r h=>Qp hc os hk s r h) s r h
end
theorem Jb {ρ:Type} {cal:Nat->Cl} {c:Cl} (hc:I1 cal c) (anc:List (List Nat)) {kn:Nat->St->Option ρ} {kl:St->Option ρ} (hk:Conv kn kl):∀ (t:DT) (T:List (Nat×Nat)) s r,dK c anc kl t T s=some r->Ev fun j=>dK (cal j) anc (kn j) t T s=some r
 | .done,T,s,r,h=>hk _ _ h
 | .take i g ao d,T,s,r,h=>by
  simp only [dK] at h ⊢
  split at h
  ·rename_i e
   simp only [if_pos e]
   exact On hc ao (fun s r h=>Jb hc anc hk d _ s r h) s r h
  ·cases h
 | .skip i g d t,T,s,r,h=>by
  simp only [dK] at h ⊢
  split at h
  ·rename_i e
   simp only [if_pos e]
   exact Jb hc anc hk t _ _ r h
  ·cases h
 | .only i g ao e fl d,T,s,r,h=>by
  simp only [dK] at h ⊢
  split at h
  ·rename_i e
   simp only [if_pos e]
   exact On hc ao (fun s r h=>Jb hc anc hk d _ s r h) s r h
  ·cases h
 | .test c a b,T,s,r,h=>by
  simp only [dK] at h ⊢
  split at h
  ·split at h
   ·rename_i e
    simp only [if_pos e]
    exact Jb hc anc hk a _ _ r h
   ·rename_i e
    simp only [if_neg e]
    exact Jb hc anc hk b _ _ r h
  ·cases h
 | .fork i ai ri j aj rj,T,s,r,h=>by
  simp only [dK] at h ⊢
  obtain ⟨ha,hb⟩:=MM.1 h
  have ea:Ev fun n=>(if (DO ai.dsts T&&In (anc.getD i []) (ai.touch s) s T)=true then Bo (cal n) (fun s'=>dK (cal n) anc (kn n) ri (DB (anc.getD i []) T) s') s ai else none)=some r:=by
   split at ha
   ·rename_i e
    simp only [if_pos e]
    exact On hc ai (fun s r h=>Jb hc anc hk ri _ s r h) s r ha
   ·cases ha
  have eb:Ev fun n=>(if (DO aj.dsts T&&In (anc.getD j []) (aj.touch s) s T)=true then Bo (cal n) (fun s'=>dK (cal n) anc (kn n) rj (DB (anc.getD j []) T) s') s aj else none)=some r:=by
   split at hb
   ·rename_i e
    simp only [if_pos e]
    exact On hc aj (fun s r h=>Jb hc anc hk rj _ s r h) s r hb
   ·cases hb
  exact (ea.and eb).mono fun n h=>MM.2 h
noncomputable def Cy {ρ:Type} (cal:Cl) (lp:Lp ρ):AW->(kn kr:St->Option ρ)->(ke:Nat->St->Option ρ)->St->Option ρ
 | .skip,kn,_,_,s=>kn s
 | .region ops live,kn,_,_,s=>ML cal (fun s'=>kn ⟨live.map fun t=>(t,CR s'.fr t),s'.st⟩) s ops
 | .draw anc t live,kn,_,_,s=>dK cal anc (fun s'=>kn ⟨live.map fun t=>(t,CR s'.fr t),s'.st⟩) t [] s
 | .seqc live a b,kn,kr,ke,s=>Cy cal lp a (fun s'=>Cy cal lp b kn kr ke (s'.cutH (Ba s live) live s.st.length)) kr ke s
 | .seq a b,kn,kr,ke,s=>Cy cal lp a (fun s'=>Cy cal lp b kn kr ke s') kr ke s
 | .cond c a b,kn,kr,ke,s=>match s.opd c with
  | .bool t=>if t=true then Cy cal lp a kn kr ke s else Cy cal lp b kn kr ke s
  | _=>none
 | .block id live body,kn,kr,ke,s=>Cy cal lp body (fun s'=>kn (s'.cutH (Ba s live) live s.st.length)) kr (fun i s'=>if i=id then kn (s'.cutH (Ba s live) live s.st.length) else ke i s') s
 | .loop live body,_,kr,ke,s=>lp (fun go s'=>Cy cal lp body (fun s''=>go (s''.cutH (Ba s live) live s.st.length)) kr ke s') (s.cut live s.st.length)
 | .exit id,_,_,ke,s=>ke id s
 | .ret,_,kr,_,s=>kr s
theorem F8 {ρ:Type} (cal:Cl) (k:Nat):∀ (a:AW) (kn kr:St->Option ρ) (ke:Nat->St->Option ρ) (s:St),C9 cal k a kn kr ke s=Cy cal (Fi k) a kn kr ke s
 | .skip,_,_,_,_=>rfl
 | .region ..,_,_,_,_=>rfl
 | .draw ..,_,_,_,_=>rfl
 | .seqc live a b,kn,kr,ke,s=>by simp only [C9,Cy,F8 cal k a,F8 cal k b]
 | .seq a b,kn,kr,ke,s=>by simp only [C9,Cy,F8 cal k a,F8 cal k b]
 | .cond c a b,kn,kr,ke,s=>by
  simp only [C9,Cy,F8 cal k a,F8 cal k b]
  cases s.opd c<;>rfl
 | .block id live a,kn,kr,ke,s=>by simp only [C9,Cy,F8 cal k a]
 | .loop live a,kn,kr,ke,s=>by simp only [C9,Cy,F8 cal k a]
 | .exit _,_,_,_,_=>rfl
 | .ret,_,_,_,_=>rfl
theorem Dc {ρ:Type}:∀ (a:AW) {cal:Nat->Cl} {c:Cl} {lp:Nat->Lp ρ} {ll:Lp ρ} {kn kr:Nat->St->Option ρ} {kl krl:St->Option ρ} {ke:Nat->Nat->St->Option ρ} {kel:Nat->St->Option ρ},I1 cal c->T8 lp ll->(∀ j,T8 (fun _=>lp j) (lp j)) ->
  Conv kn kl->Conv kr krl->(∀ i,Conv (fun j=>ke j i) (kel i))->Conv (fun j=>Cy (cal j) (lp j) a (kn j) (kr j) (ke j)) (Cy c ll a kl krl kel)
 | .skip,_,_,_,_,_,_,_,_,_,_,hc,hl,hl',hk,hr,he=>hk
 | .region ops live,_,_,_,_,_,_,_,_,_,_,hc,hl,hl',hk,hr,he=>fun s r h=>Qp hc ops (fun s r h=>hk _ r h) s r h
 | .draw anc t live,_,_,_,_,_,_,_,_,_,_,hc,hl,hl',hk,hr,he=>fun s r h=>Jb hc anc (fun s r h=>hk _ r h) t [] s r h
 | .seqc live a b,_,_,_,_,_,_,_,_,_,_,hc,hl,hl',hk,hr,he=>fun s r h=>Dc a hc hl hl' (fun s' r h=>Dc b hc hl hl' hk hr he _ r h) hr he s r h
 | .seq a b,_,_,_,_,_,_,_,_,_,_,hc,hl,hl',hk,hr,he=>fun s r h=>Dc a hc hl hl' (fun s' r h=>Dc b hc hl hl' hk hr he _ r h) hr he s r h
 | .cond c a b,_,_,_,_,_,_,_,_,_,_,hc,hl,hl',hk,hr,he=>fun s r h=>by
  simp only [Cy] at h ⊢
  split at h
  ·split at h
   ·rename_i e
    simp only [if_pos e]
    exact Dc a hc hl hl' hk hr he s r h
   ·rename_i e
    simp only [if_neg e]
    exact Dc b hc hl hl' hk hr he s r h
  ·cases h
 | .block id live a,_,_,_,_,_,_,_,_,_,_,hc,hl,hl',hk,hr,he=>fun s r h=>by
  simp only [Cy] at h ⊢
  refine Dc a hc hl hl' (fun s r h=>hk _ r h) hr (fun i s' r h=>?_) s r h
  split at h
  ·rename_i e
   simp only [if_pos e]
   exact hk _ r h
  ·rename_i e
   simp only [if_neg e]
   exact he i _ r h
 | .loop live a,cal,c,lp,ll,kn,kr,kl,krl,ke,kel,hc,hl,hl',hk,hr,he=>fun s r h=>by
  simp only [Cy] at h ⊢
  refine hl _ _ (fun go gl hgo s' r h=>?_) (fun j go gl hgo s' r h=>?_) _ r h
  ·exact Dc a hc hl hl' (fun s r h=>hgo _ r h) hr he s' r h
  ·exact Dc (cal:=fun _=>cal j) (lp:=fun _=>lp j) (kn:=fun i s'=>go i (s'.cutH (Ba s live) live s.st.length)) (kl:=fun s'=>gl (s'.cutH (Ba s live) live s.st.length)) (kr:=fun _=>kr j) (krl:=kr j) (ke:=fun _=>ke j) (kel:=ke j) a (I1.refl _) (hl' j) (fun _=>hl' j) (fun s r h=>hgo _ r h) (Conv.refl _) (fun i=>Conv.refl _) s' r h
 | .exit id,_,_,_,_,_,_,_,_,_,_,hc,hl,hl',hk,hr,he=>fun s r h=>he id s r h
 | .ret,_,_,_,_,_,_,_,_,_,_,hc,hl,hl',hk,hr,he=>hr
theorem TE {ρ:Type} {cal:Cl} {a:AW} {hs:List (Nat×Nat)} {live:List Nat} {n:Nat} {kr:St->Option ρ} {ke:Nat->St->Option ρ} {s:St} {r:ρ}
  (h:Cy cal EL a (fun s''=>EL (fun go s'=>Cy cal EL a (fun s''=>go (s''.cutH hs live n)) kr ke s') (s''.cutH hs live n)) kr ke s=some r) :
  EL (fun go s'=>Cy cal EL a (fun s''=>go (s''.cutH hs live n)) kr ke s') s=some r :=
 Ol (F:=fun go s'=>Cy cal EL a (fun s''=>go (s''.cutH hs live n)) kr ke s') (fun go gl hgo s' r h=>Dc (cal:=fun _=>cal) (lp:=fun _=>EL) (kn:=fun i s'=>go i (s'.cutH hs live n)) (kl:=fun s'=>gl (s'.cutH hs live n)) (kr:=fun _=>kr) (krl:=kr) (ke:=fun _=>ke) (kel:=ke) a (I1.refl _) Rg (fun _=>Rg) (fun s r h=>hgo _ r h) (Conv.refl _) (fun i=>Conv.refl _) s' r h) h
noncomputable def UA (cal:Cl) (fn:CS) (args bs:List AV):Option (RT fn.outs) :=
 Cy cal EL fn.body (Ab fn) (Ab fn) (fun _ _=>none) ⟨F6 0 (BL (CJ bs) args),Ah bs args⟩
noncomputable def Qq (KP:Nat->Option CS) (CZ:Cl):Cl:=fun f a b=>Lm fun k=>LG KP CZ k f a b
theorem Mf {KP:Nat->Option CS} {CZ:Cl} {f:Nat} {args bs r:List AV} (hf:KP f=none) (h:CZ f args bs=some r):Qq KP CZ f args bs=some r:=by
 refine T6 ⟨1,fun k hk=>?_⟩
 cases k with
 | zero=>omega
 | succ k=>simp only [LG,hf,h]
theorem TF {KP:Nat->Option CS} {CZ:Cl} {f:Nat} {fn:CS} {args bs:List AV} {r:RT fn.outs} (hf:KP f=some fn) (hl:args.length=fn.params.length/\bs.length=(Bg fn.params 0).length)
  (h:UA (Qq KP CZ) fn args bs=some r):Qq KP CZ f args bs=some (BY fn.outs r):=by
 have hc:I1 (fun k=>LG KP CZ k) (Qq KP CZ):=fun f a b r h=>Re h
 obtain ⟨m,hm⟩:=Dc (lp:=Fi) (ll:=EL) fn.body (kn:=fun _=>Ab fn) (kr:=fun _=>Ab fn) (ke:=fun _ _ _=>none) hc T9 Rf (Conv.refl _) (Conv.refl _) (fun i=>Conv.refl _) _ r h
 refine T6 ⟨m+1,fun k hk=>?_⟩
 cases k with
 | zero=>omega
 | succ k =>
  simp only [LG,hf,if_pos hl]
  have:=hm k (by omega)
  simp only [<- F8] at this
  unfold SI
  rw [this]
  rfl
theorem Gs:∀ (K:Kd) (x:K.T) (r:List AV),K.dec (K.enc x++r)=some (x,r)
 | .int k,x,r=>by simp [Kd.enc,Kd.dec]
 | .bool,x,r=>rfl
 | .str,x,r=>rfl
 | .slice e,x,r=>by simp [Kd.enc,Kd.dec]
 | .pair a b,x,r=>by simp [Kd.enc,Kd.dec,Av,Gs a,Gs b]
 | .own t e,x,r=>by simp [Kd.enc,Kd.dec]
 | .ref K,x,r=>by
  have:=Gs K x []
  rw [List.append_nil] at this
  simp [Kd.enc,Kd.dec,this]
 | .fun f,x,r=>by simp [Kd.enc,Kd.dec]
 | .clo f K,x,r=>by simp [Kd.enc,Kd.dec]
theorem Oo (K:Kd) (x:K.T):K.of (K.av x)=some x:=by
 have h:K.ofCells (K.enc x)=some x:=by
  have:=Gs K x []
  rw [List.append_nil] at this
  simp [Kd.ofCells,this]
 unfold Kd.of
 cases K<;>exact h
theorem Oq:∀ (Ks:List Kd) (x:RT Ks),Bz Ks (BY Ks x)=some x
 | [],_=>rfl
 | [K],x=>Oo K x
 | K::L::Ks,x=>by
  simp only [BY,Bz,Oo,J]
  rw [Oq (L::Ks) x.2]
  rfl
theorem SA {KP:Nat->Option CS} {CZ:Cl} {f:Nat} {fn:CS} {args bs:List AV} {r:RT fn.outs} (hf:KP f=some fn) (hl:args.length=fn.params.length/\bs.length=(Bg fn.params 0).length)
  (h:UA (Qq KP CZ) fn args bs=some r):(Qq KP CZ f args bs).bind (Bz fn.outs)=some r:=by
 rw [TF hf hl h,J,Oq]
theorem UB {P:Program} {KP:Nat->Option CS} {CZ:Cl} (ht:T3 P KP) (hp:Db P CZ) {f:Nat} {args:List AV} (h:(Qq KP CZ f args []).bind (Bz [.bool])=some true) {W:World} {cargs:List Value}
  (ha:AM (VE (KZ W)) args cargs) (hlt:f<CQ:=by decide):Calls P f cargs.toArray W fun e W'=>e=.returned (.bool true)/\RowKit.Below W.heap.size W W':=by
 cases hq:Qq KP CZ f args [] with
 | none=>rw [hq] at h; cases h
 | some v =>
  rw [hq,J] at h
  obtain ⟨m,hm⟩:=Re hq
  have hm:=hm m (Nat.le_refl _)
  have e:v=[.bool true]:=by
   match v,h with
   | [a],h =>
    have h:Kd.of .bool a=some true:=h
    unfold Kd.of Kd.ofCells at h
    cases a<;>simp [AV.cells,Kd.dec,AV.fits] at h<;>first | rw [h] | skip
  subst e
  exact TC ht hp hm ha hlt
def VJ (f:Nat):List (Nat×CS)->Option CS
 | []=>none
 | (g,a)::r=>if g=f then some a else VJ f r
inductive Sc (P:Program):List (Nat×CS)->Prop where
 | nil:Sc P []
 | cons {f:Nat} {a:CS} {r:List (Nat×CS)} (h:CE P f a=true) (t:Sc P r):Sc P ((f,a)::r)
theorem TG {P:Program} {tab:List (Nat×CS)} (h:Sc P tab):T3 P fun f=>VJ f tab:=by
 intro f a hf
 induction h with
 | nil=>cases hf
 | cons h _ ih =>
  simp only [VJ] at hf
  split at hf
  ·rename_i e
   cases hf
   rw [<- e]
   exact h
  ·exact ih hf
end Go.Proofs.Ytffahmnodgnohaa.Core

namespace Go.Proofs.Ytffahmnodgnohaa.Core
open Go IntKind
set_option maxRecDepth 100000
noncomputable section
abbrev Ws:Kd:=(.pair (.int .i64) (.pair (.int .i64) (.pair (.int .i64) (.pair (.int .i64) (.pair (.int .i64) .str)))))
abbrev Wt:Type:=Int×Int×Int×Int×Int×ByteArray
abbrev AN:Kd:=(.pair .str (.pair .str (.int .i64)))
abbrev AH:Type:=ByteArray×ByteArray×Int
abbrev CF:Kd:=(.pair (.int .i64) (.pair (.int .i64) (.pair (.int .i64) (.pair (.int .i64) (.pair (.int .i64) (.own 49 AN))))))
abbrev AG:Type:=Int×Int×Int×Int×Int×List AH
abbrev CO:Kd:=(.pair (.int .i64) (.pair (.int .i64) (.pair (.int .i64) (.pair (.int .i64) (.pair (.int .i64) (.slice AN))))))
abbrev AO:Kd:=(.pair .str (.pair (.int .i64) .bool))
abbrev AD:Type:=ByteArray×Int×Bool
def Ot:Nat×List PK×List Kd:=(13,[.bor CO],[.str,.bool])
def Ou:Nat×List PK×List Kd:=(15,[.bor CO],[.str,.bool])
def Le:Nat×List PK×List Kd:=(16,[.bor CO,.bor CO],[.bool])
def Ov:Nat×List PK×List Kd:=(17,[.val .str],[CF,.bool])
def Jc:Nat×List PK×List Kd:=(18,[.val .str],[CF,.bool])
def Ow:Nat×List PK×List Kd:=(19,[.mut CF,.val (.int .i64)],[(.int .i64)])
def Jd:Nat×List PK×List Kd:=(20,[.bor CO,.val (.int .i64)],[(.int .i64)])
def Qr:Nat×List PK×List Kd:=(23,[.bor CO],[.bool])
def Qs:Nat×List PK×List Kd:=(24,[.bor CO],[.bool])
def Ea:Nat×List PK×List Kd:=(57,[.val (.int .i64)],[.str])
def Ds:Nat×List PK×List Kd:=(58,[.val (.int .i64)],[.str])
def I_:Nat×List PK×List Kd:=(59,[.val .str],[.str])
def Pw:Nat×List PK×List Kd:=(60,[.val .str],[.str,.bool])
def Dd:Nat×List PK×List Kd:=(64,[.val (.int .i64)],[.str])
def Px:Nat×List PK×List Kd:=(65,[.val .str],[.str,.bool])
def Ox:Nat×List PK×List Kd:=(67,[.bor (.slice AN),.bor (.slice AN)],[.bool])
def Ns:Nat×List PK×List Kd:=(68,[.val .str],[.str,.bool])
def FV:Nat×List PK×List Kd:=(69,[.ptr AO],[(.int .i64)])
def Dt:Nat×List PK×List Kd:=(70,[.ptr AO],[(.int .i64)])
def GP:Nat×List PK×List Kd:=(71,[.ptr AO,.val (.int .i64)],[.str])
def Nt:Nat×List PK×List Kd:=(72,[.val .str],[.str,.bool])
def CX:Nat×List PK×List Kd:=(73,[.ptr AO],[(.int .i64)])
def Cz:Nat×List PK×List Kd:=(74,[.ptr AO],[(.int .i64)])
def Eb:Nat×List PK×List Kd:=(75,[.ptr AO],[.str])
def Mg:Nat×List PK×List Kd:=(76,[.mut (.own 49 AN),.val (.int .i64)],[(.int .i64)])
def Mh:Nat×List PK×List Kd:=(77,[.bor (.slice AN),.val (.int .i64)],[(.int .i64)])
def CY:Nat×List PK×List Kd:=(80,[.val (.int .i64),.val (.int .i64),.val (.int .i64)],[.bool])
def Oy:Nat×List PK×List Kd:=(81,[.bor (.slice AN)],[.bool])
def C0:Nat×List PK×List Kd:=(82,[.val (.int .i64),.val (.int .i64),.val (.int .i64)],[.bool])
def Ka:Nat×List PK×List Kd:=(83,[.val (.int .i64)],[.bool])
def Oz:Nat×List PK×List Kd:=(84,[.bor (.slice AN)],[.bool])
def Je:Nat×List PK×List Kd:=(132,[.val (.int .u32)],[.str])
def Lf:Nat×List PK×List Kd:=(133,[.val .str],[(.int .u32)])
def Jf:Nat×List PK×List Kd:=(136,[.val .str],[.str])
def Py:Nat×List PK×List Kd:=(137,[.val AN,.val AN],[.bool])
def O0:Nat×List PK×List Kd:=(138,[.val .str,.val (.int .i64)],[(.int .i64),(.int .i64),.bool])
def Jg:Nat×List PK×List Kd:=(139,[.val .str,.val (.int .i64)],[(.int .i64),(.int .i64),.bool])
def Mi:Nat×List PK×List Kd:=(140,[.val .str,.val (.int .i64)],[.str,(.int .i64),.bool])
def D1:Nat×List PK×List Kd:=(141,[.val (.int .i64)],[.str])
def Qt:Nat×List PK×List Kd:=(145,[.val .str],[.bool])
def O1:Nat×List PK×List Kd:=(161,[.val (.int .u32),.val .str],[(.int .u32)])
def Qu:Nat×List PK×List Kd:=(163,[.val .str],[(.int .u32)])
def O2:Nat×List PK×List Kd:=(177,[.val (.int .u32),.val .str],[(.int .u32)])
abbrev W_ { ρ:Type} (t W:Option ρ):Prop:=∀ { r},t=some r->W=some r
abbrev Lg {A0 ρ:Type} (t W:A0->Option ρ):Prop:=∀ {a0 r},t a0=some r->W a0=some r
abbrev Pq {A0 A1 ρ:Type} (t W:A0->A1->Option ρ):Prop:=∀ {a0 a1 r},t a0 a1=some r->W a0 a1=some r
abbrev UC {A0 A1 A2 ρ:Type} (t W:A0->A1->A2->Option ρ):Prop:=∀ {a0 a1 a2 r},t a0 a1 a2=some r->W a0 a1 a2=some r
abbrev Wj {A0 A1 A2 A3 ρ:Type} (t W:A0->A1->A2->A3->Option ρ):Prop:=∀ {a0 a1 a2 a3 r},t a0 a1 a2 a3=some r->W a0 a1 a2 a3=some r
abbrev Wu {A0 A1 A2 A3 A4 ρ:Type} (t W:A0->A1->A2->A3->A4->Option ρ):Prop:=∀ {a0 a1 a2 a3 a4 r},t a0 a1 a2 a3 a4=some r->W a0 a1 a2 a3 a4=some r
abbrev W4 {A0 A1 A2 A3 A4 A5 ρ:Type} (t W:A0->A1->A2->A3->A4->A5->Option ρ):Prop:=∀ {a0 a1 a2 a3 a4 a5 r},t a0 a1 a2 a3 a4 a5=some r->W a0 a1 a2 a3 a4 a5=some r
abbrev W5 {A0 A1 A2 A3 A4 A5 A6 ρ:Type} (t W:A0->A1->A2->A3->A4->A5->A6->Option ρ):Prop:=∀ {a0 a1 a2 a3 a4 a5 a6 r},t a0 a1 a2 a3 a4 a5 a6=some r->W a0 a1 a2 a3 a4 a5 a6=some r
abbrev WP {A0 A1 A2 A3 A4 A5 A6 A7 A8 A9 A10 A11 A12 A13 ρ:Type} (t W:A0->A1->A2->A3->A4->A5->A6->A7->A8->A9->A10->A11->A12->A13->Option ρ):Prop:=∀ {a0 a1 a2 a3 a4 a5 a6 a7 a8 a9 a10 a11 a12 a13 r},t a0 a1 a2 a3 a4 a5 a6 a7 a8 a9 a10 a11 a12 a13=some r->W a0 a1 a2 a3 a4 a5 a6 a7 a8 a9 a10 a11 a12 a13=some r
abbrev Wv {A0 A1 A2 A3 A4 A5 A6 A7 A8 A9 A10 A11 A12 A13 A14 ρ:Type} (t W:A0->A1->A2->A3->A4->A5->A6->A7->A8->A9->A10->A11->A12->A13->A14->Option ρ):Prop:=∀ {a0 a1 a2 a3 a4 a5 a6 a7 a8 a9 a10 a11 a12 a13 a14 r},t a0 a1 a2 a3 a4 a5 a6 a7 a8 a9 a10 a11 a12 a13 a14=some r->W a0 a1 a2 a3 a4 a5 a6 a7 a8 a9 a10 a11 a12 a13 a14=some r
abbrev WQ {A0 A1 A2 A3 A4 A5 A6 A7 A8 A9 A10 A11 A12 A13 A14 A15 ρ:Type} (t W:A0->A1->A2->A3->A4->A5->A6->A7->A8->A9->A10->A11->A12->A13->A14->A15->Option ρ):Prop:=∀ {a0 a1 a2 a3 a4 a5 a6 a7 a8 a9 a10 a11 a12 a13 a14 a15 r},t a0 a1 a2 a3 a4 a5 a6 a7 a8 a9 a10 a11 a12 a13 a14 a15=some r->W a0 a1 a2 a3 a4 a5 a6 a7 a8 a9 a10 a11 a12 a13 a14 a15=some r
abbrev Ww {A0 A1 A2 A3 A4 A5 A6 A7 A8 A9 A10 A11 A12 A13 A14 A15 A16 ρ:Type} (t W:A0->A1->A2->A3->A4->A5->A6->A7->A8->A9->A10->A11->A12->A13->A14->A15->A16->Option ρ):Prop:=∀ {a0 a1 a2 a3 a4 a5 a6 a7 a8 a9 a10 a11 a12 a13 a14 a15 a16 r},t a0 a1 a2 a3 a4 a5 a6 a7 a8 a9 a10 a11 a12 a13 a14 a15 a16=some r->W a0 a1 a2 a3 a4 a5 a6 a7 a8 a9 a10 a11 a12 a13 a14 a15 a16=some r
abbrev Wx {A0 A1 A2 A3 A4 A5 A6 A7 A8 A9 A10 A11 A12 A13 A14 A15 A16 A17 A18 A19 ρ:Type} (t W:A0->A1->A2->A3->A4->A5->A6->A7->A8->A9->A10->A11->A12->A13->A14->A15->A16->A17->A18->A19->Option ρ):Prop:=∀ {a0 a1 a2 a3 a4 a5 a6 a7 a8 a9 a10 a11 a12 a13 a14 a15 a16 a17 a18 a19 r},t a0 a1 a2 a3 a4 a5 a6 a7 a8 a9 a10 a11 a12 a13 a14 a15 a16 a17 a18 a19=some r->W a0 a1 a2 a3 a4 a5 a6 a7 a8 a9 a10 a11 a12 a13 a14 a15 a16 a17 a18 a19=some r

def Du:AW:=(.seq (.region [.mv 8 (.i 1)] [5,7,8]) (.seq (.region [.ls 58 5 6,.m 59 8,.cl 60 [58,59] Jd,.m 8 60] [7,8]) (.seq (.seq (.region [.m 61 8,.bin 62 .lss (.t 61) (.i 0)] [7,8,62]) (.cond (.t 62) (.seq (.region [.mv 2 (.c (.bool false))] [2]) .ret) .skip)) (.seq (.seq (.region [.m 63 8,.m 64 7,.b 65 .neq 63 64] [65]) (.cond (.t 65) (.seq (.region [.mv 2 (.c (.bool false))] [2]) .ret) .skip)) (.seq (.region [.mv 2 (.c (.bool true))] [2]) .ret)))))
def Dv:AW:=(.seq (.region [.mv 7 (.i 1)] [0,3,4,5,7]) (.seq (.region [.ls 33 5 6,.m 34 7,.cl 35 [33,34] Ow,.m 7 35] [0,3,4,5,7]) (.seq (.region [.mv 8 (.i 1)] [0,3,4,5,7,8]) (.seq (.region [.ls 36 5 6,.m 37 8,.cl 38 [36,37] Jd,.m 8 38] [0,3,4,5,7,8]) (.seq (.seq (.region [.m 39 8,.bin 40 .lss (.t 39) (.i 0)] [0,3,4,5,7,8,40]) (.cond (.t 40) (.seq (.region [.mv 2 (.c (.bool false))] [2]) .ret) .skip)) (.seq (.seq (.region [.m 41 8,.m 42 7,.b 43 .neq 41 42] [0,3,4,5,7,43]) (.cond (.t 43) (.seq (.region [.mv 2 (.c (.bool false))] [2]) .ret) .skip)) (.seq (.region [.m 45 0,.cl 46 [45] Jc,.m 44 46,.ext 47 (.t 44) 0,.ext 48 (.t 44) 1,.al 9 CF,.store (.t 9) (.t 47) 6 false,.m 10 48] [3,4,5,7,9,10]) (.seq (.seq (.region [.ls 49 9 6,.ls 50 3 6,.cl 51 [49,50] Le,.un 52 .not (.t 51),.m 53 52,.sc 53 false [.m 54 10,.m 55 4,.eqs 56 true .bool (.t 54) (.t 55)] 57 (.c (.bool true)) (.t 56)] [5,7,57]) (.cond (.t 57) (.seq (.region [.mv 2 (.c (.bool false))] [2]) .ret) .skip)) Du))))))))
def Ao:CS:=⟨[.val .str],[⟨2,false,.bool⟩],(.seq (.region [.mv 2 (.c (.bool false))] [0]) (.seq (.seq (.region [.m 11 0,.len 12 true (.t 11),.bin 13 .gtr (.t 12) (.i 1048576)] [0,13]) (.cond (.t 13) (.seq (.region [.mv 2 (.c (.bool true))] [2]) .ret) .skip)) (.seq (.region [.m 15 0,.cl 16 [15] Ov,.m 14 16,.ext 17 (.t 14) 0,.ext 18 (.t 14) 1,.al 3 CF,.store (.t 3) (.t 17) 6 false,.m 4 18] [0,3,4]) (.seq (.region [.m 20 0,.cl 21 [20] Jc,.m 19 21,.ext 22 (.t 19) 0,.ext 23 (.t 19) 1,.al 5 CF,.store (.t 5) (.t 22) 6 false,.m 6 23] [0,3,4,5,6]) (.seq (.seq (.region [.ls 24 5 6,.ls 25 3 6,.cl 26 [24,25] Le,.un 27 .not (.t 26),.m 28 27,.sc 28 false [.m 29 6,.m 30 4,.eqs 31 true .bool (.t 29) (.t 30)] 32 (.c (.bool true)) (.t 31)] [0,3,4,5,32]) (.cond (.t 32) (.seq (.region [.mv 2 (.c (.bool false))] [2]) .ret) .skip)) Dv)))))⟩
theorem JK:CE Try.prog 4 Ao=true:=by kernel_rfl
def IJ:AW:=(.seq (.seq (.region [.m 33 5,.f 34 1 5,.l 35 34,.len 36 false (.t 35),.b 37 .lss 33 36] [1,4,5,37]) (.cond (.t 37) .skip (.exit 0))) (.seq (.block 1 [1,4,5] (.draw (QZ 26 [(1,[]),(3,[]),(4,[2,3]),(8,[0,7]),(9,[]),(11,[]),(12,[10,11]),(15,[7,14]),(16,[8,15]),(17,[]),(19,[]),(20,[18,19]),(23,[15,22]),(24,[16,23])]) (.tk 7 [.l 46 45,.f 45 44 0,.idx 44 3 (.t 42) (.t 43),.m 43 5,.l 42 41,.f 41 1 5,.m 40 4] (.tk 15 [.l 54 53,.f 53 52 1,.idx 52 3 (.t 50) (.t 51),.m 51 5,.l 50 49,.f 49 1 5] (.tk 23 [.l 62 61,.f 61 60 2,.idx 60 3 (.t 58) (.t 59),.m 59 5,.l 58 57,.f 57 1 5] (.only 7 none (.cl 47 [46] I_) false [] (.tk 9 [.b 48 .add 40 47] (.only 15 none (.cl 55 [54] I_) false [] (.tk 17 [.b 56 .add 48 55] (.only 23 none (.cl 63 [62] Ds) false [] (.tk 26 [.m 4 64,.b 64 .add 56 63] .done))))))))) [1,4,5])) (.region [.m 38 5,.bin 39 .add (.t 38) (.i 1),.m 5 39] [1,4,5])))
def IK:AW:=(.seq (.region [.m 65 4,.cl 66 [65] Pw,.ext 67 (.t 66) 0,.ext 68 (.t 66) 1,.m 2 67,.m 3 68] [2,3]) .ret)
def IL:AW:=(.seq (.seq (.region [.mv 5 (.i 0)] [1,4,5]) (.block 0 [4] (.loop [1,4,5] IJ))) IK)
def BF:CS:=⟨[.val CO],[⟨2,false,.str⟩,⟨3,false,.bool⟩],(.seq (.region [.box 1 (.t 0) false,.mv 2 (.c (.str ⟨#[]⟩)),.mv 3 (.c (.bool false))] [1]) (.seq (.seq (.region [.ls 6 1 6,.cl 7 [6] Qr,.un 8 .not (.t 7)] [1,8]) (.cond (.t 8) (.seq (.region [.mv 2 (.c (.str ⟨#[]⟩)),.mv 3 (.c (.bool false))] [2,3]) .ret) .skip)) (.seq (.draw (QZ 25 [(3,[]),(5,[2,4]),(7,[]),(9,[5,8]),(10,[6,9]),(11,[]),(13,[9,12]),(14,[10,13]),(15,[]),(17,[13,16]),(18,[14,17]),(19,[]),(22,[17,21]),(23,[18,22])]) (.tk 2 [.l 10 9,.f 9 1 0] (.tk 5 [.l 13 12,.f 12 1 1] (.tk 9 [.l 17 16,.f 16 1 2] (.tk 13 [.l 21 20,.f 20 1 3] (.tk 17 [.l 25 24,.f 24 1 4] (.tk 22 [.len 30 false (.t 29),.l 29 28,.f 28 1 5] (.only 2 none (.cl 11 [10] Ea) false [] (.only 5 none (.cl 14 [13] Ea) false [] (.tk 7 [.b 15 .add 11 14] (.only 9 none (.cl 18 [17] Ea) false [] (.tk 11 [.b 19 .add 15 18] (.only 13 none (.cl 22 [21] Ea) false [] (.tk 15 [.b 23 .add 19 22] (.only 17 none (.cl 26 [25] Ds) false [] (.tk 19 [.b 27 .add 23 26] (.only 22 none (.cl 31 [30] Ds) false [] (.tk 25 [.m 4 32,.b 32 .add 27 31] .done))))))))))))))))) [1,4]) IL)))⟩
theorem O3:CE Try.prog 13 BF=true:=by kernel_rfl
def IM:AW:=(.seq (.region [.bin 22 .lss (.t 21) (.i 4)] [1,4,20,21,22]) (.seq (.cond (.t 22) .skip (.exit 0)) (.seq (.block 1 [1,4,20,21] (.seq (.region [.aidx 23 4 (.t 20) (.t 21),.m 6 23] [1,4,6,20,21]) (.region [.m 24 6,.cvi 25 .u8 (.t 24),.bld (some 26) 0 62 5 (.t 4) (.t 25)] [1,4,20,21]))) (.region [.bin 27 .add (.t 21) (.i 1),.m 21 27] [1,4,20,21]))))
def Gt:AW:=(.seq (.region [.b 41 .lss 40 39] [4,38,39,40,41]) (.seq (.cond (.t 41) .skip (.exit 2)) (.seq (.block 3 [4,38,39,40] (.seq (.region [.idx 42 3 (.t 38) (.t 40),.ls 43 42 3,.al 8 AN,.store (.t 8) (.t 43) 3 false] [4,8,38,39,40]) (.draw (QZ 20 [(4,[]),(6,[3,5]),(7,[]),(10,[3,9]),(11,[6,10]),(12,[]),(14,[11,13]),(15,[]),(17,[10,16]),(18,[14,17])]) (.tk 3 [.len 46 true (.t 45),.l 45 44,.f 44 8 0] (.tk 6 [.l 49 48,.f 48 8 0] (.tk 10 [.len 53 true (.t 52),.l 52 51,.f 51 8 1] (.tk 14 [.l 57 56,.f 56 8 1] (.tk 17 [.l 60 59,.f 59 8 2] (.only 3 none (.cl 47 [46] Dd) false [] (.tk 7 [.b 50 .add 47 49] (.only 10 none (.cl 54 [53] Dd) false [] (.tk 12 [.b 55 .add 50 54] (.tk 15 [.b 58 .add 55 57] (.only 17 none (.cl 61 [60] Dd) false [] (.tk 19 [.b 62 .add 58 61] (.only 19 none (.bld (some 63) 1 63 5 (.t 4) (.t 62)) false [] .done))))))))))))) [4,38,39,40]))) (.region [.bin 64 .add (.t 40) (.i 1),.m 40 64] [4,38,39,40]))))
def Gu:AW:=(.seq (.region [.bld (some 65) 2 66 5 (.t 4) (.c .undef),.cl 66 [65] Px,.ext 67 (.t 66) 0,.ext 68 (.t 66) 1,.m 2 67,.m 3 68] [2,3]) .ret)
def Gv:AW:=(.seq (.seq (.region [.f 37 1 5,.l 38 37,.len 39 false (.t 38),.mv 40 (.i 0)] [4,38,39,40]) (.block 2 [4] (.loop [4,38,39,40] Gt))) Gu)
def Ec:AW:=(.seq (.draw (QZ 9 [(3,[]),(6,[2,5])]) (.tk 2 [.l 29 28,.f 28 1 4] (.tk 6 [.len 33 false (.t 32),.l 32 31,.f 31 1 5] (.only 2 none (.cl 30 [29] Dd) false [] (.only 6 none (.cl 34 [33] Dd) false [] (.tk 8 [.b 35 .add 30 34] (.only 8 none (.bld (some 36) 1 63 5 (.t 4) (.t 35)) false [] .done)))))) [1,4]) Gv)
def AZ:CS:=⟨[.val CO],[⟨2,false,.str⟩,⟨3,false,.bool⟩],(.seq (.region [.box 1 (.t 0) false,.mv 2 (.c (.str ⟨#[]⟩)),.mv 3 (.c (.bool false))] [1]) (.seq (.seq (.region [.ls 9 1 6,.cl 10 [9] Qs,.un 11 .not (.t 10)] [1,11]) (.cond (.t 11) (.seq (.region [.mv 2 (.c (.str ⟨#[]⟩)),.mv 3 (.c (.bool false))] [2,3]) .ret) .skip)) (.seq (.region [.alloc 4 [.self 105,.new 5 (.int .u8) []]] [1,4]) (.seq (.seq (.region [.f 12 1 0,.l 13 12,.f 14 1 1,.l 15 14,.f 16 1 2,.l 17 16,.f 18 1 3,.l 19 18,.build 20 [.int .i64 0,.int .i64 0,.int .i64 0,.int .i64 0] [(0,1,.t 13),(1,1,.t 15),(2,1,.t 17),(3,1,.t 19)],.mv 21 (.i 0)] [1,4,20,21]) (.block 0 [1,4] (.loop [1,4,20,21] IM))) Ec))))⟩
theorem O4:CE Try.prog 15 AZ=true:=by kernel_rfl
def F9:CS:=⟨[.val CO,.val CO],[⟨4,false,.bool⟩],(.seq (.region [.box 2 (.t 0) false,.box 3 (.t 1) false,.mv 4 (.c (.bool false))] [2,3]) (.seq (.seq (.region [.f 5 2 0,.l 6 5,.f 7 3 0,.l 8 7,.b 9 .neq 6 8] [2,3,9]) (.cond (.t 9) (.seq (.region [.mv 4 (.c (.bool false))] [4]) .ret) .skip)) (.seq (.seq (.region [.f 10 2 1,.l 11 10,.f 12 3 1,.l 13 12,.b 14 .neq 11 13] [2,3,14]) (.cond (.t 14) (.seq (.region [.mv 4 (.c (.bool false))] [4]) .ret) .skip)) (.seq (.seq (.region [.f 15 2 2,.l 16 15,.f 17 3 2,.l 18 17,.b 19 .neq 16 18] [2,3,19]) (.cond (.t 19) (.seq (.region [.mv 4 (.c (.bool false))] [4]) .ret) .skip)) (.seq (.seq (.region [.f 20 2 3,.l 21 20,.f 22 3 3,.l 23 22,.b 24 .neq 21 23] [2,3,24]) (.cond (.t 24) (.seq (.region [.mv 4 (.c (.bool false))] [4]) .ret) .skip)) (.seq (.seq (.region [.f 25 2 4,.l 26 25,.f 27 3 4,.l 28 27,.b 29 .neq 26 28] [2,3,29]) (.cond (.t 29) (.seq (.region [.mv 4 (.c (.bool false))] [4]) .ret) .skip)) (.seq (.seq (.region [.f 30 2 5,.l 31 30,.f 32 3 5,.l 33 32,.cl 34 [31,33] Ox,.un 35 .not (.t 34)] [35]) (.cond (.t 35) (.seq (.region [.mv 4 (.c (.bool false))] [4]) .ret) .skip)) (.seq (.region [.mv 4 (.c (.bool true))] [4]) .ret))))))))⟩
theorem Qv:CE Try.prog 16 F9=true:=by kernel_rfl
def IN:AW:=(.seq (.block 1 [0,2,6,7,8,9] (.seq (.region [.m 57 6,.cl 58 [57] Dt,.m 10 58] [0,2,6,7,8,9,10]) (.seq (.region [.m 59 6,.m 60 10,.cl 61 [59,60] GP,.bu 62 AN [(0,1,.t 61)],.al 11 AN,.store (.t 11) (.t 62) 3 false] [0,2,6,7,8,9,11]) (.seq (.region [.m 63 6,.cl 64 [63] Dt,.m 10 64] [0,2,6,7,8,9,10,11]) (.seq (.region [.m 65 6,.m 66 10,.cl 67 [65,66] GP,.f 68 11 1,.store (.t 68) (.t 67) 1 false] [0,2,6,7,8,9,11]) (.seq (.region [.m 69 6,.cl 70 [69] Dt,.f 71 11 2,.store (.t 71) (.t 70) 1 false] [0,2,6,7,8,9,11]) (.region [.f 72 7 5,.l 73 72,.ls 74 11 3,.blst 75 AN [.t 74],.app 76 49 AN (.t 73) (.t 75),.f 77 7 5,.store (.t 77) (.t 76) 1 false] [0,2,6,7,8,9]))))))) (.region [.m 55 9,.bin 56 .add (.t 55) (.i 1),.m 9 56] [0,2,6,7,8,9]))
def IP:AW:=(.seq (.seq (.region [.m 41 9,.m 42 8,.b 43 .lss 41 42,.m 44 43,.sc 44 true [.m 45 9,.bin 46 .lss (.t 45) (.i 50)] 47 (.t 46) (.c (.bool false)),.m 48 47,.sc 48 true [.m 49 6,.n 50 49,.f 51 50 2,.l 52 51,.un 53 .not (.t 52)] 54 (.t 53) (.c (.bool false))] [0,2,6,7,8,9,54]) (.cond (.t 54) .skip (.exit 0))) IN)
def Ed:AW:=(.seq (.region [.ls 79 7 6,.cl 80 [79] Ot,.m 78 80,.ext 81 (.t 78) 0,.ext 82 (.t 78) 1,.m 12 81,.m 13 82] [0,2,6,7,12,13]) (.seq (.seq (.region [.m 83 6,.n 84 83,.f 85 84 2,.l 86 85,.m 87 86,.sc 87 false [.m 88 13,.un 89 .not (.t 88)] 90 (.c (.bool true)) (.t 89),.m 91 90,.sc 91 false [.m 92 12,.m 93 0,.b 94 .neq 92 93] 95 (.c (.bool true)) (.t 94)] [2,7,95]) (.cond (.t 95) (.seq (.region [.bnew 96 [.int .i64 0,.int .i64 0,.int .i64 0,.int .i64 0,.int .i64 0,.new 49 AN []] [],.store (.t 2) (.t 96) 6 false,.mv 3 (.c (.bool false))] [2,3]) .ret) .skip)) (.seq (.region [.ls 97 7 6,.store (.t 2) (.t 97) 6 false,.mv 3 (.c (.bool true))] [2,3]) .ret)))
def A_:CS:=⟨[.val .str],[⟨2,true,CF⟩,⟨3,false,.bool⟩],(.seq (.region [.al 2 CF,.mv 3 (.c (.bool false))] [0,2]) (.seq (.region [.m 15 0,.cl 16 [15] Ns,.m 14 16,.ext 17 (.t 14) 0,.ext 18 (.t 14) 1,.m 4 17,.m 5 18] [0,2,4,5]) (.seq (.region [.m 19 4,.m 20 5,.un 21 .not (.t 20),.bu 22 AO [(0,1,.t 19),(2,1,.t 21)],.box 23 (.t 22) false,.m 6 23] [0,2,6]) (.seq (.region [.m 24 6,.cl 25 [24] FV,.bnew 26 [.int .i64 0,.int .i64 0,.int .i64 0,.int .i64 0,.int .i64 0,.new 49 AN []] [(0,1,.t 25)],.al 7 CF,.store (.t 7) (.t 26) 6 false] [0,2,6,7]) (.seq (.region [.m 27 6,.cl 28 [27] FV,.f 29 7 1,.store (.t 29) (.t 28) 1 false] [0,2,6,7]) (.seq (.region [.m 30 6,.cl 31 [30] FV,.f 32 7 2,.store (.t 32) (.t 31) 1 false] [0,2,6,7]) (.seq (.region [.m 33 6,.cl 34 [33] FV,.f 35 7 3,.store (.t 35) (.t 34) 1 false] [0,2,6,7]) (.seq (.region [.m 36 6,.cl 37 [36] Dt,.f 38 7 4,.store (.t 38) (.t 37) 1 false] [0,2,6,7]) (.seq (.region [.m 39 6,.cl 40 [39] Dt,.m 8 40] [0,2,6,7,8]) (.seq (.seq (.region [.mv 9 (.i 0)] [0,2,6,7,8,9]) (.block 0 [0,2,6,7] (.loop [0,2,6,7,8,9] IP))) Ed))))))))))⟩
theorem O5:CE Try.prog 17 A_=true:=by kernel_rfl
def IQ:AW:=(.seq (.region [.b 36 .lss 35 34] [0,2,6,7,34,35,36]) (.seq (.cond (.t 36) .skip (.exit 0)) (.seq (.block 1 [0,2,6,7,34,35] (.seq (.region [.cl 37 [6] Eb,.bu 38 AN [(0,1,.t 37)],.al 9 AN,.store (.t 9) (.t 38) 3 false] [0,2,6,7,9,34,35]) (.seq (.region [.cl 39 [6] Eb,.f 40 9 1,.store (.t 40) (.t 39) 1 false] [0,2,6,7,9,34,35]) (.seq (.region [.cl 41 [6] Cz,.f 42 9 2,.store (.t 42) (.t 41) 1 false] [0,2,6,7,9,34,35]) (.region [.f 43 7 5,.l 44 43,.ls 45 9 3,.blst 46 AN [.t 45],.app 47 49 AN (.t 44) (.t 46),.f 48 7 5,.store (.t 48) (.t 47) 1 false] [0,2,6,7,34,35]))))) (.region [.bin 49 .add (.t 35) (.i 1),.m 35 49] [0,2,6,7,34,35]))))
def Ee:AW:=(.seq (.seq (.region [.ls 51 7 6,.cl 52 [51] Ou,.m 50 52,.ext 53 (.t 50) 0,.ext 54 (.t 50) 1,.m 10 53,.m 11 54] [0,2,6,7,10,11]) (.seq (.region [.f 55 6 2,.l 56 55,.m 57 56,.sc 57 false [.m 58 11,.un 59 .not (.t 58)] 60 (.c (.bool true)) (.t 59),.m 61 60,.sc 61 false [.m 62 10,.m 63 0,.b 64 .neq 62 63] 65 (.c (.bool true)) (.t 64)] [2,7,65]) (.cond (.t 65) (.seq (.region [.bnew 66 [.int .i64 0,.int .i64 0,.int .i64 0,.int .i64 0,.int .i64 0,.new 49 AN []] [],.store (.t 2) (.t 66) 6 false,.mv 3 (.c (.bool false))] [2,3]) .ret) .skip))) (.seq (.region [.ls 67 7 6,.store (.t 2) (.t 67) 6 false,.mv 3 (.c (.bool true))] [2,3]) .ret))
def BG:CS:=⟨[.val .str],[⟨2,true,CF⟩,⟨3,false,.bool⟩],(.seq (.region [.al 2 CF,.mv 3 (.c (.bool false))] [0,2]) (.seq (.region [.m 13 0,.cl 14 [13] Nt,.m 12 14,.ext 15 (.t 12) 0,.ext 16 (.t 12) 1,.m 4 15,.m 5 16] [0,2,4,5]) (.seq (.seq (.region [.m 17 5,.un 18 .not (.t 17)] [0,2,4,18]) (.cond (.t 18) (.seq (.region [.bnew 19 [.int .i64 0,.int .i64 0,.int .i64 0,.int .i64 0,.int .i64 0,.new 49 AN []] [],.store (.t 2) (.t 19) 6 false,.mv 3 (.c (.bool false))] [2,3]) .ret) .skip)) (.seq (.region [.m 20 4,.bu 21 AO [(0,1,.t 20)],.al 6 AO,.store (.t 6) (.t 21) 3 false] [0,2,6]) (.seq (.region [.cl 22 [6] CX,.bnew 23 [.int .i64 0,.int .i64 0,.int .i64 0,.int .i64 0,.int .i64 0,.new 49 AN []] [(0,1,.t 22)],.al 7 CF,.store (.t 7) (.t 23) 6 false] [0,2,6,7]) (.seq (.region [.cl 24 [6] CX,.f 25 7 1,.store (.t 25) (.t 24) 1 false] [0,2,6,7]) (.seq (.region [.cl 26 [6] CX,.f 27 7 2,.store (.t 27) (.t 26) 1 false] [0,2,6,7]) (.seq (.region [.cl 28 [6] CX,.f 29 7 3,.store (.t 29) (.t 28) 1 false] [0,2,6,7]) (.seq (.region [.cl 30 [6] Cz,.f 31 7 4,.store (.t 31) (.t 30) 1 false] [0,2,6,7]) (.seq (.region [.cl 32 [6] Cz,.m 8 32] [0,2,6,7,8]) (.seq (.seq (.region [.m 33 8,.min 34 (.t 33) (.i 13),.mv 35 (.i 0)] [0,2,6,7,34,35]) (.block 0 [0,2,6,7] (.loop [0,2,6,7,34,35] IQ))) Ee)))))))))))⟩
theorem O6:CE Try.prog 18 BG=true:=by kernel_rfl
def Ef:CS:=⟨[.mut CF,.val (.int .i64)],[⟨4,false,(.int .i64)⟩],(.seq (.region [.box 2 (.t 0) true,.mv 4 (.i 0)] [1,2]) (.seq (.region [.f 5 2 5,.l 6 5,.m 7 1,.cl 8 [6,7] Mg,.m 1 8] [1]) (.seq (.region [.m 9 1,.m 4 9] [4]) .ret)))⟩
theorem O7:CE Try.prog 19 Ef=true:=by kernel_rfl
def Eg:CS:=⟨[.val CO,.val (.int .i64)],[⟨4,false,(.int .i64)⟩],(.seq (.region [.box 2 (.t 0) false,.mv 4 (.i 0)] [1,2]) (.seq (.region [.f 5 2 5,.l 6 5,.m 7 1,.cl 8 [6,7] Mh,.m 1 8] [1]) (.seq (.seq (.region [.m 9 1,.bin 10 .lss (.t 9) (.i 0)] [1,10]) (.cond (.t 10) (.seq (.region [.mv 4 (.c (.int .i64 (-1)))] [4]) .ret) .skip)) (.seq (.region [.m 11 1,.m 4 11] [4]) .ret))))⟩
theorem O8:CE Try.prog 20 Eg=true:=by kernel_rfl
def Jh:AW:=(.cond (.t 39) (.seq (.region [.mv 2 (.c (.bool true))] [2]) .ret) (.seq (.region [.bin 43 .eql (.t 38) (.i 5),.m 42 43] [1,42]) (.cond (.t 42) (.seq (.region [.f 44 1 5,.l 45 44,.len 46 false (.t 45),.bin 47 .eql (.t 46) (.i 1),.m 2 47] [2]) .ret) .skip)))
def Ji:AW:=(.seq (.region [.f 48 1 5,.l 49 48,.len 50 false (.t 49),.bin 51 .eql (.t 50) (.i 0),.m 2 51] [2]) .ret)
def Jj:AW:=(.seq (.seq (.region [.f 37 1 0,.l 38 37] [1,38]) (.block 0 [1] (.seqc [1,38,39] (.seq (.region [.bin 40 .eql (.t 38) (.i 2),.m 39 40] [1,38,39]) (.cond (.t 39) .skip (.region [.bin 41 .eql (.t 38) (.i 3),.m 39 41] [1,38,39]))) Jh))) Ji)
def B6:CS:=⟨[.val CO],[⟨2,false,.bool⟩],(.seq (.region [.box 1 (.t 0) false,.mv 2 (.c (.bool false))] [1]) (.seq (.seq (.region [.f 3 1 0,.l 4 3,.cx (some 5) [.t 4,.c (.int .i64 1),.c (.int .i64 8)] CY,.un 6 .not (.t 5),.m 7 6,.sc 7 false [.f 8 1 1,.l 9 8,.cx (some 10) [.t 9,.c (.int .i64 1),.c (.int .i64 6)] CY,.un 11 .not (.t 10)] 12 (.c (.bool true)) (.t 11),.m 13 12,.sc 13 false [.f 14 1 2,.l 15 14,.cx (some 16) [.t 15,.c (.int .i64 1),.c (.int .i64 6)] CY,.un 17 .not (.t 16)] 18 (.c (.bool true)) (.t 17),.m 19 18,.sc 19 false [.f 20 1 3,.l 21 20,.cx (some 22) [.t 21,.c (.int .i64 1),.c (.int .i64 9)] CY,.un 23 .not (.t 22)] 24 (.c (.bool true)) (.t 23),.m 25 24,.sc 25 false [.f 26 1 4,.l 27 26,.cx (some 28) [.t 27,.c (.int .i64 0),.c (.int .i64 1000000000)] CY,.un 29 .not (.t 28)] 30 (.c (.bool true)) (.t 29),.m 31 30,.sc 31 false [.f 32 1 5,.l 33 32,.cl 34 [33] Oy,.un 35 .not (.t 34)] 36 (.c (.bool true)) (.t 35)] [1,36]) (.cond (.t 36) (.seq (.region [.mv 2 (.c (.bool false))] [2]) .ret) .skip)) Jj))⟩
theorem Qw:CE Try.prog 23 B6=true:=by kernel_rfl
def Jk:AW:=(.cond (.t 39) (.seq (.region [.mv 2 (.c (.bool true))] [2]) .ret) (.seq (.region [.bin 43 .eql (.t 38) (.i 5),.m 42 43] [1,42]) (.cond (.t 42) (.seq (.region [.f 44 1 5,.l 45 44,.len 46 false (.t 45),.bin 47 .eql (.t 46) (.i 1),.m 2 47] [2]) .ret) .skip)))
def Jl:AW:=(.seq (.region [.f 48 1 5,.l 49 48,.len 50 false (.t 49),.bin 51 .eql (.t 50) (.i 0),.m 2 51] [2]) .ret)
def Jm:AW:=(.seq (.seq (.region [.f 37 1 0,.l 38 37] [1,38]) (.block 0 [1] (.seqc [1,38,39] (.seq (.region [.bin 40 .eql (.t 38) (.i 2),.m 39 40] [1,38,39]) (.cond (.t 39) .skip (.region [.bin 41 .eql (.t 38) (.i 3),.m 39 41] [1,38,39]))) Jk))) Jl)
def B7:CS:=⟨[.val CO],[⟨2,false,.bool⟩],(.seq (.region [.box 1 (.t 0) false,.mv 2 (.c (.bool false))] [1]) (.seq (.seq (.region [.f 3 1 0,.l 4 3,.cx (some 5) [.t 4,.c (.int .i64 1),.c (.int .i64 8)] C0,.un 6 .not (.t 5),.m 7 6,.sc 7 false [.f 8 1 1,.l 9 8,.cl 10 [9] Ka,.un 11 .not (.t 10)] 12 (.c (.bool true)) (.t 11),.m 13 12,.sc 13 false [.f 14 1 2,.l 15 14,.cl 16 [15] Ka,.un 17 .not (.t 16)] 18 (.c (.bool true)) (.t 17),.m 19 18,.sc 19 false [.f 20 1 3,.l 21 20,.cx (some 22) [.t 21,.c (.int .i64 1),.c (.int .i64 9)] C0,.un 23 .not (.t 22)] 24 (.c (.bool true)) (.t 23),.m 25 24,.sc 25 false [.f 26 1 4,.l 27 26,.cx (some 28) [.t 27,.c (.int .i64 0),.c (.int .i64 1000000000)] C0,.un 29 .not (.t 28)] 30 (.c (.bool true)) (.t 29),.m 31 30,.sc 31 false [.f 32 1 5,.l 33 32,.cl 34 [33] Oz,.un 35 .not (.t 34)] 36 (.c (.bool true)) (.t 35)] [1,36]) (.cond (.t 36) (.seq (.region [.mv 2 (.c (.bool false))] [2]) .ret) .skip)) Jm))⟩
theorem Qx:CE Try.prog 24 B7=true:=by kernel_rfl
def Eh:CS:=⟨[.val (.int .i64)],[⟨2,false,.str⟩],(.seq (.region [.mv 2 (.c (.str ⟨#[]⟩))] [0]) (.seq (.region [.m 3 0,.cvi 4 .u8 (.t 3),.brow 5 5 (.int .u8) [.t 4],.bts 6 (.t 5),.m 2 6] [2]) .ret))⟩
theorem O9:CE Try.prog 57 Eh=true:=by kernel_rfl
def JA:AW:=(.seq (.seq (.region [.m 5 0,.bin 6 .gtr (.t 5) (.i 127)] [0,3,6]) (.cond (.t 6) .skip (.exit 0))) (.block 1 [0,3] (.seq (.region [.m 7 3,.m 8 0,.bin 9 .rem (.t 8) (.i 128),.bin 10 .add (.t 9) (.i 128),.cvi 11 .u8 (.t 10),.blst 12 (.int .u8) [.t 11],.app 13 5 (.int .u8) (.t 7) (.t 12),.m 3 13] [0,3]) (.region [.m 14 0,.bin 15 .quo (.t 14) (.i 128),.m 0 15] [0,3]))))
def JB:AW:=(.seq (.region [.m 16 3,.m 17 0,.cvi 18 .u8 (.t 17),.blst 19 (.int .u8) [.t 18],.app 20 5 (.int .u8) (.t 16) (.t 19),.bts 21 (.t 20),.m 2 21] [2]) .ret)
def CA:CS:=⟨[.val (.int .i64)],[⟨2,false,.str⟩],(.seq (.region [.mv 2 (.c (.str ⟨#[]⟩))] [0]) (.seq (.region [.brow 4 5 (.int .u8) [],.m 3 4] [0,3]) (.seq (.block 0 [0,3] (.loop [0,3] JA)) JB)))⟩
theorem Pz:CE Try.prog 58 CA=true:=by kernel_rfl
def D2:CS:=⟨[.val .str],[⟨2,false,.str⟩],(.seq (.region [.mv 2 (.c (.str ⟨#[]⟩))] [0]) (.seq (.region [.m 3 0,.len 4 true (.t 3),.cl 5 [4] Ds,.m 6 0,.b 7 .add 5 6,.m 2 7] [2]) .ret))⟩
theorem Nu:CE Try.prog 59 D2=true:=by kernel_rfl
def FW:CS:=⟨[.val .str],[⟨2,false,.str⟩,⟨3,false,.bool⟩],(.seq (.region [.mv 2 (.c (.str ⟨#[]⟩)),.mv 3 (.c (.bool false))] [0]) (.seq (.seq (.region [.m 4 0,.len 5 true (.t 4),.bin 6 .gtr (.t 5) (.i 20000)] [0,6]) (.cond (.t 6) (.seq (.region [.mv 2 (.c (.str ⟨#[]⟩)),.mv 3 (.c (.bool false))] [2,3]) .ret) .skip)) (.seq (.region [.m 7 0,.m 8 0,.cl 9 [8] Lf,.cl 10 [9] Je,.b 11 .add 7 10,.m 2 11,.mv 3 (.c (.bool true))] [2,3]) .ret)))⟩
theorem P0:CE Try.prog 60 FW=true:=by kernel_rfl
def IR:AW:=(.seq (.seq (.region [.m 4 0,.bin 5 .gtr (.t 4) (.i 127)] [0,3,5]) (.cond (.t 5) .skip (.exit 0))) (.block 1 [0,3] (.seq (.region [.m 6 3,.m 7 0,.bin 8 .rem (.t 7) (.i 128),.bin 9 .add (.i 128) (.t 8),.cvi 10 .u8 (.t 9),.blst 11 (.int .u8) [.t 10],.app 12 5 (.int .u8) (.t 6) (.t 11),.m 3 12] [0,3]) (.region [.m 13 0,.bin 14 .quo (.t 13) (.i 128),.m 0 14] [0,3]))))
def IS:AW:=(.seq (.region [.m 15 3,.m 16 0,.cvi 17 .u8 (.t 16),.blst 18 (.int .u8) [.t 17],.app 19 5 (.int .u8) (.t 15) (.t 18),.bts 20 (.t 19),.m 2 20] [2]) .ret)
def Bj:CS:=⟨[.val (.int .i64)],[⟨2,false,.str⟩],(.seq (.region [.mv 2 (.c (.str ⟨#[]⟩))] [0]) (.seq (.region [.nilrow 3 5 (.int .u8)] [0,3]) (.seq (.block 0 [0,3] (.loop [0,3] IR)) IS)))⟩
theorem O_:CE Try.prog 64 Bj=true:=by kernel_rfl
def FX:CS:=⟨[.val .str],[⟨2,false,.str⟩,⟨3,false,.bool⟩],(.seq (.region [.mv 2 (.c (.str ⟨#[]⟩)),.mv 3 (.c (.bool false))] [0]) (.seq (.seq (.region [.m 4 0,.len 5 true (.t 4),.bin 6 .gtr (.t 5) (.i 20000)] [0,6]) (.cond (.t 6) (.seq (.region [.mv 2 (.c (.str ⟨#[]⟩)),.mv 3 (.c (.bool false))] [2,3]) .ret) .skip)) (.seq (.region [.m 7 0,.m 8 0,.cl 9 [8] Jf,.b 10 .add 7 9,.m 2 10,.mv 3 (.c (.bool true))] [2,3]) .ret)))⟩
theorem P1:CE Try.prog 65 FX=true:=by kernel_rfl
def IT:AW:=(.seq (.seq (.region [.m 11 5,.m 12 0,.len 13 false (.t 12),.b 14 .lss 11 13] [0,1,5,14]) (.cond (.t 14) .skip (.exit 0))) (.seq (.block 1 [0,1,5] (.seq (.draw (QZ 10 [(1,[]),(2,[0,1]),(4,[]),(5,[]),(6,[4,5]),(8,[3,7])]) (.tk 8 [.ls 24 23 3,.idx 23 3 (.t 21) (.t 22),.m 22 5,.m 21 1,.ls 20 19 3,.idx 19 3 (.t 17) (.t 18),.m 18 5,.m 17 0] (.only 8 none (.cl 25 [20,24] Py) false [] (.tk 10 [.un 26 .not (.t 25)] .done))) [0,1,5,26]) (.cond (.t 26) (.seq (.region [.mv 4 (.c (.bool false))] [4]) .ret) .skip))) (.region [.m 15 5,.bin 16 .add (.t 15) (.i 1),.m 5 16] [0,1,5])))
def IU:AW:=(.seq (.region [.mv 4 (.c (.bool true))] [4]) .ret)
def Bk:CS:=⟨[.val (.slice AN),.val (.slice AN)],[⟨4,false,.bool⟩],(.seq (.region [.mv 4 (.c (.bool false))] [0,1]) (.seq (.seq (.region [.m 6 0,.len 7 false (.t 6),.m 8 1,.len 9 false (.t 8),.b 10 .neq 7 9] [0,1,10]) (.cond (.t 10) (.seq (.region [.mv 4 (.c (.bool false))] [4]) .ret) .skip)) (.seq (.seq (.region [.mv 5 (.i 0)] [0,1,5]) (.block 0 [] (.loop [0,1,5] IT))) IU)))⟩
theorem PA:CE Try.prog 67 Bk=true:=by kernel_rfl
def Gw:DT:=(.sk 14 false 9 16 24 (.tk 17 [.pick 24 (.t 14) (.c (.bool true)) (.t 23)] .done))
def D3:CS:=⟨[.val .str],[⟨2,false,.str⟩,⟨3,false,.bool⟩],(.seq (.region [.mv 2 (.c (.str ⟨#[]⟩)),.mv 3 (.c (.bool false))] [0]) (.seq (.region [.m 5 0,.len 6 true (.t 5),.bin 7 .sub (.t 6) (.i 4),.m 4 7] [0,4]) (.seq (.seq (.draw (QZ 17 [(8,[6]),(9,[7,8]),(10,[6]),(11,[6]),(12,[10,11]),(15,[9,14])]) (.tk 3 [.m 10 9,.bin 9 .lss (.t 8) (.i 0),.m 8 4] (.test 10 (.sk 10 false 2 5 13 (.tk 7 [.m 14 13,.pick 13 (.t 10) (.c (.bool true)) (.t 12)] Gw)) (.tg 10 false 5 [.bin 12 .gtr (.t 11) (.i 20000),.m 11 4] (.tk 7 [.m 14 13,.pick 13 (.t 10) (.c (.bool true)) (.t 12)] (.test 14 Gw (.tg 14 false 13 [.sl 20 0 (.t 18) none (some (.t 19)),.m 19 4,.m 18 0,.sl 17 0 (.t 15) (some (.t 16)) none,.m 16 4,.m 15 0] (.only 13 (some (14,false)) (.cl 21 [20] Lf) false [] (.only 14 (some (14,false)) (.cl 22 [21] Je) false [] (.tg 14 false 16 [.b 23 .neq 17 22] (.tk 17 [.pick 24 (.t 14) (.c (.bool true)) (.t 23)] .done)))))))))) [0,4,24]) (.cond (.t 24) (.seq (.region [.mv 2 (.c (.str ⟨#[]⟩)),.mv 3 (.c (.bool false))] [2,3]) .ret) .skip)) (.seq (.region [.m 25 0,.m 26 4,.sl 27 0 (.t 25) none (some (.t 26)),.m 2 27,.mv 3 (.c (.bool true))] [2,3]) .ret))))⟩
theorem Nv:CE Try.prog 68 D3=true:=by kernel_rfl
def FY:CS:=⟨[.ptr AO],[⟨2,false,(.int .i64)⟩],(.seq (.region [.mv 2 (.i 0)] [0]) (.seq (.region [.m 4 0,.cx (some 5) [.t 4,.c (.int .i64 1)] GP,.m 3 5] [0,3]) (.seq (.seq (.region [.m 6 0,.n 7 6,.f 8 7 2,.l 9 8] [3,9]) (.cond (.t 9) (.seq (.region [.mv 2 (.i 0)] [2]) .ret) .skip)) (.seq (.region [.m 10 3,.sidx 11 (.t 10) (.i 0),.cvi 12 .i64 (.t 11),.m 2 12] [2]) .ret))))⟩
theorem P2:CE Try.prog 69 FY=true:=by kernel_rfl
def FZ:CS:=⟨[.ptr AO],[⟨2,false,(.int .i64)⟩],(.seq (.region [.mv 2 (.i 0)] [0]) (.seq (.draw (QZ 16 [(4,[]),(8,[3,7]),(11,[9]),(12,[9]),(13,[10]),(14,[11,13]),(15,[12,14])]) (.tk 8 [.l 14 13,.f 13 12 1,.n 12 11,.m 11 0,.l 10 9,.f 9 8 0,.n 8 7,.m 7 0] (.only 8 none (.cl 15 [10,14] O0) false [] (.tk 16 [.m 5 18,.m 4 17,.m 3 16,.ext 18 (.t 6) 2,.ext 17 (.t 6) 1,.ext 16 (.t 6) 0,.m 6 15] .done))) [0,3,4,5]) (.seq (.seq (.region [.m 19 0,.n 20 19,.f 21 20 2,.l 22 21,.m 23 22,.sc 23 false [.m 24 5,.un 25 .not (.t 24)] 26 (.c (.bool true)) (.t 25)] [0,3,4,26]) (.cond (.t 26) (.seq (.region [.m 27 0,.n 28 27,.f 29 28 2,.store (.t 29) (.c (.bool true)) 1 false] []) (.seq (.region [.mv 2 (.i 0)] [2]) .ret)) .skip)) (.seq (.region [.m 30 0,.m 31 4,.n 32 30,.f 33 32 1,.store (.t 33) (.t 31) 1 false] [3]) (.seq (.region [.m 34 3,.m 2 34] [2]) .ret)))))⟩
theorem P3:CE Try.prog 70 FZ=true:=by kernel_rfl
def IV:AW:=(.seq (.region [.m 26 0,.m 27 0,.n 28 27,.f 29 28 1,.l 30 29,.m 31 1,.b 32 .add 30 31,.n 33 26,.f 34 33 1,.store (.t 34) (.t 32) 1 false] [0,1]) (.seq (.draw (QZ 16 [(4,[]),(8,[]),(9,[7,8]),(10,[]),(14,[3,9,13])]) (.tk 16 [.m 4 49,.sl 49 0 (.t 38) (some (.t 44)) (some (.t 48)),.l 48 47,.f 47 46 1,.n 46 45,.m 45 0,.b 44 .sub 42 43,.m 43 1,.l 42 41,.f 41 40 1,.n 40 39,.m 39 0,.l 38 37,.f 37 36 0,.n 36 35,.m 35 0] .done) [4]) .ret))
def C1:CS:=⟨[.ptr AO,.val (.int .i64)],[⟨4,false,.str⟩],(.seq (.region [.mv 4 (.c (.str ⟨#[]⟩))] [0,1]) (.seq (.seq (.draw (QZ 18 [(6,[4]),(11,[4]),(15,[10,14]),(16,[5,15])]) (.tk 5 [.m 9 8,.l 8 7,.f 7 6 2,.n 6 5,.m 5 0] (.test 9 (.sk 9 false 12 17 22 (.tk 18 [.pick 22 (.t 9) (.c (.bool true)) (.t 21)] .done)) (.tg 9 false 17 [.b 21 .gtr 10 20,.b 20 .sub 15 19,.l 19 18,.f 18 17 1,.n 17 16,.m 16 0,.len 15 true (.t 14),.l 14 13,.f 13 12 0,.n 12 11,.m 11 0,.m 10 1] (.tk 18 [.pick 22 (.t 9) (.c (.bool true)) (.t 21)] .done)))) [0,1,22]) (.cond (.t 22) (.seq (.region [.m 23 0,.n 24 23,.f 25 24 2,.store (.t 25) (.c (.bool true)) 1 false] []) (.seq (.region [.mv 4 (.c (.str ⟨#[]⟩))] [4]) .ret)) .skip)) IV))⟩
theorem PB:CE Try.prog 71 C1=true:=by kernel_rfl
def Gx:DT:=(.sk 14 false 8 15 23 (.tk 16 [.pick 23 (.t 14) (.c (.bool true)) (.t 22)] .done))
def D4:CS:=⟨[.val .str],[⟨2,false,.str⟩,⟨3,false,.bool⟩],(.seq (.region [.mv 2 (.c (.str ⟨#[]⟩)),.mv 3 (.c (.bool false))] [0]) (.seq (.region [.m 5 0,.len 6 true (.t 5),.bin 7 .sub (.t 6) (.i 4),.m 4 7] [0,4]) (.seq (.seq (.draw (QZ 16 [(8,[6]),(9,[7,8]),(11,[6]),(12,[6]),(13,[11,12]),(14,[10,13])]) (.tk 3 [.m 10 9,.bin 9 .lss (.t 8) (.i 0),.m 8 4] (.test 10 (.sk 10 false 2 5 13 (.tk 7 [.m 14 13,.pick 13 (.t 10) (.c (.bool true)) (.t 12)] Gx)) (.tg 10 false 5 [.bin 12 .gtr (.t 11) (.i 20000),.m 11 4] (.tk 7 [.m 14 13,.pick 13 (.t 10) (.c (.bool true)) (.t 12)] (.test 14 Gx (.tg 14 false 10 [.sl 17 0 (.t 15) none (some (.t 16)),.m 16 4,.m 15 0] (.tg 14 false 14 [.sl 21 0 (.t 19) (some (.t 20)) none,.m 20 4,.m 19 0] (.only 10 (some (14,false)) (.cl 18 [17] Jf) false [] (.tg 14 false 15 [.b 22 .neq 18 21] (.tk 16 [.pick 23 (.t 14) (.c (.bool true)) (.t 22)] .done)))))))))) [0,4,23]) (.cond (.t 23) (.seq (.region [.mv 2 (.c (.str ⟨#[]⟩)),.mv 3 (.c (.bool false))] [2,3]) .ret) .skip)) (.seq (.region [.m 24 0,.m 25 4,.sl 26 0 (.t 24) none (some (.t 25)),.m 2 26,.mv 3 (.c (.bool true))] [2,3]) .ret))))⟩
theorem Nw:CE Try.prog 72 D4=true:=by kernel_rfl
def Ei:AW:=(.seq (.region [.m 22 0,.n 23 22,.f 24 23 1,.l 25 24,.bin 26 .add (.t 25) (.i 1),.n 27 22,.f 28 27 1,.store (.t 28) (.t 26) 1 false] [0]) (.seq (.draw (QZ 12 [(4,[]),(9,[3,8])]) (.tk 12 [.m 2 39,.cvi 39 .i64 (.t 38),.sidx 38 (.t 32) (.t 37),.bin 37 .sub (.t 36) (.i 1),.l 36 35,.f 35 34 1,.n 34 33,.m 33 0,.l 32 31,.f 31 30 0,.n 30 29,.m 29 0] .done) [2]) .ret))
def BI:CS:=⟨[.ptr AO],[⟨2,false,(.int .i64)⟩],(.seq (.region [.mv 2 (.i 0)] [0]) (.seq (.seq (.draw (QZ 16 [(9,[4]),(14,[8,13])]) (.tk 5 [.m 7 6,.l 6 5,.f 5 4 2,.n 4 3,.m 3 0] (.test 7 (.sk 7 false 10 15 18 (.tk 16 [.pick 18 (.t 7) (.c (.bool true)) (.t 17)] .done)) (.tg 7 false 15 [.b 17 .geq 11 16,.len 16 true (.t 15),.l 15 14,.f 14 13 0,.n 13 12,.m 12 0,.l 11 10,.f 10 9 1,.n 9 8,.m 8 0] (.tk 16 [.pick 18 (.t 7) (.c (.bool true)) (.t 17)] .done)))) [0,18]) (.cond (.t 18) (.seq (.region [.m 19 0,.n 20 19,.f 21 20 2,.store (.t 21) (.c (.bool true)) 1 false] []) (.seq (.region [.mv 2 (.i 0)] [2]) .ret)) .skip)) Ei))⟩
theorem Jn:CE Try.prog 73 BI=true:=by kernel_rfl
def Bp:CS:=⟨[.ptr AO],[⟨2,false,(.int .i64)⟩],(.seq (.region [.mv 2 (.i 0)] [0]) (.seq (.draw (QZ 16 [(4,[]),(8,[3,7]),(11,[9]),(12,[9]),(13,[10]),(14,[11,13]),(15,[12,14])]) (.tk 8 [.l 14 13,.f 13 12 1,.n 12 11,.m 11 0,.l 10 9,.f 9 8 0,.n 8 7,.m 7 0] (.only 8 none (.cl 15 [10,14] Jg) false [] (.tk 16 [.m 5 18,.m 4 17,.m 3 16,.ext 18 (.t 6) 2,.ext 17 (.t 6) 1,.ext 16 (.t 6) 0,.m 6 15] .done))) [0,3,4,5]) (.seq (.seq (.region [.m 19 0,.n 20 19,.f 21 20 2,.l 22 21,.m 23 22,.sc 23 false [.m 24 5,.un 25 .not (.t 24)] 26 (.c (.bool true)) (.t 25)] [0,3,4,26]) (.cond (.t 26) (.seq (.region [.m 27 0,.n 28 27,.f 29 28 2,.store (.t 29) (.c (.bool true)) 1 false] []) (.seq (.region [.mv 2 (.i 0)] [2]) .ret)) .skip)) (.seq (.region [.m 30 0,.m 31 4,.n 32 30,.f 33 32 1,.store (.t 33) (.t 31) 1 false] [3]) (.seq (.region [.m 34 3,.m 2 34] [2]) .ret)))))⟩
theorem IW:CE Try.prog 74 Bp=true:=by kernel_rfl
def B8:CS:=⟨[.ptr AO],[⟨2,false,.str⟩],(.seq (.region [.mv 2 (.c (.str ⟨#[]⟩))] [0]) (.seq (.draw (QZ 16 [(4,[]),(8,[3,7]),(11,[9]),(12,[9]),(13,[10]),(14,[11,13]),(15,[12,14])]) (.tk 8 [.l 14 13,.f 13 12 1,.n 12 11,.m 11 0,.l 10 9,.f 9 8 0,.n 8 7,.m 7 0] (.only 8 none (.cl 15 [10,14] Mi) false [] (.tk 16 [.m 5 18,.m 4 17,.m 3 16,.ext 18 (.t 6) 2,.ext 17 (.t 6) 1,.ext 16 (.t 6) 0,.m 6 15] .done))) [0,3,4,5]) (.seq (.seq (.region [.m 19 0,.n 20 19,.f 21 20 2,.l 22 21,.m 23 22,.sc 23 false [.m 24 5,.un 25 .not (.t 24)] 26 (.c (.bool true)) (.t 25)] [0,3,4,26]) (.cond (.t 26) (.seq (.region [.m 27 0,.n 28 27,.f 29 28 2,.store (.t 29) (.c (.bool true)) 1 false] []) (.seq (.region [.mv 2 (.c (.str ⟨#[]⟩))] [2]) .ret)) .skip)) (.seq (.region [.m 30 0,.m 31 4,.n 32 30,.f 33 32 1,.store (.t 33) (.t 31) 1 false] [3]) (.seq (.region [.m 34 3,.m 2 34] [2]) .ret)))))⟩
theorem I2:CE Try.prog 75 B8=true:=by kernel_rfl
def GQ:AW:=(.seq (.seq (.region [.m 6 5,.m 7 0,.len 8 false (.t 7),.b 9 .lss 6 8] [0,1,5,9]) (.cond (.t 9) .skip (.exit 0))) (.seq (.block 1 [0,1,5] (.seq (.region [.m 12 0,.m 13 5,.m 14 1,.cl 15 [14] D1,.idx 16 3 (.t 12) (.t 13),.f 17 16 0,.store (.t 17) (.t 15) 1 false] [0,1,5]) (.seq (.region [.m 18 1,.bin 19 .add (.t 18) (.i 1),.m 1 19] [0,1,5]) (.seq (.region [.m 20 0,.m 21 5,.m 22 1,.cl 23 [22] D1,.idx 24 3 (.t 20) (.t 21),.f 25 24 1,.store (.t 25) (.t 23) 1 false] [0,1,5]) (.seq (.region [.m 26 1,.bin 27 .add (.t 26) (.i 1),.m 1 27] [0,1,5]) (.seq (.region [.m 28 0,.m 29 5,.m 30 1,.idx 31 3 (.t 28) (.t 29),.f 32 31 2,.store (.t 32) (.t 30) 1 false] [0,1,5]) (.region [.m 33 1,.bin 34 .add (.t 33) (.i 1),.m 1 34] [0,1,5]))))))) (.region [.m 10 5,.bin 11 .add (.t 10) (.i 1),.m 5 11] [0,1,5])))
def Fx:AW:=(.seq (.region [.m 35 1,.m 4 35] [4]) .ret)
def BJ:CS:=⟨[.mut (.own 49 AN),.val (.int .i64)],[⟨4,false,(.int .i64)⟩],(.seq (.region [.mv 4 (.i 0)] [0,1]) (.seq (.seq (.region [.mv 5 (.i 0)] [0,1,5]) (.block 0 [1] (.loop [0,1,5] GQ))) Fx))⟩
theorem Mj:CE Try.prog 76 BJ=true:=by kernel_rfl
def Fy:AW:=(.seq (.seq (.region [.m 6 5,.m 7 0,.len 8 false (.t 7),.b 9 .lss 6 8] [0,1,5,9]) (.cond (.t 9) .skip (.exit 0))) (.seq (.block 1 [0,1,5] (.seq (.seq (.draw (QZ 8 [(1,[]),(2,[0,1]),(5,[]),(7,[4,6])]) (.tk 6 [.m 17 1,.l 16 15,.f 15 14 0,.idx 14 3 (.t 12) (.t 13),.m 13 5,.m 12 0] (.only 6 none (.cl 18 [17] D1) false [] (.tk 8 [.b 19 .neq 16 18] .done))) [0,1,5,19]) (.cond (.t 19) (.seq (.region [.mv 4 (.c (.int .i64 (-1)))] [4]) .ret) .skip)) (.seq (.region [.m 20 1,.bin 21 .add (.t 20) (.i 1),.m 1 21] [0,1,5]) (.seq (.seq (.draw (QZ 8 [(1,[]),(2,[0,1]),(5,[]),(7,[4,6])]) (.tk 6 [.m 27 1,.l 26 25,.f 25 24 1,.idx 24 3 (.t 22) (.t 23),.m 23 5,.m 22 0] (.only 6 none (.cl 28 [27] D1) false [] (.tk 8 [.b 29 .neq 26 28] .done))) [0,1,5,29]) (.cond (.t 29) (.seq (.region [.mv 4 (.c (.int .i64 (-1)))] [4]) .ret) .skip)) (.seq (.region [.m 30 1,.bin 31 .add (.t 30) (.i 1),.m 1 31] [0,1,5]) (.seq (.seq (.region [.m 32 0,.m 33 5,.idx 34 3 (.t 32) (.t 33),.f 35 34 2,.l 36 35,.m 37 1,.b 38 .neq 36 37] [0,1,5,38]) (.cond (.t 38) (.seq (.region [.mv 4 (.c (.int .i64 (-1)))] [4]) .ret) .skip)) (.region [.m 39 1,.bin 40 .add (.t 39) (.i 1),.m 1 40] [0,1,5]))))))) (.region [.m 10 5,.bin 11 .add (.t 10) (.i 1),.m 5 11] [0,1,5])))
def Fz:AW:=(.seq (.region [.m 41 1,.m 4 41] [4]) .ret)
def BK:CS:=⟨[.val (.slice AN),.val (.int .i64)],[⟨4,false,(.int .i64)⟩],(.seq (.region [.mv 4 (.i 0)] [0,1]) (.seq (.seq (.region [.mv 5 (.i 0)] [0,1,5]) (.block 0 [1] (.loop [0,1,5] Fy))) Fz))⟩
theorem Mk:CE Try.prog 77 BK=true:=by kernel_rfl
def F_:CS:=⟨[.val (.int .i64),.val (.int .i64),.val (.int .i64)],[⟨6,false,.bool⟩],(.seq (.region [.mv 6 (.c (.bool false))] [0,1,2]) (.seq (.region [.m 7 0,.m 8 1,.b 9 .geq 7 8,.m 10 9,.sc 10 true [.m 11 0,.m 12 2,.b 13 .leq 11 12] 14 (.t 13) (.c (.bool false)),.m 6 14] [6]) .ret))⟩
theorem Qy:CE Try.prog 80 F_=true:=by kernel_rfl
def Gy:DT:=(.sk 32 false 3 21 36 (.sk 35 true 9 30 45 (.sk 32 false 1 31 46 (.tk 32 [.pick 46 (.t 32) (.c (.bool true)) (.t 45)] .done))))
def Gz:DT:=(.sk 26 false 4 16 31 (.tk 18 [.m 32 31,.pick 31 (.t 26) (.c (.bool true)) (.t 30)] Gy))
def G0:DT:=(.tg 32 false 31 [.pick 45 (.t 35) (.t 44) (.c (.bool false))] (.tk 32 [.pick 46 (.t 32) (.c (.bool true)) (.t 45)] .done))
def G1:AW:=(.seq (.seq (.region [.m 5 3,.m 6 0,.len 7 false (.t 6),.b 8 .lss 5 7] [0,3,8]) (.cond (.t 8) .skip (.exit 0))) (.seq (.block 1 [0,3] (.seq (.region [.m 11 0,.m 12 3,.idx 13 3 (.t 11) (.t 12),.ls 14 13 3,.al 4 AN,.store (.t 4) (.t 14) 3 false] [0,3,4]) (.seq (.draw (QZ 32 [(22,[20]),(24,[21,23]),(27,[20]),(29,[26,28])]) (.tk 3 [.len 17 true (.t 16),.l 16 15,.f 15 4 0] (.only 3 none (.cx (some 18) [.t 17,.c (.int .i64 1),.c (.int .i64 12)] CY) false [] (.tk 6 [.m 20 19,.un 19 .not (.t 18)] (.test 20 (.sk 20 false 4 10 25 (.tk 12 [.m 26 25,.pick 25 (.t 20) (.c (.bool true)) (.t 24)] Gz)) (.tg 20 false 10 [.bin 24 .gtr (.t 23) (.i 20),.len 23 true (.t 22),.l 22 21,.f 21 4 1] (.tk 12 [.m 26 25,.pick 25 (.t 20) (.c (.bool true)) (.t 24)] (.test 26 Gz (.tg 26 false 14 [.l 28 27,.f 27 4 2] (.only 14 (some (26,false)) (.cx (some 29) [.t 28,.c (.int .i64 1),.c (.int .i64 1000000000)] CY) false [] (.tg 26 false 16 [.un 30 .not (.t 29)] (.tk 18 [.m 32 31,.pick 31 (.t 26) (.c (.bool true)) (.t 30)] (.test 32 Gy (.tg 32 false 21 [.m 35 34,.bin 34 .gtr (.t 33) (.i 0),.m 33 3] (.test 35 (.tg 35 true 30 [.b 44 .geq 41 43,.l 43 42,.f 42 4 0,.l 41 40,.f 40 39 0,.idx 39 3 (.t 36) (.t 38),.bin 38 .sub (.t 37) (.i 1),.m 37 3,.m 36 0] G0) (.sk 35 true 9 30 45 G0))))))))))))))) [0,3,46]) (.cond (.t 46) (.seq (.region [.mv 2 (.c (.bool false))] [2]) .ret) .skip)))) (.region [.m 9 3,.bin 10 .add (.t 9) (.i 1),.m 3 10] [0,3])))
def G2:AW:=(.seq (.region [.m 47 0,.len 48 false (.t 47),.bin 49 .leq (.t 48) (.i 12),.m 2 49] [2]) .ret)
def Bl:CS:=⟨[.val (.slice AN)],[⟨2,false,.bool⟩],(.seq (.region [.mv 2 (.c (.bool false))] [0]) (.seq (.seq (.region [.mv 3 (.i 0)] [0,3]) (.block 0 [0] (.loop [0,3] G1))) G2))⟩
theorem PC:CE Try.prog 81 Bl=true:=by kernel_rfl
def Ej:CS:=⟨[.val (.int .i64),.val (.int .i64),.val (.int .i64)],[⟨6,false,.bool⟩],(.seq (.region [.mv 6 (.c (.bool false))] [0,1,2]) (.seq (.region [.m 7 0,.m 8 1,.b 9 .geq 7 8,.m 10 9,.sc 10 true [.m 11 0,.m 12 2,.b 13 .leq 11 12] 14 (.t 13) (.c (.bool false)),.m 6 14] [6]) .ret))⟩
theorem PD:CE Try.prog 82 Ej=true:=by kernel_rfl
def Fa:CS:=⟨[.val (.int .i64)],[⟨2,false,.bool⟩],(.seq (.region [.mv 2 (.c (.bool false))] [0]) (.seq (.region [.m 3 0,.cx (some 4) [.t 3,.c (.int .i64 1),.c (.int .i64 6)] C0,.m 2 4] [2]) .ret))⟩
theorem P4:CE Try.prog 83 Fa=true:=by kernel_rfl
def G3:DT:=(.sk 28 false 3 20 32 (.sk 31 true 9 29 41 (.sk 28 false 1 30 42 (.tk 31 [.pick 42 (.t 28) (.c (.bool true)) (.t 41)] .done))))
def G4:DT:=(.sk 22 false 4 15 27 (.tk 17 [.m 28 27,.pick 27 (.t 22) (.c (.bool true)) (.t 26)] G3))
def G5:DT:=(.tg 28 false 30 [.pick 41 (.t 31) (.t 40) (.c (.bool false))] (.tk 31 [.pick 42 (.t 28) (.c (.bool true)) (.t 41)] .done))
def G6:AW:=(.seq (.region [.b 8 .lss 7 6] [0,5,6,7,8]) (.seq (.cond (.t 8) .skip (.exit 0)) (.seq (.block 1 [0,5,6,7] (.seq (.region [.m 9 7,.idx 10 3 (.t 5) (.t 7),.ls 11 10 3,.al 4 AN,.m 3 9,.store (.t 4) (.t 11) 3 false] [0,3,4,5,6,7]) (.seq (.draw (QZ 31 [(22,[19]),(23,[19]),(25,[22,24]),(28,[21,27])]) (.tk 2 [.l 13 12,.f 12 4 0] (.only 2 none (.cl 14 [13] Qt) false [] (.tk 5 [.m 16 15,.un 15 .not (.t 14)] (.test 16 (.sk 16 false 4 9 21 (.tk 11 [.m 22 21,.pick 21 (.t 16) (.c (.bool true)) (.t 20)] G4)) (.tg 16 false 9 [.bin 20 .gtr (.t 19) (.i 20),.len 19 true (.t 18),.l 18 17,.f 17 4 1] (.tk 11 [.m 22 21,.pick 21 (.t 16) (.c (.bool true)) (.t 20)] (.test 22 G4 (.tg 22 false 13 [.l 24 23,.f 23 4 2] (.only 13 (some (22,false)) (.cx (some 25) [.t 24,.c (.int .i64 1),.c (.int .i64 1000000000)] C0) false [] (.tg 22 false 15 [.un 26 .not (.t 25)] (.tk 17 [.m 28 27,.pick 27 (.t 22) (.c (.bool true)) (.t 26)] (.test 28 G3 (.tg 28 false 20 [.m 31 30,.bin 30 .gtr (.t 29) (.i 0),.m 29 3] (.test 31 (.tg 31 true 29 [.b 40 .leq 33 39,.l 39 38,.f 38 37 0,.idx 37 3 (.t 34) (.t 36),.bin 36 .sub (.t 35) (.i 1),.m 35 3,.m 34 0,.l 33 32,.f 32 4 0] G5) (.sk 31 true 9 29 41 G5))))))))))))))) [0,5,6,7,42]) (.cond (.t 42) (.seq (.region [.mv 2 (.c (.bool false))] [2]) .ret) .skip)))) (.region [.bin 43 .add (.t 7) (.i 1),.m 7 43] [0,5,6,7]))))
def G7:AW:=(.seq (.region [.m 44 0,.len 45 false (.t 44),.bin 46 .leq (.t 45) (.i 12),.m 2 46] [2]) .ret)
def Bm:CS:=⟨[.val (.slice AN)],[⟨2,false,.bool⟩],(.seq (.region [.mv 2 (.c (.bool false))] [0]) (.seq (.seq (.region [.m 5 0,.len 6 false (.t 5),.mv 7 (.i 0)] [0,5,6,7]) (.block 0 [0] (.loop [0,5,6,7] G6))) G7))⟩
theorem PE:CE Try.prog 84 Bm=true:=by kernel_rfl
def Ek:CS:=⟨[.val (.int .u32)],[⟨2,false,.str⟩],(.seq (.region [.mv 2 (.c (.str ⟨#[]⟩))] [0]) (.seq (.region [.m 3 0,.bin 4 .shr (.t 3) (.c (.int .u64 24)),.cvi 5 .u8 (.t 4),.m 6 0,.bin 7 .shr (.t 6) (.c (.int .u64 16)),.cvi 8 .u8 (.t 7),.m 9 0,.bin 10 .shr (.t 9) (.c (.int .u64 8)),.cvi 11 .u8 (.t 10),.m 12 0,.cvi 13 .u8 (.t 12),.brow 14 5 (.int .u8) [.t 5,.t 8,.t 11,.t 13],.bts 15 (.t 14),.m 2 15] [2]) .ret))⟩
theorem PF:CE Try.prog 132 Ek=true:=by kernel_rfl
def GA:CS:=⟨[.val .str],[⟨2,false,(.int .u32)⟩],(.seq (.region [.mv 2 (.c (.int .u32 0))] [0]) (.seq (.region [.m 3 0,.cx (some 4) [.c (.int .u32 4294967295),.t 3] O1,.m 2 4] [2]) .ret))⟩
theorem Qz:CE Try.prog 133 GA=true:=by kernel_rfl
def El:CS:=⟨[.val .str],[⟨2,false,.str⟩],(.seq (.region [.mv 2 (.c (.str ⟨#[]⟩))] [0]) (.seq (.region [.m 4 0,.cl 5 [4] Qu,.m 3 5] [3]) (.seq (.region [.m 6 3,.bin 7 .shr (.t 6) (.c (.int .u64 24)),.cvi 8 .u8 (.t 7),.m 9 3,.bin 10 .shr (.t 9) (.c (.int .u64 16)),.cvi 11 .u8 (.t 10),.m 12 3,.bin 13 .shr (.t 12) (.c (.int .u64 8)),.cvi 14 .u8 (.t 13),.m 15 3,.cvi 16 .u8 (.t 15),.brow 17 5 (.int .u8) [.t 8,.t 11,.t 14,.t 16],.bts 18 (.t 17),.m 2 18] [2]) .ret)))⟩
theorem PG:CE Try.prog 136 El=true:=by kernel_rfl
def Fb:CS:=⟨[.val AN,.val AN],[⟨4,false,.bool⟩],(.seq (.region [.box 2 (.t 0) false,.box 3 (.t 1) false,.mv 4 (.c (.bool false))] [2,3]) (.seq (.seq (.region [.f 5 2 0,.l 6 5,.f 7 3 0,.l 8 7,.b 9 .neq 6 8] [2,3,9]) (.cond (.t 9) (.seq (.region [.mv 4 (.c (.bool false))] [4]) .ret) .skip)) (.seq (.seq (.region [.f 10 2 1,.l 11 10,.f 12 3 1,.l 13 12,.b 14 .neq 11 13] [2,3,14]) (.cond (.t 14) (.seq (.region [.mv 4 (.c (.bool false))] [4]) .ret) .skip)) (.seq (.seq (.region [.f 15 2 2,.l 16 15,.f 17 3 2,.l 18 17,.b 19 .neq 16 18] [19]) (.cond (.t 19) (.seq (.region [.mv 4 (.c (.bool false))] [4]) .ret) .skip)) (.seq (.region [.mv 4 (.c (.bool true))] [4]) .ret)))))⟩
theorem P5:CE Try.prog 137 Fb=true:=by kernel_rfl
def IX:AW:=(.seq (.block 1 [0,1,7,8,9] (.seq (.region [.m 28 7,.m 29 0,.m 30 9,.sidx 31 (.t 29) (.t 30),.cvi 32 .i64 (.t 31),.bin 33 .rem (.t 32) (.i 128),.m 34 8,.b 35 .mul 33 34,.b 36 .add 28 35,.m 7 36] [0,1,7,8,9]) (.seq (.region [.m 37 8,.bin 38 .mul (.t 37) (.i 128),.m 8 38] [0,1,7,8,9]) (.seq (.region [.m 39 0,.m 40 9,.sidx 41 (.t 39) (.t 40),.bin 42 .lss (.t 41) (.c (.int .u8 128))] [0,1,7,8,9,42]) (.cond (.t 42) (.seq (.seq (.draw (QZ 12 [(5,[2]),(6,[2]),(7,[2]),(9,[5,6,8]),(10,[4,9])]) (.tk 3 [.m 45 44,.bin 44 .gtr (.t 43) (.i 1000000000),.m 43 7] (.test 45 (.sk 45 false 8 11 54 (.tk 12 [.pick 54 (.t 45) (.c (.bool true)) (.t 53)] .done)) (.tg 45 false 4 [.m 46 7] (.tg 45 false 10 [.sl 52 0 (.t 48) (some (.t 49)) (some (.t 51)),.bin 51 .add (.t 50) (.i 1),.m 50 9,.m 49 1,.m 48 0] (.only 4 (some (45,false)) (.cl 47 [46] Ds) false [] (.tg 45 false 11 [.b 53 .neq 47 52] (.tk 12 [.pick 54 (.t 45) (.c (.bool true)) (.t 53)] .done))))))) [7,9,54]) (.cond (.t 54) (.seq (.region [.mv 4 (.i 0),.mv 5 (.i 0),.mv 6 (.c (.bool false))] [4,5,6]) .ret) .skip)) (.seq (.region [.m 55 7,.m 56 9,.bin 57 .add (.t 56) (.i 1),.m 4 55,.m 5 57,.mv 6 (.c (.bool true))] [4,5,6]) .ret)) .skip))))) (.region [.m 26 9,.bin 27 .add (.t 26) (.i 1),.m 9 27] [0,1,7,8,9]))
def IY:AW:=(.seq (.seq (.region [.m 16 9,.m 17 0,.len 18 true (.t 17),.b 19 .lss 16 18,.m 20 19,.sc 20 true [.m 21 9,.m 22 1,.bin 23 .add (.t 22) (.i 5),.b 24 .lss 21 23] 25 (.t 24) (.c (.bool false))] [0,1,7,8,9,25]) (.cond (.t 25) .skip (.exit 0))) IX)
def G8:AW:=(.seq (.region [.mv 4 (.i 0),.mv 5 (.i 0),.mv 6 (.c (.bool false))] [4,5,6]) .ret)
def BP:CS:=⟨[.val .str,.val (.int .i64)],[⟨4,false,(.int .i64)⟩,⟨5,false,(.int .i64)⟩,⟨6,false,.bool⟩],(.seq (.region [.mv 4 (.i 0),.mv 5 (.i 0),.mv 6 (.c (.bool false))] [0,1]) (.seq (.seq (.region [.m 10 1,.m 11 0,.len 12 true (.t 11),.cx (some 13) [.t 10,.c (.int .i64 0),.t 12] CY,.un 14 .not (.t 13)] [0,1,14]) (.cond (.t 14) (.seq (.region [.mv 4 (.i 0),.mv 5 (.i 0),.mv 6 (.c (.bool false))] [4,5,6]) .ret) .skip)) (.seq (.region [.mv 7 (.i 0)] [0,1,7]) (.seq (.region [.mv 8 (.i 1)] [0,1,7,8]) (.seq (.seq (.region [.m 15 1,.m 9 15] [0,1,7,8,9]) (.block 0 [] (.loop [0,1,7,8,9] IY))) G8)))))⟩
theorem PH:CE Try.prog 138 BP=true:=by kernel_rfl
def G9:AW:=(.seq (.block 1 [0,1,7,8,9] (.seq (.region [.m 31 0,.m 32 1,.m 33 9,.b 34 .add 32 33,.sidx 35 (.t 31) (.t 34),.cvi 36 .i64 (.t 35),.m 10 36] [0,1,7,8,9,10]) (.seq (.region [.m 37 7,.m 38 10,.bin 39 .rem (.t 38) (.i 128),.m 40 8,.b 41 .mul 39 40,.b 42 .add 37 41,.m 7 42] [0,1,7,8,9,10]) (.seq (.region [.m 43 8,.bin 44 .mul (.t 43) (.i 128),.m 8 44] [0,1,7,8,9,10]) (.seq (.seq (.region [.m 45 10,.bin 46 .geq (.t 45) (.i 128)] [0,1,7,8,9,10,46]) (.cond (.t 46) (.exit 1) .skip)) (.seq (.seq (.region [.m 47 10,.bin 48 .eql (.t 47) (.i 0),.m 49 48,.sc 49 true [.m 50 9,.bin 51 .gtr (.t 50) (.i 0)] 52 (.t 51) (.c (.bool false)),.m 53 52,.sc 53 false [.m 54 7,.bin 55 .gtr (.t 54) (.i 1000000000)] 56 (.c (.bool true)) (.t 55)] [1,7,9,56]) (.cond (.t 56) (.seq (.region [.mv 4 (.i 0),.mv 5 (.i 0),.mv 6 (.c (.bool false))] [4,5,6]) .ret) .skip)) (.seq (.region [.m 57 7,.m 58 1,.m 59 9,.b 60 .add 58 59,.bin 61 .add (.t 60) (.i 1),.m 4 57,.m 5 61,.mv 6 (.c (.bool true))] [4,5,6]) .ret))))))) (.region [.m 29 9,.bin 30 .add (.t 29) (.i 1),.m 9 30] [0,1,7,8,9]))
def G_:AW:=(.seq (.seq (.region [.m 19 9,.bin 20 .lss (.t 19) (.i 5),.m 21 20,.sc 21 true [.m 22 1,.m 23 9,.b 24 .add 22 23,.m 25 0,.len 26 true (.t 25),.b 27 .lss 24 26] 28 (.t 27) (.c (.bool false))] [0,1,7,8,9,28]) (.cond (.t 28) .skip (.exit 0))) G9)
def HA:AW:=(.seq (.region [.mv 4 (.i 0),.mv 5 (.i 0),.mv 6 (.c (.bool false))] [4,5,6]) .ret)
def BQ:CS:=⟨[.val .str,.val (.int .i64)],[⟨4,false,(.int .i64)⟩,⟨5,false,(.int .i64)⟩,⟨6,false,.bool⟩],(.seq (.region [.mv 4 (.i 0),.mv 5 (.i 0),.mv 6 (.c (.bool false))] [0,1]) (.seq (.seq (.region [.m 11 1,.bin 12 .lss (.t 11) (.i 0),.m 13 12,.sc 13 false [.m 14 1,.m 15 0,.len 16 true (.t 15),.b 17 .gtr 14 16] 18 (.c (.bool true)) (.t 17)] [0,1,18]) (.cond (.t 18) (.seq (.region [.mv 4 (.i 0),.mv 5 (.i 0),.mv 6 (.c (.bool false))] [4,5,6]) .ret) .skip)) (.seq (.region [.mv 7 (.i 0),.mv 8 (.i 1)] [0,1,7,8]) (.seq (.seq (.region [.mv 9 (.i 0)] [0,1,7,8,9]) (.block 0 [] (.loop [0,1,7,8,9] G_))) HA))))⟩
theorem PI:CE Try.prog 139 BQ=true:=by kernel_rfl
def GR:AW:=(.seq (.region [.m 31 0,.m 32 8,.m 33 8,.m 34 7,.b 35 .add 33 34,.sl 36 0 (.t 31) (some (.t 32)) (some (.t 35)),.m 37 8,.m 38 7,.b 39 .add 37 38,.m 4 36,.m 5 39,.mv 6 (.c (.bool true))] [4,5,6]) .ret)
def CG:CS:=⟨[.val .str,.val (.int .i64)],[⟨4,false,.str⟩,⟨5,false,(.int .i64)⟩,⟨6,false,.bool⟩],(.seq (.region [.mv 4 (.c (.str ⟨#[]⟩)),.mv 5 (.i 0),.mv 6 (.c (.bool false))] [0,1]) (.seq (.region [.m 11 0,.m 12 1,.cl 13 [11,12] Jg,.m 10 13,.ext 14 (.t 10) 0,.ext 15 (.t 10) 1,.ext 16 (.t 10) 2,.m 7 14,.m 8 15,.m 9 16] [0,7,8,9]) (.seq (.seq (.region [.m 17 9,.un 18 .not (.t 17),.m 19 18,.sc 19 false [.m 20 7,.bin 21 .gtr (.t 20) (.i 20000)] 22 (.c (.bool true)) (.t 21),.m 23 22,.sc 23 false [.m 24 7,.m 25 0,.len 26 true (.t 25),.m 27 8,.b 28 .sub 26 27,.b 29 .gtr 24 28] 30 (.c (.bool true)) (.t 29)] [0,7,8,30]) (.cond (.t 30) (.seq (.region [.mv 4 (.c (.str ⟨#[]⟩)),.mv 5 (.i 0),.mv 6 (.c (.bool false))] [4,5,6]) .ret) .skip)) GR)))⟩
theorem Ml:CE Try.prog 140 CG=true:=by kernel_rfl
def HB:AW:=(.seq (.seq (.region [.m 6 0,.bin 7 .gtr (.t 6) (.i 0)] [0,3,7]) (.cond (.t 7) .skip (.exit 0))) (.block 1 [0,3] (.seq (.region [.m 8 0,.bin 9 .rem (.t 8) (.i 10),.bin 10 .add (.i 48) (.t 9),.cvi 11 .u8 (.t 10),.brow 12 5 (.int .u8) [.t 11],.bts 13 (.t 12),.m 14 3,.b 15 .add 13 14,.m 3 15] [0,3]) (.region [.m 16 0,.bin 17 .quo (.t 16) (.i 10),.m 0 17] [0,3]))))
def HC:AW:=(.seq (.region [.m 18 3,.bin 19 .add (.c (.str ⟨#[109]⟩)) (.t 18),.m 2 19] [2]) .ret)
def BW:CS:=⟨[.val (.int .i64)],[⟨2,false,.str⟩],(.seq (.region [.mv 2 (.c (.str ⟨#[]⟩))] [0]) (.seq (.seq (.region [.m 4 0,.bin 5 .leq (.t 4) (.i 0)] [0,5]) (.cond (.t 5) (.seq (.region [.mv 2 (.c (.str ⟨#[109,48]⟩))] [2]) .ret) .skip)) (.seq (.region [.mv 3 (.c (.str ⟨#[]⟩))] [0,3]) (.seq (.block 0 [3] (.loop [0,3] HB)) HC))))⟩
theorem Nx:CE Try.prog 141 BW=true:=by kernel_rfl
def GB:CS:=⟨[.val .str],[⟨2,false,.bool⟩],(.seq (.region [.mv 2 (.c (.bool false))] [0]) (.seq (.region [.m 3 0,.len 4 true (.t 3),.cx (some 5) [.t 4,.c (.int .i64 1),.c (.int .i64 12)] C0,.m 2 5] [2]) .ret))⟩
theorem Q0:CE Try.prog 145 GB=true:=by kernel_rfl
def IZ:AW:=(.seq (.seq (.region [.m 20 6,.bin 21 .lss (.t 20) (.i 8)] [0,1,5,6,21]) (.cond (.t 21) .skip (.exit 2))) (.seq (.block 3 [0,1,5,6] (.seq (.region [.m 24 0,.bin 25 .rem (.t 24) (.c (.int .u32 2)),.bin 26 .eql (.t 25) (.c (.int .u32 1)),.m 7 26] [0,1,5,6,7]) (.seq (.region [.m 27 0,.bin 28 .quo (.t 27) (.c (.int .u32 2)),.m 0 28] [0,1,5,6,7]) (.seq (.region [.m 29 7] [0,1,5,6,29]) (.cond (.t 29) (.region [.m 30 0,.bin 31 .xor (.t 30) (.c (.int .u32 3558460437)),.m 0 31] [0,1,5,6]) .skip))))) (.region [.m 22 6,.bin 23 .add (.t 22) (.i 1),.m 6 23] [0,1,5,6])))
def HD:AW:=(.region [.m 12 5,.bin 13 .add (.t 12) (.i 1),.m 5 13] [0,1,5])
def HE:AW:=(.seq (.seq (.region [.m 8 5,.m 9 1,.len 10 true (.t 9),.b 11 .lss 8 10] [0,1,5,11]) (.cond (.t 11) .skip (.exit 0))) (.seq (.block 1 [0,1,5] (.seq (.region [.m 14 0,.m 15 1,.m 16 5,.sidx 17 (.t 15) (.t 16),.cvi 18 .u32 (.t 17),.b 19 .xor 14 18,.m 0 19] [0,1,5]) (.seq (.region [.mv 6 (.i 0)] [0,1,5,6]) (.block 2 [0,1,5] (.loop [0,1,5,6] IZ))))) HD))
def HF:AW:=(.seq (.region [.m 32 0,.m 4 32] [4]) .ret)
def BA:CS:=⟨[.val (.int .u32),.val .str],[⟨4,false,(.int .u32)⟩],(.seq (.region [.mv 4 (.c (.int .u32 0))] [0,1]) (.seq (.seq (.region [.mv 5 (.i 0)] [0,1,5]) (.block 0 [0] (.loop [0,1,5] HE))) HF))⟩
theorem PJ:CE Try.prog 161 BA=true:=by kernel_rfl
def GC:CS:=⟨[.val .str],[⟨2,false,(.int .u32)⟩],(.seq (.region [.mv 2 (.c (.int .u32 0))] [0]) (.seq (.region [.m 3 0,.cx (some 4) [.c (.int .u32 4294967295),.t 3] O2,.m 2 4] [2]) .ret))⟩
theorem Q1:CE Try.prog 163 GC=true:=by kernel_rfl
def Ia:AW:=(.seq (.region [.bin 20 .lss (.t 19) (.i 8)] [0,1,5,19,20]) (.seq (.cond (.t 20) .skip (.exit 2)) (.seq (.block 3 [0,1,5,19] (.seq (.region [.m 21 0,.bin 22 .and (.t 21) (.c (.int .u32 1)),.m 6 22] [0,1,5,6,19]) (.seq (.region [.m 23 0,.bin 24 .shr (.t 23) (.c (.int .u64 1)),.m 0 24] [0,1,5,6,19]) (.seq (.region [.m 25 6,.bin 26 .eql (.t 25) (.c (.int .u32 1))] [0,1,5,19,26]) (.cond (.t 26) (.region [.m 27 0,.bin 28 .xor (.t 27) (.c (.int .u32 3558460437)),.m 0 28] [0,1,5,19]) .skip))))) (.region [.bin 29 .add (.t 19) (.i 1),.m 19 29] [0,1,5,19]))))
def HG:AW:=(.region [.m 11 5,.bin 12 .add (.t 11) (.i 1),.m 5 12] [0,1,5])
def HH:AW:=(.seq (.seq (.region [.m 7 5,.m 8 1,.len 9 true (.t 8),.b 10 .lss 7 9] [0,1,5,10]) (.cond (.t 10) .skip (.exit 0))) (.seq (.block 1 [0,1,5] (.seq (.region [.m 13 0,.m 14 1,.m 15 5,.sidx 16 (.t 14) (.t 15),.cvi 17 .u32 (.t 16),.b 18 .xor 13 17,.m 0 18] [0,1,5]) (.seq (.region [.mv 19 (.i 0)] [0,1,5,19]) (.block 2 [0,1,5] (.loop [0,1,5,19] Ia))))) HG))
def HI:AW:=(.seq (.region [.m 30 0,.m 4 30] [4]) .ret)
def BB:CS:=⟨[.val (.int .u32),.val .str],[⟨4,false,(.int .u32)⟩],(.seq (.region [.mv 4 (.c (.int .u32 0))] [0,1]) (.seq (.seq (.region [.mv 5 (.i 0)] [0,1,5]) (.block 0 [0] (.loop [0,1,5] HH))) HI))⟩
theorem PL:CE Try.prog 177 BB=true:=by kernel_rfl
end
end Go.Proofs.Ytffahmnodgnohaa.Core

namespace Go.Proofs.Ytffahmnodgnohaa.Core
open Go Go.Shelf Go.RowKit Go.Lib
variable {P:Program} {ρ:Ren}
set_option maxHeartbeats 2000000 in
set_option maxRecDepth 100000 in
theorem UD (L:SlLaysE0.n41 P ρ) (i0:TypeInfo) (z:Value) (size bytes:Nat) (hi:P.info? (ρ.t 23)=some i0) (hz0:i0.zero=some z) (hz1:i0.size=size) (hz2:i0.bytes=bytes) (hzs:z.cells.size=size) (hsz:0<size)
  (z23:∀ w,(Go.sizeOf (ρ.t 23)).run P w=.ok size w) (ad:Addr) (n c:Nat) (news:List Value) (w:World) (hl:news.length=n*size) (hn:n<=maxLen) (hbig:n*bytes<=140737488355328)
  (hc:∀ j u,news[j]? = some u->w.cell? (ad.add j)=some u) (h1:∀ u∈news,u.oneCell'=true) :
  Calls P (ρ.f 41) #[.slice (some ad) n c] w fun e w'=>∃ v',e=.returned v'/\w'.ownsRow w.heap.size (ρ.t 23) size v' n news/\w.grownBy w' none:=by
 have mixed:=L.mixed; have t4:=L.t4; have a4:=L.a4; have z4:=L.z4; have v4:=L.v4; have t22:=L.t22; have a22:=L.a22; have z22:=L.z22; have v22:=L.v22
 have q22:∀ (w:World) (a:Option Addr) (n c n' c':Nat),(binOp .eql (ρ.t 22) (.slice a n c) (.slice none n' c')).run P w=.ok (.bool a.isNone) w:=fun w a n c n' c'=>Lib.run_eql_slice_nil w _ _ a n c n' c' L.t22
 have u22:∀ w,Sem.run P (underlying (ρ.t 22)) w=.ok (TypeDesc.slice (ρ.t 23)) w:=run_underlying t22
 have A:Aside (∀ j u,news[j]? = some u->w.cell? (ad.add j)=some u):=hc
 clear hc
 obtain ⟨_,_,FG⟩:=L.f41
 go_enter FG,SlBodyN.n41_ntmps ρ
 go_wp2_with (at_builtin; refine wpList_append_own _ rfl _ _ (ρ.t 22) rfl w.heap.size (ρ.t 23) i0 z size bytes t22 hi hz0 hz1 hz2 hzs hsz _ _ _ rfl (World.ownsRow_made w #[] 0 (Nat.le_refl _) (Nat.zero_le _) (by simp)) ad n c news rfl ?qc1 ?qc2 ?qc3 ?qc4 ?qc5 ?qc6 ?_)
 case qc1=>exact hl
 case qc2 =>
  intro j u hj
  exact Lib.cell?_alloc_some _ (A.out j u hj)
 case qc3=>exact h1
 case qc4=>rw [Nat.zero_add]; exact hn
 case qc5=>rw [Nat.zero_add]; exact hbig
 case qc6=>simp
 intro v' w1 hown hgrow hnil
 go_wp2
 go_ret
 refine ⟨v',rfl,by simpa using hown,⟨hgrow.os,hgrow.tape,hgrow.output,?_,fun k hk _=>?_⟩⟩
 ·have:=hgrow.size
  simp at this
  omega
 ·rw [hgrow.block k (by simp; omega) (by simp [Value.ownBlock]; omega)]
  simp only [World.alloc,Array.getElem?_push]
  rw [if_neg (by omega)]
set_option maxHeartbeats 1000000 in
theorem TH (L:SlLaysE0.n41 P ρ) (n c:Nat) (w:World) :
  Calls P (ρ.f 41) #[.slice none n c] w fun e w'=>e=.returned (.slice none 0 0)/\w'=w:=by
 have mixed:=L.mixed; have t4:=L.t4; have a4:=L.a4; have z4:=L.z4; have v4:=L.v4; have t22:=L.t22; have a22:=L.a22; have z22:=L.z22; have v22:=L.v22
 have q22:∀ (w:World) (a:Option Addr) (n c n' c':Nat),(binOp .eql (ρ.t 22) (.slice a n c) (.slice none n' c')).run P w=.ok (.bool a.isNone) w:=fun w a n c n' c'=>Lib.run_eql_slice_nil w _ _ a n c n' c' L.t22
 obtain ⟨_,_,FG⟩:=L.f41
 go_enter FG,SlBodyN.n41_ntmps ρ
 go_wp2
 go_ret
 exact ⟨rfl,rfl⟩
def Ky (P:Program) (f:Nat) (args bs rs:List AV):Prop :=
 MV P f/\(∀ r∈rs,r.cells.all AV.nilFree=true)/\∃ n,n+bs.length=rs.length /\
  ∀ (H:HP) (φ:At) (w:World) (cargs:List Value),SR H φ (Ah bs args) w->AM (VB H φ (Ah bs args)) (BL (CJ bs) args) cargs ->
   Calls P f cargs.toArray w fun out w'=>match out with
    | .returned v=>FT H φ w args bs (rs.drop n) (rs.take n) v w'
    | _=>False
theorem Ri {H H':HP} {φ φ':At} {w w':World} {args rs:List AV} {v:Value} (h:AI H φ (Ah [] args) w H' φ' (Ah [] rs) w') (hr:Vq H' φ' (Ah [] rs) (BL (CJ []) rs) v):FT H φ w args [] [] rs v w':=by
 refine ⟨H',φ',h.le,h.sr,h.fr _ _ _ _ _ ⟨rfl,rfl,rfl,Nat.le_refl _,fun _ _ _=>rfl,fun _ _=>rfl,fun i bi hi _ b hb=>.inr ⟨i,(AL.1 hi).1,hb⟩,fun j hj=>?_,fun _ _ _=>rfl⟩,hr⟩
 simp at hj
theorem UE {K:Kd} (L:SlLaysE0.n41 P ρ) (he:SJ P (ρ.t 23) K=true) {xs:List K.T} (hx:xs.length<=68719476736):Ky P (ρ.f 41) [.lst K xs] [] [.new (ρ.t 23) K xs]:=by
 obtain ⟨i,z,hi,hz,h1,h2,h3,h4⟩:=JQ he
 have hn:xs.length<=maxLen:=by unfold maxLen; omega
 refine ⟨?_,?_,1,rfl,fun H φ w cargs hs ha=>?_⟩
 ·obtain ⟨nm,hnm,hf⟩:=L.f41
  exact ⟨_,_,hf,hnm,rfl⟩
 ·intro r hr
  simp only [Im] at hr
  subst hr
  rfl
 ·obtain ⟨v,rest,rfl,hv,hrest⟩:=ha
  have hrest:rest=[]:=hrest
  subst hrest
  ··obtain ⟨sl,cap,e,hc,hr⟩:=(show JN (Cm H K) K.sz H xs v from hv)
    subst e
    have fin:∀ (v':Value) (w':World) (flat:List Value),w'.ownsRow w.heap.size (ρ.t 23) K.sz v' xs.length flat->BZ H K xs flat->w.grownBy w' none->FT H φ w [.lst K xs] [] [] [.new (ρ.t 23) K xs] v' w':=by
     intro v' w' flat ho hrr hg
     have hst:=JR (st:=Ah [] [.lst K xs]) hs hg ho hrr
     refine Ri (rs:=[.new (ρ.t 23) K xs]) hst ?_
     exact ⟨rfl,rfl⟩
    cases sl with
    | none =>
     have:xs=[]:=by
      rcases hr with h | ⟨_,_,_,_,_,h,_⟩
      ·exact h
      ·cases h
     subst this
     refine Calls.mono (TH L _ _ w) fun out w' h=>?_
     obtain ⟨rfl,rfl⟩:=h
     exact fin _ _ [] ⟨by simp,.inl ⟨rfl,rfl⟩⟩ (fun j x h=>by simp at h) ⟨rfl,rfl,rfl,Nat.le_refl _,fun _ _ _=>rfl⟩
    | some ad =>
     obtain ⟨sl2,cap2,flat,e2,_,hl,hrr,hcl⟩:=QC hs.hp (show JN (Cm H K) K.sz H xs (.slice (some ad) xs.length cap) from ⟨some ad,cap,rfl,hc,hr⟩)
     cases e2
     refine Calls.mono (UD L i z K.sz i.bytes hi hz h1 rfl h3 (Kd.sz_pos K) (fun w=>by simp [sizeOf,typeInfo,hi,h1]) ad xs.length cap flat w hl hn (Nat.le_trans (Nat.mul_le_mul hx h2) (by omega)) ?_ (Bh hrr hl)) fun out w' h=>?_
     ·intro j u hj
      rcases hcl with rfl | ⟨b,off,c,el,fz,ea,hb,hcc⟩
      ·have:flat=[]:=DA.1 (by rw [hl]; simp)
       rw [this] at hj
       simp at hj
      ·cases ea
       rw [Addr.add_none]
       have:=hs.hp _ _ hb
       have h5:=hcc j u hj
       simp only [World.cell?,this]
       simpa using h5
     ·obtain ⟨v',rfl,ho,hg⟩:=h
      exact fin v' w' flat ho hrr hg

theorem HJ (w:World) (dT sT ty elem:TypeId) (g o dLen dCap:Nat) (a:Addr) (sLen sCap:Nat) (cur:Array Value) (t:TypeId) (cs:List Value) (k:Nat) (i:TypeInfo)
  (hu:P.underlying dT=some (.slice elem)) (hi:P.info? elem=some i) (hg:w.heap[g]? = some (.cells cur t (0,0))) (hk:Nat.min sLen dLen=k) (hn:cs.length=k*i.size)
  (hsrc:∀ j v,cs[j]? = some v->w.cell? (a.add j)=some v) (hfit:o+cs.length<=cur.size) (h1:∀ v∈cs,v.oneCell'=true) :
  (Builtin.copy_ #[dT,sT] ty #[.slice (some ⟨g,o,none⟩) dLen dCap,.slice (some a) sLen sCap]).run P w =
   .ok (goInt k) (w.setRow g (cur.toList.take o++cs++cur.toList.drop (o+cs.length)).toArray):=by
 have hl:=run_loadCells_list (P:=P) w a cs hsrc
 have hst:=run_storeCells_at P g o t cs 0 cur w hg (by simpa using hfit) h1
 simp [Builtin.copy_,run_underlying hu,Builtin.lenOf,Builtin.firstCells,sizeOf,typeInfo,hi,hk,<- hn,hl,hst]
theorem Mm (w:World) (t tn ty e:TypeId) (i:TypeInfo) (z:Value) (kn:IntKind) (ht:P.underlying t=some (.slice e)) (htn:P.underlying tn=some (.int kn)) (hi:P.info? e=some i) (hz:i.zero=some z)
  (b:Addr) (sLen sCap:Nat) (olds:List Value) (hlo:olds.length=sLen*i.size) (holds:∀ j v,olds[j]? = some v->w.cell? (b.add j)=some v) (n:Nat) (h0:0<n) (hs:0<i.size)
  (hg:sCap<sLen+n) (h63:((sLen+n:Nat):Int)<=9223372036854775807) (h48:n*i.bytes<=281474976710656) (hfit:Builtin.nextslicecap (sLen+n) sCap*i.bytes<=281474976710656) (k:IntKind) :
  (Builtin.append_ #[t,tn] ty #[.slice (some b) sLen sCap,.int k n]).run P w =
   .ok (.slice (some ⟨w.heap.size,0,none⟩) (sLen+n) (grownCap w (sLen+n) sCap e))
    (w.drew.alloc (.cells (olds.toArray++Builtin.zeroCells z.cells n++Builtin.zeroCells z.cells (grownCap w (sLen+n) sCap e-(sLen+n))) e)):=by
 have hn:¬ (sLen+n<=sCap):=by omega
 have hw:IntKind.i64.wrap (n:Int)=n:=by rw [IntKind.wrap_i64]; omega
 have h63':¬ (9223372036854775807<((sLen:Int)+(n:Int))):=by omega
 have h48':¬ (281474976710656<Builtin.nextslicecap (sLen+n) sCap*i.bytes):=by omega
 have h48i:¬ (281474976710656<(n:Int)*(i.bytes:Int)):=by
  rw [<- Int.natCast_mul]
  omega
 have hneg:¬ ((n:Int)<0):=by omega
 have hn0:n≠0:=by omega
 have hns:¬ (n*i.size=0):=Nat.mul_ne_zero hn0 (by omega)
 have hfo:=run_firstCells_some (P:=P) w.drew i.size sLen b sLen sCap olds hlo (by simpa using holds)
 simp [Builtin.append_,run_underlying ht,run_underlying htn,sizeOf,typeInfo,zeroValue,hi,hz,asInt,asIntOf,hw,hn,hn0,hneg,hns,h63',h48',h48i,Question.forced,hfo,newRow,grownCap]
 try (congr 2; apply Array.ext'; simp [Av])
structure UF (P:Program) (ρ:Ren):Prop where
 mixed:P.follows .mixedOrders=true
 f22:Bears P (ρ.f 22) (Body2.n22 ρ)
 ov:∀ args w,(callFunc (ρ.f 29) args).run P w=((Extern.SlicesOverlaps.overlaps #[(ρ.t 24),(ρ.t 24)] #[(ρ.t 4)] args).run P w).andThen fun v w'=>.ok (.value v) w'
 t3:P.underlying (ρ.t 3)=some (TypeDesc.int IntKind.i64)
 a3:∀ w,(isAgg (ρ.t 3)).run P w=.ok false w
 z3:∀ w,(Go.sizeOf (ρ.t 3)).run P w=.ok 1 w
 v3:∀ w,(zeroValue (ρ.t 3)).run P w=.ok (Value.int IntKind.i64 0) w
 t4:P.underlying (ρ.t 4)=some (TypeDesc.bool)
 a4:∀ w,(isAgg (ρ.t 4)).run P w=.ok false w
 z4:∀ w,(Go.sizeOf (ρ.t 4)).run P w=.ok 1 w
 v4:∀ w,(zeroValue (ρ.t 4)).run P w=.ok (Value.bool false) w
 t24:P.underlying (ρ.t 24)=some (TypeDesc.slice (ρ.t 9))
 a24:∀ w,(isAgg (ρ.t 24)).run P w=.ok false w
 z24:∀ w,(Go.sizeOf (ρ.t 24)).run P w=.ok 1 w
 v24:∀ w,(zeroValue (ρ.t 24)).run P w=.ok (Value.slice none 0 0) w
set_option maxHeartbeats 4000000 in
set_option maxRecDepth 100000 in
theorem SB (L:UF P ρ) (i0:TypeInfo) (z:Value) (size bytes:Nat) (hi:P.info? (ρ.t 9)=some i0) (hz0:i0.zero=some z) (hz1:i0.size=size) (hz2:i0.bytes=bytes) (hzs:z.cells.size=size) (hsz:0<size)
  (z9:∀ w,(Go.sizeOf (ρ.t 9)).run P w=.ok size w) (v:Value) (base:Option Addr) (n cap:Nat) (hv:v=.slice base n cap) (xs:List Value) (w:World) (hown:w.ownsRow 0 (ρ.t 9) size v n xs) (ad:Addr) (m vc:Nat) (news:List Value) (hm:0<m)
  (hl:news.length=m*size) (hn:n+m<=maxLen) (hbig:(n+m)*bytes<=140737488355328) (hnews:∀ j u,news[j]? = some u->w.cell? (ad.add j)=some u) (h1:∀ u∈news,u.oneCell'=true) :
  Calls P (ρ.f 22) #[v,.int .i64 n,.slice (some ad) m vc] w fun e w'=>∃ v',e=.returned v'/\w'.ownsRow 0 (ρ.t 9) size v' (n+m) (xs++news)/\w.grownBy w' v.ownBlock/\(v'.ownBlock=v.ownBlock\/v'.ownBlock=some w.heap.size):=by
 subst hv
 have mixed:=L.mixed; have t3:=L.t3; have a3:=L.a3; have z3:=L.z3; have v3:=L.v3; have t4:=L.t4; have a4:=L.a4; have z4:=L.z4; have v4:=L.v4; have t24:=L.t24; have a24:=L.a24; have z24:=L.z24; have v24:=L.v24
 have u3:=run_underlying L.t3; have u4:=run_underlying L.t4; have u24:=run_underlying L.t24
 have hz1':¬ ((m:Int)=0):=by omega
 have hob:∀ c,(Value.slice base n c).ownBlock=(Value.slice base n cap).ownBlock:=fun c=>by cases base<;>rfl
 have hcap:n<=cap:=by
  rcases hown.2 with ⟨e,e2⟩ | ⟨g,c,cur,e,_,_,h,_⟩
  ·omega
  ·cases e; exact h
 have A:Aside (∀ j u,news[j]? = some u->w.cell? (ad.add j)=some u):=hnews
 clear hnews
 obtain ⟨_,_,FG⟩:=L.f22
 go_enter FG,Body2.n22_ntmps ρ
 go_wp2_with (at_builtin; refine wpList_append_own_at _ rfl _ _ (ρ.t 24) rfl 0 (ρ.t 9) i0 z size bytes t24 hi hz0 hz1 hz2 hzs hsz _ _ _ rfl hown ad m vc news rfl ?qc1 ?qc2 ?qc3 ?qc4 ?qc5 ?qc6 ?_)
 all_goals first
  | exact hl
  | exact A.out
  | exact h1
  | exact hn
  | exact hbig
  | exact Nat.zero_le _
  | (
   intro v' w1 ho hgrow hnil hblk
   go_wp2
   go_ret
   exact ⟨v',rfl,ho,by rw [<- hob]; exact hgrow,by rw [<- hob]; exact hblk⟩)
theorem UG {α:Type} (c V:List α) (I M N:Nat) (hI:I<=N) (hV:V.length=M) (hN:N+M<=c.length) :
  (((c.take (I+M)++(c.take N).drop I++c.drop (I+M+(N-I))).take I++V++(c.take (I+M)++(c.take N).drop I++c.drop (I+M+(N-I))).drop (I+M)).take (N+M))=c.take I++V++(c.take N).drop I:=by
 have l1:(c.take (I+M)).length=I+M:=by rw [List.length_take]; omega
 have l2:((c.take N).drop I).length=N-I:=by rw [List.length_drop,List.length_take]; omega
 have e1:(c.take (I+M)++(c.take N).drop I++c.drop (I+M+(N-I))).take I=c.take I:=by
  rw [Av,List.take_append_of_le_length (by omega),List.take_take,Nat.min_eq_left (by omega)]
 have e2:(c.take (I+M)++(c.take N).drop I++c.drop (I+M+(N-I))).drop (I+M)=(c.take N).drop I++c.drop (I+M+(N-I)):=by
  rw [Av,List.drop_append_of_le_length (by omega),List.drop_of_length_le (by omega),List.nil_append]
 rw [e1,e2,<- Av]
 have l3:(c.take I++V++(c.take N).drop I).length=N+M:=by simp only [List.length_append,l2,hV,List.length_take]; omega
 rw [List.take_append_of_le_length (by omega),<- l3,List.take_length]
theorem GD (w:World) (g:Nat) (c:Array Value):(w.setRow g c).heap.size=w.heap.size:=by
 unfold World.setRow
 exact Array.size_modify
theorem Rj {w:World} {b:Nat} {c:Array Value} {t:TypeId} {fz:Nat×Nat} (h:w.heap[b]? = some (.cells c t fz)):w.shape? b=some (t,c.size):=by simp [World.shape?,h]
theorem QS {w:World} {b o:Nat} {c:Array Value} {t:TypeId} (h:w.heap[b]? = some (.cells c t (0,0))):w.frozen? ⟨b,o,none⟩=false:=by simp [World.frozen?,h]
theorem HK {w:World} {b o:Nat} {c:Array Value} {t:TypeId} {fz:Nat×Nat} (h:w.heap[b]? = some (.cells c t fz)):w.cell? ⟨b,o,none⟩=c[o]? := by simp [World.cell?,h]
set_option maxHeartbeats 8000000 in
set_option maxRecDepth 100000 in
theorem Q2 (L:UF P ρ) (i0:TypeInfo) (z:Value) (size bytes:Nat) (hi:P.info? (ρ.t 9)=some i0) (hz0:i0.zero=some z) (hz1:i0.size=size) (hz2:i0.bytes=bytes) (hzs:z.cells.size=size) (hsz:0<size)
  (z9:∀ w,(Go.sizeOf (ρ.t 9)).run P w=.ok size w) (g n cap i:Nat) (cur:Array Value) (w:World) (hg:w.heap[g]? = some (.cells cur (ρ.t 9) (0,0))) (hcs:cur.size=cap*size) (hin:i<n) (vb m vc:Nat) (vcur:Array Value) (hgv:w.heap[vb]? = some (.cells vcur (ρ.t 9) (0,0))) (hvb:vb≠g)
  (hm:0<m) (hroom:n+m<=cap) (hcm:cap<=maxLen) (hvl:m*size<=vcur.size) (h1:∀ u∈cur.toList.take (n*size),u.oneCell'=true) (h1v:∀ u∈vcur.toList.take (m*size),u.oneCell'=true) (hkB:cur.size≠0) :
  Calls P (ρ.f 22) #[.slice (some ⟨g,0,none⟩) n cap,.int .i64 i,.slice (some ⟨vb,0,none⟩) m vc] w fun e w'=>e=.returned (.slice (some ⟨g,0,none⟩) (n+m) cap) /\
   ∃ cur',w'.heap[g]? = some (.cells cur' (ρ.t 9) (0,0))/\cur'.size=cap*size/\cur'.toList.take ((n+m)*size)=cur.toList.take (i*size)++vcur.toList.take (m*size)++(cur.toList.take (n*size)).drop (i*size)/\w.grownBy w' (some g):=by
 have mixed:=L.mixed; have t3:=L.t3; have a3:=L.a3; have z3:=L.z3; have v3:=L.v3; have t4:=L.t4; have a4:=L.a4; have z4:=L.z4; have v4:=L.v4; have t24:=L.t24; have a24:=L.a24; have z24:=L.z24; have v24:=L.v24
 have u3:=run_underlying L.t3; have u4:=run_underlying L.t4; have u24:=run_underlying L.t24
 have hcm':cap<=9223372036854775807:=hcm
 have hz1':¬ ((m:Int)=0):=by omega
 have hz2':¬ ((i:Int)=(n:Int)):=by omega
 have hw1:IntKind.i64.wrap ((i:Int)+(m:Int))=(i:Int)+(m:Int):=by rw [IntKind.wrap_i64]; omega
 have hw2:IntKind.i64.wrap ((n:Int)+(m:Int))=(n:Int)+(m:Int):=by rw [IntKind.wrap_i64]; omega
 have hb1:(0:Int)<=(i:Int)+(m:Int):=by omega
 have hin':i<=n:=by omega
 have htn:((i:Int)+(m:Int)).toNat=i+m:=by omega
 have htn2:((n:Int)+(m:Int)).toNat=n+m:=by omega
 have hb2:¬ (cap=i+m):=by omega
 have hb3:(i:Int)<=(n:Int)+(m:Int):=by omega
 have hb4:¬ (cap=i):=by omega
 have hb5:¬ ((n:Int)+(m:Int)>(cap:Int)):=by omega
 have hov:∀ o lb cb,(callFunc (ρ.f 29) #[.slice (some ⟨vb,0,none⟩) m vc,.slice (some ⟨g,o,none⟩) lb cb]).run P w=.ok (.value (.bool false)) w:=fun o lb cb=>by
  rw [L.ov,Lib.run_overlaps_apart w (ρ.t 24) (ρ.t 4) (ρ.t 9) L.t24 size z9 ⟨vb,0,none⟩ ⟨g,o,none⟩ m vc lb cb hvb _ _ _ _ (Rj hgv) (Rj hg) hkB (QS hgv) (QS hgv)]
  rfl
 have e1:(i+m)*size=i*size+m*size:=Nat.add_mul i m size
 have e2:(n+m)*size=n*size+m*size:=Nat.add_mul n m size
 have e3:(n-i)*size=n*size-i*size:=Nat.sub_mul n i size
 have e4:i*size<=n*size:=Aw size hin'
 have e5:n*size+m*size<=cur.size:=by rw [hcs,<- e2]; exact Aw size hroom
 have lm:((cur.toList.take (n*size)).drop (i*size)).length=(n-i)*size:=by rw [List.length_drop,List.length_take,Array.length_toList,e3]; omega
 have hcp1:∀ ty dc sc,(Builtin.copy_ #[(ρ.t 24),(ρ.t 24)] ty #[.slice (some ⟨g,(i+m)*size,none⟩) (n+m-(i+m)) dc,.slice (some ⟨g,i*size,none⟩) (n+m-i) sc]).run P w.drew=.ok (goInt ((n-i:Nat):Int)) (w.drew.setRow g (cur.toList.take ((i+m)*size)++(cur.toList.take (n*size)).drop (i*size)++cur.toList.drop ((i+m)*size+((cur.toList.take (n*size)).drop (i*size)).length)).toArray):=fun ty dc sc =>
  HJ w.drew _ _ ty (ρ.t 9) g ((i+m)*size) (n+m-(i+m)) dc ⟨g,i*size,none⟩ (n+m-i) sc cur (ρ.t 9) _ (n-i) i0 L.t24 hi hg (by simp only [Nat.min_def]; split<;>omega) (by rw [lm,hz1])
   (fun j v hj=>by
    rw [Addr.add_none]
    have:w.drew.cell? ⟨g,i*size+j,none⟩=cur[i*size+j]? := HK hg
    rw [this,<- hj,BH,Ar]
    have:i*size+j<n*size:=by
     have:=(AL.1 hj).1
     omega
    rw [if_pos this,Array.getElem?_toList])
   (by rw [lm,e1,e3]; omega) (fun v hv=>h1 v (List.mem_of_mem_drop hv))
 obtain ⟨cur1,hcur1⟩:∃ c1,c1=(cur.toList.take ((i+m)*size)++(cur.toList.take (n*size)).drop (i*size)++cur.toList.drop ((i+m)*size+((cur.toList.take (n*size)).drop (i*size)).length)).toArray:=⟨_,rfl⟩
 rw [<- hcur1] at hcp1
 have hs1:cur1.size=cap*size:=by
  rw [hcur1,List.size_toArray]
  simp only [List.length_append,List.length_take,List.length_drop,Array.length_toList,e1]
  omega
 have hg1:(w.drew.setRow g cur1).heap[g]? = some (.cells cur1 (ρ.t 9) (0,0)):=setRow_heap w.drew g cur cur1 (ρ.t 9) _ hg
 have hgv1:(w.drew.setRow g cur1).heap[vb]? = some (.cells vcur (ρ.t 9) (0,0)):=by rw [setRow_other w.drew g vb cur1 hvb]; exact hgv
 have lv:(vcur.toList.take (m*size)).length=m*size:=by rw [List.length_take,Array.length_toList]; omega
 have hcp2:∀ (W:World),W.heap=(w.drew.setRow g cur1).heap->∀ ty dc,(Builtin.copy_ #[(ρ.t 24),(ρ.t 24)] ty #[.slice (some ⟨g,i*size,none⟩) (n+m-i) dc,.slice (some ⟨vb,0,none⟩) m vc]).run P W=.ok (goInt m) (W.setRow g (cur1.toList.take (i*size)++vcur.toList.take (m*size)++cur1.toList.drop (i*size+(vcur.toList.take (m*size)).length)).toArray):=fun W hW ty dc =>
  HJ W _ _ ty (ρ.t 9) g (i*size) (n+m-i) dc ⟨vb,0,none⟩ m vc cur1 (ρ.t 9) _ m i0 L.t24 hi (by rw [hW]; exact hg1) (by simp only [Nat.min_def]; split<;>omega) (by rw [lv,hz1])
   (fun j v hj=>by
    rw [Addr.add_none,HK (by rw [hW]; exact hgv1),<- hj,Ar,Nat.zero_add]
    have:j<m*size:=by
     have:=(AL.1 hj).1
     omega
    rw [if_pos this,Array.getElem?_toList])
   (by rw [lv]; omega) h1v
 clear e1 e2 e3
 obtain ⟨_,_,FG⟩:=L.f22
 go_enter FG,Body2.n22_ntmps ρ
 go_wp2_with (simp only [hov])
 go_region_law_o (refine step_copy_runI rfl _ _ (ρ.t 24) (ρ.t 24) rfl _ _ (by simp [Act.eval,Act.put]) (by simp [Act.eval,Act.put]) (hcp1 _ _ _) ?_)
 go_wp2_with (at_builtin; refine wpList_copy_runI _ rfl _ _ (ρ.t 24) (ρ.t 24) rfl _ _ rfl rfl (hcp2 _ rfl _ _) ?_)
 go_ret
 have e1:(i+m)*size=i*size+m*size:=Nat.add_mul i m size
 have e2:(n+m)*size=n*size+m*size:=Nat.add_mul n m size
 have e3:(n-i)*size=n*size-i*size:=Nat.sub_mul n i size
 have e6:cur.toList.length=cap*size:=by rw [Array.length_toList,hcs]
 have e7:vcur.toList.length=vcur.size:=Array.length_toList
 refine ⟨rfl,_,setRow_heap _ g _ _ _ _ (setRow_heap w.drew g cur _ (ρ.t 9) _ hg),?_,?_,⟨rfl,rfl,rfl,by rw [GD,GD]; exact Nat.le_refl _,fun k hk hne=>?_⟩⟩
 ·simp only [List.size_toArray,List.length_append,List.length_take,List.length_drop,e1,e3,e6,e7]
  omega
 ·have:=UG cur.toList (vcur.toList.take (m*size)) (i*size) (m*size) (n*size) e4 lv (by omega)
  simp only [e1,e2,e3]
  simpa only [Av] using this
 ·have hk':k≠g:=fun e=>hne (by rw [e])
  rw [setRow_other _ g k _ hk',setRow_other _ g k _ hk']
  rfl
set_option maxHeartbeats 8000000 in
set_option maxRecDepth 100000 in
theorem Rk (L:UF P ρ) (i0:TypeInfo) (z:Value) (size bytes:Nat) (hi:P.info? (ρ.t 9)=some i0) (hz0:i0.zero=some z) (hz1:i0.size=size) (hz2:i0.bytes=bytes) (hzs:z.cells.size=size) (hsz:0<size)
  (z9:∀ w,(Go.sizeOf (ρ.t 9)).run P w=.ok size w) (g n cap i:Nat) (cur:Array Value) (w:World) (hg:w.heap[g]? = some (.cells cur (ρ.t 9) (0,0))) (hcs:cur.size=cap*size) (hin:i<n) (vb m vc:Nat) (vcur:Array Value) (hgv:w.heap[vb]? = some (.cells vcur (ρ.t 9) (0,0))) (hvb:vb≠g)
  (hm:0<m) (hnc:n<=cap) (hroom:cap<n+m) (hcm:n+m<=68719476736) (hby:bytes<=2048) (hvl:m*size<=vcur.size) (h1:∀ u∈cur.toList.take (n*size),u.oneCell'=true) (h1v:∀ u∈vcur.toList.take (m*size),u.oneCell'=true) :
  Calls P (ρ.f 22) #[.slice (some ⟨g,0,none⟩) n cap,.int .i64 i,.slice (some ⟨vb,0,none⟩) m vc] w fun e w'=>∃ cap',e=.returned (.slice (some ⟨w.heap.size,0,none⟩) (n+m) cap')/\n+m<=cap'/\cap'<=maxLen /\
   ∃ cur',w'.heap[w.heap.size]? = some (.cells cur' (ρ.t 9) (0,0))/\cur'.size=cap'*size/\cur'.toList.take ((n+m)*size)=cur.toList.take (i*size)++vcur.toList.take (m*size)++(cur.toList.take (n*size)).drop (i*size)/\w.grownBy w' none:=by
 have mixed:=L.mixed; have t3:=L.t3; have a3:=L.a3; have z3:=L.z3; have v3:=L.v3; have t4:=L.t4; have a4:=L.a4; have z4:=L.z4; have v4:=L.v4; have t24:=L.t24; have a24:=L.a24; have z24:=L.z24; have v24:=L.v24
 have u3:=run_underlying L.t3; have u4:=run_underlying L.t4; have u24:=run_underlying L.t24
 have hcm':n+m<=9223372036854775807:=by omega
 have hz1':¬ ((m:Int)=0):=by omega
 have hz2':¬ ((i:Int)=(n:Int)):=by omega
 have hw1:IntKind.i64.wrap ((i:Int)+(m:Int))=(i:Int)+(m:Int):=by rw [IntKind.wrap_i64]; omega
 have hw2:IntKind.i64.wrap ((n:Int)+(m:Int))=(n:Int)+(m:Int):=by rw [IntKind.wrap_i64]; omega
 have hw3:IntKind.i64.wrap ((n:Int)+(m:Int)-(i:Int))=(n:Int)+(m:Int)-(i:Int):=by rw [IntKind.wrap_i64]; omega
 have hb1:(0:Int)<=(i:Int)+(m:Int):=by omega
 have hin':i<=n:=by omega
 have htn:((i:Int)+(m:Int)).toNat=i+m:=by omega
 have htn2:((n:Int)+(m:Int)).toNat=n+m:=by omega
 have hb4:¬ (cap=i):=by omega
 have hb5:(n:Int)+(m:Int)>(cap:Int):=by omega
 have hb6:¬ (cap=0):=by omega
 have e1:(i+m)*size=i*size+m*size:=Nat.add_mul i m size
 have e2:(n+m)*size=n*size+m*size:=Nat.add_mul n m size
 have e3:(n-i)*size=n*size-i*size:=Nat.sub_mul n i size
 have e4:i*size<=n*size:=Aw size hin'
 have e5:n*size<=cur.size:=by rw [hcs]; exact Aw size hnc
 have lo:(cur.toList.take (i*size)).length=i*size:=by rw [List.length_take,Array.length_toList]; omega
 have lv:(vcur.toList.take (m*size)).length=m*size:=by rw [List.length_take,Array.length_toList]; omega
 have lm:((cur.toList.take (n*size)).drop (i*size)).length=(n-i)*size:=by rw [List.length_drop,List.length_take,Array.length_toList,e3]; omega
 have hgl:g<w.heap.size:=(Array.getElem?_eq_some_iff.1 hg).1
 have hvl2:vb<w.heap.size:=(Array.getElem?_eq_some_iff.1 hgv).1
 have hbb:(n+m)*bytes<=140737488355328:=Nat.le_trans (Nat.mul_le_mul hcm hby) (by omega)
 obtain ⟨C,new,hap,hC1,hC2,hns,hnt⟩:∃ (C:Nat) (new:Array Value),(∀ ty,(Builtin.append_ #[(ρ.t 24),(ρ.t 3)] ty #[.slice (some ⟨g,0,none⟩) i cap,.int .i64 ((n:Int)+(m:Int)-(i:Int))]).run P w=.ok (.slice (some ⟨w.heap.size,0,none⟩) (n+m) C) (w.drew.alloc (.cells new (ρ.t 9)))) /\
   n+m<=C/\C<=maxLen/\new.size=C*size/\new.toList.take (i*size)=cur.toList.take (i*size):=by
  have hsum:i+(n+m-i)=n+m:=by omega
  have hge:=grownCap_ge w (n+m) cap (ρ.t 9)
  refine ⟨grownCap w (n+m) cap (ρ.t 9),(cur.toList.take (i*size)).toArray++Builtin.zeroCells z.cells (n+m-i)++Builtin.zeroCells z.cells (grownCap w (n+m) cap (ρ.t 9)-(n+m)),fun ty=>?_,hge,grownCap_le_maxLen _ _ _ _ (by unfold maxLen; omega),?_,?_⟩
  ·have:=Mm (P:=P) w (ρ.t 24) (ρ.t 3) ty (ρ.t 9) i0 z .i64 L.t24 L.t3 hi hz0 ⟨g,0,none⟩ i cap (cur.toList.take (i*size)) (by rw [lo,hz1]) (fun j v hj=>by
     rw [Addr.add_none,HK hg,<- hj,Ar,Nat.zero_add]
     have:j<i*size:=by
      have:=(AL.1 hj).1
      omega
     rw [if_pos this,Array.getElem?_toList]) (n+m-i) (by omega) (by omega) (by omega) (by omega) (by rw [hz2]; exact Nat.le_trans (Aw bytes (Nat.sub_le _ _)) (by omega)) (by rw [hsum,hz2]; exact growslice_fits hroom hbb) .i64
   rw [hsum,show ((n+m-i:Nat):Int)=(n:Int)+(m:Int)-(i:Int) by omega] at this
   exact this
  ·simp only [Array.size_append,List.size_toArray,size_zeroCells,hzs,lo,<- Nat.add_mul]
   congr 1
   omega
  ·simp only [Array.toList_append,Av]
   exact (congrArg (fun k=>List.take k _) lo.symm).trans (by rw [List.take_left])
 have hW1:(w.drew.alloc (.cells new (ρ.t 9))).heap[w.heap.size]? = some (.cells new (ρ.t 9) (0,0)):=heap_alloc_new w.drew _
 have hW1o:∀ k,k<w.heap.size->(w.drew.alloc (.cells new (ρ.t 9))).heap[k]? = w.heap[k]? := fun k hk=>heap_alloc_old w.drew _ hk
 have e8:i*size+m*size<=new.size:=by rw [hns,<- e1]; exact Aw size (by omega)
 have e9:n*size+m*size<=new.size:=by rw [hns,<- e2]; exact Aw size (by omega)
 have hcp1:∀ (W:World),W.heap=(w.drew.alloc (.cells new (ρ.t 9))).heap->∀ ty dc,(Builtin.copy_ #[(ρ.t 24),(ρ.t 24)] ty #[.slice (some ⟨w.heap.size,i*size,none⟩) (n+m-i) dc,.slice (some ⟨vb,0,none⟩) m vc]).run P W=.ok (goInt m) (W.setRow w.heap.size (new.toList.take (i*size)++vcur.toList.take (m*size)++new.toList.drop (i*size+(vcur.toList.take (m*size)).length)).toArray):=fun W hW ty dc =>
  HJ W _ _ ty (ρ.t 9) w.heap.size (i*size) (n+m-i) dc ⟨vb,0,none⟩ m vc new (ρ.t 9) _ m i0 L.t24 hi (by rw [hW]; exact hW1) (by simp only [Nat.min_def]; split<;>omega) (by rw [lv,hz1])
   (fun j v hj=>by
    rw [Addr.add_none,HK (by rw [hW,hW1o vb hvl2]; exact hgv),<- hj,Ar,Nat.zero_add]
    have:j<m*size:=by
     have:=(AL.1 hj).1
     omega
    rw [if_pos this,Array.getElem?_toList])
   (by rw [lv]; omega) h1v
 obtain ⟨cur1,hcur1⟩:∃ c1,c1=(new.toList.take (i*size)++vcur.toList.take (m*size)++new.toList.drop (i*size+(vcur.toList.take (m*size)).length)).toArray:=⟨_,rfl⟩
 rw [<- hcur1] at hcp1
 have hln:new.toList.length=new.size:=Array.length_toList
 have hs1:cur1.size=C*size:=by
  rw [hcur1,List.size_toArray,<- hns]
  simp only [List.length_append,List.length_take,List.length_drop,hln,lv]
  omega
 have hcp2:∀ (W:World),W.heap=((w.drew.alloc (.cells new (ρ.t 9))).setRow w.heap.size cur1).heap->∀ ty dc sc,(Builtin.copy_ #[(ρ.t 24),(ρ.t 24)] ty #[.slice (some ⟨w.heap.size,(i+m)*size,none⟩) (n+m-(i+m)) dc,.slice (some ⟨g,i*size,none⟩) (n-i) sc]).run P W=.ok (goInt ((n-i:Nat):Int)) (W.setRow w.heap.size (cur1.toList.take ((i+m)*size)++(cur.toList.take (n*size)).drop (i*size)++cur1.toList.drop ((i+m)*size+((cur.toList.take (n*size)).drop (i*size)).length)).toArray):=fun W hW ty dc sc =>
  HJ W _ _ ty (ρ.t 9) w.heap.size ((i+m)*size) (n+m-(i+m)) dc ⟨g,i*size,none⟩ (n-i) sc cur1 (ρ.t 9) _ (n-i) i0 L.t24 hi (by rw [hW]; exact setRow_heap _ _ new cur1 _ _ hW1) (by simp only [Nat.min_def]; split<;>omega) (by rw [lm,hz1])
   (fun j v hj=>by
    rw [Addr.add_none,HK (by rw [hW,setRow_other _ _ g _ (by omega),hW1o g hgl]; exact hg),<- hj,BH,Ar]
    have:i*size+j<n*size:=by
     have:=(AL.1 hj).1
     omega
    rw [if_pos this,Array.getElem?_toList])
   (by rw [lm,hs1,<- hns,e1,e3]; omega) (fun v hv=>h1 v (List.mem_of_mem_drop hv))
 have fin:(cur1.toList.take ((i+m)*size)++(cur.toList.take (n*size)).drop (i*size)++cur1.toList.drop ((i+m)*size+((cur.toList.take (n*size)).drop (i*size)).length)).take ((n+m)*size)=cur.toList.take (i*size)++vcur.toList.take (m*size)++(cur.toList.take (n*size)).drop (i*size):=by
  have l1:(new.toList.take (i*size)).length=i*size:=by rw [List.length_take,hln]; omega
  have t1:cur1.toList.take ((i+m)*size)=cur.toList.take (i*size)++vcur.toList.take (m*size):=by
   rw [hcur1,<- hnt,e1]
   have l2:(new.toList.take (i*size)++vcur.toList.take (m*size)).length=i*size+m*size:=by rw [List.length_append,l1,lv]
   exact (congrArg (fun k=>List.take k _) l2.symm).trans (by rw [List.take_left])
  rw [t1]
  have l3:(cur.toList.take (i*size)++vcur.toList.take (m*size)++(cur.toList.take (n*size)).drop (i*size)).length=(n+m)*size:=by
   simp only [List.length_append,lo,lv,lm,e2,e3]
   omega
  exact (congrArg (fun k=>List.take k _) l3.symm).trans (by rw [List.take_left])
 obtain ⟨cur2,hcur2⟩:∃ c2,c2=(cur1.toList.take ((i+m)*size)++(cur.toList.take (n*size)).drop (i*size)++cur1.toList.drop ((i+m)*size+((cur.toList.take (n*size)).drop (i*size)).length)).toArray:=⟨_,rfl⟩
 rw [<- hcur2] at hcp2
 have hs2:cur2.size=C*size:=by
  rw [hcur2,List.size_toArray,<- hs1]
  simp only [List.length_append,List.length_take,List.length_drop,Array.length_toList,lm,e1,e3]
  omega
 have fin2:cur2.toList.take ((n+m)*size)=cur.toList.take (i*size)++vcur.toList.take (m*size)++(cur.toList.take (n*size)).drop (i*size):=by rw [hcur2]; exact fin
 clear e1 e2 e3 hcur1 hcur2 fin
 obtain ⟨W1,hW1d⟩:∃ W1,W1=w.drew.alloc (.cells new (ρ.t 9)):=⟨_,rfl⟩
 have hWs:W1.heap.size=w.heap.size+1:=by rw [hW1d]; exact Array.size_push _
 have hWos:W1.os=w.os/\W1.tape=w.tape/\W1.output=w.output:=by rw [hW1d]; exact ⟨rfl,rfl,rfl⟩
 rw [<- hW1d] at hW1 hW1o hcp1 hcp2 hap
 clear hW1d
 have hcp3:=hcp2 (W1.setRow w.heap.size cur1).drew rfl
 clear hcp2
 have hb7:¬ (C=i+m):=by omega
 have hb8:¬ (C=i):=by omega
 obtain ⟨_,_,FG⟩:=L.f22
 go_enter FG,Body2.n22_ntmps ρ
 go_wp2_with (at_builtin; refine Lib.wpList_append_run _ rfl _ _ (ρ.t 24) (ρ.t 3) rfl _ _ rfl rfl _ _ (hap _) ?_)
 go_region_law_o (refine step_copy_runI rfl _ _ (ρ.t 24) (ρ.t 24) rfl _ _ (by simp [Act.eval,Act.put]) (by simp [Act.eval,Act.put]) (hcp3 _ _ _) ?_)
 go_wp2
 go_ret
 refine ⟨C,rfl,hC1,hC2,cur2,setRow_heap _ _ cur1 cur2 _ _ (setRow_heap _ _ new cur1 _ _ hW1),hs2,fin2,⟨hWos.1,hWos.2.1,hWos.2.2,?_,fun k hk _=>?_⟩⟩
 ·rw [GD]
  show w.heap.size<=(W1.setRow w.heap.size cur1).heap.size
  rw [GD,hWs]
  omega
 ·rw [setRow_other _ _ k _ (by omega)]
  show (W1.setRow w.heap.size cur1).heap[k]? = _
  rw [setRow_other _ _ k _ (by omega),hW1o k hk]
theorem Rl {H:HP} {K:Kd} {xs:List K.T} {f:List Value} (h:BZ H K xs f) (i:Nat):BZ H K (xs.take i) (f.take (i*K.sz)):=by
 intro j x hx
 rw [Ar] at hx
 split at hx
 ·rename_i hj
  have:=h j x hx
  have hle:(j+1)*K.sz<=i*K.sz:=Aw _ hj
  rw [Nat.succ_mul] at hle
  rw [List.drop_take,List.take_take,Nat.min_eq_left (by omega)]
  exact this
 ·cases hx
theorem Rm {H:HP} {K:Kd} {xs:List K.T} {f:List Value} (h:BZ H K xs f) (i:Nat):BZ H K (xs.drop i) (f.drop (i*K.sz)):=by
 intro j x hx
 rw [BH] at hx
 have:=h _ x hx
 rw [List.drop_drop,<- Nat.add_mul]
 exact this
theorem Q3 {H:HP} {φ:At} {w w':World} {t:TypeId} {K:Kd} {xs vs ys:List K.T} {n:Int} {v':Value} {flat:List Value}
  (hs:SR H φ (Ah [] [.new t K xs,.int .i64 n,.new t K vs]) w) (hg:w.grownBy w' (BV (φ 0))) (hb:∀ b,BV v'=some b->BV (φ 0)=some b\/w.heap.size<=b)
  (ho:w'.ownsRow 0 t K.sz v' ys.length flat) (hr:BZ H K ys flat):FT H φ w [.new t K xs,.int .i64 n,.new t K vs] [] [] [.new t K ys] v' w':=by
 have hout:∀ b,BV (φ 0)=some b->H b=none:=fun b h=>hs.out 0 (.rows t K xs) rfl rfl b h
 have hlt:∀ b o,H b=some o->b<w.heap.size:=fun b o h=>(Array.getElem?_eq_some_iff.1 (hs.hp b o h)).1
 refine ⟨H,fun _=>v',HP.le_refl H,⟨fun b o h=>?_,fun id bx hid=>?_,fun i j bi bj hi hj _ _ hne=>?_,fun i bi hi _ b hv=>?_,fun id cs hid=>?_⟩,⟨hg.os,hg.tape,hg.output,hg.size,fun b hlt hne=>hg.block b hlt (fun e=>hne 0 (by show 0<2; omega) e.symm),fun j hj=>by simp at hj,fun i bi hi _ b hv=>?_,fun j hj=>by simp at hj,fun _ _ _=>rfl⟩,⟨rfl,rfl⟩⟩
 ·rw [hg.block b (hlt b o h) (fun e=>by rw [hout b e.symm] at h; cases h)]
  exact hs.hp b o h
 ·cases id with
  | zero=>cases hid; exact ⟨flat,ho,hr⟩
  | succ k=>cases hid
 ·cases i with
  | succ k=>cases hi
  | zero =>
   cases j with
   | succ k=>cases hj
   | zero=>exact absurd rfl hne
 ·cases hh:H b with
  | none=>rfl
  | some o =>
   rcases hb b hv with h | h
   ·rw [hout b h] at hh; cases hh
   ·have:=hlt b o hh; omega
 ·cases id with
  | zero=>cases hid
  | succ k=>cases hid
 ·rcases hb b hv with h | h
  ·exact .inr ⟨0,(by show 0<2; omega),h⟩
  ·exact .inl h
theorem TI {K:Kd} (L:UF P ρ) (he:SJ P (ρ.t 9) K=true) {xs vs:List K.T} {i:Nat} (hx:xs.length+vs.length<=68719476736) (hv:vs≠[]) (hi:i<=xs.length) :
  Ky P (ρ.f 22) [.new (ρ.t 9) K xs,.int .i64 i,.new (ρ.t 9) K vs] [] [.new (ρ.t 9) K (xs.take i++vs++xs.drop i)]:=by
 obtain ⟨i0,z,hi0,hz,h1,h2,h3,h4⟩:=JQ he
 have hm:0<vs.length:=List.length_pos_iff.2 hv
 have hsz:=Kd.sz_pos K
 refine ⟨?_,?_,1,rfl,fun H φ w cargs hs ha=>?_⟩
 ·obtain ⟨nm,hnm,hf⟩:=L.f22
  exact ⟨_,_,hf,hnm,rfl⟩
 ·intro r hr
  simp only [Im] at hr
  subst hr
  rfl
 ·obtain ⟨v0,r0,rfl,hv0,ha⟩:=ha
  obtain ⟨v1,r1,rfl,hv1,ha⟩:=ha
  obtain ⟨v2,r2,rfl,hv2,ha⟩:=ha
  have hr2:r2=[]:=ha
  subst hr2
  have e0:v0=φ 0:=hv0.1
  have e1:v1=.int .i64 i:=hv1
  have e2:v2=φ 1:=hv2.1
  subst e0 e1 e2
  obtain ⟨flat,ho,hr⟩:=hs.box 0 (.rows (ρ.t 9) K xs) rfl
  obtain ⟨flatv,hov,hrv⟩:=hs.box 1 (.rows (ρ.t 9) K vs) rfl
  have hnew:(xs.take i++vs++xs.drop i).length=xs.length+vs.length:=by simp only [List.length_append,List.length_take,List.length_drop]; omega
  have hnil:vs.length≠0:=by omega
  obtain ⟨gv,capv,curv,ev,_,hgv,hcv,hcmv,hsv,htv⟩:=hov.2.resolve_left (fun h=>hnil h.2)
  have hlv:vs.length*K.sz<=curv.size:=by rw [hsv]; exact Aw _ hcv
  have hn:xs.length+vs.length<=maxLen:=by unfold maxLen; omega
  have hbb:(xs.length+vs.length)*i0.bytes<=140737488355328:=Nat.le_trans (Nat.mul_le_mul hx h2) (by omega)
  have hcv2:∀ j u,flatv[j]? = some u->w.cell? ((⟨gv,0,none⟩:Addr).add j)=some u:=fun j u hj=>by
   rw [Addr.add_none,HK hgv,Nat.zero_add]
   rw [<- htv,Ar] at hj
   split at hj
   ·rwa [Array.getElem?_toList] at hj
   ·cases hj
  have one:(w.ownsRow 0 (ρ.t 9) K.sz (φ 1) vs.length flatv):=hov
  rw [ev]
  by_cases hin:i=xs.length
  ·subst hin
   obtain ⟨base,n,cap,e0,hnn⟩:∃ base n cap,φ 0=.slice base n cap/\n=xs.length:=by
    rcases ho.2 with ⟨e,h⟩ | ⟨g,cap,cur,e,_⟩
    ·exact ⟨none,0,0,e,h.symm⟩
    ·exact ⟨_,_,_,e,rfl⟩
   subst hnn
   refine Calls.mono (SB L i0 z K.sz i0.bytes hi0 hz h1 rfl h3 hsz (fun w=>by simp [sizeOf,typeInfo,hi0,h1]) (φ 0) base _ cap e0 flat w ho ⟨gv,0,none⟩ vs.length capv flatv hm hov.1 hn hbb hcv2 (Bh hrv hov.1)) fun out w' h=>?_
   obtain ⟨v',rfl,ho',hg,hbk⟩:=h
   have hbv:∀ {v:Value} {n:Nat} {fl:List Value} {ww:World},ww.ownsRow 0 (ρ.t 9) K.sz v n fl->BV v=v.ownBlock:=fun h=>by
    rcases h.2 with ⟨e,_⟩ | ⟨g,c,cu,e,_⟩<;>rw [e]<;>rfl
   have hbl:BV (φ 0)=(φ 0).ownBlock:=by rw [e0]; cases base<;>rfl
   refine Q3 (flat:=flat++flatv) hs (by rw [hbl]; exact hg) (fun b hb=>?_) (by rw [hnew]; exact ho') ?_
   ·rw [hbv ho'] at hb
    rcases hbk with h | h
    ·exact .inl (by rw [hbl,<- h]; exact hb)
    ·rw [h] at hb
     cases hb
     exact .inr (Nat.le_refl _)
   ·rw [List.take_length,List.drop_length,List.append_nil]
    exact Dr hr ho.1 hrv
  ·have hlt:i<xs.length:=by omega
   obtain ⟨g,cap,cur,e0,_,hg,hc,hcm,hsc,ht⟩:=ho.2.resolve_left (fun h=>by omega)
   have hne:gv≠g:=fun e=>hs.sep 0 1 _ _ rfl rfl rfl rfl (by decide) g (by rw [e0]; rfl) (by rw [ev,e]; rfl)
   rw [e0]
   have z9:∀ w,(Go.sizeOf (ρ.t 9)).run P w=.ok K.sz w:=fun w=>by simp [sizeOf,typeInfo,hi0,h1]
   have hcap0:cur.size≠0:=by
    have:=Aw K.sz hc
    have h5:0<xs.length*K.sz:=Nat.mul_pos (by omega) hsz
    omega
   have htk:cur.toList.take (i*K.sz)=flat.take (i*K.sz):=by
    rw [<- ht,List.take_take,Nat.min_eq_left (Aw _ hi)]
   have hrow:∀ (cur':Array Value),cur'.toList.take ((xs.length+vs.length)*K.sz)=cur.toList.take (i*K.sz)++curv.toList.take (vs.length*K.sz)++(cur.toList.take (xs.length*K.sz)).drop (i*K.sz)->cur'.toList.take ((xs.length+vs.length)*K.sz)=flat.take (i*K.sz)++flatv++flat.drop (i*K.sz):=fun cur' h=>by rw [h,htk,htv,ht]
   have hlf:(flat.take (i*K.sz)++flatv++flat.drop (i*K.sz)).length=(xs.length+vs.length)*K.sz:=by
    have h5:=ho.1
    have h6:=hov.1
    have h7:i*K.sz<=xs.length*K.sz:=Aw _ hi
    simp only [List.length_append,List.length_take,List.length_drop,h5,h6,Nat.add_mul]
    omega
   have hrr:BZ H K (xs.take i++vs++xs.drop i) (flat.take (i*K.sz)++flatv++flat.drop (i*K.sz)):=by
    have h5:=ho.1
    have h7:i*K.sz<=xs.length*K.sz:=Aw _ hi
    have l1:(flat.take (i*K.sz)).length=(xs.take i).length*K.sz:=by rw [List.length_take,List.length_take,Nat.min_eq_left hi,h5]; omega
    refine Dr (Dr (Rl hr i) l1 hrv) ?_ (Rm hr i)
    rw [List.length_append,List.length_append,l1,hov.1,Nat.add_mul]
   by_cases hroom:xs.length+vs.length<=cap
   ·refine Calls.mono (Q2 L i0 z K.sz i0.bytes hi0 hz h1 rfl h3 hsz z9 g xs.length cap i cur w hg hsc hlt gv vs.length capv curv hgv hne hm hroom hcm hlv (by rw [ht]; exact Bh hr ho.1) (by rw [htv]; exact Bh hrv hov.1) hcap0) fun out w' h=>?_
    obtain ⟨rfl,cur',g1,g2,g3,g4⟩:=h
    refine Q3 hs (by rw [e0]; exact g4) (fun b hb=>.inl (by rw [e0]; exact hb)) (flat:=flat.take (i*K.sz)++flatv++flat.drop (i*K.sz)) ?_ hrr
    rw [hnew]
    exact ⟨hlf,.inr ⟨g,cap,cur',rfl,Nat.zero_le _,g1,hroom,hcm,g2,hrow cur' g3⟩⟩
   ·refine Calls.mono (Rk L i0 z K.sz i0.bytes hi0 hz h1 rfl h3 hsz z9 g xs.length cap i cur w hg hsc hlt gv vs.length capv curv hgv hne hm hc (by omega) hx h2 hlv (by rw [ht]; exact Bh hr ho.1) (by rw [htv]; exact Bh hrv hov.1)) fun out w' h=>?_
    obtain ⟨cap',rfl,g5,g6,cur',g1,g2,g3,g4⟩:=h
    refine Q3 hs ⟨g4.os,g4.tape,g4.output,g4.size,fun k hk _=>g4.block k hk (by simp)⟩ (fun b hb=>.inr (by cases hb; exact Nat.le_refl _)) (flat:=flat.take (i*K.sz)++flatv++flat.drop (i*K.sz)) ?_ hrr
    rw [hnew]
    exact ⟨hlf,.inr ⟨w.heap.size,cap',cur',rfl,Nat.zero_le _,g1,g5,g6,g2,hrow cur' g3⟩⟩
def Sd (t:TypeId) (K:Kd) (args bs:List AV):Option (List AV) :=
 match args,bs with
 | [.lst K' xs],[]=>if h:K'=K then (if xs.length<=68719476736 then some [.new t K (h▸xs)] else none) else none
 | _,_=>none
theorem WR {t:TypeId} {K:Kd} {xs:List K.T} (h:xs.length<=68719476736):Sd t K [.lst K xs] []=some [.new t K xs]:=by simp [Sd,h]
theorem WS {K:Kd} (L:SlLaysE0.n41 P ρ) (he:SJ P (ρ.t 23) K=true) {args bs rs:List AV} (h:Sd (ρ.t 23) K args bs=some rs):Ky P (ρ.f 41) args bs rs:=by
 unfold Sd at h
 split at h
 ·split at h
  ·rename_i hk
   subst hk
   split at h
   ·cases h
    exact UE L he (by assumption)
   ·cases h
  ·cases h
 ·cases h
def VK (t:TypeId) (K:Kd) (args bs:List AV):Option (List AV) :=
 match args,bs with
 | [.new t1 K1 xs,.int k i,.new t2 K2 vs],[]=>if h1:K1=K then (if h2:K2=K then (if t1=t/\t2=t/\k=.i64/\0<=i/\i<=xs.length/\vs.length≠0/\xs.length+vs.length<=68719476736 then
   some [.new t K ((h1▸xs).take i.toNat++(h2▸vs)++(h1▸xs).drop i.toNat)] else none) else none) else none
 | _,_=>none
theorem Wk {t:TypeId} {K:Kd} {xs vs:List K.T} {i:Nat} (h:xs.length+vs.length<=68719476736) (hi:i<=xs.length) (hv:vs.length≠0):VK t K [.new t K xs,.int .i64 i,.new t K vs] []=some [.new t K (xs.take i++vs++xs.drop i)]:=by
 have hi':(i:Int)<=(xs.length:Int):=by omega
 have h0:(0:Int)<=(i:Int):=by omega
 simp only [VK,dif_pos,true_and]
 rw [if_pos ⟨h0,hi',hv,h⟩,BM]
theorem Wl {K:Kd} (L:UF P ρ) (he:SJ P (ρ.t 9) K=true) {args bs rs:List AV} (h:VK (ρ.t 9) K args bs=some rs):Ky P (ρ.f 22) args bs rs:=by
 unfold VK at h
 split at h
 ·split at h
  ·rename_i hk
   subst hk
   split at h
   ·rename_i hk2
    subst hk2
    split at h
    ·rename_i hc
     obtain ⟨rfl,rfl,rfl,h0,hi,hv,hx⟩:=hc
     cases h
     rename_i n _
     obtain ⟨m,rfl⟩:=Int.eq_ofNat_of_zero_le h0
     exact TI L he hx (fun e=>hv (by rw [e]; rfl)) (by omega)
    ·cases h
   ·cases h
  ·cases h
 ·cases h
def WT (args bs:List AV):Option (List AV) :=
 match args,bs with
 | [.str a,.str b],[]=>some [.int .i64 (Lib.compareBytes a.data.toList b.data.toList)]
 | _,_=>none
theorem Wm (L:Lays.n106 P ρ) {args bs rs:List AV} (h:WT args bs=some rs):Ky P (ρ.f 106) args bs rs:=by
 unfold WT at h
 split at h
 ·cases h
  rename_i a b
  refine ⟨⟨_,_,L.f106,by rfl,rfl⟩,?_,1,rfl,fun H φ w cargs hs ha=>?_⟩
  ·intro r hr
   simp only [Im] at hr
   subst hr
   rfl
  ·obtain ⟨v0,r0,rfl,hv0,ha⟩:=ha
   obtain ⟨v1,r1,rfl,hv1,ha⟩:=ha
   have hr1:r1=[]:=ha
   subst hr1
   have e0:v0=.string a:=hv0
   have e1:v1=.string b:=hv1
   subst e0 e1
   refine Calls.mono (Any.strings_Compare L a b w) fun out w' h=>?_
   obtain ⟨rfl,rfl⟩:=h
   exact Ri (rs:=[.int .i64 (Lib.compareBytes a.data.toList b.data.toList)]) (AI.refl hs) rfl
 ·cases h
theorem Se {H:HP} {φ:At} {w w':World} {t:TypeId} {K:Kd} {xs ys:List K.T} {ags:List AV} {v':Value} {flat:List Value} (hst:Ah [] (.new t K xs::ags)=[.rows t K xs])
  (hs:SR H φ (Ah [] (.new t K xs::ags)) w) (hg:w.grownBy w' (BV (φ 0))) (hb:∀ b,BV v'=some b->BV (φ 0)=some b\/w.heap.size<=b)
  (ho:w'.ownsRow 0 t K.sz v' ys.length flat) (hr:BZ H K ys flat):FT H φ w (.new t K xs::ags) [] [] [.new t K ys] v' w':=by
 have hbx:(Ah [] (.new t K xs::ags))[0]? = some (.rows t K xs):=by rw [hst]; rfl
 have hout:∀ b,BV (φ 0)=some b->H b=none:=fun b h=>hs.out 0 (.rows t K xs) hbx rfl b h
 have hlt:∀ b o,H b=some o->b<w.heap.size:=fun b o h=>(Array.getElem?_eq_some_iff.1 (hs.hp b o h)).1
 refine ⟨H,fun _=>v',HP.le_refl H,⟨fun b o h=>?_,fun id bx hid=>?_,fun i j bi bj hi hj _ _ hne=>?_,fun i bi hi _ b hv=>?_,fun id cs hid=>?_⟩,⟨hg.os,hg.tape,hg.output,hg.size,fun b hlt hne=>hg.block b hlt (fun e=>hne 0 (by rw [hst]; show 0<1; omega) e.symm),fun j hj=>by simp at hj,fun i bi hi _ b hv=>?_,fun j hj=>by simp at hj,fun _ _ _=>rfl⟩,⟨rfl,rfl⟩⟩
 ·rw [hg.block b (hlt b o h) (fun e=>by rw [hout b e.symm] at h; cases h)]
  exact hs.hp b o h
 ·cases id with
  | zero=>cases hid; exact ⟨flat,ho,hr⟩
  | succ k=>cases hid
 ·cases i with
  | succ k=>cases hi
  | zero =>
   cases j with
   | succ k=>cases hj
   | zero=>exact absurd rfl hne
 ·cases hh:H b with
  | none=>rfl
  | some o =>
   rcases hb b hv with h | h
   ·rw [hout b h] at hh; cases hh
   ·have:=hlt b o hh; omega
 ·cases id with
  | zero=>cases hid
  | succ k=>cases hid
 ·rcases hb b hv with h | h
  ·exact .inr ⟨0,(by rw [hst]; show 0<1; omega),h⟩
  ·exact .inl h

structure WU (P:Program) (g:Nat):Prop where
 eg:∀ args w,(callFunc g args).run P w=.ok (.enter g args) w
 says:∀ (n x:Int) (b o:Nat) (W:World),W.cell? ⟨b,o,none⟩=some (.int .i64 n) ->
  Calls P g #[.int .i64 x,.pointer (some ⟨b,o,none⟩)] W fun e w'=>e=.returned (.bool (x==n))/\∃ q,w'=W.drewN q
set_option maxHeartbeats 2000000 in
theorem Rn (L:SlLaysH.n10 P ρ) (fv:Value) (w:World) :
  Calls P (ρ.f 10) #[.slice none 0 0,fv] w fun e w'=>e=.returned (.slice none 0 0)/\w'=w:=by
 have mixed:=L.mixed; have t0:=L.t0; have a0:=L.a0; have z0:=L.z0; have v0:=L.v0; have t3:=L.t3; have a3:=L.a3; have z3:=L.z3; have v3:=L.v3; have t4:=L.t4; have a4:=L.a4; have z4:=L.z4; have v4:=L.v4; have t22:=L.t22; have a22:=L.a22; have z22:=L.z22; have v22:=L.v22; have a23:=L.a23; have z23:=L.z23; have t25:=L.t25; have a25:=L.a25; have z25:=L.z25; have v25:=L.v25
 have e6:∀ args w,(callFunc (ρ.f 6) args).run P w=.ok (.enter (ρ.f 6) args) w:=L.f6.enters rfl
 have hIF:=AnyE.slices_IndexFunc_empty (P:=P) (ρ:=ρ) { L with } none 0 fv w
 obtain ⟨_,_,FG⟩:=L.f10
 go_enter FG,SlBodyH.n10_ntmps ρ
 go_wp2_with (go_at_fn (ρ.f 6); refine hIF.mono ?_; rintro e w' ⟨rfl,rfl⟩)
 go_ret
 exact ⟨rfl,rfl⟩
theorem Lh {α:Type} [Inhabited α] (enc:α->Value) (w:World) (b off:Nat) (d:Array α):(Sort.putRow enc w b off d).heap.size=w.heap.size:=by
 simp [Sort.putRow,Sort.mapBlock]
theorem Li {α:Type} [Inhabited α] (enc:α->Value) (w:World) (b off k:Nat) (d:Array α) (h:k≠b):(Sort.putRow enc w b off d).heap[k]? = w.heap[k]? := by
 simp only [Sort.putRow,Sort.mapBlock,Array.getElem?_modify]
 rw [if_neg (fun e=>h e.symm)]
theorem Mn {α:Type} [Inhabited α] (enc:α->Value) (w:World) (b off:Nat) (d:Array α) {c:Array Value} {e:TypeId} {fr:Nat×Nat} (h:w.heap[b]? = some (.cells c e fr)) :
  (Sort.putRow enc w b off d).heap[b]? = some (.cells (Sort.putCells enc off d c) e fr):=by
 simp only [Sort.putRow,Sort.mapBlock,Array.getElem?_modify,if_true,h,Option.map_some,Sort.onCells]
theorem SC (L:SlLaysH.n10 P ρ) (hv:∀ w,(zeroValue (ρ.t 23)).run P w=.ok (.int .i64 0) w) {g:Nat} (E:WU P g) {xs:List Int} {n:Int} :
  Ky P (ρ.f 10) [.new (ρ.t 23) (.int .i64) xs,.clo g (.int .i64) n] [] [.new (ρ.t 23) (.int .i64) (xs.filter fun x=>!(x==n))]:=by
 refine ⟨?_,?_,1,rfl,fun H φ w cargs hs ha=>?_⟩
 ·obtain ⟨nm,hnm,hf⟩:=L.f10
  exact ⟨_,_,hf,hnm,rfl⟩
 ·intro r hr
  simp only [Im] at hr
  subst hr
  rfl
 ·obtain ⟨v0,r0,rfl,hv0,ha⟩:=ha
  obtain ⟨v1,r1,rfl,hv1,ha⟩:=ha
  have hr1:r1=[]:=ha
  subst hr1
  have e0:v0=φ 0:=hv0.1
  subst e0
  obtain ⟨b,o,c,el,fz,e1,hb,vs,hvs,hvc⟩:=(show RJ H g (Cm H (.int .i64) n) v1 from hv1)
  have hvs:vs=[.int .i64 n]:=hvs
  subst hvs e1
  have hcn:c[o]? = some (.int .i64 n):=hvc 0 _ rfl
  have hwb:=hs.hp _ _ hb
  have hbl:b<w.heap.size:=(Array.getElem?_eq_some_iff.1 hwb).1
  have hcell:w.cell? ⟨b,o,none⟩=some (.int .i64 n):=by rw [HK hwb]; exact hcn
  obtain ⟨flat,ho,hr⟩:=hs.box 0 (.rows (ρ.t 23) (.int .i64) xs) rfl
  have hstk:Ah [] [AV.new (ρ.t 23) (.int .i64) xs,.clo g (.int .i64) n]=[.rows (ρ.t 23) (.int .i64) xs]:=rfl
  have hout:∀ bb,BV (φ 0)=some bb->H bb=none:=fun bb h=>hs.out 0 (.rows (ρ.t 23) (.int .i64) xs) rfl rfl bb h
  obtain ⟨hfl,⟨e0,hx⟩ | ⟨gb,cap,cur,e0,hle,hg,hc,hcm,hsc,ht⟩⟩:=ho
  ·have:xs=[]:=DA.1 (by omega)
   subst this
   rw [e0]
   refine Calls.mono (Rn L _ w) fun out w' h=>?_
   obtain ⟨rfl,rfl⟩:=h
   exact Se hstk hs ⟨rfl,rfl,rfl,Nat.le_refl _,fun _ _ _=>rfl⟩ (fun b hb=>by simp [BV] at hb) (flat:=[]) ⟨by simp,.inl ⟨rfl,rfl⟩⟩ (fun j x h=>by simp at h)
  ·have hne:b≠gb:=fun e=>by
    have:=hout gb (by rw [e0]; rfl)
    rw [<- e] at this
    rw [this] at hb; cases hb
   have hgl:gb<w.heap.size:=(Array.getElem?_eq_some_iff.1 hg).1
   have hflat:∀ j (h:j<xs.length),cur[j]? = some (.int .i64 xs[j]):=fun j hj=>by
    have h1:(flat.drop (j*1)).take 1=[.int .i64 xs[j]]:=hr j xs[j] (List.getElem?_eq_getElem hj)
    have h4:((flat.drop (j*1)).take 1)[0]? = some (.int .i64 xs[j]):=by rw [h1]; rfl
    have h5:flat[j]? = some (.int .i64 xs[j]):=by simpa using h4
    rw [<- ht] at h5
    have h6:j<xs.length*Kd.sz (.int .i64):=by simpa [Kd.sz] using hj
    rw [Ar,if_pos h6,Array.getElem?_toList] at h5
    exact h5
   have hH:Sort.Holds (Value.int .i64) w gb 0 xs.toArray:=fun j hj=>by
    have hj':j<xs.length:=by simpa using hj
    have hx:xs.toArray[j]! = xs[j]:=by simp [hj']
    refine ⟨?_,?_⟩
    ·rw [HK hg,Nat.zero_add,hflat j hj',hx]
    ·simp [World.frozen?,hg]
   have hp:PredAt P g #[.pointer (some ⟨b,o,none⟩)] (Value.int .i64) (fun x=>x==n) w:=fun W x hB=>E.says n x b o W ((hB.cell (p:=⟨b,o,none⟩) hbl).trans hcell)
   have hpo:PredOver P g #[.pointer (some ⟨b,o,none⟩)] (Value.int .i64) (fun x=>x==n) gb 0 xs.toArray.size w:=fun k os dk x _=>E.says n x b o _ (by
    unfold sortWorld
    rw [Sort.cell?_grow _ _ _ (by show b<(Sort.putRow _ _ _ _ _).heap.size; rw [Lh]; exact hbl),Sort.cell?_putRow_other _ _ gb 0 _ _ (Or.inl hne)]
    exact hcell)
   have hcm':cap<=9223372036854775807:=hcm
   have hcall:=AnyE.slices_DeleteFunc L (Value.int .i64) (fun _=>rfl) (fun x=>x==n) g #[.pointer (some ⟨b,o,none⟩)] E.eg 0 hv gb 0 cap xs.toArray w hp hpo hH (by simp; omega) (by simpa using hc)
   rw [e0]
   refine Calls.mono (by simpa using hcall) fun out w' h=>?_
   obtain ⟨rfl,q,rfl⟩:=h
   have hfl':(xs.filter fun x=>!(x==n)).length<=xs.length:=List.length_filter_le _ _
   generalize hys:(xs.filter fun x=>!(x==n))=ys at hfl' ⊢
   have hd:(ys++List.replicate (xs.length-ys.length) 0).length=xs.length:=by simp; omega
   generalize hdd:(ys++List.replicate (xs.length-ys.length) (0:Int))=zs at hd ⊢
   refine Se (flat:=ys.map (Value.int .i64)) hstk hs ⟨rfl,rfl,rfl,?_,fun k hk hne2=>?_⟩ (fun b hb=>.inl (by rw [e0]; exact hb)) ?_ ?_
   ·rw [Lh]; exact Nat.le_refl _
   ·rw [Li _ _ _ _ _ _ (fun e=>hne2 (by rw [e0,e]; rfl))]; rfl
   ·refine ⟨by simp [Kd.sz],.inr ⟨gb,cap,_,rfl,Nat.zero_le _,Mn _ _ _ _ _ (show (Sort.ahead w q).heap[gb]? = _ from hg),by omega,hcm,by simpa [Sort.putCells] using hsc,?_⟩⟩
    apply List.ext_getElem?
    intro j
    have hcs:cur.size=cap:=by simpa [Kd.sz] using hsc
    rw [Ar]
    by_cases hj:j<ys.length
    ·have h6:j<ys.length*Kd.sz (.int .i64):=by simpa [Kd.sz] using hj
     have hj2:j<cur.size:=by omega
     rw [if_pos h6,Array.getElem?_toList,Sort.putCells,Array.getElem?_mapIdx,Array.getElem?_eq_getElem hj2]
     have h7:zs.toArray[j-0]! = ys[j]:=by
      subst hdd
      simp [AT hj,hj]
     simp only [Option.map_some,Ax,List.getElem?_eq_getElem hj]
     rw [if_pos ⟨Nat.zero_le _,by simp; omega⟩,h7]
    ·have h6:¬ j<ys.length*Kd.sz (.int .i64):=by simpa [Kd.sz] using hj
     rw [if_neg h6,Ax,B4 (by omega)]; rfl
   ·intro j x hx
    show ((ys.map (Value.int .i64)).drop (j*1)).take 1=[.int .i64 x]
    have hj:=(AL.1 hx).1
    have hxj:=(AL.1 hx).2
    rw [Nat.mul_one,List.drop_eq_getElem_cons (by simpa using hj)]
    simp [hxj]
def Sf (t g:Nat) (args bs:List AV):Option (List AV) :=
 match args,bs with
 | [.new t1 (.int k) xs,.clo g1 (.int k1) n],[]=>if t1=t/\g1=g/\k=.i64/\k1=.i64 then
   some [.new t (.int .i64) ((show List Int from xs).filter fun x=>!(x==(show Int from n)))] else none
 | _,_=>none
theorem WV {t g:Nat} {xs:List Int} {n:Int}:Sf t g [.new t (.int .i64) xs,.clo g (.int .i64) n] []=some [.new t (.int .i64) (xs.filter fun x=>!(x==n))]:=by
 simp [Sf]
theorem WW (L:SlLaysH.n10 P ρ) (hv:∀ w,(zeroValue (ρ.t 23)).run P w=.ok (.int .i64 0) w) {g:Nat} (E:WU P g) {args bs rs:List AV} (h:Sf (ρ.t 23) g args bs=some rs):Ky P (ρ.f 10) args bs rs:=by
 unfold Sf at h
 split at h
 ·split at h
  ·rename_i hc
   obtain ⟨rfl,rfl,rfl,rfl⟩:=hc
   cases h
   exact SC L hv E
  ·cases h
 ·cases h

theorem Ro {a b c:World} {r:Option Nat} (h:a.grownBy b r) (g:b.grownBy c r):a.grownBy c r :=
 ⟨g.os.trans h.os,g.tape.trans h.tape,g.output.trans h.output,Nat.le_trans h.size g.size,fun k hk hn=>(g.block k (Nat.lt_of_lt_of_le hk h.size) hn).trans (h.block k hk hn)⟩
theorem TJ {a b:World} {r:Option Nat} (h:a.grownBy b none):a.grownBy b r:=⟨h.os,h.tape,h.output,h.size,fun k hk _=>h.block k hk (by simp)⟩
theorem Hv (w:World) (p:Addr) (v:Value):w.grownBy (w.setCell p v) (some p.block) :=
 ⟨rfl,rfl,rfl,by simp [World.setCell],fun k _ hk=>Below.heap_setCell _ _ _ _ (fun e=>hk (by simp [e]))⟩
def WX (w w':World) (b:Nat) (v:Value) (T:TypeId):Prop:=w.grownBy w' (some b)/\w'.heap[b]? = some (.cells #[.pointer (some ⟨b,0,none⟩),v] T (0,0))
theorem VY (L:Lays.n240 P ρ) (X:Builder.X72 P ρ) (b:Nat) (p v:Value) (w:World) (hb:w.heap[b]? = some (.cells #[p,v] (ρ.t 72) (0,0))) (hp:p=.pointer none\/p=.pointer (some ⟨b,0,none⟩)) :
  Calls P (ρ.f 240) #[.pointer (some ⟨b,0,none⟩)] w fun e w'=>e=.returned (.tuple #[])/\WX w w' b v (ρ.t 72):=by
 rcases hp with rfl | rfl
 ·refine (Any.Builder_copyCheck_fresh L X b w (by simp [World.cell?,hb]) (by simp [World.shape?,hb]) (by simp [World.frozen?,hb])).mono ?_
  rintro e w' ⟨rfl,rfl⟩
  exact ⟨rfl,Hv w ⟨b,0,none⟩ _,by simp [World.setCell,Array.getElem?_modify,hb]⟩
 ·refine (Any.Builder_copyCheck_used L X b w (by simp [World.cell?,hb])).mono ?_
  rintro e w' ⟨rfl,rfl⟩
  exact ⟨rfl,⟨rfl,rfl,rfl,Nat.le_refl _,fun _ _ _=>rfl⟩,hb⟩
theorem HL {w:World} {ops:Array Oper} {rest:List Oper} {o:Oper} {a:Act} {Q:Exit->Act->World->Prop} (hgd:o.guard=none) (s x:Operand) (t u:TypeId)
  (ho:o.op=.call { callee:=.builtin .append,args:=#[s,x],argTypes:=#[t,u] }) (v y:Value) (hs:a.eval s=v) (hx:a.eval x=y) {v':Value} {w':World}
  (hr:(Builtin.append_ #[t,u] o.type #[v,y]).run P w=.ok v' w') (h:wpList P ops Q rest (a.put o.dst v') w'):wpList P ops Q (o::rest) a w:=by
 refine wpList_plain hgd fun K hK=>?_
 unfold Oper.wp execOp
 simp only [ho,resolve,invoke,builtin,Sem.run_bind,Sem.run_pure,Result.andThen_ok,List.map_toArray,List.map_cons,List.map_nil,hs,hx,hr]
 exact hK _ _ h
theorem V1 {w:World} {v:Value} {t:TypeId} {xs:List Int} (ho:w.ownsRow 0 t 1 v xs.length (xs.map (.int .u8))):SR (fun _=>none) (fun _=>v) [.rows t (.int .u8) xs] w:=by
 refine ⟨fun b o h=>(by cases h),fun id bx h=>?_,fun i j bi bj hi hj _ _ hij=>?_,fun _ _ _ _ _ _=>rfl,fun id cs h=>?_⟩
 ·match id,h with
  | 0,h=>cases h; exact ⟨_,ho,JZ⟩
 ·have:=(AL.1 hi).1
  have:=(AL.1 hj).1
  simp at *
  omega
 ·match id,h with
  | 0,h=>cases h
theorem V2 {w:World} {v:Value} {t:TypeId} {xs:List Int}:Fr 0 1 (fun _=>none) (fun _=>v) w (fun _=>none) (fun _=>v) [.rows t (.int .u8) xs] w :=
 ⟨rfl,rfl,rfl,Nat.le_refl _,fun _ _ _=>rfl,fun j hj=>absurd hj (Nat.not_lt_zero j),fun i bi _ _ b hb=>.inr ⟨0,Nat.zero_lt_one,hb⟩,fun j hj=>absurd hj (Nat.not_lt_zero j),fun _ _ _=>rfl⟩
theorem WY {t:TypeId} (h:(P.info? t).map (fun i=>(i.zero,i.size,i.bytes))=some (some (.int .u8 0),1,1)):SJ P t (.int .u8)=true:=by
 cases hi:P.info? t with
 | none=>rw [hi] at h; cases h
 | some i =>
  rw [hi] at h
  simp only [Option.map_some,AX,Prod.mk.injEq] at h
  obtain ⟨h1,h2,h3⟩:=h
  unfold SJ
  rw [hi]
  simp only [h1,h2,h3,Option.map_some]
  rfl
theorem UH {w:World} {v:Value} {t te ty:TypeId} {xs:List Int} {c:Int} {g:Nat} (ht:P.underlying t=some (.slice te)) (he:SJ P te (.int .u8)=true) (ho:w.ownsRow 0 te 1 v xs.length (xs.map (.int .u8)))
  (hc:w.cell? ⟨g,0,none⟩=some (.int .u8 c)) (hl:xs.length+1<=68719476736) :
  ∃ v' w',(Builtin.append_ #[t,t] ty #[v,.slice (some ⟨g,0,none⟩) 1 1]).run P w=.ok v' w'/\w'.ownsRow 0 te 1 v' (xs.length+1) ((xs++[c]).map (.int .u8))/\w.grownBy w' (BV v)/\∀ q,BV v'=some q->BV v=some q\/w.heap.size<=q:=by
 obtain ⟨v',w',h1,h2,h3⟩:=LL (P:=P) (ty:=ty) (K:=.int .u8) (xs:=xs) (ys:=[c]) (id:=0) (bv:=.slice (some ⟨g,0,none⟩) 1 1) (flat2:=[.int .u8 c]) (V1 ho) rfl ht he rfl rfl (JZ (xs:=[c]))
  (.inr (.inr ⟨g,0,rfl,fun j u hj=>by
   match j,hj with
   | 0,hj=>cases hj; exact hc⟩)) (fun e=>by cases e) hl (fun k cs hk=>by
   match k,hk with
   | 0,hk=>cases hk)
 obtain ⟨flat,q1,q2⟩:=h2.sr.box 0 _ rfl
 simp only [if_true] at q1
 have e:=JY q2 q1.1
 subst e
 refine ⟨v',w',h1,by simpa [Kd.sz] using q1,h3,fun q hq=>?_⟩
 rcases (h2.fr 0 1 _ _ _ (V2 (t:=te) (xs:=xs))).new 0 _ rfl rfl q (by simpa using hq) with h | ⟨_,_,h⟩
 ·exact .inr h
 ·exact .inl h
theorem VL {w:World} {v:Value} {t u te ty:TypeId} {xs:List Int} {s:ByteArray} (ht:P.underlying t=some (.slice te)) (hu:P.underlying u=some .string)
  (he:(P.info? te).map (fun i=>(i.zero,i.size,i.bytes))=some (some (.int .u8 0),1,1)) (ho:w.ownsRow 0 te 1 v xs.length (xs.map (.int .u8))) (hl:xs.length+s.size<=68719476736) :
  ∃ v' w',(Builtin.append_ #[t,u] ty #[v,.string s]).run P w=.ok v' w'/\w'.ownsRow 0 te 1 v' (xs.length+(AK s).length) ((xs++AK s).map (.int .u8))/\w.grownBy w' (BV v)/\∀ q,BV v'=some q->BV v=some q\/w.heap.size<=q:=by
 obtain ⟨i,hi,hz,h1,h2⟩:=info_parts he
 have hs1:(AK s).length=s.size:=by simp [AK]
 have hs2:(xs++AK s).map (Value.int .u8)=xs.map (.int .u8)++strCells s:=by simp [AK,strCells]
 have hm:xs.length+s.size<=maxLen:=by unfold maxLen; omega
 rw [hs1,hs2]
 obtain ⟨v',w',hr,q1,q2,_⟩:=run_append_own_string (P:=P) w 0 t u ty te i ht hu hi hz h1 h2 v xs.length _ ho s hm (by omega) (Nat.zero_le _)
 have hbl:BV v=v.ownBlock:=by rcases ho.2 with ⟨rfl,_⟩ | ⟨g,cap,cur,rfl,_⟩<;>rfl
 refine ⟨v',w',hr,q1,by rw [hbl]; exact q2,?_⟩
 rcases ho.2 with ⟨e3,hn⟩ | ⟨g,cap,cur,e3,_,hg,hnc,hcm,hcs,htake⟩
 ·obtain ⟨v2,w2,hr2,o2,_,_⟩:=run_append_own_string (P:=P) w w.heap.size t u ty te i ht hu hi hz h1 h2 v xs.length _ ⟨ho.1,.inl ⟨e3,hn⟩⟩ s hm (by omega) (Nat.le_refl _)
  have e4:=hr.symm.trans hr2
  simp only [Result.ok.injEq] at e4
  obtain ⟨rfl,rfl⟩:=e4
  intro q hq
  right
  rcases o2.2 with ⟨e5,_⟩ | ⟨g',cap',cur',e5,hbase,_⟩
  ·rw [e5] at hq; cases hq
  ·rw [e5] at hq; simp only [BV,AX] at hq; omega
 ·by_cases hroom:xs.length+s.size<=cap
  ·have hr2:=run_append_room_string (P:=P) w t u ty te i ht hu hi h1 g xs.length cap cur hg s hroom (by omega)
   rw [<- e3] at hr2
   have e4:=hr.symm.trans hr2
   simp only [Result.ok.injEq] at e4
   obtain ⟨rfl,_⟩:=e4
   intro q hq
   left
   rw [e3]
   exact hq
  ·have holds:∀ j u,(xs.map (Value.int .u8))[j]? = some u->w.cell? ((⟨g,0,none⟩:Addr).add j)=some u:=ho.cells (g:=g) (by rw [e3]; rfl)
   have hr2:=run_append_grow_string (P:=P) w t u ty te i (.int .u8 0) ht hu hi hz ⟨g,0,none⟩ xs.length cap _ (by rw [h1]; simp) holds s (by omega) (by omega) (by rw [h2]; exact growslice_fits (by omega) (by omega))
   rw [<- e3] at hr2
   have e4:=hr.symm.trans hr2
   simp only [Result.ok.injEq] at e4
   obtain ⟨rfl,_⟩:=e4
   intro q hq
   right
   simp only [BV,AX] at hq
   omega
theorem Jo {f:Nat} {fn:Func} {c:Code} (h:P.funcs[f]? = some fn) (hb:fn.body=some c) (hn:(fn.name == "runtime.NumGoroutine")=false):MV P f:=⟨fn,c,h,hn,hb⟩
set_option maxHeartbeats 2000000 in
set_option maxRecDepth 100000 in
theorem VM (L:Lays.n166 P ρ) (X:Builder.Extra P ρ):LZ P (ρ.f 166) 1 (ρ.t 5) (ρ.t 72):=by
 refine ⟨Jo L.f166 rfl (by kernel_rfl),fun w b p v xs hbk hp how hne=>⟨fun e=>(by cases e),fun _ s hlen=>?_,fun e=>(by cases e)⟩⟩
 have mixed:=L.mixed
 have t72:=L.t72; have a72:=L.a72; have z72:=L.z72; have v72:=L.v72; have u72:=run_underlying L.t72
 have t70:=L.t70; have a70:=L.a70; have z70:=L.z70; have v70:=L.v70; have u70:=run_underlying L.t70
 have t37:=L.t37; have a37:=L.a37; have z37:=L.z37; have v37:=L.v37; have u37:=run_underlying L.t37
 have t3:=L.t3; have a3:=L.a3; have z3:=L.z3; have v3:=L.v3; have u3:=run_underlying L.t3
 have t9:=L.t9; have a9:=L.a9; have z9:=L.z9; have v9:=L.v9; have u9:=run_underlying L.t9
 have t4:=L.t4; have a4:=L.a4; have z4:=L.z4; have v4:=L.v4; have u4:=run_underlying L.t4
 have t164:=L.t164; have a164:=L.a164; have z164:=L.z164; have v164:=L.v164; have u164:=run_underlying L.t164
 have t5:=X.t5; have a5:=X.a5; have z5:=X.z5; have v5:=X.v5; have u5:=run_underlying X.t5
 have e240:∀ args w,(callFunc (ρ.f 240) args).run P w=.ok (.enter (ρ.f 240) args) w:=enters_of L.f240 (by kernel_rfl) rfl
 have hs1:(AK s).length=s.size:=by simp [AK]
 go_enter L.f166,Body.n166_ntmps ρ
 go_wp2_with (go_at_fn (ρ.f 240); refine (VY { L with } X.toX72 b p v _ hbk hp).mono ?_)
 intro e w1 h0 hcc
 subst h0
 obtain ⟨g1,hb1⟩:=hcc
 have c0:w1.cell? ⟨b,0,none⟩=some (.pointer (some ⟨b,0,none⟩)):=by rw [Lib.cell_of_heap hb1]; rfl
 have c1:w1.cell? ⟨b,1,none⟩=some v:=by rw [Lib.cell_of_heap hb1]; rfl
 have how1:w1.ownsRow 0 (ρ.t 5) 1 v xs.length (xs.map (.int .u8)):=by
  refine how.kept g1 ?_
  rcases how.2 with ⟨rfl,_⟩ | ⟨g,cap,cur,rfl,_⟩
  ·exact .inl rfl
  ·right; intro e; exact hne (by simpa [Value.ownBlock,BV] using e)
 obtain ⟨v',w2,hr,o2,g2,l2⟩:=VL (w:=w1) (ty:=ρ.t 37) L.t37 L.t9 X.infoByte how1 (s:=s) (by omega)
 have hlt:b<w1.heap.size:=(Array.getElem?_eq_some_iff.1 hb1).1
 have hb2:w2.heap[b]? = some (.cells #[.pointer (some ⟨b,0,none⟩),v] (ρ.t 72) (0,0)):=by
  rw [g2.block b hlt (fun e=>hne e.symm)]
  exact hb1
 have d0:w2.cell? ⟨b,0,none⟩=some (.pointer (some ⟨b,0,none⟩)):=by rw [Lib.cell_of_heap hb2]; rfl
 have d1:w2.cell? ⟨b,1,none⟩=some v:=by rw [Lib.cell_of_heap hb2]; rfl
 have f1:w2.frozen? ⟨b,1,none⟩=false:=Lib.frozen_of_heap hb2 1
 have ev':∃ ao n' cap,v'=.slice ao n' cap:=by
  rcases o2.2 with ⟨hv,_⟩ | ⟨g,cap,cur,hv,_⟩
  ·exact ⟨_,_,_,hv⟩
  ·exact ⟨_,_,_,hv⟩
 obtain ⟨ao,n',cap,rfl⟩:=ev'
 go_wp2_with (at_builtin; refine HL rfl _ _ (ρ.t 37) (ρ.t 9) rfl _ _ rfl rfl hr ?_)
 go_wp2
 go_ret2
 exact ⟨_,rfl,w1,w2,_,g1,hb1,g2,o2,l2,Hv w2 ⟨b,1,none⟩ _,by simp [World.setCell,Array.getElem?_modify,hb2]⟩
set_option maxHeartbeats 2000000 in
set_option maxRecDepth 100000 in
theorem UI (L:Lays.n167 P ρ) (X:Builder.Extra P ρ):LZ P (ρ.f 167) 0 (ρ.t 5) (ρ.t 72):=by
 refine ⟨Jo L.f167 rfl (by kernel_rfl),fun w b p v xs hbk hp how hne=>⟨fun _ c hlen=>?_,fun e=>(by cases e),fun e=>(by cases e)⟩⟩
 have mixed:=L.mixed
 have t72:=L.t72; have a72:=L.a72; have z72:=L.z72; have v72:=L.v72; have u72:=run_underlying L.t72
 have t70:=L.t70; have a70:=L.a70; have z70:=L.z70; have v70:=L.v70; have u70:=run_underlying L.t70
 have t5:=L.t5; have a5:=L.a5; have z5:=L.z5; have v5:=L.v5; have u5:=run_underlying L.t5
 have t37:=L.t37; have a37:=L.a37; have z37:=L.z37; have v37:=L.v37; have u37:=run_underlying L.t37
 have t9:=L.t9; have a9:=L.a9; have z9:=L.z9; have v9:=L.v9; have u9:=run_underlying L.t9
 have t4:=L.t4; have a4:=L.a4; have z4:=L.z4; have v4:=L.v4; have u4:=run_underlying L.t4
 have t164:=L.t164; have a164:=L.a164; have z164:=L.z164; have v164:=L.v164; have u164:=run_underlying L.t164
 have e240:∀ args w,(callFunc (ρ.f 240) args).run P w=.ok (.enter (ρ.f 240) args) w:=enters_of L.f240 (by kernel_rfl) rfl
 go_enter L.f167,Body.n167_ntmps ρ
 go_wp2_with (go_at_fn (ρ.f 240); refine (VY { L with } X.toX72 b p v _ hbk hp).mono ?_)
 intro e w1 h0 hcc
 subst h0
 obtain ⟨g1,hb1⟩:=hcc
 have hlt:b<w1.heap.size:=(Array.getElem?_eq_some_iff.1 hb1).1
 have c0:w1.cell? ⟨b,0,none⟩=some (.pointer (some ⟨b,0,none⟩)):=by rw [Lib.cell_of_heap hb1]; rfl
 have c1:w1.cell? ⟨b,1,none⟩=some v:=by rw [Lib.cell_of_heap hb1]; rfl
 have how1:w1.ownsRow 0 (ρ.t 5) 1 v xs.length (xs.map (.int .u8)):=by
  refine how.kept g1 ?_
  rcases how.2 with ⟨rfl,_⟩ | ⟨g,cap,cur,rfl,_⟩
  ·exact .inl rfl
  ·right; intro e; exact hne (by simpa [Value.ownBlock,BV] using e)
 have ga:w1.grownBy (w1.alloc (.cells #[.int .u8 c] (ρ.t 5))) none:=World.grownBy_alloc w1 _ none
 have hba:(w1.alloc (.cells #[.int .u8 c] (ρ.t 5))).heap[b]? = some (.cells #[.pointer (some ⟨b,0,none⟩),v] (ρ.t 72) (0,0)):=by rw [ga.block b hlt (by simp)]; exact hb1
 obtain ⟨v',w2,hr,o2,g2,l2⟩:=UH (w:=w1.alloc (.cells #[.int .u8 c] (ρ.t 5))) (ty:=ρ.t 37) (c:=c) (g:=w1.heap.size) L.t37 (WY X.infoByte) (how1.alloc _) (by rw [Lib.cell_of_heap (heap_alloc_new w1 _)]; rfl) hlen
 have hb2:w2.heap[b]? = some (.cells #[.pointer (some ⟨b,0,none⟩),v] (ρ.t 72) (0,0)):=by
  rw [g2.block b (Nat.lt_of_lt_of_le hlt ga.size) (fun e=>hne e.symm)]
  exact hba
 have d0:w2.cell? ⟨b,0,none⟩=some (.pointer (some ⟨b,0,none⟩)):=by rw [Lib.cell_of_heap hb2]; rfl
 have d1:w2.cell? ⟨b,1,none⟩=some v:=by rw [Lib.cell_of_heap hb2]; rfl
 have f1:w2.frozen? ⟨b,1,none⟩=false:=Lib.frozen_of_heap hb2 1
 have ev':∃ ao n' cap,v'=.slice ao n' cap:=by
  rcases o2.2 with ⟨hv,_⟩ | ⟨g,cap,cur,hv,_⟩
  ·exact ⟨_,_,_,hv⟩
  ·exact ⟨_,_,_,hv⟩
 obtain ⟨ao,n',cap,rfl⟩:=ev'
 go_wp2_with (at_builtin; refine HL rfl _ _ (ρ.t 37) (ρ.t 37) rfl _ _ rfl rfl hr ?_)
 go_wp2
 go_ret
 exact ⟨_,rfl,_,w2,_,Ro g1 (TJ ga),hba,g2,o2,l2,Hv w2 ⟨b,1,none⟩ _,by simp [World.setCell,Array.getElem?_modify,hb2]⟩
theorem Kb:∀ {xs:List Int},C8 xs=true->xs.map (Value.int .u8)=Go.Lib.byteCells (AC xs).data.toList
 | [],_=>rfl
 | x::xs,h=>by
  simp only [C8,List.all_cons,O,decide_eq_true_eq] at h
  have:=Kb (xs:=xs) (by simpa [C8] using h.2)
  have e:((UInt8.ofNat x.toNat).toNat:Int)=x:=by
   have:x.toNat<256:=by omega
   simp [UInt8.toNat_ofNat',Nat.mod_eq_of_lt this]
   omega
  simp only [List.map_cons,this,AC,Go.Lib.byteCells,List.map_cons,e]
theorem Rp {w w':World} {r:Option Nat} (h:Below w.heap.size w w'):w.grownBy w' r:=⟨h.os,h.tape,h.output,h.size,fun k hk _=>h.block k hk⟩
set_option maxHeartbeats 1000000 in
set_option maxRecDepth 100000 in
theorem VN (L:Lays.n169 P ρ) (X:Builder.Extra P ρ):LZ P (ρ.f 169) 2 (ρ.t 5) (ρ.t 72):=by
 refine ⟨Jo L.f169 rfl (by kernel_rfl),fun w b p v xs hbk hp how hne=>⟨fun e=>(by cases e),fun e=>(by cases e),fun _ hB=>?_⟩⟩
 have hcs:=Kb hB
 have hl:(AC xs).data.toList.length=xs.length:=by simp [AC]
 by_cases h0:xs=[]
 ·subst h0
  have hB0:∀ w':World,∀ e,(e=Ending.returned (.string ⟨#[]⟩)/\Below w.heap.size w w')->e=.returned (.string (AC []))/\w.grownBy w' (BV v):=fun w' e h=>⟨h.1,Rp h.2⟩
  rcases how.2 with ⟨rfl,_⟩ | ⟨g,cap,cur,rfl,_,hg,_⟩
  ·exact (Any.Builder_String_nil L X w.heap.size b p w hbk).mono fun e w' h=>hB0 w' e h
  ·by_cases hc0:cap=0
   ·subst hc0
    exact (Any.Builder_String_noroom L X w.heap.size b g p cur w (Nat.le_refl _) hbk hg).mono fun e w' h=>hB0 w' e h
   ·exact (Any.Builder_String_room L X w.heap.size b g cap p w hc0 hbk).mono fun e w' h=>hB0 w' e h
 ·obtain ⟨l,hl2⟩:∃ l,l=(AC xs).data.toList:=⟨_,rfl⟩
  have h0:l≠[]:=fun e=>by rw [<- hl2,e] at hl; exact h0 (DA.1 hl.symm)
  have hbs:AC xs=⟨l.toArray⟩:=by rw [hl2]
  rw [hbs]
  rw [hcs,<- hl,<- hl2] at how
  have hl0:l.length≠0:=by simpa using h0
  obtain ⟨g,cap,cur,rfl,hbg,hg,hnc,hcm,hcs2,htake⟩:∃ g cap cur,v=.slice (some ⟨g,0,none⟩) l.length cap/\0<=g/\w.heap[g]? = some (.cells cur (ρ.t 5) (0,0))/\l.length<=cap/\cap<=maxLen/\cur.size=cap*1/\cur.toList.take (l.length*1)=Lib.byteCells l:=by
   rcases how.2 with ⟨_,hz⟩ | ⟨g,cap,cur,hv,r⟩
   ·exact absurd hz hl0
   ·exact ⟨g,cap,cur,hv,r⟩
  clear hl hcs hbs hl2
  have c1:w.drew.cell? ⟨b,1,none⟩=some (.slice (some ⟨g,0,none⟩) l.length cap):=by
   have:w.drew.heap[b]? = some (.cells #[p,.slice (some ⟨g,0,none⟩) l.length cap] (ρ.t 72) (0,0)):=hbk
   rw [Lib.cell_of_heap this]; rfl
  have hSD:(Builtin.unsafeSliceData_ #[(ρ.t 37)] (ρ.t 127) #[.slice (some ⟨g,0,none⟩) l.length cap]).run P w.drew=.ok (.pointer (some ⟨g,0,none⟩)) w.drew :=
   Lib.run_unsafeSliceData_row _ _ _ _ _ _ (by omega)
  have hUS:(Builtin.unsafeString_ #[(ρ.t 127),(ρ.t 3)] (ρ.t 9) #[.pointer (some ⟨g,0,none⟩),.int .i64 l.length]).run P w.drew=.ok (.string ⟨l.toArray⟩) (w.drew.freeze ⟨g,0,none⟩ l.length):=by
   refine Lib.run_unsafeString_row w.drew (ρ.t 127) (ρ.t 3) (ρ.t 9) (ρ.t 5) L.t127 X.cellsByte g cur.size (by have hg':w.drew.heap[g]? = some (.cells cur (ρ.t 5) (0,0)):=hg; simp [World.shape?,hg']) l h0 (by omega) (by unfold maxLen at hcm; omega) ?_
   intro j x hx
   have:=how.cells (g:=g) rfl j (.int .u8 x.toNat) (by simp [Lib.byteCells,hx])
   exact this
  have hgr:w.grownBy (w.drew.freeze ⟨g,0,none⟩ l.length) (some g):=by
   unfold World.freeze
   split
   ·exact ⟨rfl,rfl,rfl,Nat.le_refl _,fun _ _ _=>rfl⟩
   ·refine ⟨rfl,rfl,rfl,by simp,fun k hk hn=>?_⟩
    simp only [Array.getElem?_modify]
    rw [if_neg (fun e=>hn (by rw [<- e]))]
    rfl
  have mixed:=L.mixed
  have t72:=L.t72; have a72:=L.a72; have z72:=L.z72; have v72:=L.v72; have u72:=run_underlying L.t72
  have t70:=L.t70; have a70:=L.a70; have z70:=L.z70; have v70:=L.v70; have u70:=run_underlying L.t70
  have t37:=L.t37; have a37:=L.a37; have z37:=L.z37; have v37:=L.v37; have u37:=run_underlying L.t37
  have t127:=L.t127; have a127:=L.a127; have z127:=L.z127; have v127:=L.v127; have u127:=run_underlying L.t127
  have t3:=L.t3; have a3:=L.a3; have z3:=L.z3; have v3:=L.v3; have u3:=run_underlying L.t3
  have t9:=L.t9; have a9:=L.a9; have z9:=L.z9; have v9:=L.v9; have u9:=run_underlying L.t9
  have t5:=X.t5; have a5:=X.a5; have z5:=X.z5; have v5:=X.v5; have u5:=run_underlying X.t5
  go_enter L.f169,Body.n169_ntmps ρ
  go_wp2
  go_region_o
  all_goals (go_wp2; go_ret; exact ⟨rfl,hgr⟩)
def UJ (k t T:Nat) (args bs:List AV):Option (List AV) :=
 match args,bs with
 | [.int .i64 a,.int .i64 b,.int .i64 c],[]=>if a=k/\b=t/\c=T then some [] else none
 | _,_=>none
theorem Q4 {f k t T k' t' T':Nat} (h:LZ P f k t T) (hq:UJ k t T [.int .i64 k',.int .i64 t',.int .i64 T'] []=some []):LZ P f k' t' T':=by
 unfold UJ at hq
 simp only at hq
 split at hq
 ·rename_i e
  obtain ⟨e1,e2,e3⟩:=e
  have e1:k'=k:=by exact_mod_cast e1
  have e2:t'=t:=by exact_mod_cast e2
  have e3:T'=T:=by exact_mod_cast e3
  rw [e1,e2,e3]
  exact h
 ·cases hq
end Go.Proofs.Ytffahmnodgnohaa.Core

namespace Go.Proofs.Ytffahmnodgnohaa.Core
open Go IntKind
set_option maxRecDepth 100000
noncomputable section
def OD:Go.Shelf.Ren:=⟨fun | 166=>63 | 167=>62 | 169=>66 | 240=>135 | 276=>162 | n=>n,fun | 72=>105 | 70=>103 | 37=>38 | 75=>108 | 164=>193 | 127=>165 | 80=>112 | n=>n,fun | n=>n⟩
theorem V3:Builder.Extra Try.prog OD:={
 sizeBuilder:=by kernel_rfl
 liesBuilder:=by kernel_rfl
 t5:=Try.underlying5
 a5:=Try.isAgg5
 z5:=Try.sizeOf5
 v5:=Try.zeroValue5
 infoByte:=by kernel_rfl
 cellsByte:=by kernel_rfl
 sizeByte:=by kernel_rfl
 neB5:=by decide }
theorem V4:Lays.n167 Try.prog OD:={
 mixed:=by kernel_rfl
 f167:=Try.func62.trans (congrArg some (by kernel_rfl))
 f240:=Try.func135.trans (congrArg some (by kernel_rfl))
 f276:=Try.func162.trans (congrArg some (by kernel_rfl))
 t0:=Try.underlying0
 a0:=Try.isAgg0
 z0:=Try.sizeOf0
 v0:=Try.zeroValue0
 t4:=Try.underlying4
 a4:=Try.isAgg4
 z4:=Try.sizeOf4
 v4:=Try.zeroValue4
 t5:=Try.underlying5
 a5:=Try.isAgg5
 z5:=Try.sizeOf5
 v5:=Try.zeroValue5
 t9:=Try.underlying9
 a9:=Try.isAgg9
 z9:=Try.sizeOf9
 v9:=Try.zeroValue9
 t20:=Try.underlying20
 a20:=Try.isAgg20
 z20:=Try.sizeOf20
 v20:=Try.zeroValue20
 t37:=Try.underlying38
 a37:=Try.isAgg38
 z37:=Try.sizeOf38
 v37:=Try.zeroValue38
 t70:=Try.underlying103
 a70:=Try.isAgg103
 z70:=Try.sizeOf103
 v70:=Try.zeroValue103
 t72:=Try.underlying105
 a72:=Try.isAgg105
 z72:=Try.sizeOf105
 v72:=Try.zeroValue105
 t75:=Try.underlying108
 a75:=Try.isAgg108
 z75:=Try.sizeOf108
 v75:=Try.zeroValue108
 t164:=Try.underlying193
 a164:=Try.isAgg193
 z164:=Try.sizeOf193
 v164:=Try.zeroValue193 }
theorem Fn:LZ Try.prog 62 0 5 105:=UI V4 V3
theorem V5:Lays.n166 Try.prog OD:={
 mixed:=by kernel_rfl
 f166:=Try.func63.trans (congrArg some (by kernel_rfl))
 f240:=Try.func135.trans (congrArg some (by kernel_rfl))
 f276:=Try.func162.trans (congrArg some (by kernel_rfl))
 t0:=Try.underlying0
 a0:=Try.isAgg0
 z0:=Try.sizeOf0
 v0:=Try.zeroValue0
 t3:=Try.underlying3
 a3:=Try.isAgg3
 z3:=Try.sizeOf3
 v3:=Try.zeroValue3
 t4:=Try.underlying4
 a4:=Try.isAgg4
 z4:=Try.sizeOf4
 v4:=Try.zeroValue4
 t9:=Try.underlying9
 a9:=Try.isAgg9
 z9:=Try.sizeOf9
 v9:=Try.zeroValue9
 t20:=Try.underlying20
 a20:=Try.isAgg20
 z20:=Try.sizeOf20
 v20:=Try.zeroValue20
 t37:=Try.underlying38
 a37:=Try.isAgg38
 z37:=Try.sizeOf38
 v37:=Try.zeroValue38
 t70:=Try.underlying103
 a70:=Try.isAgg103
 z70:=Try.sizeOf103
 v70:=Try.zeroValue103
 t72:=Try.underlying105
 a72:=Try.isAgg105
 z72:=Try.sizeOf105
 v72:=Try.zeroValue105
 t75:=Try.underlying108
 a75:=Try.isAgg108
 z75:=Try.sizeOf108
 v75:=Try.zeroValue108
 t164:=Try.underlying193
 a164:=Try.isAgg193
 z164:=Try.sizeOf193
 v164:=Try.zeroValue193 }
theorem FD:LZ Try.prog 63 1 5 105:=VM V5 V3
theorem V6:Lays.n169 Try.prog OD:={
 mixed:=by kernel_rfl
 f169:=Try.func66.trans (congrArg some (by kernel_rfl))
 t0:=Try.underlying0
 a0:=Try.isAgg0
 z0:=Try.sizeOf0
 v0:=Try.zeroValue0
 t3:=Try.underlying3
 a3:=Try.isAgg3
 z3:=Try.sizeOf3
 v3:=Try.zeroValue3
 t9:=Try.underlying9
 a9:=Try.isAgg9
 z9:=Try.sizeOf9
 v9:=Try.zeroValue9
 t37:=Try.underlying38
 a37:=Try.isAgg38
 z37:=Try.sizeOf38
 v37:=Try.zeroValue38
 t70:=Try.underlying103
 a70:=Try.isAgg103
 z70:=Try.sizeOf103
 v70:=Try.zeroValue103
 t72:=Try.underlying105
 a72:=Try.isAgg105
 z72:=Try.sizeOf105
 v72:=Try.zeroValue105
 t127:=Try.underlying165
 a127:=Try.isAgg165
 z127:=Try.sizeOf165
 v127:=Try.zeroValue165 }
theorem GS:LZ Try.prog 66 2 5 105:=VN V6 V3

def WZ:List (Nat×CS):=[(4,Ao),(13,BF),(15,AZ),(16,F9),(17,A_),(18,BG),(19,Ef),(20,Eg),(23,B6),(24,B7),(57,Eh),(58,CA),(59,D2),(60,FW),(64,Bj),(65,FX),(67,Bk),(68,D3),(69,FY),(70,FZ),(71,C1),(72,D4),(73,BI),(74,Bp),(75,B8),(76,BJ),(77,BK),(80,F_),(81,Bl),(82,Ej),(83,Fa),(84,Bm),(132,Ek),(133,GA),(136,El),(137,Fb),(138,BP),(139,BQ),(140,CG),(141,BW),(145,GB),(161,BA),(163,GC),(177,BB)]
def KP (f:Nat):Option CS:=VJ f WZ
theorem Wy:T3 Try.prog KP:=TG (.cons JK <| .cons O3 <| .cons O4 <| .cons Qv <| .cons O5 <| .cons O6 <| .cons O7 <| .cons O8 <| .cons Qw <| .cons Qx <| .cons O9 <| .cons Pz <| .cons Nu <| .cons P0 <| .cons O_ <| .cons P1 <| .cons PA <| .cons Nv <| .cons P2 <| .cons P3 <| .cons PB <| .cons Nw <| .cons Jn <| .cons IW <| .cons I2 <| .cons Mj <| .cons Mk <| .cons Qy <| .cons PC <| .cons PD <| .cons P4 <| .cons PE <| .cons PF <| .cons Qz <| .cons PG <| .cons P5 <| .cons PH <| .cons PI <| .cons Ml <| .cons Nx <| .cons Q0 <| .cons PJ <| .cons Q1 <| .cons PL .nil)
def CZ:Cl:=fun f args bs=>if f=CQ+62 then UJ 0 5 105 args bs else if f=CQ+63 then UJ 1 5 105 args bs else if f=CQ+66 then UJ 2 5 105 args bs else none
theorem VO:Db Try.prog CZ:=by
 refine ⟨fun f k t T h=>?_,fun f args bs rs hf h=>?_⟩<;>unfold CZ at h
 ·split at h
  ·rename_i e; obtain rfl:=Nat.add_left_cancel e; exact Q4 Fn h
  split at h
  ·rename_i e; obtain rfl:=Nat.add_left_cancel e; exact Q4 FD h
  split at h
  ·rename_i e; obtain rfl:=Nat.add_left_cancel e; exact Q4 GS h
  cases h
 ·split at h
  ·rename_i e; exfalso; unfold CQ at e hf; omega
  split at h
  ·rename_i e; exfalso; unfold CQ at e hf; omega
  split at h
  ·rename_i e; exfalso; unfold CQ at e hf; omega
  cases h
abbrev cP:Cl:=Qq KP CZ
def cG {ρ:Type} (c:AW) (kn kr:St->Option ρ) (ke:Nat->St->Option ρ):St->Option ρ:=Cy cP EL c kn kr ke
def lG {ρ:Type} (c:AW) (hs:List (Nat×Nat)) (l:List Nat) (n:Nat) (kr:St->Option ρ) (ke:Nat->St->Option ρ):St->Option ρ:=EL fun go s'=>Cy cP EL c (fun s''=>go (s''.cutH hs l n)) kr ke s'
def kJ {ρ:Type} (c:AW) (hs:List (Nat×Nat)) (l:List Nat) (n:Nat) (kn kr:St->Option ρ) (ke:Nat->St->Option ρ):St->Option ρ:=fun s=>cG c kn kr ke (s.cutH hs l n)
def kB {ρ:Type} (hs:List (Nat×Nat)) (l:List Nat) (n:Nat) (kn:St->Option ρ):St->Option ρ:=fun s=>kn (s.cutH hs l n)
def kE {ρ:Type} (b:Nat) (hs:List (Nat×Nat)) (l:List Nat) (n:Nat) (kn:St->Option ρ) (ke:Nat->St->Option ρ):Nat->St->Option ρ:=fun i s=>if i=b then kn (s.cutH hs l n) else ke i s
def kx {ρ:Type}:Nat->St->Option ρ:=fun _ _=>none
def cF (f:Nat) (a:CS) (x b:List AV):Option (RT a.outs):=(cP f x b).bind (Bz a.outs)
theorem cT (a:CS) {f:Nat} {x b:List AV} {t:Option (RT a.outs)} {r:RT a.outs} (hf:KP f=some a) (hl:x.length=a.params.length/\b.length=(Bg a.params 0).length) (e:UA cP a x b=t) (h:t=some r):cF f a x b=some r:=SA hf hl (e.trans h)
theorem jS {ρ:Type} {t w:Option ρ} {r:ρ} (e:w=t) (h:t=some r):w=some r:=e.trans h
theorem lS {ρ:Type} {c:AW} {hs:List (Nat×Nat)} {l:List Nat} {n:Nat} {kr:St->Option ρ} {ke:Nat->St->Option ρ} {s:St} {t:Option ρ} {r:ρ} (e:Cy cP EL c (fun s=>lG c hs l n kr ke (s.cutH hs l n)) kr ke s=t) (h:t=some r):lG c hs l n kr ke s=some r:=TE (e.trans h)
def B_strings_Builder_WriteByte:Option Unit:=(cP (CQ+62) [.int .i64 ((0:Nat):Int),.int .i64 ((5:Nat):Int),.int .i64 ((105:Nat):Int)] []).bind (Bz [])
theorem FK:B_strings_Builder_WriteByte=some ():=by
 unfold B_strings_Builder_WriteByte cP
 rw [Mf (r:=[]) rfl (by rfl)]
 rfl
def B_strings_Builder_WriteString:Option Unit:=(cP (CQ+63) [.int .i64 ((1:Nat):Int),.int .i64 ((5:Nat):Int),.int .i64 ((105:Nat):Int)] []).bind (Bz [])
theorem Ca:B_strings_Builder_WriteString=some ():=by
 unfold B_strings_Builder_WriteString cP
 rw [Mf (r:=[]) rfl (by rfl)]
 rfl
def B_strings_Builder_String:Option Unit:=(cP (CQ+66) [.int .i64 ((2:Nat):Int),.int .i64 ((5:Nat):Int),.int .i64 ((105:Nat):Int)] []).bind (Bz [])
theorem GE:B_strings_Builder_String=some ():=by
 unfold B_strings_Builder_String cP
 rw [Mf (r:=[]) rfl (by rfl)]
 rfl
def FE (x0:ByteArray):Option Bool:=cF 4 Ao [.str x0] []
def GT (x0:AG):Option (ByteArray×Bool):=cF 13 BF [.agg (CO.enc x0)] []
def GU (x0:AG):Option (ByteArray×Bool):=cF 15 AZ [.agg (CO.enc x0)] []
def GF (x0 x1:AG):Option Bool:=cF 16 F9 [.agg (CO.enc x0),.agg (CO.enc x1)] []
def De (x0:ByteArray):Option (AG×Bool):=cF 17 A_ [.str x0] []
def C2 (x0:ByteArray):Option (AG×Bool):=cF 18 BG [.str x0] []
def GV (x0_0 x0_1 x0_2 x0_3 x0_4 x1:Int) (b0:List AH):Option (Int×List AH):=cF 19 Ef [.agg [.int .i64 x0_0,.int .i64 x0_1,.int .i64 x0_2,.int .i64 x0_3,.int .i64 x0_4,.row 0],.int .i64 x1] [.new 49 AN b0]
def Em (x0:AG) (x1:Int):Option Int:=cF 20 Eg [.agg (CO.enc x0),.int .i64 x1] []
def I3 (x0:AG):Option Bool:=cF 23 B6 [.agg (CO.enc x0)] []
def I4 (x0:AG):Option Bool:=cF 24 B7 [.agg (CO.enc x0)] []
def C3 (x0:Int):Option ByteArray:=cF 57 Eh [.int .i64 x0] []
def Cr (x0:Int):Option ByteArray:=cF 58 CA [.int .i64 x0] []
def D5 (x0:ByteArray):Option ByteArray:=cF 59 D2 [.str x0] []
def Hw (x0:ByteArray):Option (ByteArray×Bool):=cF 60 FW [.str x0] []
def CP (x0:Int):Option ByteArray:=cF 64 Bj [.int .i64 x0] []
def Hx (x0:ByteArray):Option (ByteArray×Bool):=cF 65 FX [.str x0] []
def GW (x0 x1:List AH):Option Bool:=cF 67 Bk [.lst AN x0,.lst AN x1] []
def D6 (x0:ByteArray):Option (ByteArray×Bool):=cF 68 D3 [.str x0] []
def Be (b0:AD):Option (Int×AD):=cF 69 FY [.ptr 0 0] [.agg (AO.enc b0)]
def CB (b0:AD):Option (Int×AD):=cF 70 FZ [.ptr 0 0] [.agg (AO.enc b0)]
def C4 (x1:Int) (b0:AD):Option (ByteArray×AD):=cF 71 C1 [.ptr 0 0,.int .i64 x1] [.agg (AO.enc b0)]
def D7 (x0:ByteArray):Option (ByteArray×Bool):=cF 72 D4 [.str x0] []
def Ai (b0:AD):Option (Int×AD):=cF 73 BI [.ptr 0 0] [.agg (AO.enc b0)]
def Ay (b0:AD):Option (Int×AD):=cF 74 Bp [.ptr 0 0] [.agg (AO.enc b0)]
def BR (b0:AD):Option (ByteArray×AD):=cF 75 B8 [.ptr 0 0] [.agg (AO.enc b0)]
def FM (x1:Int) (b0:List AH):Option (Int×List AH):=cF 76 BJ [.row 0,.int .i64 x1] [.new 49 AN b0]
def FN (x0:List AH) (x1:Int):Option Int:=cF 77 BK [.lst AN x0,.int .i64 x1] []
def Bf (x0 x1 x2:Int):Option Bool:=cF 80 F_ [.int .i64 x0,.int .i64 x1,.int .i64 x2] []
def GX (x0:List AH):Option Bool:=cF 81 Bl [.lst AN x0] []
def Bn (x0 x1 x2:Int):Option Bool:=cF 82 Ej [.int .i64 x0,.int .i64 x1,.int .i64 x2] []
def Fc (x0:Int):Option Bool:=cF 83 Fa [.int .i64 x0] []
def GY (x0:List AH):Option Bool:=cF 84 Bm [.lst AN x0] []
def En (x0:Int):Option ByteArray:=cF 132 Ek [.int .u32 x0] []
def Cb (x0:ByteArray):Option Int:=cF 133 GA [.str x0] []
def Eo (x0:ByteArray):Option ByteArray:=cF 136 El [.str x0] []
def Hy (x0 x1:AH):Option Bool:=cF 137 Fb [.agg (AN.enc x0),.agg (AN.enc x1)] []
def Ep (x0:ByteArray) (x1:Int):Option (Int×Int×Bool):=cF 138 BP [.str x0,.int .i64 x1] []
def Df (x0:ByteArray) (x1:Int):Option (Int×Int×Bool):=cF 139 BQ [.str x0,.int .i64 x1] []
def FO (x0:ByteArray) (x1:Int):Option (ByteArray×Int×Bool):=cF 140 CG [.str x0,.int .i64 x1] []
def BX (x0:Int):Option ByteArray:=cF 141 BW [.int .i64 x0] []
def I5 (x0:ByteArray):Option Bool:=cF 145 GB [.str x0] []
def GZ (x0:Int) (x1:ByteArray):Option Int:=cF 161 BA [.int .u32 x0,.str x1] []
def I6 (x0:ByteArray):Option Int:=cF 163 GC [.str x0] []
def Ga (x0:Int) (x1:ByteArray):Option Int:=cF 177 BB [.int .u32 x0,.str x1] []

def Dw (x0:Int) (x1:Bool) (x2:List AH) (x3 x4 x5 x6 x7:Int) (x8:List AH) (x9 x10 x11 x12 x13:Int) (x14:List AH) (x15 x16 x17 x18 x19:Int):Option Bool:=cG Du (Ab Ao) (Ab Ao) kx ⟨[(5,.ptr 5 0),(7,.int .i64 x0),(57,.bool x1)],[.dead,.rows 49 AN x2,.var [.int .i64 x3,.int .i64 x4,.int .i64 x5,.int .i64 x6,.int .i64 x7,.row 1],.dead,.rows 49 AN x8,.var [.int .i64 x9,.int .i64 x10,.int .i64 x11,.int .i64 x12,.int .i64 x13,.row 4],.dead,.rows 49 AN x14,.var [.int .i64 x15,.int .i64 x16,.int .i64 x17,.int .i64 x18,.int .i64 x19,.row 7]]⟩
def Dx (x0:ByteArray) (x1 x2:Bool) (x3:List AH) (x4 x5 x6 x7 x8:Int) (x9:List AH) (x10 x11 x12 x13 x14:Int):Option Bool:=cG Dv (Ab Ao) (Ab Ao) kx ⟨[(0,.str x0),(3,.ptr 2 0),(4,.bool x1),(5,.ptr 5 0),(32,.bool x2)],[.dead,.rows 49 AN x3,.var [.int .i64 x4,.int .i64 x5,.int .i64 x6,.int .i64 x7,.int .i64 x8,.row 1],.dead,.rows 49 AN x9,.var [.int .i64 x10,.int .i64 x11,.int .i64 x12,.int .i64 x13,.int .i64 x14,.row 4]]⟩
def Dy (x0:Int) (x1:Bool) (x2:List AH) (x3 x4 x5 x6 x7:Int) (x8:List AH) (x9 x10 x11 x12 x13:Int) (x14:List AH) (x15 x16 x17 x18 x19:Int):Option Bool:=((Em (x9,x10,x11,x12,x13,x8) 1).bind fun y8=>(if (decide (y8<0))=true then (some false) else (if (y8 != x0)=true then (some false) else (some true))))
def Dz (x0:ByteArray) (x1 x2:Bool) (x3:List AH) (x4 x5 x6 x7 x8:Int) (x9:List AH) (x10 x11 x12 x13 x14:Int):Option Bool:=((GV x10 x11 x12 x13 x14 1 x9).bind fun y4=>((Em (x10,x11,x12,x13,x14,y4.2) 1).bind fun y5=>(if (decide (y5<0))=true then (some false) else (if (y5 != y4.1)=true then (some false) else ((C2 x0).bind fun y6=>((GF y6.1 (x4,x5,x6,x7,x8,x3)).bind fun y7=>(if (!y7)=false then (if (true != Pr .bool y6.2 x1)=true then (some false) else (Dw y4.1 (true != Pr .bool y6.2 x1) x3 x4 x5 x6 x7 x8 y4.2 x10 x11 x12 x13 x14 y6.1.2.2.2.2.2 y6.1.1 y6.1.2.1 y6.1.2.2.1 y6.1.2.2.2.1 y6.1.2.2.2.2.1)) else (some false))))))))
def FF (x0:ByteArray):Option Bool:=(if (decide ((x0.size:Int)>1048576))=true then (some true) else ((De x0).bind fun y1=>((C2 x0).bind fun y2=>((GF y2.1 y1.1).bind fun y3=>(if (!y3)=false then (if (true != Pr .bool y2.2 y1.2)=true then (some false) else (Dx x0 y1.2 (true != Pr .bool y2.2 y1.2) y1.1.2.2.2.2.2 y1.1.1 y1.1.2.1 y1.1.2.2.1 y1.1.2.2.2.1 y1.1.2.2.2.2.1 y2.1.2.2.2.2.2 y2.1.1 y2.1.2.1 y2.1.2.2.1 y2.1.2.2.2.1 y2.1.2.2.2.2.1)) else (some false))))))
theorem Hz:Wx Dy Dw:=jS (by kernel_rfl)
theorem H5:Wv Dz Dx:=jS (by kernel_rfl)
theorem JL:Lg FF FE:=cT Ao rfl ⟨rfl,rfl⟩ (by kernel_rfl)
def Mo:=cG IK (Ab BF) (Ab BF) kx
def Mp:=kE 0 [] [4] 1 Mo kx
def Lj:St->Option (RT (CS.outs BF)):=lG IJ [] [1,4,5] 1 (Ab BF) Mp
def DQ (x0:ByteArray) (x1:Int) (x2:AG):Option (ByteArray×Bool):=Lj ⟨[(1,.ptr 0 0),(4,.str x0),(5,.int .i64 x1)],[.var (CO.enc x2)]⟩
def HM (x0:ByteArray) (x1:AG):Option (ByteArray×Bool):=cG IL (Ab BF) (Ab BF) kx ⟨[(1,.ptr 0 0),(4,.str x0)],[.var (CO.enc x1)]⟩
def Eq (x0:ByteArray) (x1:Int) (x2:AG):Option (ByteArray×Bool):=(if (decide (x1<(x2.2.2.2.2.2.length:Int)))=true then (if 0<=x1 then (if x1<(x2.2.2.2.2.2.length:Int) then (if 0<=x1 then (if x1<(x2.2.2.2.2.2.length:Int) then (if 0<=x1 then (if x1<(x2.2.2.2.2.2.length:Int) then ((D5 ((x2.2.2.2.2.2.getD x1.toNat (AA,AA,0)).1)).bind fun y8=>(if x0.size+y8.size<=1099511627776 then ((D5 (((x2.2.2.2.2.2.getD x1.toNat (AA,AA,0)).2).1)).bind fun y9=>(if (x0++y8).size+y9.size<=1099511627776 then ((Cr (((x2.2.2.2.2.2.getD x1.toNat (AA,AA,0)).2).2)).bind fun y10=>(if ((x0++y8)++y9).size+y10.size<=1099511627776 then (DQ (((x0++y8)++y9)++y10) (i64.wrap (x1+1)) x2) else none)) else none)) else none)) else none) else none) else none) else none) else none) else none) else ((Hw x0).bind fun y11=>(some (y11.1,y11.2))))
def HN (x0:ByteArray) (x1:AG):Option (ByteArray×Bool):=(DQ x0 0 x1)
def Jp (x0:AG):Option (ByteArray×Bool):=((I3 x0).bind fun y1=>(if (!y1)=true then (some ((⟨#[]⟩:ByteArray),false)) else ((C3 x0.1).bind fun y2=>((C3 x0.2.1).bind fun y3=>(if y2.size+y3.size<=1099511627776 then ((C3 x0.2.2.1).bind fun y4=>(if (y2++y3).size+y4.size<=1099511627776 then ((C3 x0.2.2.2.1).bind fun y5=>(if ((y2++y3)++y4).size+y5.size<=1099511627776 then ((Cr x0.2.2.2.2.1).bind fun y6=>(if (((y2++y3)++y4)++y5).size+y6.size<=1099511627776 then ((Cr (x0.2.2.2.2.2.length:Int)).bind fun y7=>(if ((((y2++y3)++y4)++y5)++y6).size+y7.size<=1099511627776 then (HM (((((y2++y3)++y4)++y5)++y6)++y7) x0) else none)) else none)) else none)) else none)) else none)))))
theorem HO:UC Eq DQ:=lS (by kernel_rfl)
theorem Lk:Pq HN HM:=jS (by kernel_rfl)
theorem PM:Lg Jp GT:=cT BF rfl ⟨rfl,rfl⟩ (by kernel_rfl)
def Mq:=cG Gu (Ab AZ) (Ab AZ) kx
def Mr:=kE 2 [] [4] 3 Mq kx
def Ll:St->Option (RT (CS.outs AZ)):=lG Gt [] [4,38,39,40] 3 (Ab AZ) Mr
def Ms:=cG Ec (Ab AZ) (Ab AZ) kx
def Mt:=kE 0 [] [1,4] 3 Ms kx
def Ln:St->Option (RT (CS.outs AZ)):=lG IM [] [1,4,20,21] 3 (Ab AZ) Mt
def DR (x0:List AH) (x1 x2:Int) (x3:AG) (x4:List Int):Option (ByteArray×Bool):=Ll ⟨[(4,.ptr 2 0),(38,.lst AN x0),(39,.int .i64 x1),(40,.int .i64 x2)],[.var (CO.enc x3),.rows 5 (.int .u8) x4,.var [.self 105,.row 1]]⟩
def HQ (x0:AG) (x1:List Int):Option (ByteArray×Bool):=cG Gv (Ab AZ) (Ab AZ) kx ⟨[(1,.ptr 0 0),(4,.ptr 2 0)],[.var (CO.enc x0),.rows 5 (.int .u8) x1,.var [.self 105,.row 1]]⟩
def Er (x0:AG) (x1:List Int):Option (ByteArray×Bool):=cG Ec (Ab AZ) (Ab AZ) kx ⟨[(1,.ptr 0 0),(4,.ptr 2 0)],[.var (CO.enc x0),.rows 5 (.int .u8) x1,.var [.self 105,.row 1]]⟩
def Cc (x0 x1 x2 x3 x4:Int) (x5:AG) (x6:List Int):Option (ByteArray×Bool):=Ln ⟨[(1,.ptr 0 0),(4,.ptr 2 0),(20,.agg [.int .i64 x0,.int .i64 x1,.int .i64 x2,.int .i64 x3]),(21,.int .i64 x4)],[.var (CO.enc x5),.rows 5 (.int .u8) x6,.var [.self 105,.row 1]]⟩
def Es (x0:List AH) (x1 x2:Int) (x3:AG) (x4:List Int):Option (ByteArray×Bool):=(if (decide (x2<x1))=true then (if 0<=x2 then (if x2<(x0.length:Int) then ((CP (((x0.getD x2.toNat (AA,AA,0)).1).size:Int)).bind fun y4=>(if y4.size+((x0.getD x2.toNat (AA,AA,0)).1).size<=1099511627776 then ((CP ((((x0.getD x2.toNat (AA,AA,0)).2).1).size:Int)).bind fun y5=>(if (y4++((x0.getD x2.toNat (AA,AA,0)).1)).size+y5.size<=1099511627776 then (if ((y4++((x0.getD x2.toNat (AA,AA,0)).1))++y5).size+(((x0.getD x2.toNat (AA,AA,0)).2).1).size<=1099511627776 then ((CP (((x0.getD x2.toNat (AA,AA,0)).2).2)).bind fun y6=>(if (((y4++((x0.getD x2.toNat (AA,AA,0)).1))++y5)++(((x0.getD x2.toNat (AA,AA,0)).2).1)).size+y6.size<=1099511627776 then (B_strings_Builder_WriteString.bind fun _=>(if x4.length+(AK ((((y4++((x0.getD x2.toNat (AA,AA,0)).1))++y5)++(((x0.getD x2.toNat (AA,AA,0)).2).1))++y6)).length<=68719476736 then (DR x0 x1 (i64.wrap (x2+1)) x3 (x4++(AK ((((y4++((x0.getD x2.toNat (AA,AA,0)).1))++y5)++(((x0.getD x2.toNat (AA,AA,0)).2).1))++y6)))) else none)) else none)) else none) else none)) else none)) else none) else none) else (B_strings_Builder_String.bind fun _=>(if C8 x4=true then ((Hx (AC x4)).bind fun y7=>(some (y7.1,y7.2))) else none)))
def HR (x0:AG) (x1:List Int):Option (ByteArray×Bool):=(DR x0.2.2.2.2.2 (x0.2.2.2.2.2.length:Int) 0 x0 x1)
def HS (x0:AG) (x1:List Int):Option (ByteArray×Bool):=((CP x0.2.2.2.2.1).bind fun y2=>((CP (x0.2.2.2.2.2.length:Int)).bind fun y3=>(if y2.size+y3.size<=1099511627776 then (B_strings_Builder_WriteString.bind fun _=>(if x1.length+(AK (y2++y3)).length<=68719476736 then (HQ x0 (x1++(AK (y2++y3)))) else none)) else none)))
def Et (x0 x1 x2 x3 x4:Int) (x5:AG) (x6:List Int):Option (ByteArray×Bool):=(if (decide (x4<4))=true then (if 0<=x4 then (if x4<4 then (B_strings_Builder_WriteByte.bind fun _=>(if x6.length+([(IntKind.u8.wrap (([x0,x1,x2,x3]:List Int).getD x4.toNat 0))]:List Int).length<=68719476736 then (Cc x0 x1 x2 x3 (i64.wrap (x4+1)) x5 (x6++([(IntKind.u8.wrap (([x0,x1,x2,x3]:List Int).getD x4.toNat 0))]:List Int))) else none)) else none) else none) else (Er x5 x6))
def Jq (x0:AG):Option (ByteArray×Bool):=((I4 x0).bind fun y1=>(if (!y1)=true then (some ((⟨#[]⟩:ByteArray),false)) else (Cc x0.1 x0.2.1 x0.2.2.1 x0.2.2.2.1 0 x0 ([]:List Int))))
theorem HT:Wu Es DR:=lS (by kernel_rfl)
theorem Lo:Pq HR HQ:=jS (by kernel_rfl)
theorem Lq:Pq HS Er:=jS (by kernel_rfl)
theorem HU:W5 Et Cc:=lS (by kernel_rfl)
theorem PN:Lg Jq GU:=cT AZ rfl ⟨rfl,rfl⟩ (by kernel_rfl)
def Lr (x0 x1:AG):Option Bool:=(if (x0.1 != x1.1)=true then (some false) else (if (x0.2.1 != x1.2.1)=true then (some false) else (if (x0.2.2.1 != x1.2.2.1)=true then (some false) else (if (x0.2.2.2.1 != x1.2.2.2.1)=true then (some false) else (if (x0.2.2.2.2.1 != x1.2.2.2.2.1)=true then (some false) else ((GW x0.2.2.2.2.2 x1.2.2.2.2.2).bind fun y1=>(if (!y1)=true then (some false) else (some true))))))))
theorem Q5:Pq Lr GF:=cT F9 rfl ⟨rfl,rfl⟩ (by kernel_rfl)
def Mu:=cG Ed (Ab A_) (Ab A_) kx
def Ib:=kE 0 [] [0,2,6,7] 6 Mu kx
def HV:St->Option (RT (CS.outs A_)):=lG IP [] [0,2,6,7,8,9] 6 (Ab A_) Ib
def Mv:=kB [] [0,2,6,7,8,9] 6 HV
def HW (x0:ByteArray) (x1 x2:Int) (x3:Bool) (x4:List AH) (x5 x6 x7 x8 x9:Int) (x10:AD) (x11:List AH) (x12 x13 x14 x15 x16:Int):Option (AG×Bool):=cG IN Mv (Ab A_) Ib ⟨[(0,.str x0),(2,.ptr 1 0),(6,.ptr 2 0),(7,.ptr 5 0),(8,.int .i64 x1),(9,.int .i64 x2),(54,.bool x3)],[.rows 49 AN x4,.var [.int .i64 x5,.int .i64 x6,.int .i64 x7,.int .i64 x8,.int .i64 x9,.row 0],.var (AO.enc x10),.dead,.rows 49 AN x11,.var [.int .i64 x12,.int .i64 x13,.int .i64 x14,.int .i64 x15,.int .i64 x16,.row 4]]⟩
def Cd (x0:ByteArray) (x1:List AH) (x2 x3 x4 x5 x6:Int) (x7:AD) (x8:List AH) (x9 x10 x11 x12 x13:Int):Option (AG×Bool):=cG Ed (Ab A_) (Ab A_) kx ⟨[(0,.str x0),(2,.ptr 1 0),(6,.ptr 2 0),(7,.ptr 5 0)],[.rows 49 AN x1,.var [.int .i64 x2,.int .i64 x3,.int .i64 x4,.int .i64 x5,.int .i64 x6,.row 0],.var (AO.enc x7),.dead,.rows 49 AN x8,.var [.int .i64 x9,.int .i64 x10,.int .i64 x11,.int .i64 x12,.int .i64 x13,.row 4]]⟩
def Bq (x0:ByteArray) (x1 x2:Int) (x3:List AH) (x4 x5 x6 x7 x8:Int) (x9:AD) (x10:List AH) (x11 x12 x13 x14 x15:Int):Option (AG×Bool):=HV ⟨[(0,.str x0),(2,.ptr 1 0),(6,.ptr 2 0),(7,.ptr 5 0),(8,.int .i64 x1),(9,.int .i64 x2)],[.rows 49 AN x3,.var [.int .i64 x4,.int .i64 x5,.int .i64 x6,.int .i64 x7,.int .i64 x8,.row 0],.var (AO.enc x9),.dead,.rows 49 AN x10,.var [.int .i64 x11,.int .i64 x12,.int .i64 x13,.int .i64 x14,.int .i64 x15,.row 4]]⟩
def Eu (x0:ByteArray) (x1 x2:Int) (x3:Bool) (x4:List AH) (x5 x6 x7 x8 x9:Int) (x10:AD) (x11:List AH) (x12 x13 x14 x15 x16:Int):Option (AG×Bool):=((CB x10).bind fun y8=>((C4 y8.1 y8.2).bind fun y9=>((CB y9.2).bind fun y10=>((C4 y10.1 y10.2).bind fun y11=>((CB y11.2).bind fun y12=>(if x11.length+([(y9.1,y11.1,y12.1)]:List AH).length<=68719476736 then (Bq x0 x1 (i64.wrap (x2+1)) x4 x5 x6 x7 x8 x9 y12.2 (x11++([(y9.1,y11.1,y12.1)]:List AH)) x12 x13 x14 x15 x16) else none))))))
def Ew (x0:ByteArray) (x1:List AH) (x2 x3 x4 x5 x6:Int) (x7:AD) (x8:List AH) (x9 x10 x11 x12 x13:Int):Option (AG×Bool):=((GT (x9,x10,x11,x12,x13,x8)).bind fun y13=>(if x7.2.2=false then (if (!y13.2)=false then (if (!(y13.1.toList==x0.toList))=true then (some ((0,0,0,0,0,([]:List AH)),false)) else (some ((x9,x10,x11,x12,x13,x8),true))) else (some ((0,0,0,0,0,([]:List AH)),false))) else (some ((0,0,0,0,0,([]:List AH)),false))))
def BS (x0:ByteArray) (x1 x2:Int) (x3:List AH) (x4 x5 x6 x7 x8:Int) (x9:AD) (x10:List AH) (x11 x12 x13 x14 x15:Int):Option (AG×Bool):=(if (decide (x2<x1))=true then (if (decide (x2<50))=true then (if (!x9.2.2)=true then (HW x0 x1 x2 (!x9.2.2) x3 x4 x5 x6 x7 x8 x9 x10 x11 x12 x13 x14 x15) else (Cd x0 x3 x4 x5 x6 x7 x8 x9 x10 x11 x12 x13 x14 x15)) else (Cd x0 x3 x4 x5 x6 x7 x8 x9 x10 x11 x12 x13 x14 x15)) else (Cd x0 x3 x4 x5 x6 x7 x8 x9 x10 x11 x12 x13 x14 x15))
def Ex (x0:ByteArray):Option (AG×Bool):=((D6 x0).bind fun y1=>((Be (y1.1,0,(!y1.2))).bind fun y2=>((Be y2.2).bind fun y3=>((Be y3.2).bind fun y4=>((Be y4.2).bind fun y5=>((CB y5.2).bind fun y6=>((CB y6.2).bind fun y7=>(Bq x0 y7.1 0 ([]:List AH) 0 0 0 0 0 y7.2 ([]:List AH) y2.1 y3.1 y4.1 y5.1 y6.1))))))))
theorem HX:Ww Eu HW:=jS (by kernel_rfl)
theorem Ls:WP Ew Cd:=jS (by kernel_rfl)
theorem Br:WQ BS Bq:=lS (by kernel_rfl)
theorem Jr:Lg Ex De:=cT A_ rfl ⟨rfl,rfl⟩ (by kernel_rfl)
def Mw:=cG Ee (Ab BG) (Ab BG) kx
def Mx:=kE 0 [] [0,2,6,7] 6 Mw kx
def Lt:St->Option (RT (CS.outs BG)):=lG IQ [] [0,2,6,7,34,35] 6 (Ab BG) Mx
def Ey (x0:ByteArray) (x1:List AH) (x2 x3 x4 x5 x6:Int) (x7:AD) (x8:List AH) (x9 x10 x11 x12 x13:Int):Option (AG×Bool):=cG Ee (Ab BG) (Ab BG) kx ⟨[(0,.str x0),(2,.ptr 1 0),(6,.ptr 2 0),(7,.ptr 5 0)],[.rows 49 AN x1,.var [.int .i64 x2,.int .i64 x3,.int .i64 x4,.int .i64 x5,.int .i64 x6,.row 0],.var (AO.enc x7),.dead,.rows 49 AN x8,.var [.int .i64 x9,.int .i64 x10,.int .i64 x11,.int .i64 x12,.int .i64 x13,.row 4]]⟩
def Bs (x0:ByteArray) (x1 x2:Int) (x3:List AH) (x4 x5 x6 x7 x8:Int) (x9:AD) (x10:List AH) (x11 x12 x13 x14 x15:Int):Option (AG×Bool):=Lt ⟨[(0,.str x0),(2,.ptr 1 0),(6,.ptr 2 0),(7,.ptr 5 0),(34,.int .i64 x1),(35,.int .i64 x2)],[.rows 49 AN x3,.var [.int .i64 x4,.int .i64 x5,.int .i64 x6,.int .i64 x7,.int .i64 x8,.row 0],.var (AO.enc x9),.dead,.rows 49 AN x10,.var [.int .i64 x11,.int .i64 x12,.int .i64 x13,.int .i64 x14,.int .i64 x15,.row 4]]⟩
def Ez (x0:ByteArray) (x1:List AH) (x2 x3 x4 x5 x6:Int) (x7:AD) (x8:List AH) (x9 x10 x11 x12 x13:Int):Option (AG×Bool):=((GU (x9,x10,x11,x12,x13,x8)).bind fun y11=>(if x7.2.2=false then (if (!y11.2)=false then (if (!(y11.1.toList==x0.toList))=true then (some ((0,0,0,0,0,([]:List AH)),false)) else (some ((x9,x10,x11,x12,x13,x8),true))) else (some ((0,0,0,0,0,([]:List AH)),false))) else (some ((0,0,0,0,0,([]:List AH)),false))))
def Bt (x0:ByteArray) (x1 x2:Int) (x3:List AH) (x4 x5 x6 x7 x8:Int) (x9:AD) (x10:List AH) (x11 x12 x13 x14 x15:Int):Option (AG×Bool):=(if (decide (x2<x1))=true then ((BR x9).bind fun y8=>((BR y8.2).bind fun y9=>((Ay y9.2).bind fun y10=>(if x10.length+([(y8.1,y9.1,y10.1)]:List AH).length<=68719476736 then (Bs x0 x1 (i64.wrap (x2+1)) x3 x4 x5 x6 x7 x8 y10.2 (x10++([(y8.1,y9.1,y10.1)]:List AH)) x11 x12 x13 x14 x15) else none)))) else (Ey x0 x3 x4 x5 x6 x7 x8 x9 x10 x11 x12 x13 x14 x15))
def E0 (x0:ByteArray):Option (AG×Bool):=((D7 x0).bind fun y1=>(if (!y1.2)=true then (some ((0,0,0,0,0,([]:List AH)),false)) else ((Ai (y1.1,0,false)).bind fun y2=>((Ai y2.2).bind fun y3=>((Ai y3.2).bind fun y4=>((Ai y4.2).bind fun y5=>((Ay y5.2).bind fun y6=>((Ay y6.2).bind fun y7=>(Bs x0 (min y7.1 13) 0 ([]:List AH) 0 0 0 0 0 y7.2 ([]:List AH) y2.1 y3.1 y4.1 y5.1 y6.1)))))))))
theorem Lu:WP Ez Ey:=jS (by kernel_rfl)
theorem Ce:WQ Bt Bs:=lS (by kernel_rfl)
theorem Js:Lg E0 C2:=cT BG rfl ⟨rfl,rfl⟩ (by kernel_rfl)
def Jt (x0_0 x0_1 x0_2 x0_3 x0_4 x1:Int) (b0:List AH):Option (Int×List AH):=((FM x1 b0).bind fun y1=>(some (y1.1,y1.2)))
theorem PO:W5 Jt GV:=cT Ef rfl ⟨rfl,rfl⟩ (by kernel_rfl)
def Ju (x0:AG) (x1:Int):Option Int:=((FN x0.2.2.2.2.2 x1).bind fun y1=>(if (decide (y1<0))=true then (some (-1:Int)) else (some y1)))
theorem PP:Pq Ju Em:=cT Eg rfl ⟨rfl,rfl⟩ (by kernel_rfl)
def Jv:=cG Ji (Ab B6) (Ab B6) kx
def PQ:=kB [] [1] 1 Jv
def PR:=kE 0 [] [1] 1 Jv kx
def D8 (x0:Int) (x1:Bool) (x2:AG):Option Bool:=cG Jh PQ (Ab B6) PR ⟨[(1,.ptr 0 0),(38,.int .i64 x0),(39,.bool x1)],[.var (CO.enc x2)]⟩
def Fs (x0:Bool) (x1:AG):Option Bool:=cG Jj (Ab B6) (Ab B6) kx ⟨[(1,.ptr 0 0),(36,.bool x0)],[.var (CO.enc x1)]⟩
def JC (x0:Int) (x1:Bool) (x2:AG):Option Bool:=(if x1=true then (some true) else (if (x0==5)=true then (some ((x2.2.2.2.2.2.length:Int)==1)) else (some ((x2.2.2.2.2.2.length:Int)==0))))
def JD (x0:Bool) (x1:AG):Option Bool:=(if (x1.1==2)=true then (D8 x1.1 (x1.1==2) x1) else (D8 x1.1 (x1.1==3) x1))
def Lv (x0:AG):Option Bool:=((Bf x0.1 1 8).bind fun y1=>(if (!y1)=false then ((Bf x0.2.1 1 6).bind fun y2=>(if (!y2)=false then ((Bf x0.2.2.1 1 6).bind fun y3=>(if (!y3)=false then ((Bf x0.2.2.2.1 1 9).bind fun y4=>(if (!y4)=false then ((Bf x0.2.2.2.2.1 0 1000000000).bind fun y5=>(if (!y5)=false then ((GX x0.2.2.2.2.2).bind fun y6=>(if (!y6)=true then (some false) else (Fs (!y6) x0))) else (some false))) else (some false))) else (some false))) else (some false))) else (some false)))
theorem Ny:UC JC D8:=jS (by kernel_rfl)
theorem Nz:Pq JD Fs:=jS (by kernel_rfl)
theorem Q6:Lg Lv I3:=cT B6 rfl ⟨rfl,rfl⟩ (by kernel_rfl)
def Jw:=cG Jl (Ab B7) (Ab B7) kx
def PS:=kB [] [1] 1 Jw
def PT:=kE 0 [] [1] 1 Jw kx
def D9 (x0:Int) (x1:Bool) (x2:AG):Option Bool:=cG Jk PS (Ab B7) PT ⟨[(1,.ptr 0 0),(38,.int .i64 x0),(39,.bool x1)],[.var (CO.enc x2)]⟩
def Ft (x0:Bool) (x1:AG):Option Bool:=cG Jm (Ab B7) (Ab B7) kx ⟨[(1,.ptr 0 0),(36,.bool x0)],[.var (CO.enc x1)]⟩
def JE (x0:Int) (x1:Bool) (x2:AG):Option Bool:=(if x1=true then (some true) else (if (x0==5)=true then (some ((x2.2.2.2.2.2.length:Int)==1)) else (some ((x2.2.2.2.2.2.length:Int)==0))))
def JF (x0:Bool) (x1:AG):Option Bool:=(if (x1.1==2)=true then (D9 x1.1 (x1.1==2) x1) else (D9 x1.1 (x1.1==3) x1))
def Lw (x0:AG):Option Bool:=((Bn x0.1 1 8).bind fun y1=>(if (!y1)=false then ((Fc x0.2.1).bind fun y2=>(if (!y2)=false then ((Fc x0.2.2.1).bind fun y3=>(if (!y3)=false then ((Bn x0.2.2.2.1 1 9).bind fun y4=>(if (!y4)=false then ((Bn x0.2.2.2.2.1 0 1000000000).bind fun y5=>(if (!y5)=false then ((GY x0.2.2.2.2.2).bind fun y6=>(if (!y6)=true then (some false) else (Ft (!y6) x0))) else (some false))) else (some false))) else (some false))) else (some false))) else (some false)))
theorem N0:UC JE D9:=jS (by kernel_rfl)
theorem N1:Pq JF Ft:=jS (by kernel_rfl)
theorem Q7:Lg Lw I4:=cT B7 rfl ⟨rfl,rfl⟩ (by kernel_rfl)
def Jx (x0:Int):Option ByteArray:=(some (AC ([(IntKind.u8.wrap x0)]:List Int)))
theorem PU:Lg Jx C3:=cT Eh rfl ⟨rfl,rfl⟩ (by kernel_rfl)
def N2:=cG JB (Ab CA) (Ab CA) kx
def N3:=kE 0 [(3,0)] [0,3] 1 N2 kx
def My:St->Option (RT (CS.outs CA)):=lG JA [(3,0)] [0,3] 1 (Ab CA) N3
def Dk (x0:Int) (x1:List Int):Option ByteArray:=My ⟨[(0,.int .i64 x0),(3,.row 0)],[.rows 5 (.int .u8) x1]⟩
def Ic (x0:Int) (x1:List Int):Option ByteArray:=(if (decide (x0>127))=true then (if 128=0 then none else (if x1.length+([(IntKind.u8.wrap (i64.wrap ((Int.tmod x0 128)+128)))]:List Int).length<=68719476736 then (if 128=0 then none else (Dk (i64.wrap (Int.tdiv x0 128)) (x1++([(IntKind.u8.wrap (i64.wrap ((Int.tmod x0 128)+128)))]:List Int)))) else none)) else (if x1.length+([(IntKind.u8.wrap x0)]:List Int).length<=68719476736 then (some (AC (x1++([(IntKind.u8.wrap x0)]:List Int)))) else none))
def Kc (x0:Int):Option ByteArray:=(Dk x0 ([]:List Int))
theorem Mz:Pq Ic Dk:=lS (by kernel_rfl)
theorem P6:Lg Kc Cr:=cT CA rfl ⟨rfl,rfl⟩ (by kernel_rfl)
def JG (x0:ByteArray):Option ByteArray:=((Cr (x0.size:Int)).bind fun y1=>(if y1.size+x0.size<=1099511627776 then (some (y1++x0)) else none))
theorem N4:Lg JG D5:=cT D2 rfl ⟨rfl,rfl⟩ (by kernel_rfl)
def Ke (x0:ByteArray):Option (ByteArray×Bool):=(if (decide ((x0.size:Int)>20000))=true then (some ((⟨#[]⟩:ByteArray),false)) else ((Cb x0).bind fun y1=>((En y1).bind fun y2=>(if x0.size+y2.size<=1099511627776 then (some ((x0++y2),true)) else none))))
theorem P7:Lg Ke Hw:=cT FW rfl ⟨rfl,rfl⟩ (by kernel_rfl)
def M0:=cG IS (Ab Bj) (Ab Bj) kx
def M1:=kE 0 [(3,0)] [0,3] 1 M0 kx
def Lx:St->Option (RT (CS.outs Bj)):=lG IR [(3,0)] [0,3] 1 (Ab Bj) M1
def DS (x0:Int) (x1:List Int):Option ByteArray:=Lx ⟨[(0,.int .i64 x0),(3,.row 0)],[.rows 5 (.int .u8) x1]⟩
def HY (x0:Int) (x1:List Int):Option ByteArray:=(if (decide (x0>127))=true then (if 128=0 then none else (if x1.length+([(IntKind.u8.wrap (i64.wrap (128+(Int.tmod x0 128))))]:List Int).length<=68719476736 then (if 128=0 then none else (DS (i64.wrap (Int.tdiv x0 128)) (x1++([(IntKind.u8.wrap (i64.wrap (128+(Int.tmod x0 128))))]:List Int)))) else none)) else (if x1.length+([(IntKind.u8.wrap x0)]:List Int).length<=68719476736 then (some (AC (x1++([(IntKind.u8.wrap x0)]:List Int)))) else none))
def Jy (x0:Int):Option ByteArray:=(DS x0 ([]:List Int))
theorem Ly:Pq HY DS:=lS (by kernel_rfl)
theorem PV:Lg Jy CP:=cT Bj rfl ⟨rfl,rfl⟩ (by kernel_rfl)
def Kf (x0:ByteArray):Option (ByteArray×Bool):=(if (decide ((x0.size:Int)>20000))=true then (some ((⟨#[]⟩:ByteArray),false)) else ((Eo x0).bind fun y1=>(if x0.size+y1.size<=1099511627776 then (some ((x0++y1),true)) else none)))
theorem P8:Lg Kf Hx:=cT FX rfl ⟨rfl,rfl⟩ (by kernel_rfl)
def M2:=cG IU (Ab Bk) (Ab Bk) kx
def M3:=kE 0 [] [] 0 M2 kx
def Lz:St->Option (RT (CS.outs Bk)):=lG IT [] [0,1,5] 0 (Ab Bk) M3
def DU (x0 x1:List AH) (x2:Int):Option Bool:=Lz ⟨[(0,.lst AN x0),(1,.lst AN x1),(5,.int .i64 x2)],[]⟩
def L0 (x0 x1:List AH) (x2:Int):Option Bool:=(if (decide (x2<(x0.length:Int)))=true then (if 0<=x2 then (if x2<(x0.length:Int) then (if 0<=x2 then (if x2<(x1.length:Int) then ((Hy (x0.getD x2.toNat (AA,AA,0)) (x1.getD x2.toNat (AA,AA,0))).bind fun y1=>(if (!y1)=true then (some false) else (DU x0 x1 (i64.wrap (x2+1))))) else none) else none) else none) else none) else (some true))
def Jz (x0 x1:List AH):Option Bool:=(if ((x0.length:Int) != (x1.length:Int))=true then (some false) else (DU x0 x1 0))
theorem L1:UC L0 DU:=lS (by kernel_rfl)
theorem PW:Pq Jz GW:=cT Bk rfl ⟨rfl,rfl⟩ (by kernel_rfl)
def D_ (x0:ByteArray):Option (ByteArray×Bool):=(if (decide ((i64.wrap ((x0.size:Int)-4))<0))=true then (some ((⟨#[]⟩:ByteArray),false)) else (if (decide ((i64.wrap ((x0.size:Int)-4))>20000))=true then (some ((⟨#[]⟩:ByteArray),false)) else (if 0<=(i64.wrap ((x0.size:Int)-4)) then (if (i64.wrap ((x0.size:Int)-4))<=(x0.size:Int) then (if (x0.size:Int)<=(x0.size:Int) then (if 0<=(0:Int) then (if 0<=(i64.wrap ((x0.size:Int)-4)) then (if (i64.wrap ((x0.size:Int)-4))<=(x0.size:Int) then ((Cb (x0.extract (0:Int).toNat (i64.wrap ((x0.size:Int)-4)).toNat)).bind fun y1=>((En y1).bind fun y2=>(if (!((x0.extract (i64.wrap ((x0.size:Int)-4)).toNat (x0.size:Int).toNat).toList==y2.toList))=true then (some ((⟨#[]⟩:ByteArray),false)) else (if 0<=(0:Int) then (if 0<=(i64.wrap ((x0.size:Int)-4)) then (if (i64.wrap ((x0.size:Int)-4))<=(x0.size:Int) then (some ((x0.extract (0:Int).toNat (i64.wrap ((x0.size:Int)-4)).toNat),true)) else none) else none) else none)))) else none) else none) else none) else none) else none) else none)))
theorem JH:Lg D_ D6:=cT D3 rfl ⟨rfl,rfl⟩ (by kernel_rfl)
def Fd (b0:AD):Option (Int×AD):=((C4 1 b0).bind fun y1=>(if y1.2.2.2=true then (some (0,y1.2)) else (if 0<=(0:Int) then (if 0<(y1.1.size:Int) then (some ((i64.wrap ((y1.1.data.toList.getD (0:Int).toNat 0).toNat:Int)),y1.2)) else none) else none)))
theorem Kg:Lg Fd Be:=cT FY rfl ⟨rfl,rfl⟩ (by kernel_rfl)
def Fe (b0:AD):Option (Int×AD):=((Ep b0.1 b0.2.1).bind fun y1=>(if b0.2.2=false then (if (!y1.2.2)=true then (some (0,(b0.1,b0.2.1,true))) else (some (y1.1,(b0.1,y1.2.1,b0.2.2)))) else (some (0,(b0.1,b0.2.1,true)))))
theorem Kh:Lg Fe CB:=cT FZ rfl ⟨rfl,rfl⟩ (by kernel_rfl)
def HZ (x0:Int) (x1:Bool) (x2:AD):Option (ByteArray×AD):=cG IV (Ab C1) (Ab C1) kx ⟨[(0,.ptr 0 0),(1,.int .i64 x0),(22,.bool x1)],[.var (AO.enc x2)]⟩
def E1 (x0:Int) (x1:Bool) (x2:AD):Option (ByteArray×AD):=(if 0<=(i64.wrap ((i64.wrap (x2.2.1+x0))-x0)) then (if (i64.wrap ((i64.wrap (x2.2.1+x0))-x0))<=(i64.wrap (x2.2.1+x0)) then (if (i64.wrap (x2.2.1+x0))<=(x2.1.size:Int) then (some ((x2.1.extract (i64.wrap ((i64.wrap (x2.2.1+x0))-x0)).toNat (i64.wrap (x2.2.1+x0)).toNat),(x2.1,(i64.wrap (x2.2.1+x0)),x2.2.2))) else none) else none) else none)
def E2 (x1:Int) (b0:AD):Option (ByteArray×AD):=(if b0.2.2=true then (some ((⟨#[]⟩:ByteArray),(b0.1,b0.2.1,true))) else (if (decide (x1>(i64.wrap ((b0.1.size:Int)-b0.2.1))))=true then (some ((⟨#[]⟩:ByteArray),(b0.1,b0.2.1,true))) else (HZ x1 (decide (x1>(i64.wrap ((b0.1.size:Int)-b0.2.1)))) b0)))
theorem Ha:UC E1 HZ:=jS (by kernel_rfl)
theorem J0:Pq E2 C4:=cT C1 rfl ⟨rfl,rfl⟩ (by kernel_rfl)
def EA (x0:ByteArray):Option (ByteArray×Bool):=(if (decide ((i64.wrap ((x0.size:Int)-4))<0))=true then (some ((⟨#[]⟩:ByteArray),false)) else (if (decide ((i64.wrap ((x0.size:Int)-4))>20000))=true then (some ((⟨#[]⟩:ByteArray),false)) else (if 0<=(0:Int) then (if 0<=(i64.wrap ((x0.size:Int)-4)) then (if (i64.wrap ((x0.size:Int)-4))<=(x0.size:Int) then (if 0<=(i64.wrap ((x0.size:Int)-4)) then (if (i64.wrap ((x0.size:Int)-4))<=(x0.size:Int) then (if (x0.size:Int)<=(x0.size:Int) then ((Eo (x0.extract (0:Int).toNat (i64.wrap ((x0.size:Int)-4)).toNat)).bind fun y1=>(if (!(y1.toList==(x0.extract (i64.wrap ((x0.size:Int)-4)).toNat (x0.size:Int).toNat).toList))=true then (some ((⟨#[]⟩:ByteArray),false)) else (if 0<=(0:Int) then (if 0<=(i64.wrap ((x0.size:Int)-4)) then (if (i64.wrap ((x0.size:Int)-4))<=(x0.size:Int) then (some ((x0.extract (0:Int).toNat (i64.wrap ((x0.size:Int)-4)).toNat),true)) else none) else none) else none))) else none) else none) else none) else none) else none) else none)))
theorem JI:Lg EA D7:=cT D4 rfl ⟨rfl,rfl⟩ (by kernel_rfl)
def C5 (x0:Bool) (x1:AD):Option (Int×AD):=cG Ei (Ab BI) (Ab BI) kx ⟨[(0,.ptr 0 0),(18,.bool x0)],[.var (AO.enc x1)]⟩
def C6 (x0:Bool) (x1:AD):Option (Int×AD):=(if 0<=(i64.wrap ((i64.wrap (x1.2.1+1))-1)) then (if (i64.wrap ((i64.wrap (x1.2.1+1))-1))<(x1.1.size:Int) then (some ((i64.wrap ((x1.1.data.toList.getD (i64.wrap ((i64.wrap (x1.2.1+1))-1)).toNat 0).toNat:Int)),(x1.1,(i64.wrap (x1.2.1+1)),x1.2.2))) else none) else none)
def Cf (b0:AD):Option (Int×AD):=(if b0.2.2=true then (some (0,(b0.1,b0.2.1,true))) else (if (decide (b0.2.1>=(b0.1.size:Int)))=true then (some (0,(b0.1,b0.2.1,true))) else (C5 (decide (b0.2.1>=(b0.1.size:Int))) b0)))
theorem EM:Pq C6 C5:=jS (by kernel_rfl)
theorem Fo:Lg Cf Ai:=cT BI rfl ⟨rfl,rfl⟩ (by kernel_rfl)
def Bu (b0:AD):Option (Int×AD):=((Df b0.1 b0.2.1).bind fun y1=>(if b0.2.2=false then (if (!y1.2.2)=true then (some (0,(b0.1,b0.2.1,true))) else (some (y1.1,(b0.1,y1.2.1,b0.2.2)))) else (some (0,(b0.1,b0.2.1,true)))))
theorem EN:Lg Bu Ay:=cT Bp rfl ⟨rfl,rfl⟩ (by kernel_rfl)
def B9 (b0:AD):Option (ByteArray×AD):=((FO b0.1 b0.2.1).bind fun y1=>(if b0.2.2=false then (if (!y1.2.2)=true then (some ((⟨#[]⟩:ByteArray),(b0.1,b0.2.1,true))) else (some (y1.1,(b0.1,y1.2.1,b0.2.2)))) else (some ((⟨#[]⟩:ByteArray),(b0.1,b0.2.1,true)))))
theorem E3:Lg B9 BR:=cT B8 rfl ⟨rfl,rfl⟩ (by kernel_rfl)
def Kz:=cG Fx (Ab BJ) (Ab BJ) kx
def K3:=kE 0 [] [1] 1 Kz kx
def KQ:St->Option (RT (CS.outs BJ)):=lG GQ [(0,0)] [0,1,5] 1 (Ab BJ) K3
def Cu (x0 x1:Int) (x2:List AH):Option (Int×List AH):=KQ ⟨[(0,.row 0),(1,.int .i64 x0),(5,.int .i64 x1)],[.mrow 49 AN x2]⟩
def Do (x0 x1:Int) (x2:List AH):Option (Int×List AH):=(if (decide (x1<(x2.length:Int)))=true then ((BX x0).bind fun y1=>(if 0<=x1 then (if x1<(x2.length:Int) then (let z2:List AH:=x2.set x1.toNat (y1,(x2.getD x1.toNat (AA,AA,0)).2); ((BX (i64.wrap (x0+1))).bind fun y3=>(if 0<=x1 then (if x1<(z2.length:Int) then (let z4:List AH:=z2.set x1.toNat ((z2.getD x1.toNat (AA,AA,0)).1,y3,((z2.getD x1.toNat (AA,AA,0)).2).2); (if 0<=x1 then (if x1<(z4.length:Int) then (let z5:List AH:=z4.set x1.toNat ((z4.getD x1.toNat (AA,AA,0)).1,((z4.getD x1.toNat (AA,AA,0)).2).1,(i64.wrap ((i64.wrap (x0+1))+1))); (Cu (i64.wrap ((i64.wrap ((i64.wrap (x0+1))+1))+1)) (i64.wrap (x1+1)) z5)) else none) else none)) else none) else none))) else none) else none)) else (some (x0,x2)))
def Id (x1:Int) (b0:List AH):Option (Int×List AH):=(Cu x1 0 b0)
theorem F0:UC Do Cu:=lS (by kernel_rfl)
theorem M4:Pq Id FM:=cT BJ rfl ⟨rfl,rfl⟩ (by kernel_rfl)
def K4:=cG Fz (Ab BK) (Ab BK) kx
def K5:=kE 0 [] [1] 0 K4 kx
def KR:St->Option (RT (CS.outs BK)):=lG Fy [] [0,1,5] 0 (Ab BK) K5
def Cv (x0:List AH) (x1 x2:Int):Option Int:=KR ⟨[(0,.lst AN x0),(1,.int .i64 x1),(5,.int .i64 x2)],[]⟩
def Dp (x0:List AH) (x1 x2:Int):Option Int:=(if (decide (x2<(x0.length:Int)))=true then (if 0<=x2 then (if x2<(x0.length:Int) then ((BX x1).bind fun y1=>(if (!(((x0.getD x2.toNat (AA,AA,0)).1).toList==y1.toList))=true then (some (-1:Int)) else (if 0<=x2 then (if x2<(x0.length:Int) then ((BX (i64.wrap (x1+1))).bind fun y2=>(if (!((((x0.getD x2.toNat (AA,AA,0)).2).1).toList==y2.toList))=true then (some (-1:Int)) else (if 0<=x2 then (if x2<(x0.length:Int) then (if ((((x0.getD x2.toNat (AA,AA,0)).2).2) != (i64.wrap ((i64.wrap (x1+1))+1)))=true then (some (-1:Int)) else (Cv x0 (i64.wrap ((i64.wrap ((i64.wrap (x1+1))+1))+1)) (i64.wrap (x2+1)))) else none) else none))) else none) else none))) else none) else none) else (some x1))
def Ie (x0:List AH) (x1:Int):Option Int:=(Cv x0 x1 0)
theorem F3:UC Dp Cv:=lS (by kernel_rfl)
theorem M5:Pq Ie FN:=cT BK rfl ⟨rfl,rfl⟩ (by kernel_rfl)
def L2 (x0 x1 x2:Int):Option Bool:=(if (decide (x0>=x1))=true then (some (decide (x0<=x2))) else (some false))
theorem Q8:UC L2 Bf:=cT F_ rfl ⟨rfl,rfl⟩ (by kernel_rfl)
def M6:=cG G2 (Ab Bl) (Ab Bl) kx
def M7:=kE 0 [] [0] 0 M6 kx
def L3:St->Option (RT (CS.outs Bl)):=lG G1 [] [0,3] 0 (Ab Bl) M7
def Cg (x0:List AH) (x1:Int):Option Bool:=L3 ⟨[(0,.lst AN x0),(3,.int .i64 x1)],[]⟩
def E4 (x0:List AH) (x1:Int):Option Bool:=(if (decide (x1<(x0.length:Int)))=true then (if 0<=x1 then (if x1<(x0.length:Int) then ((Bf (((x0.getD x1.toNat (AA,AA,0)).1).size:Int) 1 12).bind fun y1=>(if (!y1)=true then (some false) else (if (decide (((((x0.getD x1.toNat (AA,AA,0)).2).1).size:Int)>20))=true then (some false) else ((Bf (((x0.getD x1.toNat (AA,AA,0)).2).2) 1 1000000000).bind fun y2=>(if (!y2)=true then (some false) else (if (decide (x1>0))=true then (if 0<=(i64.wrap (x1-1)) then (if (i64.wrap (x1-1))<(x0.length:Int) then (if (!(Op.bytesLess ((x0.getD (i64.wrap (x1-1)).toNat (AA,AA,0)).1).toList ((x0.getD x1.toNat (AA,AA,0)).1).toList))=true then (some false) else (Cg x0 (i64.wrap (x1+1)))) else none) else none) else (Cg x0 (i64.wrap (x1+1))))))))) else none) else none) else (some (decide ((x0.length:Int)<=12))))
def J2 (x0:List AH):Option Bool:=(Cg x0 0)
theorem Hc:Pq E4 Cg:=lS (by kernel_rfl)
theorem PX:Lg J2 GX:=cT Bl rfl ⟨rfl,rfl⟩ (by kernel_rfl)
def J3 (x0 x1 x2:Int):Option Bool:=(if (decide (x0>=x1))=true then (some (decide (x0<=x2))) else (some false))
theorem PY:UC J3 Bn:=cT Ej rfl ⟨rfl,rfl⟩ (by kernel_rfl)
def Ki (x0:Int):Option Bool:=((Bn x0 1 6).bind fun y1=>(some y1))
theorem P9:Lg Ki Fc:=cT Fa rfl ⟨rfl,rfl⟩ (by kernel_rfl)
def M8:=cG G7 (Ab Bm) (Ab Bm) kx
def M9:=kE 0 [] [0] 0 M8 kx
def L4:St->Option (RT (CS.outs Bm)):=lG G6 [] [0,5,6,7] 0 (Ab Bm) M9
def Ch (x0 x1:List AH) (x2 x3:Int):Option Bool:=L4 ⟨[(0,.lst AN x0),(5,.lst AN x1),(6,.int .i64 x2),(7,.int .i64 x3)],[]⟩
def E5 (x0 x1:List AH) (x2 x3:Int):Option Bool:=(if (decide (x3<x2))=true then (if 0<=x3 then (if x3<(x1.length:Int) then ((I5 ((x1.getD x3.toNat (AA,AA,0)).1)).bind fun y1=>(if (!y1)=true then (some false) else (if (decide (((((x1.getD x3.toNat (AA,AA,0)).2).1).size:Int)>20))=true then (some false) else ((Bn (((x1.getD x3.toNat (AA,AA,0)).2).2) 1 1000000000).bind fun y2=>(if (!y2)=true then (some false) else (if (decide (x3>0))=true then (if 0<=(i64.wrap (x3-1)) then (if (i64.wrap (x3-1))<(x0.length:Int) then (if ((Op.bytesLess ((x1.getD x3.toNat (AA,AA,0)).1).toList ((x0.getD (i64.wrap (x3-1)).toNat (AA,AA,0)).1).toList)||(((x1.getD x3.toNat (AA,AA,0)).1).toList==((x0.getD (i64.wrap (x3-1)).toNat (AA,AA,0)).1).toList))=true then (some false) else (Ch x0 x1 x2 (i64.wrap (x3+1)))) else none) else none) else (Ch x0 x1 x2 (i64.wrap (x3+1))))))))) else none) else none) else (some (decide ((x0.length:Int)<=12))))
def J4 (x0:List AH):Option Bool:=(Ch x0 x0 (x0.length:Int) 0)
theorem Hd:Wj E5 Ch:=lS (by kernel_rfl)
theorem PZ:Lg J4 GY:=cT Bm rfl ⟨rfl,rfl⟩ (by kernel_rfl)
def J5 (x0:Int):Option ByteArray:=(if 24<0 then none else (if 16<0 then none else (if 8<0 then none else (some (AC ([(IntKind.u8.wrap (Int.fdiv x0 (2^(min (24:Int).toNat (IntKind.bits .u32))))),(IntKind.u8.wrap (Int.fdiv x0 (2^(min (16:Int).toNat (IntKind.bits .u32))))),(IntKind.u8.wrap (Int.fdiv x0 (2^(min (8:Int).toNat (IntKind.bits .u32))))),(IntKind.u8.wrap x0)]:List Int))))))
theorem Pa:Lg J5 En:=cT Ek rfl ⟨rfl,rfl⟩ (by kernel_rfl)
def L5 (x0:ByteArray):Option Int:=((GZ 4294967295 x0).bind fun y1=>(some y1))
theorem Q9:Lg L5 Cb:=cT GA rfl ⟨rfl,rfl⟩ (by kernel_rfl)
def J6 (x0:ByteArray):Option ByteArray:=((I6 x0).bind fun y1=>(if 24<0 then none else (if 16<0 then none else (if 8<0 then none else (some (AC ([(IntKind.u8.wrap (Int.fdiv y1 (2^(min (24:Int).toNat (IntKind.bits .u32))))),(IntKind.u8.wrap (Int.fdiv y1 (2^(min (16:Int).toNat (IntKind.bits .u32))))),(IntKind.u8.wrap (Int.fdiv y1 (2^(min (8:Int).toNat (IntKind.bits .u32))))),(IntKind.u8.wrap y1)]:List Int)))))))
theorem Pb:Lg J6 Eo:=cT El rfl ⟨rfl,rfl⟩ (by kernel_rfl)
def Kj (x0 x1:AH):Option Bool:=(if (!(x0.1.toList==x1.1.toList))=true then (some false) else (if (!(x0.2.1.toList==x1.2.1.toList))=true then (some false) else (if (x0.2.2 != x1.2.2)=true then (some false) else (some true))))
theorem P_:Pq Kj Hy:=cT Fb rfl ⟨rfl,rfl⟩ (by kernel_rfl)
def M_:=cG G8 (Ab BP) (Ab BP) kx
def If:=kE 0 [] [] 0 M_ kx
def He:St->Option (RT (CS.outs BP)):=lG IY [] [0,1,7,8,9] 0 (Ab BP) If
def NA:=kB [] [0,1,7,8,9] 0 He
def Hf (x0:ByteArray) (x1 x2 x3 x4:Int) (x5:Bool):Option (Int×Int×Bool):=cG IX NA (Ab BP) If ⟨[(0,.str x0),(1,.int .i64 x1),(7,.int .i64 x2),(8,.int .i64 x3),(9,.int .i64 x4),(25,.bool x5)],[]⟩
def BT (x0:ByteArray) (x1 x2 x3 x4:Int):Option (Int×Int×Bool):=He ⟨[(0,.str x0),(1,.int .i64 x1),(7,.int .i64 x2),(8,.int .i64 x3),(9,.int .i64 x4)],[]⟩
def DV (x0:ByteArray) (x1 x2 x3 x4:Int) (x5:Bool):Option (Int×Int×Bool):=(if 0<=x4 then (if x4<(x0.size:Int) then (if 128=0 then none else (if 0<=x4 then (if x4<(x0.size:Int) then (if (decide (((x0.data.toList.getD x4.toNat 0).toNat:Int)<128))=true then (if (decide ((i64.wrap (x2+(i64.wrap ((Int.tmod (i64.wrap ((x0.data.toList.getD x4.toNat 0).toNat:Int)) 128)*x3))))>1000000000))=true then (some (0,0,false)) else (if 0<=x1 then (if x1<=(i64.wrap (x4+1)) then (if (i64.wrap (x4+1))<=(x0.size:Int) then ((Cr (i64.wrap (x2+(i64.wrap ((Int.tmod (i64.wrap ((x0.data.toList.getD x4.toNat 0).toNat:Int)) 128)*x3))))).bind fun y2=>(if (!(y2.toList==(x0.extract x1.toNat (i64.wrap (x4+1)).toNat).toList))=true then (some (0,0,false)) else (some ((i64.wrap (x2+(i64.wrap ((Int.tmod (i64.wrap ((x0.data.toList.getD x4.toNat 0).toNat:Int)) 128)*x3)))),(i64.wrap (x4+1)),true)))) else none) else none) else none)) else (BT x0 x1 (i64.wrap (x2+(i64.wrap ((Int.tmod (i64.wrap ((x0.data.toList.getD x4.toNat 0).toNat:Int)) 128)*x3)))) (i64.wrap (x3*128)) (i64.wrap (x4+1)))) else none) else none)) else none) else none)
def Ci (x0:ByteArray) (x1 x2 x3 x4:Int):Option (Int×Int×Bool):=(if (decide (x4<(x0.size:Int)))=true then (if (decide (x4<(i64.wrap (x1+5))))=true then (Hf x0 x1 x2 x3 x4 (decide (x4<(i64.wrap (x1+5))))) else (some (0,0,false))) else (some (0,0,false)))
def Gb (x0:ByteArray) (x1:Int):Option (Int×Int×Bool):=((Bf x1 0 (x0.size:Int)).bind fun y1=>(if (!y1)=true then (some (0,0,false)) else (BT x0 x1 0 1 x1)))
theorem Hg:W4 DV Hf:=jS (by kernel_rfl)
theorem E6:Wu Ci BT:=lS (by kernel_rfl)
theorem J7:Pq Gb Ep:=cT BP rfl ⟨rfl,rfl⟩ (by kernel_rfl)
def NB:=cG HA (Ab BQ) (Ab BQ) kx
def Ig:=kE 0 [] [] 0 NB kx
def Hh:St->Option (RT (CS.outs BQ)):=lG G_ [] [0,1,7,8,9] 0 (Ab BQ) Ig
def NC:=kB [] [0,1,7,8,9] 0 Hh
def Hi (x0:ByteArray) (x1 x2 x3 x4:Int) (x5:Bool):Option (Int×Int×Bool):=cG G9 NC (Ab BQ) Ig ⟨[(0,.str x0),(1,.int .i64 x1),(7,.int .i64 x2),(8,.int .i64 x3),(9,.int .i64 x4),(28,.bool x5)],[]⟩
def BU (x0:ByteArray) (x1 x2 x3 x4:Int):Option (Int×Int×Bool):=Hh ⟨[(0,.str x0),(1,.int .i64 x1),(7,.int .i64 x2),(8,.int .i64 x3),(9,.int .i64 x4)],[]⟩
def DW (x0:ByteArray) (x1 x2 x3 x4:Int) (x5:Bool):Option (Int×Int×Bool):=(if 0<=(i64.wrap (x1+x4)) then (if (i64.wrap (x1+x4))<(x0.size:Int) then (if 128=0 then none else (if (decide ((i64.wrap ((x0.data.toList.getD (i64.wrap (x1+x4)).toNat 0).toNat:Int))>=128))=true then (BU x0 x1 (i64.wrap (x2+(i64.wrap ((Int.tmod (i64.wrap ((x0.data.toList.getD (i64.wrap (x1+x4)).toNat 0).toNat:Int)) 128)*x3)))) (i64.wrap (x3*128)) (i64.wrap (x4+1))) else (if ((i64.wrap ((x0.data.toList.getD (i64.wrap (x1+x4)).toNat 0).toNat:Int))==0)=true then (if (decide (x4>0))=false then (if (decide ((i64.wrap (x2+(i64.wrap ((Int.tmod (i64.wrap ((x0.data.toList.getD (i64.wrap (x1+x4)).toNat 0).toNat:Int)) 128)*x3))))>1000000000))=true then (some (0,0,false)) else (some ((i64.wrap (x2+(i64.wrap ((Int.tmod (i64.wrap ((x0.data.toList.getD (i64.wrap (x1+x4)).toNat 0).toNat:Int)) 128)*x3)))),(i64.wrap ((i64.wrap (x1+x4))+1)),true))) else (some (0,0,false))) else (if (decide ((i64.wrap (x2+(i64.wrap ((Int.tmod (i64.wrap ((x0.data.toList.getD (i64.wrap (x1+x4)).toNat 0).toNat:Int)) 128)*x3))))>1000000000))=true then (some (0,0,false)) else (some ((i64.wrap (x2+(i64.wrap ((Int.tmod (i64.wrap ((x0.data.toList.getD (i64.wrap (x1+x4)).toNat 0).toNat:Int)) 128)*x3)))),(i64.wrap ((i64.wrap (x1+x4))+1)),true)))))) else none) else none)
def Cj (x0:ByteArray) (x1 x2 x3 x4:Int):Option (Int×Int×Bool):=(if (decide (x4<5))=true then (if (decide ((i64.wrap (x1+x4))<(x0.size:Int)))=true then (Hi x0 x1 x2 x3 x4 (decide ((i64.wrap (x1+x4))<(x0.size:Int)))) else (some (0,0,false))) else (some (0,0,false)))
def Gc (x0:ByteArray) (x1:Int):Option (Int×Int×Bool):=(if (decide (x1<0))=false then (if (decide (x1>(x0.size:Int)))=true then (some (0,0,false)) else (BU x0 x1 0 1 0)) else (some (0,0,false)))
theorem Hj:W4 DW Hi:=jS (by kernel_rfl)
theorem E7:Wu Cj BU:=lS (by kernel_rfl)
theorem J8:Pq Gc Df:=cT BQ rfl ⟨rfl,rfl⟩ (by kernel_rfl)
def F4 (x0:ByteArray) (x1 x2:Int) (x3:Bool):Option (ByteArray×Int×Bool):=cG GR (Ab CG) (Ab CG) kx ⟨[(0,.str x0),(7,.int .i64 x1),(8,.int .i64 x2),(30,.bool x3)],[]⟩
def Dq (x0:ByteArray) (x1 x2:Int) (x3:Bool):Option (ByteArray×Int×Bool):=(if 0<=x2 then (if x2<=(i64.wrap (x2+x1)) then (if (i64.wrap (x2+x1))<=(x0.size:Int) then (some ((x0.extract x2.toNat (i64.wrap (x2+x1)).toNat),(i64.wrap (x2+x1)),true)) else none) else none) else none)
def Dl (x0:ByteArray) (x1:Int):Option (ByteArray×Int×Bool):=((Df x0 x1).bind fun y1=>(if (!y1.2.2)=false then (if (decide (y1.1>20000))=false then (if (decide (y1.1>(i64.wrap ((x0.size:Int)-y1.2.1))))=true then (some ((⟨#[]⟩:ByteArray),0,false)) else (F4 x0 y1.1 y1.2.1 (decide (y1.1>(i64.wrap ((x0.size:Int)-y1.2.1)))))) else (some ((⟨#[]⟩:ByteArray),0,false))) else (some ((⟨#[]⟩:ByteArray),0,false))))
theorem F5:Wj Dq F4:=jS (by kernel_rfl)
theorem Ih:Pq Dl FO:=cT CG rfl ⟨rfl,rfl⟩ (by kernel_rfl)
def L6:=cG HC (Ab BW) (Ab BW) kx
def L7:=kE 0 [] [3] 0 L6 kx
def K6:St->Option (RT (CS.outs BW)):=lG HB [] [0,3] 0 (Ab BW) L7
def DG (x0:Int) (x1:ByteArray):Option ByteArray:=K6 ⟨[(0,.int .i64 x0),(3,.str x1)],[]⟩
def DH (x0:Int) (x1:ByteArray):Option ByteArray:=(if (decide (x0>0))=true then (if 10=0 then none else (if (AC ([(IntKind.u8.wrap (i64.wrap (48+(Int.tmod x0 10))))]:List Int)).size+x1.size<=1099511627776 then (if 10=0 then none else (DG (i64.wrap (Int.tdiv x0 10)) ((AC ([(IntKind.u8.wrap (i64.wrap (48+(Int.tmod x0 10))))]:List Int))++x1))) else none)) else (if (⟨#[109]⟩:ByteArray).size+x1.size<=1099511627776 then (some ((⟨#[109]⟩:ByteArray)++x1)) else none))
def Fu (x0:Int):Option ByteArray:=(if (decide (x0<=0))=true then (some (⟨#[109,48]⟩:ByteArray)) else (DG x0 (⟨#[]⟩:ByteArray)))
theorem EF:Pq DH DG:=lS (by kernel_rfl)
theorem JJ:Lg Fu BX:=cT BW rfl ⟨rfl,rfl⟩ (by kernel_rfl)
def L8 (x0:ByteArray):Option Bool:=((Bn (x0.size:Int) 1 12).bind fun y1=>(some y1))
theorem Q_:Lg L8 I5:=cT GB rfl ⟨rfl,rfl⟩ (by kernel_rfl)

def ND:=cG HF (Ab BA) (Ab BA) kx
def FP:=kE 0 [] [0] 0 ND kx
def Hk:St->Option (RT (CS.outs BA)):=lG HE [] [0,1,5] 0 (Ab BA) FP
def NE:=kB [] [0,1,5] 0 Hk
def Ii:=cG HD NE (Ab BA) FP
def NF:=kB [] [0,1,5] 0 Ii
def NG:=kE 1 [] [0,1,5] 0 Ii FP
def NH:=kE 2 [] [0,1,5] 0 NF NG
def L9:St->Option (RT (CS.outs BA)):=lG IZ [] [0,1,5,6] 0 (Ab BA) NH
def Bv (x0:Int) (x1:ByteArray) (x2 x3:Int):Option Int:=L9 ⟨[(0,.int .u32 x0),(1,.str x1),(5,.int .i64 x2),(6,.int .i64 x3)],[]⟩
def Bw (x0:Int) (x1:ByteArray) (x2:Int):Option Int:=Hk ⟨[(0,.int .u32 x0),(1,.str x1),(5,.int .i64 x2)],[]⟩
def E8 (x0:Int) (x1:ByteArray) (x2 x3:Int):Option Int:=(if (decide (x3<8))=true then (if 2=0 then none else (if 2=0 then none else (if ((Int.tmod x0 2)==1)=true then (Bv (EP .u32 (IntKind.u32.wrap (Int.tdiv x0 2)) 3558460437) x1 x2 (i64.wrap (x3+1))) else (Bv (IntKind.u32.wrap (Int.tdiv x0 2)) x1 x2 (i64.wrap (x3+1)))))) else (Bw x0 x1 (i64.wrap (x2+1))))
def E9 (x0:Int) (x1:ByteArray) (x2:Int):Option Int:=(if (decide (x2<(x1.size:Int)))=true then (if 0<=x2 then (if x2<(x1.size:Int) then (Bv (EP .u32 x0 (IntKind.u32.wrap ((x1.data.toList.getD x2.toNat 0).toNat:Int))) x1 x2 0) else none) else none) else (some x0))
def J9 (x0:Int) (x1:ByteArray):Option Int:=(Bw x0 x1 0)
theorem Hl:Wj E8 Bv:=lS (by kernel_rfl)
theorem Hm:UC E9 Bw:=lS (by kernel_rfl)
theorem Pc:Pq J9 GZ:=cT BA rfl ⟨rfl,rfl⟩ (by kernel_rfl)
def L_ (x0:ByteArray):Option Int:=((Ga 4294967295 x0).bind fun y1=>(some y1))
theorem RA:Lg L_ I6:=cT GC rfl ⟨rfl,rfl⟩ (by kernel_rfl)
def NI:=cG HI (Ab BB) (Ab BB) kx
def FQ:=kE 0 [] [0] 0 NI kx
def Hn:St->Option (RT (CS.outs BB)):=lG HH [] [0,1,5] 0 (Ab BB) FQ
def NJ:=kB [] [0,1,5] 0 Hn
def Ij:=cG HG NJ (Ab BB) FQ
def NK:=kB [] [0,1,5] 0 Ij
def NL:=kE 1 [] [0,1,5] 0 Ij FQ
def NM:=kE 2 [] [0,1,5] 0 NK NL
def MA:St->Option (RT (CS.outs BB)):=lG Ia [] [0,1,5,19] 0 (Ab BB) NM
def Bx (x0:Int) (x1:ByteArray) (x2 x3:Int):Option Int:=MA ⟨[(0,.int .u32 x0),(1,.str x1),(5,.int .i64 x2),(19,.int .i64 x3)],[]⟩
def By (x0:Int) (x1:ByteArray) (x2:Int):Option Int:=Hn ⟨[(0,.int .u32 x0),(1,.str x1),(5,.int .i64 x2)],[]⟩
def E_ (x0:Int) (x1:ByteArray) (x2 x3:Int):Option Int:=(if (decide (x3<8))=true then (if 1<0 then none else (if ((KC .u32 x0 1)==1)=true then (Bx (EP .u32 (Int.fdiv x0 (2^(min (1:Int).toNat (IntKind.bits .u32)))) 3558460437) x1 x2 (i64.wrap (x3+1))) else (Bx (Int.fdiv x0 (2^(min (1:Int).toNat (IntKind.bits .u32)))) x1 x2 (i64.wrap (x3+1))))) else (By x0 x1 (i64.wrap (x2+1))))
def FA (x0:Int) (x1:ByteArray) (x2:Int):Option Int:=(if (decide (x2<(x1.size:Int)))=true then (if 0<=x2 then (if x2<(x1.size:Int) then (Bx (EP .u32 x0 (IntKind.u32.wrap ((x1.data.toList.getD x2.toNat 0).toNat:Int))) x1 x2 0) else none) else none) else (some x0))
def J_ (x0:Int) (x1:ByteArray):Option Int:=(By x0 x1 0)
theorem Ho:Wj E_ Bx:=lS (by kernel_rfl)
theorem Hp:UC FA By:=lS (by kernel_rfl)
theorem Pd:Pq J_ Ga:=cT BB rfl ⟨rfl,rfl⟩ (by kernel_rfl)
end
end Go.Proofs.Ytffahmnodgnohaa.Core


namespace Go.Proofs.Ytffahmnodgnohaa.Core
open Go
theorem AR {n:Int} (h:-9223372036854775808<=n/\n<=9223372036854775807):IntKind.i64.wrap n=n:=IntWalk.i64_in n h
theorem Ag {i:Nat} (h:i<9223372036854775807):IntKind.i64.wrap ((i:Int)+1)=((i+1:Nat):Int):=by
 rw [AR (by omega)]
 omega
theorem K7 {P:Nat->Prop} {n:Nat} (h0:P n) (h:∀ i,i<n->P (i+1)->P i):∀ i,i<=n->P i:=by
 intro i hi
 induction hk:n-i generalizing i with
 | zero =>
  have:i=n:=by omega
  subst this
  exact h0
 | succ k ih=>exact h i (by omega) (ih (i+1) (by omega) (by omega))
theorem OE {α:Type} {xs:List α} {i:Nat} {d:α} (h:i<xs.length):xs.getD i d=xs[i]:=by
 simp [List.getD,h]
theorem TK {α:Type} {x:List α} {d:α} {L:Int->Option Bool} {f:α->α->Option Bool} (hf:∀ a,f a a=some true) (hn:x.length<=68719476736)
  (h:∀ i r,(if decide (i<(x.length:Int))=true then (if 0<=i then (if i<(x.length:Int) then (if 0<=i then (if i<(x.length:Int) then ((f (x.getD i.toNat d) (x.getD i.toNat d)).bind fun y=>(if (!y)=true then some false else L (IntKind.i64.wrap (i+(1:Int))))) else none) else none) else none) else none) else some true)=some r->L i=some r) :
  L 0=some true :=
 K7 (n:=x.length) (P:=fun i=>L (i:Int)=some true) (by
  refine h _ _ ?_
  simp) (fun i hi ih=>by
  refine h _ _ ?_
  simp only [show ((i:Int)<(x.length:Int)) from by omega,decide_true,if_true,show (0:Int)<=(i:Int) from by omega,BM,hf,J,Ag (show i<9223372036854775807 by omega)]
  simpa using ih) 0 (by omega)

theorem EB (a b c:Int):Bf a b c=some (decide (b<=a)&&decide (a<=c)):=Q8 (by
 unfold L2
 by_cases h:b<=a<;>simp [h])
theorem DX (a b c:Int):Bn a b c=some (decide (b<=a)&&decide (a<=c)):=PY (by
 unfold J3
 by_cases h:b<=a<;>simp [h])

theorem K8 x:Hy x x=some true:=P_ (by unfold Kj; simp)
theorem KS (x) (h:x.length<=68719476736):GW x x=some true:=PW (by
 unfold Jz
 rw [if_neg (by simp)]
 exact TK (L:=fun i=>DU x x i) K8 h (fun i r h=>L1 h))
def Wz (x:List (ByteArray×ByteArray×Int)) (k:ByteArray):ByteArray×ByteArray×Int :=
 (x.find? fun a=>a.1.toList==k.toList).getD (AA,AA,0)

theorem N5 k:I5 k=some (decide (1<=(k.size:Int))&&decide ((k.size:Int)<=12)):=Q_ (by simp [L8,DX])
theorem NN n:Fc n=some (decide (1<=n)&&decide (n<=6)):=P9 (by simp [Ki,DX])

def OF (a:ByteArray×ByteArray×Int):Bool:=(decide (1<=(a.1.size:Int))&&decide ((a.1.size:Int)<=12))&&decide ((a.2.1.size:Int)<=20)&&(decide (1<=a.2.2)&&decide (a.2.2<=1000000000))
def CH (x:List (ByteArray×ByteArray×Int)) (i:Nat):Nat->Bool
 | 0=>decide ((x.length:Int)<=12)
 | k+1=>OF (x.getD i (AA,AA,0))&&(decide (i=0)||Op.bytesLess (x.getD (i-1) (AA,AA,0)).1.toList (x.getD i (AA,AA,0)).1.toList)&&CH x (i+1) k
theorem Wa (n:Int):decide (n>20)=!decide (n<=20):=by
 by_cases h:n<=20<;>simp [h]
 omega
theorem QT {i:Nat} (h:i<9223372036854775807) (h0:0<i):IntKind.i64.wrap ((i:Int)-1)=((i-1:Nat):Int):=by
 rw [AR (by omega)]
 omega
theorem MB (x) (h:x.length<=maxLen):GX x=some (CH x 0 x.length):=PX (by
 have hm:x.length<=9223372036854775807:=h
 unfold J2
 have:=K7 (n:=x.length) (P:=fun i=>Cg x (i:Int)=some (CH x i (x.length-i))) (Hc (by
  unfold E4
  rw [if_neg (by simp),Nat.sub_self]
  rfl)) (fun i hi ih=>Hc (by
  unfold E4
  have e:x.length-i=(x.length-(i+1))+1:=by omega
  simp only [show ((i:Int)<(x.length:Int)) from by omega,decide_true,if_true,show (0:Int)<=(i:Int) from by omega,BM,Ag (show i<9223372036854775807 by omega),ih,EB,J,Wa]
  rw [e,CH,OF]
  generalize (decide (1<=((x.getD i (AA,AA,0)).1.size:Int))&&decide (((x.getD i (AA,AA,0)).1.size:Int)<=12))=a
  generalize decide (((x.getD i (AA,AA,0)).2.1.size:Int)<=20)=b
  generalize (decide (1<=(x.getD i (AA,AA,0)).2.2)&&decide ((x.getD i (AA,AA,0)).2.2<=1000000000))=c
  cases a
  ·simp
  cases b
  ·simp
  cases c
  ·simp
  by_cases h0:0<i
  ·rw [QT (by omega) h0]
   simp only [BM,show ((0:Int)<=((i-1:Nat):Int)) from by omega,show (((i-1:Nat):Int)<(x.length:Int)) from by omega,if_true]
   rcases Bool.eq_false_or_eq_true (Op.bytesLess (x.getD (i-1) (AA,AA,0)).1.toList (x.getD i (AA,AA,0)).1.toList) with hb | hb<;>simp only [hb]<;>simp [h0,show i≠0 by omega]
  ·have:i=0:=by omega
   subst this
   simp)) 0 (by omega)
 simpa using this)
theorem MC (x) (h:x.length<=maxLen) (hl:∀ a b:List UInt8,(Op.bytesLess a b||a==b)=!Op.bytesLess b a):GY x=some (CH x 0 x.length):=PZ (by
 have hm:x.length<=9223372036854775807:=h
 unfold J4
 have:=K7 (n:=x.length) (P:=fun i=>Ch x x (x.length:Int) (i:Int)=some (CH x i (x.length-i))) (Hd (by
  unfold E5
  rw [if_neg (by simp),Nat.sub_self]
  rfl)) (fun i hi ih=>Hd (by
  unfold E5
  have e:x.length-i=(x.length-(i+1))+1:=by omega
  simp only [show ((i:Int)<(x.length:Int)) from by omega,decide_true,if_true,show (0:Int)<=(i:Int) from by omega,BM,Ag (show i<9223372036854775807 by omega),ih,DX,N5,J,Wa,hl]
  rw [e,CH,OF]
  generalize (decide (1<=((x.getD i (AA,AA,0)).1.size:Int))&&decide (((x.getD i (AA,AA,0)).1.size:Int)<=12))=a
  generalize decide (((x.getD i (AA,AA,0)).2.1.size:Int)<=20)=b
  generalize (decide (1<=(x.getD i (AA,AA,0)).2.2)&&decide ((x.getD i (AA,AA,0)).2.2<=1000000000))=c
  cases a
  ·simp
  cases b
  ·simp
  cases c
  ·simp
  by_cases h0:0<i
  ·rw [QT (by omega) h0]
   simp only [BM,show ((0:Int)<=((i-1:Nat):Int)) from by omega,show (((i-1:Nat):Int)<(x.length:Int)) from by omega,if_true]
   rcases Bool.eq_false_or_eq_true (Op.bytesLess (x.getD (i-1) (AA,AA,0)).1.toList (x.getD i (AA,AA,0)).1.toList) with hb | hb<;>simp only [hb]<;>simp [h0,show i≠0 by omega]
  ·have:i=0:=by omega
   subst this
   simp)) 0 (by omega)
 simpa using this)
theorem Nm:∀ a b:List UInt8,(Op.bytesLess a b||a==b)=!Op.bytesLess b a
 | [],[]=>rfl
 | [],_::_=>rfl
 | _::_,[]=>rfl
 | a::l,b::m=>by
  have ih:=Nm l m
  simp only [Op.bytesLess]
  by_cases h1:a<b
  ·have h2:¬ b<a:=by exact UInt8.not_lt.2 (UInt8.le_of_lt h1)
   have h3:¬ b=a:=fun h=>by subst h; exact absurd h1 (UInt8.lt_irrefl _)
   simp [h1,h2,h3]
  ·by_cases h2:b<a
   ·have h3:¬ a=b:=fun h=>by subst h; exact absurd h2 (UInt8.lt_irrefl _)
    simp [h1,h2,h3]
   ·have h3:a=b:=UInt8.le_antisymm (UInt8.not_lt.1 h2) (UInt8.not_lt.1 h1)
    subst h3
    simpa [h1] using ih

abbrev FR:Type:=Int×Int×Int×Int×Int×List (ByteArray×ByteArray×Int)
theorem Hq (x:FR) (h:x.2.2.2.2.2.length<=68719476736):GF x x=some true:=Q5 (by
 unfold Lr
 simp [KS _ h])
def MD (x:FR):Bool :=
 (decide (1<=x.1)&&decide (x.1<=8))&&(decide (1<=x.2.1)&&decide (x.2.1<=6))&&(decide (1<=x.2.2.1)&&decide (x.2.2.1<=6))&&(decide (1<=x.2.2.2.1)&&decide (x.2.2.2.1<=9))&&(decide (0<=x.2.2.2.2.1)&&decide (x.2.2.2.2.1<=1000000000))&&CH x.2.2.2.2.2 0 x.2.2.2.2.2.length &&
  (if x.1=2\/x.1=3 then true else if x.1=5 then ((x.2.2.2.2.2.length:Int)==1) else ((x.2.2.2.2.2.length:Int)==0))
theorem N6 (x:FR) (h:x.2.2.2.2.2.length<=maxLen):I3 x=some (MD x):=Q6 (by
 have w1:∀ a b,D8 a b x=some (if b=true then true else if a=5 then ((x.2.2.2.2.2.length:Int)==1) else ((x.2.2.2.2.2.length:Int)==0)):=fun a b=>Ny (by
  unfold JC
  by_cases h1:b=true<;>by_cases h2:a=5<;>simp [h1,h2])
 have w0:∀ b,Fs b x=some (if x.1=2\/x.1=3 then true else if x.1=5 then ((x.2.2.2.2.2.length:Int)==1) else ((x.2.2.2.2.2.length:Int)==0)):=fun b=>Nz (by
  unfold JD
  by_cases h1:x.1=2<;>by_cases h2:x.1=3<;>simp [h1,h2,w1])
 unfold Lv MD
 simp only [EB,MB _ h,J,w0]
 generalize (decide (1<=x.1)&&decide (x.1<=8))=a
 generalize (decide (1<=x.2.1)&&decide (x.2.1<=6))=b
 generalize (decide (1<=x.2.2.1)&&decide (x.2.2.1<=6))=c
 generalize (decide (1<=x.2.2.2.1)&&decide (x.2.2.2.1<=9))=d
 generalize (decide (0<=x.2.2.2.2.1)&&decide (x.2.2.2.2.1<=1000000000))=e
 generalize CH x.2.2.2.2.2 0 x.2.2.2.2.2.length=f
 cases a<;>cases b<;>cases c<;>cases d<;>cases e<;>cases f<;>simp)
theorem N7 (x:FR) (h:x.2.2.2.2.2.length<=maxLen):I4 x=some (MD x):=Q7 (by
 have w1:∀ a b,D9 a b x=some (if b=true then true else if a=5 then ((x.2.2.2.2.2.length:Int)==1) else ((x.2.2.2.2.2.length:Int)==0)):=fun a b=>N0 (by
  unfold JE
  by_cases h1:b=true<;>by_cases h2:a=5<;>simp [h1,h2])
 have w0:∀ b,Ft b x=some (if x.1=2\/x.1=3 then true else if x.1=5 then ((x.2.2.2.2.2.length:Int)==1) else ((x.2.2.2.2.2.length:Int)==0)):=fun b=>N1 (by
  unfold JF
  by_cases h1:x.1=2<;>by_cases h2:x.1=3<;>simp [h1,h2,w1])
 unfold Lw MD
 simp only [DX,NN,MC _ h Nm,J,w0]
 generalize (decide (1<=x.1)&&decide (x.1<=8))=a
 generalize (decide (1<=x.2.1)&&decide (x.2.1<=6))=b
 generalize (decide (1<=x.2.2.1)&&decide (x.2.2.1<=6))=c
 generalize (decide (1<=x.2.2.2.1)&&decide (x.2.2.2.1<=9))=d
 generalize (decide (0<=x.2.2.2.2.1)&&decide (x.2.2.2.2.1<=1000000000))=e
 generalize CH x.2.2.2.2.2 0 x.2.2.2.2.2.length=f
 cases a<;>cases b<;>cases c<;>cases d<;>cases e<;>cases f<;>simp)

theorem QU {n:Int} (h:0<=n/\n<256):IntKind.u8.wrap n=n:=by
 have e:IntKind.u8.wrap n=n % 256:=rfl
 rw [e]; omega
theorem RB {n:Int} (h:0<=n/\n<4294967296):IntKind.u32.wrap n=n:=by
 have e:IntKind.u32.wrap n=n % 4294967296:=rfl
 rw [e]; omega
theorem V7 (n:Int):0<=IntKind.u32.wrap n/\IntKind.u32.wrap n<4294967296:=by
 have e:IntKind.u32.wrap n=n % 4294967296:=rfl
 rw [e]; omega
theorem Gd (a b:List Int):AC (a++b)=AC a++AC b:=by
 apply ByteArray.ext
 simp [AC,ByteArray.data_append]
theorem AS (a:List Int):(AC a).size=a.length:=by simp [AC,ByteArray.size]
theorem AQ (b:ByteArray):(AK b).length=b.size:=by simp [AK]
theorem Ge (b:ByteArray):AC (AK b)=b:=by
 apply ByteArray.ext
 apply Array.ext'
 simp only [AC,AK,List.map_map]
 have:((fun n:Int=>UInt8.ofNat n.toNat) ∘ fun u:UInt8=>(u.toNat:Int))=id:=by funext u; simp
 rw [this,List.map_id]
theorem GG (a b:List Int):C8 (a++b)=(C8 a&&C8 b):=by simp [C8]
theorem RC (b:ByteArray):C8 (AK b)=true:=by
 simp only [C8,AK,List.all_map,Ae,Function.comp,O,decide_eq_true_eq]
 intro u _
 have:u.toNat<256:=u.toNat_lt
 omega
theorem C7:∀ {a:List Int},C8 a=true->AK (AC a)=a
 | [],_=>rfl
 | x::a,h=>by
  simp only [C8,List.all_cons,O,decide_eq_true_eq] at h
  have ih:=C7 (a:=a) (by simpa [C8] using h.2)
  have e:((UInt8.ofNat x.toNat).toNat:Int)=x:=by
   have:x.toNat<256:=by omega
   simp [UInt8.toNat_ofNat',Nat.mod_eq_of_lt this]
   omega
  simp only [AC,AK,List.map_cons,e,List.cons.injEq,true_and] at ih ⊢
  exact ih
theorem DN (a b:ByteArray):AK (a++b)=AK a++AK b:=by
 simp [AK,ByteArray.data_append]
def DP (n:Nat):List Int:=if n>127 then ((128+n % 128:Nat):Int)::DP (n / 128) else [(n:Int)]
termination_by n
decreasing_by omega
theorem Cw (n:Nat):(DP n).length<=n / 127+1:=by
 induction n using Nat.strongRecOn with
 | _ n ih =>
  rw [DP]
  split
  ·rename_i h
   have:=ih (n / 128) (by omega)
   simp only [List.length_cons]
   omega
  ·simp
theorem KA (n:Nat):C8 (DP n)=true:=by
 induction n using Nat.strongRecOn with
 | _ n ih =>
  rw [DP]
  split
  ·rename_i h
   have:=ih (n / 128) (by omega)
   simp only [C8,List.all_cons,O,decide_eq_true_eq] at this ⊢
   exact ⟨by omega,this⟩
  ·simp only [C8,List.all_cons,List.all_nil,O,decide_eq_true_eq,and_true]
   omega
theorem TL (n:Nat):∀ xs:List Int,xs.length+n+1<=68719476736->DS (n:Int) xs=some (AC (xs++DP n)):=by
 induction n using Nat.strongRecOn with
 | _ n ih =>
  intro xs hl
  refine Ly ?_
  unfold HY
  rw [DP]
  by_cases h:n>127
  ·have e1:Int.tmod (n:Int) 128=((n % 128:Nat):Int):=by rw [Int.tmod_eq_emod_of_nonneg (by omega)]; omega
   have e2:Int.tdiv (n:Int) 128=((n / 128:Nat):Int):=by rw [Int.tdiv_eq_ediv_of_nonneg (by omega)]; omega
   rw [if_pos (by simpa using (by omega:(n:Int)>127)),if_neg (by omega),if_pos (by simp only [List.length_cons,List.length_nil]; omega),if_neg (by omega),e1,e2,AR (n:=128+_) (by omega),QU (by omega),AR (by omega)]
   rw [ih (n / 128) (by omega) _ (by simp only [List.length_append,List.length_cons,List.length_nil]; omega),if_pos h]
   simp
  ·rw [if_neg (by simp; omega),if_pos (by simp only [List.length_cons,List.length_nil]; omega),QU (by omega),if_neg h]
theorem TM (n:Nat):∀ xs:List Int,xs.length+n+1<=68719476736->Dk (n:Int) xs=some (AC (xs++DP n)):=by
 induction n using Nat.strongRecOn with
 | _ n ih =>
  intro xs hl
  refine Mz ?_
  unfold Ic
  rw [DP]
  by_cases h:n>127
  ·have e1:Int.tmod (n:Int) 128=((n % 128:Nat):Int):=by rw [Int.tmod_eq_emod_of_nonneg (by omega)]; omega
   have e2:Int.tdiv (n:Int) 128=((n / 128:Nat):Int):=by rw [Int.tdiv_eq_ediv_of_nonneg (by omega)]; omega
   rw [if_pos (by simpa using (by omega:(n:Int)>127)),if_neg (by omega),if_pos (by simp only [List.length_cons,List.length_nil]; omega),if_neg (by omega),e1,e2,AR (n:=_+128) (by omega),QU (by omega),AR (by omega)]
   rw [ih (n / 128) (by omega) _ (by simp only [List.length_append,List.length_cons,List.length_nil]; omega),if_pos h]
   simp [Nat.add_comm,Int.add_comm]
  ·rw [if_neg (by simp; omega),if_pos (by simp only [List.length_cons,List.length_nil]; omega),QU (by omega),if_neg h]
theorem Ck {n:Nat} (h:n<=1000000000):CP (n:Int)=some (AC (DP n)):=PV (by
 unfold Jy
 simpa using TL n [] (by simp; omega))
theorem CI {n:Nat} (h:n<=1000000000):Cr (n:Int)=some (AC (DP n)):=P6 (by
 unfold Kc
 simpa using TM n [] (by simp; omega))
def NO (x:Int):Int:=if x % 2=1 then EP .u32 (x / 2) 3558460437 else x / 2
def Ff:Nat->Int->Int
 | 0,x=>x
 | n+1,x=>Ff n (NO x)
def RD (x:Int) (b:UInt8):Int:=Ff 8 (EP .u32 x (b.toNat:Int))
def Pe (x:Int) (l:List UInt8):Int:=l.foldl RD x
theorem NP (a b:Int):0<=EP .u32 a b/\EP .u32 a b<4294967296:=V7 _
theorem TN {x:Int} (h:0<=x/\x<4294967296):0<=NO x/\NO x<4294967296:=by
 unfold NO
 split
 ·exact NP _ _
 ·omega
theorem Pf:∀ (n:Nat) {x:Int},0<=x/\x<4294967296->0<=Ff n x/\Ff n x<4294967296
 | 0,_,h=>h
 | n+1,_,h=>Pf n (TN h)
theorem Pg (x:Int) (b:UInt8):0<=RD x b/\RD x b<4294967296:=Pf 8 (NP _ _)
theorem VP {x:Int} (h:0<=x/\x<4294967296):KC .u32 x 1=x % 2:=by
 unfold KC
 have e:(BitVec.ofInt (IntKind.bits .u32) x &&& BitVec.ofInt (IntKind.bits .u32) 1).toNat=x.toNat % 2:=by
  rw [BitVec.toNat_and]
  have e1:(BitVec.ofInt (IntKind.bits .u32) 1).toNat=1:=by decide
  have e2:(BitVec.ofInt (IntKind.bits .u32) x).toNat=x.toNat:=by
   simp only [BitVec.toNat_ofInt,IntKind.bits]
   omega
  rw [e1,e2,Nat.and_one_is_mod]
 rw [e,RB (by omega)]
 omega
theorem RE {b:ByteArray} {i:Nat} (h:i<b.size):b.data.toList.getD i 0=b.data.toList[i]'(by simpa using h):=OE _
theorem SD {b:ByteArray} {i:Nat} (hi:i<4611686018427387904) {r:Int}:∀ (k:Nat),k<=8->∀ x:Int,0<=x/\x<4294967296->Bw (Ff (8-k) x) b ((i+1:Nat):Int)=some r->Bv x b (i:Int) (k:Int)=some r :=
 K7 (n:=8) (P:=fun k=>∀ x:Int,0<=x/\x<4294967296->Bw (Ff (8-k) x) b ((i+1:Nat):Int)=some r->Bv x b (i:Int) (k:Int)=some r)
  (fun x hx h=>Hl (by
   unfold E8
   rw [if_neg (by simp),Ag (by omega)]
   exact h))
  (fun k hk ih x hx h=>Hl (by
   unfold E8
   have e:8-k=(8-(k+1))+1:=by omega
   rw [e,Ff] at h
   rw [if_pos (by simp; omega),if_neg (by omega),if_neg (by omega),Int.tmod_eq_emod_of_nonneg hx.1,Int.tdiv_eq_ediv_of_nonneg hx.1,RB (n:=x / 2) (by omega),Ag (by omega)]
   unfold NO at h
   by_cases h2:x % 2=1
   ·rw [if_pos (by simpa using h2)]
    rw [if_pos h2] at h
    exact ih _ (NP _ _) h
   ·rw [if_neg (by simpa using h2)]
    rw [if_neg h2] at h
    exact ih _ (by omega) h))
theorem SE {b:ByteArray} {i:Nat} (hi:i<4611686018427387904) {r:Int}:∀ (k:Nat),k<=8->∀ x:Int,0<=x/\x<4294967296->By (Ff (8-k) x) b ((i+1:Nat):Int)=some r->Bx x b (i:Int) (k:Int)=some r :=
 K7 (n:=8) (P:=fun k=>∀ x:Int,0<=x/\x<4294967296->By (Ff (8-k) x) b ((i+1:Nat):Int)=some r->Bx x b (i:Int) (k:Int)=some r)
  (fun x hx h=>Ho (by
   unfold E_
   rw [if_neg (by simp),Ag (by omega)]
   exact h))
  (fun k hk ih x hx h=>Ho (by
   unfold E_
   have e:8-k=(8-(k+1))+1:=by omega
   have e2:Int.fdiv x (2^(min (1:Int).toNat (IntKind.bits .u32)))=x / 2:=by
    have:(2:Int)^(min (1:Int).toNat (IntKind.bits .u32))=2:=by decide
    rw [this,Int.fdiv_eq_ediv_of_nonneg _ (by omega)]
   rw [e,Ff] at h
   rw [if_pos (by simp; omega),if_neg (by omega),VP hx,e2,Ag (by omega)]
   unfold NO at h
   by_cases h2:x % 2=1
   ·rw [if_pos (by simpa using h2)]
    rw [if_pos h2] at h
    exact ih _ (NP _ _) h
   ·rw [if_neg (by simpa using h2)]
    rw [if_neg h2] at h
    exact ih _ (by omega) h))
theorem ME {x:Int} {b:ByteArray} (hx:0<=x/\x<4294967296) (hb:b.size<4611686018427387904):GZ x b=some (Pe x b.data.toList):=Pc (by
 have:=K7 (n:=b.size) (P:=fun i=>∀ x:Int,0<=x/\x<4294967296->Bw x b (i:Int)=some (Pe x (b.data.toList.drop i))) (fun x hx=>Hm (by
  unfold E9
  rw [if_neg (by simp),List.drop_eq_nil_of_le (by simp)]
  rfl)) (fun i hi ih x hx=>Hm (by
  unfold E9
  have hl:i<b.data.toList.length:=by simpa using hi
  rw [if_pos (by simpa using hi),if_pos (by omega),if_pos (by omega),BM,RE hi,RB (n:=((_:UInt8).toNat:Int)) (by have:=(b.data.toList[i]).toNat_lt; omega),List.drop_eq_getElem_cons hl]
  exact SD (by omega) 0 (by omega) _ (NP _ _) (ih _ (Pg _ _)))) 0 (by omega) x hx
 unfold J9
 simpa using this)
theorem MF {x:Int} {b:ByteArray} (hx:0<=x/\x<4294967296) (hb:b.size<4611686018427387904):Ga x b=some (Pe x b.data.toList):=Pd (by
 have:=K7 (n:=b.size) (P:=fun i=>∀ x:Int,0<=x/\x<4294967296->By x b (i:Int)=some (Pe x (b.data.toList.drop i))) (fun x hx=>Hp (by
  unfold FA
  rw [if_neg (by simp),List.drop_eq_nil_of_le (by simp)]
  rfl)) (fun i hi ih x hx=>Hp (by
  unfold FA
  have hl:i<b.data.toList.length:=by simpa using hi
  rw [if_pos (by simpa using hi),if_pos (by omega),if_pos (by omega),BM,RE hi,RB (n:=((_:UInt8).toNat:Int)) (by have:=(b.data.toList[i]).toNat_lt; omega),List.drop_eq_getElem_cons hl]
  exact SE (by omega) 0 (by omega) _ (NP _ _) (ih _ (Pg _ _)))) 0 (by omega) x hx
 unfold J_
 simpa using this)
def H6 (l:List UInt8):List Int :=
 let y:=Pe 4294967295 l
 [IntKind.u8.wrap (Int.fdiv y (2^(min (24:Int).toNat (IntKind.bits .u32)))),IntKind.u8.wrap (Int.fdiv y (2^(min (16:Int).toNat (IntKind.bits .u32)))),IntKind.u8.wrap (Int.fdiv y (2^(min (8:Int).toNat (IntKind.bits .u32)))),IntKind.u8.wrap y]
theorem FB {b:ByteArray} (hb:b.size<4611686018427387904):Eo b=some (AC (H6 b.data.toList)):=Pb (by
 unfold J6
 rw [show I6 b=some (Pe 4294967295 b.data.toList) from RA (by unfold L_; rw [MF (by omega) hb]; rfl),J,if_neg (by omega),if_neg (by omega),if_neg (by omega)]
 rfl)
theorem Gf {b:ByteArray} (hb:b.size<4611686018427387904):(Cb b).bind En=some (AC (H6 b.data.toList)):=by
 rw [show Cb b=some (Pe 4294967295 b.data.toList) from Q9 (by unfold L5; rw [ME (by omega) hb]; rfl),J]
 exact Pa (by
  unfold J5
  rw [if_neg (by omega),if_neg (by omega),if_neg (by omega)]
  rfl)
def Gg (b:ByteArray):ByteArray×Bool:=if b.size>20000 then (AA,false) else (b++AC (H6 b.data.toList),true)
theorem NQ {b:ByteArray} (hb:b.size<4611686018427387904):Hx b=some (Gg b):=P8 (by
 unfold Kf Gg
 by_cases h:b.size>20000
 ·rw [if_pos (by simpa using (by omega:(b.size:Int)>20000)),if_pos h]; rfl
 ·rw [if_neg (by simpa using (by omega:¬ (b.size:Int)>20000)),if_neg h,FB hb,J,if_pos (by rw [AS]; simp only [H6,List.length_cons,List.length_nil]; omega)])
theorem NR {b:ByteArray} (hb:b.size<4611686018427387904):Hw b=some (Gg b):=P7 (by
 unfold Ke Gg
 by_cases h:b.size>20000
 ·rw [if_pos (by simpa using (by omega:(b.size:Int)>20000)),if_pos h]; rfl
 ·have:=Gf hb
  cases h2:Cb b with
  | none=>rw [h2] at this; cases this
  | some y =>
   rw [h2,J] at this
   rw [if_neg (by simpa using (by omega:¬ (b.size:Int)>20000)),if_neg h,J,this,J,if_pos (by rw [AS]; simp only [H6,List.length_cons,List.length_nil]; omega)])

abbrev Rq:Type:=ByteArray×ByteArray×Int
def Dm (x:Rq):List Int:=DP x.1.size++AK x.1++DP x.2.1.size++AK x.2.1++DP x.2.2.toNat
def Kk (x:FR):List Int:=[x.1,x.2.1,x.2.2.1,x.2.2.2.1]++(DP x.2.2.2.2.1.toNat++DP x.2.2.2.2.2.length)
def FC (x:FR):List Int:=Kk x++x.2.2.2.2.2.flatMap Dm
def UK (x:Rq):Prop:=x.1.size<=12/\x.2.1.size<=20/\1<=x.2.2/\x.2.2<=1000000000
theorem TO {x:Rq} (h:UK x):(Dm x).length<=8000000:=by
 obtain ⟨h1,h2,h3,h4⟩:=h
 have a1:=Cw x.1.size
 have a2:=Cw x.2.1.size
 have a3:=Cw x.2.2.toNat
 simp only [Dm,List.length_append,AQ]
 omega
theorem SF (x:Rq):C8 (Dm x)=true:=by simp [Dm,GG,KA,RC]
theorem Ph:∀ (l:List Rq),C8 (l.flatMap Dm)=true
 | []=>rfl
 | x::l=>by rw [List.flatMap_cons,GG,SF,Ph l]; rfl
theorem NS:∀ (l:List Rq),(∀ x∈l,UK x)->(l.flatMap Dm).length<=l.length*8000000
 | [],_=>by simp
 | x::l,h=>by
  have:=NS l fun y hy=>h y (List.mem_cons_of_mem _ hy)
  have:=TO (h x (List.mem_cons_self ..))
  simp only [List.flatMap_cons,List.length_append,List.length_cons]
  omega
structure Ik (x:FR):Prop where
 k:1<=x.1/\x.1<=8
 f:1<=x.2.1/\x.2.1<=6
 t:1<=x.2.2.1/\x.2.2.1<=6
 e:1<=x.2.2.2.1/\x.2.2.2.1<=9
 n:0<=x.2.2.2.2.1/\x.2.2.2.2.1<=1000000000
 l:x.2.2.2.2.2.length<=12
 i:∀ y∈x.2.2.2.2.2,UK y
theorem Rr {x:List Rq}:∀ (k i:Nat),i+k=x.length->CH x i k=true->x.length<=12/\∀ j,i<=j->∀ h:j<x.length,UK x[j]
 | 0,i,e,h=>by
  simp only [CH,decide_eq_true_eq] at h
  exact ⟨by omega,fun j hj hl=>by omega⟩
 | k+1,i,e,h=>by
  simp only [CH,O] at h
  obtain ⟨⟨h1,_⟩,h2⟩:=h
  obtain ⟨g1,g2⟩:=Rr k (i+1) (by omega) h2
  refine ⟨g1,fun j hj hl=>?_⟩
  by_cases e2:j=i
  ·subst e2
   rw [OE hl] at h1
   simp only [OF,O,decide_eq_true_eq] at h1
   exact ⟨by omega,by omega,by omega,by omega⟩
  ·exact g2 j (by omega) hl
theorem Ik.of {x:FR} (h:MD x=true):Ik x:=by
 simp only [MD,O,decide_eq_true_eq] at h
 obtain ⟨⟨⟨⟨⟨⟨h1,h2⟩,h3⟩,h4⟩,h5⟩,h6⟩,_⟩:=h
 obtain ⟨g1,g2⟩:=Rr _ 0 (by omega) h6
 exact ⟨h1,h2,h3,h4,h5,g1,fun y hy=>by
  obtain ⟨j,hj,rfl⟩:=List.mem_iff_getElem.1 hy
  exact g2 j (by omega) hj⟩
theorem SG {x:FR} (h:Ik x):C8 (Kk x)=true:=by
 have:=h.k; have:=h.f; have:=h.t; have:=h.e
 simp only [Kk,GG,KA,Bool.and_true]
 simp only [C8,List.all_cons,List.all_nil,Bool.and_true,O,decide_eq_true_eq]
 omega
theorem NT {x:FR} (h:Ik x):(Kk x).length<=9000000:=by
 have:=h.n; have:=h.l
 have a1:=Cw x.2.2.2.2.1.toNat
 have a2:=Cw x.2.2.2.2.2.length
 simp only [Kk,List.length_append,List.length_cons,List.length_nil]
 omega
theorem Pi {x:FR} (h:Ik x):C8 (FC x)=true:=by
 rw [FC,GG,SG h,Ph]; rfl
theorem QV {x:FR} (h:Ik x):(FC x).length<=200000000:=by
 have:=NT h
 have:=NS _ h.i
 have:=h.l
 rw [FC,List.length_append]
 omega
def B_ (x:FR):ByteArray×Bool:=if MD x=true then Gg (AC (FC x)) else (AA,false)
theorem Pj {x:List Rq} {i:Nat} (hi:i<x.length):(x.take (i+1)).flatMap Dm=(x.take i).flatMap Dm++Dm x[i]:=by
 rw [List.take_succ_eq_append_getElem hi,List.flatMap_append]
 simp
theorem Sg {x:List Rq} (h:∀ y∈x,UK y) (hl:x.length<=12) (i:Nat):((x.take i).flatMap Dm).length<=96000000:=by
 have:=NS (x.take i) fun y hy=>h y (List.mem_of_mem_take hy)
 have:(x.take i).length<=x.length:=by simp; omega
 omega
theorem MG (x:FR) (hx:x.2.2.2.2.2.length<=maxLen):GU x=some (B_ x):=PN (by
 unfold Jq B_
 rw [N7 x hx,J]
 cases hm:MD x with
 | false=>rfl
 | true =>
 rw [if_neg (by simp),if_pos rfl]
 have M:=Ik.of hm
 have hn:=M.n
 have hl:=M.l
 have loop:=K7 (n:=x.2.2.2.2.2.length) (P:=fun i=>DR x.2.2.2.2.2 (x.2.2.2.2.2.length:Int) (i:Int) x (Kk x++(x.2.2.2.2.2.take i).flatMap Dm)=some (Gg (AC (FC x))))
  (HT (by
   unfold Es
   rw [if_neg (by simp),List.take_length]
   have hb:=Pi M
   have hs:=QV M
   rw [FC] at hb hs ⊢
   rw [GE,J,if_pos hb,NQ (by rw [AS]; omega)]
   rfl))
  (fun i hi ih=>HT (by
   unfold Es
   obtain ⟨q1,q2,q3,q4⟩:=M.i _ (Il hi)
   have e3:(x.2.2.2.2.2[i]).2.2=(((x.2.2.2.2.2[i]).2.2.toNat:Nat):Int):=by omega
   have l1:=Cw (x.2.2.2.2.2[i]).1.size
   have l2:=Cw (x.2.2.2.2.2[i]).2.1.size
   have l3:=Cw (x.2.2.2.2.2[i]).2.2.toNat
   have l4:=NT M
   have l5:=Sg M.i M.l i
   rw [if_pos (by simpa using hi),if_pos (by omega),if_pos (by omega)]
   simp only [BM,OE hi]
   rw [Ck (by omega),J,if_pos (by rw [AS]; omega),Ck (by omega),J,
    if_pos (by simp only [ByteArray.size_append,AS]; omega),if_pos (by simp only [ByteArray.size_append,AS]; omega),e3,Ck (by omega),J,
    if_pos (by simp only [ByteArray.size_append,AS]; omega),Ca,J,
    if_pos (by simp only [DN,List.length_append,AQ,AS]; omega),Ag (by omega)]
   rw [Pj hi] at ih
   simp only [DN,C7 (KA _)]
   rw [Dm] at ih
   rw [Av]
   exact ih)) 0 (by omega)
 have J1:Er x [x.1,x.2.1,x.2.2.1,x.2.2.2.1]=some (Gg (AC (FC x))):=Lq (by
  unfold HS
  have e:x.2.2.2.2.1=((x.2.2.2.2.1.toNat:Nat):Int):=by omega
  have l1:=Cw x.2.2.2.2.1.toNat
  have l2:=Cw x.2.2.2.2.2.length
  rw [e,Ck (by omega),J,Ck (by omega),J,if_pos (by simp only [AS]; omega),Ca,J,
   if_pos (by simp only [DN,List.length_append,AQ,AS,List.length_cons,List.length_nil]; omega)]
  refine Lo ?_
  unfold HR
  simp only [DN,C7 (KA _)]
  simpa [Kk] using loop)
 have k:=M.k; have f:=M.f; have t:=M.t; have e:=M.e
 have step:∀ (i:Nat) (c:Int) (xs:List Int),i<4->([x.1,x.2.1,x.2.2.1,x.2.2.2.1]:List Int).getD i 0=c->0<=c/\c<256->xs.length<=10 ->
   Cc x.1 x.2.1 x.2.2.1 x.2.2.2.1 ((i+1:Nat):Int) x (xs++[c])=some (Gg (AC (FC x)))->Cc x.1 x.2.1 x.2.2.1 x.2.2.2.1 (i:Int) x xs=some (Gg (AC (FC x))):=fun i c xs hi hc hr hs h=>HU (by
  unfold Et
  rw [if_pos (by simp; omega),if_pos (by omega),if_pos (by omega),BM,hc,QU hr,FK,J,if_pos (by simp only [List.length_cons,List.length_nil]; omega),Ag (by omega)]
  exact h)
 refine step 0 x.1 [] (by omega) rfl (by omega) (by simp) ?_
 refine step 1 x.2.1 _ (by omega) rfl (by omega) (by simp) ?_
 refine step 2 x.2.2.1 _ (by omega) rfl (by omega) (by simp) ?_
 refine step 3 x.2.2.2.1 _ (by omega) rfl (by omega) (by simp) ?_
 exact HU (by
  unfold Et
  rw [if_neg (by simp)]
  exact J1))
theorem DY {n:Int} (h:0<=n/\n<256):C3 n=some (AC [n]):=PU (by unfold Jx; rw [QU h])
theorem Gh {s:ByteArray} (h:s.size<=1000):D5 s=some (AC (DP s.size++AK s)):=N4 (by
 unfold JG
 have:=Cw s.size
 rw [CI (by omega),J,if_pos (by rw [AS]; omega),Gd,Ge])
theorem MH (x:FR) (hx:x.2.2.2.2.2.length<=maxLen):GT x=some (B_ x):=PM (by
 unfold Jp B_
 rw [N6 x hx,J]
 cases hm:MD x with
 | false=>rfl
 | true =>
 rw [if_neg (by simp),if_pos rfl]
 have M:=Ik.of hm
 have hn:=M.n
 have hl:=M.l
 have loop:=K7 (n:=x.2.2.2.2.2.length) (P:=fun i=>DQ (AC (Kk x++(x.2.2.2.2.2.take i).flatMap Dm)) (i:Int) x=some (Gg (AC (FC x))))
  (HO (by
   unfold Eq
   have hs:=QV M
   rw [if_neg (by simp),List.take_length]
   rw [FC] at hs ⊢
   rw [NR (by rw [AS]; omega)]
   rfl))
  (fun i hi ih=>HO (by
   unfold Eq
   obtain ⟨q1,q2,q3,q4⟩:=M.i _ (Il hi)
   have e3:(x.2.2.2.2.2[i]).2.2=(((x.2.2.2.2.2[i]).2.2.toNat:Nat):Int):=by omega
   have l1:=Cw (x.2.2.2.2.2[i]).1.size
   have l2:=Cw (x.2.2.2.2.2[i]).2.1.size
   have l3:=Cw (x.2.2.2.2.2[i]).2.2.toNat
   have l4:=NT M
   have l5:=Sg M.i M.l i
   rw [if_pos (by simpa using hi),if_pos (by omega),if_pos (by omega),if_pos (by omega),if_pos (by omega),if_pos (by omega),if_pos (by omega)]
   simp only [BM,OE hi]
   rw [Gh (by omega),J,if_pos (by simp only [AS,List.length_append,AQ]; omega),Gh (by omega),J,
    if_pos (by simp only [ByteArray.size_append,AS,List.length_append,AQ]; omega),e3,CI (by omega),J,
    if_pos (by simp only [ByteArray.size_append,AS,List.length_append,AQ]; omega),Ag (by omega)]
   rw [Pj hi,Dm] at ih
   simp only [<- Gd,Av] at ih ⊢
   exact ih)) 0 (by omega)
 have k:=M.k; have f:=M.f; have t:=M.t; have e:=M.e
 have en:x.2.2.2.2.1=((x.2.2.2.2.1.toNat:Nat):Int):=by omega
 have l1:=Cw x.2.2.2.2.1.toNat
 have l2:=Cw x.2.2.2.2.2.length
 rw [DY (by omega),J,DY (by omega),J,if_pos (by simp only [AS,List.length_cons,List.length_nil]; omega),DY (by omega),J,
  if_pos (by simp only [ByteArray.size_append,AS,List.length_cons,List.length_nil]; omega),DY (by omega),J,if_pos (by simp only [ByteArray.size_append,AS,List.length_cons,List.length_nil]; omega),
  en,CI (by omega),J,if_pos (by simp only [ByteArray.size_append,AS,List.length_cons,List.length_nil]; omega),CI (by omega),J,
  if_pos (by simp only [ByteArray.size_append,AS,List.length_cons,List.length_nil]; omega)]
 refine Lk ?_
 unfold HN
 simp only [<- Gd]
 simpa [Kk] using loop)

theorem UL {α:Type} {p r:List α} {v w:α} {i:Nat} (h:p.length=i):(p++v::r).set i w=p++w::r:=by
 subst h
 rw [List.set_append_right _ _ (Nat.le_refl _),Nat.sub_self,List.set_cons_zero]
theorem Rs {α:Type} {p r:List α} {v d:α} {i:Nat} (h:p.length=i):(p++v::r).getD i d=v:=by
 subst h
 simp [List.getD]
theorem Wb {k:Int} (h0:0<=k) (h1:k<=9223372036854775807):IntKind.i64.wrap (Int.tdiv k 10)=k / 10:=by
 rw [Int.tdiv_eq_ediv_of_nonneg h0,AR (by omega)]
theorem Pk:∀ (n:Nat) (k:Int) (s:ByteArray),0<=k->k<10^n->k<=9223372036854775807->s.size+n<=1000->∃ r,DG k s=some r
 | 0,k,s,h0,h1,h2,h3=>by
  have:k=0:=by simp at h1; omega
  subst this
  refine ⟨(⟨#[109]⟩:ByteArray)++s,EF ?_⟩
  unfold DH
  rw [if_neg (by decide),if_pos (by
   have:(⟨#[109]⟩:ByteArray).size=1:=rfl
   omega)]
 | n+1,k,s,h0,h1,h2,h3=>by
  by_cases hk:k>0
  ·have hs:∀ d:Int,(AC ([d]:List Int)).size=1:=fun d=>rfl
   obtain ⟨r,hr⟩:=Pk n (k / 10) (AC ([(IntKind.u8.wrap (IntKind.i64.wrap (48+(Int.tmod k 10))))]:List Int)++s) (by omega) (by rw [Int.pow_succ] at h1; omega) (by omega) (by rw [ByteArray.size_append,hs]; omega)
   refine ⟨r,EF ?_⟩
   unfold DH
   rw [if_pos (by simpa using hk),if_neg (by decide),if_pos (by rw [hs]; omega),if_neg (by decide),Wb h0 h2]
   exact hr
  ·have:k=0:=by omega
   subst this
   refine ⟨(⟨#[109]⟩:ByteArray)++s,EF ?_⟩
   unfold DH
   rw [if_neg (by decide),if_pos (by
    have:(⟨#[109]⟩:ByteArray).size=1:=rfl
    omega)]
noncomputable def Kl (k:Int):ByteArray:=(BX k).getD AA
theorem DI {k:Int} (h:k<=9223372036854775807):BX k=some (Kl k):=by
 have:∃ r,BX k=some r:=by
  by_cases h0:k<=0
  ·refine ⟨(⟨#[109,48]⟩:ByteArray),JJ ?_⟩
   unfold Fu
   rw [if_pos (by simpa using h0)]
  ·obtain ⟨r,hr⟩:=Pk 19 k ⟨#[]⟩ (by omega) (by omega) h (by decide)
   refine ⟨r,JJ ?_⟩
   unfold Fu
   rw [if_neg (by simpa using h0)]
   exact hr
 obtain ⟨r,hr⟩:=this
 unfold Kl
 rw [hr]
 rfl
noncomputable def Fv:Int->Nat->List (ByteArray×ByteArray×Int)
 | _,0=>[]
 | k,n+1=>(Kl k,Kl (k+1),k+2)::Fv (k+3) n
theorem Km:∀ (r p:List (ByteArray×ByteArray×Int)) (k:Int),0<=k->k+3*(r.length:Int)<=4611686018427387904->p.length+r.length<=4611686018427387904 ->
  Cu k (p.length:Int) (p++r)=some (k+3*(r.length:Int),p++Fv k r.length)
 | [],p,k,h0,h1,h2=>F0 (by
  unfold Do
  rw [if_neg (by simp)]
  simp [Fv])
 | v::r,p,k,h0,h1,h2=>F0 (by
  simp only [List.length_cons] at h1 h2
  unfold Do
  have w1:IntKind.i64.wrap (k+1)=k+1:=AR (by omega)
  have w2:IntKind.i64.wrap (k+1+1)=k+2:=by rw [AR (by omega)]; omega
  have w3:IntKind.i64.wrap (k+2+1)=k+3:=by rw [AR (by omega)]; omega
  have hl:∀ m:ByteArray×ByteArray×Int,((p.length:Int)<((p++m::r).length:Int)):=fun m=>by simp only [List.length_append,List.length_cons]; omega
  have ih:=Km r (p++[(Kl k,Kl (k+1),k+2)]) (k+3) (by omega) (by omega) (by simp only [List.length_append,List.length_cons,List.length_nil]; omega)
  simp only [List.length_append,List.length_cons,List.length_nil,Av,List.cons_append,List.nil_append] at ih
  simp only [hl,decide_true,if_true,show (0:Int)<=(p.length:Int) from by omega,DI (show k<=9223372036854775807 by omega),DI (show k+1<=9223372036854775807 by omega),J,w1,w2,w3,BM,UL rfl,Rs rfl,Ag (show p.length<9223372036854775807 by omega)]
  rw [show p.length+(0+1)=p.length+1 from rfl] at ih
  rw [ih]
  simp only [Fv,List.length_cons]
  congr 2
  omega)
theorem KT (k:Int) (x:List (ByteArray×ByteArray×Int)) (h0:0<=k) (h1:k<=1152921504606846976) (hx:x.length<=68719476736):FM k x=some (k+3*(x.length:Int),Fv k x.length):=M4 (by
 unfold Id
 have:=Km x [] k h0 (by omega) (by simp; omega)
 simpa using this)
theorem Kn:∀ (n:Nat) (p:List (ByteArray×ByteArray×Int)) (k:Int),0<=k->k+3*(n:Int)<=4611686018427387904->p.length+n<=4611686018427387904 ->
  Cv (p++Fv k n) k (p.length:Int)=some (k+3*(n:Int))
 | 0,p,k,h0,h1,h2=>F3 (by
  unfold Dp
  rw [if_neg (by simp [Fv])]
  simp)
 | n+1,p,k,h0,h1,h2=>F3 (by
  unfold Dp
  simp only [Fv]
  have w1:IntKind.i64.wrap (k+1)=k+1:=AR (by omega)
  have w2:IntKind.i64.wrap (k+1+1)=k+2:=by rw [AR (by omega)]; omega
  have w3:IntKind.i64.wrap (k+2+1)=k+3:=by rw [AR (by omega)]; omega
  have hl:((p.length:Int)<((p++(Kl k,Kl (k+1),k+2)::Fv (k+3) n).length:Int)):=by simp only [List.length_append,List.length_cons]; omega
  have ih:=Kn n (p++[(Kl k,Kl (k+1),k+2)]) (k+3) (by omega) (by omega) (by simp only [List.length_append,List.length_cons,List.length_nil]; omega)
  simp only [List.length_append,List.length_cons,List.length_nil,Av,List.cons_append,List.nil_append] at ih
  simp only [hl,decide_true,if_true,show (0:Int)<=(p.length:Int) from by omega,DI (show k<=9223372036854775807 by omega),DI (show k+1<=9223372036854775807 by omega),J,w1,w2,w3,BM,Rs rfl,Ag (show p.length<9223372036854775807 by omega)]
  rw [show p.length+(0+1)=p.length+1 from rfl] at ih
  rw [ih]
  simp
  omega)
theorem KU (k:Int) (n:Nat) (h0:0<=k) (h1:k<=1152921504606846976) (hn:n<=68719476736):FN (Fv k n) k=some (k+3*(n:Int)):=M5 (by
 unfold Ie
 have:=Kn n [] k h0 (by omega) (by simp; omega)
 simpa using this)

theorem Sh (a b:ByteArray):(a.toList==b.toList)=decide (a=b):=by
 rw [Bool.eq_iff_iff,beq_iff_eq,decide_eq_true_eq]
 refine ⟨fun h=>?_,fun h=>by rw [h]⟩
 rw [ByteArray.toList_eq,ByteArray.toList_eq] at h
 cases a with
 | mk da =>
  cases b with
  | mk db=>exact congrArg ByteArray.mk (Array.toList_inj.1 h)
theorem EC {t:ByteArray} {i:Nat} {c:Int} {r:List Int} (h:(AK t).drop i=c::r):i<t.size/\((t.data.toList.getD i 0).toNat:Int)=c/\(AK t).drop (i+1)=r:=by
 have hl:i<(AK t).length:=by
  rcases Ap i (AK t).length with h2 | h2
  ·exact h2
  ·rw [List.drop_eq_nil_of_le h2] at h; cases h
 rw [List.drop_eq_getElem_cons hl] at h
 simp only [List.cons.injEq] at h
 have hs:i<t.size:=by rw [AQ] at hl; exact hl
 refine ⟨hs,?_,h.2⟩
 rw [RE hs,<- h.1]
 simp [AK]
theorem TP {t:ByteArray} {i:Nat} {a r:List Int} (h:(AK t).drop i=a++r):(AK t).drop (i+a.length)=r/\i+a.length<=t.size\/a=[]:=by
 by_cases ha:a=[]
 ·exact .inr ha
 ·left
  constructor
  ·rw [<- List.drop_drop,h,List.drop_left]
  ·have:=congrArg List.length h
   simp only [List.length_drop,List.length_append,AQ] at this
   have:0<a.length:=List.length_pos_iff.2 ha
   omega
theorem Pl {t s:ByteArray} {i:Nat} {r:List Int} (h:(AK t).drop i=AK s++r):t.extract i (i+s.size)=s:=by
 have e:AK (t.extract i (i+s.size))=AK s:=by
  have e1:AK (t.extract i (i+s.size))=((AK t).drop i).take s.size:=by
   simp only [AK,ByteArray.data_extract,Array.toList_extract,List.extract_eq_take_drop,List.map_take,List.map_drop]
   congr 1
   omega
  rw [e1,h,List.take_left' (AQ s)]
 rw [<- Ge (t.extract i (i+s.size)),e,Ge]
def JM (t:ByteArray):Prop:=t.size<=1099511627776
def Gi (t:ByteArray) (a:Nat) (r:Int×Int×Bool):Prop:=r.2.2=true->∃ k m:Nat,r.1=(k:Int)/\k<=1000000000/\r.2.1=(m:Int)/\a<m/\m<=t.size
theorem KM {i:Nat} (h:i<=5):128^i<=34359738368:=Nat.le_trans (Nat.pow_le_pow_right (by omega) h) (by decide)
theorem Hr (u:UInt8):(u.toNat:Int)<256:=by have:=u.toNat_lt; omega
theorem Si {acc U:Nat} {u:UInt8} (hU:U<=34359738368) (ha:acc<=U):IntKind.i64.wrap ((acc:Int)+IntKind.i64.wrap (Int.tmod (u.toNat:Int) 128*(U:Int)))=((acc+u.toNat % 128*U:Nat):Int)/\acc+u.toNat % 128*U<=U*128:=by
 have hb:=Hr u
 have e:Int.tmod (u.toNat:Int) 128=((u.toNat % 128:Nat):Int):=by rw [Int.tmod_eq_emod_of_nonneg (by omega)]; omega
 have h1:u.toNat % 128*U<=127*U:=Aw _ (by omega)
 rw [e,<- Int.natCast_mul,AR (n:=((u.toNat % 128*U:Nat):Int)) (by omega),AR (by omega)]
 exact ⟨by omega,by omega⟩
theorem UM {t:ByteArray} {a:Nat} (ht:JM t) (ha:a<=t.size):∀ i:Nat,i<=5->∀ acc U:Nat,U=128^i->acc<=U->∃ r,BU t (a:Int) (acc:Int) (U:Int) (i:Int)=some r/\Gi t a r:=by
 refine K7 (n:=5) (P:=fun i=>∀ acc U:Nat,U=128^i->acc<=U->∃ r,BU t (a:Int) (acc:Int) (U:Int) (i:Int)=some r/\Gi t a r) ?_ ?_
 ·intro acc U _ _
  exact ⟨(0,0,false),E7 (by unfold Cj; rw [if_neg (by simp)]),fun h=>by cases h⟩
 ·intro i hi ih acc U hU hacc
  have hb:t.size<=1099511627776:=ht
  have hUs:=KM (show i<=5 by omega)
  rw [<- hU] at hUs
  have w1:IntKind.i64.wrap ((a:Int)+(i:Int))=((a+i:Nat):Int):=by rw [AR (by omega)]; omega
  suffices g:∃ r,Cj t (a:Int) (acc:Int) (U:Int) (i:Int)=some r/\Gi t a r from g.imp fun r g=>⟨E7 g.1,g.2⟩
  unfold Cj
  rw [if_pos (by simp; omega),w1]
  by_cases hlt:a+i<t.size
  ·rw [if_pos (by simpa using (by omega:((a+i:Nat):Int)<(t.size:Int)))]
   suffices g:∃ r,DW t (a:Int) (acc:Int) (U:Int) (i:Int) (decide (((a+i:Nat):Int)<(t.size:Int)))=some r/\Gi t a r from g.imp fun r g=>⟨Hj g.1,g.2⟩
   unfold DW
   rw [w1,if_pos (by omega),if_pos (by omega),if_neg (by omega),BM]
   generalize t.data.toList.getD (a+i) 0=u
   have hu:=Hr u
   obtain ⟨d1,d2⟩:=Si (u:=u) hUs hacc
   have w2:IntKind.i64.wrap (u.toNat:Int)=(u.toNat:Int):=AR (by omega)
   rw [w2,d1]
   have w3:IntKind.i64.wrap ((U:Int)*128)=((U*128:Nat):Int):=by rw [AR (by omega)]; omega
   have w4:IntKind.i64.wrap (((a+i:Nat):Int)+1)=((a+i+1:Nat):Int):=Ag (by omega)
   rw [w3,w4,Ag (by omega)]
   have fin:∃ r,(if decide (((acc+u.toNat % 128*U:Nat):Int)>1000000000)=true then some ((0:Int),(0:Int),false) else some (((acc+u.toNat % 128*U:Nat):Int),((a+i+1:Nat):Int),true))=some r/\Gi t a r:=by
    by_cases hm:acc+u.toNat % 128*U>1000000000
    ·exact ⟨(0,0,false),by rw [if_pos (by simpa using (by omega:((acc+u.toNat % 128*U:Nat):Int)>1000000000))],fun h=>by cases h⟩
    ·exact ⟨_,by rw [if_neg (by simpa using (by omega:¬ ((acc+u.toNat % 128*U:Nat):Int)>1000000000))],fun _=>⟨_,_,rfl,by omega,rfl,by omega,by omega⟩⟩
   by_cases h1:u.toNat>=128
   ·rw [if_pos (by simpa using (by omega:(u.toNat:Int)>=128))]
    exact ih _ _ (by rw [hU,Nat.pow_succ]) d2
   ·rw [if_neg (by simpa using (by omega:¬ (u.toNat:Int)>=128))]
    split
    ·split
     ·exact fin
     ·exact ⟨_,rfl,fun h=>by cases h⟩
    ·exact fin
  ·exact ⟨(0,0,false),by rw [if_neg (by simpa using (by omega:¬ ((a+i:Nat):Int)<(t.size:Int)))],fun h=>by cases h⟩
theorem Sj {t:ByteArray} {a:Nat} (ht:JM t) (ha:a<=t.size):∃ r,Df t (a:Int)=some r/\Gi t a r:=by
 obtain ⟨r,h1,h2⟩:=UM ht ha 0 (by omega) 0 1 rfl (by omega)
 refine ⟨r,J8 ?_,h2⟩
 unfold Gc
 rw [if_pos (by simp),if_neg (by simp; omega)]
 exact h1
theorem UN {t:ByteArray} {a:Nat} (ht:JM t) (ha:a<=t.size):∀ i,i<=5->∀ acc U:Nat,U=128^i->acc<=U->∃ r,BT t (a:Int) (acc:Int) (U:Int) ((a+i:Nat):Int)=some r/\Gi t a r:=by
 have hb:t.size<=1099511627776:=ht
 have w5:IntKind.i64.wrap ((a:Int)+5)=((a+5:Nat):Int):=by rw [AR (by omega)]; omega
 refine K7 (n:=5) (P:=fun i=>∀ acc U:Nat,U=128^i->acc<=U->∃ r,BT t (a:Int) (acc:Int) (U:Int) ((a+i:Nat):Int)=some r/\Gi t a r) ?_ ?_
 ·intro acc U _ _
  refine ⟨(0,0,false),E6 ?_,fun h=>by cases h⟩
  unfold Ci
  rw [w5]
  split
  ·rw [if_neg (by simp)]
  ·rfl
 ·intro i hi ih acc U hU hacc
  have hUs:=KM (show i<=5 by omega)
  rw [<- hU] at hUs
  suffices g:∃ r,Ci t (a:Int) (acc:Int) (U:Int) ((a+i:Nat):Int)=some r/\Gi t a r from g.imp fun r g=>⟨E6 g.1,g.2⟩
  unfold Ci
  rw [w5]
  by_cases hlt:a+i<t.size
  ·rw [if_pos (by simpa using (by omega:((a+i:Nat):Int)<(t.size:Int))),if_pos (by simpa using (by omega:((a+i:Nat):Int)<((a+5:Nat):Int)))]
   suffices g:∃ r,DV t (a:Int) (acc:Int) (U:Int) ((a+i:Nat):Int) (decide (((a+i:Nat):Int)<((a+5:Nat):Int)))=some r/\Gi t a r from g.imp fun r g=>⟨Hg g.1,g.2⟩
   unfold DV
   rw [if_pos (by omega),if_pos (by omega),if_neg (by omega),if_pos (by omega),if_pos (by omega),BM]
   generalize t.data.toList.getD (a+i) 0=u
   have hu:=Hr u
   obtain ⟨d1,d2⟩:=Si (u:=u) hUs hacc
   have w2:IntKind.i64.wrap (u.toNat:Int)=(u.toNat:Int):=AR (by omega)
   rw [w2,d1]
   have w3:IntKind.i64.wrap ((U:Int)*128)=((U*128:Nat):Int):=by rw [AR (by omega)]; omega
   have w4:IntKind.i64.wrap (((a+i:Nat):Int)+1)=((a+i+1:Nat):Int):=Ag (by omega)
   rw [w3,w4]
   by_cases h1:u.toNat<128
   ·rw [if_pos (by simpa using (by omega:(u.toNat:Int)<128))]
    by_cases hm:acc+u.toNat % 128*U>1000000000
    ·exact ⟨(0,0,false),by rw [if_pos (by simpa using (by omega:((acc+u.toNat % 128*U:Nat):Int)>1000000000))],fun h=>by cases h⟩
    ·rw [if_neg (by simpa using (by omega:¬ ((acc+u.toNat % 128*U:Nat):Int)>1000000000)),if_pos (by omega),if_pos (by omega),if_pos (by omega),CI (by omega),J]
     split
     ·exact ⟨_,rfl,fun h=>by cases h⟩
     ·exact ⟨_,rfl,fun _=>⟨_,_,rfl,by omega,rfl,by omega,by omega⟩⟩
   ·rw [if_neg (by simpa using (by omega:¬ (u.toNat:Int)<128))]
    exact ih _ _ (by rw [hU,Nat.pow_succ]) d2
  ·exact ⟨(0,0,false),by rw [if_neg (by simpa using (by omega:¬ ((a+i:Nat):Int)<(t.size:Int)))],fun h=>by cases h⟩
theorem VQ {t:ByteArray} {a:Nat} (ht:JM t) (ha:a<=t.size):∃ r,Ep t (a:Int)=some r/\Gi t a r:=by
 obtain ⟨r,h1,h2⟩:=UN ht ha 0 (by omega) 0 1 rfl (by omega)
 refine ⟨r,J7 ?_,h2⟩
 unfold Gb
 rw [EB,J,if_neg (by simp; omega)]
 exact h1
theorem Rt {t:ByteArray} {a:Nat} (ht:JM t):∀ i,i<=5->∀ (acc U q n:Nat) (r:List Int),U=128^i->acc<=U->(AK t).drop (a+i)=DP q++r->n=acc+q*U->n<=1000000000->(i=0\/0<q) ->
  BU t (a:Int) (acc:Int) (U:Int) (i:Int)=some ((n:Int),((a+i+(DP q).length:Nat):Int),true):=by
 have hb:t.size<=1099511627776:=ht
 refine K7 (n:=5) (P:=fun i=>∀ (acc U q n:Nat) (r:List Int),U=128^i->acc<=U->(AK t).drop (a+i)=DP q++r->n=acc+q*U->n<=1000000000->(i=0\/0<q) ->
  BU t (a:Int) (acc:Int) (U:Int) (i:Int)=some ((n:Int),((a+i+(DP q).length:Nat):Int),true)) ?_ ?_
 ·intro acc U q n r hU _ _ hn hle hq
  exfalso
  have:1*U<=q*U:=Aw _ (by omega)
  have:U=34359738368:=by rw [hU]
  omega
 ·intro i hi ih acc U q n r hU hacc hd hn hle hq
  have hUs:=KM (show i<=5 by omega)
  rw [<- hU] at hUs
  have hUp:0<U:=by rw [hU]; exact Nat.pow_pos (by omega)
  obtain ⟨c,rest,hv⟩:∃ c rest,DP q=c::rest:=by rw [DP]; split<;>exact ⟨_,_,rfl⟩
  rw [hv] at hd
  obtain ⟨hlt,hc,hd2⟩:=EC hd
  have w1:IntKind.i64.wrap ((a:Int)+(i:Int))=((a+i:Nat):Int):=by rw [AR (by omega)]; omega
  refine E7 ?_
  unfold Cj
  rw [if_pos (by simp; omega),w1,if_pos (by simpa using (by omega:((a+i:Nat):Int)<(t.size:Int)))]
  refine Hj ?_
  unfold DW
  rw [w1,if_pos (by omega),if_pos (by omega),if_neg (by omega),BM]
  revert hc
  generalize t.data.toList.getD (a+i) 0=u
  intro hc
  have hu:=Hr u
  obtain ⟨d1,d2⟩:=Si (u:=u) hUs hacc
  have w2:IntKind.i64.wrap (u.toNat:Int)=(u.toNat:Int):=AR (by omega)
  have w3:IntKind.i64.wrap ((U:Int)*128)=((U*128:Nat):Int):=by rw [AR (by omega)]; omega
  have w4:IntKind.i64.wrap (((a+i:Nat):Int)+1)=((a+i+1:Nat):Int):=Ag (by omega)
  rw [w2,d1,w3,w4,Ag (by omega)]
  rw [DP] at hv
  by_cases h1:q>127
  ·rw [if_pos h1] at hv
   simp only [List.cons.injEq] at hv
   obtain ⟨rfl,rfl⟩:=hv
   have e1:u.toNat=128+q % 128:=by omega
   rw [if_pos (by simpa using (by omega:(u.toNat:Int)>=128))]
   have e2:u.toNat % 128=q % 128:=by omega
   rw [e2] at d2 ⊢
   have e3:q*U=q % 128*U+q / 128*(U*128):=by
    have:q=q % 128+q / 128*128:=by omega
    calc q*U=(q % 128+q / 128*128)*U:=by rw [<- this]
     _=q % 128*U+q / 128*(U*128):=by rw [Nat.add_mul,Nat.mul_assoc,Nat.mul_comm 128 U]
   have:=ih (acc+q % 128*U) (U*128) (q / 128) n r (by rw [hU,Nat.pow_succ]) d2 (by rw [<- Nat.add_assoc]; exact hd2) (by omega) hle (.inr (by omega))
   have e5:(DP q).length=(DP (q / 128)).length+1:=by rw [DP,if_pos h1]; rfl
   rw [this,e5]
   congr 3
   omega
  ·rw [if_neg h1] at hv
   simp only [List.cons.injEq] at hv
   obtain ⟨rfl,rfl⟩:=hv
   have e1:u.toNat=q:=by omega
   have e2:u.toNat % 128=q:=by omega
   rw [if_neg (by simpa using (by omega:¬ (u.toNat:Int)>=128)),e2]
   have e4:(DP q).length=1:=by rw [DP,if_neg h1]; rfl
   rw [e4]
   have fin:(if decide (((acc+q*U:Nat):Int)>1000000000)=true then some ((0:Int),(0:Int),false) else some (((acc+q*U:Nat):Int),((a+i+1:Nat):Int),true))=some ((n:Int),((a+i+1:Nat):Int),true):=by
    rw [if_neg (by simpa using (by omega:¬ ((acc+q*U:Nat):Int)>1000000000)),hn]
   split
   ·rename_i h2
    have h2:(u.toNat:Int)=0:=by simpa using h2
    rw [if_pos (by simp; omega)]
    exact fin
   ·exact fin
theorem UO {t:ByteArray} {a n:Nat} {r:List Int} (ht:JM t) (hd:(AK t).drop a=DP n++r) (hn:n<=1000000000):Df t (a:Int)=some ((n:Int),((a+(DP n).length:Nat):Int),true):=by
 have hb:t.size<=1099511627776:=ht
 have ha:a<=t.size:=by
  have:=congrArg List.length hd
  have h1:0<(DP n).length:=by rw [DP]; split<;>simp
  simp only [List.length_drop,List.length_append,AQ] at this
  omega
 refine J8 ?_
 unfold Gc
 rw [if_pos (by simp),if_neg (by simp; omega)]
 exact Rt ht 0 (by omega) 0 1 n n r rfl (by omega) hd (by omega) hn (.inl rfl)
theorem Ru {t:ByteArray} {a N:Nat} {R:List Int} (ht:JM t) (hN:N<=1000000000) (hall:(AK t).drop a=DP N++R):∀ i,i<=5->∀ (acc U q:Nat) (r:List Int),U=128^i->acc<=U->(AK t).drop (a+i)=DP q++r->N=acc+q*U->a+i+(DP q).length=a+(DP N).length->(i=0\/0<q) ->
  BT t (a:Int) (acc:Int) (U:Int) ((a+i:Nat):Int)=some ((N:Int),((a+(DP N).length:Nat):Int),true):=by
 have hb:t.size<=1099511627776:=ht
 have hle2:a<=t.size:=by
  have:=congrArg List.length hall
  have h1:0<(DP N).length:=by rw [DP]; split<;>simp
  simp only [List.length_drop,List.length_append,AQ] at this
  omega
 have w5:IntKind.i64.wrap ((a:Int)+5)=((a+5:Nat):Int):=by rw [AR (by omega)]; omega
 refine K7 (n:=5) (P:=fun i=>∀ (acc U q:Nat) (r:List Int),U=128^i->acc<=U->(AK t).drop (a+i)=DP q++r->N=acc+q*U->a+i+(DP q).length=a+(DP N).length->(i=0\/0<q) ->
  BT t (a:Int) (acc:Int) (U:Int) ((a+i:Nat):Int)=some ((N:Int),((a+(DP N).length:Nat):Int),true)) ?_ ?_
 ·intro acc U q r hU _ _ hn _ hq
  exfalso
  have:1*U<=q*U:=Aw _ (by omega)
  have:U=34359738368:=by rw [hU]
  omega
 ·intro i hi ih acc U q r hU hacc hd hn hlen hq
  have hUs:=KM (show i<=5 by omega)
  rw [<- hU] at hUs
  have hUp:0<U:=by rw [hU]; exact Nat.pow_pos (by omega)
  obtain ⟨c,rest,hv⟩:∃ c rest,DP q=c::rest:=by rw [DP]; split<;>exact ⟨_,_,rfl⟩
  rw [hv] at hd
  obtain ⟨hlt,hc,hd2⟩:=EC hd
  refine E6 ?_
  unfold Ci
  rw [w5,if_pos (by simpa using (by omega:((a+i:Nat):Int)<(t.size:Int))),if_pos (by simpa using (by omega:((a+i:Nat):Int)<((a+5:Nat):Int)))]
  refine Hg ?_
  unfold DV
  rw [if_pos (by omega),if_pos (by omega),if_neg (by omega),if_pos (by omega),if_pos (by omega),BM]
  revert hc
  generalize t.data.toList.getD (a+i) 0=u
  intro hc
  have hu:=Hr u
  obtain ⟨d1,d2⟩:=Si (u:=u) hUs hacc
  have w2:IntKind.i64.wrap (u.toNat:Int)=(u.toNat:Int):=AR (by omega)
  have w3:IntKind.i64.wrap ((U:Int)*128)=((U*128:Nat):Int):=by rw [AR (by omega)]; omega
  have w4:IntKind.i64.wrap (((a+i:Nat):Int)+1)=((a+i+1:Nat):Int):=Ag (by omega)
  rw [w2,d1,w3,w4]
  rw [DP] at hv
  by_cases h1:q>127
  ·rw [if_pos h1] at hv
   simp only [List.cons.injEq] at hv
   obtain ⟨rfl,rfl⟩:=hv
   have e1:u.toNat=128+q % 128:=by omega
   rw [if_neg (by simpa using (by omega:¬ (u.toNat:Int)<128))]
   have e2:u.toNat % 128=q % 128:=by omega
   rw [e2] at d2 ⊢
   have e3:q*U=q % 128*U+q / 128*(U*128):=by
    have:q=q % 128+q / 128*128:=by omega
    calc q*U=(q % 128+q / 128*128)*U:=by rw [<- this]
     _=q % 128*U+q / 128*(U*128):=by rw [Nat.add_mul,Nat.mul_assoc,Nat.mul_comm 128 U]
   have e5:(DP q).length=(DP (q / 128)).length+1:=by rw [DP,if_pos h1]; rfl
   exact ih (acc+q % 128*U) (U*128) (q / 128) r (by rw [hU,Nat.pow_succ]) d2 (by rw [<- Nat.add_assoc]; exact hd2) (by omega) (by omega) (.inr (by omega))
  ·rw [if_neg h1] at hv
   simp only [List.cons.injEq] at hv
   obtain ⟨rfl,rfl⟩:=hv
   have e2:u.toNat % 128=q:=by omega
   have e4:(DP q).length=1:=by rw [DP,if_neg h1]; rfl
   rw [if_pos (by simpa using (by omega:(u.toNat:Int)<128)),e2,<- hn,if_neg (by simpa using (by omega:¬ (N:Int)>1000000000)),if_pos (by omega),if_pos (by omega),if_pos (by omega),CI hN,J]
   have ec:t.extract (a:Int).toNat ((a+i+1:Nat):Int).toNat=AC (DP N):=by
    have:=Pl (t:=t) (s:=AC (DP N)) (i:=a) (r:=R) (by rw [C7 (KA _)]; exact hall)
    rw [AS] at this
    rw [BM,BM,show a+i+1=a+(DP N).length by omega]
    exact this
   rw [ec,if_neg (by simp)]
   congr 3
   omega
theorem V8 {t:ByteArray} {a n:Nat} {r:List Int} (ht:JM t) (hd:(AK t).drop a=DP n++r) (hn:n<=1000000000):Ep t (a:Int)=some ((n:Int),((a+(DP n).length:Nat):Int),true):=by
 have hb:t.size<=1099511627776:=ht
 have ha:a<=t.size:=by
  have:=congrArg List.length hd
  have h1:0<(DP n).length:=by rw [DP]; split<;>simp
  simp only [List.length_drop,List.length_append,AQ] at this
  omega
 refine J7 ?_
 unfold Gb
 rw [EB,J,if_neg (by simp; omega)]
 exact Ru ht hn hd 0 (by omega) 0 1 n r rfl (by omega) hd (by omega) (by omega) (.inl rfl)

theorem I7 {t:ByteArray} {a b:Nat} (h:b<=t.size):(t.extract a b).size=b-a:=by
 rw [ByteArray.size_extract]; omega
theorem MI {t:ByteArray} {p:Nat} {bad:Bool} (ht:JM t) (hp:p<=t.size):∃ v q b,Ai (t,(p:Int),bad)=some (v,(t,((q:Nat):Int),b))/\q<=t.size:=by
 have hb:t.size<=1099511627776:=ht
 suffices g:∃ v q b,Cf (t,(p:Int),bad)=some (v,(t,((q:Nat):Int),b))/\q<=t.size from g.imp fun v g=>g.imp fun q g=>g.imp fun b g=>⟨Fo g.1,g.2⟩
 unfold Cf
 cases bad with
 | true=>exact ⟨0,p,true,rfl,hp⟩
 | false =>
  rw [if_neg (by simp)]
  by_cases h:p>=t.size
  ·exact ⟨0,p,true,by rw [if_pos (by simpa using (by omega:(p:Int)>=(t.size:Int)))],hp⟩
  ·rw [if_neg (by simpa using (by omega:¬ (p:Int)>=(t.size:Int)))]
   have hJ:∀ b,C5 b (t,(p:Int),false)=some (IntKind.i64.wrap ((t.data.toList.getD p 0).toNat:Int),(t,((p+1:Nat):Int),false)):=fun b=>EM (by
    unfold C6
    have e:IntKind.i64.wrap (IntKind.i64.wrap ((p:Int)+1)-1)=(p:Int):=by rw [Ag (by omega),AR (by omega)]; omega
    dsimp only
    rw [e,if_pos (by omega),if_pos (by omega),Ag (by omega),BM])
   exact ⟨_,p+1,false,hJ _,by omega⟩
theorem OG {t:ByteArray} {p:Nat} {c:Int} {r:List Int} (ht:JM t) (hd:(AK t).drop p=c::r):Ai (t,(p:Int),false)=some (c,(t,((p+1:Nat):Int),false)):=by
 have hb:t.size<=1099511627776:=ht
 obtain ⟨h1,h2,h3⟩:=EC hd
 refine Fo ?_
 unfold Cf
 rw [if_neg (by simp),if_neg (by simpa using (by omega:¬ (p:Int)>=(t.size:Int)))]
 refine EM ?_
 unfold C6
 have e:IntKind.i64.wrap (IntKind.i64.wrap ((p:Int)+1)-1)=(p:Int):=by rw [Ag (by omega),AR (by omega)]; omega
 dsimp only
 rw [e,if_pos (by omega),if_pos (by omega),Ag (by omega),BM,h2,AR (by have:=Hr (t.data.toList.getD p 0); omega)]
theorem Pm {t:ByteArray} {p:Nat} {bad:Bool} (ht:JM t) (hp:p<=t.size):∃ v q b,Ay (t,(p:Int),bad)=some (v,(t,((q:Nat):Int),b))/\q<=t.size:=by
 obtain ⟨⟨n,m,ok⟩,h1,h2⟩:=Sj ht hp
 suffices g:∃ v q b,Bu (t,(p:Int),bad)=some (v,(t,((q:Nat):Int),b))/\q<=t.size from g.imp fun v g=>g.imp fun q g=>g.imp fun b g=>⟨EN g.1,g.2⟩
 unfold Bu
 rw [h1,J]
 cases bad with
 | true=>exact ⟨0,p,true,by rw [if_neg (by simp)],hp⟩
 | false =>
  rw [if_pos rfl]
  cases ok with
  | false=>exact ⟨0,p,true,by rw [if_pos (by simp)],hp⟩
  | true =>
   obtain ⟨k,m',e1,_,e2,_,h3⟩:=h2 rfl
   simp only at e1 e2
   subst e1 e2
   exact ⟨_,m',false,by rw [if_neg (by simp)],h3⟩
theorem RF {t:ByteArray} {p n:Nat} {r:List Int} (ht:JM t) (hd:(AK t).drop p=DP n++r) (hn:n<=1000000000):Ay (t,(p:Int),false)=some ((n:Int),(t,((p+(DP n).length:Nat):Int),false)):=by
 refine EN ?_
 unfold Bu
 rw [UO ht hd hn,J,if_pos rfl,if_neg (by simp)]
theorem Pn {t:ByteArray} {p:Nat} {bad:Bool} (ht:JM t) (hp:p<=t.size):∃ v q b,BR (t,(p:Int),bad)=some (v,(t,((q:Nat):Int),b))/\q<=t.size:=by
 have hb:t.size<=1099511627776:=ht
 have rs:∃ r:ByteArray×Int×Bool,FO t (p:Int)=some r/\(r.2.2=true->∃ m:Nat,r.2.1=(m:Int)/\m<=t.size):=by
  suffices g:∃ r:ByteArray×Int×Bool,Dl t (p:Int)=some r/\(r.2.2=true->∃ m:Nat,r.2.1=(m:Int)/\m<=t.size) from g.imp fun r g=>⟨Ih g.1,g.2⟩
  obtain ⟨⟨n,m,ok⟩,h1,h2⟩:=Sj ht hp
  unfold Dl
  rw [h1,J]
  cases ok with
  | false=>exact ⟨_,by rw [if_neg (by simp)],fun h=>by cases h⟩
  | true =>
   obtain ⟨k,m',e1,hk,e2,_,h3⟩:=h2 rfl
   simp only at e1 e2
   subst e1 e2
   rw [if_pos (by simp)]
   by_cases g1:k>20000
   ·exact ⟨_,by rw [if_neg (by simp; omega)],fun h=>by cases h⟩
   ·rw [if_pos (by simp; omega)]
    have e3:IntKind.i64.wrap ((t.size:Int)-(m':Int))=((t.size-m':Nat):Int):=by rw [AR (by omega)]; omega
    simp only [e3]
    by_cases g2:k>t.size-m'
    ·exact ⟨_,by rw [if_pos (by simpa using (by omega:(k:Int)>((t.size-m':Nat):Int)))],fun h=>by cases h⟩
    ·rw [if_neg (by simpa using (by omega:¬ (k:Int)>((t.size-m':Nat):Int)))]
     have e4:IntKind.i64.wrap ((m':Int)+(k:Int))=((m'+k:Nat):Int):=by rw [AR (by omega)]; omega
     refine ⟨_,F5 (by unfold Dq; rw [e4,if_pos (by omega),if_pos (by omega),if_pos (by omega)]),fun _=>⟨_,rfl,by omega⟩⟩
 obtain ⟨⟨s,m,ok⟩,h1,h2⟩:=rs
 suffices g:∃ v q b,B9 (t,(p:Int),bad)=some (v,(t,((q:Nat):Int),b))/\q<=t.size from g.imp fun v g=>g.imp fun q g=>g.imp fun b g=>⟨E3 g.1,g.2⟩
 unfold B9
 rw [h1,J]
 cases bad with
 | true=>exact ⟨_,p,true,by rw [if_neg (by simp)],hp⟩
 | false =>
  rw [if_pos rfl]
  cases ok with
  | false=>exact ⟨_,p,true,by rw [if_pos (by simp)],hp⟩
  | true =>
   obtain ⟨m',e2,h3⟩:=h2 rfl
   simp only at e2
   subst e2
   exact ⟨_,m',false,by rw [if_neg (by simp)],h3⟩
theorem UP {t:ByteArray} {i:Nat} {a r:List Int} (h:(AK t).drop i=a++r) (ha:0<a.length):i+a.length<=t.size/\(AK t).drop (i+a.length)=r:=by
 rcases TP h with g | g
 ·exact ⟨g.2,g.1⟩
 ·rw [g] at ha; simp at ha
theorem VR (n:Nat):0<(DP n).length:=by rw [DP]; split<;>simp
theorem B3 {t:ByteArray} {i:Nat} {a r:List Int} (h:(AK t).drop i=a++r) (hi:i<=t.size):i+a.length<=t.size/\(AK t).drop (i+a.length)=r:=by
 constructor
 ·have:=congrArg List.length h
  simp only [List.length_drop,List.length_append,AQ] at this
  omega
 ·rw [<- List.drop_drop,h,List.drop_left]
theorem QW {t s:ByteArray} {p:Nat} {r:List Int} (ht:JM t) (hd:(AK t).drop p=DP s.size++(AK s++r)) (hn:s.size<=20000) :
  BR (t,(p:Int),false)=some (s,(t,((p+(DP s.size).length+s.size:Nat):Int),false)):=by
 have hb:t.size<=1099511627776:=ht
 obtain ⟨l1,d1⟩:=UP hd (VR _)
 obtain ⟨l2,d2⟩:=B3 d1 l1
 rw [AQ] at l2
 refine E3 ?_
 unfold B9
 have e3:IntKind.i64.wrap ((t.size:Int)-((p+(DP s.size).length:Nat):Int))=((t.size-(p+(DP s.size).length):Nat):Int):=by rw [AR (by omega)]; omega
 have e4:IntKind.i64.wrap (((p+(DP s.size).length:Nat):Int)+(s.size:Int))=((p+(DP s.size).length+s.size:Nat):Int):=by rw [AR (by omega)]; omega
 have:=Ih (a0:=t) (a1:=(p:Int)) (r:=(s,((p+(DP s.size).length+s.size:Nat):Int),true)) (by
  unfold Dl
  rw [UO ht hd (by omega),J,if_pos (by simp),if_pos (by simp; omega)]
  simp only [e3]
  rw [if_neg (by simpa using (by omega:¬ (s.size:Int)>((t.size-(p+(DP s.size).length):Nat):Int)))]
  refine F5 ?_
  unfold Dq
  rw [e4,if_pos (by omega),if_pos (by omega),if_pos (by omega),BM,BM,Pl d1])
 rw [this,J,if_pos rfl,if_neg (by simp)]
theorem NU {t:ByteArray} {p n:Nat} {bad:Bool} (ht:JM t) (hp:p<=t.size) (hn:n<=1000000000):∃ s q b,C4 (n:Int) (t,(p:Int),bad)=some (s,(t,((q:Nat):Int),b))/\q<=t.size/\(b=false->s.size=n):=by
 have hb:t.size<=1099511627776:=ht
 suffices g:∃ s q b,E2 (n:Int) (t,(p:Int),bad)=some (s,(t,((q:Nat):Int),b))/\q<=t.size/\(b=false->s.size=n) from g.imp fun v g=>g.imp fun q g=>g.imp fun b g=>⟨J0 g.1,g.2⟩
 unfold E2
 cases bad with
 | true=>exact ⟨_,p,true,rfl,hp,fun h=>by cases h⟩
 | false =>
  rw [if_neg (by simp)]
  have e3:IntKind.i64.wrap ((t.size:Int)-(p:Int))=((t.size-p:Nat):Int):=by rw [AR (by omega)]; omega
  simp only [e3]
  by_cases h:n>t.size-p
  ·exact ⟨_,p,true,by rw [if_pos (by simpa using (by omega:(n:Int)>((t.size-p:Nat):Int)))],hp,fun h=>by cases h⟩
  ·rw [if_neg (by simpa using (by omega:¬ (n:Int)>((t.size-p:Nat):Int)))]
   have e4:IntKind.i64.wrap ((p:Int)+(n:Int))=((p+n:Nat):Int):=by rw [AR (by omega)]; omega
   have e5:IntKind.i64.wrap (((p+n:Nat):Int)-(n:Int))=(p:Int):=by rw [AR (by omega)]; omega
   refine ⟨_,p+n,false,Ha (by unfold E1; simp only [e4,e5]; rw [if_pos (by omega),if_pos (by omega),if_pos (by omega)]),by omega,fun _=>?_⟩
   rw [BM,BM,I7 (by omega)]
   omega
theorem Po {t s:ByteArray} {p:Nat} {r:List Int} (ht:JM t) (hp:p<=t.size) (hd:(AK t).drop p=AK s++r):C4 (s.size:Int) (t,(p:Int),false)=some (s,(t,((p+s.size:Nat):Int),false)):=by
 have hb:t.size<=1099511627776:=ht
 obtain ⟨l2,d2⟩:=B3 hd hp
 rw [AQ] at l2
 refine J0 ?_
 unfold E2
 rw [if_neg (by simp)]
 have e3:IntKind.i64.wrap ((t.size:Int)-(p:Int))=((t.size-p:Nat):Int):=by rw [AR (by omega)]; omega
 simp only [e3]
 rw [if_neg (by simpa using (by omega:¬ (s.size:Int)>((t.size-p:Nat):Int)))]
 have e4:IntKind.i64.wrap ((p:Int)+(s.size:Int))=((p+s.size:Nat):Int):=by rw [AR (by omega)]; omega
 have e5:IntKind.i64.wrap (((p+s.size:Nat):Int)-(s.size:Int))=(p:Int):=by rw [AR (by omega)]; omega
 refine Ha ?_
 unfold E1
 simp only [e4,e5]
 rw [if_pos (by omega),if_pos (by omega),if_pos (by omega),BM,BM,Pl hd]
theorem MJ {t:ByteArray} {p:Nat} {bad:Bool} (ht:JM t) (hp:p<=t.size):∃ v q b,Be (t,(p:Int),bad)=some (v,(t,((q:Nat):Int),b))/\q<=t.size:=by
 obtain ⟨s,q,b,h1,h2,h3⟩:=NU (n:=1) (bad:=bad) ht hp (by omega)
 suffices g:∃ v q b,Fd (t,(p:Int),bad)=some (v,(t,((q:Nat):Int),b))/\q<=t.size from g.imp fun v g=>g.imp fun q g=>g.imp fun b g=>⟨Kg g.1,g.2⟩
 unfold Fd
 rw [show ((1:Int))=((1:Nat):Int) from rfl,h1,J]
 cases b with
 | true=>exact ⟨_,q,true,by rw [if_pos rfl],h2⟩
 | false =>
  have:=h3 rfl
  exact ⟨_,q,false,by dsimp only; rw [if_neg (by simp),if_pos (by omega),if_pos (by omega)],h2⟩
theorem OH {t:ByteArray} {p:Nat} {c:Int} {r:List Int} (ht:JM t) (hd:(AK t).drop p=c::r):Be (t,(p:Int),false)=some (c,(t,((p+1:Nat):Int),false)):=by
 obtain ⟨h1,h2,h3⟩:=EC hd
 have hc:C8 [c]=true:=by
  have:=Hr (t.data.toList.getD p 0)
  simp only [C8,List.all_cons,List.all_nil,Bool.and_true,O,decide_eq_true_eq]
  omega
 have ht1:=Po (s:=AC [c]) (p:=p) ht (by omega) (by rw [C7 hc]; exact hd)
 refine Kg ?_
 unfold Fd
 have e1:((AC [c]).size:Int)=1:=rfl
 rw [e1] at ht1
 rw [ht1,J,if_neg (by simp),if_pos (by omega),if_pos (by rw [e1]; omega)]
 have:(((AC [c]).data.toList.getD (0:Int).toNat 0).toNat:Int)=c:=by
  simp only [C8,List.all_cons,List.all_nil,Bool.and_true,O,decide_eq_true_eq] at hc
  have e:((UInt8.ofNat c.toNat).toNat:Int)=c:=by
   have:c.toNat<256:=by omega
   simp [UInt8.toNat_ofNat',Nat.mod_eq_of_lt this]
   omega
  simpa [AC] using e
 rw [this,AR (by have:=Hr (t.data.toList.getD p 0); omega)]
 rfl
theorem KB {t:ByteArray} {p:Nat} {bad:Bool} (ht:JM t) (hp:p<=t.size):∃ v q:Nat,∃ b,CB (t,(p:Int),bad)=some ((v:Int),(t,(q:Int),b))/\q<=t.size/\v<=1000000000:=by
 obtain ⟨⟨n,m,ok⟩,h1,h2⟩:=VQ ht hp
 suffices g:∃ v q:Nat,∃ b,Fe (t,(p:Int),bad)=some ((v:Int),(t,(q:Int),b))/\q<=t.size/\v<=1000000000 from g.imp fun v g=>g.imp fun q g=>g.imp fun b g=>⟨Kh g.1,g.2⟩
 unfold Fe
 rw [h1,J]
 cases bad with
 | true=>exact ⟨0,p,true,by rw [if_neg (by simp)]; rfl,hp,by omega⟩
 | false =>
  rw [if_pos rfl]
  cases ok with
  | false=>exact ⟨0,p,true,by rw [if_pos (by simp)]; rfl,hp,by omega⟩
  | true =>
   obtain ⟨k,m',e1,hk,e2,_,h3⟩:=h2 rfl
   simp only at e1 e2
   subst e1 e2
   exact ⟨k,m',false,by rw [if_neg (by simp)],h3,hk⟩
theorem MK {t:ByteArray} {p n:Nat} {r:List Int} (ht:JM t) (hd:(AK t).drop p=DP n++r) (hn:n<=1000000000):CB (t,(p:Int),false)=some ((n:Int),(t,((p+(DP n).length:Nat):Int),false)):=by
 refine Kh ?_
 unfold Fe
 rw [V8 ht hd hn,J,if_pos rfl,if_neg (by simp)]
theorem VS {x:ByteArray} (hx:x.size<=1048576):∃ s ok,D7 x=some (s,ok)/\JM s:=by
 suffices g:∃ s ok,EA x=some (s,ok)/\JM s from g.imp fun s g=>g.imp fun ok g=>⟨JI g.1,g.2⟩
 have hz:JM (⟨#[]⟩:ByteArray):=by unfold JM; decide
 unfold EA
 have w:IntKind.i64.wrap ((x.size:Int)-4)=(x.size:Int)-4:=AR (by omega)
 simp only [w]
 by_cases h1:(x.size:Int)-4<0
 ·exact ⟨_,_,by rw [if_pos (by simpa using h1)],hz⟩
 ·rw [if_neg (by simpa using h1)]
  by_cases h2:(x.size:Int)-4>20000
  ·exact ⟨_,_,by rw [if_pos (by simpa using h2)],hz⟩
  ·have hs:(x.extract (0:Int).toNat ((x.size:Int)-4).toNat).size=x.size-4:=by rw [I7 (by omega)]; simp; omega
   rw [if_neg (by simpa using h2),if_pos (by omega),if_pos (by omega),if_pos (by omega),if_pos (by omega),if_pos (by omega),if_pos (by omega),FB (by omega),J]
   split
   ·exact ⟨_,_,rfl,hz⟩
   ·exact ⟨_,_,by rw [if_pos (by omega),if_pos (by omega),if_pos (by omega)],by unfold JM; omega⟩
theorem VT {x:ByteArray} (hx:x.size<=1048576):∃ s ok,D6 x=some (s,ok)/\JM s:=by
 suffices g:∃ s ok,D_ x=some (s,ok)/\JM s from g.imp fun s g=>g.imp fun ok g=>⟨JH g.1,g.2⟩
 have hz:JM (⟨#[]⟩:ByteArray):=by unfold JM; decide
 unfold D_
 have w:IntKind.i64.wrap ((x.size:Int)-4)=(x.size:Int)-4:=AR (by omega)
 simp only [w]
 by_cases h1:(x.size:Int)-4<0
 ·exact ⟨_,_,by rw [if_pos (by simpa using h1)],hz⟩
 ·rw [if_neg (by simpa using h1)]
  by_cases h2:(x.size:Int)-4>20000
  ·exact ⟨_,_,by rw [if_pos (by simpa using h2)],hz⟩
  ·have hs:(x.extract (0:Int).toNat ((x.size:Int)-4).toNat).size=x.size-4:=by rw [I7 (by omega)]; simp; omega
   rw [if_neg (by simpa using h2),if_pos (by omega),if_pos (by omega),if_pos (by omega),if_pos (by omega),if_pos (by omega),if_pos (by omega)]
   have hf:=Gf (b:=x.extract (0:Int).toNat ((x.size:Int)-4).toNat) (by omega)
   cases h3:Cb (x.extract (0:Int).toNat ((x.size:Int)-4).toNat) with
   | none=>rw [h3] at hf; cases hf
   | some y =>
    rw [h3,J] at hf
    rw [J,hf,J]
    split
    ·exact ⟨_,_,rfl,hz⟩
    ·exact ⟨_,_,by rw [if_pos (by omega),if_pos (by omega),if_pos (by omega)],by unfold JM; omega⟩
theorem Pp {b:ByteArray} (hb:b.size<=20000):(b++AC (H6 b.data.toList)).size=b.size+4/\(b++AC (H6 b.data.toList)).extract 0 b.size=b/\(b++AC (H6 b.data.toList)).extract b.size (b.size+4)=AC (H6 b.data.toList):=by
 have hl:(AC (H6 b.data.toList)).size=4:=by rw [AS]; rfl
 refine ⟨by rw [ByteArray.size_append,hl],?_,?_⟩
 ·have:=Pl (t:=b++AC (H6 b.data.toList)) (s:=b) (i:=0) (r:=AK (AC (H6 b.data.toList))) (by rw [DN]; rfl)
  simpa using this
 ·have:=Pl (t:=b++AC (H6 b.data.toList)) (s:=AC (H6 b.data.toList)) (i:=b.size) (r:=[]) (by rw [DN,List.append_nil,List.drop_left' (AQ b)])
  rwa [hl] at this
theorem V9 {b:ByteArray} (hb:b.size<=20000):D7 (b++AC (H6 b.data.toList))=some (b,true):=by
 obtain ⟨h1,h2,h3⟩:=Pp hb
 refine JI ?_
 unfold EA
 have w:IntKind.i64.wrap (((b++AC (H6 b.data.toList)).size:Int)-4)=(b.size:Int):=by rw [h1,AR (by omega)]; omega
 simp only [w]
 have e1:((b++AC (H6 b.data.toList)).size:Int).toNat=b.size+4:=by rw [h1]; rfl
 rw [if_neg (by simp),if_neg (by simp; omega),if_pos (by omega),if_pos (by omega),if_pos (by rw [h1]; omega),if_pos (by omega),if_pos (by rw [h1]; omega),if_pos (by omega),e1,BM,show (0:Int).toNat=0 from rfl,h2,h3,
  FB (by omega),J,if_neg (by simp),if_pos (by omega),if_pos (by omega),if_pos (by rw [h1]; omega)]
theorem V_ {b:ByteArray} (hb:b.size<=20000):D6 (b++AC (H6 b.data.toList))=some (b,true):=by
 obtain ⟨h1,h2,h3⟩:=Pp hb
 refine JH ?_
 unfold D_
 have w:IntKind.i64.wrap (((b++AC (H6 b.data.toList)).size:Int)-4)=(b.size:Int):=by rw [h1,AR (by omega)]; omega
 simp only [w]
 have e1:((b++AC (H6 b.data.toList)).size:Int).toNat=b.size+4:=by rw [h1]; rfl
 have hf:=Gf (b:=b) (by omega)
 cases h4:Cb b with
 | none=>rw [h4] at hf; cases hf
 | some y =>
  rw [h4,J] at hf
  rw [if_neg (by simp),if_neg (by simp; omega),if_pos (by omega),if_pos (by rw [h1]; omega),if_pos (by omega),if_pos (by omega),if_pos (by omega),if_pos (by rw [h1]; omega),e1,BM,show (0:Int).toNat=0 from rfl,h2,h3,h4,
   J,hf,J,if_neg (by simp),if_pos (by omega),if_pos (by omega),if_pos (by rw [h1]; omega)]
def ZM:FR:=(0,0,0,0,0,[])
def Gj (text:ByteArray) (r:FR×Bool):Prop:=r=(ZM,false)\/∃ m:FR,r=(m,true)/\B_ m=(text,true)
theorem WA {text:ByteArray} {l:List Rq} {n1 n2 n3 n4 n5:Int} {rd:ByteArray×Int×Bool} {x:FR} (hx:x.2.2.2.2.2.length<=maxLen) :
  ∃ r,Ey text l n1 n2 n3 n4 n5 rd x.2.2.2.2.2 x.1 x.2.1 x.2.2.1 x.2.2.2.1 x.2.2.2.2.1=some r/\Gj text r/\(rd.2.2=false->B_ x=(text,true)->r=(x,true)):=by
 suffices g:∃ r,Ez text l n1 n2 n3 n4 n5 rd x.2.2.2.2.2 x.1 x.2.1 x.2.2.1 x.2.2.2.1 x.2.2.2.2.1=some r/\Gj text r/\(rd.2.2=false->B_ x=(text,true)->r=(x,true)) from g.imp fun r g=>⟨Lu g.1,g.2⟩
 unfold Ez
 rw [show (x.1,x.2.1,x.2.2.1,x.2.2.2.1,x.2.2.2.2.1,x.2.2.2.2.2)=x from rfl,MG x hx,J]
 by_cases h1:rd.2.2=false
 ·rw [if_pos h1]
  by_cases h2:(B_ x).2=true
  ·rw [if_pos (by simp [h2]),Sh]
   by_cases h3:(B_ x).1=text
   ·rw [if_neg (by simp [h3])]
    exact ⟨_,rfl,.inr ⟨x,rfl,by rw [<- h3,<- h2]⟩,fun _ _=>rfl⟩
   ·rw [if_pos (by simp [h3])]
    exact ⟨_,rfl,.inl rfl,fun _ h=>absurd (congrArg Prod.fst h) h3⟩
  ·rw [if_neg (by simpa using h2)]
   exact ⟨_,rfl,.inl rfl,fun _ h=>absurd (congrArg Prod.snd h) h2⟩
 ·rw [if_neg h1]
  exact ⟨_,rfl,.inl rfl,fun h=>absurd h h1⟩
theorem WB {text:ByteArray} {l:List Rq} {n1 n2 n3 n4 n5:Int} {rd:ByteArray×Int×Bool} {x:FR} (hx:x.2.2.2.2.2.length<=maxLen) :
  ∃ r,Cd text l n1 n2 n3 n4 n5 rd x.2.2.2.2.2 x.1 x.2.1 x.2.2.1 x.2.2.2.1 x.2.2.2.2.1=some r/\Gj text r/\(rd.2.2=false->B_ x=(text,true)->r=(x,true)):=by
 suffices g:∃ r,Ew text l n1 n2 n3 n4 n5 rd x.2.2.2.2.2 x.1 x.2.1 x.2.2.1 x.2.2.2.1 x.2.2.2.2.1=some r/\Gj text r/\(rd.2.2=false->B_ x=(text,true)->r=(x,true)) from g.imp fun r g=>⟨Ls g.1,g.2⟩
 unfold Ew
 rw [show (x.1,x.2.1,x.2.2.1,x.2.2.2.1,x.2.2.2.2.1,x.2.2.2.2.2)=x from rfl,MH x hx,J]
 by_cases h1:rd.2.2=false
 ·rw [if_pos h1]
  by_cases h2:(B_ x).2=true
  ·rw [if_pos (by simp [h2]),Sh]
   by_cases h3:(B_ x).1=text
   ·rw [if_neg (by simp [h3])]
    exact ⟨_,rfl,.inr ⟨x,rfl,by rw [<- h3,<- h2]⟩,fun _ _=>rfl⟩
   ·rw [if_pos (by simp [h3])]
    exact ⟨_,rfl,.inl rfl,fun _ h=>absurd (congrArg Prod.fst h) h3⟩
  ·rw [if_neg (by simpa using h2)]
   exact ⟨_,rfl,.inl rfl,fun _ h=>absurd (congrArg Prod.snd h) h2⟩
 ·rw [if_neg h1]
  exact ⟨_,rfl,.inl rfl,fun h=>absurd h h1⟩
theorem TQ {text t:ByteArray} {l:List Rq} {n1 n2 n3 n4 n5 a1 a2 a3 a4 a5 c:Int} (ht:JM t) (hc:c<=13):∀ (k i p:Nat) (b:Bool) (xs:List Rq),13-i=k->i<=13->p<=t.size->xs.length=i ->
  ∃ r,Bs text c (i:Int) l n1 n2 n3 n4 n5 (t,(p:Int),b) xs a1 a2 a3 a4 a5=some r/\Gj text r:=by
 intro k
 induction k with
 | zero =>
  intro i p b xs hk hi hp hl
  obtain ⟨r,h1,h2,_⟩:=WA (text:=text) (l:=l) (n1:=n1) (n2:=n2) (n3:=n3) (n4:=n4) (n5:=n5) (rd:=(t,(p:Int),b)) (x:=(a1,a2,a3,a4,a5,xs)) (by simp only [hl]; unfold maxLen; omega)
  exact ⟨r,Ce (by unfold Bt; rw [if_neg (by simp; omega)]; exact h1),h2⟩
 | succ k ih =>
  intro i p b xs hk hi hp hl
  by_cases hic:(i:Int)<c
  ·obtain ⟨v1,q1,b1,e1,g1⟩:=Pn (bad:=b) ht hp
   obtain ⟨v2,q2,b2,e2,g2⟩:=Pn (bad:=b1) ht g1
   obtain ⟨v3,q3,b3,e3,g3⟩:=Pm (bad:=b2) ht g2
   obtain ⟨r,h1,h2⟩:=ih (i+1) q3 b3 (xs++[(v1,v2,v3)]) (by omega) (by omega) g3 (by simp [hl])
   exact ⟨r,Ce (by unfold Bt; rw [if_pos (by simpa using hic),e1,J,e2,J,e3,J,if_pos (by simp only [List.length_cons,List.length_nil]; omega),Ag (by omega)]; exact h1),h2⟩
  ·obtain ⟨r,h1,h2,_⟩:=WA (text:=text) (l:=l) (n1:=n1) (n2:=n2) (n3:=n3) (n4:=n4) (n5:=n5) (rd:=(t,(p:Int),b)) (x:=(a1,a2,a3,a4,a5,xs)) (by simp only [hl]; unfold maxLen; omega)
   exact ⟨r,Ce (by unfold Bt; rw [if_neg (by simpa using hic)]; exact h1),h2⟩
theorem TR {text t:ByteArray} {l:List Rq} {n1 n2 n3 n4 n5 a1 a2 a3 a4 a5 c:Int} (ht:JM t):∀ (k i p:Nat) (b:Bool) (xs:List Rq),50-i=k->i<=50->p<=t.size->xs.length=i ->
  ∃ r,Bq text c (i:Int) l n1 n2 n3 n4 n5 (t,(p:Int),b) xs a1 a2 a3 a4 a5=some r/\Gj text r:=by
 intro k
 induction k with
 | zero =>
  intro i p b xs hk hi hp hl
  obtain ⟨r,h1,h2,_⟩:=WB (text:=text) (l:=l) (n1:=n1) (n2:=n2) (n3:=n3) (n4:=n4) (n5:=n5) (rd:=(t,(p:Int),b)) (x:=(a1,a2,a3,a4,a5,xs)) (by simp only [hl]; unfold maxLen; omega)
  exact ⟨r,Br (by unfold BS; split<;>first | exact h1 | (rw [if_neg (by simp; omega)]; exact h1)),h2⟩
 | succ k ih =>
  intro i p b xs hk hi hp hl
  obtain ⟨r0,f1,f2,_⟩:=WB (text:=text) (l:=l) (n1:=n1) (n2:=n2) (n3:=n3) (n4:=n4) (n5:=n5) (rd:=(t,(p:Int),b)) (x:=(a1,a2,a3,a4,a5,xs)) (by simp only [hl]; unfold maxLen; omega)
  by_cases hic:(i:Int)<c
  ·cases b with
   | true=>exact ⟨r0,Br (by unfold BS; rw [if_pos (by simpa using hic),if_pos (by simp; omega),if_neg (by simp)]; exact f1),f2⟩
   | false =>
    obtain ⟨v1,q1,b1,e1,g1,m1⟩:=KB (bad:=false) ht hp
    obtain ⟨s1,q2,b2,e2,g2,_⟩:=NU (bad:=b1) ht g1 m1
    obtain ⟨v2,q3,b3,e3,g3,m2⟩:=KB (bad:=b2) ht g2
    obtain ⟨s2,q4,b4,e4,g4,_⟩:=NU (bad:=b3) ht g3 m2
    obtain ⟨v3,q5,b5,e5,g5,m3⟩:=KB (bad:=b4) ht g4
    obtain ⟨r,h1,h2⟩:=ih (i+1) q5 b5 (xs++[(s1,s2,(v3:Int))]) (by omega) (by omega) g5 (by simp [hl])
    exact ⟨r,Br (by unfold BS; rw [if_pos (by simpa using hic),if_pos (by simp; omega),if_pos (by simp)]; exact HX (by
     unfold Eu
     rw [e1,J,e2,J,e3,J,e4,J,e5,J,if_pos (by simp only [List.length_cons,List.length_nil]; omega),Ag (by omega)]
     exact h1)),h2⟩
  ·exact ⟨r0,Br (by unfold BS; rw [if_neg (by simpa using hic)]; exact f1),f2⟩
theorem TS {text:ByteArray} (hx:text.size<=1048576):∃ r,C2 text=some r/\Gj text r:=by
 suffices g:∃ r,E0 text=some r/\Gj text r from g.imp fun r g=>⟨Js g.1,g.2⟩
 unfold E0
 obtain ⟨t,ok,e0,ht⟩:=VS hx
 rw [e0,J]
 cases ok with
 | false=>exact ⟨(ZM,false),by rw [if_pos (by simp)]; rfl,.inl rfl⟩
 | true =>
  rw [if_neg (by simp)]
  obtain ⟨v1,q1,b1,e1,g1⟩:=MI (p:=0) (bad:=false) ht (by omega)
  obtain ⟨v2,q2,b2,e2,g2⟩:=MI (bad:=b1) ht g1
  obtain ⟨v3,q3,b3,e3,g3⟩:=MI (bad:=b2) ht g2
  obtain ⟨v4,q4,b4,e4,g4⟩:=MI (bad:=b3) ht g3
  obtain ⟨v5,q5,b5,e5,g5⟩:=Pm (bad:=b4) ht g4
  obtain ⟨v6,q6,b6,e6,g6⟩:=Pm (bad:=b5) ht g5
  have e1:Ai (t,0,false)=some (v1,(t,(q1:Int),b1)):=e1
  simp only [e1,J,e2,e3,e4,e5,e6]
  exact TQ ht (by omega) 13 0 q6 b6 [] rfl (by omega) g6 rfl
theorem TU {text:ByteArray} (hx:text.size<=1048576):∃ r,De text=some r/\Gj text r:=by
 suffices g:∃ r,Ex text=some r/\Gj text r from g.imp fun r g=>⟨Jr g.1,g.2⟩
 unfold Ex
 obtain ⟨t,ok,e0,ht⟩:=VT hx
 rw [e0,J]
 obtain ⟨v1,q1,b1,e1,g1⟩:=MJ (p:=0) (bad:=!ok) ht (by omega)
 obtain ⟨v2,q2,b2,e2,g2⟩:=MJ (bad:=b1) ht g1
 obtain ⟨v3,q3,b3,e3,g3⟩:=MJ (bad:=b2) ht g2
 obtain ⟨v4,q4,b4,e4,g4⟩:=MJ (bad:=b3) ht g3
 obtain ⟨v5,q5,b5,e5,g5,_⟩:=KB (bad:=b4) ht g4
 obtain ⟨v6,q6,b6,e6,g6,_⟩:=KB (bad:=b5) ht g5
 have e1:Be (t,0,!ok)=some (v1,(t,(q1:Int),b1)):=e1
 simp only [e1,J,e2,e3,e4,e5,e6]
 exact TR ht 50 0 q6 b6 [] rfl (by omega) g6 rfl
theorem K9 {m:FR} {text:ByteArray} (h:B_ m=(text,true)):Ik m/\(AC (FC m)).size<=20000/\text=AC (FC m)++AC (H6 (AC (FC m)).data.toList):=by
 unfold B_ at h
 split at h
 ·rename_i hm
  unfold Gg at h
  split at h
  ·cases h
  ·rename_i hs
   exact ⟨Ik.of hm,by omega,(congrArg Prod.fst h).symm⟩
 ·cases h
theorem UQ {text t:ByteArray} {l:List Rq} {n1 n2 n3 n4 n5:Int} {m:FR} (ht:JM t) (M:Ik m) (hm:B_ m=(text,true)):∀ (i:Nat),i<=m.2.2.2.2.2.length->∀ p:Nat,p<=t.size->(AK t).drop p=(m.2.2.2.2.2.drop i).flatMap Dm ->
  Bs text (m.2.2.2.2.2.length:Int) (i:Int) l n1 n2 n3 n4 n5 (t,(p:Int),false) (m.2.2.2.2.2.take i) m.1 m.2.1 m.2.2.1 m.2.2.2.1 m.2.2.2.2.1=some (m,true):=by
 have hl:=M.l
 refine K7 (n:=m.2.2.2.2.2.length) (P:=fun i=>∀ p:Nat,p<=t.size->(AK t).drop p=(m.2.2.2.2.2.drop i).flatMap Dm ->
  Bs text (m.2.2.2.2.2.length:Int) (i:Int) l n1 n2 n3 n4 n5 (t,(p:Int),false) (m.2.2.2.2.2.take i) m.1 m.2.1 m.2.2.1 m.2.2.2.1 m.2.2.2.2.1=some (m,true)) ?_ ?_
 ·intro p hp hd
  obtain ⟨r,h1,_,h3⟩:=WA (text:=text) (l:=l) (n1:=n1) (n2:=n2) (n3:=n3) (n4:=n4) (n5:=n5) (rd:=(t,(p:Int),false)) (x:=m) (by unfold maxLen; omega)
  refine Ce ?_
  unfold Bt
  rw [if_neg (by simp),List.take_length,h1,h3 rfl hm]
 ·intro i hi ih p hp hd
  obtain ⟨q1,q2,q3,q4⟩:=M.i _ (Il hi)
  rw [List.drop_eq_getElem_cons hi,List.flatMap_cons,Dm] at hd
  simp only [Av] at hd
  have e1:=QW ht hd (by omega)
  obtain ⟨l1,d1⟩:=B3 hd hp
  obtain ⟨l2,d2⟩:=B3 d1 l1
  rw [AQ] at l2 d2
  have e2:=QW ht d2 (by omega)
  obtain ⟨l3,d3⟩:=B3 d2 l2
  obtain ⟨l4,d4⟩:=B3 d3 l3
  rw [AQ] at l4 d4
  have e3:=RF ht d4 (by omega)
  obtain ⟨l5,d5⟩:=B3 d4 l4
  refine Ce ?_
  unfold Bt
  rw [if_pos (by simpa using hi),e1,J,e2,J,e3,J,if_pos (by simp only [List.length_cons,List.length_nil,List.length_take]; omega),Ag (by omega)]
  have et:m.2.2.2.2.2.take i++[(m.2.2.2.2.2[i].1,m.2.2.2.2.2[i].2.1,((m.2.2.2.2.2[i].2.2.toNat:Nat):Int))]=m.2.2.2.2.2.take (i+1):=by
   have:((m.2.2.2.2.2[i].2.2.toNat:Nat):Int)=m.2.2.2.2.2[i].2.2:=by omega
   rw [this,List.take_succ_eq_append_getElem hi]
  simp only at et ⊢
  rw [et]
  exact ih _ l5 d5
theorem UR {text t:ByteArray} {l:List Rq} {n1 n2 n3 n4 n5:Int} {m:FR} (ht:JM t) (M:Ik m) (hm:B_ m=(text,true)):∀ (i:Nat),i<=m.2.2.2.2.2.length->∀ p:Nat,p<=t.size->(AK t).drop p=(m.2.2.2.2.2.drop i).flatMap Dm ->
  Bq text (m.2.2.2.2.2.length:Int) (i:Int) l n1 n2 n3 n4 n5 (t,(p:Int),false) (m.2.2.2.2.2.take i) m.1 m.2.1 m.2.2.1 m.2.2.2.1 m.2.2.2.2.1=some (m,true):=by
 have hl:=M.l
 refine K7 (n:=m.2.2.2.2.2.length) (P:=fun i=>∀ p:Nat,p<=t.size->(AK t).drop p=(m.2.2.2.2.2.drop i).flatMap Dm ->
  Bq text (m.2.2.2.2.2.length:Int) (i:Int) l n1 n2 n3 n4 n5 (t,(p:Int),false) (m.2.2.2.2.2.take i) m.1 m.2.1 m.2.2.1 m.2.2.2.1 m.2.2.2.2.1=some (m,true)) ?_ ?_
 ·intro p hp hd
  obtain ⟨r,h1,_,h3⟩:=WB (text:=text) (l:=l) (n1:=n1) (n2:=n2) (n3:=n3) (n4:=n4) (n5:=n5) (rd:=(t,(p:Int),false)) (x:=m) (by unfold maxLen; omega)
  refine Br ?_
  unfold BS
  rw [if_neg (by simp),List.take_length,h1,h3 rfl hm]
 ·intro i hi ih p hp hd
  obtain ⟨q1,q2,q3,q4⟩:=M.i _ (Il hi)
  rw [List.drop_eq_getElem_cons hi,List.flatMap_cons,Dm] at hd
  simp only [Av] at hd
  have e1:=MK ht hd (by omega)
  obtain ⟨l1,d1⟩:=B3 hd hp
  have e2:=Po ht l1 d1
  obtain ⟨l2,d2⟩:=B3 d1 l1
  rw [AQ] at l2 d2
  have e3:=MK ht d2 (by omega)
  obtain ⟨l3,d3⟩:=B3 d2 l2
  have e4:=Po ht l3 d3
  obtain ⟨l4,d4⟩:=B3 d3 l3
  rw [AQ] at l4 d4
  have e5:=MK ht d4 (by omega)
  obtain ⟨l5,d5⟩:=B3 d4 l4
  refine Br ?_
  unfold BS
  rw [if_pos (by simpa using hi),if_pos (by simp; omega),if_pos (by simp)]
  refine HX ?_
  unfold Eu
  rw [e1,J,e2,J,e3,J,e4,J,e5,J,if_pos (by simp only [List.length_cons,List.length_nil,List.length_take]; omega),Ag (by omega)]
  have et:m.2.2.2.2.2.take i++[(m.2.2.2.2.2[i].1,m.2.2.2.2.2[i].2.1,((m.2.2.2.2.2[i].2.2.toNat:Nat):Int))]=m.2.2.2.2.2.take (i+1):=by
   have:((m.2.2.2.2.2[i].2.2.toNat:Nat):Int)=m.2.2.2.2.2[i].2.2:=by omega
   rw [this,List.take_succ_eq_append_getElem hi]
  simp only at et ⊢
  rw [et]
  exact ih _ l5 d5
theorem Sk {m:FR} (M:Ik m):(AK (AC (FC m))).drop 0=m.1::m.2.1::m.2.2.1::m.2.2.2.1::(DP m.2.2.2.2.1.toNat++(DP m.2.2.2.2.2.length++(m.2.2.2.2.2.drop 0).flatMap Dm)):=by
 rw [C7 (Pi M),FC,Kk]
 simp
theorem US {t:ByteArray} (h:t.size<=20000):JM t:=by unfold JM; omega
theorem UT {m:FR} {text:ByteArray} (h:B_ m=(text,true)):C2 text=some (m,true):=by
 obtain ⟨M,hs,rfl⟩:=K9 h
 have ht:=US hs
 refine Js ?_
 unfold E0
 rw [V9 hs,J,if_neg (by simp)]
 have d0:=Sk M
 have hn:=M.n; have hl:=M.l
 generalize AC (FC m)=t at h hs ht d0 ⊢
 obtain ⟨_,_,d1⟩:=EC d0
 obtain ⟨_,_,d2⟩:=EC d1
 obtain ⟨_,_,d3⟩:=EC d2
 obtain ⟨l4,_,d4⟩:=EC d3
 have e1:Ai (t,0,false)=some (m.1,(t,((0+1:Nat):Int),false)):=OG ht d0
 have e2:=OG ht d1
 have e3:=OG ht d2
 have e4:=OG ht d3
 have e5:=RF ht d4 (by omega)
 obtain ⟨l5,d5⟩:=B3 d4 (by omega)
 have e6:=RF ht d5 (by omega)
 obtain ⟨l6,d6⟩:=B3 d5 l5
 have en:((m.2.2.2.2.1.toNat:Nat):Int)=m.2.2.2.2.1:=by omega
 simp only [e1,J,e2,e3,e4,e5,e6,en]
 rw [show min (m.2.2.2.2.2.length:Int) 13=(m.2.2.2.2.2.length:Int) by omega]
 exact UQ ht M h 0 (by omega) _ l6 d6
theorem UU {m:FR} {text:ByteArray} (h:B_ m=(text,true)):De text=some (m,true):=by
 obtain ⟨M,hs,rfl⟩:=K9 h
 have ht:=US hs
 refine Jr ?_
 unfold Ex
 rw [V_ hs,J]
 have d0:=Sk M
 have hn:=M.n; have hl:=M.l
 generalize AC (FC m)=t at h hs ht d0 ⊢
 obtain ⟨_,_,d1⟩:=EC d0
 obtain ⟨_,_,d2⟩:=EC d1
 obtain ⟨_,_,d3⟩:=EC d2
 obtain ⟨l4,_,d4⟩:=EC d3
 have e1:Be (t,0,!true)=some (m.1,(t,((0+1:Nat):Int),false)):=OH ht d0
 have e2:=OH ht d1
 have e3:=OH ht d2
 have e4:=OH ht d3
 have e5:=MK ht d4 (by omega)
 obtain ⟨l5,d5⟩:=B3 d4 (by omega)
 have e6:=MK ht d5 (by omega)
 obtain ⟨l6,d6⟩:=B3 d5 l5
 have en:((m.2.2.2.2.1.toNat:Nat):Int)=m.2.2.2.2.1:=by omega
 simp only [e1,J,e2,e3,e4,e5,e6,en]
 exact UR ht M h 0 (by omega) _ l6 d6
theorem TV {text:ByteArray} (hx:text.size<=1048576):∃ r:FR×Bool,C2 text=some r/\De text=some r/\r.1.2.2.2.2.2.length<=12/\Gj text r:=by
 obtain ⟨r1,e1,o1⟩:=TS hx
 obtain ⟨r2,e2,o2⟩:=TU hx
 rcases o1 with h1 | ⟨m,h1,h3⟩
 ·rcases o2 with h2 | ⟨m,h2,h3⟩
  ·exact ⟨r1,e1,by rw [e2,h2,h1],by rw [h1]; simp [ZM],.inl h1⟩
  ·exfalso
   have:=UT h3
   rw [e1,h1] at this
   cases this
 ·refine ⟨r1,e1,by rw [h1]; exact UU h3,?_,.inr ⟨m,h1,h3⟩⟩
  rw [h1]
  exact (K9 h3).1.l
theorem K_ (x) (hx:Kd.ok .str x):FE x=some true:=JL (by
 unfold FF
 by_cases h:x.size>1048576
 ·rw [if_pos (by simpa using (by omega:(x.size:Int)>1048576))]
 ·rw [if_neg (by simpa using (by omega:¬ (x.size:Int)>1048576))]
  obtain ⟨r,e1,e2,hl,_⟩:=TV (text:=x) (by omega)
  have hl2:r.1.2.2.2.2.2.length<=68719476736:=by omega
  rw [e2,J,e1,J,Hq r.1 hl2,J,if_pos (by simp),if_neg (by simp [Pr])]
  have mk:GV r.1.1 r.1.2.1 r.1.2.2.1 r.1.2.2.2.1 r.1.2.2.2.2.1 1 r.1.2.2.2.2.2=some (1+3*(r.1.2.2.2.2.2.length:Int),Fv 1 r.1.2.2.2.2.2.length):=PO (by
   unfold Jt
   rw [KT 1 _ (by omega) (by omega) hl2]
   rfl)
  have hd:∀ a b c d e:Int,Em (a,b,c,d,e,Fv 1 r.1.2.2.2.2.2.length) 1=some (1+3*(r.1.2.2.2.2.2.length:Int)):=fun a b c d e=>PP (by
   unfold Ju
   rw [KU 1 _ (by omega) (by omega) hl2,J,if_neg (by simp; omega)])
  refine H5 ?_
  unfold Dz
  rw [mk,J]
  simp only [hd,J]
  rw [if_neg (by simp; omega),if_neg (by simp),e1,J,show (r.1.1,r.1.2.1,r.1.2.2.1,r.1.2.2.2.1,r.1.2.2.2.2.1,r.1.2.2.2.2.2)=r.1 from rfl,Hq r.1 hl2,J,if_pos (by simp),if_neg (by simp [Pr])]
  refine Hz ?_
  unfold Dy
  simp only [hd,J]
  rw [if_neg (by simp; omega),if_neg (by simp)])

theorem UV {P:Program} {c:List Char} {rest:List (List Char)} (h:behindMainWord (wordsSigns P.initOrder.toList)=c::rest) (h1:(c == "gc".toList||c == "spec".toList)=false) (h2:(c == "cut".toList||(c == "finals".toList&&rest.head? == some "cut".toList))=true):P.make=some .cut:=by
 unfold Program.make
 rw [h]
 simp only [h1,h2]
 rfl
theorem UW {P:Program} {c:List Char} {rest:List (List Char)} (h:behindMainWord (wordsSigns P.initOrder.toList)=c::rest) (h1:((stripLifts liftWords (c::rest)).2.head? == some "cut".toList)=true) (h2:(stripLifts liftWords (c::rest)).1=[])
  (h3:P.laysLater=false) (h4:P.bearsReflect=false) (h5:P.doorFits []=true):P.mayEnter=true:=by
 unfold Program.mayEnter
 rw [h]
 simp only [h1,h2,h3,h4,h5]
 simp
theorem UX {P:Program} {c:List Char} {rest:List (List Char)} (h:behindMainWord (wordsSigns P.initOrder.toList)=c::rest) (h1:(c == "carried".toList)=false) (h2:(stripLifts liftWords (c::rest)).1=[]):P.liftsFinal=false:=by
 have e:(some c==some "carried".toList)=false:=h1
 unfold Program.liftsFinal Program.headLifts
 rw [h]
 simp only [List.head?_cons,e,h2]
 simp
theorem EG {a b:Bool} (h:a=true) (g:b=true):(a&&b)=true:=by rw [h,g]; rfl
theorem UY {α:Type} [BEq α] [LawfulBEq α] {a b:α} (h:a=b):(a==b)=true:=by rw [h]; exact beq_self_eq_true b
end Go.Proofs.Ytffahmnodgnohaa.Core

namespace Go.Proofs.Ytffahmnodgnohaa.Core
open Go
set_option maxRecDepth 100000
def W6:List Nat:=[104,97,114,110,101,115,115,32,57,52,51,54,48,100,51,54,48,102,97,48,51,101,55,56,99,49,99,55,102,52,101,50,52,51,100,50,100,97,57,53,55,57,52,98,57,49,49,99,102,51,55,51,101,101,49,49,101,100,97,49,52,100,97,99,49,98,51,56,98,51,55,99,32,99,117,116,32,97,116,32,108,111,111,112,46,101,120,97,109,112,108,101,47,103,48,48,49,56,48,47,108,97,119,115,46,70,110,69,120,97,99,116,77,115,103,84,101,120,116,32,108,111,111,112,46,101,120,97,109,112,108,101,47,103,48,48,49,56,48,47,108,97,119,115,46,70,110,69,120,97,99,116,82,101,97,100,77,115,103,32,108,111,111,112,46,101,120,97,109,112,108,101,47,103,48,48,49,56,48,47,108,97,119,115,46,70,110,77,115,103,115,32,108,111,111,112,46,101,120,97,109,112,108,101,47,103,48,48,49,56,48,47,108,97,119,115,46,70,110,69,120,97,99,116,77,101,109,98,101,114,78,101,119,32,108,111,111,112,46,101,120,97,109,112,108,101,47,103,48,48,49,56,48,47,108,97,119,115,46,70,110,69,120,97,99,116,67,111,117,110,99,105,108,78,101,119,32,108,111,111,112,46,101,120,97,109,112,108,101,47,103,48,48,49,56,48,47,108,97,119,115,46,70,110,69,120,97,99,116,71,114,111,117,112,78,101,119,32,108,111,111,112,46,101,120,97,109,112,108,101,47,103,48,48,49,56,48,47,108,97,119,115,46,70,110,65,108,111,110,101,49,50,32,108,111,111,112,46,101,120,97,109,112,108,101,47,103,48,48,49,56,48,47,108,97,119,115,46,70,110,67,104,111,115,101,110,32,108,111,111,112,46,101,120,97,109,112,108,101,47,103,48,48,49,56,48,47,108,97,119,115,46,70,110,68,101,99,105,100,101,115]
def W7:List Nat:=[99,117,116]
def W8:List (List Nat):=[[97,116],[108,111,111,112,46,101,120,97,109,112,108,101,47,103,48,48,49,56,48,47,108,97,119,115,46,70,110,69,120,97,99,116,77,115,103,84,101,120,116],[108,111,111,112,46,101,120,97,109,112,108,101,47,103,48,48,49,56,48,47,108,97,119,115,46,70,110,69,120,97,99,116,82,101,97,100,77,115,103],[108,111,111,112,46,101,120,97,109,112,108,101,47,103,48,48,49,56,48,47,108,97,119,115,46,70,110,77,115,103,115],[108,111,111,112,46,101,120,97,109,112,108,101,47,103,48,48,49,56,48,47,108,97,119,115,46,70,110,69,120,97,99,116,77,101,109,98,101,114,78,101,119],[108,111,111,112,46,101,120,97,109,112,108,101,47,103,48,48,49,56,48,47,108,97,119,115,46,70,110,69,120,97,99,116,67,111,117,110,99,105,108,78,101,119],[108,111,111,112,46,101,120,97,109,112,108,101,47,103,48,48,49,56,48,47,108,97,119,115,46,70,110,69,120,97,99,116,71,114,111,117,112,78,101,119],[108,111,111,112,46,101,120,97,109,112,108,101,47,103,48,48,49,56,48,47,108,97,119,115,46,70,110,65,108,111,110,101,49,50],[108,111,111,112,46,101,120,97,109,112,108,101,47,103,48,48,49,56,48,47,108,97,119,115,46,70,110,67,104,111,115,101,110],[108,111,111,112,46,101,120,97,109,112,108,101,47,103,48,48,49,56,48,47,108,97,119,115,46,70,110,68,101,99,105,100,101,115]]
theorem io:Try.prog.initOrder.toList=W6.map Char.ofNat:=(congrArg String.toList (show Try.prog.initOrder=String.ofList (W6.map Char.ofNat) from by kernel_rfl)).trans String.toList_ofList
theorem W0:behindMainWord (wordsSigns Try.prog.initOrder.toList)=W7.map Char.ofNat::W8.map fun w=>w.map Char.ofNat:=by
 rw [io]
 kernel_rfl
theorem W2:Try.prog.make=some .cut:=UV W0 (by kernel_rfl) (by kernel_rfl)
theorem enters:Try.prog.mayEnter=true:=UW W0 (by kernel_rfl) (by kernel_rfl) (by kernel_rfl) (by kernel_rfl) (by kernel_rfl)
theorem VU:Try.prog.liftsFinal=false:=UX W0 (by kernel_rfl) (by kernel_rfl)
theorem Rv:laidOutB Try.prog=true:=by kernel_rfl
theorem SH:mapsRowed Try.prog=true:=by kernel_rfl
theorem WC:Try.prog.stopsHeard=true:=by kernel_rfl
end Go.Proofs.Ytffahmnodgnohaa.Core
