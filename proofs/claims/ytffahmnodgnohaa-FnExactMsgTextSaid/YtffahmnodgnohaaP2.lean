/- Texts of the proof, packed: part 3. -/
import Derived.Test.YtffahmnodgnohaaP1
import Derived.Test.YtffahmnodgnohaaProg
import Derived.Shelf.SlLaysE0
import Derived.Shelf.RegionOpenPlain
import Derived.WalkKit
import Derived.Deep.LoopGhost
import Derived.Lib.Walk
import Derived.Lib.SliceRun
import Derived.Shelf.Lays2
import Derived.Lib.JoinLaws
import Derived.Lib.AppendZeros
import Derived.Lib.Overlaps
import Derived.Laws.Externs
import Derived.Laws.IdiomCopy
import Derived.Laws.CopyRow
import Derived.Maps.AppendAt
import Derived.Shelf.Small.Strs
import Derived.Shelf.Spec.SlicesInsert
import Derived.Shelf.SlicesE.DeleteFunc
import Derived.Shelf.Strings.Builder1
import Derived.IntWalk
import Derived.JoinedOf
import Derived.Test.YtffahmnodgnohaaRows
import Derived.ProofKit
set_option linter.unusedVariables false
set_option linter.unusedSimpArgs false
namespace Go.Proofs.Ytffahmnodgnohaa.Core
open Go
def Ev (p:Nat->Prop):Prop:=∃ m,∀ k,m<=k->p k
theorem Ev.mono {p q:Nat->Prop} (h:Ev p) (f:∀ k,p k->q k):Ev q:=h.elim fun m hm=>⟨m,fun k hk=>f k (hm k hk)⟩
theorem Ev.const {p:Prop} (h:p):Ev fun _=>p:=⟨0,fun _ _=>h⟩
theorem Ev.all {p:Nat->Prop} (h:∀ k,p k):Ev p:=⟨0,fun k _=>h k⟩
theorem Ev.and {p q:Nat->Prop} (h:Ev p) (g:Ev q):Ev fun k=>p k/\q k:=by
 obtain ⟨m,hm⟩:=h
 obtain ⟨n,hn⟩:=g
 exact ⟨max m n,fun k hk=>⟨hm k (by omega),hn k (by omega)⟩⟩
noncomputable def Lm {ρ:Type} (u:Nat->Option ρ):Option ρ :=
 @dite _ (∃ r,Ev fun k=>u k=some r) (Classical.propDecidable _) (fun h=>some (Classical.choose h)) (fun _=>none)
theorem OY {ρ:Type} {u:Nat->Option ρ} {r:ρ} (h:Lm u=some r):Ev fun k=>u k=some r:=by
 unfold Lm at h
 split at h
 ·rename_i hx
  cases h
  exact Classical.choose_spec hx
 ·cases h
theorem Qr {ρ:Type} {u:Nat->Option ρ} {r:ρ} (h:Ev fun k=>u k=some r):Lm u=some r:=by
 have hx:∃ r,Ev fun k=>u k=some r:=⟨r,h⟩
 unfold Lm
 rw [dif_pos hx]
 obtain ⟨m,hm⟩:=(Classical.choose_spec hx).and h
 obtain ⟨a,b⟩:=hm m (Nat.le_refl _)
 rw [<- b,a]
def Conv {ρ:Type} (kn:Nat->St->Option ρ) (kl:St->Option ρ):Prop:=∀ s r,kl s=some r->Ev fun j=>kn j s=some r
theorem Conv.refl {ρ:Type} (kl:St->Option ρ):Conv (fun _=>kl) kl:=fun _ _ h=>.const h
def GW (cal:Nat->By) (c:By):Prop:=∀ f a b r,c f a b=some r->Ev fun j=>cal j f a b=some r
theorem GW.refl (c:By):GW (fun _=>c) c:=fun _ _ _ _ h=>.const h
abbrev Lp (ρ:Type):Type:=((St->Option ρ)->St->Option ρ)->St->Option ρ
def Qs {ρ:Type} (F:Nat->(St->Option ρ)->St->Option ρ) (FL:(St->Option ρ)->St->Option ρ):Prop :=
 ∀ (go:Nat->St->Option ρ) (gl:St->Option ρ),Conv go gl->Conv (fun j=>F j (go j)) (FL gl)
def Qt {ρ:Type} (lp:Nat->Lp ρ) (ll:Lp ρ):Prop:=∀ (F:Nat->(St->Option ρ)->St->Option ρ) (FL:(St->Option ρ)->St->Option ρ),Qs F FL->(∀ j,Qs (fun _=>F j) (F j))->Conv (fun j=>lp j (F j)) (ll FL)
noncomputable def C5 {ρ:Type}:Lp ρ:=fun F s=>Lm fun n=>D0 n F s
theorem Qu {ρ:Type}:Qt (ρ:=ρ) D0 C5:=by
 intro F FL hF _ s r h
 have h:=OY h
 obtain ⟨m,hm⟩:=h
 have key:∀ n,∀ g:Nat->Nat,(∀ j,n<=g j)->Conv (fun j=>D0 (g j) (F j)) (D0 n FL):=by
  intro n
  induction n with
  | zero=>intro g _ s r h; cases h
  | succ n ih =>
   intro g hg s r h
   refine (hF (fun j=>D0 (g j-1) (F j)) (D0 n FL) (ih (fun j=>g j-1) fun j=>by have:=hg j; omega) s r h).mono fun j hj=>?_
   have e:g j=(g j-1)+1:=by have:=hg j; omega
   show D0 (g j) (F j) s=some r
   rw [e]
   exact hj
 obtain ⟨k,hk⟩:=key m (fun j=>max j m) (fun j=>by omega) s r (hm m (Nat.le_refl _))
 refine ⟨max k m,fun j hj=>?_⟩
 have:=hk j (by omega)
 simp only [show max j m=j by omega] at this
 exact this
theorem OZ {ρ:Type} (k:Nat):Qt (ρ:=ρ) (fun _=>D0 k) (D0 k):=by
 intro F FL hF _
 induction k with
 | zero=>intro s r h; cases h
 | succ k ih=>exact hF _ _ ih
theorem Lj {ρ:Type} {F:(St->Option ρ)->St->Option ρ} (hF:Qs (fun _=>F) F) {s:St} {r:ρ} (h:F (C5 F) s=some r):C5 F s=some r:=by
 obtain ⟨m,hm⟩:=hF (fun j=>D0 j F) (C5 F) (fun s r h=>OY h) s r h
 exact Qr ⟨m+1,fun k hk=>by
  cases k with
  | zero=>omega
  | succ k=>exact hm k (by omega)⟩
theorem Oa {ρ:Type}:Qt (ρ:=ρ) (fun _=>C5) C5:=by
 intro F FL hF hs s r h
 obtain ⟨m,hm⟩:=OY h
 have key:∀ n,Conv (fun j=>C5 (F j)) (D0 n FL):=by
  intro n
  induction n with
  | zero=>intro s r h; cases h
  | succ n ih=>intro s r h; exact (hF _ _ ih s r h).mono fun j hj=>Lj (hs j) hj
 exact key m s r (hm m (Nat.le_refl _))
theorem Av {α β:Type} {x:Option α} {f:Nat->α->Option β} {g:α->Option β} (h:∀ a r,g a=some r->Ev fun j=>f j a=some r) (r:β) (hx:x.bind g=some r):Ev fun j=>x.bind (f j)=some r:=by
 cases x with
 | none=>cases hx
 | some a=>exact h a r hx
theorem Lk {ρ:Type} {s:St} {v:AV} {K:Kd} {kn:Nat->List K.T->Option ρ} {kl:List K.T->Option ρ} (hk:∀ a r,kl a=some r->Ev fun j=>kn j a=some r) (r:ρ) (h:s.list v K kl=some r):Ev fun j=>s.list v K (kn j)=some r:=by
 unfold St.list at h ⊢
 split at h
 ·exact hk _ _ h
 ·split at h
  ·rename_i e
   simp only [dif_pos e]
   exact hk _ _ h
  ·cases h
 ·split at h
  ·rename_i e0
   split at h
   ·rename_i e
    simp only [e0,dif_pos e]
    exact hk _ _ h
   ·cases h
  ·rename_i e0
   split at h
   ·rename_i e
    simp only [e0,dif_pos e]
    exact hk _ _ h
   ·cases h
  ·rename_i e0
   split at h
   ·rename_i e
    simp only [e0,dif_pos e]
    exact hk _ _ h
   ·cases h
  ·cases h
 ·cases h
theorem P4 {ρ:Type} {op:BinOp} {x y:AV} {kn:Nat->AV->Option ρ} {kl:AV->Option ρ} (hk:∀ a r,kl a=some r->Ev fun j=>kn j a=some r) (r:ρ) (h:KT op x y kl=some r):Ev fun j=>KT op x y (kn j)=some r:=by
 have e:∀ k:AV->Option ρ,KT op x y k=(KT op x y some).bind k:=by
  intro k
  unfold KT
  repeat' split
  all_goals rfl
 rw [e] at h
 simp only [e (kn _)]
 exact Av hk r h
theorem Qv {ρ:Type} {op:UnOp} {x:AV} {kn:Nat->AV->Option ρ} {kl:AV->Option ρ} (hk:∀ a r,kl a=some r->Ev fun j=>kn j a=some r) (r:ρ) (h:Pe op x kl=some r):Ev fun j=>Pe op x (kn j)=some r:=by
 unfold Pe at h ⊢
 split at h<;>first | exact hk _ _ h | cases h
theorem Ob {α β:Type} {x:Nat->Option α} {xl:Option α} {f:Nat->α->Option β} {g:α->Option β} (hx:∀ a,xl=some a->Ev fun j=>x j=some a) (h:∀ a r,g a=some r->Ev fun j=>f j a=some r) (r:β) (hr:xl.bind g=some r):Ev fun j=>(x j).bind (f j)=some r:=by
 cases xl with
 | none=>cases hr
 | some a=>exact ((hx a rfl).and (h a r hr)).mono fun j hj=>by rw [hj.1]; exact hj.2
theorem SY {ρ:Type} {cal:Nat->By} {c:By} {d z:Nat} {x:At} {lo hi:Option At} {kn:Nat->St->Option ρ} {kl:St->Option ρ} (hk:Conv kn kl) (s:St) (r:ρ) (h:BQ c kl s (.sl d z x lo hi)=some r):Ev fun j=>BQ (cal j) (kn j) s (.sl d z x lo hi)=some r:=by
 simp only [BQ] at h ⊢
 split at h
 ·split at h
  ·rename_i ez
   split at h
   ·split at h
    ·rename_i g1
     split at h
     ·rename_i g2
      split at h
      ·rename_i g3
       simp only [if_pos ez,if_pos g1,if_pos g2,if_pos g3]
       exact hk _ _ h
      ·cases h
     ·cases h
    ·cases h
   ·cases h
  ·cases h
 ·split at h
  ·rename_i ez
   split at h
   ·split at h
    ·rename_i g1
     split at h
     ·rename_i g2
      split at h
      ·rename_i g3
       simp only [if_pos ez,if_pos g1,if_pos g2,if_pos g3]
       exact hk _ _ h
      ·cases h
     ·cases h
    ·cases h
   ·cases h
  ·cases h
 ·cases h
mutual
theorem Ll {ρ:Type} {cal:Nat->By} {c:By} (hc:GW cal c):∀ (ao:Bo) {kn:Nat->St->Option ρ} {kl:St->Option ρ},Conv kn kl->∀ s r,BQ c kl s ao=some r->Ev fun j=>BQ (cal j) (kn j) s ao=some r
 | .mv d x,kn,kl,hk,s,r,h=>hk _ _ h
 | .nilrow d t K,kn,kl,hk,s,r,h=>hk _ _ h
 | .pick d c a b,kn,kl,hk,s,r,h=>by
  simp only [BQ] at h ⊢
  split at h
  ·split at h<;>rename_i e<;>simp only [e,if_true,if_false,Bool.false_eq_true]<;>exact hk _ _ h
  ·cases h
 | .sc c want ops d a b,kn,kl,hk,s,r,h=>by
  simp only [BQ] at h ⊢
  split at h
  ·split at h
   ·rename_i e
    simp only [e,if_true]
    exact Ng hc ops (kn:=fun j s'=>kn j (s'.put d (if want then s'.opd a else s'.opd b))) (kl:=fun s'=>kl (s'.put d (if want then s'.opd a else s'.opd b))) (fun s r h=>hk _ _ h) s r h
   ·rename_i e
    simp only [if_neg e]
    exact hk _ _ h
  ·cases h
 | .alloc d cs,kn,kl,hk,s,r,h=>hk _ _ h
 | .box d x own,kn,kl,hk,s,r,h=>by
  simp only [BQ] at h ⊢
  exact Av (fun a r h=>hk _ _ h) r h
 | .build d zero parts,kn,kl,hk,s,r,h=>by
  simp only [BQ] at h ⊢
  exact Av (fun a r h=>hk _ _ h) r h
 | .bnew d zero parts,kn,kl,hk,s,r,h=>by
  simp only [BQ] at h ⊢
  exact Av (fun a r h=>hk _ _ h) r h
 | .brow d t K parts,kn,kl,hk,s,r,h=>by
  simp only [BQ] at h ⊢
  exact Av (fun a r h=>Av (fun a r h=>hk _ _ h) r h) r h
 | .blst d K parts,kn,kl,hk,s,r,h=>by
  simp only [BQ] at h ⊢
  exact Av (fun a r h=>Av (fun a r h=>hk _ _ h) r h) r h
 | .load d x n,kn,kl,hk,s,r,h=>by
  simp only [BQ] at h ⊢
  refine Av (fun a r h=>?_) r h
  split at h
  ·rename_i e
   simp only [if_pos e]
   exact hk _ _ h
  ·cases h
 | .store x y m own,kn,kl,hk,s,r,h=>by
  simp only [BQ] at h ⊢
  split at h
  ·rename_i e
   simp only [if_pos e]
   exact Av (fun a r h=>hk _ _ h) r h
  ·cases h
 | .nilc d x,kn,kl,hk,s,r,h=>by
  simp only [BQ] at h ⊢
  split at h<;>first | exact hk _ _ h | cases h
 | .bin d op x y,kn,kl,hk,s,r,h=>by
  simp only [BQ] at h ⊢
  exact P4 (fun a r h=>hk _ _ h) r h
 | .eqs d neg K x y,kn,kl,hk,s,r,h=>by
  simp only [BQ] at h ⊢
  exact Av (fun a r h=>Av (fun a r h=>hk _ _ h) r h) r h
 | .un d op x,kn,kl,hk,s,r,h=>by
  simp only [BQ] at h ⊢
  exact Qv (fun a r h=>hk _ _ h) r h
 | .cvi d k x,kn,kl,hk,s,r,h=>by
  simp only [BQ] at h ⊢
  split at h<;>first | exact hk _ _ h | cases h
 | .bts d x,kn,kl,hk,s,r,h=>by
  simp only [BQ] at h ⊢
  exact Lk (fun a r h=>hk _ _ h) r h
 | .fld d x off,kn,kl,hk,s,r,h=>by
  simp only [BQ] at h ⊢
  split at h<;>first | exact hk _ _ h | cases h
 | .field d x off n,kn,kl,hk,s,r,h=>by
  simp only [BQ] at h ⊢
  split at h
  ·split at h
   ·rename_i e
    simp only [if_pos e]
    exact hk _ _ h
   ·cases h
  ·cases h
 | .idx d z x i,kn,kl,hk,s,r,h=>by
  have e:∀ k:St->Option ρ,BQ (cal 0) k s (.idx d z x i)=(BQ (cal 0) some s (.idx d z x i)).bind k:=by
   intro k
   simp only [BQ]
   repeat' split
   all_goals rfl
  have e2:∀ k:St->Option ρ,∀ c:By,BQ c k s (.idx d z x i)=BQ (cal 0) k s (.idx d z x i):=fun k c=>by simp only [BQ]
  rw [e2,e] at h
  simp only [e2 (kn _),e (kn _)]
  exact Av (fun a r h=>hk _ _ h) r h
 | .aidx d n x i,kn,kl,hk,s,r,h=>by
  simp only [BQ] at h ⊢
  split at h
  ·refine Av (fun xs r h=>?_) r h
   split at h
   ·rename_i e1
    split at h
    ·rename_i e2
     split at h
     ·rename_i e3
      simp only [if_pos e1,if_pos e2,if_pos e3]
      exact hk _ _ h
     ·cases h
    ·cases h
   ·cases h
  ·cases h
 | .sidx d x i,kn,kl,hk,s,r,h=>by
  have e:∀ k:St->Option ρ,BQ (cal 0) k s (.sidx d x i)=(BQ (cal 0) some s (.sidx d x i)).bind k:=by
   intro k
   simp only [BQ]
   repeat' split
   all_goals rfl
  have e2:∀ k:St->Option ρ,∀ c:By,BQ c k s (.sidx d x i)=BQ (cal 0) k s (.sidx d x i):=fun k c=>by simp only [BQ]
  rw [e2,e] at h
  simp only [e2 (kn _),e (kn _)]
  exact Av (fun a r h=>hk _ _ h) r h
 | .sl d z x lo hi,kn,kl,hk,s,r,h=>SY hk s r h
 | .mk d t K n,kn,kl,hk,s,r,h=>by
  have e:∀ k:St->Option ρ,BQ (cal 0) k s (.mk d t K n)=(BQ (cal 0) some s (.mk d t K n)).bind k:=by
   intro k
   simp only [BQ]
   repeat' split
   all_goals rfl
  have e2:∀ k:St->Option ρ,∀ c:By,BQ c k s (.mk d t K n)=BQ (cal 0) k s (.mk d t K n):=fun k c=>by simp only [BQ]
  rw [e2,e] at h
  simp only [e2 (kn _),e (kn _)]
  exact Av (fun a r h=>hk _ _ h) r h
 | .fn d f caps,kn,kl,hk,s,r,h=>hk _ _ h
 | .clo d f K x,kn,kl,hk,s,r,h=>by
  simp only [BQ] at h ⊢
  split at h
  ·exact Av (fun a r h=>hk _ _ h) r h
  ·cases h
 | .fbox d x,kn,kl,hk,s,r,h=>by
  simp only [BQ] at h ⊢
  exact Av (fun a r h=>hk _ _ h) r h
 | .min d x y,kn,kl,hk,s,r,h=>by
  simp only [BQ] at h ⊢
  split at h
  ·split at h
   ·rename_i e
    simp only [if_pos e]
    exact hk _ _ h
   ·cases h
  ·cases h
 | .app d e K a b,kn,kl,hk,s,r,h=>by
  simp only [BQ] at h ⊢
  split at h
  ·split at h
   ·rename_i e1
    split at h
    ·rename_i e2
     split at h
     ·rename_i e3
      simp only [e1,dif_pos e2,if_pos e3]
      refine Lk (fun a r h=>?_) r h
      split at h
      ·rename_i e4
       simp only [if_pos e4]
       exact hk _ _ h
      ·cases h
     ·cases h
    ·cases h
   ·cases h
  ·cases h
 | .apz d e K a b,kn,kl,hk,s,r,h=>by
  simp only [BQ] at h ⊢
  split at h
  ·split at h
   ·rename_i e1
    split at h
    ·rename_i e2
     split at h
     ·rename_i e3
      simp only [e1,dif_pos e2,if_pos e3]
      refine Lk (fun a r h=>?_) r h
      split at h
      ·rename_i e4
       simp only [if_pos e4]
       exact hk _ _ h
      ·cases h
     ·cases h
    ·cases h
   ·cases h
  ·cases h
 | .len d t x,kn,kl,hk,s,r,h=>by
  have e:∀ k:St->Option ρ,BQ (cal 0) k s (.len d t x)=(BQ (cal 0) some s (.len d t x)).bind k:=by
   intro k
   simp only [BQ]
   repeat' split
   all_goals rfl
  have e2:∀ k:St->Option ρ,∀ c:By,BQ c k s (.len d t x)=BQ (cal 0) k s (.len d t x):=fun k c=>by simp only [BQ]
  rw [e2,e] at h
  simp only [e2 (kn _),e (kn _)]
  exact Av (fun a r h=>hk _ _ h) r h
 | .call d f args res,kn,kl,hk,s,r,h=>by
  simp only [BQ] at h ⊢
  refine Av (fun q r h=>Av (fun bx r h=>?_) r h) r h
  split at h
  ·rename_i e
   simp only [if_pos e]
   refine Ob (fun a ha=>?_) (fun y r h=>?_) r h
   ·exact Ob (f:=fun _=>BV _) (g:=BV _) (fun a ha=>hc _ _ _ _ ha) (fun y r h=>.const h) a ha
   ·split at h
    ·rename_i e
     simp only [if_pos e]
     exact hk _ _ h
    ·cases h
  ·cases h
 | .bld d k f t x y,kn,kl,hk,s,r,h=>by
  simp only [BQ] at h ⊢
  split at h
  ·rename_i id e1
   split at h
   ·rename_i T j e2
    split at h
    ·rename_i t' xs e3
     split at h
     ·rename_i e4
      cases e5:c (Bl+f) [.int .i64 k,.int .i64 t,.int .i64 T] [] with
      | none=>rw [e5] at h; cases h
      | some q =>
       have hq:=hc _ _ _ _ e5
       rw [e5,O] at h
       cases e8:BV [] q with
       | none=>rw [e8] at h; cases h
       | some u =>
        rw [e8,O] at h
        split at h
        ·rename_i e6
         split at h
         ·rename_i e7
          refine (hq.and (hk _ _ h)).mono fun j hj=>?_
          simp only [e2,e3,if_pos e4,hj.1,O,e8,if_pos e6,if_pos e7]
          exact hj.2
         ·cases h
        ·rename_i e6
         cases ha:RD k (s.opd y) with
         | none=>rw [ha] at h; cases h
         | some ys =>
          rw [ha,O] at h
          split at h
          ·rename_i e7
           refine (hq.and (hk _ _ h)).mono fun j hj=>?_
           simp only [e2,e3,if_pos e4,hj.1,O,e8,if_neg e6,ha,if_pos e7]
           exact hj.2
          ·cases h
     ·cases h
    ·cases h
   ·cases h
  ·cases h
 | .ext d x i,kn,kl,hk,s,r,h=>by
  simp only [BQ] at h ⊢
  split at h
  ·split at h
   ·rename_i e
    simp only [if_pos e]
    exact hk _ _ h
   ·cases h
  ·cases h
theorem Ng {ρ:Type} {cal:Nat->By} {c:By} (hc:GW cal c):∀ (aos:List Bo) {kn:Nat->St->Option ρ} {kl:St->Option ρ},Conv kn kl->∀ s r,JU c kl s aos=some r->Ev fun j=>JU (cal j) (kn j) s aos=some r
 | [],kn,kl,hk,s,r,h=>by simp only [JU] at h ⊢; exact hk _ _ h
 | o::os,kn,kl,hk,s,r,h=>by
  simp only [JU] at h ⊢
  exact Ll hc o (fun s r h=>Ng hc os hk s r h) s r h
end
theorem HA {ρ:Type} {cal:Nat->By} {c:By} (hc:GW cal c) (anc:List (List Nat)) {kn:Nat->St->Option ρ} {kl:St->Option ρ} (hk:Conv kn kl):∀ (t:DT) (T:List (Nat×Nat)) s r,dK c anc kl t T s=some r->Ev fun j=>dK (cal j) anc (kn j) t T s=some r
 | .done,T,s,r,h=>hk _ _ h
 | .take i g ao d,T,s,r,h=>by
  simp only [dK] at h ⊢
  split at h
  ·rename_i e
   simp only [if_pos e]
   exact Ll hc ao (fun s r h=>HA hc anc hk d _ s r h) s r h
  ·cases h
 | .skip i g d t,T,s,r,h=>by
  simp only [dK] at h ⊢
  split at h
  ·rename_i e
   simp only [if_pos e]
   exact HA hc anc hk t _ _ r h
  ·cases h
 | .only i g ao e fl d,T,s,r,h=>by
  simp only [dK] at h ⊢
  split at h
  ·rename_i e
   simp only [if_pos e]
   exact Ll hc ao (fun s r h=>HA hc anc hk d _ s r h) s r h
  ·cases h
 | .test c a b,T,s,r,h=>by
  simp only [dK] at h ⊢
  split at h
  ·split at h
   ·rename_i e
    simp only [if_pos e]
    exact HA hc anc hk a _ _ r h
   ·rename_i e
    simp only [if_neg e]
    exact HA hc anc hk b _ _ r h
  ·cases h
 | .fork i ai ri j aj rj,T,s,r,h=>by
  simp only [dK] at h ⊢
  obtain ⟨ha,hb⟩:=JV.1 h
  have ea:Ev fun n=>(if (CT ai.dsts T&&GI (anc.getD i []) (ai.touch s) s T)=true then BQ (cal n) (fun s'=>dK (cal n) anc (kn n) ri (CG (anc.getD i []) T) s') s ai else none)=some r:=by
   split at ha
   ·rename_i e
    simp only [if_pos e]
    exact Ll hc ai (fun s r h=>HA hc anc hk ri _ s r h) s r ha
   ·cases ha
  have eb:Ev fun n=>(if (CT aj.dsts T&&GI (anc.getD j []) (aj.touch s) s T)=true then BQ (cal n) (fun s'=>dK (cal n) anc (kn n) rj (CG (anc.getD j []) T) s') s aj else none)=some r:=by
   split at hb
   ·rename_i e
    simp only [if_pos e]
    exact Ll hc aj (fun s r h=>HA hc anc hk rj _ s r h) s r hb
   ·cases hb
  exact (ea.and eb).mono fun n h=>JV.2 h
noncomputable def CA {ρ:Type} (cal:By) (lp:Lp ρ):Ae->(kn kr:St->Option ρ)->(ke:Nat->St->Option ρ)->St->Option ρ
 | .skip,kn,_,_,s=>kn s
 | .region ops live,kn,_,_,s=>JU cal (fun s'=>kn ⟨live.map fun t=>(t,Bm s'.fr t),s'.st⟩) s ops
 | .draw anc t live,kn,_,_,s=>dK cal anc (fun s'=>kn ⟨live.map fun t=>(t,Bm s'.fr t),s'.st⟩) t [] s
 | .seqc live a b,kn,kr,ke,s=>CA cal lp a (fun s'=>CA cal lp b kn kr ke (s'.cutH (BC s live) live s.st.length)) kr ke s
 | .seq a b,kn,kr,ke,s=>CA cal lp a (fun s'=>CA cal lp b kn kr ke s') kr ke s
 | .cond c a b,kn,kr,ke,s=>match s.opd c with
  | .bool t=>if t=true then CA cal lp a kn kr ke s else CA cal lp b kn kr ke s
  | _=>none
 | .block id live body,kn,kr,ke,s=>CA cal lp body (fun s'=>kn (s'.cutH (BC s live) live s.st.length)) kr (fun i s'=>if i=id then kn (s'.cutH (BC s live) live s.st.length) else ke i s') s
 | .loop live body,_,kr,ke,s=>lp (fun go s'=>CA cal lp body (fun s''=>go (s''.cutH (BC s live) live s.st.length)) kr ke s') (s.cut live s.st.length)
 | .exit id,_,_,ke,s=>ke id s
 | .ret,_,kr,_,s=>kr s
theorem EC {ρ:Type} (cal:By) (k:Nat):∀ (a:Ae) (kn kr:St->Option ρ) (ke:Nat->St->Option ρ) (s:St),CD cal k a kn kr ke s=CA cal (D0 k) a kn kr ke s
 | .skip,_,_,_,_=>rfl
 | .region ..,_,_,_,_=>rfl
 | .draw ..,_,_,_,_=>rfl
 | .seqc live a b,kn,kr,ke,s=>by simp only [CD,CA,EC cal k a,EC cal k b]
 | .seq a b,kn,kr,ke,s=>by simp only [CD,CA,EC cal k a,EC cal k b]
 | .cond c a b,kn,kr,ke,s=>by
  simp only [CD,CA,EC cal k a,EC cal k b]
  cases s.opd c<;>rfl
 | .block id live a,kn,kr,ke,s=>by simp only [CD,CA,EC cal k a]
 | .loop live a,kn,kr,ke,s=>by simp only [CD,CA,EC cal k a]
 | .exit _,_,_,_,_=>rfl
 | .ret,_,_,_,_=>rfl
theorem Ch {ρ:Type}:∀ (a:Ae) {cal:Nat->By} {c:By} {lp:Nat->Lp ρ} {ll:Lp ρ} {kn kr:Nat->St->Option ρ} {kl krl:St->Option ρ} {ke:Nat->Nat->St->Option ρ} {kel:Nat->St->Option ρ},GW cal c->Qt lp ll->(∀ j,Qt (fun _=>lp j) (lp j)) ->
  Conv kn kl->Conv kr krl->(∀ i,Conv (fun j=>ke j i) (kel i))->Conv (fun j=>CA (cal j) (lp j) a (kn j) (kr j) (ke j)) (CA c ll a kl krl kel)
 | .skip,_,_,_,_,_,_,_,_,_,_,hc,hl,hl',hk,hr,he=>hk
 | .region ops live,_,_,_,_,_,_,_,_,_,_,hc,hl,hl',hk,hr,he=>fun s r h=>Ng hc ops (fun s r h=>hk _ r h) s r h
 | .draw anc t live,_,_,_,_,_,_,_,_,_,_,hc,hl,hl',hk,hr,he=>fun s r h=>HA hc anc (fun s r h=>hk _ r h) t [] s r h
 | .seqc live a b,_,_,_,_,_,_,_,_,_,_,hc,hl,hl',hk,hr,he=>fun s r h=>Ch a hc hl hl' (fun s' r h=>Ch b hc hl hl' hk hr he _ r h) hr he s r h
 | .seq a b,_,_,_,_,_,_,_,_,_,_,hc,hl,hl',hk,hr,he=>fun s r h=>Ch a hc hl hl' (fun s' r h=>Ch b hc hl hl' hk hr he _ r h) hr he s r h
 | .cond c a b,_,_,_,_,_,_,_,_,_,_,hc,hl,hl',hk,hr,he=>fun s r h=>by
  simp only [CA] at h ⊢
  split at h
  ·split at h
   ·rename_i e
    simp only [if_pos e]
    exact Ch a hc hl hl' hk hr he s r h
   ·rename_i e
    simp only [if_neg e]
    exact Ch b hc hl hl' hk hr he s r h
  ·cases h
 | .block id live a,_,_,_,_,_,_,_,_,_,_,hc,hl,hl',hk,hr,he=>fun s r h=>by
  simp only [CA] at h ⊢
  refine Ch a hc hl hl' (fun s r h=>hk _ r h) hr (fun i s' r h=>?_) s r h
  split at h
  ·rename_i e
   simp only [if_pos e]
   exact hk _ r h
  ·rename_i e
   simp only [if_neg e]
   exact he i _ r h
 | .loop live a,cal,c,lp,ll,kn,kr,kl,krl,ke,kel,hc,hl,hl',hk,hr,he=>fun s r h=>by
  simp only [CA] at h ⊢
  refine hl _ _ (fun go gl hgo s' r h=>?_) (fun j go gl hgo s' r h=>?_) _ r h
  ·exact Ch a hc hl hl' (fun s r h=>hgo _ r h) hr he s' r h
  ·exact Ch (cal:=fun _=>cal j) (lp:=fun _=>lp j) (kn:=fun i s'=>go i (s'.cutH (BC s live) live s.st.length)) (kl:=fun s'=>gl (s'.cutH (BC s live) live s.st.length)) (kr:=fun _=>kr j) (krl:=kr j) (ke:=fun _=>ke j) (kel:=ke j) a (GW.refl _) (hl' j) (fun _=>hl' j) (fun s r h=>hgo _ r h) (Conv.refl _) (fun i=>Conv.refl _) s' r h
 | .exit id,_,_,_,_,_,_,_,_,_,_,hc,hl,hl',hk,hr,he=>fun s r h=>he id s r h
 | .ret,_,_,_,_,_,_,_,_,_,_,hc,hl,hl',hk,hr,he=>hr
theorem P5 {ρ:Type} {cal:By} {a:Ae} {hs:List (Nat×Nat)} {live:List Nat} {n:Nat} {kr:St->Option ρ} {ke:Nat->St->Option ρ} {s:St} {r:ρ}
  (h:CA cal C5 a (fun s''=>C5 (fun go s'=>CA cal C5 a (fun s''=>go (s''.cutH hs live n)) kr ke s') (s''.cutH hs live n)) kr ke s=some r) :
  C5 (fun go s'=>CA cal C5 a (fun s''=>go (s''.cutH hs live n)) kr ke s') s=some r :=
 Lj (F:=fun go s'=>CA cal C5 a (fun s''=>go (s''.cutH hs live n)) kr ke s') (fun go gl hgo s' r h=>Ch (cal:=fun _=>cal) (lp:=fun _=>C5) (kn:=fun i s'=>go i (s'.cutH hs live n)) (kl:=fun s'=>gl (s'.cutH hs live n)) (kr:=fun _=>kr) (krl:=kr) (ke:=fun _=>ke) (kel:=ke) a (GW.refl _) Oa (fun _=>Oa) (fun s r h=>hgo _ r h) (Conv.refl _) (fun i=>Conv.refl _) s' r h) h
noncomputable def Qw (cal:By) (fn:CN) (args bs:List AV):Option (RT fn.outs) :=
 CA cal C5 fn.body (Aq fn) (Aq fn) (fun _ _=>none) ⟨EA 0 (Az (Bf bs) args),AW bs args⟩
noncomputable def Nh (Ho:Nat->Option CN) (Bs:By):By:=fun f a b=>Lm fun k=>IQ Ho Bs k f a b
theorem Jo {Ho:Nat->Option CN} {Bs:By} {f:Nat} {args bs r:List AV} (hf:Ho f=none) (h:Bs f args bs=some r):Nh Ho Bs f args bs=some r:=by
 refine Qr ⟨1,fun k hk=>?_⟩
 cases k with
 | zero=>omega
 | succ k=>simp only [IQ,hf,h]
theorem P6 {Ho:Nat->Option CN} {Bs:By} {f:Nat} {fn:CN} {args bs:List AV} {r:RT fn.outs} (hf:Ho f=some fn) (hl:args.length=fn.params.length/\bs.length=(BG fn.params 0).length)
  (h:Qw (Nh Ho Bs) fn args bs=some r):Nh Ho Bs f args bs=some (BA fn.outs r):=by
 have hc:GW (fun k=>IQ Ho Bs k) (Nh Ho Bs):=fun f a b r h=>OY h
 obtain ⟨m,hm⟩:=Ch (lp:=D0) (ll:=C5) fn.body (kn:=fun _=>Aq fn) (kr:=fun _=>Aq fn) (ke:=fun _ _ _=>none) hc Qu OZ (Conv.refl _) (Conv.refl _) (fun i=>Conv.refl _) _ r h
 refine Qr ⟨m+1,fun k hk=>?_⟩
 cases k with
 | zero=>omega
 | succ k =>
  simp only [IQ,hf,if_pos hl]
  have:=hm k (by omega)
  simp only [<- EC] at this
  unfold PE
  rw [this]
  rfl
theorem Et:∀ (K:Kd) (x:K.T) (r:List AV),K.dec (K.enc x++r)=some (x,r)
 | .int k,x,r=>by simp [Kd.enc,Kd.dec]
 | .bool,x,r=>rfl
 | .str,x,r=>rfl
 | .slice e,x,r=>by simp [Kd.enc,Kd.dec]
 | .pair a b,x,r=>by simp [Kd.enc,Kd.dec,Ap,Et a,Et b]
 | .own t e,x,r=>by simp [Kd.enc,Kd.dec]
 | .ref K,x,r=>by
  have:=Et K x []
  rw [List.append_nil] at this
  simp [Kd.enc,Kd.dec,this]
 | .fun f,x,r=>by simp [Kd.enc,Kd.dec]
 | .clo f K,x,r=>by simp [Kd.enc,Kd.dec]
theorem Ln (K:Kd) (x:K.T):K.of (K.av x)=some x:=by
 have h:K.ofCells (K.enc x)=some x:=by
  have:=Et K x []
  rw [List.append_nil] at this
  simp [Kd.ofCells,this]
 unfold Kd.of
 cases K<;>exact h
theorem Lo:∀ (Ks:List Kd) (x:RT Ks),BV Ks (BA Ks x)=some x
 | [],_=>rfl
 | [K],x=>Ln K x
 | K::L::Ks,x=>by
  simp only [BA,BV,Ln,O]
  rw [Lo (L::Ks) x.2]
  rfl
theorem O6 {Ho:Nat->Option CN} {Bs:By} {f:Nat} {fn:CN} {args bs:List AV} {r:RT fn.outs} (hf:Ho f=some fn) (hl:args.length=fn.params.length/\bs.length=(BG fn.params 0).length)
  (h:Qw (Nh Ho Bs) fn args bs=some r):(Nh Ho Bs f args bs).bind (BV fn.outs)=some r:=by
 rw [P6 hf hl h,O,Lo]
theorem Qx {P:Program} {Ho:Nat->Option CN} {Bs:By} (ht:Qo P Ho) (hp:Cg P Bs) {f:Nat} {args:List AV} (h:(Nh Ho Bs f args []).bind (BV [.bool])=some true) {W:World} {cargs:List Value}
  (ha:AG (VE (Hu W)) args cargs) (hlt:f<Bl:=by decide):Calls P f cargs.toArray W fun e W'=>e=.returned (.bool true)/\RowKit.Below W.heap.size W W':=by
 cases hq:Nh Ho Bs f args [] with
 | none=>rw [hq] at h; cases h
 | some v =>
  rw [hq,O] at h
  obtain ⟨m,hm⟩:=OY hq
  have hm:=hm m (Nat.le_refl _)
  have e:v=[.bool true]:=by
   match v,h with
   | [a],h =>
    have h:Kd.of .bool a=some true:=h
    unfold Kd.of Kd.ofCells at h
    cases a<;>simp [AV.cells,Kd.dec,AV.fits] at h<;>first | rw [h] | skip
  subst e
  exact P3 ht hp hm ha hlt
def Ru (f:Nat):List (Nat×CN)->Option CN
 | []=>none
 | (g,a)::r=>if g=f then some a else Ru f r
inductive PY (P:Program):List (Nat×CN)->Prop where
 | nil:PY P []
 | cons {f:Nat} {a:CN} {r:List (Nat×CN)} (h:Cc P f a=true) (t:PY P r):PY P ((f,a)::r)
theorem P7 {P:Program} {tab:List (Nat×CN)} (h:PY P tab):Qo P fun f=>Ru f tab:=by
 intro f a hf
 induction h with
 | nil=>cases hf
 | cons h _ ih =>
  simp only [Ru] at hf
  split at hf
  ·rename_i e
   cases hf
   rw [<- e]
   exact h
  ·exact ih hf
end Go.Proofs.Ytffahmnodgnohaa.Core

namespace Go.Proofs.Ytffahmnodgnohaa.Core
open Go IntKind
set_option maxRecDepth 100000
noncomputable section
abbrev TL:Kd:=(.pair (.int .i64) (.pair (.int .i64) (.pair (.int .i64) (.pair (.int .i64) (.pair (.int .i64) .str)))))
abbrev TM:Type:=Int×Int×Int×Int×Int×ByteArray
abbrev AO:Kd:=(.pair .str (.pair .str (.int .i64)))
abbrev Aj:Type:=ByteArray×ByteArray×Int
abbrev Ao:Kd:=(.pair (.int .i64) (.pair (.int .i64) (.pair (.int .i64) (.pair (.int .i64) (.pair (.int .i64) (.slice AO))))))
abbrev A7:Type:=Int×Int×Int×Int×Int×List Aj
def Ni:Nat×List PK×List Kd:=(12,[.bor Ao,.val (.int .i64)],[(.int .i64)])
def Lq:Nat×List PK×List Kd:=(13,[.bor Ao],[.str,.bool])
def GX:Nat×List PK×List Kd:=(14,[.val Ao],[Ao])
def Lr:Nat×List PK×List Kd:=(15,[.bor Ao],[.str,.bool])
def Nj:Nat×List PK×List Kd:=(16,[.bor Ao,.bor Ao],[.bool])
def Nk:Nat×List PK×List Kd:=(23,[.bor Ao],[.bool])
def Nl:Nat×List PK×List Kd:=(24,[.bor Ao],[.bool])
def Ls:Nat×List PK×List Kd:=(56,[.bor (.slice AO),.val (.int .i64)],[(.int .i64)])
def DJ:Nat×List PK×List Kd:=(57,[.val (.int .i64)],[.str])
def Do:Nat×List PK×List Kd:=(58,[.val (.int .i64)],[.str])
def Gj:Nat×List PK×List Kd:=(59,[.val .str],[.str])
def Mi:Nat×List PK×List Kd:=(60,[.val .str],[.str,.bool])
def Lt:Nat×List PK×List Kd:=(61,[.bor (.slice AO)],[(.own 49 AO)])
def Ci:Nat×List PK×List Kd:=(64,[.val (.int .i64)],[.str])
def Mj:Nat×List PK×List Kd:=(65,[.val .str],[.str,.bool])
def Lu:Nat×List PK×List Kd:=(67,[.bor (.slice AO),.bor (.slice AO)],[.bool])
def CL:Nat×List PK×List Kd:=(80,[.val (.int .i64),.val (.int .i64),.val (.int .i64)],[.bool])
def Lv:Nat×List PK×List Kd:=(81,[.bor (.slice AO)],[.bool])
def CB:Nat×List PK×List Kd:=(82,[.val (.int .i64),.val (.int .i64),.val (.int .i64)],[.bool])
def Hv:Nat×List PK×List Kd:=(83,[.val (.int .i64)],[.bool])
def Lw:Nat×List PK×List Kd:=(84,[.bor (.slice AO)],[.bool])
def Mk:Nat×List PK×List Kd:=(131,[.val AO,.val (.int .i64)],[(.int .i64)])
def Lx:Nat×List PK×List Kd:=(132,[.val (.int .u32)],[.str])
def Nm:Nat×List PK×List Kd:=(133,[.val .str],[(.int .u32)])
def Ml:Nat×List PK×List Kd:=(134,[.val AO],[AO])
def Ly:Nat×List PK×List Kd:=(136,[.val .str],[.str])
def Mm:Nat×List PK×List Kd:=(137,[.val AO,.val AO],[.bool])
def Nn:Nat×List PK×List Kd:=(145,[.val .str],[.bool])
def Lz:Nat×List PK×List Kd:=(161,[.val (.int .u32),.val .str],[(.int .u32)])
def No:Nat×List PK×List Kd:=(163,[.val .str],[(.int .u32)])
def L0:Nat×List PK×List Kd:=(177,[.val (.int .u32),.val .str],[(.int .u32)])
abbrev Ta { ρ:Type} (t W:Option ρ):Prop:=∀ { r},t=some r->W=some r
abbrev Md {A0 ρ:Type} (t W:A0->Option ρ):Prop:=∀ {a0 r},t a0=some r->W a0=some r
abbrev On {A0 A1 ρ:Type} (t W:A0->A1->Option ρ):Prop:=∀ {a0 a1 r},t a0 a1=some r->W a0 a1=some r
abbrev Qy {A0 A1 A2 ρ:Type} (t W:A0->A1->A2->Option ρ):Prop:=∀ {a0 a1 a2 r},t a0 a1 a2=some r->W a0 a1 a2=some r
abbrev TN {A0 A1 A2 A3 ρ:Type} (t W:A0->A1->A2->A3->Option ρ):Prop:=∀ {a0 a1 a2 a3 r},t a0 a1 a2 a3=some r->W a0 a1 a2 a3=some r
abbrev TV {A0 A1 A2 A3 A4 ρ:Type} (t W:A0->A1->A2->A3->A4->Option ρ):Prop:=∀ {a0 a1 a2 a3 a4 r},t a0 a1 a2 a3 a4=some r->W a0 a1 a2 a3 a4=some r
abbrev TW {A0 A1 A2 A3 A4 A5 A6 ρ:Type} (t W:A0->A1->A2->A3->A4->A5->A6->Option ρ):Prop:=∀ {a0 a1 a2 a3 a4 a5 a6 r},t a0 a1 a2 a3 a4 a5 a6=some r->W a0 a1 a2 a3 a4 a5 a6=some r

def C6:Ae:=(.seq (.seq (.draw (R4 5 [(1,[]),(3,[0,2])]) (.tk 2 [.ls 36 1 6,.ls 35 6 6] (.only 2 none (.cl 37 [36] GX) false [] (.only 3 none (.cl 38 [35,37] Nj) false [] (.tk 5 [.un 39 .not (.t 38)] .done)))) [39]) (.cond (.t 39) (.seq (.region [.mv 2 (.c (.bool false))] [2]) .ret) .skip)) (.seq (.region [.mv 2 (.c (.bool true))] [2]) .ret))
def Au:CN:=⟨[.val Ao],[⟨2,false,.bool⟩],(.seq (.region [.box 1 (.t 0) false,.mv 2 (.c (.bool false))] [1]) (.seq (.region [.mv 3 (.i 1048576)] [1,3]) (.seq (.region [.ls 9 1 6,.m 10 3,.cl 11 [9,10] Ni,.m 3 11] [1,3]) (.seq (.seq (.region [.m 12 3,.bin 13 .lss (.t 12) (.i 0)] [1,13]) (.cond (.t 13) (.seq (.region [.mv 2 (.c (.bool true))] [2]) .ret) .skip)) (.seq (.region [.ls 15 1 6,.cl 16 [15] GX,.cl 17 [16] Lq,.m 14 17,.ext 18 (.t 14) 0,.ext 19 (.t 14) 1,.m 4 18,.m 5 19] [1,4,5]) (.seq (.region [.ls 20 1 6,.cl 21 [20] GX,.al 6 Ao,.store (.t 6) (.t 21) 6 false] [1,4,5,6]) (.seq (.region [.ls 23 6 6,.cl 24 [23] Lr,.m 22 24,.ext 25 (.t 22) 0,.ext 26 (.t 22) 1,.m 7 25,.m 8 26] [1,4,5,6,7,8]) (.seq (.seq (.region [.m 27 7,.m 28 4,.b 29 .neq 27 28,.m 30 29,.sc 30 false [.m 31 8,.m 32 5,.eqs 33 true .bool (.t 31) (.t 32)] 34 (.c (.bool true)) (.t 33)] [1,6,34]) (.cond (.t 34) (.seq (.region [.mv 2 (.c (.bool false))] [2]) .ret) .skip)) C6))))))))⟩
theorem Gv:Cc Try.prog 3 Au=true:=by kernel_rfl
def ED:CN:=⟨[.val Ao,.val (.int .i64)],[⟨4,false,(.int .i64)⟩],(.seq (.region [.box 2 (.t 0) false,.mv 4 (.i 0)] [1,2]) (.seq (.region [.f 5 2 5,.l 6 5,.m 7 1,.cl 8 [6,7] Ls,.m 1 8] [1]) (.seq (.seq (.region [.m 9 1,.bin 10 .lss (.t 9) (.i 0)] [1,10]) (.cond (.t 10) (.seq (.region [.mv 4 (.c (.int .i64 (-1)))] [4]) .ret) .skip)) (.seq (.region [.m 11 1,.m 4 11] [4]) .ret))))⟩
theorem Np:Cc Try.prog 12 ED=true:=by kernel_rfl
def Fz:Ae:=(.seq (.seq (.region [.m 33 5,.f 34 1 5,.l 35 34,.len 36 false (.t 35),.b 37 .lss 33 36] [1,4,5,37]) (.cond (.t 37) .skip (.exit 0))) (.seq (.block 1 [1,4,5] (.draw (R4 26 [(1,[]),(3,[]),(4,[2,3]),(8,[0,7]),(9,[]),(11,[]),(12,[10,11]),(15,[7,14]),(16,[8,15]),(17,[]),(19,[]),(20,[18,19]),(23,[15,22]),(24,[16,23])]) (.tk 7 [.l 46 45,.f 45 44 0,.idx 44 3 (.t 42) (.t 43),.m 43 5,.l 42 41,.f 41 1 5,.m 40 4] (.tk 15 [.l 54 53,.f 53 52 1,.idx 52 3 (.t 50) (.t 51),.m 51 5,.l 50 49,.f 49 1 5] (.tk 23 [.l 62 61,.f 61 60 2,.idx 60 3 (.t 58) (.t 59),.m 59 5,.l 58 57,.f 57 1 5] (.only 7 none (.cl 47 [46] Gj) false [] (.tk 9 [.b 48 .add 40 47] (.only 15 none (.cl 55 [54] Gj) false [] (.tk 17 [.b 56 .add 48 55] (.only 23 none (.cl 63 [62] Do) false [] (.tk 26 [.m 4 64,.b 64 .add 56 63] .done))))))))) [1,4,5])) (.region [.m 38 5,.bin 39 .add (.t 38) (.i 1),.m 5 39] [1,4,5])))
def F0:Ae:=(.seq (.region [.m 65 4,.cl 66 [65] Mi,.ext 67 (.t 66) 0,.ext 68 (.t 66) 1,.m 2 67,.m 3 68] [2,3]) .ret)
def F3:Ae:=(.seq (.seq (.region [.mv 5 (.i 0)] [1,4,5]) (.block 0 [4] (.loop [1,4,5] Fz))) F0)
def Aw:CN:=⟨[.val Ao],[⟨2,false,.str⟩,⟨3,false,.bool⟩],(.seq (.region [.box 1 (.t 0) false,.mv 2 (.c (.str ⟨#[]⟩)),.mv 3 (.c (.bool false))] [1]) (.seq (.seq (.region [.ls 6 1 6,.cl 7 [6] Nk,.un 8 .not (.t 7)] [1,8]) (.cond (.t 8) (.seq (.region [.mv 2 (.c (.str ⟨#[]⟩)),.mv 3 (.c (.bool false))] [2,3]) .ret) .skip)) (.seq (.draw (R4 25 [(3,[]),(5,[2,4]),(7,[]),(9,[5,8]),(10,[6,9]),(11,[]),(13,[9,12]),(14,[10,13]),(15,[]),(17,[13,16]),(18,[14,17]),(19,[]),(22,[17,21]),(23,[18,22])]) (.tk 2 [.l 10 9,.f 9 1 0] (.tk 5 [.l 13 12,.f 12 1 1] (.tk 9 [.l 17 16,.f 16 1 2] (.tk 13 [.l 21 20,.f 20 1 3] (.tk 17 [.l 25 24,.f 24 1 4] (.tk 22 [.len 30 false (.t 29),.l 29 28,.f 28 1 5] (.only 2 none (.cl 11 [10] DJ) false [] (.only 5 none (.cl 14 [13] DJ) false [] (.tk 7 [.b 15 .add 11 14] (.only 9 none (.cl 18 [17] DJ) false [] (.tk 11 [.b 19 .add 15 18] (.only 13 none (.cl 22 [21] DJ) false [] (.tk 15 [.b 23 .add 19 22] (.only 17 none (.cl 26 [25] Do) false [] (.tk 19 [.b 27 .add 23 26] (.only 22 none (.cl 31 [30] Do) false [] (.tk 25 [.m 4 32,.b 32 .add 27 31] .done))))))))))))))))) [1,4]) F3)))⟩
theorem L1:Cc Try.prog 13 Aw=true:=by kernel_rfl
def EE:CN:=⟨[.val Ao],[⟨2,true,Ao⟩],(.seq (.region [.box 1 (.t 0) false,.al 2 Ao] [1,2]) (.seq (.region [.al 3 Ao] [1,2,3]) (.seq (.region [.f 4 1 0,.l 5 4,.f 6 3 0,.store (.t 6) (.t 5) 1 false] [1,2,3]) (.seq (.region [.f 7 1 1,.l 8 7,.f 9 3 1,.store (.t 9) (.t 8) 1 false] [1,2,3]) (.seq (.region [.f 10 1 2,.l 11 10,.f 12 3 2,.store (.t 12) (.t 11) 1 false] [1,2,3]) (.seq (.region [.f 13 1 3,.l 14 13,.f 15 3 3,.store (.t 15) (.t 14) 1 false] [1,2,3]) (.seq (.region [.f 16 1 4,.l 17 16,.f 18 3 4,.store (.t 18) (.t 17) 1 false] [1,2,3]) (.seq (.region [.f 19 1 5,.l 20 19,.cl 21 [20] Lt,.f 22 3 5,.store (.t 22) (.t 21) 1 false] [2,3]) (.seq (.region [.ls 23 3 6,.store (.t 2) (.t 23) 6 false] [2]) .ret)))))))))⟩
theorem Nq:Cc Try.prog 14 EE=true:=by kernel_rfl
def F4:Ae:=(.seq (.region [.bin 22 .lss (.t 21) (.i 4)] [1,4,20,21,22]) (.seq (.cond (.t 22) .skip (.exit 0)) (.seq (.block 1 [1,4,20,21] (.seq (.region [.aidx 23 4 (.t 20) (.t 21),.m 6 23] [1,4,6,20,21]) (.region [.m 24 6,.cvi 25 .u8 (.t 24),.bld (some 26) 0 62 5 (.t 4) (.t 25)] [1,4,20,21]))) (.region [.bin 27 .add (.t 21) (.i 1),.m 21 27] [1,4,20,21]))))
def Eu:Ae:=(.seq (.region [.b 41 .lss 40 39] [4,38,39,40,41]) (.seq (.cond (.t 41) .skip (.exit 2)) (.seq (.block 3 [4,38,39,40] (.seq (.region [.idx 42 3 (.t 38) (.t 40),.ls 43 42 3,.al 8 AO,.store (.t 8) (.t 43) 3 false] [4,8,38,39,40]) (.draw (R4 20 [(4,[]),(6,[3,5]),(7,[]),(10,[3,9]),(11,[6,10]),(12,[]),(14,[11,13]),(15,[]),(17,[10,16]),(18,[14,17])]) (.tk 3 [.len 46 true (.t 45),.l 45 44,.f 44 8 0] (.tk 6 [.l 49 48,.f 48 8 0] (.tk 10 [.len 53 true (.t 52),.l 52 51,.f 51 8 1] (.tk 14 [.l 57 56,.f 56 8 1] (.tk 17 [.l 60 59,.f 59 8 2] (.only 3 none (.cl 47 [46] Ci) false [] (.tk 7 [.b 50 .add 47 49] (.only 10 none (.cl 54 [53] Ci) false [] (.tk 12 [.b 55 .add 50 54] (.tk 15 [.b 58 .add 55 57] (.only 17 none (.cl 61 [60] Ci) false [] (.tk 19 [.b 62 .add 58 61] (.only 19 none (.bld (some 63) 1 63 5 (.t 4) (.t 62)) false [] .done))))))))))))) [4,38,39,40]))) (.region [.bin 64 .add (.t 40) (.i 1),.m 40 64] [4,38,39,40]))))
def Ew:Ae:=(.seq (.region [.bld (some 65) 2 66 5 (.t 4) (.c .undef),.cl 66 [65] Mj,.ext 67 (.t 66) 0,.ext 68 (.t 66) 1,.m 2 67,.m 3 68] [2,3]) .ret)
def Ex:Ae:=(.seq (.seq (.region [.f 37 1 5,.l 38 37,.len 39 false (.t 38),.mv 40 (.i 0)] [4,38,39,40]) (.block 2 [4] (.loop [4,38,39,40] Eu))) Ew)
def DK:Ae:=(.seq (.draw (R4 9 [(3,[]),(6,[2,5])]) (.tk 2 [.l 29 28,.f 28 1 4] (.tk 6 [.len 33 false (.t 32),.l 32 31,.f 31 1 5] (.only 2 none (.cl 30 [29] Ci) false [] (.only 6 none (.cl 34 [33] Ci) false [] (.tk 8 [.b 35 .add 30 34] (.only 8 none (.bld (some 36) 1 63 5 (.t 4) (.t 35)) false [] .done)))))) [1,4]) Ex)
def AP:CN:=⟨[.val Ao],[⟨2,false,.str⟩,⟨3,false,.bool⟩],(.seq (.region [.box 1 (.t 0) false,.mv 2 (.c (.str ⟨#[]⟩)),.mv 3 (.c (.bool false))] [1]) (.seq (.seq (.region [.ls 9 1 6,.cl 10 [9] Nl,.un 11 .not (.t 10)] [1,11]) (.cond (.t 11) (.seq (.region [.mv 2 (.c (.str ⟨#[]⟩)),.mv 3 (.c (.bool false))] [2,3]) .ret) .skip)) (.seq (.region [.alloc 4 [.self 105,.new 5 (.int .u8) []]] [1,4]) (.seq (.seq (.region [.f 12 1 0,.l 13 12,.f 14 1 1,.l 15 14,.f 16 1 2,.l 17 16,.f 18 1 3,.l 19 18,.build 20 [.int .i64 0,.int .i64 0,.int .i64 0,.int .i64 0] [(0,1,.t 13),(1,1,.t 15),(2,1,.t 17),(3,1,.t 19)],.mv 21 (.i 0)] [1,4,20,21]) (.block 0 [1,4] (.loop [1,4,20,21] F4))) DK))))⟩
theorem L2:Cc Try.prog 15 AP=true:=by kernel_rfl
def EF:CN:=⟨[.val Ao,.val Ao],[⟨4,false,.bool⟩],(.seq (.region [.box 2 (.t 0) false,.box 3 (.t 1) false,.mv 4 (.c (.bool false))] [2,3]) (.seq (.seq (.region [.f 5 2 0,.l 6 5,.f 7 3 0,.l 8 7,.b 9 .neq 6 8] [2,3,9]) (.cond (.t 9) (.seq (.region [.mv 4 (.c (.bool false))] [4]) .ret) .skip)) (.seq (.seq (.region [.f 10 2 1,.l 11 10,.f 12 3 1,.l 13 12,.b 14 .neq 11 13] [2,3,14]) (.cond (.t 14) (.seq (.region [.mv 4 (.c (.bool false))] [4]) .ret) .skip)) (.seq (.seq (.region [.f 15 2 2,.l 16 15,.f 17 3 2,.l 18 17,.b 19 .neq 16 18] [2,3,19]) (.cond (.t 19) (.seq (.region [.mv 4 (.c (.bool false))] [4]) .ret) .skip)) (.seq (.seq (.region [.f 20 2 3,.l 21 20,.f 22 3 3,.l 23 22,.b 24 .neq 21 23] [2,3,24]) (.cond (.t 24) (.seq (.region [.mv 4 (.c (.bool false))] [4]) .ret) .skip)) (.seq (.seq (.region [.f 25 2 4,.l 26 25,.f 27 3 4,.l 28 27,.b 29 .neq 26 28] [2,3,29]) (.cond (.t 29) (.seq (.region [.mv 4 (.c (.bool false))] [4]) .ret) .skip)) (.seq (.seq (.region [.f 30 2 5,.l 31 30,.f 32 3 5,.l 33 32,.cl 34 [31,33] Lu,.un 35 .not (.t 34)] [35]) (.cond (.t 35) (.seq (.region [.mv 4 (.c (.bool false))] [4]) .ret) .skip)) (.seq (.region [.mv 4 (.c (.bool true))] [4]) .ret))))))))⟩
theorem Nr:Cc Try.prog 16 EF=true:=by kernel_rfl
def HB:Ae:=(.cond (.t 39) (.seq (.region [.mv 2 (.c (.bool true))] [2]) .ret) (.seq (.region [.bin 43 .eql (.t 38) (.i 5),.m 42 43] [1,42]) (.cond (.t 42) (.seq (.region [.f 44 1 5,.l 45 44,.len 46 false (.t 45),.bin 47 .eql (.t 46) (.i 1),.m 2 47] [2]) .ret) .skip)))
def HC:Ae:=(.seq (.region [.f 48 1 5,.l 49 48,.len 50 false (.t 49),.bin 51 .eql (.t 50) (.i 0),.m 2 51] [2]) .ret)
def HD:Ae:=(.seq (.seq (.region [.f 37 1 0,.l 38 37] [1,38]) (.block 0 [1] (.seqc [1,38,39] (.seq (.region [.bin 40 .eql (.t 38) (.i 2),.m 39 40] [1,38,39]) (.cond (.t 39) .skip (.region [.bin 41 .eql (.t 38) (.i 3),.m 39 41] [1,38,39]))) HB))) HC)
def BY:CN:=⟨[.val Ao],[⟨2,false,.bool⟩],(.seq (.region [.box 1 (.t 0) false,.mv 2 (.c (.bool false))] [1]) (.seq (.seq (.region [.f 3 1 0,.l 4 3,.cx (some 5) [.t 4,.c (.int .i64 1),.c (.int .i64 8)] CL,.un 6 .not (.t 5),.m 7 6,.sc 7 false [.f 8 1 1,.l 9 8,.cx (some 10) [.t 9,.c (.int .i64 1),.c (.int .i64 6)] CL,.un 11 .not (.t 10)] 12 (.c (.bool true)) (.t 11),.m 13 12,.sc 13 false [.f 14 1 2,.l 15 14,.cx (some 16) [.t 15,.c (.int .i64 1),.c (.int .i64 6)] CL,.un 17 .not (.t 16)] 18 (.c (.bool true)) (.t 17),.m 19 18,.sc 19 false [.f 20 1 3,.l 21 20,.cx (some 22) [.t 21,.c (.int .i64 1),.c (.int .i64 9)] CL,.un 23 .not (.t 22)] 24 (.c (.bool true)) (.t 23),.m 25 24,.sc 25 false [.f 26 1 4,.l 27 26,.cx (some 28) [.t 27,.c (.int .i64 0),.c (.int .i64 1000000000)] CL,.un 29 .not (.t 28)] 30 (.c (.bool true)) (.t 29),.m 31 30,.sc 31 false [.f 32 1 5,.l 33 32,.cl 34 [33] Lv,.un 35 .not (.t 34)] 36 (.c (.bool true)) (.t 35)] [1,36]) (.cond (.t 36) (.seq (.region [.mv 2 (.c (.bool false))] [2]) .ret) .skip)) HD))⟩
theorem Ns:Cc Try.prog 23 BY=true:=by kernel_rfl
def HE:Ae:=(.cond (.t 39) (.seq (.region [.mv 2 (.c (.bool true))] [2]) .ret) (.seq (.region [.bin 43 .eql (.t 38) (.i 5),.m 42 43] [1,42]) (.cond (.t 42) (.seq (.region [.f 44 1 5,.l 45 44,.len 46 false (.t 45),.bin 47 .eql (.t 46) (.i 1),.m 2 47] [2]) .ret) .skip)))
def HF:Ae:=(.seq (.region [.f 48 1 5,.l 49 48,.len 50 false (.t 49),.bin 51 .eql (.t 50) (.i 0),.m 2 51] [2]) .ret)
def HG:Ae:=(.seq (.seq (.region [.f 37 1 0,.l 38 37] [1,38]) (.block 0 [1] (.seqc [1,38,39] (.seq (.region [.bin 40 .eql (.t 38) (.i 2),.m 39 40] [1,38,39]) (.cond (.t 39) .skip (.region [.bin 41 .eql (.t 38) (.i 3),.m 39 41] [1,38,39]))) HE))) HF)
def BZ:CN:=⟨[.val Ao],[⟨2,false,.bool⟩],(.seq (.region [.box 1 (.t 0) false,.mv 2 (.c (.bool false))] [1]) (.seq (.seq (.region [.f 3 1 0,.l 4 3,.cx (some 5) [.t 4,.c (.int .i64 1),.c (.int .i64 8)] CB,.un 6 .not (.t 5),.m 7 6,.sc 7 false [.f 8 1 1,.l 9 8,.cl 10 [9] Hv,.un 11 .not (.t 10)] 12 (.c (.bool true)) (.t 11),.m 13 12,.sc 13 false [.f 14 1 2,.l 15 14,.cl 16 [15] Hv,.un 17 .not (.t 16)] 18 (.c (.bool true)) (.t 17),.m 19 18,.sc 19 false [.f 20 1 3,.l 21 20,.cx (some 22) [.t 21,.c (.int .i64 1),.c (.int .i64 9)] CB,.un 23 .not (.t 22)] 24 (.c (.bool true)) (.t 23),.m 25 24,.sc 25 false [.f 26 1 4,.l 27 26,.cx (some 28) [.t 27,.c (.int .i64 0),.c (.int .i64 1000000000)] CB,.un 29 .not (.t 28)] 30 (.c (.bool true)) (.t 29),.m 31 30,.sc 31 false [.f 32 1 5,.l 33 32,.cl 34 [33] Lw,.un 35 .not (.t 34)] 36 (.c (.bool true)) (.t 35)] [1,36]) (.cond (.t 36) (.seq (.region [.mv 2 (.c (.bool false))] [2]) .ret) .skip)) HG))⟩
theorem Nt:Cc Try.prog 24 BZ=true:=by kernel_rfl
def F5:Ae:=(.seq (.seq (.region [.m 12 5,.m 13 0,.len 14 false (.t 13),.b 15 .lss 12 14] [0,1,5,15]) (.cond (.t 15) .skip (.exit 0))) (.seq (.block 1 [0,1,5] (.seq (.region [.m 18 0,.m 19 5,.idx 20 3 (.t 18) (.t 19),.ls 21 20 3,.m 22 1,.cl 23 [21,22] Mk,.m 1 23] [0,1,5]) (.seq (.region [.m 24 1,.bin 25 .lss (.t 24) (.i 0)] [0,1,5,25]) (.cond (.t 25) (.seq (.region [.mv 4 (.c (.int .i64 (-1)))] [4]) .ret) .skip)))) (.region [.m 16 5,.bin 17 .add (.t 16) (.i 1),.m 5 17] [0,1,5])))
def F6:Ae:=(.seq (.region [.m 26 1,.m 4 26] [4]) .ret)
def BJ:CN:=⟨[.val (.slice AO),.val (.int .i64)],[⟨4,false,(.int .i64)⟩],(.seq (.region [.mv 4 (.i 0)] [0,1]) (.seq (.region [.m 6 1,.m 7 0,.len 8 false (.t 7),.b 9 .sub 6 8,.m 1 9] [0,1]) (.seq (.seq (.region [.m 10 1,.bin 11 .lss (.t 10) (.i 0)] [0,1,11]) (.cond (.t 11) (.seq (.region [.mv 4 (.c (.int .i64 (-1)))] [4]) .ret) .skip)) (.seq (.seq (.region [.mv 5 (.i 0)] [0,1,5]) (.block 0 [1] (.loop [0,1,5] F5))) F6))))⟩
theorem L3:Cc Try.prog 56 BJ=true:=by kernel_rfl
def DL:CN:=⟨[.val (.int .i64)],[⟨2,false,.str⟩],(.seq (.region [.mv 2 (.c (.str ⟨#[]⟩))] [0]) (.seq (.region [.m 3 0,.cvi 4 .u8 (.t 3),.brow 5 5 (.int .u8) [.t 4],.bts 6 (.t 5),.m 2 6] [2]) .ret))⟩
theorem L4:Cc Try.prog 57 DL=true:=by kernel_rfl
def Gk:Ae:=(.seq (.seq (.region [.m 5 0,.bin 6 .gtr (.t 5) (.i 127)] [0,3,6]) (.cond (.t 6) .skip (.exit 0))) (.block 1 [0,3] (.seq (.region [.m 7 3,.m 8 0,.bin 9 .rem (.t 8) (.i 128),.bin 10 .add (.t 9) (.i 128),.cvi 11 .u8 (.t 10),.blst 12 (.int .u8) [.t 11],.app 13 5 (.int .u8) (.t 7) (.t 12),.m 3 13] [0,3]) (.region [.m 14 0,.bin 15 .quo (.t 14) (.i 128),.m 0 15] [0,3]))))
def Gl:Ae:=(.seq (.region [.m 16 3,.m 17 0,.cvi 18 .u8 (.t 17),.blst 19 (.int .u8) [.t 18],.app 20 5 (.int .u8) (.t 16) (.t 19),.bts 21 (.t 20),.m 2 21] [2]) .ret)
def Bb:CN:=⟨[.val (.int .i64)],[⟨2,false,.str⟩],(.seq (.region [.mv 2 (.c (.str ⟨#[]⟩))] [0]) (.seq (.region [.brow 4 5 (.int .u8) [],.m 3 4] [0,3]) (.seq (.block 0 [0,3] (.loop [0,3] Gk)) Gl)))⟩
theorem Mn:Cc Try.prog 58 Bb=true:=by kernel_rfl
def Cu:CN:=⟨[.val .str],[⟨2,false,.str⟩],(.seq (.region [.mv 2 (.c (.str ⟨#[]⟩))] [0]) (.seq (.region [.m 3 0,.len 4 true (.t 3),.cl 5 [4] Do,.m 6 0,.b 7 .add 5 6,.m 2 7] [2]) .ret))⟩
theorem Kr:Cc Try.prog 59 Cu=true:=by kernel_rfl
def Dp:CN:=⟨[.val .str],[⟨2,false,.str⟩,⟨3,false,.bool⟩],(.seq (.region [.mv 2 (.c (.str ⟨#[]⟩)),.mv 3 (.c (.bool false))] [0]) (.seq (.seq (.region [.m 4 0,.len 5 true (.t 4),.bin 6 .gtr (.t 5) (.i 20000)] [0,6]) (.cond (.t 6) (.seq (.region [.mv 2 (.c (.str ⟨#[]⟩)),.mv 3 (.c (.bool false))] [2,3]) .ret) .skip)) (.seq (.region [.m 7 0,.m 8 0,.cl 9 [8] Nm,.cl 10 [9] Lx,.b 11 .add 7 10,.m 2 11,.mv 3 (.c (.bool true))] [2,3]) .ret)))⟩
theorem Mo:Cc Try.prog 60 Dp=true:=by kernel_rfl
def F7:Ae:=(.seq (.seq (.region [.m 8 4,.m 9 0,.len 10 false (.t 9),.b 11 .lss 8 10] [0,3,4,11]) (.cond (.t 11) .skip (.exit 0))) (.seq (.block 1 [0,3,4] (.region [.m 14 3,.m 15 4,.m 16 0,.m 17 4,.idx 18 3 (.t 16) (.t 17),.ls 19 18 3,.cl 20 [19] Ml,.idx 21 3 (.t 14) (.t 15),.store (.t 21) (.t 20) 3 false] [0,3,4])) (.region [.m 12 4,.bin 13 .add (.t 12) (.i 1),.m 4 13] [0,3,4])))
def F8:Ae:=(.seq (.region [.m 22 3,.m 2 22] [2]) .ret)
def BK:CN:=⟨[.val (.slice AO)],[⟨2,false,(.own 49 AO)⟩],(.seq (.region [.mv 2 (.c (.nil))] [0]) (.seq (.region [.m 5 0,.len 6 false (.t 5),.mk 7 49 AO (.t 6),.m 3 7] [0,3]) (.seq (.seq (.region [.mv 4 (.i 0)] [0,3,4]) (.block 0 [3] (.loop [0,3,4] F7))) F8)))⟩
theorem L5:Cc Try.prog 61 BK=true:=by kernel_rfl
def F9:Ae:=(.seq (.seq (.region [.m 4 0,.bin 5 .gtr (.t 4) (.i 127)] [0,3,5]) (.cond (.t 5) .skip (.exit 0))) (.block 1 [0,3] (.seq (.region [.m 6 3,.m 7 0,.bin 8 .rem (.t 7) (.i 128),.bin 9 .add (.i 128) (.t 8),.cvi 10 .u8 (.t 9),.blst 11 (.int .u8) [.t 10],.app 12 5 (.int .u8) (.t 6) (.t 11),.m 3 12] [0,3]) (.region [.m 13 0,.bin 14 .quo (.t 13) (.i 128),.m 0 14] [0,3]))))
def F_:Ae:=(.seq (.region [.m 15 3,.m 16 0,.cvi 17 .u8 (.t 16),.blst 18 (.int .u8) [.t 17],.app 19 5 (.int .u8) (.t 15) (.t 18),.bts 20 (.t 19),.m 2 20] [2]) .ret)
def BL:CN:=⟨[.val (.int .i64)],[⟨2,false,.str⟩],(.seq (.region [.mv 2 (.c (.str ⟨#[]⟩))] [0]) (.seq (.region [.nilrow 3 5 (.int .u8)] [0,3]) (.seq (.block 0 [0,3] (.loop [0,3] F9)) F_)))⟩
theorem L6:Cc Try.prog 64 BL=true:=by kernel_rfl
def Dq:CN:=⟨[.val .str],[⟨2,false,.str⟩,⟨3,false,.bool⟩],(.seq (.region [.mv 2 (.c (.str ⟨#[]⟩)),.mv 3 (.c (.bool false))] [0]) (.seq (.seq (.region [.m 4 0,.len 5 true (.t 4),.bin 6 .gtr (.t 5) (.i 20000)] [0,6]) (.cond (.t 6) (.seq (.region [.mv 2 (.c (.str ⟨#[]⟩)),.mv 3 (.c (.bool false))] [2,3]) .ret) .skip)) (.seq (.region [.m 7 0,.m 8 0,.cl 9 [8] Ly,.b 10 .add 7 9,.m 2 10,.mv 3 (.c (.bool true))] [2,3]) .ret)))⟩
theorem Mp:Cc Try.prog 65 Dq=true:=by kernel_rfl
def GA:Ae:=(.seq (.seq (.region [.m 11 5,.m 12 0,.len 13 false (.t 12),.b 14 .lss 11 13] [0,1,5,14]) (.cond (.t 14) .skip (.exit 0))) (.seq (.block 1 [0,1,5] (.seq (.draw (R4 10 [(1,[]),(2,[0,1]),(4,[]),(5,[]),(6,[4,5]),(8,[3,7])]) (.tk 8 [.ls 24 23 3,.idx 23 3 (.t 21) (.t 22),.m 22 5,.m 21 1,.ls 20 19 3,.idx 19 3 (.t 17) (.t 18),.m 18 5,.m 17 0] (.only 8 none (.cl 25 [20,24] Mm) false [] (.tk 10 [.un 26 .not (.t 25)] .done))) [0,1,5,26]) (.cond (.t 26) (.seq (.region [.mv 4 (.c (.bool false))] [4]) .ret) .skip))) (.region [.m 15 5,.bin 16 .add (.t 15) (.i 1),.m 5 16] [0,1,5])))
def GB:Ae:=(.seq (.region [.mv 4 (.c (.bool true))] [4]) .ret)
def BM:CN:=⟨[.val (.slice AO),.val (.slice AO)],[⟨4,false,.bool⟩],(.seq (.region [.mv 4 (.c (.bool false))] [0,1]) (.seq (.seq (.region [.m 6 0,.len 7 false (.t 6),.m 8 1,.len 9 false (.t 8),.b 10 .neq 7 9] [0,1,10]) (.cond (.t 10) (.seq (.region [.mv 4 (.c (.bool false))] [4]) .ret) .skip)) (.seq (.seq (.region [.mv 5 (.i 0)] [0,1,5]) (.block 0 [] (.loop [0,1,5] GA))) GB)))⟩
theorem L7:Cc Try.prog 67 BM=true:=by kernel_rfl
def EG:CN:=⟨[.val (.int .i64),.val (.int .i64),.val (.int .i64)],[⟨6,false,.bool⟩],(.seq (.region [.mv 6 (.c (.bool false))] [0,1,2]) (.seq (.region [.m 7 0,.m 8 1,.b 9 .geq 7 8,.m 10 9,.sc 10 true [.m 11 0,.m 12 2,.b 13 .leq 11 12] 14 (.t 13) (.c (.bool false)),.m 6 14] [6]) .ret))⟩
theorem Nu:Cc Try.prog 80 EG=true:=by kernel_rfl
def Ey:DT:=(.sk 32 false 3 21 36 (.sk 35 true 9 30 45 (.sk 32 false 1 31 46 (.tk 32 [.pick 46 (.t 32) (.c (.bool true)) (.t 45)] .done))))
def Ez:DT:=(.sk 26 false 4 16 31 (.tk 18 [.m 32 31,.pick 31 (.t 26) (.c (.bool true)) (.t 30)] Ey))
def E0:DT:=(.tg 32 false 31 [.pick 45 (.t 35) (.t 44) (.c (.bool false))] (.tk 32 [.pick 46 (.t 32) (.c (.bool true)) (.t 45)] .done))
def E1:Ae:=(.seq (.seq (.region [.m 5 3,.m 6 0,.len 7 false (.t 6),.b 8 .lss 5 7] [0,3,8]) (.cond (.t 8) .skip (.exit 0))) (.seq (.block 1 [0,3] (.seq (.region [.m 11 0,.m 12 3,.idx 13 3 (.t 11) (.t 12),.ls 14 13 3,.al 4 AO,.store (.t 4) (.t 14) 3 false] [0,3,4]) (.seq (.draw (R4 32 [(22,[20]),(24,[21,23]),(27,[20]),(29,[26,28])]) (.tk 3 [.len 17 true (.t 16),.l 16 15,.f 15 4 0] (.only 3 none (.cx (some 18) [.t 17,.c (.int .i64 1),.c (.int .i64 12)] CL) false [] (.tk 6 [.m 20 19,.un 19 .not (.t 18)] (.test 20 (.sk 20 false 4 10 25 (.tk 12 [.m 26 25,.pick 25 (.t 20) (.c (.bool true)) (.t 24)] Ez)) (.tg 20 false 10 [.bin 24 .gtr (.t 23) (.i 20),.len 23 true (.t 22),.l 22 21,.f 21 4 1] (.tk 12 [.m 26 25,.pick 25 (.t 20) (.c (.bool true)) (.t 24)] (.test 26 Ez (.tg 26 false 14 [.l 28 27,.f 27 4 2] (.only 14 (some (26,false)) (.cx (some 29) [.t 28,.c (.int .i64 1),.c (.int .i64 1000000000)] CL) false [] (.tg 26 false 16 [.un 30 .not (.t 29)] (.tk 18 [.m 32 31,.pick 31 (.t 26) (.c (.bool true)) (.t 30)] (.test 32 Ey (.tg 32 false 21 [.m 35 34,.bin 34 .gtr (.t 33) (.i 0),.m 33 3] (.test 35 (.tg 35 true 30 [.b 44 .geq 41 43,.l 43 42,.f 42 4 0,.l 41 40,.f 40 39 0,.idx 39 3 (.t 36) (.t 38),.bin 38 .sub (.t 37) (.i 1),.m 37 3,.m 36 0] E0) (.sk 35 true 9 30 45 E0))))))))))))))) [0,3,46]) (.cond (.t 46) (.seq (.region [.mv 2 (.c (.bool false))] [2]) .ret) .skip)))) (.region [.m 9 3,.bin 10 .add (.t 9) (.i 1),.m 3 10] [0,3])))
def E2:Ae:=(.seq (.region [.m 47 0,.len 48 false (.t 47),.bin 49 .leq (.t 48) (.i 12),.m 2 49] [2]) .ret)
def BN:CN:=⟨[.val (.slice AO)],[⟨2,false,.bool⟩],(.seq (.region [.mv 2 (.c (.bool false))] [0]) (.seq (.seq (.region [.mv 3 (.i 0)] [0,3]) (.block 0 [0] (.loop [0,3] E1))) E2))⟩
theorem L8:Cc Try.prog 81 BN=true:=by kernel_rfl
def DM:CN:=⟨[.val (.int .i64),.val (.int .i64),.val (.int .i64)],[⟨6,false,.bool⟩],(.seq (.region [.mv 6 (.c (.bool false))] [0,1,2]) (.seq (.region [.m 7 0,.m 8 1,.b 9 .geq 7 8,.m 10 9,.sc 10 true [.m 11 0,.m 12 2,.b 13 .leq 11 12] 14 (.t 13) (.c (.bool false)),.m 6 14] [6]) .ret))⟩
theorem L9:Cc Try.prog 82 DM=true:=by kernel_rfl
def Dr:CN:=⟨[.val (.int .i64)],[⟨2,false,.bool⟩],(.seq (.region [.mv 2 (.c (.bool false))] [0]) (.seq (.region [.m 3 0,.cx (some 4) [.t 3,.c (.int .i64 1),.c (.int .i64 6)] CB,.m 2 4] [2]) .ret))⟩
theorem Mq:Cc Try.prog 83 Dr=true:=by kernel_rfl
def E3:DT:=(.sk 28 false 3 20 32 (.sk 31 true 9 29 41 (.sk 28 false 1 30 42 (.tk 31 [.pick 42 (.t 28) (.c (.bool true)) (.t 41)] .done))))
def E4:DT:=(.sk 22 false 4 15 27 (.tk 17 [.m 28 27,.pick 27 (.t 22) (.c (.bool true)) (.t 26)] E3))
def E5:DT:=(.tg 28 false 30 [.pick 41 (.t 31) (.t 40) (.c (.bool false))] (.tk 31 [.pick 42 (.t 28) (.c (.bool true)) (.t 41)] .done))
def E6:Ae:=(.seq (.region [.b 8 .lss 7 6] [0,5,6,7,8]) (.seq (.cond (.t 8) .skip (.exit 0)) (.seq (.block 1 [0,5,6,7] (.seq (.region [.m 9 7,.idx 10 3 (.t 5) (.t 7),.ls 11 10 3,.al 4 AO,.m 3 9,.store (.t 4) (.t 11) 3 false] [0,3,4,5,6,7]) (.seq (.draw (R4 31 [(22,[19]),(23,[19]),(25,[22,24]),(28,[21,27])]) (.tk 2 [.l 13 12,.f 12 4 0] (.only 2 none (.cl 14 [13] Nn) false [] (.tk 5 [.m 16 15,.un 15 .not (.t 14)] (.test 16 (.sk 16 false 4 9 21 (.tk 11 [.m 22 21,.pick 21 (.t 16) (.c (.bool true)) (.t 20)] E4)) (.tg 16 false 9 [.bin 20 .gtr (.t 19) (.i 20),.len 19 true (.t 18),.l 18 17,.f 17 4 1] (.tk 11 [.m 22 21,.pick 21 (.t 16) (.c (.bool true)) (.t 20)] (.test 22 E4 (.tg 22 false 13 [.l 24 23,.f 23 4 2] (.only 13 (some (22,false)) (.cx (some 25) [.t 24,.c (.int .i64 1),.c (.int .i64 1000000000)] CB) false [] (.tg 22 false 15 [.un 26 .not (.t 25)] (.tk 17 [.m 28 27,.pick 27 (.t 22) (.c (.bool true)) (.t 26)] (.test 28 E3 (.tg 28 false 20 [.m 31 30,.bin 30 .gtr (.t 29) (.i 0),.m 29 3] (.test 31 (.tg 31 true 29 [.b 40 .leq 33 39,.l 39 38,.f 38 37 0,.idx 37 3 (.t 34) (.t 36),.bin 36 .sub (.t 35) (.i 1),.m 35 3,.m 34 0,.l 33 32,.f 32 4 0] E5) (.sk 31 true 9 29 41 E5))))))))))))))) [0,5,6,7,42]) (.cond (.t 42) (.seq (.region [.mv 2 (.c (.bool false))] [2]) .ret) .skip)))) (.region [.bin 43 .add (.t 7) (.i 1),.m 7 43] [0,5,6,7]))))
def E7:Ae:=(.seq (.region [.m 44 0,.len 45 false (.t 44),.bin 46 .leq (.t 45) (.i 12),.m 2 46] [2]) .ret)
def BO:CN:=⟨[.val (.slice AO)],[⟨2,false,.bool⟩],(.seq (.region [.mv 2 (.c (.bool false))] [0]) (.seq (.seq (.region [.m 5 0,.len 6 false (.t 5),.mv 7 (.i 0)] [0,5,6,7]) (.block 0 [0] (.loop [0,5,6,7] E6))) E7))⟩
theorem L_:Cc Try.prog 84 BO=true:=by kernel_rfl
def Ds:CN:=⟨[.val AO,.val (.int .i64)],[⟨4,false,(.int .i64)⟩],(.seq (.region [.box 2 (.t 0) false,.mv 4 (.i 0)] [1,2]) (.seq (.region [.m 5 1,.f 6 2 0,.l 7 6,.len 8 true (.t 7),.b 9 .sub 5 8,.m 1 9] [1,2]) (.seq (.seq (.region [.m 10 1,.bin 11 .lss (.t 10) (.i 0)] [1,2,11]) (.cond (.t 11) (.seq (.region [.mv 4 (.c (.int .i64 (-1)))] [4]) .ret) .skip)) (.seq (.region [.m 12 1,.f 13 2 1,.l 14 13,.len 15 true (.t 14),.b 16 .sub 12 15,.m 1 16] [1]) (.seq (.seq (.region [.m 17 1,.bin 18 .lss (.t 17) (.i 0)] [1,18]) (.cond (.t 18) (.seq (.region [.mv 4 (.c (.int .i64 (-1)))] [4]) .ret) .skip)) (.seq (.region [.m 19 1,.m 4 19] [4]) .ret))))))⟩
theorem Mr:Cc Try.prog 131 Ds=true:=by kernel_rfl
def DN:CN:=⟨[.val (.int .u32)],[⟨2,false,.str⟩],(.seq (.region [.mv 2 (.c (.str ⟨#[]⟩))] [0]) (.seq (.region [.m 3 0,.bin 4 .shr (.t 3) (.c (.int .u64 24)),.cvi 5 .u8 (.t 4),.m 6 0,.bin 7 .shr (.t 6) (.c (.int .u64 16)),.cvi 8 .u8 (.t 7),.m 9 0,.bin 10 .shr (.t 9) (.c (.int .u64 8)),.cvi 11 .u8 (.t 10),.m 12 0,.cvi 13 .u8 (.t 12),.brow 14 5 (.int .u8) [.t 5,.t 8,.t 11,.t 13],.bts 15 (.t 14),.m 2 15] [2]) .ret))⟩
theorem MA:Cc Try.prog 132 DN=true:=by kernel_rfl
def EH:CN:=⟨[.val .str],[⟨2,false,(.int .u32)⟩],(.seq (.region [.mv 2 (.c (.int .u32 0))] [0]) (.seq (.region [.m 3 0,.cx (some 4) [.c (.int .u32 4294967295),.t 3] Lz,.m 2 4] [2]) .ret))⟩
theorem Nv:Cc Try.prog 133 EH=true:=by kernel_rfl
def Dt:CN:=⟨[.val AO],[⟨2,true,AO⟩],(.seq (.region [.box 1 (.t 0) false,.al 2 AO] [1,2]) (.seq (.region [.al 3 AO] [1,2,3]) (.seq (.region [.f 4 1 0,.l 5 4,.f 6 3 0,.store (.t 6) (.t 5) 1 false] [1,2,3]) (.seq (.region [.f 7 1 1,.l 8 7,.f 9 3 1,.store (.t 9) (.t 8) 1 false] [1,2,3]) (.seq (.region [.f 10 1 2,.l 11 10,.f 12 3 2,.store (.t 12) (.t 11) 1 false] [2,3]) (.seq (.region [.ls 13 3 3,.store (.t 2) (.t 13) 3 false] [2]) .ret))))))⟩
theorem Ms:Cc Try.prog 134 Dt=true:=by kernel_rfl
def DO:CN:=⟨[.val .str],[⟨2,false,.str⟩],(.seq (.region [.mv 2 (.c (.str ⟨#[]⟩))] [0]) (.seq (.region [.m 4 0,.cl 5 [4] No,.m 3 5] [3]) (.seq (.region [.m 6 3,.bin 7 .shr (.t 6) (.c (.int .u64 24)),.cvi 8 .u8 (.t 7),.m 9 3,.bin 10 .shr (.t 9) (.c (.int .u64 16)),.cvi 11 .u8 (.t 10),.m 12 3,.bin 13 .shr (.t 12) (.c (.int .u64 8)),.cvi 14 .u8 (.t 13),.m 15 3,.cvi 16 .u8 (.t 15),.brow 17 5 (.int .u8) [.t 8,.t 11,.t 14,.t 16],.bts 18 (.t 17),.m 2 18] [2]) .ret)))⟩
theorem MB:Cc Try.prog 136 DO=true:=by kernel_rfl
def Du:CN:=⟨[.val AO,.val AO],[⟨4,false,.bool⟩],(.seq (.region [.box 2 (.t 0) false,.box 3 (.t 1) false,.mv 4 (.c (.bool false))] [2,3]) (.seq (.seq (.region [.f 5 2 0,.l 6 5,.f 7 3 0,.l 8 7,.b 9 .neq 6 8] [2,3,9]) (.cond (.t 9) (.seq (.region [.mv 4 (.c (.bool false))] [4]) .ret) .skip)) (.seq (.seq (.region [.f 10 2 1,.l 11 10,.f 12 3 1,.l 13 12,.b 14 .neq 11 13] [2,3,14]) (.cond (.t 14) (.seq (.region [.mv 4 (.c (.bool false))] [4]) .ret) .skip)) (.seq (.seq (.region [.f 15 2 2,.l 16 15,.f 17 3 2,.l 18 17,.b 19 .neq 16 18] [19]) (.cond (.t 19) (.seq (.region [.mv 4 (.c (.bool false))] [4]) .ret) .skip)) (.seq (.region [.mv 4 (.c (.bool true))] [4]) .ret)))))⟩
theorem Mt:Cc Try.prog 137 Du=true:=by kernel_rfl
def EI:CN:=⟨[.val .str],[⟨2,false,.bool⟩],(.seq (.region [.mv 2 (.c (.bool false))] [0]) (.seq (.region [.m 3 0,.len 4 true (.t 3),.cx (some 5) [.t 4,.c (.int .i64 1),.c (.int .i64 12)] CB,.m 2 5] [2]) .ret))⟩
theorem Nw:Cc Try.prog 145 EI=true:=by kernel_rfl
def GC:Ae:=(.seq (.seq (.region [.m 20 6,.bin 21 .lss (.t 20) (.i 8)] [0,1,5,6,21]) (.cond (.t 21) .skip (.exit 2))) (.seq (.block 3 [0,1,5,6] (.seq (.region [.m 24 0,.bin 25 .rem (.t 24) (.c (.int .u32 2)),.bin 26 .eql (.t 25) (.c (.int .u32 1)),.m 7 26] [0,1,5,6,7]) (.seq (.region [.m 27 0,.bin 28 .quo (.t 27) (.c (.int .u32 2)),.m 0 28] [0,1,5,6,7]) (.seq (.region [.m 29 7] [0,1,5,6,29]) (.cond (.t 29) (.region [.m 30 0,.bin 31 .xor (.t 30) (.c (.int .u32 3558460437)),.m 0 31] [0,1,5,6]) .skip))))) (.region [.m 22 6,.bin 23 .add (.t 22) (.i 1),.m 6 23] [0,1,5,6])))
def E8:Ae:=(.region [.m 12 5,.bin 13 .add (.t 12) (.i 1),.m 5 13] [0,1,5])
def E9:Ae:=(.seq (.seq (.region [.m 8 5,.m 9 1,.len 10 true (.t 9),.b 11 .lss 8 10] [0,1,5,11]) (.cond (.t 11) .skip (.exit 0))) (.seq (.block 1 [0,1,5] (.seq (.region [.m 14 0,.m 15 1,.m 16 5,.sidx 17 (.t 15) (.t 16),.cvi 18 .u32 (.t 17),.b 19 .xor 14 18,.m 0 19] [0,1,5]) (.seq (.region [.mv 6 (.i 0)] [0,1,5,6]) (.block 2 [0,1,5] (.loop [0,1,5,6] GC))))) E8))
def E_:Ae:=(.seq (.region [.m 32 0,.m 4 32] [4]) .ret)
def Am:CN:=⟨[.val (.int .u32),.val .str],[⟨4,false,(.int .u32)⟩],(.seq (.region [.mv 4 (.c (.int .u32 0))] [0,1]) (.seq (.seq (.region [.mv 5 (.i 0)] [0,1,5]) (.block 0 [0] (.loop [0,1,5] E9))) E_))⟩
theorem MC:Cc Try.prog 161 Am=true:=by kernel_rfl
def EJ:CN:=⟨[.val .str],[⟨2,false,(.int .u32)⟩],(.seq (.region [.mv 2 (.c (.int .u32 0))] [0]) (.seq (.region [.m 3 0,.cx (some 4) [.c (.int .u32 4294967295),.t 3] L0,.m 2 4] [2]) .ret))⟩
theorem Nx:Cc Try.prog 163 EJ=true:=by kernel_rfl
def GD:Ae:=(.seq (.region [.bin 20 .lss (.t 19) (.i 8)] [0,1,5,19,20]) (.seq (.cond (.t 20) .skip (.exit 2)) (.seq (.block 3 [0,1,5,19] (.seq (.region [.m 21 0,.bin 22 .and (.t 21) (.c (.int .u32 1)),.m 6 22] [0,1,5,6,19]) (.seq (.region [.m 23 0,.bin 24 .shr (.t 23) (.c (.int .u64 1)),.m 0 24] [0,1,5,6,19]) (.seq (.region [.m 25 6,.bin 26 .eql (.t 25) (.c (.int .u32 1))] [0,1,5,19,26]) (.cond (.t 26) (.region [.m 27 0,.bin 28 .xor (.t 27) (.c (.int .u32 3558460437)),.m 0 28] [0,1,5,19]) .skip))))) (.region [.bin 29 .add (.t 19) (.i 1),.m 19 29] [0,1,5,19]))))
def FA:Ae:=(.region [.m 11 5,.bin 12 .add (.t 11) (.i 1),.m 5 12] [0,1,5])
def FB:Ae:=(.seq (.seq (.region [.m 7 5,.m 8 1,.len 9 true (.t 8),.b 10 .lss 7 9] [0,1,5,10]) (.cond (.t 10) .skip (.exit 0))) (.seq (.block 1 [0,1,5] (.seq (.region [.m 13 0,.m 14 1,.m 15 5,.sidx 16 (.t 14) (.t 15),.cvi 17 .u32 (.t 16),.b 18 .xor 13 17,.m 0 18] [0,1,5]) (.seq (.region [.mv 19 (.i 0)] [0,1,5,19]) (.block 2 [0,1,5] (.loop [0,1,5,19] GD))))) FA))
def FC:Ae:=(.seq (.region [.m 30 0,.m 4 30] [4]) .ret)
def An:CN:=⟨[.val (.int .u32),.val .str],[⟨4,false,(.int .u32)⟩],(.seq (.region [.mv 4 (.c (.int .u32 0))] [0,1]) (.seq (.seq (.region [.mv 5 (.i 0)] [0,1,5]) (.block 0 [0] (.loop [0,1,5] FB))) FC))⟩
theorem MD:Cc Try.prog 177 An=true:=by kernel_rfl
end
end Go.Proofs.Ytffahmnodgnohaa.Core

namespace Go.Proofs.Ytffahmnodgnohaa.Core
open Go Go.Shelf Go.RowKit Go.Lib
variable {P:Program} {ρ:Ren}
set_option maxHeartbeats 2000000 in
set_option maxRecDepth 100000 in
theorem Qz (L:SlLaysE0.n41 P ρ) (i0:TypeInfo) (z:Value) (size bytes:Nat) (hi:P.info? (ρ.t 23)=some i0) (hz0:i0.zero=some z) (hz1:i0.size=size) (hz2:i0.bytes=bytes) (hzs:z.cells.size=size) (hsz:0<size)
  (z23:∀ w,(Go.sizeOf (ρ.t 23)).run P w=.ok size w) (ad:Addr) (n c:Nat) (news:List Value) (w:World) (hl:news.length=n*size) (hn:n<=maxLen) (hbig:n*bytes<=140737488355328)
  (hc:∀ j u,news[j]? = some u->w.cell? (ad.add j)=some u) (h1:∀ u∈news,u.oneCell'=true) :
  Calls P (ρ.f 41) #[.slice (some ad) n c] w fun e w'=>∃ v',e=.returned v'/\w'.ownsRow w.heap.size (ρ.t 23) size v' n news/\w.grownBy w' none:=by
 have mixed:=L.mixed; have t4:=L.t4; have a4:=L.a4; have z4:=L.z4; have v4:=L.v4; have t22:=L.t22; have a22:=L.a22; have z22:=L.z22; have v22:=L.v22
 have q22:∀ (w:World) (a:Option Addr) (n c n' c':Nat),(binOp .eql (ρ.t 22) (.slice a n c) (.slice none n' c')).run P w=.ok (.bool a.isNone) w:=fun w a n c n' c'=>Lib.run_eql_slice_nil w _ _ a n c n' c' L.t22
 have u22:∀ w,Sem.run P (underlying (ρ.t 22)) w=.ok (TypeDesc.slice (ρ.t 23)) w:=run_underlying t22
 have A:Aside (∀ j u,news[j]? = some u->w.cell? (ad.add j)=some u):=hc
 clear hc
 obtain ⟨_,_,FG⟩:=L.f41
 go_enter FG,SlBodyN.n41_ntmps ρ
 go_wp2_with (at_builtin; refine wpList_append_own _ rfl _ _ (ρ.t 22) rfl w.heap.size (ρ.t 23) i0 z size bytes t22 hi hz0 hz1 hz2 hzs hsz _ _ _ rfl (World.ownsRow_made w #[] 0 (Nat.le_refl _) (Nat.zero_le _) (by simp)) ad n c news rfl ?qc1 ?qc2 ?qc3 ?qc4 ?qc5 ?qc6 ?_)
 case qc1=>exact hl
 case qc2 =>
  intro j u hj
  exact Lib.cell?_alloc_some _ (A.out j u hj)
 case qc3=>exact h1
 case qc4=>rw [Nat.zero_add]; exact hn
 case qc5=>rw [Nat.zero_add]; exact hbig
 case qc6=>simp
 intro v' w1 hown hgrow hnil
 go_wp2
 go_ret
 refine ⟨v',rfl,by simpa using hown,⟨hgrow.os,hgrow.tape,hgrow.output,?_,fun k hk _=>?_⟩⟩
 ·have:=hgrow.size
  simp at this
  omega
 ·rw [hgrow.block k (by simp; omega) (by simp [Value.ownBlock]; omega)]
  simp only [World.alloc,Array.getElem?_push]
  rw [if_neg (by omega)]
set_option maxHeartbeats 1000000 in
theorem P8 (L:SlLaysE0.n41 P ρ) (n c:Nat) (w:World) :
  Calls P (ρ.f 41) #[.slice none n c] w fun e w'=>e=.returned (.slice none 0 0)/\w'=w:=by
 have mixed:=L.mixed; have t4:=L.t4; have a4:=L.a4; have z4:=L.z4; have v4:=L.v4; have t22:=L.t22; have a22:=L.a22; have z22:=L.z22; have v22:=L.v22
 have q22:∀ (w:World) (a:Option Addr) (n c n' c':Nat),(binOp .eql (ρ.t 22) (.slice a n c) (.slice none n' c')).run P w=.ok (.bool a.isNone) w:=fun w a n c n' c'=>Lib.run_eql_slice_nil w _ _ a n c n' c' L.t22
 obtain ⟨_,_,FG⟩:=L.f41
 go_enter FG,SlBodyN.n41_ntmps ρ
 go_wp2
 go_ret
 exact ⟨rfl,rfl⟩
def IF (P:Program) (f:Nat) (args bs rs:List AV):Prop :=
 Je P f/\(∀ r∈rs,r.cells.all AV.nilFree=true)/\∃ n,n+bs.length=rs.length /\
  ∀ (H:HP) (φ:Ag) (w:World) (cargs:List Value),SR H φ (AW bs args) w->AG (VB H φ (AW bs args)) (Az (Bf bs) args) cargs ->
   Calls P f cargs.toArray w fun out w'=>match out with
    | .returned v=>Dm H φ w args bs (rs.drop n) (rs.take n) v w'
    | _=>False
theorem Oc {H H':HP} {φ φ':Ag} {w w':World} {args rs:List AV} {v:Value} (h:AD H φ (AW [] args) w H' φ' (AW [] rs) w') (hr:SN H' φ' (AW [] rs) (Az (Bf []) rs) v):Dm H φ w args [] [] rs v w':=by
 refine ⟨H',φ',h.le,h.sr,h.fr _ _ _ _ _ ⟨rfl,rfl,rfl,Nat.le_refl _,fun _ _ _=>rfl,fun _ _=>rfl,fun i bi hi _ b hb=>.inr ⟨i,(AF.1 hi).1,hb⟩,fun j hj=>?_,fun _ _ _=>rfl⟩,hr⟩
 simp at hj
theorem Q0 {K:Kd} (L:SlLaysE0.n41 P ρ) (he:PF P (ρ.t 23) K=true) {xs:List K.T} (hx:xs.length<=68719476736):IF P (ρ.f 41) [.lst K xs] [] [.new (ρ.t 23) K xs]:=by
 obtain ⟨i,z,hi,hz,h1,h2,h3,h4⟩:=G0 he
 have hn:xs.length<=maxLen:=by unfold maxLen; omega
 refine ⟨?_,?_,1,rfl,fun H φ w cargs hs ha=>?_⟩
 ·obtain ⟨nm,hnm,hf⟩:=L.f41
  exact ⟨_,_,hf,hnm,rfl⟩
 ·intro r hr
  simp only [GH] at hr
  subst hr
  rfl
 ·obtain ⟨v,rest,rfl,hv,hrest⟩:=ha
  have hrest:rest=[]:=hrest
  subst hrest
  ··obtain ⟨sl,cap,e,hc,hr⟩:=(show Gx (Bz H K) K.sz H xs v from hv)
    subst e
    have fin:∀ (v':Value) (w':World) (flat:List Value),w'.ownsRow w.heap.size (ρ.t 23) K.sz v' xs.length flat->BB H K xs flat->w.grownBy w' none->Dm H φ w [.lst K xs] [] [] [.new (ρ.t 23) K xs] v' w':=by
     intro v' w' flat ho hrr hg
     have hst:=G1 (st:=AW [] [.lst K xs]) hs hg ho hrr
     refine Oc (rs:=[.new (ρ.t 23) K xs]) hst ?_
     exact ⟨rfl,rfl⟩
    cases sl with
    | none =>
     have:xs=[]:=by
      rcases hr with h | ⟨_,_,_,_,_,h,_⟩
      ·exact h
      ·cases h
     subst this
     refine Calls.mono (P8 L _ _ w) fun out w' h=>?_
     obtain ⟨rfl,rfl⟩:=h
     exact fin _ _ [] ⟨by simp,.inl ⟨rfl,rfl⟩⟩ (fun j x h=>by simp at h) ⟨rfl,rfl,rfl,Nat.le_refl _,fun _ _ _=>rfl⟩
    | some ad =>
     obtain ⟨sl2,cap2,flat,e2,_,hl,hrr,hcl⟩:=M4 hs.hp (show Gx (Bz H K) K.sz H xs (.slice (some ad) xs.length cap) from ⟨some ad,cap,rfl,hc,hr⟩)
     cases e2
     refine Calls.mono (Qz L i z K.sz i.bytes hi hz h1 rfl h3 (Kd.sz_pos K) (fun w=>by simp [sizeOf,typeInfo,hi,h1]) ad xs.length cap flat w hl hn (Nat.le_trans (Nat.mul_le_mul hx h2) (by omega)) ?_ (BH hrr hl)) fun out w' h=>?_
     ·intro j u hj
      rcases hcl with rfl | ⟨b,off,c,el,fz,ea,hb,hcc⟩
      ·have:flat=[]:=CF.1 (by rw [hl]; simp)
       rw [this] at hj
       simp at hj
      ·cases ea
       rw [Addr.add_none]
       have:=hs.hp _ _ hb
       have h5:=hcc j u hj
       simp only [World.cell?,this]
       simpa using h5
     ·obtain ⟨v',rfl,ho,hg⟩:=h
      exact fin v' w' flat ho hrr hg

theorem FD (w:World) (dT sT ty elem:TypeId) (g o dLen dCap:Nat) (a:Addr) (sLen sCap:Nat) (cur:Array Value) (t:TypeId) (cs:List Value) (k:Nat) (i:TypeInfo)
  (hu:P.underlying dT=some (.slice elem)) (hi:P.info? elem=some i) (hg:w.heap[g]? = some (.cells cur t (0,0))) (hk:Nat.min sLen dLen=k) (hn:cs.length=k*i.size)
  (hsrc:∀ j v,cs[j]? = some v->w.cell? (a.add j)=some v) (hfit:o+cs.length<=cur.size) (h1:∀ v∈cs,v.oneCell'=true) :
  (Builtin.copy_ #[dT,sT] ty #[.slice (some ⟨g,o,none⟩) dLen dCap,.slice (some a) sLen sCap]).run P w =
   .ok (goInt k) (w.setRow g (cur.toList.take o++cs++cur.toList.drop (o+cs.length)).toArray):=by
 have hl:=run_loadCells_list (P:=P) w a cs hsrc
 have hst:=run_storeCells_at P g o t cs 0 cur w hg (by simpa using hfit) h1
 simp [Builtin.copy_,run_underlying hu,Builtin.lenOf,Builtin.firstCells,sizeOf,typeInfo,hi,hk,<- hn,hl,hst]
theorem Jp (w:World) (t tn ty e:TypeId) (i:TypeInfo) (z:Value) (kn:IntKind) (ht:P.underlying t=some (.slice e)) (htn:P.underlying tn=some (.int kn)) (hi:P.info? e=some i) (hz:i.zero=some z)
  (b:Addr) (sLen sCap:Nat) (olds:List Value) (hlo:olds.length=sLen*i.size) (holds:∀ j v,olds[j]? = some v->w.cell? (b.add j)=some v) (n:Nat) (h0:0<n) (hs:0<i.size)
  (hg:sCap<sLen+n) (h63:((sLen+n:Nat):Int)<=9223372036854775807) (h48:n*i.bytes<=281474976710656) (hfit:Builtin.nextslicecap (sLen+n) sCap*i.bytes<=281474976710656) (k:IntKind) :
  (Builtin.append_ #[t,tn] ty #[.slice (some b) sLen sCap,.int k n]).run P w =
   .ok (.slice (some ⟨w.heap.size,0,none⟩) (sLen+n) (grownCap w (sLen+n) sCap e))
    (w.drew.alloc (.cells (olds.toArray++Builtin.zeroCells z.cells n++Builtin.zeroCells z.cells (grownCap w (sLen+n) sCap e-(sLen+n))) e)):=by
 have hn:¬ (sLen+n<=sCap):=by omega
 have hw:IntKind.i64.wrap (n:Int)=n:=by rw [IntKind.wrap_i64]; omega
 have h63':¬ (9223372036854775807<((sLen:Int)+(n:Int))):=by omega
 have h48':¬ (281474976710656<Builtin.nextslicecap (sLen+n) sCap*i.bytes):=by omega
 have h48i:¬ (281474976710656<(n:Int)*(i.bytes:Int)):=by
  rw [<- Int.natCast_mul]
  omega
 have hneg:¬ ((n:Int)<0):=by omega
 have hn0:n≠0:=by omega
 have hns:¬ (n*i.size=0):=Nat.mul_ne_zero hn0 (by omega)
 have hfo:=run_firstCells_some (P:=P) w.drew i.size sLen b sLen sCap olds hlo (by simpa using holds)
 simp [Builtin.append_,run_underlying ht,run_underlying htn,sizeOf,typeInfo,zeroValue,hi,hz,asInt,asIntOf,hw,hn,hn0,hneg,hns,h63',h48',h48i,Question.forced,hfo,newRow,grownCap]
 try (congr 2; apply Array.ext'; simp [Ap])
structure Q1 (P:Program) (ρ:Ren):Prop where
 mixed:P.follows .mixedOrders=true
 f22:Bears P (ρ.f 22) (Body2.n22 ρ)
 ov:∀ args w,(callFunc (ρ.f 29) args).run P w=((Extern.SlicesOverlaps.overlaps #[(ρ.t 24),(ρ.t 24)] #[(ρ.t 4)] args).run P w).andThen fun v w'=>.ok (.value v) w'
 t3:P.underlying (ρ.t 3)=some (TypeDesc.int IntKind.i64)
 a3:∀ w,(isAgg (ρ.t 3)).run P w=.ok false w
 z3:∀ w,(Go.sizeOf (ρ.t 3)).run P w=.ok 1 w
 v3:∀ w,(zeroValue (ρ.t 3)).run P w=.ok (Value.int IntKind.i64 0) w
 t4:P.underlying (ρ.t 4)=some (TypeDesc.bool)
 a4:∀ w,(isAgg (ρ.t 4)).run P w=.ok false w
 z4:∀ w,(Go.sizeOf (ρ.t 4)).run P w=.ok 1 w
 v4:∀ w,(zeroValue (ρ.t 4)).run P w=.ok (Value.bool false) w
 t24:P.underlying (ρ.t 24)=some (TypeDesc.slice (ρ.t 9))
 a24:∀ w,(isAgg (ρ.t 24)).run P w=.ok false w
 z24:∀ w,(Go.sizeOf (ρ.t 24)).run P w=.ok 1 w
 v24:∀ w,(zeroValue (ρ.t 24)).run P w=.ok (Value.slice none 0 0) w
set_option maxHeartbeats 4000000 in
set_option maxRecDepth 100000 in
theorem O7 (L:Q1 P ρ) (i0:TypeInfo) (z:Value) (size bytes:Nat) (hi:P.info? (ρ.t 9)=some i0) (hz0:i0.zero=some z) (hz1:i0.size=size) (hz2:i0.bytes=bytes) (hzs:z.cells.size=size) (hsz:0<size)
  (z9:∀ w,(Go.sizeOf (ρ.t 9)).run P w=.ok size w) (v:Value) (base:Option Addr) (n cap:Nat) (hv:v=.slice base n cap) (xs:List Value) (w:World) (hown:w.ownsRow 0 (ρ.t 9) size v n xs) (ad:Addr) (m vc:Nat) (news:List Value) (hm:0<m)
  (hl:news.length=m*size) (hn:n+m<=maxLen) (hbig:(n+m)*bytes<=140737488355328) (hnews:∀ j u,news[j]? = some u->w.cell? (ad.add j)=some u) (h1:∀ u∈news,u.oneCell'=true) :
  Calls P (ρ.f 22) #[v,.int .i64 n,.slice (some ad) m vc] w fun e w'=>∃ v',e=.returned v'/\w'.ownsRow 0 (ρ.t 9) size v' (n+m) (xs++news)/\w.grownBy w' v.ownBlock/\(v'.ownBlock=v.ownBlock\/v'.ownBlock=some w.heap.size):=by
 subst hv
 have mixed:=L.mixed; have t3:=L.t3; have a3:=L.a3; have z3:=L.z3; have v3:=L.v3; have t4:=L.t4; have a4:=L.a4; have z4:=L.z4; have v4:=L.v4; have t24:=L.t24; have a24:=L.a24; have z24:=L.z24; have v24:=L.v24
 have u3:=run_underlying L.t3; have u4:=run_underlying L.t4; have u24:=run_underlying L.t24
 have hz1':¬ ((m:Int)=0):=by omega
 have hob:∀ c,(Value.slice base n c).ownBlock=(Value.slice base n cap).ownBlock:=fun c=>by cases base<;>rfl
 have hcap:n<=cap:=by
  rcases hown.2 with ⟨e,e2⟩ | ⟨g,c,cur,e,_,_,h,_⟩
  ·omega
  ·cases e; exact h
 have A:Aside (∀ j u,news[j]? = some u->w.cell? (ad.add j)=some u):=hnews
 clear hnews
 obtain ⟨_,_,FG⟩:=L.f22
 go_enter FG,Body2.n22_ntmps ρ
 go_wp2_with (at_builtin; refine wpList_append_own_at _ rfl _ _ (ρ.t 24) rfl 0 (ρ.t 9) i0 z size bytes t24 hi hz0 hz1 hz2 hzs hsz _ _ _ rfl hown ad m vc news rfl ?qc1 ?qc2 ?qc3 ?qc4 ?qc5 ?qc6 ?_)
 all_goals first
  | exact hl
  | exact A.out
  | exact h1
  | exact hn
  | exact hbig
  | exact Nat.zero_le _
  | (
   intro v' w1 ho hgrow hnil hblk
   go_wp2
   go_ret
   exact ⟨v',rfl,ho,by rw [<- hob]; exact hgrow,by rw [<- hob]; exact hblk⟩)
theorem Q2 {α:Type} (c V:List α) (I M N:Nat) (hI:I<=N) (hV:V.length=M) (hN:N+M<=c.length) :
  (((c.take (I+M)++(c.take N).drop I++c.drop (I+M+(N-I))).take I++V++(c.take (I+M)++(c.take N).drop I++c.drop (I+M+(N-I))).drop (I+M)).take (N+M))=c.take I++V++(c.take N).drop I:=by
 have l1:(c.take (I+M)).length=I+M:=by rw [List.length_take]; omega
 have l2:((c.take N).drop I).length=N-I:=by rw [List.length_drop,List.length_take]; omega
 have e1:(c.take (I+M)++(c.take N).drop I++c.drop (I+M+(N-I))).take I=c.take I:=by
  rw [Ap,List.take_append_of_le_length (by omega),List.take_take,Nat.min_eq_left (by omega)]
 have e2:(c.take (I+M)++(c.take N).drop I++c.drop (I+M+(N-I))).drop (I+M)=(c.take N).drop I++c.drop (I+M+(N-I)):=by
  rw [Ap,List.drop_append_of_le_length (by omega),List.drop_of_length_le (by omega),List.nil_append]
 rw [e1,e2,<- Ap]
 have l3:(c.take I++V++(c.take N).drop I).length=N+M:=by simp only [List.length_append,l2,hV,List.length_take]; omega
 rw [List.take_append_of_le_length (by omega),<- l3,List.take_length]
theorem EK (w:World) (g:Nat) (c:Array Value):(w.setRow g c).heap.size=w.heap.size:=by
 unfold World.setRow
 exact Array.size_modify
theorem Od {w:World} {b:Nat} {c:Array Value} {t:TypeId} {fz:Nat×Nat} (h:w.heap[b]? = some (.cells c t fz)):w.shape? b=some (t,c.size):=by simp [World.shape?,h]
theorem NJ {w:World} {b o:Nat} {c:Array Value} {t:TypeId} (h:w.heap[b]? = some (.cells c t (0,0))):w.frozen? ⟨b,o,none⟩=false:=by simp [World.frozen?,h]
theorem FE {w:World} {b o:Nat} {c:Array Value} {t:TypeId} {fz:Nat×Nat} (h:w.heap[b]? = some (.cells c t fz)):w.cell? ⟨b,o,none⟩=c[o]? := by simp [World.cell?,h]
set_option maxHeartbeats 8000000 in
set_option maxRecDepth 100000 in
theorem Ny (L:Q1 P ρ) (i0:TypeInfo) (z:Value) (size bytes:Nat) (hi:P.info? (ρ.t 9)=some i0) (hz0:i0.zero=some z) (hz1:i0.size=size) (hz2:i0.bytes=bytes) (hzs:z.cells.size=size) (hsz:0<size)
  (z9:∀ w,(Go.sizeOf (ρ.t 9)).run P w=.ok size w) (g n cap i:Nat) (cur:Array Value) (w:World) (hg:w.heap[g]? = some (.cells cur (ρ.t 9) (0,0))) (hcs:cur.size=cap*size) (hin:i<n) (vb m vc:Nat) (vcur:Array Value) (hgv:w.heap[vb]? = some (.cells vcur (ρ.t 9) (0,0))) (hvb:vb≠g)
  (hm:0<m) (hroom:n+m<=cap) (hcm:cap<=maxLen) (hvl:m*size<=vcur.size) (h1:∀ u∈cur.toList.take (n*size),u.oneCell'=true) (h1v:∀ u∈vcur.toList.take (m*size),u.oneCell'=true) (hkB:cur.size≠0) :
  Calls P (ρ.f 22) #[.slice (some ⟨g,0,none⟩) n cap,.int .i64 i,.slice (some ⟨vb,0,none⟩) m vc] w fun e w'=>e=.returned (.slice (some ⟨g,0,none⟩) (n+m) cap) /\
   ∃ cur',w'.heap[g]? = some (.cells cur' (ρ.t 9) (0,0))/\cur'.size=cap*size/\cur'.toList.take ((n+m)*size)=cur.toList.take (i*size)++vcur.toList.take (m*size)++(cur.toList.take (n*size)).drop (i*size)/\w.grownBy w' (some g):=by
 have mixed:=L.mixed; have t3:=L.t3; have a3:=L.a3; have z3:=L.z3; have v3:=L.v3; have t4:=L.t4; have a4:=L.a4; have z4:=L.z4; have v4:=L.v4; have t24:=L.t24; have a24:=L.a24; have z24:=L.z24; have v24:=L.v24
 have u3:=run_underlying L.t3; have u4:=run_underlying L.t4; have u24:=run_underlying L.t24
 have hcm':cap<=9223372036854775807:=hcm
 have hz1':¬ ((m:Int)=0):=by omega
 have hz2':¬ ((i:Int)=(n:Int)):=by omega
 have hw1:IntKind.i64.wrap ((i:Int)+(m:Int))=(i:Int)+(m:Int):=by rw [IntKind.wrap_i64]; omega
 have hw2:IntKind.i64.wrap ((n:Int)+(m:Int))=(n:Int)+(m:Int):=by rw [IntKind.wrap_i64]; omega
 have hb1:(0:Int)<=(i:Int)+(m:Int):=by omega
 have hin':i<=n:=by omega
 have htn:((i:Int)+(m:Int)).toNat=i+m:=by omega
 have htn2:((n:Int)+(m:Int)).toNat=n+m:=by omega
 have hb2:¬ (cap=i+m):=by omega
 have hb3:(i:Int)<=(n:Int)+(m:Int):=by omega
 have hb4:¬ (cap=i):=by omega
 have hb5:¬ ((n:Int)+(m:Int)>(cap:Int)):=by omega
 have hov:∀ o lb cb,(callFunc (ρ.f 29) #[.slice (some ⟨vb,0,none⟩) m vc,.slice (some ⟨g,o,none⟩) lb cb]).run P w=.ok (.value (.bool false)) w:=fun o lb cb=>by
  rw [L.ov,Lib.run_overlaps_apart w (ρ.t 24) (ρ.t 4) (ρ.t 9) L.t24 size z9 ⟨vb,0,none⟩ ⟨g,o,none⟩ m vc lb cb hvb _ _ _ _ (Od hgv) (Od hg) hkB (NJ hgv) (NJ hgv)]
  rfl
 have e1:(i+m)*size=i*size+m*size:=Nat.add_mul i m size
 have e2:(n+m)*size=n*size+m*size:=Nat.add_mul n m size
 have e3:(n-i)*size=n*size-i*size:=Nat.sub_mul n i size
 have e4:i*size<=n*size:=As size hin'
 have e5:n*size+m*size<=cur.size:=by rw [hcs,<- e2]; exact As size hroom
 have lm:((cur.toList.take (n*size)).drop (i*size)).length=(n-i)*size:=by rw [List.length_drop,List.length_take,Array.length_toList,e3]; omega
 have hcp1:∀ ty dc sc,(Builtin.copy_ #[(ρ.t 24),(ρ.t 24)] ty #[.slice (some ⟨g,(i+m)*size,none⟩) (n+m-(i+m)) dc,.slice (some ⟨g,i*size,none⟩) (n+m-i) sc]).run P w.drew=.ok (goInt ((n-i:Nat):Int)) (w.drew.setRow g (cur.toList.take ((i+m)*size)++(cur.toList.take (n*size)).drop (i*size)++cur.toList.drop ((i+m)*size+((cur.toList.take (n*size)).drop (i*size)).length)).toArray):=fun ty dc sc =>
  FD w.drew _ _ ty (ρ.t 9) g ((i+m)*size) (n+m-(i+m)) dc ⟨g,i*size,none⟩ (n+m-i) sc cur (ρ.t 9) _ (n-i) i0 L.t24 hi hg (by simp only [Nat.min_def]; split<;>omega) (by rw [lm,hz1])
   (fun j v hj=>by
    rw [Addr.add_none]
    have:w.drew.cell? ⟨g,i*size+j,none⟩=cur[i*size+j]? := FE hg
    rw [this,<- hj,Ax,Ad]
    have:i*size+j<n*size:=by
     have:=(AF.1 hj).1
     omega
    rw [if_pos this,Array.getElem?_toList])
   (by rw [lm,e1,e3]; omega) (fun v hv=>h1 v (List.mem_of_mem_drop hv))
 obtain ⟨cur1,hcur1⟩:∃ c1,c1=(cur.toList.take ((i+m)*size)++(cur.toList.take (n*size)).drop (i*size)++cur.toList.drop ((i+m)*size+((cur.toList.take (n*size)).drop (i*size)).length)).toArray:=⟨_,rfl⟩
 rw [<- hcur1] at hcp1
 have hs1:cur1.size=cap*size:=by
  rw [hcur1,List.size_toArray]
  simp only [List.length_append,List.length_take,List.length_drop,Array.length_toList,e1]
  omega
 have hg1:(w.drew.setRow g cur1).heap[g]? = some (.cells cur1 (ρ.t 9) (0,0)):=setRow_heap w.drew g cur cur1 (ρ.t 9) _ hg
 have hgv1:(w.drew.setRow g cur1).heap[vb]? = some (.cells vcur (ρ.t 9) (0,0)):=by rw [setRow_other w.drew g vb cur1 hvb]; exact hgv
 have lv:(vcur.toList.take (m*size)).length=m*size:=by rw [List.length_take,Array.length_toList]; omega
 have hcp2:∀ (W:World),W.heap=(w.drew.setRow g cur1).heap->∀ ty dc,(Builtin.copy_ #[(ρ.t 24),(ρ.t 24)] ty #[.slice (some ⟨g,i*size,none⟩) (n+m-i) dc,.slice (some ⟨vb,0,none⟩) m vc]).run P W=.ok (goInt m) (W.setRow g (cur1.toList.take (i*size)++vcur.toList.take (m*size)++cur1.toList.drop (i*size+(vcur.toList.take (m*size)).length)).toArray):=fun W hW ty dc =>
  FD W _ _ ty (ρ.t 9) g (i*size) (n+m-i) dc ⟨vb,0,none⟩ m vc cur1 (ρ.t 9) _ m i0 L.t24 hi (by rw [hW]; exact hg1) (by simp only [Nat.min_def]; split<;>omega) (by rw [lv,hz1])
   (fun j v hj=>by
    rw [Addr.add_none,FE (by rw [hW]; exact hgv1),<- hj,Ad,Nat.zero_add]
    have:j<m*size:=by
     have:=(AF.1 hj).1
     omega
    rw [if_pos this,Array.getElem?_toList])
   (by rw [lv]; omega) h1v
 clear e1 e2 e3
 obtain ⟨_,_,FG⟩:=L.f22
 go_enter FG,Body2.n22_ntmps ρ
 go_wp2_with (simp only [hov])
 go_region_law_o (refine step_copy_runI rfl _ _ (ρ.t 24) (ρ.t 24) rfl _ _ (by simp [Act.eval,Act.put]) (by simp [Act.eval,Act.put]) (hcp1 _ _ _) ?_)
 go_wp2_with (at_builtin; refine wpList_copy_runI _ rfl _ _ (ρ.t 24) (ρ.t 24) rfl _ _ rfl rfl (hcp2 _ rfl _ _) ?_)
 go_ret
 have e1:(i+m)*size=i*size+m*size:=Nat.add_mul i m size
 have e2:(n+m)*size=n*size+m*size:=Nat.add_mul n m size
 have e3:(n-i)*size=n*size-i*size:=Nat.sub_mul n i size
 have e6:cur.toList.length=cap*size:=by rw [Array.length_toList,hcs]
 have e7:vcur.toList.length=vcur.size:=Array.length_toList
 refine ⟨rfl,_,setRow_heap _ g _ _ _ _ (setRow_heap w.drew g cur _ (ρ.t 9) _ hg),?_,?_,⟨rfl,rfl,rfl,by rw [EK,EK]; exact Nat.le_refl _,fun k hk hne=>?_⟩⟩
 ·simp only [List.size_toArray,List.length_append,List.length_take,List.length_drop,e1,e3,e6,e7]
  omega
 ·have:=Q2 cur.toList (vcur.toList.take (m*size)) (i*size) (m*size) (n*size) e4 lv (by omega)
  simp only [e1,e2,e3]
  simpa only [Ap] using this
 ·have hk':k≠g:=fun e=>hne (by rw [e])
  rw [setRow_other _ g k _ hk',setRow_other _ g k _ hk']
  rfl
set_option maxHeartbeats 8000000 in
set_option maxRecDepth 100000 in
theorem Oe (L:Q1 P ρ) (i0:TypeInfo) (z:Value) (size bytes:Nat) (hi:P.info? (ρ.t 9)=some i0) (hz0:i0.zero=some z) (hz1:i0.size=size) (hz2:i0.bytes=bytes) (hzs:z.cells.size=size) (hsz:0<size)
  (z9:∀ w,(Go.sizeOf (ρ.t 9)).run P w=.ok size w) (g n cap i:Nat) (cur:Array Value) (w:World) (hg:w.heap[g]? = some (.cells cur (ρ.t 9) (0,0))) (hcs:cur.size=cap*size) (hin:i<n) (vb m vc:Nat) (vcur:Array Value) (hgv:w.heap[vb]? = some (.cells vcur (ρ.t 9) (0,0))) (hvb:vb≠g)
  (hm:0<m) (hnc:n<=cap) (hroom:cap<n+m) (hcm:n+m<=68719476736) (hby:bytes<=2048) (hvl:m*size<=vcur.size) (h1:∀ u∈cur.toList.take (n*size),u.oneCell'=true) (h1v:∀ u∈vcur.toList.take (m*size),u.oneCell'=true) :
  Calls P (ρ.f 22) #[.slice (some ⟨g,0,none⟩) n cap,.int .i64 i,.slice (some ⟨vb,0,none⟩) m vc] w fun e w'=>∃ cap',e=.returned (.slice (some ⟨w.heap.size,0,none⟩) (n+m) cap')/\n+m<=cap'/\cap'<=maxLen /\
   ∃ cur',w'.heap[w.heap.size]? = some (.cells cur' (ρ.t 9) (0,0))/\cur'.size=cap'*size/\cur'.toList.take ((n+m)*size)=cur.toList.take (i*size)++vcur.toList.take (m*size)++(cur.toList.take (n*size)).drop (i*size)/\w.grownBy w' none:=by
 have mixed:=L.mixed; have t3:=L.t3; have a3:=L.a3; have z3:=L.z3; have v3:=L.v3; have t4:=L.t4; have a4:=L.a4; have z4:=L.z4; have v4:=L.v4; have t24:=L.t24; have a24:=L.a24; have z24:=L.z24; have v24:=L.v24
 have u3:=run_underlying L.t3; have u4:=run_underlying L.t4; have u24:=run_underlying L.t24
 have hcm':n+m<=9223372036854775807:=by omega
 have hz1':¬ ((m:Int)=0):=by omega
 have hz2':¬ ((i:Int)=(n:Int)):=by omega
 have hw1:IntKind.i64.wrap ((i:Int)+(m:Int))=(i:Int)+(m:Int):=by rw [IntKind.wrap_i64]; omega
 have hw2:IntKind.i64.wrap ((n:Int)+(m:Int))=(n:Int)+(m:Int):=by rw [IntKind.wrap_i64]; omega
 have hw3:IntKind.i64.wrap ((n:Int)+(m:Int)-(i:Int))=(n:Int)+(m:Int)-(i:Int):=by rw [IntKind.wrap_i64]; omega
 have hb1:(0:Int)<=(i:Int)+(m:Int):=by omega
 have hin':i<=n:=by omega
 have htn:((i:Int)+(m:Int)).toNat=i+m:=by omega
 have htn2:((n:Int)+(m:Int)).toNat=n+m:=by omega
 have hb4:¬ (cap=i):=by omega
 have hb5:(n:Int)+(m:Int)>(cap:Int):=by omega
 have hb6:¬ (cap=0):=by omega
 have e1:(i+m)*size=i*size+m*size:=Nat.add_mul i m size
 have e2:(n+m)*size=n*size+m*size:=Nat.add_mul n m size
 have e3:(n-i)*size=n*size-i*size:=Nat.sub_mul n i size
 have e4:i*size<=n*size:=As size hin'
 have e5:n*size<=cur.size:=by rw [hcs]; exact As size hnc
 have lo:(cur.toList.take (i*size)).length=i*size:=by rw [List.length_take,Array.length_toList]; omega
 have lv:(vcur.toList.take (m*size)).length=m*size:=by rw [List.length_take,Array.length_toList]; omega
 have lm:((cur.toList.take (n*size)).drop (i*size)).length=(n-i)*size:=by rw [List.length_drop,List.length_take,Array.length_toList,e3]; omega
 have hgl:g<w.heap.size:=(Array.getElem?_eq_some_iff.1 hg).1
 have hvl2:vb<w.heap.size:=(Array.getElem?_eq_some_iff.1 hgv).1
 have hbb:(n+m)*bytes<=140737488355328:=Nat.le_trans (Nat.mul_le_mul hcm hby) (by omega)
 obtain ⟨C,new,hap,hC1,hC2,hns,hnt⟩:∃ (C:Nat) (new:Array Value),(∀ ty,(Builtin.append_ #[(ρ.t 24),(ρ.t 3)] ty #[.slice (some ⟨g,0,none⟩) i cap,.int .i64 ((n:Int)+(m:Int)-(i:Int))]).run P w=.ok (.slice (some ⟨w.heap.size,0,none⟩) (n+m) C) (w.drew.alloc (.cells new (ρ.t 9)))) /\
   n+m<=C/\C<=maxLen/\new.size=C*size/\new.toList.take (i*size)=cur.toList.take (i*size):=by
  have hsum:i+(n+m-i)=n+m:=by omega
  have hge:=grownCap_ge w (n+m) cap (ρ.t 9)
  refine ⟨grownCap w (n+m) cap (ρ.t 9),(cur.toList.take (i*size)).toArray++Builtin.zeroCells z.cells (n+m-i)++Builtin.zeroCells z.cells (grownCap w (n+m) cap (ρ.t 9)-(n+m)),fun ty=>?_,hge,grownCap_le_maxLen _ _ _ _ (by unfold maxLen; omega),?_,?_⟩
  ·have:=Jp (P:=P) w (ρ.t 24) (ρ.t 3) ty (ρ.t 9) i0 z .i64 L.t24 L.t3 hi hz0 ⟨g,0,none⟩ i cap (cur.toList.take (i*size)) (by rw [lo,hz1]) (fun j v hj=>by
     rw [Addr.add_none,FE hg,<- hj,Ad,Nat.zero_add]
     have:j<i*size:=by
      have:=(AF.1 hj).1
      omega
     rw [if_pos this,Array.getElem?_toList]) (n+m-i) (by omega) (by omega) (by omega) (by omega) (by rw [hz2]; exact Nat.le_trans (As bytes (Nat.sub_le _ _)) (by omega)) (by rw [hsum,hz2]; exact growslice_fits hroom hbb) .i64
   rw [hsum,show ((n+m-i:Nat):Int)=(n:Int)+(m:Int)-(i:Int) by omega] at this
   exact this
  ·simp only [Array.size_append,List.size_toArray,size_zeroCells,hzs,lo,<- Nat.add_mul]
   congr 1
   omega
  ·simp only [Array.toList_append,Ap]
   exact (congrArg (fun k=>List.take k _) lo.symm).trans (by rw [List.take_left])
 have hW1:(w.drew.alloc (.cells new (ρ.t 9))).heap[w.heap.size]? = some (.cells new (ρ.t 9) (0,0)):=heap_alloc_new w.drew _
 have hW1o:∀ k,k<w.heap.size->(w.drew.alloc (.cells new (ρ.t 9))).heap[k]? = w.heap[k]? := fun k hk=>heap_alloc_old w.drew _ hk
 have e8:i*size+m*size<=new.size:=by rw [hns,<- e1]; exact As size (by omega)
 have e9:n*size+m*size<=new.size:=by rw [hns,<- e2]; exact As size (by omega)
 have hcp1:∀ (W:World),W.heap=(w.drew.alloc (.cells new (ρ.t 9))).heap->∀ ty dc,(Builtin.copy_ #[(ρ.t 24),(ρ.t 24)] ty #[.slice (some ⟨w.heap.size,i*size,none⟩) (n+m-i) dc,.slice (some ⟨vb,0,none⟩) m vc]).run P W=.ok (goInt m) (W.setRow w.heap.size (new.toList.take (i*size)++vcur.toList.take (m*size)++new.toList.drop (i*size+(vcur.toList.take (m*size)).length)).toArray):=fun W hW ty dc =>
  FD W _ _ ty (ρ.t 9) w.heap.size (i*size) (n+m-i) dc ⟨vb,0,none⟩ m vc new (ρ.t 9) _ m i0 L.t24 hi (by rw [hW]; exact hW1) (by simp only [Nat.min_def]; split<;>omega) (by rw [lv,hz1])
   (fun j v hj=>by
    rw [Addr.add_none,FE (by rw [hW,hW1o vb hvl2]; exact hgv),<- hj,Ad,Nat.zero_add]
    have:j<m*size:=by
     have:=(AF.1 hj).1
     omega
    rw [if_pos this,Array.getElem?_toList])
   (by rw [lv]; omega) h1v
 obtain ⟨cur1,hcur1⟩:∃ c1,c1=(new.toList.take (i*size)++vcur.toList.take (m*size)++new.toList.drop (i*size+(vcur.toList.take (m*size)).length)).toArray:=⟨_,rfl⟩
 rw [<- hcur1] at hcp1
 have hln:new.toList.length=new.size:=Array.length_toList
 have hs1:cur1.size=C*size:=by
  rw [hcur1,List.size_toArray,<- hns]
  simp only [List.length_append,List.length_take,List.length_drop,hln,lv]
  omega
 have hcp2:∀ (W:World),W.heap=((w.drew.alloc (.cells new (ρ.t 9))).setRow w.heap.size cur1).heap->∀ ty dc sc,(Builtin.copy_ #[(ρ.t 24),(ρ.t 24)] ty #[.slice (some ⟨w.heap.size,(i+m)*size,none⟩) (n+m-(i+m)) dc,.slice (some ⟨g,i*size,none⟩) (n-i) sc]).run P W=.ok (goInt ((n-i:Nat):Int)) (W.setRow w.heap.size (cur1.toList.take ((i+m)*size)++(cur.toList.take (n*size)).drop (i*size)++cur1.toList.drop ((i+m)*size+((cur.toList.take (n*size)).drop (i*size)).length)).toArray):=fun W hW ty dc sc =>
  FD W _ _ ty (ρ.t 9) w.heap.size ((i+m)*size) (n+m-(i+m)) dc ⟨g,i*size,none⟩ (n-i) sc cur1 (ρ.t 9) _ (n-i) i0 L.t24 hi (by rw [hW]; exact setRow_heap _ _ new cur1 _ _ hW1) (by simp only [Nat.min_def]; split<;>omega) (by rw [lm,hz1])
   (fun j v hj=>by
    rw [Addr.add_none,FE (by rw [hW,setRow_other _ _ g _ (by omega),hW1o g hgl]; exact hg),<- hj,Ax,Ad]
    have:i*size+j<n*size:=by
     have:=(AF.1 hj).1
     omega
    rw [if_pos this,Array.getElem?_toList])
   (by rw [lm,hs1,<- hns,e1,e3]; omega) (fun v hv=>h1 v (List.mem_of_mem_drop hv))
 have fin:(cur1.toList.take ((i+m)*size)++(cur.toList.take (n*size)).drop (i*size)++cur1.toList.drop ((i+m)*size+((cur.toList.take (n*size)).drop (i*size)).length)).take ((n+m)*size)=cur.toList.take (i*size)++vcur.toList.take (m*size)++(cur.toList.take (n*size)).drop (i*size):=by
  have l1:(new.toList.take (i*size)).length=i*size:=by rw [List.length_take,hln]; omega
  have t1:cur1.toList.take ((i+m)*size)=cur.toList.take (i*size)++vcur.toList.take (m*size):=by
   rw [hcur1,<- hnt,e1]
   have l2:(new.toList.take (i*size)++vcur.toList.take (m*size)).length=i*size+m*size:=by rw [List.length_append,l1,lv]
   exact (congrArg (fun k=>List.take k _) l2.symm).trans (by rw [List.take_left])
  rw [t1]
  have l3:(cur.toList.take (i*size)++vcur.toList.take (m*size)++(cur.toList.take (n*size)).drop (i*size)).length=(n+m)*size:=by
   simp only [List.length_append,lo,lv,lm,e2,e3]
   omega
  exact (congrArg (fun k=>List.take k _) l3.symm).trans (by rw [List.take_left])
 obtain ⟨cur2,hcur2⟩:∃ c2,c2=(cur1.toList.take ((i+m)*size)++(cur.toList.take (n*size)).drop (i*size)++cur1.toList.drop ((i+m)*size+((cur.toList.take (n*size)).drop (i*size)).length)).toArray:=⟨_,rfl⟩
 rw [<- hcur2] at hcp2
 have hs2:cur2.size=C*size:=by
  rw [hcur2,List.size_toArray,<- hs1]
  simp only [List.length_append,List.length_take,List.length_drop,Array.length_toList,lm,e1,e3]
  omega
 have fin2:cur2.toList.take ((n+m)*size)=cur.toList.take (i*size)++vcur.toList.take (m*size)++(cur.toList.take (n*size)).drop (i*size):=by rw [hcur2]; exact fin
 clear e1 e2 e3 hcur1 hcur2 fin
 obtain ⟨W1,hW1d⟩:∃ W1,W1=w.drew.alloc (.cells new (ρ.t 9)):=⟨_,rfl⟩
 have hWs:W1.heap.size=w.heap.size+1:=by rw [hW1d]; exact Array.size_push _
 have hWos:W1.os=w.os/\W1.tape=w.tape/\W1.output=w.output:=by rw [hW1d]; exact ⟨rfl,rfl,rfl⟩
 rw [<- hW1d] at hW1 hW1o hcp1 hcp2 hap
 clear hW1d
 have hcp3:=hcp2 (W1.setRow w.heap.size cur1).drew rfl
 clear hcp2
 have hb7:¬ (C=i+m):=by omega
 have hb8:¬ (C=i):=by omega
 obtain ⟨_,_,FG⟩:=L.f22
 go_enter FG,Body2.n22_ntmps ρ
 go_wp2_with (at_builtin; refine Lib.wpList_append_run _ rfl _ _ (ρ.t 24) (ρ.t 3) rfl _ _ rfl rfl _ _ (hap _) ?_)
 go_region_law_o (refine step_copy_runI rfl _ _ (ρ.t 24) (ρ.t 24) rfl _ _ (by simp [Act.eval,Act.put]) (by simp [Act.eval,Act.put]) (hcp3 _ _ _) ?_)
 go_wp2
 go_ret
 refine ⟨C,rfl,hC1,hC2,cur2,setRow_heap _ _ cur1 cur2 _ _ (setRow_heap _ _ new cur1 _ _ hW1),hs2,fin2,⟨hWos.1,hWos.2.1,hWos.2.2,?_,fun k hk _=>?_⟩⟩
 ·rw [EK]
  show w.heap.size<=(W1.setRow w.heap.size cur1).heap.size
  rw [EK,hWs]
  omega
 ·rw [setRow_other _ _ k _ (by omega)]
  show (W1.setRow w.heap.size cur1).heap[k]? = _
  rw [setRow_other _ _ k _ (by omega),hW1o k hk]
theorem Of {H:HP} {K:Kd} {xs:List K.T} {f:List Value} (h:BB H K xs f) (i:Nat):BB H K (xs.take i) (f.take (i*K.sz)):=by
 intro j x hx
 rw [Ad] at hx
 split at hx
 ·rename_i hj
  have:=h j x hx
  have hle:(j+1)*K.sz<=i*K.sz:=As _ hj
  rw [Nat.succ_mul] at hle
  rw [List.drop_take,List.take_take,Nat.min_eq_left (by omega)]
  exact this
 ·cases hx
theorem Og {H:HP} {K:Kd} {xs:List K.T} {f:List Value} (h:BB H K xs f) (i:Nat):BB H K (xs.drop i) (f.drop (i*K.sz)):=by
 intro j x hx
 rw [Ax] at hx
 have:=h _ x hx
 rw [List.drop_drop,<- Nat.add_mul]
 exact this
theorem Nz {H:HP} {φ:Ag} {w w':World} {t:TypeId} {K:Kd} {xs vs ys:List K.T} {n:Int} {v':Value} {flat:List Value}
  (hs:SR H φ (AW [] [.new t K xs,.int .i64 n,.new t K vs]) w) (hg:w.grownBy w' (A_ (φ 0))) (hb:∀ b,A_ v'=some b->A_ (φ 0)=some b\/w.heap.size<=b)
  (ho:w'.ownsRow 0 t K.sz v' ys.length flat) (hr:BB H K ys flat):Dm H φ w [.new t K xs,.int .i64 n,.new t K vs] [] [] [.new t K ys] v' w':=by
 have hout:∀ b,A_ (φ 0)=some b->H b=none:=fun b h=>hs.out 0 (.rows t K xs) rfl rfl b h
 have hlt:∀ b o,H b=some o->b<w.heap.size:=fun b o h=>(Array.getElem?_eq_some_iff.1 (hs.hp b o h)).1
 refine ⟨H,fun _=>v',HP.le_refl H,⟨fun b o h=>?_,fun id bx hid=>?_,fun i j bi bj hi hj _ _ hne=>?_,fun i bi hi _ b hv=>?_,fun id cs hid=>?_⟩,⟨hg.os,hg.tape,hg.output,hg.size,fun b hlt hne=>hg.block b hlt (fun e=>hne 0 (by show 0<2; omega) e.symm),fun j hj=>by simp at hj,fun i bi hi _ b hv=>?_,fun j hj=>by simp at hj,fun _ _ _=>rfl⟩,⟨rfl,rfl⟩⟩
 ·rw [hg.block b (hlt b o h) (fun e=>by rw [hout b e.symm] at h; cases h)]
  exact hs.hp b o h
 ·cases id with
  | zero=>cases hid; exact ⟨flat,ho,hr⟩
  | succ k=>cases hid
 ·cases i with
  | succ k=>cases hi
  | zero =>
   cases j with
   | succ k=>cases hj
   | zero=>exact absurd rfl hne
 ·cases hh:H b with
  | none=>rfl
  | some o =>
   rcases hb b hv with h | h
   ·rw [hout b h] at hh; cases hh
   ·have:=hlt b o hh; omega
 ·cases id with
  | zero=>cases hid
  | succ k=>cases hid
 ·rcases hb b hv with h | h
  ·exact .inr ⟨0,(by show 0<2; omega),h⟩
  ·exact .inl h
theorem P9 {K:Kd} (L:Q1 P ρ) (he:PF P (ρ.t 9) K=true) {xs vs:List K.T} {i:Nat} (hx:xs.length+vs.length<=68719476736) (hv:vs≠[]) (hi:i<=xs.length) :
  IF P (ρ.f 22) [.new (ρ.t 9) K xs,.int .i64 i,.new (ρ.t 9) K vs] [] [.new (ρ.t 9) K (xs.take i++vs++xs.drop i)]:=by
 obtain ⟨i0,z,hi0,hz,h1,h2,h3,h4⟩:=G0 he
 have hm:0<vs.length:=List.length_pos_iff.2 hv
 have hsz:=Kd.sz_pos K
 refine ⟨?_,?_,1,rfl,fun H φ w cargs hs ha=>?_⟩
 ·obtain ⟨nm,hnm,hf⟩:=L.f22
  exact ⟨_,_,hf,hnm,rfl⟩
 ·intro r hr
  simp only [GH] at hr
  subst hr
  rfl
 ·obtain ⟨v0,r0,rfl,hv0,ha⟩:=ha
  obtain ⟨v1,r1,rfl,hv1,ha⟩:=ha
  obtain ⟨v2,r2,rfl,hv2,ha⟩:=ha
  have hr2:r2=[]:=ha
  subst hr2
  have e0:v0=φ 0:=hv0.1
  have e1:v1=.int .i64 i:=hv1
  have e2:v2=φ 1:=hv2.1
  subst e0 e1 e2
  obtain ⟨flat,ho,hr⟩:=hs.box 0 (.rows (ρ.t 9) K xs) rfl
  obtain ⟨flatv,hov,hrv⟩:=hs.box 1 (.rows (ρ.t 9) K vs) rfl
  have hnew:(xs.take i++vs++xs.drop i).length=xs.length+vs.length:=by simp only [List.length_append,List.length_take,List.length_drop]; omega
  have hnil:vs.length≠0:=by omega
  obtain ⟨gv,capv,curv,ev,_,hgv,hcv,hcmv,hsv,htv⟩:=hov.2.resolve_left (fun h=>hnil h.2)
  have hlv:vs.length*K.sz<=curv.size:=by rw [hsv]; exact As _ hcv
  have hn:xs.length+vs.length<=maxLen:=by unfold maxLen; omega
  have hbb:(xs.length+vs.length)*i0.bytes<=140737488355328:=Nat.le_trans (Nat.mul_le_mul hx h2) (by omega)
  have hcv2:∀ j u,flatv[j]? = some u->w.cell? ((⟨gv,0,none⟩:Addr).add j)=some u:=fun j u hj=>by
   rw [Addr.add_none,FE hgv,Nat.zero_add]
   rw [<- htv,Ad] at hj
   split at hj
   ·rwa [Array.getElem?_toList] at hj
   ·cases hj
  have one:(w.ownsRow 0 (ρ.t 9) K.sz (φ 1) vs.length flatv):=hov
  rw [ev]
  by_cases hin:i=xs.length
  ·subst hin
   obtain ⟨base,n,cap,e0,hnn⟩:∃ base n cap,φ 0=.slice base n cap/\n=xs.length:=by
    rcases ho.2 with ⟨e,h⟩ | ⟨g,cap,cur,e,_⟩
    ·exact ⟨none,0,0,e,h.symm⟩
    ·exact ⟨_,_,_,e,rfl⟩
   subst hnn
   refine Calls.mono (O7 L i0 z K.sz i0.bytes hi0 hz h1 rfl h3 hsz (fun w=>by simp [sizeOf,typeInfo,hi0,h1]) (φ 0) base _ cap e0 flat w ho ⟨gv,0,none⟩ vs.length capv flatv hm hov.1 hn hbb hcv2 (BH hrv hov.1)) fun out w' h=>?_
   obtain ⟨v',rfl,ho',hg,hbk⟩:=h
   have hbv:∀ {v:Value} {n:Nat} {fl:List Value} {ww:World},ww.ownsRow 0 (ρ.t 9) K.sz v n fl->A_ v=v.ownBlock:=fun h=>by
    rcases h.2 with ⟨e,_⟩ | ⟨g,c,cu,e,_⟩<;>rw [e]<;>rfl
   have hbl:A_ (φ 0)=(φ 0).ownBlock:=by rw [e0]; cases base<;>rfl
   refine Nz (flat:=flat++flatv) hs (by rw [hbl]; exact hg) (fun b hb=>?_) (by rw [hnew]; exact ho') ?_
   ·rw [hbv ho'] at hb
    rcases hbk with h | h
    ·exact .inl (by rw [hbl,<- h]; exact hb)
    ·rw [h] at hb
     cases hb
     exact .inr (Nat.le_refl _)
   ·rw [List.take_length,List.drop_length,List.append_nil]
    exact Cq hr ho.1 hrv
  ·have hlt:i<xs.length:=by omega
   obtain ⟨g,cap,cur,e0,_,hg,hc,hcm,hsc,ht⟩:=ho.2.resolve_left (fun h=>by omega)
   have hne:gv≠g:=fun e=>hs.sep 0 1 _ _ rfl rfl rfl rfl (by decide) g (by rw [e0]; rfl) (by rw [ev,e]; rfl)
   rw [e0]
   have z9:∀ w,(Go.sizeOf (ρ.t 9)).run P w=.ok K.sz w:=fun w=>by simp [sizeOf,typeInfo,hi0,h1]
   have hcap0:cur.size≠0:=by
    have:=As K.sz hc
    have h5:0<xs.length*K.sz:=Nat.mul_pos (by omega) hsz
    omega
   have htk:cur.toList.take (i*K.sz)=flat.take (i*K.sz):=by
    rw [<- ht,List.take_take,Nat.min_eq_left (As _ hi)]
   have hrow:∀ (cur':Array Value),cur'.toList.take ((xs.length+vs.length)*K.sz)=cur.toList.take (i*K.sz)++curv.toList.take (vs.length*K.sz)++(cur.toList.take (xs.length*K.sz)).drop (i*K.sz)->cur'.toList.take ((xs.length+vs.length)*K.sz)=flat.take (i*K.sz)++flatv++flat.drop (i*K.sz):=fun cur' h=>by rw [h,htk,htv,ht]
   have hlf:(flat.take (i*K.sz)++flatv++flat.drop (i*K.sz)).length=(xs.length+vs.length)*K.sz:=by
    have h5:=ho.1
    have h6:=hov.1
    have h7:i*K.sz<=xs.length*K.sz:=As _ hi
    simp only [List.length_append,List.length_take,List.length_drop,h5,h6,Nat.add_mul]
    omega
   have hrr:BB H K (xs.take i++vs++xs.drop i) (flat.take (i*K.sz)++flatv++flat.drop (i*K.sz)):=by
    have h5:=ho.1
    have h7:i*K.sz<=xs.length*K.sz:=As _ hi
    have l1:(flat.take (i*K.sz)).length=(xs.take i).length*K.sz:=by rw [List.length_take,List.length_take,Nat.min_eq_left hi,h5]; omega
    refine Cq (Cq (Of hr i) l1 hrv) ?_ (Og hr i)
    rw [List.length_append,List.length_append,l1,hov.1,Nat.add_mul]
   by_cases hroom:xs.length+vs.length<=cap
   ·refine Calls.mono (Ny L i0 z K.sz i0.bytes hi0 hz h1 rfl h3 hsz z9 g xs.length cap i cur w hg hsc hlt gv vs.length capv curv hgv hne hm hroom hcm hlv (by rw [ht]; exact BH hr ho.1) (by rw [htv]; exact BH hrv hov.1) hcap0) fun out w' h=>?_
    obtain ⟨rfl,cur',g1,g2,g3,g4⟩:=h
    refine Nz hs (by rw [e0]; exact g4) (fun b hb=>.inl (by rw [e0]; exact hb)) (flat:=flat.take (i*K.sz)++flatv++flat.drop (i*K.sz)) ?_ hrr
    rw [hnew]
    exact ⟨hlf,.inr ⟨g,cap,cur',rfl,Nat.zero_le _,g1,hroom,hcm,g2,hrow cur' g3⟩⟩
   ·refine Calls.mono (Oe L i0 z K.sz i0.bytes hi0 hz h1 rfl h3 hsz z9 g xs.length cap i cur w hg hsc hlt gv vs.length capv curv hgv hne hm hc (by omega) hx h2 hlv (by rw [ht]; exact BH hr ho.1) (by rw [htv]; exact BH hrv hov.1)) fun out w' h=>?_
    obtain ⟨cap',rfl,g5,g6,cur',g1,g2,g3,g4⟩:=h
    refine Nz hs ⟨g4.os,g4.tape,g4.output,g4.size,fun k hk _=>g4.block k hk (by simp)⟩ (fun b hb=>.inr (by cases hb; exact Nat.le_refl _)) (flat:=flat.take (i*K.sz)++flatv++flat.drop (i*K.sz)) ?_ hrr
    rw [hnew]
    exact ⟨hlf,.inr ⟨w.heap.size,cap',cur',rfl,Nat.zero_le _,g1,g5,g6,g2,hrow cur' g3⟩⟩
def PZ (t:TypeId) (K:Kd) (args bs:List AV):Option (List AV) :=
 match args,bs with
 | [.lst K' xs],[]=>if h:K'=K then (if xs.length<=68719476736 then some [.new t K (h▸xs)] else none) else none
 | _,_=>none
theorem Sv {t:TypeId} {K:Kd} {xs:List K.T} (h:xs.length<=68719476736):PZ t K [.lst K xs] []=some [.new t K xs]:=by simp [PZ,h]
theorem Sw {K:Kd} (L:SlLaysE0.n41 P ρ) (he:PF P (ρ.t 23) K=true) {args bs rs:List AV} (h:PZ (ρ.t 23) K args bs=some rs):IF P (ρ.f 41) args bs rs:=by
 unfold PZ at h
 split at h
 ·split at h
  ·rename_i hk
   subst hk
   split at h
   ·cases h
    exact Q0 L he (by assumption)
   ·cases h
  ·cases h
 ·cases h
def Rv (t:TypeId) (K:Kd) (args bs:List AV):Option (List AV) :=
 match args,bs with
 | [.new t1 K1 xs,.int k i,.new t2 K2 vs],[]=>if h1:K1=K then (if h2:K2=K then (if t1=t/\t2=t/\k=.i64/\0<=i/\i<=xs.length/\vs.length≠0/\xs.length+vs.length<=68719476736 then
   some [.new t K ((h1▸xs).take i.toNat++(h2▸vs)++(h1▸xs).drop i.toNat)] else none) else none) else none
 | _,_=>none
theorem TD {t:TypeId} {K:Kd} {xs vs:List K.T} {i:Nat} (h:xs.length+vs.length<=68719476736) (hi:i<=xs.length) (hv:vs.length≠0):Rv t K [.new t K xs,.int .i64 i,.new t K vs] []=some [.new t K (xs.take i++vs++xs.drop i)]:=by
 have hi':(i:Int)<=(xs.length:Int):=by omega
 have h0:(0:Int)<=(i:Int):=by omega
 simp only [Rv,dif_pos,true_and]
 rw [if_pos ⟨h0,hi',hv,h⟩,C8]
theorem TE {K:Kd} (L:Q1 P ρ) (he:PF P (ρ.t 9) K=true) {args bs rs:List AV} (h:Rv (ρ.t 9) K args bs=some rs):IF P (ρ.f 22) args bs rs:=by
 unfold Rv at h
 split at h
 ·split at h
  ·rename_i hk
   subst hk
   split at h
   ·rename_i hk2
    subst hk2
    split at h
    ·rename_i hc
     obtain ⟨rfl,rfl,rfl,h0,hi,hv,hx⟩:=hc
     cases h
     rename_i n _
     obtain ⟨m,rfl⟩:=Int.eq_ofNat_of_zero_le h0
     exact P9 L he hx (fun e=>hv (by rw [e]; rfl)) (by omega)
    ·cases h
   ·cases h
  ·cases h
 ·cases h
def Sx (args bs:List AV):Option (List AV) :=
 match args,bs with
 | [.str a,.str b],[]=>some [.int .i64 (Lib.compareBytes a.data.toList b.data.toList)]
 | _,_=>none
theorem TF (L:Lays.n106 P ρ) {args bs rs:List AV} (h:Sx args bs=some rs):IF P (ρ.f 106) args bs rs:=by
 unfold Sx at h
 split at h
 ·cases h
  rename_i a b
  refine ⟨⟨_,_,L.f106,by rfl,rfl⟩,?_,1,rfl,fun H φ w cargs hs ha=>?_⟩
  ·intro r hr
   simp only [GH] at hr
   subst hr
   rfl
  ·obtain ⟨v0,r0,rfl,hv0,ha⟩:=ha
   obtain ⟨v1,r1,rfl,hv1,ha⟩:=ha
   have hr1:r1=[]:=ha
   subst hr1
   have e0:v0=.string a:=hv0
   have e1:v1=.string b:=hv1
   subst e0 e1
   refine Calls.mono (Any.strings_Compare L a b w) fun out w' h=>?_
   obtain ⟨rfl,rfl⟩:=h
   exact Oc (rs:=[.int .i64 (Lib.compareBytes a.data.toList b.data.toList)]) (AD.refl hs) rfl
 ·cases h
theorem Pa {H:HP} {φ:Ag} {w w':World} {t:TypeId} {K:Kd} {xs ys:List K.T} {ags:List AV} {v':Value} {flat:List Value} (hst:AW [] (.new t K xs::ags)=[.rows t K xs])
  (hs:SR H φ (AW [] (.new t K xs::ags)) w) (hg:w.grownBy w' (A_ (φ 0))) (hb:∀ b,A_ v'=some b->A_ (φ 0)=some b\/w.heap.size<=b)
  (ho:w'.ownsRow 0 t K.sz v' ys.length flat) (hr:BB H K ys flat):Dm H φ w (.new t K xs::ags) [] [] [.new t K ys] v' w':=by
 have hbx:(AW [] (.new t K xs::ags))[0]? = some (.rows t K xs):=by rw [hst]; rfl
 have hout:∀ b,A_ (φ 0)=some b->H b=none:=fun b h=>hs.out 0 (.rows t K xs) hbx rfl b h
 have hlt:∀ b o,H b=some o->b<w.heap.size:=fun b o h=>(Array.getElem?_eq_some_iff.1 (hs.hp b o h)).1
 refine ⟨H,fun _=>v',HP.le_refl H,⟨fun b o h=>?_,fun id bx hid=>?_,fun i j bi bj hi hj _ _ hne=>?_,fun i bi hi _ b hv=>?_,fun id cs hid=>?_⟩,⟨hg.os,hg.tape,hg.output,hg.size,fun b hlt hne=>hg.block b hlt (fun e=>hne 0 (by rw [hst]; show 0<1; omega) e.symm),fun j hj=>by simp at hj,fun i bi hi _ b hv=>?_,fun j hj=>by simp at hj,fun _ _ _=>rfl⟩,⟨rfl,rfl⟩⟩
 ·rw [hg.block b (hlt b o h) (fun e=>by rw [hout b e.symm] at h; cases h)]
  exact hs.hp b o h
 ·cases id with
  | zero=>cases hid; exact ⟨flat,ho,hr⟩
  | succ k=>cases hid
 ·cases i with
  | succ k=>cases hi
  | zero =>
   cases j with
   | succ k=>cases hj
   | zero=>exact absurd rfl hne
 ·cases hh:H b with
  | none=>rfl
  | some o =>
   rcases hb b hv with h | h
   ·rw [hout b h] at hh; cases hh
   ·have:=hlt b o hh; omega
 ·cases id with
  | zero=>cases hid
  | succ k=>cases hid
 ·rcases hb b hv with h | h
  ·exact .inr ⟨0,(by rw [hst]; show 0<1; omega),h⟩
  ·exact .inl h

structure Sy (P:Program) (g:Nat):Prop where
 eg:∀ args w,(callFunc g args).run P w=.ok (.enter g args) w
 says:∀ (n x:Int) (b o:Nat) (W:World),W.cell? ⟨b,o,none⟩=some (.int .i64 n) ->
  Calls P g #[.int .i64 x,.pointer (some ⟨b,o,none⟩)] W fun e w'=>e=.returned (.bool (x==n))/\∃ q,w'=W.drewN q
set_option maxHeartbeats 2000000 in
theorem Oh (L:SlLaysH.n10 P ρ) (fv:Value) (w:World) :
  Calls P (ρ.f 10) #[.slice none 0 0,fv] w fun e w'=>e=.returned (.slice none 0 0)/\w'=w:=by
 have mixed:=L.mixed; have t0:=L.t0; have a0:=L.a0; have z0:=L.z0; have v0:=L.v0; have t3:=L.t3; have a3:=L.a3; have z3:=L.z3; have v3:=L.v3; have t4:=L.t4; have a4:=L.a4; have z4:=L.z4; have v4:=L.v4; have t22:=L.t22; have a22:=L.a22; have z22:=L.z22; have v22:=L.v22; have a23:=L.a23; have z23:=L.z23; have t25:=L.t25; have a25:=L.a25; have z25:=L.z25; have v25:=L.v25
 have e6:∀ args w,(callFunc (ρ.f 6) args).run P w=.ok (.enter (ρ.f 6) args) w:=L.f6.enters rfl
 have hIF:=AnyE.slices_IndexFunc_empty (P:=P) (ρ:=ρ) { L with } none 0 fv w
 obtain ⟨_,_,FG⟩:=L.f10
 go_enter FG,SlBodyH.n10_ntmps ρ
 go_wp2_with (go_at_fn (ρ.f 6); refine hIF.mono ?_; rintro e w' ⟨rfl,rfl⟩)
 go_ret
 exact ⟨rfl,rfl⟩
theorem Im {α:Type} [Inhabited α] (enc:α->Value) (w:World) (b off:Nat) (d:Array α):(Sort.putRow enc w b off d).heap.size=w.heap.size:=by
 simp [Sort.putRow,Sort.mapBlock]
theorem In {α:Type} [Inhabited α] (enc:α->Value) (w:World) (b off k:Nat) (d:Array α) (h:k≠b):(Sort.putRow enc w b off d).heap[k]? = w.heap[k]? := by
 simp only [Sort.putRow,Sort.mapBlock,Array.getElem?_modify]
 rw [if_neg (fun e=>h e.symm)]
theorem Jq {α:Type} [Inhabited α] (enc:α->Value) (w:World) (b off:Nat) (d:Array α) {c:Array Value} {e:TypeId} {fr:Nat×Nat} (h:w.heap[b]? = some (.cells c e fr)) :
  (Sort.putRow enc w b off d).heap[b]? = some (.cells (Sort.putCells enc off d c) e fr):=by
 simp only [Sort.putRow,Sort.mapBlock,Array.getElem?_modify,if_true,h,Option.map_some,Sort.onCells]
theorem O8 (L:SlLaysH.n10 P ρ) (hv:∀ w,(zeroValue (ρ.t 23)).run P w=.ok (.int .i64 0) w) {g:Nat} (E:Sy P g) {xs:List Int} {n:Int} :
  IF P (ρ.f 10) [.new (ρ.t 23) (.int .i64) xs,.clo g (.int .i64) n] [] [.new (ρ.t 23) (.int .i64) (xs.filter fun x=>!(x==n))]:=by
 refine ⟨?_,?_,1,rfl,fun H φ w cargs hs ha=>?_⟩
 ·obtain ⟨nm,hnm,hf⟩:=L.f10
  exact ⟨_,_,hf,hnm,rfl⟩
 ·intro r hr
  simp only [GH] at hr
  subst hr
  rfl
 ·obtain ⟨v0,r0,rfl,hv0,ha⟩:=ha
  obtain ⟨v1,r1,rfl,hv1,ha⟩:=ha
  have hr1:r1=[]:=ha
  subst hr1
  have e0:v0=φ 0:=hv0.1
  subst e0
  obtain ⟨b,o,c,el,fz,e1,hb,vs,hvs,hvc⟩:=(show OE H g (Bz H (.int .i64) n) v1 from hv1)
  have hvs:vs=[.int .i64 n]:=hvs
  subst hvs e1
  have hcn:c[o]? = some (.int .i64 n):=hvc 0 _ rfl
  have hwb:=hs.hp _ _ hb
  have hbl:b<w.heap.size:=(Array.getElem?_eq_some_iff.1 hwb).1
  have hcell:w.cell? ⟨b,o,none⟩=some (.int .i64 n):=by rw [FE hwb]; exact hcn
  obtain ⟨flat,ho,hr⟩:=hs.box 0 (.rows (ρ.t 23) (.int .i64) xs) rfl
  have hstk:AW [] [AV.new (ρ.t 23) (.int .i64) xs,.clo g (.int .i64) n]=[.rows (ρ.t 23) (.int .i64) xs]:=rfl
  have hout:∀ bb,A_ (φ 0)=some bb->H bb=none:=fun bb h=>hs.out 0 (.rows (ρ.t 23) (.int .i64) xs) rfl rfl bb h
  obtain ⟨hfl,⟨e0,hx⟩ | ⟨gb,cap,cur,e0,hle,hg,hc,hcm,hsc,ht⟩⟩:=ho
  ·have:xs=[]:=CF.1 (by omega)
   subst this
   rw [e0]
   refine Calls.mono (Oh L _ w) fun out w' h=>?_
   obtain ⟨rfl,rfl⟩:=h
   exact Pa hstk hs ⟨rfl,rfl,rfl,Nat.le_refl _,fun _ _ _=>rfl⟩ (fun b hb=>by simp [A_] at hb) (flat:=[]) ⟨by simp,.inl ⟨rfl,rfl⟩⟩ (fun j x h=>by simp at h)
  ·have hne:b≠gb:=fun e=>by
    have:=hout gb (by rw [e0]; rfl)
    rw [<- e] at this
    rw [this] at hb; cases hb
   have hgl:gb<w.heap.size:=(Array.getElem?_eq_some_iff.1 hg).1
   have hflat:∀ j (h:j<xs.length),cur[j]? = some (.int .i64 xs[j]):=fun j hj=>by
    have h1:(flat.drop (j*1)).take 1=[.int .i64 xs[j]]:=hr j xs[j] (List.getElem?_eq_getElem hj)
    have h4:((flat.drop (j*1)).take 1)[0]? = some (.int .i64 xs[j]):=by rw [h1]; rfl
    have h5:flat[j]? = some (.int .i64 xs[j]):=by simpa using h4
    rw [<- ht] at h5
    have h6:j<xs.length*Kd.sz (.int .i64):=by simpa [Kd.sz] using hj
    rw [Ad,if_pos h6,Array.getElem?_toList] at h5
    exact h5
   have hH:Sort.Holds (Value.int .i64) w gb 0 xs.toArray:=fun j hj=>by
    have hj':j<xs.length:=by simpa using hj
    have hx:xs.toArray[j]! = xs[j]:=by simp [hj']
    refine ⟨?_,?_⟩
    ·rw [FE hg,Nat.zero_add,hflat j hj',hx]
    ·simp [World.frozen?,hg]
   have hp:PredAt P g #[.pointer (some ⟨b,o,none⟩)] (Value.int .i64) (fun x=>x==n) w:=fun W x hB=>E.says n x b o W ((hB.cell (p:=⟨b,o,none⟩) hbl).trans hcell)
   have hpo:PredOver P g #[.pointer (some ⟨b,o,none⟩)] (Value.int .i64) (fun x=>x==n) gb 0 xs.toArray.size w:=fun k os dk x _=>E.says n x b o _ (by
    unfold sortWorld
    rw [Sort.cell?_grow _ _ _ (by show b<(Sort.putRow _ _ _ _ _).heap.size; rw [Im]; exact hbl),Sort.cell?_putRow_other _ _ gb 0 _ _ (Or.inl hne)]
    exact hcell)
   have hcm':cap<=9223372036854775807:=hcm
   have hcall:=AnyE.slices_DeleteFunc L (Value.int .i64) (fun _=>rfl) (fun x=>x==n) g #[.pointer (some ⟨b,o,none⟩)] E.eg 0 hv gb 0 cap xs.toArray w hp hpo hH (by simp; omega) (by simpa using hc)
   rw [e0]
   refine Calls.mono (by simpa using hcall) fun out w' h=>?_
   obtain ⟨rfl,q,rfl⟩:=h
   have hfl':(xs.filter fun x=>!(x==n)).length<=xs.length:=List.length_filter_le _ _
   generalize hys:(xs.filter fun x=>!(x==n))=ys at hfl' ⊢
   have hd:(ys++List.replicate (xs.length-ys.length) 0).length=xs.length:=by simp; omega
   generalize hdd:(ys++List.replicate (xs.length-ys.length) (0:Int))=zs at hd ⊢
   refine Pa (flat:=ys.map (Value.int .i64)) hstk hs ⟨rfl,rfl,rfl,?_,fun k hk hne2=>?_⟩ (fun b hb=>.inl (by rw [e0]; exact hb)) ?_ ?_
   ·rw [Im]; exact Nat.le_refl _
   ·rw [In _ _ _ _ _ _ (fun e=>hne2 (by rw [e0,e]; rfl))]; rfl
   ·refine ⟨by simp [Kd.sz],.inr ⟨gb,cap,_,rfl,Nat.zero_le _,Jq _ _ _ _ _ (show (Sort.ahead w q).heap[gb]? = _ from hg),by omega,hcm,by simpa [Sort.putCells] using hsc,?_⟩⟩
    apply List.ext_getElem?
    intro j
    have hcs:cur.size=cap:=by simpa [Kd.sz] using hsc
    rw [Ad]
    by_cases hj:j<ys.length
    ·have h6:j<ys.length*Kd.sz (.int .i64):=by simpa [Kd.sz] using hj
     have hj2:j<cur.size:=by omega
     rw [if_pos h6,Array.getElem?_toList,Sort.putCells,Array.getElem?_mapIdx,Array.getElem?_eq_getElem hj2]
     have h7:zs.toArray[j-0]! = ys[j]:=by
      subst hdd
      simp [AJ hj,hj]
     simp only [Option.map_some,Ak,List.getElem?_eq_getElem hj]
     rw [if_pos ⟨Nat.zero_le _,by simp; omega⟩,h7]
    ·have h6:¬ j<ys.length*Kd.sz (.int .i64):=by simpa [Kd.sz] using hj
     rw [if_neg h6,Ak,BW (by omega)]; rfl
   ·intro j x hx
    show ((ys.map (Value.int .i64)).drop (j*1)).take 1=[.int .i64 x]
    have hj:=(AF.1 hx).1
    have hxj:=(AF.1 hx).2
    rw [Nat.mul_one,List.drop_eq_getElem_cons (by simpa using hj)]
    simp [hxj]
def Pb (t g:Nat) (args bs:List AV):Option (List AV) :=
 match args,bs with
 | [.new t1 (.int k) xs,.clo g1 (.int k1) n],[]=>if t1=t/\g1=g/\k=.i64/\k1=.i64 then
   some [.new t (.int .i64) ((show List Int from xs).filter fun x=>!(x==(show Int from n)))] else none
 | _,_=>none
theorem Sz {t g:Nat} {xs:List Int} {n:Int}:Pb t g [.new t (.int .i64) xs,.clo g (.int .i64) n] []=some [.new t (.int .i64) (xs.filter fun x=>!(x==n))]:=by
 simp [Pb]
theorem S0 (L:SlLaysH.n10 P ρ) (hv:∀ w,(zeroValue (ρ.t 23)).run P w=.ok (.int .i64 0) w) {g:Nat} (E:Sy P g) {args bs rs:List AV} (h:Pb (ρ.t 23) g args bs=some rs):IF P (ρ.f 10) args bs rs:=by
 unfold Pb at h
 split at h
 ·split at h
  ·rename_i hc
   obtain ⟨rfl,rfl,rfl,rfl⟩:=hc
   cases h
   exact O8 L hv E
  ·cases h
 ·cases h

theorem Oi {a b c:World} {r:Option Nat} (h:a.grownBy b r) (g:b.grownBy c r):a.grownBy c r :=
 ⟨g.os.trans h.os,g.tape.trans h.tape,g.output.trans h.output,Nat.le_trans h.size g.size,fun k hk hn=>(g.block k (Nat.lt_of_lt_of_le hk h.size) hn).trans (h.block k hk hn)⟩
theorem P_ {a b:World} {r:Option Nat} (h:a.grownBy b none):a.grownBy b r:=⟨h.os,h.tape,h.output,h.size,fun k hk _=>h.block k hk (by simp)⟩
theorem Fc (w:World) (p:Addr) (v:Value):w.grownBy (w.setCell p v) (some p.block) :=
 ⟨rfl,rfl,rfl,by simp [World.setCell],fun k _ hk=>Below.heap_setCell _ _ _ _ (fun e=>hk (by simp [e]))⟩
def S3 (w w':World) (b:Nat) (v:Value) (T:TypeId):Prop:=w.grownBy w' (some b)/\w'.heap[b]? = some (.cells #[.pointer (some ⟨b,0,none⟩),v] T (0,0))
theorem R6 (L:Lays.n240 P ρ) (X:Builder.X72 P ρ) (b:Nat) (p v:Value) (w:World) (hb:w.heap[b]? = some (.cells #[p,v] (ρ.t 72) (0,0))) (hp:p=.pointer none\/p=.pointer (some ⟨b,0,none⟩)) :
  Calls P (ρ.f 240) #[.pointer (some ⟨b,0,none⟩)] w fun e w'=>e=.returned (.tuple #[])/\S3 w w' b v (ρ.t 72):=by
 rcases hp with rfl | rfl
 ·refine (Any.Builder_copyCheck_fresh L X b w (by simp [World.cell?,hb]) (by simp [World.shape?,hb]) (by simp [World.frozen?,hb])).mono ?_
  rintro e w' ⟨rfl,rfl⟩
  exact ⟨rfl,Fc w ⟨b,0,none⟩ _,by simp [World.setCell,Array.getElem?_modify,hb]⟩
 ·refine (Any.Builder_copyCheck_used L X b w (by simp [World.cell?,hb])).mono ?_
  rintro e w' ⟨rfl,rfl⟩
  exact ⟨rfl,⟨rfl,rfl,rfl,Nat.le_refl _,fun _ _ _=>rfl⟩,hb⟩
theorem FF {w:World} {ops:Array Oper} {rest:List Oper} {o:Oper} {a:Act} {Q:Exit->Act->World->Prop} (hgd:o.guard=none) (s x:Operand) (t u:TypeId)
  (ho:o.op=.call { callee:=.builtin .append,args:=#[s,x],argTypes:=#[t,u] }) (v y:Value) (hs:a.eval s=v) (hx:a.eval x=y) {v':Value} {w':World}
  (hr:(Builtin.append_ #[t,u] o.type #[v,y]).run P w=.ok v' w') (h:wpList P ops Q rest (a.put o.dst v') w'):wpList P ops Q (o::rest) a w:=by
 refine wpList_plain hgd fun K hK=>?_
 unfold Oper.wp execOp
 simp only [ho,resolve,invoke,builtin,Sem.run_bind,Sem.run_pure,Result.andThen_ok,List.map_toArray,List.map_cons,List.map_nil,hs,hx,hr]
 exact hK _ _ h
theorem SZ {w:World} {v:Value} {t:TypeId} {xs:List Int} (ho:w.ownsRow 0 t 1 v xs.length (xs.map (.int .u8))):SR (fun _=>none) (fun _=>v) [.rows t (.int .u8) xs] w:=by
 refine ⟨fun b o h=>(by cases h),fun id bx h=>?_,fun i j bi bj hi hj _ _ hij=>?_,fun _ _ _ _ _ _=>rfl,fun id cs h=>?_⟩
 ·match id,h with
  | 0,h=>cases h; exact ⟨_,ho,G9⟩
 ·have:=(AF.1 hi).1
  have:=(AF.1 hj).1
  simp at *
  omega
 ·match id,h with
  | 0,h=>cases h
theorem Sa {w:World} {v:Value} {t:TypeId} {xs:List Int}:Fr 0 1 (fun _=>none) (fun _=>v) w (fun _=>none) (fun _=>v) [.rows t (.int .u8) xs] w :=
 ⟨rfl,rfl,rfl,Nat.le_refl _,fun _ _ _=>rfl,fun j hj=>absurd hj (Nat.not_lt_zero j),fun i bi _ _ b hb=>.inr ⟨0,Nat.zero_lt_one,hb⟩,fun j hj=>absurd hj (Nat.not_lt_zero j),fun _ _ _=>rfl⟩
theorem S4 {t:TypeId} (h:(P.info? t).map (fun i=>(i.zero,i.size,i.bytes))=some (some (.int .u8 0),1,1)):PF P t (.int .u8)=true:=by
 cases hi:P.info? t with
 | none=>rw [hi] at h; cases h
 | some i =>
  rw [hi] at h
  simp only [Option.map_some,AL,Prod.mk.injEq] at h
  obtain ⟨h1,h2,h3⟩:=h
  unfold PF
  rw [hi]
  simp only [h1,h2,h3,Option.map_some]
  rfl
theorem Q3 {w:World} {v:Value} {t te ty:TypeId} {xs:List Int} {c:Int} {g:Nat} (ht:P.underlying t=some (.slice te)) (he:PF P te (.int .u8)=true) (ho:w.ownsRow 0 te 1 v xs.length (xs.map (.int .u8)))
  (hc:w.cell? ⟨g,0,none⟩=some (.int .u8 c)) (hl:xs.length+1<=68719476736) :
  ∃ v' w',(Builtin.append_ #[t,t] ty #[v,.slice (some ⟨g,0,none⟩) 1 1]).run P w=.ok v' w'/\w'.ownsRow 0 te 1 v' (xs.length+1) ((xs++[c]).map (.int .u8))/\w.grownBy w' (A_ v)/\∀ q,A_ v'=some q->A_ v=some q\/w.heap.size<=q:=by
 obtain ⟨v',w',h1,h2,h3⟩:=IV (P:=P) (ty:=ty) (K:=.int .u8) (xs:=xs) (ys:=[c]) (id:=0) (bv:=.slice (some ⟨g,0,none⟩) 1 1) (flat2:=[.int .u8 c]) (SZ ho) rfl ht he rfl rfl (G9 (xs:=[c]))
  (.inr (.inr ⟨g,0,rfl,fun j u hj=>by
   match j,hj with
   | 0,hj=>cases hj; exact hc⟩)) (fun e=>by cases e) hl (fun k cs hk=>by
   match k,hk with
   | 0,hk=>cases hk)
 obtain ⟨flat,q1,q2⟩:=h2.sr.box 0 _ rfl
 simp only [if_true] at q1
 have e:=G8 q2 q1.1
 subst e
 refine ⟨v',w',h1,by simpa [Kd.sz] using q1,h3,fun q hq=>?_⟩
 rcases (h2.fr 0 1 _ _ _ (Sa (t:=te) (xs:=xs))).new 0 _ rfl rfl q (by simpa using hq) with h | ⟨_,_,h⟩
 ·exact .inr h
 ·exact .inl h
theorem Rw {w:World} {v:Value} {t u te ty:TypeId} {xs:List Int} {s:ByteArray} (ht:P.underlying t=some (.slice te)) (hu:P.underlying u=some .string)
  (he:(P.info? te).map (fun i=>(i.zero,i.size,i.bytes))=some (some (.int .u8 0),1,1)) (ho:w.ownsRow 0 te 1 v xs.length (xs.map (.int .u8))) (hl:xs.length+s.size<=68719476736) :
  ∃ v' w',(Builtin.append_ #[t,u] ty #[v,.string s]).run P w=.ok v' w'/\w'.ownsRow 0 te 1 v' (xs.length+(Ay s).length) ((xs++Ay s).map (.int .u8))/\w.grownBy w' (A_ v)/\∀ q,A_ v'=some q->A_ v=some q\/w.heap.size<=q:=by
 obtain ⟨i,hi,hz,h1,h2⟩:=info_parts he
 have hs1:(Ay s).length=s.size:=by simp [Ay]
 have hs2:(xs++Ay s).map (Value.int .u8)=xs.map (.int .u8)++strCells s:=by simp [Ay,strCells]
 have hm:xs.length+s.size<=maxLen:=by unfold maxLen; omega
 rw [hs1,hs2]
 obtain ⟨v',w',hr,q1,q2,_⟩:=run_append_own_string (P:=P) w 0 t u ty te i ht hu hi hz h1 h2 v xs.length _ ho s hm (by omega) (Nat.zero_le _)
 have hbl:A_ v=v.ownBlock:=by rcases ho.2 with ⟨rfl,_⟩ | ⟨g,cap,cur,rfl,_⟩<;>rfl
 refine ⟨v',w',hr,q1,by rw [hbl]; exact q2,?_⟩
 rcases ho.2 with ⟨e3,hn⟩ | ⟨g,cap,cur,e3,_,hg,hnc,hcm,hcs,htake⟩
 ·obtain ⟨v2,w2,hr2,o2,_,_⟩:=run_append_own_string (P:=P) w w.heap.size t u ty te i ht hu hi hz h1 h2 v xs.length _ ⟨ho.1,.inl ⟨e3,hn⟩⟩ s hm (by omega) (Nat.le_refl _)
  have e4:=hr.symm.trans hr2
  simp only [Result.ok.injEq] at e4
  obtain ⟨rfl,rfl⟩:=e4
  intro q hq
  right
  rcases o2.2 with ⟨e5,_⟩ | ⟨g',cap',cur',e5,hbase,_⟩
  ·rw [e5] at hq; cases hq
  ·rw [e5] at hq; simp only [A_,AL] at hq; omega
 ·by_cases hroom:xs.length+s.size<=cap
  ·have hr2:=run_append_room_string (P:=P) w t u ty te i ht hu hi h1 g xs.length cap cur hg s hroom (by omega)
   rw [<- e3] at hr2
   have e4:=hr.symm.trans hr2
   simp only [Result.ok.injEq] at e4
   obtain ⟨rfl,_⟩:=e4
   intro q hq
   left
   rw [e3]
   exact hq
  ·have holds:∀ j u,(xs.map (Value.int .u8))[j]? = some u->w.cell? ((⟨g,0,none⟩:Addr).add j)=some u:=ho.cells (g:=g) (by rw [e3]; rfl)
   have hr2:=run_append_grow_string (P:=P) w t u ty te i (.int .u8 0) ht hu hi hz ⟨g,0,none⟩ xs.length cap _ (by rw [h1]; simp) holds s (by omega) (by omega) (by rw [h2]; exact growslice_fits (by omega) (by omega))
   rw [<- e3] at hr2
   have e4:=hr.symm.trans hr2
   simp only [Result.ok.injEq] at e4
   obtain ⟨rfl,_⟩:=e4
   intro q hq
   right
   simp only [A_,AL] at hq
   omega
theorem HH {f:Nat} {fn:Func} {c:Code} (h:P.funcs[f]? = some fn) (hb:fn.body=some c) (hn:(fn.name == "runtime.NumGoroutine")=false):Je P f:=⟨fn,c,h,hn,hb⟩
set_option maxHeartbeats 2000000 in
set_option maxRecDepth 100000 in
theorem Rx (L:Lays.n166 P ρ) (X:Builder.Extra P ρ):Ih P (ρ.f 166) 1 (ρ.t 5) (ρ.t 72):=by
 refine ⟨HH L.f166 rfl (by kernel_rfl),fun w b p v xs hbk hp how hne=>⟨fun e=>(by cases e),fun _ s hlen=>?_,fun e=>(by cases e)⟩⟩
 have mixed:=L.mixed
 have t72:=L.t72; have a72:=L.a72; have z72:=L.z72; have v72:=L.v72; have u72:=run_underlying L.t72
 have t70:=L.t70; have a70:=L.a70; have z70:=L.z70; have v70:=L.v70; have u70:=run_underlying L.t70
 have t37:=L.t37; have a37:=L.a37; have z37:=L.z37; have v37:=L.v37; have u37:=run_underlying L.t37
 have t3:=L.t3; have a3:=L.a3; have z3:=L.z3; have v3:=L.v3; have u3:=run_underlying L.t3
 have t9:=L.t9; have a9:=L.a9; have z9:=L.z9; have v9:=L.v9; have u9:=run_underlying L.t9
 have t4:=L.t4; have a4:=L.a4; have z4:=L.z4; have v4:=L.v4; have u4:=run_underlying L.t4
 have t164:=L.t164; have a164:=L.a164; have z164:=L.z164; have v164:=L.v164; have u164:=run_underlying L.t164
 have t5:=X.t5; have a5:=X.a5; have z5:=X.z5; have v5:=X.v5; have u5:=run_underlying X.t5
 have e240:∀ args w,(callFunc (ρ.f 240) args).run P w=.ok (.enter (ρ.f 240) args) w:=enters_of L.f240 (by kernel_rfl) rfl
 have hs1:(Ay s).length=s.size:=by simp [Ay]
 go_enter L.f166,Body.n166_ntmps ρ
 go_wp2_with (go_at_fn (ρ.f 240); refine (R6 { L with } X.toX72 b p v _ hbk hp).mono ?_)
 intro e w1 h0 hcc
 subst h0
 obtain ⟨g1,hb1⟩:=hcc
 have c0:w1.cell? ⟨b,0,none⟩=some (.pointer (some ⟨b,0,none⟩)):=by rw [Lib.cell_of_heap hb1]; rfl
 have c1:w1.cell? ⟨b,1,none⟩=some v:=by rw [Lib.cell_of_heap hb1]; rfl
 have how1:w1.ownsRow 0 (ρ.t 5) 1 v xs.length (xs.map (.int .u8)):=by
  refine how.kept g1 ?_
  rcases how.2 with ⟨rfl,_⟩ | ⟨g,cap,cur,rfl,_⟩
  ·exact .inl rfl
  ·right; intro e; exact hne (by simpa [Value.ownBlock,A_] using e)
 obtain ⟨v',w2,hr,o2,g2,l2⟩:=Rw (w:=w1) (ty:=ρ.t 37) L.t37 L.t9 X.infoByte how1 (s:=s) (by omega)
 have hlt:b<w1.heap.size:=(Array.getElem?_eq_some_iff.1 hb1).1
 have hb2:w2.heap[b]? = some (.cells #[.pointer (some ⟨b,0,none⟩),v] (ρ.t 72) (0,0)):=by
  rw [g2.block b hlt (fun e=>hne e.symm)]
  exact hb1
 have d0:w2.cell? ⟨b,0,none⟩=some (.pointer (some ⟨b,0,none⟩)):=by rw [Lib.cell_of_heap hb2]; rfl
 have d1:w2.cell? ⟨b,1,none⟩=some v:=by rw [Lib.cell_of_heap hb2]; rfl
 have f1:w2.frozen? ⟨b,1,none⟩=false:=Lib.frozen_of_heap hb2 1
 have ev':∃ ao n' cap,v'=.slice ao n' cap:=by
  rcases o2.2 with ⟨hv,_⟩ | ⟨g,cap,cur,hv,_⟩
  ·exact ⟨_,_,_,hv⟩
  ·exact ⟨_,_,_,hv⟩
 obtain ⟨ao,n',cap,rfl⟩:=ev'
 go_wp2_with (at_builtin; refine FF rfl _ _ (ρ.t 37) (ρ.t 9) rfl _ _ rfl rfl hr ?_)
 go_wp2
 go_ret2
 exact ⟨_,rfl,w1,w2,_,g1,hb1,g2,o2,l2,Fc w2 ⟨b,1,none⟩ _,by simp [World.setCell,Array.getElem?_modify,hb2]⟩
set_option maxHeartbeats 2000000 in
set_option maxRecDepth 100000 in
theorem Q4 (L:Lays.n167 P ρ) (X:Builder.Extra P ρ):Ih P (ρ.f 167) 0 (ρ.t 5) (ρ.t 72):=by
 refine ⟨HH L.f167 rfl (by kernel_rfl),fun w b p v xs hbk hp how hne=>⟨fun _ c hlen=>?_,fun e=>(by cases e),fun e=>(by cases e)⟩⟩
 have mixed:=L.mixed
 have t72:=L.t72; have a72:=L.a72; have z72:=L.z72; have v72:=L.v72; have u72:=run_underlying L.t72
 have t70:=L.t70; have a70:=L.a70; have z70:=L.z70; have v70:=L.v70; have u70:=run_underlying L.t70
 have t5:=L.t5; have a5:=L.a5; have z5:=L.z5; have v5:=L.v5; have u5:=run_underlying L.t5
 have t37:=L.t37; have a37:=L.a37; have z37:=L.z37; have v37:=L.v37; have u37:=run_underlying L.t37
 have t9:=L.t9; have a9:=L.a9; have z9:=L.z9; have v9:=L.v9; have u9:=run_underlying L.t9
 have t4:=L.t4; have a4:=L.a4; have z4:=L.z4; have v4:=L.v4; have u4:=run_underlying L.t4
 have t164:=L.t164; have a164:=L.a164; have z164:=L.z164; have v164:=L.v164; have u164:=run_underlying L.t164
 have e240:∀ args w,(callFunc (ρ.f 240) args).run P w=.ok (.enter (ρ.f 240) args) w:=enters_of L.f240 (by kernel_rfl) rfl
 go_enter L.f167,Body.n167_ntmps ρ
 go_wp2_with (go_at_fn (ρ.f 240); refine (R6 { L with } X.toX72 b p v _ hbk hp).mono ?_)
 intro e w1 h0 hcc
 subst h0
 obtain ⟨g1,hb1⟩:=hcc
 have hlt:b<w1.heap.size:=(Array.getElem?_eq_some_iff.1 hb1).1
 have c0:w1.cell? ⟨b,0,none⟩=some (.pointer (some ⟨b,0,none⟩)):=by rw [Lib.cell_of_heap hb1]; rfl
 have c1:w1.cell? ⟨b,1,none⟩=some v:=by rw [Lib.cell_of_heap hb1]; rfl
 have how1:w1.ownsRow 0 (ρ.t 5) 1 v xs.length (xs.map (.int .u8)):=by
  refine how.kept g1 ?_
  rcases how.2 with ⟨rfl,_⟩ | ⟨g,cap,cur,rfl,_⟩
  ·exact .inl rfl
  ·right; intro e; exact hne (by simpa [Value.ownBlock,A_] using e)
 have ga:w1.grownBy (w1.alloc (.cells #[.int .u8 c] (ρ.t 5))) none:=World.grownBy_alloc w1 _ none
 have hba:(w1.alloc (.cells #[.int .u8 c] (ρ.t 5))).heap[b]? = some (.cells #[.pointer (some ⟨b,0,none⟩),v] (ρ.t 72) (0,0)):=by rw [ga.block b hlt (by simp)]; exact hb1
 obtain ⟨v',w2,hr,o2,g2,l2⟩:=Q3 (w:=w1.alloc (.cells #[.int .u8 c] (ρ.t 5))) (ty:=ρ.t 37) (c:=c) (g:=w1.heap.size) L.t37 (S4 X.infoByte) (how1.alloc _) (by rw [Lib.cell_of_heap (heap_alloc_new w1 _)]; rfl) hlen
 have hb2:w2.heap[b]? = some (.cells #[.pointer (some ⟨b,0,none⟩),v] (ρ.t 72) (0,0)):=by
  rw [g2.block b (Nat.lt_of_lt_of_le hlt ga.size) (fun e=>hne e.symm)]
  exact hba
 have d0:w2.cell? ⟨b,0,none⟩=some (.pointer (some ⟨b,0,none⟩)):=by rw [Lib.cell_of_heap hb2]; rfl
 have d1:w2.cell? ⟨b,1,none⟩=some v:=by rw [Lib.cell_of_heap hb2]; rfl
 have f1:w2.frozen? ⟨b,1,none⟩=false:=Lib.frozen_of_heap hb2 1
 have ev':∃ ao n' cap,v'=.slice ao n' cap:=by
  rcases o2.2 with ⟨hv,_⟩ | ⟨g,cap,cur,hv,_⟩
  ·exact ⟨_,_,_,hv⟩
  ·exact ⟨_,_,_,hv⟩
 obtain ⟨ao,n',cap,rfl⟩:=ev'
 go_wp2_with (at_builtin; refine FF rfl _ _ (ρ.t 37) (ρ.t 37) rfl _ _ rfl rfl hr ?_)
 go_wp2
 go_ret
 exact ⟨_,rfl,_,w2,_,Oi g1 (P_ ga),hba,g2,o2,l2,Fc w2 ⟨b,1,none⟩ _,by simp [World.setCell,Array.getElem?_modify,hb2]⟩
theorem Hw:∀ {xs:List Int},Ce xs=true->xs.map (Value.int .u8)=Go.Lib.byteCells (AI xs).data.toList
 | [],_=>rfl
 | x::xs,h=>by
  simp only [Ce,List.all_cons,J,decide_eq_true_eq] at h
  have:=Hw (xs:=xs) (by simpa [Ce] using h.2)
  have e:((UInt8.ofNat x.toNat).toNat:Int)=x:=by
   have:x.toNat<256:=by omega
   simp [UInt8.toNat_ofNat',Nat.mod_eq_of_lt this]
   omega
  simp only [List.map_cons,this,AI,Go.Lib.byteCells,List.map_cons,e]
theorem Oj {w w':World} {r:Option Nat} (h:Below w.heap.size w w'):w.grownBy w' r:=⟨h.os,h.tape,h.output,h.size,fun k hk _=>h.block k hk⟩
set_option maxHeartbeats 1000000 in
set_option maxRecDepth 100000 in
theorem Ry (L:Lays.n169 P ρ) (X:Builder.Extra P ρ):Ih P (ρ.f 169) 2 (ρ.t 5) (ρ.t 72):=by
 refine ⟨HH L.f169 rfl (by kernel_rfl),fun w b p v xs hbk hp how hne=>⟨fun e=>(by cases e),fun e=>(by cases e),fun _ hB=>?_⟩⟩
 have hcs:=Hw hB
 have hl:(AI xs).data.toList.length=xs.length:=by simp [AI]
 by_cases h0:xs=[]
 ·subst h0
  have hB0:∀ w':World,∀ e,(e=Ending.returned (.string ⟨#[]⟩)/\Below w.heap.size w w')->e=.returned (.string (AI []))/\w.grownBy w' (A_ v):=fun w' e h=>⟨h.1,Oj h.2⟩
  rcases how.2 with ⟨rfl,_⟩ | ⟨g,cap,cur,rfl,_,hg,_⟩
  ·exact (Any.Builder_String_nil L X w.heap.size b p w hbk).mono fun e w' h=>hB0 w' e h
  ·by_cases hc0:cap=0
   ·subst hc0
    exact (Any.Builder_String_noroom L X w.heap.size b g p cur w (Nat.le_refl _) hbk hg).mono fun e w' h=>hB0 w' e h
   ·exact (Any.Builder_String_room L X w.heap.size b g cap p w hc0 hbk).mono fun e w' h=>hB0 w' e h
 ·obtain ⟨l,hl2⟩:∃ l,l=(AI xs).data.toList:=⟨_,rfl⟩
  have h0:l≠[]:=fun e=>by rw [<- hl2,e] at hl; exact h0 (CF.1 hl.symm)
  have hbs:AI xs=⟨l.toArray⟩:=by rw [hl2]
  rw [hbs]
  rw [hcs,<- hl,<- hl2] at how
  have hl0:l.length≠0:=by simpa using h0
  obtain ⟨g,cap,cur,rfl,hbg,hg,hnc,hcm,hcs2,htake⟩:∃ g cap cur,v=.slice (some ⟨g,0,none⟩) l.length cap/\0<=g/\w.heap[g]? = some (.cells cur (ρ.t 5) (0,0))/\l.length<=cap/\cap<=maxLen/\cur.size=cap*1/\cur.toList.take (l.length*1)=Lib.byteCells l:=by
   rcases how.2 with ⟨_,hz⟩ | ⟨g,cap,cur,hv,r⟩
   ·exact absurd hz hl0
   ·exact ⟨g,cap,cur,hv,r⟩
  clear hl hcs hbs hl2
  have c1:w.drew.cell? ⟨b,1,none⟩=some (.slice (some ⟨g,0,none⟩) l.length cap):=by
   have:w.drew.heap[b]? = some (.cells #[p,.slice (some ⟨g,0,none⟩) l.length cap] (ρ.t 72) (0,0)):=hbk
   rw [Lib.cell_of_heap this]; rfl
  have hSD:(Builtin.unsafeSliceData_ #[(ρ.t 37)] (ρ.t 127) #[.slice (some ⟨g,0,none⟩) l.length cap]).run P w.drew=.ok (.pointer (some ⟨g,0,none⟩)) w.drew :=
   Lib.run_unsafeSliceData_row _ _ _ _ _ _ (by omega)
  have hUS:(Builtin.unsafeString_ #[(ρ.t 127),(ρ.t 3)] (ρ.t 9) #[.pointer (some ⟨g,0,none⟩),.int .i64 l.length]).run P w.drew=.ok (.string ⟨l.toArray⟩) (w.drew.freeze ⟨g,0,none⟩ l.length):=by
   refine Lib.run_unsafeString_row w.drew (ρ.t 127) (ρ.t 3) (ρ.t 9) (ρ.t 5) L.t127 X.cellsByte g cur.size (by have hg':w.drew.heap[g]? = some (.cells cur (ρ.t 5) (0,0)):=hg; simp [World.shape?,hg']) l h0 (by omega) (by unfold maxLen at hcm; omega) ?_
   intro j x hx
   have:=how.cells (g:=g) rfl j (.int .u8 x.toNat) (by simp [Lib.byteCells,hx])
   exact this
  have hgr:w.grownBy (w.drew.freeze ⟨g,0,none⟩ l.length) (some g):=by
   unfold World.freeze
   split
   ·exact ⟨rfl,rfl,rfl,Nat.le_refl _,fun _ _ _=>rfl⟩
   ·refine ⟨rfl,rfl,rfl,by simp,fun k hk hn=>?_⟩
    simp only [Array.getElem?_modify]
    rw [if_neg (fun e=>hn (by rw [<- e]))]
    rfl
  have mixed:=L.mixed
  have t72:=L.t72; have a72:=L.a72; have z72:=L.z72; have v72:=L.v72; have u72:=run_underlying L.t72
  have t70:=L.t70; have a70:=L.a70; have z70:=L.z70; have v70:=L.v70; have u70:=run_underlying L.t70
  have t37:=L.t37; have a37:=L.a37; have z37:=L.z37; have v37:=L.v37; have u37:=run_underlying L.t37
  have t127:=L.t127; have a127:=L.a127; have z127:=L.z127; have v127:=L.v127; have u127:=run_underlying L.t127
  have t3:=L.t3; have a3:=L.a3; have z3:=L.z3; have v3:=L.v3; have u3:=run_underlying L.t3
  have t9:=L.t9; have a9:=L.a9; have z9:=L.z9; have v9:=L.v9; have u9:=run_underlying L.t9
  have t5:=X.t5; have a5:=X.a5; have z5:=X.z5; have v5:=X.v5; have u5:=run_underlying X.t5
  go_enter L.f169,Body.n169_ntmps ρ
  go_wp2
  go_region_o
  all_goals (go_wp2; go_ret; exact ⟨rfl,hgr⟩)
def Q5 (k t T:Nat) (args bs:List AV):Option (List AV) :=
 match args,bs with
 | [.int .i64 a,.int .i64 b,.int .i64 c],[]=>if a=k/\b=t/\c=T then some [] else none
 | _,_=>none
theorem N0 {f k t T k' t' T':Nat} (h:Ih P f k t T) (hq:Q5 k t T [.int .i64 k',.int .i64 t',.int .i64 T'] []=some []):Ih P f k' t' T':=by
 unfold Q5 at hq
 simp only at hq
 split at hq
 ·rename_i e
  obtain ⟨e1,e2,e3⟩:=e
  have e1:k'=k:=by exact_mod_cast e1
  have e2:t'=t:=by exact_mod_cast e2
  have e3:T'=T:=by exact_mod_cast e3
  rw [e1,e2,e3]
  exact h
 ·cases hq
end Go.Proofs.Ytffahmnodgnohaa.Core

namespace Go.Proofs.Ytffahmnodgnohaa.Core
open Go IntKind
set_option maxRecDepth 100000
noncomputable section
def LC:Go.Shelf.Ren:=⟨fun | 166=>63 | 167=>62 | 169=>66 | 240=>135 | 276=>162 | n=>n,fun | 72=>105 | 70=>103 | 37=>38 | 75=>108 | 164=>193 | 127=>165 | 80=>112 | n=>n,fun | n=>n⟩
theorem Sb:Builder.Extra Try.prog LC:={
 sizeBuilder:=by kernel_rfl
 liesBuilder:=by kernel_rfl
 t5:=Try.underlying5
 a5:=Try.isAgg5
 z5:=Try.sizeOf5
 v5:=Try.zeroValue5
 infoByte:=by kernel_rfl
 cellsByte:=by kernel_rfl
 sizeByte:=by kernel_rfl
 neB5:=by decide }
theorem Sc:Lays.n167 Try.prog LC:={
 mixed:=by kernel_rfl
 f167:=Try.func62.trans (congrArg some (by kernel_rfl))
 f240:=Try.func135.trans (congrArg some (by kernel_rfl))
 f276:=Try.func162.trans (congrArg some (by kernel_rfl))
 t0:=Try.underlying0
 a0:=Try.isAgg0
 z0:=Try.sizeOf0
 v0:=Try.zeroValue0
 t4:=Try.underlying4
 a4:=Try.isAgg4
 z4:=Try.sizeOf4
 v4:=Try.zeroValue4
 t5:=Try.underlying5
 a5:=Try.isAgg5
 z5:=Try.sizeOf5
 v5:=Try.zeroValue5
 t9:=Try.underlying9
 a9:=Try.isAgg9
 z9:=Try.sizeOf9
 v9:=Try.zeroValue9
 t20:=Try.underlying20
 a20:=Try.isAgg20
 z20:=Try.sizeOf20
 v20:=Try.zeroValue20
 t37:=Try.underlying38
 a37:=Try.isAgg38
 z37:=Try.sizeOf38
 v37:=Try.zeroValue38
 t70:=Try.underlying103
 a70:=Try.isAgg103
 z70:=Try.sizeOf103
 v70:=Try.zeroValue103
 t72:=Try.underlying105
 a72:=Try.isAgg105
 z72:=Try.sizeOf105
 v72:=Try.zeroValue105
 t75:=Try.underlying108
 a75:=Try.isAgg108
 z75:=Try.sizeOf108
 v75:=Try.zeroValue108
 t164:=Try.underlying193
 a164:=Try.isAgg193
 z164:=Try.sizeOf193
 v164:=Try.zeroValue193 }
theorem D5:Ih Try.prog 62 0 5 105:=Q4 Sc Sb
theorem Sd:Lays.n166 Try.prog LC:={
 mixed:=by kernel_rfl
 f166:=Try.func63.trans (congrArg some (by kernel_rfl))
 f240:=Try.func135.trans (congrArg some (by kernel_rfl))
 f276:=Try.func162.trans (congrArg some (by kernel_rfl))
 t0:=Try.underlying0
 a0:=Try.isAgg0
 z0:=Try.sizeOf0
 v0:=Try.zeroValue0
 t3:=Try.underlying3
 a3:=Try.isAgg3
 z3:=Try.sizeOf3
 v3:=Try.zeroValue3
 t4:=Try.underlying4
 a4:=Try.isAgg4
 z4:=Try.sizeOf4
 v4:=Try.zeroValue4
 t9:=Try.underlying9
 a9:=Try.isAgg9
 z9:=Try.sizeOf9
 v9:=Try.zeroValue9
 t20:=Try.underlying20
 a20:=Try.isAgg20
 z20:=Try.sizeOf20
 v20:=Try.zeroValue20
 t37:=Try.underlying38
 a37:=Try.isAgg38
 z37:=Try.sizeOf38
 v37:=Try.zeroValue38
 t70:=Try.underlying103
 a70:=Try.isAgg103
 z70:=Try.sizeOf103
 v70:=Try.zeroValue103
 t72:=Try.underlying105
 a72:=Try.isAgg105
 z72:=Try.sizeOf105
 v72:=Try.zeroValue105
 t75:=Try.underlying108
 a75:=Try.isAgg108
 z75:=Try.sizeOf108
 v75:=Try.zeroValue108
 t164:=Try.underlying193
 a164:=Try.isAgg193
 z164:=Try.sizeOf193
 v164:=Try.zeroValue193 }
theorem Dc:Ih Try.prog 63 1 5 105:=Rx Sd Sb
theorem Se:Lays.n169 Try.prog LC:={
 mixed:=by kernel_rfl
 f169:=Try.func66.trans (congrArg some (by kernel_rfl))
 t0:=Try.underlying0
 a0:=Try.isAgg0
 z0:=Try.sizeOf0
 v0:=Try.zeroValue0
 t3:=Try.underlying3
 a3:=Try.isAgg3
 z3:=Try.sizeOf3
 v3:=Try.zeroValue3
 t9:=Try.underlying9
 a9:=Try.isAgg9
 z9:=Try.sizeOf9
 v9:=Try.zeroValue9
 t37:=Try.underlying38
 a37:=Try.isAgg38
 z37:=Try.sizeOf38
 v37:=Try.zeroValue38
 t70:=Try.underlying103
 a70:=Try.isAgg103
 z70:=Try.sizeOf103
 v70:=Try.zeroValue103
 t72:=Try.underlying105
 a72:=Try.isAgg105
 z72:=Try.sizeOf105
 v72:=Try.zeroValue105
 t127:=Try.underlying165
 a127:=Try.isAgg165
 z127:=Try.sizeOf165
 v127:=Try.zeroValue165 }
theorem EV:Ih Try.prog 66 2 5 105:=Ry Se Sb

def S5:List (Nat×CN):=[(3,Au),(12,ED),(13,Aw),(14,EE),(15,AP),(16,EF),(23,BY),(24,BZ),(56,BJ),(57,DL),(58,Bb),(59,Cu),(60,Dp),(61,BK),(64,BL),(65,Dq),(67,BM),(80,EG),(81,BN),(82,DM),(83,Dr),(84,BO),(131,Ds),(132,DN),(133,EH),(134,Dt),(136,DO),(137,Du),(145,EI),(161,Am),(163,EJ),(177,An)]
def Ho (f:Nat):Option CN:=Ru f S5
theorem TO:Qo Try.prog Ho:=P7 (.cons Gv <| .cons Np <| .cons L1 <| .cons Nq <| .cons L2 <| .cons Nr <| .cons Ns <| .cons Nt <| .cons L3 <| .cons L4 <| .cons Mn <| .cons Kr <| .cons Mo <| .cons L5 <| .cons L6 <| .cons Mp <| .cons L7 <| .cons Nu <| .cons L8 <| .cons L9 <| .cons Mq <| .cons L_ <| .cons Mr <| .cons MA <| .cons Nv <| .cons Ms <| .cons MB <| .cons Mt <| .cons Nw <| .cons MC <| .cons Nx <| .cons MD .nil)
def Bs:By:=fun f args bs=>if f=Bl+62 then Q5 0 5 105 args bs else if f=Bl+63 then Q5 1 5 105 args bs else if f=Bl+66 then Q5 2 5 105 args bs else none
theorem Rz:Cg Try.prog Bs:=by
 refine ⟨fun f k t T h=>?_,fun f args bs rs hf h=>?_⟩<;>unfold Bs at h
 ·split at h
  ·rename_i e; obtain rfl:=Nat.add_left_cancel e; exact N0 D5 h
  split at h
  ·rename_i e; obtain rfl:=Nat.add_left_cancel e; exact N0 Dc h
  split at h
  ·rename_i e; obtain rfl:=Nat.add_left_cancel e; exact N0 EV h
  cases h
 ·split at h
  ·rename_i e; exfalso; unfold Bl at e hf; omega
  split at h
  ·rename_i e; exfalso; unfold Bl at e hf; omega
  split at h
  ·rename_i e; exfalso; unfold Bl at e hf; omega
  cases h
abbrev cP:By:=Nh Ho Bs
def cG {ρ:Type} (c:Ae) (kn kr:St->Option ρ) (ke:Nat->St->Option ρ):St->Option ρ:=CA cP C5 c kn kr ke
def lG {ρ:Type} (c:Ae) (hs:List (Nat×Nat)) (l:List Nat) (n:Nat) (kr:St->Option ρ) (ke:Nat->St->Option ρ):St->Option ρ:=C5 fun go s'=>CA cP C5 c (fun s''=>go (s''.cutH hs l n)) kr ke s'
def kJ {ρ:Type} (c:Ae) (hs:List (Nat×Nat)) (l:List Nat) (n:Nat) (kn kr:St->Option ρ) (ke:Nat->St->Option ρ):St->Option ρ:=fun s=>cG c kn kr ke (s.cutH hs l n)
def kB {ρ:Type} (hs:List (Nat×Nat)) (l:List Nat) (n:Nat) (kn:St->Option ρ):St->Option ρ:=fun s=>kn (s.cutH hs l n)
def kE {ρ:Type} (b:Nat) (hs:List (Nat×Nat)) (l:List Nat) (n:Nat) (kn:St->Option ρ) (ke:Nat->St->Option ρ):Nat->St->Option ρ:=fun i s=>if i=b then kn (s.cutH hs l n) else ke i s
def kx {ρ:Type}:Nat->St->Option ρ:=fun _ _=>none
def cF (f:Nat) (a:CN) (x b:List AV):Option (RT a.outs):=(cP f x b).bind (BV a.outs)
theorem cT (a:CN) {f:Nat} {x b:List AV} {t:Option (RT a.outs)} {r:RT a.outs} (hf:Ho f=some a) (hl:x.length=a.params.length/\b.length=(BG a.params 0).length) (e:Qw cP a x b=t) (h:t=some r):cF f a x b=some r:=O6 hf hl (e.trans h)
theorem jS {ρ:Type} {t w:Option ρ} {r:ρ} (e:w=t) (h:t=some r):w=some r:=e.trans h
theorem lS {ρ:Type} {c:Ae} {hs:List (Nat×Nat)} {l:List Nat} {n:Nat} {kr:St->Option ρ} {ke:Nat->St->Option ρ} {s:St} {t:Option ρ} {r:ρ} (e:CA cP C5 c (fun s=>lG c hs l n kr ke (s.cutH hs l n)) kr ke s=t) (h:t=some r):lG c hs l n kr ke s=some r:=P5 (e.trans h)
def B_strings_Builder_WriteByte:Option Unit:=(cP (Bl+62) [.int .i64 ((0:Nat):Int),.int .i64 ((5:Nat):Int),.int .i64 ((105:Nat):Int)] []).bind (BV [])
theorem Di:B_strings_Builder_WriteByte=some ():=by
 unfold B_strings_Builder_WriteByte cP
 rw [Jo (r:=[]) rfl (by rfl)]
 rfl
def B_strings_Builder_WriteString:Option Unit:=(cP (Bl+63) [.int .i64 ((1:Nat):Int),.int .i64 ((5:Nat):Int),.int .i64 ((105:Nat):Int)] []).bind (BV [])
theorem Bt:B_strings_Builder_WriteString=some ():=by
 unfold B_strings_Builder_WriteString cP
 rw [Jo (r:=[]) rfl (by rfl)]
 rfl
def B_strings_Builder_String:Option Unit:=(cP (Bl+66) [.int .i64 ((2:Nat):Int),.int .i64 ((5:Nat):Int),.int .i64 ((105:Nat):Int)] []).bind (BV [])
theorem EL:B_strings_Builder_String=some ():=by
 unfold B_strings_Builder_String cP
 rw [Jo (r:=[]) rfl (by rfl)]
 rfl
def Dd (x0:A7):Option Bool:=cF 3 Au [.agg (Ao.enc x0)] []
def GY (x0:A7) (x1:Int):Option Int:=cF 12 ED [.agg (Ao.enc x0),.int .i64 x1] []
def EW (x0:A7):Option (ByteArray×Bool):=cF 13 Aw [.agg (Ao.enc x0)] []
def DP (x0:A7):Option A7:=cF 14 EE [.agg (Ao.enc x0)] []
def EX (x0:A7):Option (ByteArray×Bool):=cF 15 AP [.agg (Ao.enc x0)] []
def GZ (x0 x1:A7):Option Bool:=cF 16 EF [.agg (Ao.enc x0),.agg (Ao.enc x1)] []
def Ga (x0:A7):Option Bool:=cF 23 BY [.agg (Ao.enc x0)] []
def Gb (x0:A7):Option Bool:=cF 24 BZ [.agg (Ao.enc x0)] []
def EY (x0:List Aj) (x1:Int):Option Int:=cF 56 BJ [.lst AO x0,.int .i64 x1] []
def CC (x0:Int):Option ByteArray:=cF 57 DL [.int .i64 x0] []
def CR (x0:Int):Option ByteArray:=cF 58 Bb [.int .i64 x0] []
def Cv (x0:ByteArray):Option ByteArray:=cF 59 Cu [.str x0] []
def Fd (x0:ByteArray):Option (ByteArray×Bool):=cF 60 Dp [.str x0] []
def EZ (x0:List Aj):Option (List Aj):=cF 61 BK [.lst AO x0] []
def Bk (x0:Int):Option ByteArray:=cF 64 BL [.int .i64 x0] []
def Fe (x0:ByteArray):Option (ByteArray×Bool):=cF 65 Dq [.str x0] []
def Ea (x0 x1:List Aj):Option Bool:=cF 67 BM [.lst AO x0,.lst AO x1] []
def Ba (x0 x1 x2:Int):Option Bool:=cF 80 EG [.int .i64 x0,.int .i64 x1,.int .i64 x2] []
def Eb (x0:List Aj):Option Bool:=cF 81 BN [.lst AO x0] []
def BP (x0 x1 x2:Int):Option Bool:=cF 82 DM [.int .i64 x0,.int .i64 x1,.int .i64 x2] []
def Dv (x0:Int):Option Bool:=cF 83 Dr [.int .i64 x0] []
def Ec (x0:List Aj):Option Bool:=cF 84 BO [.lst AO x0] []
def Ff (x0:Aj) (x1:Int):Option Int:=cF 131 Ds [.agg (AO.enc x0),.int .i64 x1] []
def Ed (x0:Int):Option ByteArray:=cF 132 DN [.int .u32 x0] []
def DQ (x0:ByteArray):Option Int:=cF 133 EH [.str x0] []
def Fg (x0:Aj):Option Aj:=cF 134 Dt [.agg (AO.enc x0)] []
def Ee (x0:ByteArray):Option ByteArray:=cF 136 DO [.str x0] []
def Fh (x0 x1:Aj):Option Bool:=cF 137 Du [.agg (AO.enc x0),.agg (AO.enc x1)] []
def Gc (x0:ByteArray):Option Bool:=cF 145 EI [.str x0] []
def Ef (x0:Int) (x1:ByteArray):Option Int:=cF 161 Am [.int .u32 x0,.str x1] []
def Gd (x0:ByteArray):Option Int:=cF 163 EJ [.str x0] []
def Eg (x0:Int) (x1:ByteArray):Option Int:=cF 177 An [.int .u32 x0,.str x1] []

def Cr (x0:Bool) (x1 x2:A7):Option Bool:=cG C6 (Aq Au) (Aq Au) kx ⟨[(1,.ptr 0 0),(6,.ptr 1 0),(34,.bool x0)],[.var (Ao.enc x1),.var (Ao.enc x2)]⟩
def Cs (x0:Bool) (x1 x2:A7):Option Bool:=((DP x1).bind fun y6=>((GZ x2 y6).bind fun y7=>(if (!y7)=true then (some false) else (some true))))
def De (x0:A7):Option Bool:=((GY x0 1048576).bind fun y1=>(if (decide (y1<0))=true then (some true) else ((DP x0).bind fun y2=>((EW y2).bind fun y3=>((DP x0).bind fun y4=>((EX y4).bind fun y5=>(if (!(y5.1.toList==y3.1.toList))=false then (if (true != NN .bool y5.2 y3.2)=true then (some false) else (Cr (true != NN .bool y5.2 y3.2) x0 y4)) else (some false))))))))
theorem Fi:Qy Cs Cr:=jS (by kernel_rfl)
theorem Gw:Md De Dd:=cT Au rfl ⟨rfl,rfl⟩ (by kernel_rfl)
def Ge (x0:A7) (x1:Int):Option Int:=((EY x0.2.2.2.2.2 x1).bind fun y1=>(if (decide (y1<0))=true then (some (-1:Int)) else (some y1)))
theorem Io:On Ge GY:=cT ED rfl ⟨rfl,rfl⟩ (by kernel_rfl)
def Jr:=cG F0 (Aq Aw) (Aq Aw) kx
def Js:=kE 0 [] [4] 1 Jr kx
def Ip:St->Option (RT (CN.outs Aw)):=lG Fz [] [1,4,5] 1 (Aq Aw) Js
def CU (x0:ByteArray) (x1:Int) (x2:A7):Option (ByteArray×Bool):=Ip ⟨[(1,.ptr 0 0),(4,.str x0),(5,.int .i64 x1)],[.var (Ao.enc x2)]⟩
def FH (x0:ByteArray) (x1:A7):Option (ByteArray×Bool):=cG F3 (Aq Aw) (Aq Aw) kx ⟨[(1,.ptr 0 0),(4,.str x0)],[.var (Ao.enc x1)]⟩
def DR (x0:ByteArray) (x1:Int) (x2:A7):Option (ByteArray×Bool):=(if (decide (x1<(x2.2.2.2.2.2.length:Int)))=true then (if 0<=x1 then (if x1<(x2.2.2.2.2.2.length:Int) then (if 0<=x1 then (if x1<(x2.2.2.2.2.2.length:Int) then (if 0<=x1 then (if x1<(x2.2.2.2.2.2.length:Int) then ((Cv ((x2.2.2.2.2.2.getD x1.toNat (AA,AA,0)).1)).bind fun y8=>(if x0.size+y8.size<=1099511627776 then ((Cv (((x2.2.2.2.2.2.getD x1.toNat (AA,AA,0)).2).1)).bind fun y9=>(if (x0++y8).size+y9.size<=1099511627776 then ((CR (((x2.2.2.2.2.2.getD x1.toNat (AA,AA,0)).2).2)).bind fun y10=>(if ((x0++y8)++y9).size+y10.size<=1099511627776 then (CU (((x0++y8)++y9)++y10) (i64.wrap (x1+1)) x2) else none)) else none)) else none)) else none) else none) else none) else none) else none) else none) else ((Fd x0).bind fun y11=>(some (y11.1,y11.2))))
def FI (x0:ByteArray) (x1:A7):Option (ByteArray×Bool):=(CU x0 0 x1)
def HI (x0:A7):Option (ByteArray×Bool):=((Ga x0).bind fun y1=>(if (!y1)=true then (some ((⟨#[]⟩:ByteArray),false)) else ((CC x0.1).bind fun y2=>((CC x0.2.1).bind fun y3=>(if y2.size+y3.size<=1099511627776 then ((CC x0.2.2.1).bind fun y4=>(if (y2++y3).size+y4.size<=1099511627776 then ((CC x0.2.2.2.1).bind fun y5=>(if ((y2++y3)++y4).size+y5.size<=1099511627776 then ((CR x0.2.2.2.2.1).bind fun y6=>(if (((y2++y3)++y4)++y5).size+y6.size<=1099511627776 then ((CR (x0.2.2.2.2.2.length:Int)).bind fun y7=>(if ((((y2++y3)++y4)++y5)++y6).size+y7.size<=1099511627776 then (FH (((((y2++y3)++y4)++y5)++y6)++y7) x0) else none)) else none)) else none)) else none)) else none)))))
theorem FJ:Qy DR CU:=lS (by kernel_rfl)
theorem Iq:On FI FH:=jS (by kernel_rfl)
theorem ME:Md HI EW:=cT Aw rfl ⟨rfl,rfl⟩ (by kernel_rfl)
def Ir (x0:A7):Option A7:=((EZ x0.2.2.2.2.2).bind fun y1=>(some (x0.1,x0.2.1,x0.2.2.1,x0.2.2.2.1,x0.2.2.2.2.1,y1)))
theorem N1:Md Ir DP:=cT EE rfl ⟨rfl,rfl⟩ (by kernel_rfl)
def Jt:=cG Ew (Aq AP) (Aq AP) kx
def Ju:=kE 2 [] [4] 3 Jt kx
def Is:St->Option (RT (CN.outs AP)):=lG Eu [] [4,38,39,40] 3 (Aq AP) Ju
def Jv:=cG DK (Aq AP) (Aq AP) kx
def Jw:=kE 0 [] [1,4] 3 Jv kx
def It:St->Option (RT (CN.outs AP)):=lG F4 [] [1,4,20,21] 3 (Aq AP) Jw
def CV (x0:List Aj) (x1 x2:Int) (x3:A7) (x4:List Int):Option (ByteArray×Bool):=Is ⟨[(4,.ptr 2 0),(38,.lst AO x0),(39,.int .i64 x1),(40,.int .i64 x2)],[.var (Ao.enc x3),.rows 5 (.int .u8) x4,.var [.self 105,.row 1]]⟩
def FK (x0:A7) (x1:List Int):Option (ByteArray×Bool):=cG Ex (Aq AP) (Aq AP) kx ⟨[(1,.ptr 0 0),(4,.ptr 2 0)],[.var (Ao.enc x0),.rows 5 (.int .u8) x1,.var [.self 105,.row 1]]⟩
def DS (x0:A7) (x1:List Int):Option (ByteArray×Bool):=cG DK (Aq AP) (Aq AP) kx ⟨[(1,.ptr 0 0),(4,.ptr 2 0)],[.var (Ao.enc x0),.rows 5 (.int .u8) x1,.var [.self 105,.row 1]]⟩
def Bu (x0 x1 x2 x3 x4:Int) (x5:A7) (x6:List Int):Option (ByteArray×Bool):=It ⟨[(1,.ptr 0 0),(4,.ptr 2 0),(20,.agg [.int .i64 x0,.int .i64 x1,.int .i64 x2,.int .i64 x3]),(21,.int .i64 x4)],[.var (Ao.enc x5),.rows 5 (.int .u8) x6,.var [.self 105,.row 1]]⟩
def DU (x0:List Aj) (x1 x2:Int) (x3:A7) (x4:List Int):Option (ByteArray×Bool):=(if (decide (x2<x1))=true then (if 0<=x2 then (if x2<(x0.length:Int) then ((Bk (((x0.getD x2.toNat (AA,AA,0)).1).size:Int)).bind fun y4=>(if y4.size+((x0.getD x2.toNat (AA,AA,0)).1).size<=1099511627776 then ((Bk ((((x0.getD x2.toNat (AA,AA,0)).2).1).size:Int)).bind fun y5=>(if (y4++((x0.getD x2.toNat (AA,AA,0)).1)).size+y5.size<=1099511627776 then (if ((y4++((x0.getD x2.toNat (AA,AA,0)).1))++y5).size+(((x0.getD x2.toNat (AA,AA,0)).2).1).size<=1099511627776 then ((Bk (((x0.getD x2.toNat (AA,AA,0)).2).2)).bind fun y6=>(if (((y4++((x0.getD x2.toNat (AA,AA,0)).1))++y5)++(((x0.getD x2.toNat (AA,AA,0)).2).1)).size+y6.size<=1099511627776 then (B_strings_Builder_WriteString.bind fun _=>(if x4.length+(Ay ((((y4++((x0.getD x2.toNat (AA,AA,0)).1))++y5)++(((x0.getD x2.toNat (AA,AA,0)).2).1))++y6)).length<=68719476736 then (CV x0 x1 (i64.wrap (x2+1)) x3 (x4++(Ay ((((y4++((x0.getD x2.toNat (AA,AA,0)).1))++y5)++(((x0.getD x2.toNat (AA,AA,0)).2).1))++y6)))) else none)) else none)) else none) else none)) else none)) else none) else none) else (B_strings_Builder_String.bind fun _=>(if Ce x4=true then ((Fe (AI x4)).bind fun y7=>(some (y7.1,y7.2))) else none)))
def FM (x0:A7) (x1:List Int):Option (ByteArray×Bool):=(CV x0.2.2.2.2.2 (x0.2.2.2.2.2.length:Int) 0 x0 x1)
def FN (x0:A7) (x1:List Int):Option (ByteArray×Bool):=((Bk x0.2.2.2.2.1).bind fun y2=>((Bk (x0.2.2.2.2.2.length:Int)).bind fun y3=>(if y2.size+y3.size<=1099511627776 then (B_strings_Builder_WriteString.bind fun _=>(if x1.length+(Ay (y2++y3)).length<=68719476736 then (FK x0 (x1++(Ay (y2++y3)))) else none)) else none)))
def DV (x0 x1 x2 x3 x4:Int) (x5:A7) (x6:List Int):Option (ByteArray×Bool):=(if (decide (x4<4))=true then (if 0<=x4 then (if x4<4 then (B_strings_Builder_WriteByte.bind fun _=>(if x6.length+([(IntKind.u8.wrap (([x0,x1,x2,x3]:List Int).getD x4.toNat 0))]:List Int).length<=68719476736 then (Bu x0 x1 x2 x3 (i64.wrap (x4+1)) x5 (x6++([(IntKind.u8.wrap (([x0,x1,x2,x3]:List Int).getD x4.toNat 0))]:List Int))) else none)) else none) else none) else (DS x5 x6))
def HJ (x0:A7):Option (ByteArray×Bool):=((Gb x0).bind fun y1=>(if (!y1)=true then (some ((⟨#[]⟩:ByteArray),false)) else (Bu x0.1 x0.2.1 x0.2.2.1 x0.2.2.2.1 0 x0 ([]:List Int))))
theorem FO:TV DU CV:=lS (by kernel_rfl)
theorem Iu:On FM FK:=jS (by kernel_rfl)
theorem Iv:On FN DS:=jS (by kernel_rfl)
theorem FP:TW DV Bu:=lS (by kernel_rfl)
theorem MF:Md HJ EX:=cT AP rfl ⟨rfl,rfl⟩ (by kernel_rfl)
def Iw (x0 x1:A7):Option Bool:=(if (x0.1 != x1.1)=true then (some false) else (if (x0.2.1 != x1.2.1)=true then (some false) else (if (x0.2.2.1 != x1.2.2.1)=true then (some false) else (if (x0.2.2.2.1 != x1.2.2.2.1)=true then (some false) else (if (x0.2.2.2.2.1 != x1.2.2.2.2.1)=true then (some false) else ((Ea x0.2.2.2.2.2 x1.2.2.2.2.2).bind fun y1=>(if (!y1)=true then (some false) else (some true))))))))
theorem N2:On Iw GZ:=cT EF rfl ⟨rfl,rfl⟩ (by kernel_rfl)
def HK:=cG HC (Aq BY) (Aq BY) kx
def MG:=kB [] [1] 1 HK
def MH:=kE 0 [] [1] 1 HK kx
def Cw (x0:Int) (x1:Bool) (x2:A7):Option Bool:=cG HB MG (Aq BY) MH ⟨[(1,.ptr 0 0),(38,.int .i64 x0),(39,.bool x1)],[.var (Ao.enc x2)]⟩
def D8 (x0:Bool) (x1:A7):Option Bool:=cG HD (Aq BY) (Aq BY) kx ⟨[(1,.ptr 0 0),(36,.bool x0)],[.var (Ao.enc x1)]⟩
def Gm (x0:Int) (x1:Bool) (x2:A7):Option Bool:=(if x1=true then (some true) else (if (x0==5)=true then (some ((x2.2.2.2.2.2.length:Int)==1)) else (some ((x2.2.2.2.2.2.length:Int)==0))))
def Gn (x0:Bool) (x1:A7):Option Bool:=(if (x1.1==2)=true then (Cw x1.1 (x1.1==2) x1) else (Cw x1.1 (x1.1==3) x1))
def Ix (x0:A7):Option Bool:=((Ba x0.1 1 8).bind fun y1=>(if (!y1)=false then ((Ba x0.2.1 1 6).bind fun y2=>(if (!y2)=false then ((Ba x0.2.2.1 1 6).bind fun y3=>(if (!y3)=false then ((Ba x0.2.2.2.1 1 9).bind fun y4=>(if (!y4)=false then ((Ba x0.2.2.2.2.1 0 1000000000).bind fun y5=>(if (!y5)=false then ((Eb x0.2.2.2.2.2).bind fun y6=>(if (!y6)=true then (some false) else (D8 (!y6) x0))) else (some false))) else (some false))) else (some false))) else (some false))) else (some false)))
theorem Kt:Qy Gm Cw:=jS (by kernel_rfl)
theorem Ku:On Gn D8:=jS (by kernel_rfl)
theorem N3:Md Ix Ga:=cT BY rfl ⟨rfl,rfl⟩ (by kernel_rfl)
def HL:=cG HF (Aq BZ) (Aq BZ) kx
def MI:=kB [] [1] 1 HL
def MJ:=kE 0 [] [1] 1 HL kx
def Cx (x0:Int) (x1:Bool) (x2:A7):Option Bool:=cG HE MI (Aq BZ) MJ ⟨[(1,.ptr 0 0),(38,.int .i64 x0),(39,.bool x1)],[.var (Ao.enc x2)]⟩
def D9 (x0:Bool) (x1:A7):Option Bool:=cG HG (Aq BZ) (Aq BZ) kx ⟨[(1,.ptr 0 0),(36,.bool x0)],[.var (Ao.enc x1)]⟩
def Gp (x0:Int) (x1:Bool) (x2:A7):Option Bool:=(if x1=true then (some true) else (if (x0==5)=true then (some ((x2.2.2.2.2.2.length:Int)==1)) else (some ((x2.2.2.2.2.2.length:Int)==0))))
def Gq (x0:Bool) (x1:A7):Option Bool:=(if (x1.1==2)=true then (Cx x1.1 (x1.1==2) x1) else (Cx x1.1 (x1.1==3) x1))
def Iy (x0:A7):Option Bool:=((BP x0.1 1 8).bind fun y1=>(if (!y1)=false then ((Dv x0.2.1).bind fun y2=>(if (!y2)=false then ((Dv x0.2.2.1).bind fun y3=>(if (!y3)=false then ((BP x0.2.2.2.1 1 9).bind fun y4=>(if (!y4)=false then ((BP x0.2.2.2.2.1 0 1000000000).bind fun y5=>(if (!y5)=false then ((Ec x0.2.2.2.2.2).bind fun y6=>(if (!y6)=true then (some false) else (D9 (!y6) x0))) else (some false))) else (some false))) else (some false))) else (some false))) else (some false)))
theorem Kv:Qy Gp Cx:=jS (by kernel_rfl)
theorem Kw:On Gq D9:=jS (by kernel_rfl)
theorem N4:Md Iy Gb:=cT BZ rfl ⟨rfl,rfl⟩ (by kernel_rfl)
def Jx:=cG F6 (Aq BJ) (Aq BJ) kx
def Jy:=kE 0 [] [1] 0 Jx kx
def Iz:St->Option (RT (CN.outs BJ)):=lG F5 [] [0,1,5] 0 (Aq BJ) Jy
def CW (x0:List Aj) (x1 x2:Int):Option Int:=Iz ⟨[(0,.lst AO x0),(1,.int .i64 x1),(5,.int .i64 x2)],[]⟩
def I0 (x0:List Aj) (x1 x2:Int):Option Int:=(if (decide (x2<(x0.length:Int)))=true then (if 0<=x2 then (if x2<(x0.length:Int) then ((Ff (x0.getD x2.toNat (AA,AA,0)) x1).bind fun y1=>(if (decide (y1<0))=true then (some (-1:Int)) else (CW x0 y1 (i64.wrap (x2+1))))) else none) else none) else (some x1))
def Eh (x0:List Aj) (x1:Int):Option Int:=(if (decide ((i64.wrap (x1-(x0.length:Int)))<0))=true then (some (-1:Int)) else (CW x0 (i64.wrap (x1-(x0.length:Int))) 0))
theorem I1:Qy I0 CW:=lS (by kernel_rfl)
theorem HM:On Eh EY:=cT BJ rfl ⟨rfl,rfl⟩ (by kernel_rfl)
def HN (x0:Int):Option ByteArray:=(some (AI ([(IntKind.u8.wrap x0)]:List Int)))
theorem MK:Md HN CC:=cT DL rfl ⟨rfl,rfl⟩ (by kernel_rfl)
def Kx:=cG Gl (Aq Bb) (Aq Bb) kx
def Ky:=kE 0 [(3,0)] [0,3] 1 Kx kx
def Jz:St->Option (RT (CN.outs Bb)):=lG Gk [(3,0)] [0,3] 1 (Aq Bb) Ky
def Cn (x0:Int) (x1:List Int):Option ByteArray:=Jz ⟨[(0,.int .i64 x0),(3,.row 0)],[.rows 5 (.int .u8) x1]⟩
def GE (x0:Int) (x1:List Int):Option ByteArray:=(if (decide (x0>127))=true then (if 128=0 then none else (if x1.length+([(IntKind.u8.wrap (i64.wrap ((Int.tmod x0 128)+128)))]:List Int).length<=68719476736 then (if 128=0 then none else (Cn (i64.wrap (Int.tdiv x0 128)) (x1++([(IntKind.u8.wrap (i64.wrap ((Int.tmod x0 128)+128)))]:List Int)))) else none)) else (if x1.length+([(IntKind.u8.wrap x0)]:List Int).length<=68719476736 then (some (AI (x1++([(IntKind.u8.wrap x0)]:List Int)))) else none))
def Hx (x0:Int):Option ByteArray:=(Cn x0 ([]:List Int))
theorem J0:On GE Cn:=lS (by kernel_rfl)
theorem Mu:Md Hx CR:=cT Bb rfl ⟨rfl,rfl⟩ (by kernel_rfl)
def Gr (x0:ByteArray):Option ByteArray:=((CR (x0.size:Int)).bind fun y1=>(if y1.size+x0.size<=1099511627776 then (some (y1++x0)) else none))
theorem Kz:Md Gr Cv:=cT Cu rfl ⟨rfl,rfl⟩ (by kernel_rfl)
def Hy (x0:ByteArray):Option (ByteArray×Bool):=(if (decide ((x0.size:Int)>20000))=true then (some ((⟨#[]⟩:ByteArray),false)) else ((DQ x0).bind fun y1=>((Ed y1).bind fun y2=>(if x0.size+y2.size<=1099511627776 then (some ((x0++y2),true)) else none))))
theorem Mv:Md Hy Fd:=cT Dp rfl ⟨rfl,rfl⟩ (by kernel_rfl)
def J2:=cG F8 (Aq BK) (Aq BK) kx
def J3:=kE 0 [(3,0)] [3] 1 J2 kx
def I2:St->Option (RT (CN.outs BK)):=lG F7 [(3,0)] [0,3,4] 1 (Aq BK) J3
def CX (x0:List Aj) (x1:Int) (x2:List Aj):Option (List Aj):=I2 ⟨[(0,.lst AO x0),(3,.row 0),(4,.int .i64 x1)],[.rows 49 AO x2]⟩
def I3 (x0:List Aj) (x1:Int) (x2:List Aj):Option (List Aj):=(if (decide (x1<(x0.length:Int)))=true then (if 0<=x1 then (if x1<(x0.length:Int) then ((Fg (x0.getD x1.toNat (AA,AA,0))).bind fun y1=>(if 0<=x1 then (if x1<(x2.length:Int) then (let z2:List Aj:=x2.set x1.toNat y1; (CX x0 (i64.wrap (x1+1)) z2)) else none) else none)) else none) else none) else (some x2))
def HO (x0:List Aj):Option (List Aj):=(if 0<=(x0.length:Int) then (if (x0.length:Int)<=68719476736 then (CX x0 0 (List.replicate (x0.length:Int).toNat (AA,AA,0))) else none) else none)
theorem I4:Qy I3 CX:=lS (by kernel_rfl)
theorem ML:Md HO EZ:=cT BK rfl ⟨rfl,rfl⟩ (by kernel_rfl)
def J4:=cG F_ (Aq BL) (Aq BL) kx
def J5:=kE 0 [(3,0)] [0,3] 1 J4 kx
def I5:St->Option (RT (CN.outs BL)):=lG F9 [(3,0)] [0,3] 1 (Aq BL) J5
def CY (x0:Int) (x1:List Int):Option ByteArray:=I5 ⟨[(0,.int .i64 x0),(3,.row 0)],[.rows 5 (.int .u8) x1]⟩
def FQ (x0:Int) (x1:List Int):Option ByteArray:=(if (decide (x0>127))=true then (if 128=0 then none else (if x1.length+([(IntKind.u8.wrap (i64.wrap (128+(Int.tmod x0 128))))]:List Int).length<=68719476736 then (if 128=0 then none else (CY (i64.wrap (Int.tdiv x0 128)) (x1++([(IntKind.u8.wrap (i64.wrap (128+(Int.tmod x0 128))))]:List Int)))) else none)) else (if x1.length+([(IntKind.u8.wrap x0)]:List Int).length<=68719476736 then (some (AI (x1++([(IntKind.u8.wrap x0)]:List Int)))) else none))
def HQ (x0:Int):Option ByteArray:=(CY x0 ([]:List Int))
theorem I6:On FQ CY:=lS (by kernel_rfl)
theorem MM:Md HQ Bk:=cT BL rfl ⟨rfl,rfl⟩ (by kernel_rfl)
def Hz (x0:ByteArray):Option (ByteArray×Bool):=(if (decide ((x0.size:Int)>20000))=true then (some ((⟨#[]⟩:ByteArray),false)) else ((Ee x0).bind fun y1=>(if x0.size+y1.size<=1099511627776 then (some ((x0++y1),true)) else none)))
theorem Mw:Md Hz Fe:=cT Dq rfl ⟨rfl,rfl⟩ (by kernel_rfl)
def J6:=cG GB (Aq BM) (Aq BM) kx
def J7:=kE 0 [] [] 0 J6 kx
def I7:St->Option (RT (CN.outs BM)):=lG GA [] [0,1,5] 0 (Aq BM) J7
def CZ (x0 x1:List Aj) (x2:Int):Option Bool:=I7 ⟨[(0,.lst AO x0),(1,.lst AO x1),(5,.int .i64 x2)],[]⟩
def I8 (x0 x1:List Aj) (x2:Int):Option Bool:=(if (decide (x2<(x0.length:Int)))=true then (if 0<=x2 then (if x2<(x0.length:Int) then (if 0<=x2 then (if x2<(x1.length:Int) then ((Fh (x0.getD x2.toNat (AA,AA,0)) (x1.getD x2.toNat (AA,AA,0))).bind fun y1=>(if (!y1)=true then (some false) else (CZ x0 x1 (i64.wrap (x2+1))))) else none) else none) else none) else none) else (some true))
def HR (x0 x1:List Aj):Option Bool:=(if ((x0.length:Int) != (x1.length:Int))=true then (some false) else (CZ x0 x1 0))
theorem I9:Qy I8 CZ:=lS (by kernel_rfl)
theorem MN:On HR Ea:=cT BM rfl ⟨rfl,rfl⟩ (by kernel_rfl)
def I_ (x0 x1 x2:Int):Option Bool:=(if (decide (x0>=x1))=true then (some (decide (x0<=x2))) else (some false))
theorem N5:Qy I_ Ba:=cT EG rfl ⟨rfl,rfl⟩ (by kernel_rfl)
def J8:=cG E2 (Aq BN) (Aq BN) kx
def J9:=kE 0 [] [0] 0 J8 kx
def JA:St->Option (RT (CN.outs BN)):=lG E1 [] [0,3] 0 (Aq BN) J9
def Bv (x0:List Aj) (x1:Int):Option Bool:=JA ⟨[(0,.lst AO x0),(3,.int .i64 x1)],[]⟩
def DW (x0:List Aj) (x1:Int):Option Bool:=(if (decide (x1<(x0.length:Int)))=true then (if 0<=x1 then (if x1<(x0.length:Int) then ((Ba (((x0.getD x1.toNat (AA,AA,0)).1).size:Int) 1 12).bind fun y1=>(if (!y1)=true then (some false) else (if (decide (((((x0.getD x1.toNat (AA,AA,0)).2).1).size:Int)>20))=true then (some false) else ((Ba (((x0.getD x1.toNat (AA,AA,0)).2).2) 1 1000000000).bind fun y2=>(if (!y2)=true then (some false) else (if (decide (x1>0))=true then (if 0<=(i64.wrap (x1-1)) then (if (i64.wrap (x1-1))<(x0.length:Int) then (if (!(Op.bytesLess ((x0.getD (i64.wrap (x1-1)).toNat (AA,AA,0)).1).toList ((x0.getD x1.toNat (AA,AA,0)).1).toList))=true then (some false) else (Bv x0 (i64.wrap (x1+1)))) else none) else none) else (Bv x0 (i64.wrap (x1+1))))))))) else none) else none) else (some (decide ((x0.length:Int)<=12))))
def HS (x0:List Aj):Option Bool:=(Bv x0 0)
theorem FR:On DW Bv:=lS (by kernel_rfl)
theorem MO:Md HS Eb:=cT BN rfl ⟨rfl,rfl⟩ (by kernel_rfl)
def HT (x0 x1 x2:Int):Option Bool:=(if (decide (x0>=x1))=true then (some (decide (x0<=x2))) else (some false))
theorem MP:Qy HT BP:=cT DM rfl ⟨rfl,rfl⟩ (by kernel_rfl)
def H5 (x0:Int):Option Bool:=((BP x0 1 6).bind fun y1=>(some y1))
theorem Mx:Md H5 Dv:=cT Dr rfl ⟨rfl,rfl⟩ (by kernel_rfl)
def J_:=cG E7 (Aq BO) (Aq BO) kx
def KA:=kE 0 [] [0] 0 J_ kx
def JB:St->Option (RT (CN.outs BO)):=lG E6 [] [0,5,6,7] 0 (Aq BO) KA
def Bw (x0 x1:List Aj) (x2 x3:Int):Option Bool:=JB ⟨[(0,.lst AO x0),(5,.lst AO x1),(6,.int .i64 x2),(7,.int .i64 x3)],[]⟩
def DX (x0 x1:List Aj) (x2 x3:Int):Option Bool:=(if (decide (x3<x2))=true then (if 0<=x3 then (if x3<(x1.length:Int) then ((Gc ((x1.getD x3.toNat (AA,AA,0)).1)).bind fun y1=>(if (!y1)=true then (some false) else (if (decide (((((x1.getD x3.toNat (AA,AA,0)).2).1).size:Int)>20))=true then (some false) else ((BP (((x1.getD x3.toNat (AA,AA,0)).2).2) 1 1000000000).bind fun y2=>(if (!y2)=true then (some false) else (if (decide (x3>0))=true then (if 0<=(i64.wrap (x3-1)) then (if (i64.wrap (x3-1))<(x0.length:Int) then (if ((Op.bytesLess ((x1.getD x3.toNat (AA,AA,0)).1).toList ((x0.getD (i64.wrap (x3-1)).toNat (AA,AA,0)).1).toList)||(((x1.getD x3.toNat (AA,AA,0)).1).toList==((x0.getD (i64.wrap (x3-1)).toNat (AA,AA,0)).1).toList))=true then (some false) else (Bw x0 x1 x2 (i64.wrap (x3+1)))) else none) else none) else (Bw x0 x1 x2 (i64.wrap (x3+1))))))))) else none) else none) else (some (decide ((x0.length:Int)<=12))))
def HU (x0:List Aj):Option Bool:=(Bw x0 x0 (x0.length:Int) 0)
theorem FS:TN DX Bw:=lS (by kernel_rfl)
theorem MQ:Md HU Ec:=cT BO rfl ⟨rfl,rfl⟩ (by kernel_rfl)
def Fj (x0:Aj) (x1:Int):Option Int:=(if (decide ((i64.wrap (x1-(x0.1.size:Int)))<0))=true then (some (-1:Int)) else (if (decide ((i64.wrap ((i64.wrap (x1-(x0.1.size:Int)))-(x0.2.1.size:Int)))<0))=true then (some (-1:Int)) else (some (i64.wrap ((i64.wrap (x1-(x0.1.size:Int)))-(x0.2.1.size:Int))))))
theorem My:On Fj Ff:=cT Ds rfl ⟨rfl,rfl⟩ (by kernel_rfl)
def HV (x0:Int):Option ByteArray:=(if 24<0 then none else (if 16<0 then none else (if 8<0 then none else (some (AI ([(IntKind.u8.wrap (Int.fdiv x0 (2^(min (24:Int).toNat (IntKind.bits .u32))))),(IntKind.u8.wrap (Int.fdiv x0 (2^(min (16:Int).toNat (IntKind.bits .u32))))),(IntKind.u8.wrap (Int.fdiv x0 (2^(min (8:Int).toNat (IntKind.bits .u32))))),(IntKind.u8.wrap x0)]:List Int))))))
theorem MR:Md HV Ed:=cT DN rfl ⟨rfl,rfl⟩ (by kernel_rfl)
def JC (x0:ByteArray):Option Int:=((Ef 4294967295 x0).bind fun y1=>(some y1))
theorem N6:Md JC DQ:=cT EH rfl ⟨rfl,rfl⟩ (by kernel_rfl)
def Mz (x0:Aj):Option Aj:=(some x0)
theorem M0:Md Mz Fg:=cT Dt rfl ⟨rfl,rfl⟩ (by kernel_rfl)
def HW (x0:ByteArray):Option ByteArray:=((Gd x0).bind fun y1=>(if 24<0 then none else (if 16<0 then none else (if 8<0 then none else (some (AI ([(IntKind.u8.wrap (Int.fdiv y1 (2^(min (24:Int).toNat (IntKind.bits .u32))))),(IntKind.u8.wrap (Int.fdiv y1 (2^(min (16:Int).toNat (IntKind.bits .u32))))),(IntKind.u8.wrap (Int.fdiv y1 (2^(min (8:Int).toNat (IntKind.bits .u32))))),(IntKind.u8.wrap y1)]:List Int)))))))
theorem MS:Md HW Ee:=cT DO rfl ⟨rfl,rfl⟩ (by kernel_rfl)
def H6 (x0 x1:Aj):Option Bool:=(if (!(x0.1.toList==x1.1.toList))=true then (some false) else (if (!(x0.2.1.toList==x1.2.1.toList))=true then (some false) else (if (x0.2.2 != x1.2.2)=true then (some false) else (some true))))
theorem M1:On H6 Fh:=cT Du rfl ⟨rfl,rfl⟩ (by kernel_rfl)
def JD (x0:ByteArray):Option Bool:=((BP (x0.size:Int) 1 12).bind fun y1=>(some y1))
theorem N7:Md JD Gc:=cT EI rfl ⟨rfl,rfl⟩ (by kernel_rfl)
def KB:=cG E_ (Aq Am) (Aq Am) kx
def Dj:=kE 0 [] [0] 0 KB kx
def FT:St->Option (RT (CN.outs Am)):=lG E9 [] [0,1,5] 0 (Aq Am) Dj
def KC:=kB [] [0,1,5] 0 FT
def GF:=cG E8 KC (Aq Am) Dj
def KD:=kB [] [0,1,5] 0 GF
def KE:=kE 1 [] [0,1,5] 0 GF Dj
def KF:=kE 2 [] [0,1,5] 0 KD KE
def JE:St->Option (RT (CN.outs Am)):=lG GC [] [0,1,5,6] 0 (Aq Am) KF
def BR (x0:Int) (x1:ByteArray) (x2 x3:Int):Option Int:=JE ⟨[(0,.int .u32 x0),(1,.str x1),(5,.int .i64 x2),(6,.int .i64 x3)],[]⟩
def BS (x0:Int) (x1:ByteArray) (x2:Int):Option Int:=FT ⟨[(0,.int .u32 x0),(1,.str x1),(5,.int .i64 x2)],[]⟩
def DY (x0:Int) (x1:ByteArray) (x2 x3:Int):Option Int:=(if (decide (x3<8))=true then (if 2=0 then none else (if 2=0 then none else (if ((Int.tmod x0 2)==1)=true then (BR (C9 .u32 (IntKind.u32.wrap (Int.tdiv x0 2)) 3558460437) x1 x2 (i64.wrap (x3+1))) else (BR (IntKind.u32.wrap (Int.tdiv x0 2)) x1 x2 (i64.wrap (x3+1)))))) else (BS x0 x1 (i64.wrap (x2+1))))
def DZ (x0:Int) (x1:ByteArray) (x2:Int):Option Int:=(if (decide (x2<(x1.size:Int)))=true then (if 0<=x2 then (if x2<(x1.size:Int) then (BR (C9 .u32 x0 (IntKind.u32.wrap ((x1.data.toList.getD x2.toNat 0).toNat:Int))) x1 x2 0) else none) else none) else (some x0))
def HX (x0:Int) (x1:ByteArray):Option Int:=(BS x0 x1 0)
theorem FU:TN DY BR:=lS (by kernel_rfl)
theorem FV:Qy DZ BS:=lS (by kernel_rfl)
theorem MT:On HX Ef:=cT Am rfl ⟨rfl,rfl⟩ (by kernel_rfl)
def JF (x0:ByteArray):Option Int:=((Eg 4294967295 x0).bind fun y1=>(some y1))
theorem N8:Md JF Gd:=cT EJ rfl ⟨rfl,rfl⟩ (by kernel_rfl)
def KG:=cG FC (Aq An) (Aq An) kx
def Dk:=kE 0 [] [0] 0 KG kx
def FW:St->Option (RT (CN.outs An)):=lG FB [] [0,1,5] 0 (Aq An) Dk
def KH:=kB [] [0,1,5] 0 FW
def GG:=cG FA KH (Aq An) Dk
def KI:=kB [] [0,1,5] 0 GG
def KJ:=kE 1 [] [0,1,5] 0 GG Dk
def KK:=kE 2 [] [0,1,5] 0 KI KJ
def JG:St->Option (RT (CN.outs An)):=lG GD [] [0,1,5,19] 0 (Aq An) KK
def BT (x0:Int) (x1:ByteArray) (x2 x3:Int):Option Int:=JG ⟨[(0,.int .u32 x0),(1,.str x1),(5,.int .i64 x2),(19,.int .i64 x3)],[]⟩
def BU (x0:Int) (x1:ByteArray) (x2:Int):Option Int:=FW ⟨[(0,.int .u32 x0),(1,.str x1),(5,.int .i64 x2)],[]⟩
def Da (x0:Int) (x1:ByteArray) (x2 x3:Int):Option Int:=(if (decide (x3<8))=true then (if 1<0 then none else (if ((Ha .u32 x0 1)==1)=true then (BT (C9 .u32 (Int.fdiv x0 (2^(min (1:Int).toNat (IntKind.bits .u32)))) 3558460437) x1 x2 (i64.wrap (x3+1))) else (BT (Int.fdiv x0 (2^(min (1:Int).toNat (IntKind.bits .u32)))) x1 x2 (i64.wrap (x3+1))))) else (BU x0 x1 (i64.wrap (x2+1))))
def Db (x0:Int) (x1:ByteArray) (x2:Int):Option Int:=(if (decide (x2<(x1.size:Int)))=true then (if 0<=x2 then (if x2<(x1.size:Int) then (BT (C9 .u32 x0 (IntKind.u32.wrap ((x1.data.toList.getD x2.toNat 0).toNat:Int))) x1 x2 0) else none) else none) else (some x0))
def HY (x0:Int) (x1:ByteArray):Option Int:=(BU x0 x1 0)
theorem FX:TN Da BT:=lS (by kernel_rfl)
theorem FY:Qy Db BU:=lS (by kernel_rfl)
theorem MU:On HY Eg:=cT An rfl ⟨rfl,rfl⟩ (by kernel_rfl)
end
end Go.Proofs.Ytffahmnodgnohaa.Core


namespace Go.Proofs.Ytffahmnodgnohaa.Core
open Go
theorem Gf {n:Int} (h:-9223372036854775808<=n/\n<=9223372036854775807):IntKind.i64.wrap n=n:=IntWalk.i64_in n h
theorem Bp {i:Nat} (h:i<9223372036854775807):IntKind.i64.wrap ((i:Int)+1)=((i+1:Nat):Int):=by
 rw [Gf (by omega)]
 omega
theorem MV {P:Nat->Prop} {n:Nat} (h0:P n) (h:∀ i,i<n->P (i+1)->P i):∀ i,i<=n->P i:=by
 intro i hi
 induction hk:n-i generalizing i with
 | zero =>
  have:i=n:=by omega
  subst this
  exact h0
 | succ k ih=>exact h i (by omega) (ih (i+1) (by omega) (by omega))
theorem Gg {α:Type} {xs:List α} {i:Nat} {d:α} (h:i<xs.length):xs.getD i d=xs[i]:=by
 simp [List.getD,h]
theorem Q6 {α:Type} {x:List α} {d:α} {i:Nat} (h:i<x.length) :
  (x.take i++List.replicate (x.length-i) d).set i x[i]=x.take (i+1)++List.replicate (x.length-(i+1)) d:=by
 have e:x.length-i=(x.length-(i+1))+1:=by omega
 have l:(x.take i).length=i:=by rw [List.length_take]; omega
 rw [List.set_append_right _ _ (by omega),l,e,List.replicate_succ,Nat.sub_self,List.set_cons_zero]
 have:=List.take_append_getElem (l:=x) (i:=i) h
 rw [<- this,Ap]
 rfl
theorem QA {α:Type} {x:List α} {d:α} {L:Int->List α->Option (List α)} {f:α->Option α} (hf:∀ a,f a=some a) (hn:x.length<=68719476736)
  (h:∀ i z r,(if decide (i<(x.length:Int))=true then (if 0<=i then (if i<(x.length:Int) then ((f (x.getD i.toNat d)).bind fun y=>(if 0<=i then (if i<(z.length:Int) then (let z2:=z.set i.toNat y; L (IntKind.i64.wrap (i+(1:Int))) z2) else none) else none)) else none) else none) else some z)=some r->L i z=some r) :
  L 0 (List.replicate x.length d)=some x:=by
 have:=MV (n:=x.length) (P:=fun i=>L (i:Int) (x.take i++List.replicate (x.length-i) d)=some x) (by
  refine h _ _ _ ?_
  simp) (fun i hi ih=>by
  refine h _ _ _ ?_
  simp only [show ((i:Int)<(x.length:Int)) from by omega,decide_true,if_true,show (0:Int)<=(i:Int) from by omega,C8,Gg hi,hf,O,Bp (show i<9223372036854775807 by omega)]
  rw [if_pos (by simp; omega),Q6 hi]
  exact ih) 0 (by omega)
 simpa using this
theorem QB {α:Type} {x:List α} {d:α} {L:Int->Option Bool} {f:α->α->Option Bool} (hf:∀ a,f a a=some true) (hn:x.length<=68719476736)
  (h:∀ i r,(if decide (i<(x.length:Int))=true then (if 0<=i then (if i<(x.length:Int) then (if 0<=i then (if i<(x.length:Int) then ((f (x.getD i.toNat d) (x.getD i.toNat d)).bind fun y=>(if (!y)=true then some false else L (IntKind.i64.wrap (i+(1:Int))))) else none) else none) else none) else none) else some true)=some r->L i=some r) :
  L 0=some true :=
 MV (n:=x.length) (P:=fun i=>L (i:Int)=some true) (by
  refine h _ _ ?_
  simp) (fun i hi ih=>by
  refine h _ _ ?_
  simp only [show ((i:Int)<(x.length:Int)) from by omega,decide_true,if_true,show (0:Int)<=(i:Int) from by omega,C8,hf,O,Bp (show i<9223372036854775807 by omega)]
  simpa using ih) 0 (by omega)
theorem QC {α:Type} {x:List α} {d:α} {L:Int->Int->Option Int} {f:α->Int->Option Int} (hf:∀ a n,∃ r,f a n=some r) (hn:x.length<=maxLen)
  (h:∀ n i r,(if decide (i<(x.length:Int))=true then (if 0<=i then (if i<(x.length:Int) then ((f (x.getD i.toNat d) n).bind fun y=>(if decide (y<(0:Int))=true then some (-1:Int) else L y (IntKind.i64.wrap (i+(1:Int))))) else none) else none) else some n)=some r->L n i=some r) :
  ∀ n,∃ r,L n 0=some r :=
 have hm:x.length<=9223372036854775807:=hn
 MV (n:=x.length) (P:=fun i=>∀ n,∃ r,L n (i:Int)=some r) (fun n=>⟨n,by
  refine h _ _ _ ?_
  simp⟩) (fun i hi ih n=>by
  obtain ⟨y,hy⟩:=hf x[i] n
  by_cases hq:y<0
  ·refine ⟨-1,h _ _ _ ?_⟩
   simp only [show ((i:Int)<(x.length:Int)) from by omega,decide_true,if_true,show (0:Int)<=(i:Int) from by omega,C8,Gg hi,hy,O]
   simp [hq]
  ·obtain ⟨r,hr⟩:=ih y
   refine ⟨r,h _ _ _ ?_⟩
   simp only [show ((i:Int)<(x.length:Int)) from by omega,decide_true,if_true,show (0:Int)<=(i:Int) from by omega,C8,Gg hi,hy,O,Bp (show i<9223372036854775807 by omega)]
   rw [if_neg (by simpa using hq)]
   exact hr) 0 (by omega)
theorem Q7 {n:Int} {m:Nat} (hm:m<=maxLen) (hn:0<=n/\n<=4611686018427387904) (h:¬ IntKind.i64.wrap (n-(m:Int))<0):(m:Int)<=n:=by
 have:m<=9223372036854775807:=hm
 rw [Gf (by omega)] at h
 omega

theorem Gs (a b c:Int):Ba a b c=some (decide (b<=a)&&decide (a<=c)):=N5 (by
 unfold I_
 by_cases h:b<=a<;>simp [h])
theorem Ca (a b c:Int):BP a b c=some (decide (b<=a)&&decide (a<=c)):=MP (by
 unfold HT
 by_cases h:b<=a<;>simp [h])

theorem Sf x n:∃ r,Ff x n=some r:=by
 have:∃ r,Fj x n=some r:=by
  unfold Fj
  (repeat' split)<;>exact ⟨_,rfl⟩
 exact this.elim fun r h=>⟨r,My h⟩
theorem KL x:Fg x=some x:=M0 rfl
theorem IG x:Fh x x=some true:=M1 (by unfold H6; simp)
theorem JH (x) (hx:x.length<=maxLen) (n:Int) (hn:0<=n/\n<=68719476736):∃ r,EY x n=some r/\(r<0\/(x.length:Int)<=n):=by
 by_cases h:IntKind.i64.wrap (n-(x.length:Int))<0
 ·exact ⟨-1,HM (by unfold Eh; rw [if_pos (by simpa using h)]),.inl (by omega)⟩
 ·obtain ⟨r,hr⟩:=QC (x:=x) (d:=(AA,AA,(0:Int))) (L:=fun n i=>CW x n i) Sf hx (fun n i r h=>I1 h) (IntKind.i64.wrap (n-(x.length:Int)))
  exact ⟨r,HM (by unfold Eh; rw [if_neg (by simpa using h)]; exact hr),.inr (Q7 hx (by omega) h)⟩
theorem JI (x) (h:x.length<=68719476736):EZ x=some x:=ML (by
 unfold HO
 rw [if_pos (by omega),if_pos (by omega)]
 exact QA (L:=fun i z=>CX x i z) KL h (fun i z r h=>I4 h))
theorem Hp (x) (h:x.length<=68719476736):Ea x x=some true:=MN (by
 unfold HR
 rw [if_neg (by simp)]
 exact QB (L:=fun i=>CZ x x i) IG h (fun i r h=>I9 h))
def TP (x:List (ByteArray×ByteArray×Int)) (k:ByteArray):ByteArray×ByteArray×Int :=
 (x.find? fun a=>a.1.toList==k.toList).getD (AA,AA,0)

theorem K3 k:Gc k=some (decide (1<=(k.size:Int))&&decide ((k.size:Int)<=12)):=N7 (by simp [JD,Ca])
theorem KM n:Dv n=some (decide (1<=n)&&decide (n<=6)):=Mx (by simp [H5,Ca])

def LD (a:ByteArray×ByteArray×Int):Bool:=(decide (1<=(a.1.size:Int))&&decide ((a.1.size:Int)<=12))&&decide ((a.2.1.size:Int)<=20)&&(decide (1<=a.2.2)&&decide (a.2.2<=1000000000))
def Be (x:List (ByteArray×ByteArray×Int)) (i:Nat):Nat->Bool
 | 0=>decide ((x.length:Int)<=12)
 | k+1=>LD (x.getD i (AA,AA,0))&&(decide (i=0)||Op.bytesLess (x.getD (i-1) (AA,AA,0)).1.toList (x.getD i (AA,AA,0)).1.toList)&&Be x (i+1) k
theorem S6 (n:Int):decide (n>20)=!decide (n<=20):=by
 by_cases h:n<=20<;>simp [h]
 omega
theorem NK {i:Nat} (h:i<9223372036854775807) (h0:0<i):IntKind.i64.wrap ((i:Int)-1)=((i-1:Nat):Int):=by
 rw [Gf (by omega)]
 omega
theorem JJ (x) (h:x.length<=maxLen):Eb x=some (Be x 0 x.length):=MO (by
 have hm:x.length<=9223372036854775807:=h
 unfold HS
 have:=MV (n:=x.length) (P:=fun i=>Bv x (i:Int)=some (Be x i (x.length-i))) (FR (by
  unfold DW
  rw [if_neg (by simp),Nat.sub_self]
  rfl)) (fun i hi ih=>FR (by
  unfold DW
  have e:x.length-i=(x.length-(i+1))+1:=by omega
  simp only [show ((i:Int)<(x.length:Int)) from by omega,decide_true,if_true,show (0:Int)<=(i:Int) from by omega,C8,Bp (show i<9223372036854775807 by omega),ih,Gs,O,S6]
  rw [e,Be,LD]
  generalize (decide (1<=((x.getD i (AA,AA,0)).1.size:Int))&&decide (((x.getD i (AA,AA,0)).1.size:Int)<=12))=a
  generalize decide (((x.getD i (AA,AA,0)).2.1.size:Int)<=20)=b
  generalize (decide (1<=(x.getD i (AA,AA,0)).2.2)&&decide ((x.getD i (AA,AA,0)).2.2<=1000000000))=c
  cases a
  ·simp
  cases b
  ·simp
  cases c
  ·simp
  by_cases h0:0<i
  ·rw [NK (by omega) h0]
   simp only [C8,show ((0:Int)<=((i-1:Nat):Int)) from by omega,show (((i-1:Nat):Int)<(x.length:Int)) from by omega,if_true]
   rcases Bool.eq_false_or_eq_true (Op.bytesLess (x.getD (i-1) (AA,AA,0)).1.toList (x.getD i (AA,AA,0)).1.toList) with hb | hb<;>simp only [hb]<;>simp [h0,show i≠0 by omega]
  ·have:i=0:=by omega
   subst this
   simp)) 0 (by omega)
 simpa using this)
theorem JK (x) (h:x.length<=maxLen) (hl:∀ a b:List UInt8,(Op.bytesLess a b||a==b)=!Op.bytesLess b a):Ec x=some (Be x 0 x.length):=MQ (by
 have hm:x.length<=9223372036854775807:=h
 unfold HU
 have:=MV (n:=x.length) (P:=fun i=>Bw x x (x.length:Int) (i:Int)=some (Be x i (x.length-i))) (FS (by
  unfold DX
  rw [if_neg (by simp),Nat.sub_self]
  rfl)) (fun i hi ih=>FS (by
  unfold DX
  have e:x.length-i=(x.length-(i+1))+1:=by omega
  simp only [show ((i:Int)<(x.length:Int)) from by omega,decide_true,if_true,show (0:Int)<=(i:Int) from by omega,C8,Bp (show i<9223372036854775807 by omega),ih,Ca,K3,O,S6,hl]
  rw [e,Be,LD]
  generalize (decide (1<=((x.getD i (AA,AA,0)).1.size:Int))&&decide (((x.getD i (AA,AA,0)).1.size:Int)<=12))=a
  generalize decide (((x.getD i (AA,AA,0)).2.1.size:Int)<=20)=b
  generalize (decide (1<=(x.getD i (AA,AA,0)).2.2)&&decide ((x.getD i (AA,AA,0)).2.2<=1000000000))=c
  cases a
  ·simp
  cases b
  ·simp
  cases c
  ·simp
  by_cases h0:0<i
  ·rw [NK (by omega) h0]
   simp only [C8,show ((0:Int)<=((i-1:Nat):Int)) from by omega,show (((i-1:Nat):Int)<(x.length:Int)) from by omega,if_true]
   rcases Bool.eq_false_or_eq_true (Op.bytesLess (x.getD (i-1) (AA,AA,0)).1.toList (x.getD i (AA,AA,0)).1.toList) with hb | hb<;>simp only [hb]<;>simp [h0,show i≠0 by omega]
  ·have:i=0:=by omega
   subst this
   simp)) 0 (by omega)
 simpa using this)
theorem Kk:∀ a b:List UInt8,(Op.bytesLess a b||a==b)=!Op.bytesLess b a
 | [],[]=>rfl
 | [],_::_=>rfl
 | _::_,[]=>rfl
 | a::l,b::m=>by
  have ih:=Kk l m
  simp only [Op.bytesLess]
  by_cases h1:a<b
  ·have h2:¬ b<a:=by exact UInt8.not_lt.2 (UInt8.le_of_lt h1)
   have h3:¬ b=a:=fun h=>by subst h; exact absurd h1 (UInt8.lt_irrefl _)
   simp [h1,h2,h3]
  ·by_cases h2:b<a
   ·have h3:¬ a=b:=fun h=>by subst h; exact absurd h2 (UInt8.lt_irrefl _)
    simp [h1,h2,h3]
   ·have h3:a=b:=UInt8.le_antisymm (UInt8.not_lt.1 h2) (UInt8.not_lt.1 h1)
    subst h3
    simpa [h1] using ih

abbrev HZ:Type:=Int×Int×Int×Int×Int×List (ByteArray×ByteArray×Int)
theorem Gt (x:HZ) (h:x.2.2.2.2.2.length<=68719476736):DP x=some x:=N1 (by
 unfold Ir
 rw [JI _ h]
 rfl)
theorem JL (x:HZ) (h:x.2.2.2.2.2.length<=68719476736):GZ x x=some true:=N2 (by
 unfold Iw
 simp [Hp _ h])
theorem K4 (x:HZ) (hx:x.2.2.2.2.2.length<=maxLen) (n:Int) (hn:0<=n/\n<=68719476736):∃ r,GY x n=some r/\(r<0\/(x.2.2.2.2.2.length:Int)<=n):=by
 obtain ⟨r,hr,ho⟩:=JH x.2.2.2.2.2 hx n hn
 by_cases h:r<0
 ·exact ⟨-1,Io (by unfold Ge; rw [hr,O,if_pos (by simpa using h)]),.inl (by omega)⟩
 ·exact ⟨r,Io (by unfold Ge; rw [hr,O,if_neg (by simpa using h)]),ho⟩
def JM (x:HZ):Bool :=
 (decide (1<=x.1)&&decide (x.1<=8))&&(decide (1<=x.2.1)&&decide (x.2.1<=6))&&(decide (1<=x.2.2.1)&&decide (x.2.2.1<=6))&&(decide (1<=x.2.2.2.1)&&decide (x.2.2.2.1<=9))&&(decide (0<=x.2.2.2.2.1)&&decide (x.2.2.2.2.1<=1000000000))&&Be x.2.2.2.2.2 0 x.2.2.2.2.2.length &&
  (if x.1=2\/x.1=3 then true else if x.1=5 then ((x.2.2.2.2.2.length:Int)==1) else ((x.2.2.2.2.2.length:Int)==0))
theorem K5 (x:HZ) (h:x.2.2.2.2.2.length<=maxLen):Ga x=some (JM x):=N3 (by
 have w1:∀ a b,Cw a b x=some (if b=true then true else if a=5 then ((x.2.2.2.2.2.length:Int)==1) else ((x.2.2.2.2.2.length:Int)==0)):=fun a b=>Kt (by
  unfold Gm
  by_cases h1:b=true<;>by_cases h2:a=5<;>simp [h1,h2])
 have w0:∀ b,D8 b x=some (if x.1=2\/x.1=3 then true else if x.1=5 then ((x.2.2.2.2.2.length:Int)==1) else ((x.2.2.2.2.2.length:Int)==0)):=fun b=>Ku (by
  unfold Gn
  by_cases h1:x.1=2<;>by_cases h2:x.1=3<;>simp [h1,h2,w1])
 unfold Ix JM
 simp only [Gs,JJ _ h,O,w0]
 generalize (decide (1<=x.1)&&decide (x.1<=8))=a
 generalize (decide (1<=x.2.1)&&decide (x.2.1<=6))=b
 generalize (decide (1<=x.2.2.1)&&decide (x.2.2.1<=6))=c
 generalize (decide (1<=x.2.2.2.1)&&decide (x.2.2.2.1<=9))=d
 generalize (decide (0<=x.2.2.2.2.1)&&decide (x.2.2.2.2.1<=1000000000))=e
 generalize Be x.2.2.2.2.2 0 x.2.2.2.2.2.length=f
 cases a<;>cases b<;>cases c<;>cases d<;>cases e<;>cases f<;>simp)
theorem K6 (x:HZ) (h:x.2.2.2.2.2.length<=maxLen):Gb x=some (JM x):=N4 (by
 have w1:∀ a b,Cx a b x=some (if b=true then true else if a=5 then ((x.2.2.2.2.2.length:Int)==1) else ((x.2.2.2.2.2.length:Int)==0)):=fun a b=>Kv (by
  unfold Gp
  by_cases h1:b=true<;>by_cases h2:a=5<;>simp [h1,h2])
 have w0:∀ b,D9 b x=some (if x.1=2\/x.1=3 then true else if x.1=5 then ((x.2.2.2.2.2.length:Int)==1) else ((x.2.2.2.2.2.length:Int)==0)):=fun b=>Kw (by
  unfold Gq
  by_cases h1:x.1=2<;>by_cases h2:x.1=3<;>simp [h1,h2,w1])
 unfold Iy JM
 simp only [Ca,KM,JK _ h Kk,O,w0]
 generalize (decide (1<=x.1)&&decide (x.1<=8))=a
 generalize (decide (1<=x.2.1)&&decide (x.2.1<=6))=b
 generalize (decide (1<=x.2.2.1)&&decide (x.2.2.1<=6))=c
 generalize (decide (1<=x.2.2.2.1)&&decide (x.2.2.2.1<=9))=d
 generalize (decide (0<=x.2.2.2.2.1)&&decide (x.2.2.2.2.1<=1000000000))=e
 generalize Be x.2.2.2.2.2 0 x.2.2.2.2.2.length=f
 cases a<;>cases b<;>cases c<;>cases d<;>cases e<;>cases f<;>simp)

theorem NL {n:Int} (h:0<=n/\n<256):IntKind.u8.wrap n=n:=by
 have e:IntKind.u8.wrap n=n % 256:=rfl
 rw [e]; omega
theorem N9 {n:Int} (h:0<=n/\n<4294967296):IntKind.u32.wrap n=n:=by
 have e:IntKind.u32.wrap n=n % 4294967296:=rfl
 rw [e]; omega
theorem Sg (n:Int):0<=IntKind.u32.wrap n/\IntKind.u32.wrap n<4294967296:=by
 have e:IntKind.u32.wrap n=n % 4294967296:=rfl
 rw [e]; omega
theorem Ei (a b:List Int):AI (a++b)=AI a++AI b:=by
 apply ByteArray.ext
 simp [AI,ByteArray.data_append]
theorem AN (a:List Int):(AI a).size=a.length:=by simp [AI,ByteArray.size]
theorem CS (b:ByteArray):(Ay b).length=b.size:=by simp [Ay]
theorem MW (b:ByteArray):AI (Ay b)=b:=by
 apply ByteArray.ext
 apply Array.ext'
 simp only [AI,Ay,List.map_map]
 have:((fun n:Int=>UInt8.ofNat n.toNat) ∘ fun u:UInt8=>(u.toNat:Int))=id:=by funext u; simp
 rw [this,List.map_id]
theorem EM (a b:List Int):Ce (a++b)=(Ce a&&Ce b):=by simp [Ce]
theorem N_ (b:ByteArray):Ce (Ay b)=true:=by
 simp only [Ce,Ay,List.all_map,AT,Function.comp,J,decide_eq_true_eq]
 intro u _
 have:u.toNat<256:=u.toNat_lt
 omega
theorem Ej:∀ {a:List Int},Ce a=true->Ay (AI a)=a
 | [],_=>rfl
 | x::a,h=>by
  simp only [Ce,List.all_cons,J,decide_eq_true_eq] at h
  have ih:=Ej (a:=a) (by simpa [Ce] using h.2)
  have e:((UInt8.ofNat x.toNat).toNat:Int)=x:=by
   have:x.toNat<256:=by omega
   simp [UInt8.toNat_ofNat',Nat.mod_eq_of_lt this]
   omega
  simp only [AI,Ay,List.map_cons,e,List.cons.injEq,true_and] at ih ⊢
  exact ih
theorem Dw (a b:ByteArray):Ay (a++b)=Ay a++Ay b:=by
 simp [Ay,ByteArray.data_append]
def Ok (n:Nat):List Int:=if n>127 then ((128+n % 128:Nat):Int)::Ok (n / 128) else [(n:Int)]
termination_by n
decreasing_by omega
theorem B9 (n:Nat):(Ok n).length<=n / 127+1:=by
 induction n using Nat.strongRecOn with
 | _ n ih =>
  rw [Ok]
  split
  ·rename_i h
   have:=ih (n / 128) (by omega)
   simp only [List.length_cons]
   omega
  ·simp
theorem JN (n:Nat):Ce (Ok n)=true:=by
 induction n using Nat.strongRecOn with
 | _ n ih =>
  rw [Ok]
  split
  ·rename_i h
   have:=ih (n / 128) (by omega)
   simp only [Ce,List.all_cons,J,decide_eq_true_eq] at this ⊢
   exact ⟨by omega,this⟩
  ·simp only [Ce,List.all_cons,List.all_nil,J,decide_eq_true_eq,and_true]
   omega
theorem QD (n:Nat):∀ xs:List Int,xs.length+n+1<=68719476736->CY (n:Int) xs=some (AI (xs++Ok n)):=by
 induction n using Nat.strongRecOn with
 | _ n ih =>
  intro xs hl
  refine I6 ?_
  unfold FQ
  rw [Ok]
  by_cases h:n>127
  ·have e1:Int.tmod (n:Int) 128=((n % 128:Nat):Int):=by rw [Int.tmod_eq_emod_of_nonneg (by omega)]; omega
   have e2:Int.tdiv (n:Int) 128=((n / 128:Nat):Int):=by rw [Int.tdiv_eq_ediv_of_nonneg (by omega)]; omega
   rw [if_pos (by simpa using (by omega:(n:Int)>127)),if_neg (by omega),if_pos (by simp only [List.length_cons,List.length_nil]; omega),if_neg (by omega),e1,e2,Gf (n:=128+_) (by omega),NL (by omega),Gf (by omega)]
   rw [ih (n / 128) (by omega) _ (by simp only [List.length_append,List.length_cons,List.length_nil]; omega),if_pos h]
   simp
  ·rw [if_neg (by simp; omega),if_pos (by simp only [List.length_cons,List.length_nil]; omega),NL (by omega),if_neg h]
theorem QE (n:Nat):∀ xs:List Int,xs.length+n+1<=68719476736->Cn (n:Int) xs=some (AI (xs++Ok n)):=by
 induction n using Nat.strongRecOn with
 | _ n ih =>
  intro xs hl
  refine J0 ?_
  unfold GE
  rw [Ok]
  by_cases h:n>127
  ·have e1:Int.tmod (n:Int) 128=((n % 128:Nat):Int):=by rw [Int.tmod_eq_emod_of_nonneg (by omega)]; omega
   have e2:Int.tdiv (n:Int) 128=((n / 128:Nat):Int):=by rw [Int.tdiv_eq_ediv_of_nonneg (by omega)]; omega
   rw [if_pos (by simpa using (by omega:(n:Int)>127)),if_neg (by omega),if_pos (by simp only [List.length_cons,List.length_nil]; omega),if_neg (by omega),e1,e2,Gf (n:=_+128) (by omega),NL (by omega),Gf (by omega)]
   rw [ih (n / 128) (by omega) _ (by simp only [List.length_append,List.length_cons,List.length_nil]; omega),if_pos h]
   simp [Nat.add_comm,Int.add_comm]
  ·rw [if_neg (by simp; omega),if_pos (by simp only [List.length_cons,List.length_nil]; omega),NL (by omega),if_neg h]
theorem Bx {n:Nat} (h:n<=1000000000):Bk (n:Int)=some (AI (Ok n)):=MM (by
 unfold HQ
 simpa using QD n [] (by simp; omega))
theorem Co {n:Nat} (h:n<=1000000000):CR (n:Int)=some (AI (Ok n)):=Mu (by
 unfold Hx
 simpa using QE n [] (by simp; omega))
def KN (x:Int):Int:=if x % 2=1 then C9 .u32 (x / 2) 3558460437 else x / 2
def Dx:Nat->Int->Int
 | 0,x=>x
 | n+1,x=>Dx n (KN x)
def OA (x:Int) (b:UInt8):Int:=Dx 8 (C9 .u32 x (b.toNat:Int))
def MX (x:Int) (l:List UInt8):Int:=l.foldl OA x
theorem KO (a b:Int):0<=C9 .u32 a b/\C9 .u32 a b<4294967296:=Sg _
theorem QF {x:Int} (h:0<=x/\x<4294967296):0<=KN x/\KN x<4294967296:=by
 unfold KN
 split
 ·exact KO _ _
 ·omega
theorem MY:∀ (n:Nat) {x:Int},0<=x/\x<4294967296->0<=Dx n x/\Dx n x<4294967296
 | 0,_,h=>h
 | n+1,_,h=>MY n (QF h)
theorem MZ (x:Int) (b:UInt8):0<=OA x b/\OA x b<4294967296:=MY 8 (KO _ _)
theorem R0 {x:Int} (h:0<=x/\x<4294967296):Ha .u32 x 1=x % 2:=by
 unfold Ha
 have e:(BitVec.ofInt (IntKind.bits .u32) x &&& BitVec.ofInt (IntKind.bits .u32) 1).toNat=x.toNat % 2:=by
  rw [BitVec.toNat_and]
  have e1:(BitVec.ofInt (IntKind.bits .u32) 1).toNat=1:=by decide
  have e2:(BitVec.ofInt (IntKind.bits .u32) x).toNat=x.toNat:=by
   simp only [BitVec.toNat_ofInt,IntKind.bits]
   omega
  rw [e1,e2,Nat.and_one_is_mod]
 rw [e,N9 (by omega)]
 omega
theorem Pc {b:ByteArray} {i:Nat} (h:i<b.size):b.data.toList.getD i 0=b.data.toList[i]'(by simpa using h):=Gg _
theorem O9 {b:ByteArray} {i:Nat} (hi:i<4611686018427387904) {r:Int}:∀ (k:Nat),k<=8->∀ x:Int,0<=x/\x<4294967296->BS (Dx (8-k) x) b ((i+1:Nat):Int)=some r->BR x b (i:Int) (k:Int)=some r :=
 MV (n:=8) (P:=fun k=>∀ x:Int,0<=x/\x<4294967296->BS (Dx (8-k) x) b ((i+1:Nat):Int)=some r->BR x b (i:Int) (k:Int)=some r)
  (fun x hx h=>FU (by
   unfold DY
   rw [if_neg (by simp),Bp (by omega)]
   exact h))
  (fun k hk ih x hx h=>FU (by
   unfold DY
   have e:8-k=(8-(k+1))+1:=by omega
   rw [e,Dx] at h
   rw [if_pos (by simp; omega),if_neg (by omega),if_neg (by omega),Int.tmod_eq_emod_of_nonneg hx.1,Int.tdiv_eq_ediv_of_nonneg hx.1,N9 (n:=x / 2) (by omega),Bp (by omega)]
   unfold KN at h
   by_cases h2:x % 2=1
   ·rw [if_pos (by simpa using h2)]
    rw [if_pos h2] at h
    exact ih _ (KO _ _) h
   ·rw [if_neg (by simpa using h2)]
    rw [if_neg h2] at h
    exact ih _ (by omega) h))
theorem O_ {b:ByteArray} {i:Nat} (hi:i<4611686018427387904) {r:Int}:∀ (k:Nat),k<=8->∀ x:Int,0<=x/\x<4294967296->BU (Dx (8-k) x) b ((i+1:Nat):Int)=some r->BT x b (i:Int) (k:Int)=some r :=
 MV (n:=8) (P:=fun k=>∀ x:Int,0<=x/\x<4294967296->BU (Dx (8-k) x) b ((i+1:Nat):Int)=some r->BT x b (i:Int) (k:Int)=some r)
  (fun x hx h=>FX (by
   unfold Da
   rw [if_neg (by simp),Bp (by omega)]
   exact h))
  (fun k hk ih x hx h=>FX (by
   unfold Da
   have e:8-k=(8-(k+1))+1:=by omega
   have e2:Int.fdiv x (2^(min (1:Int).toNat (IntKind.bits .u32)))=x / 2:=by
    have:(2:Int)^(min (1:Int).toNat (IntKind.bits .u32))=2:=by decide
    rw [this,Int.fdiv_eq_ediv_of_nonneg _ (by omega)]
   rw [e,Dx] at h
   rw [if_pos (by simp; omega),if_neg (by omega),R0 hx,e2,Bp (by omega)]
   unfold KN at h
   by_cases h2:x % 2=1
   ·rw [if_pos (by simpa using h2)]
    rw [if_pos h2] at h
    exact ih _ (KO _ _) h
   ·rw [if_neg (by simpa using h2)]
    rw [if_neg h2] at h
    exact ih _ (by omega) h))
theorem JO {x:Int} {b:ByteArray} (hx:0<=x/\x<4294967296) (hb:b.size<4611686018427387904):Ef x b=some (MX x b.data.toList):=MT (by
 have:=MV (n:=b.size) (P:=fun i=>∀ x:Int,0<=x/\x<4294967296->BS x b (i:Int)=some (MX x (b.data.toList.drop i))) (fun x hx=>FV (by
  unfold DZ
  rw [if_neg (by simp),List.drop_eq_nil_of_le (by simp)]
  rfl)) (fun i hi ih x hx=>FV (by
  unfold DZ
  have hl:i<b.data.toList.length:=by simpa using hi
  rw [if_pos (by simpa using hi),if_pos (by omega),if_pos (by omega),C8,Pc hi,N9 (n:=((_:UInt8).toNat:Int)) (by have:=(b.data.toList[i]).toNat_lt; omega),List.drop_eq_getElem_cons hl]
  exact O9 (by omega) 0 (by omega) _ (KO _ _) (ih _ (MZ _ _)))) 0 (by omega) x hx
 unfold HX
 simpa using this)
theorem JP {x:Int} {b:ByteArray} (hx:0<=x/\x<4294967296) (hb:b.size<4611686018427387904):Eg x b=some (MX x b.data.toList):=MU (by
 have:=MV (n:=b.size) (P:=fun i=>∀ x:Int,0<=x/\x<4294967296->BU x b (i:Int)=some (MX x (b.data.toList.drop i))) (fun x hx=>FY (by
  unfold Db
  rw [if_neg (by simp),List.drop_eq_nil_of_le (by simp)]
  rfl)) (fun i hi ih x hx=>FY (by
  unfold Db
  have hl:i<b.data.toList.length:=by simpa using hi
  rw [if_pos (by simpa using hi),if_pos (by omega),if_pos (by omega),C8,Pc hi,N9 (n:=((_:UInt8).toNat:Int)) (by have:=(b.data.toList[i]).toNat_lt; omega),List.drop_eq_getElem_cons hl]
  exact O_ (by omega) 0 (by omega) _ (KO _ _) (ih _ (MZ _ _)))) 0 (by omega) x hx
 unfold HY
 simpa using this)
def Q8 (l:List UInt8):List Int :=
 let y:=MX 4294967295 l
 [IntKind.u8.wrap (Int.fdiv y (2^(min (24:Int).toNat (IntKind.bits .u32)))),IntKind.u8.wrap (Int.fdiv y (2^(min (16:Int).toNat (IntKind.bits .u32)))),IntKind.u8.wrap (Int.fdiv y (2^(min (8:Int).toNat (IntKind.bits .u32)))),IntKind.u8.wrap y]
theorem JQ {b:ByteArray} (hb:b.size<4611686018427387904):Ee b=some (AI (Q8 b.data.toList)):=MS (by
 unfold HW
 rw [show Gd b=some (MX 4294967295 b.data.toList) from N8 (by unfold JF; rw [JP (by omega) hb]; rfl),O,if_neg (by omega),if_neg (by omega),if_neg (by omega)]
 rfl)
theorem Ma {b:ByteArray} (hb:b.size<4611686018427387904):(DQ b).bind Ed=some (AI (Q8 b.data.toList)):=by
 rw [show DQ b=some (MX 4294967295 b.data.toList) from N6 (by unfold JC; rw [JO (by omega) hb]; rfl),O]
 exact MR (by
  unfold HV
  rw [if_neg (by omega),if_neg (by omega),if_neg (by omega)]
  rfl)
def Fk (b:ByteArray):ByteArray×Bool:=if b.size>20000 then (AA,false) else (b++AI (Q8 b.data.toList),true)
theorem KP {b:ByteArray} (hb:b.size<4611686018427387904):Fe b=some (Fk b):=Mw (by
 unfold Hz Fk
 by_cases h:b.size>20000
 ·rw [if_pos (by simpa using (by omega:(b.size:Int)>20000)),if_pos h]; rfl
 ·rw [if_neg (by simpa using (by omega:¬ (b.size:Int)>20000)),if_neg h,JQ hb,O,if_pos (by rw [AN]; simp only [Q8,List.length_cons,List.length_nil]; omega)])
theorem KQ {b:ByteArray} (hb:b.size<4611686018427387904):Fd b=some (Fk b):=Mv (by
 unfold Hy Fk
 by_cases h:b.size>20000
 ·rw [if_pos (by simpa using (by omega:(b.size:Int)>20000)),if_pos h]; rfl
 ·have:=Ma hb
  cases h2:DQ b with
  | none=>rw [h2] at this; cases this
  | some y =>
   rw [h2,O] at this
   rw [if_neg (by simpa using (by omega:¬ (b.size:Int)>20000)),if_neg h,O,this,O,if_pos (by rw [AN]; simp only [Q8,List.length_cons,List.length_nil]; omega)])

abbrev R1:Type:=ByteArray×ByteArray×Int
def Ek (x:R1):List Int:=Ok x.1.size++Ay x.1++Ok x.2.1.size++Ay x.2.1++Ok x.2.2.toNat
def JR (x:HZ):List Int:=[x.1,x.2.1,x.2.2.1,x.2.2.2.1]++(Ok x.2.2.2.2.1.toNat++Ok x.2.2.2.2.2.length)
def Gu (x:HZ):List Int:=JR x++x.2.2.2.2.2.flatMap Ek
def Q9 (x:R1):Prop:=x.1.size<=12/\x.2.1.size<=20/\1<=x.2.2/\x.2.2<=1000000000
theorem QG {x:R1} (h:Q9 x):(Ek x).length<=8000000:=by
 obtain ⟨h1,h2,h3,h4⟩:=h
 have a1:=B9 x.1.size
 have a2:=B9 x.2.1.size
 have a3:=B9 x.2.2.toNat
 simp only [Ek,List.length_append,CS]
 omega
theorem PA (x:R1):Ce (Ek x)=true:=by simp [Ek,EM,JN,N_]
theorem Mb:∀ (l:List R1),Ce (l.flatMap Ek)=true
 | []=>rfl
 | x::l=>by rw [List.flatMap_cons,EM,PA,Mb l]; rfl
theorem KR:∀ (l:List R1),(∀ x∈l,Q9 x)->(l.flatMap Ek).length<=l.length*8000000
 | [],_=>by simp
 | x::l,h=>by
  have:=KR l fun y hy=>h y (List.mem_cons_of_mem _ hy)
  have:=QG (h x (List.mem_cons_self ..))
  simp only [List.flatMap_cons,List.length_append,List.length_cons]
  omega
structure Kl (x:HZ):Prop where
 k:1<=x.1/\x.1<=8
 f:1<=x.2.1/\x.2.1<=6
 t:1<=x.2.2.1/\x.2.2.1<=6
 e:1<=x.2.2.2.1/\x.2.2.2.1<=9
 n:0<=x.2.2.2.2.1/\x.2.2.2.2.1<=1000000000
 l:x.2.2.2.2.2.length<=12
 i:∀ y∈x.2.2.2.2.2,Q9 y
theorem Ol {x:List R1}:∀ (k i:Nat),i+k=x.length->Be x i k=true->x.length<=12/\∀ j,i<=j->∀ h:j<x.length,Q9 x[j]
 | 0,i,e,h=>by
  simp only [Be,decide_eq_true_eq] at h
  exact ⟨by omega,fun j hj hl=>by omega⟩
 | k+1,i,e,h=>by
  simp only [Be,J] at h
  obtain ⟨⟨h1,_⟩,h2⟩:=h
  obtain ⟨g1,g2⟩:=Ol k (i+1) (by omega) h2
  refine ⟨g1,fun j hj hl=>?_⟩
  by_cases e2:j=i
  ·subst e2
   rw [Gg hl] at h1
   simp only [LD,J,decide_eq_true_eq] at h1
   exact ⟨by omega,by omega,by omega,by omega⟩
  ·exact g2 j (by omega) hl
theorem Kl.of {x:HZ} (h:JM x=true):Kl x:=by
 simp only [JM,J,decide_eq_true_eq] at h
 obtain ⟨⟨⟨⟨⟨⟨h1,h2⟩,h3⟩,h4⟩,h5⟩,h6⟩,_⟩:=h
 obtain ⟨g1,g2⟩:=Ol _ 0 (by omega) h6
 exact ⟨h1,h2,h3,h4,h5,g1,fun y hy=>by
  obtain ⟨j,hj,rfl⟩:=List.mem_iff_getElem.1 hy
  exact g2 j (by omega) hj⟩
theorem PB {x:HZ} (h:Kl x):Ce (JR x)=true:=by
 have:=h.k; have:=h.f; have:=h.t; have:=h.e
 simp only [JR,EM,JN,Bool.and_true]
 simp only [Ce,List.all_cons,List.all_nil,Bool.and_true,J,decide_eq_true_eq]
 omega
theorem KS {x:HZ} (h:Kl x):(JR x).length<=9000000:=by
 have:=h.n; have:=h.l
 have a1:=B9 x.2.2.2.2.1.toNat
 have a2:=B9 x.2.2.2.2.2.length
 simp only [JR,List.length_append,List.length_cons,List.length_nil]
 omega
theorem PC {x:HZ} (h:Kl x):Ce (Gu x)=true:=by
 rw [Gu,EM,PB h,Mb]; rfl
theorem NM {x:HZ} (h:Kl x):(Gu x).length<=200000000:=by
 have:=KS h
 have:=KR _ h.i
 have:=h.l
 rw [Gu,List.length_append]
 omega
def Hl (x:HZ):ByteArray×Bool:=if JM x=true then Fk (AI (Gu x)) else (AA,false)
theorem Mc {x:List R1} {i:Nat} (hi:i<x.length):(x.take (i+1)).flatMap Ek=(x.take i).flatMap Ek++Ek x[i]:=by
 rw [List.take_succ_eq_append_getElem hi,List.flatMap_append]
 simp
theorem Pd {x:List R1} (h:∀ y∈x,Q9 y) (hl:x.length<=12) (i:Nat):((x.take i).flatMap Ek).length<=96000000:=by
 have:=KR (x.take i) fun y hy=>h y (List.mem_of_mem_take hy)
 have:(x.take i).length<=x.length:=by simp; omega
 omega
theorem JS (x:HZ) (hx:x.2.2.2.2.2.length<=maxLen):EX x=some (Hl x):=MF (by
 unfold HJ Hl
 rw [K6 x hx,O]
 cases hm:JM x with
 | false=>rfl
 | true =>
 rw [if_neg (by simp),if_pos rfl]
 have M:=Kl.of hm
 have hn:=M.n
 have hl:=M.l
 have loop:=MV (n:=x.2.2.2.2.2.length) (P:=fun i=>CV x.2.2.2.2.2 (x.2.2.2.2.2.length:Int) (i:Int) x (JR x++(x.2.2.2.2.2.take i).flatMap Ek)=some (Fk (AI (Gu x))))
  (FO (by
   unfold DU
   rw [if_neg (by simp),List.take_length]
   have hb:=PC M
   have hs:=NM M
   rw [Gu] at hb hs ⊢
   rw [EL,O,if_pos hb,KP (by rw [AN]; omega)]
   rfl))
  (fun i hi ih=>FO (by
   unfold DU
   obtain ⟨q1,q2,q3,q4⟩:=M.i _ (II hi)
   have e3:(x.2.2.2.2.2[i]).2.2=(((x.2.2.2.2.2[i]).2.2.toNat:Nat):Int):=by omega
   have l1:=B9 (x.2.2.2.2.2[i]).1.size
   have l2:=B9 (x.2.2.2.2.2[i]).2.1.size
   have l3:=B9 (x.2.2.2.2.2[i]).2.2.toNat
   have l4:=KS M
   have l5:=Pd M.i M.l i
   rw [if_pos (by simpa using hi),if_pos (by omega),if_pos (by omega)]
   simp only [C8,Gg hi]
   rw [Bx (by omega),O,if_pos (by rw [AN]; omega),Bx (by omega),O,
    if_pos (by simp only [ByteArray.size_append,AN]; omega),if_pos (by simp only [ByteArray.size_append,AN]; omega),e3,Bx (by omega),O,
    if_pos (by simp only [ByteArray.size_append,AN]; omega),Bt,O,
    if_pos (by simp only [Dw,List.length_append,CS,AN]; omega),Bp (by omega)]
   rw [Mc hi] at ih
   simp only [Dw,Ej (JN _)]
   rw [Ek] at ih
   rw [Ap]
   exact ih)) 0 (by omega)
 have J1:DS x [x.1,x.2.1,x.2.2.1,x.2.2.2.1]=some (Fk (AI (Gu x))):=Iv (by
  unfold FN
  have e:x.2.2.2.2.1=((x.2.2.2.2.1.toNat:Nat):Int):=by omega
  have l1:=B9 x.2.2.2.2.1.toNat
  have l2:=B9 x.2.2.2.2.2.length
  rw [e,Bx (by omega),O,Bx (by omega),O,if_pos (by simp only [AN]; omega),Bt,O,
   if_pos (by simp only [Dw,List.length_append,CS,AN,List.length_cons,List.length_nil]; omega)]
  refine Iu ?_
  unfold FM
  simp only [Dw,Ej (JN _)]
  simpa [JR] using loop)
 have k:=M.k; have f:=M.f; have t:=M.t; have e:=M.e
 have step:∀ (i:Nat) (c:Int) (xs:List Int),i<4->([x.1,x.2.1,x.2.2.1,x.2.2.2.1]:List Int).getD i 0=c->0<=c/\c<256->xs.length<=10 ->
   Bu x.1 x.2.1 x.2.2.1 x.2.2.2.1 ((i+1:Nat):Int) x (xs++[c])=some (Fk (AI (Gu x)))->Bu x.1 x.2.1 x.2.2.1 x.2.2.2.1 (i:Int) x xs=some (Fk (AI (Gu x))):=fun i c xs hi hc hr hs h=>FP (by
  unfold DV
  rw [if_pos (by simp; omega),if_pos (by omega),if_pos (by omega),C8,hc,NL hr,Di,O,if_pos (by simp only [List.length_cons,List.length_nil]; omega),Bp (by omega)]
  exact h)
 refine step 0 x.1 [] (by omega) rfl (by omega) (by simp) ?_
 refine step 1 x.2.1 _ (by omega) rfl (by omega) (by simp) ?_
 refine step 2 x.2.2.1 _ (by omega) rfl (by omega) (by simp) ?_
 refine step 3 x.2.2.2.1 _ (by omega) rfl (by omega) (by simp) ?_
 exact FP (by
  unfold DV
  rw [if_neg (by simp)]
  exact J1))
theorem Cb {n:Int} (h:0<=n/\n<256):CC n=some (AI [n]):=MK (by unfold HN; rw [NL h])
theorem El {s:ByteArray} (h:s.size<=1000):Cv s=some (AI (Ok s.size++Ay s)):=Kz (by
 unfold Gr
 have:=B9 s.size
 rw [Co (by omega),O,if_pos (by rw [AN]; omega),Ei,MW])
theorem JT (x:HZ) (hx:x.2.2.2.2.2.length<=maxLen):EW x=some (Hl x):=ME (by
 unfold HI Hl
 rw [K5 x hx,O]
 cases hm:JM x with
 | false=>rfl
 | true =>
 rw [if_neg (by simp),if_pos rfl]
 have M:=Kl.of hm
 have hn:=M.n
 have hl:=M.l
 have loop:=MV (n:=x.2.2.2.2.2.length) (P:=fun i=>CU (AI (JR x++(x.2.2.2.2.2.take i).flatMap Ek)) (i:Int) x=some (Fk (AI (Gu x))))
  (FJ (by
   unfold DR
   have hs:=NM M
   rw [if_neg (by simp),List.take_length]
   rw [Gu] at hs ⊢
   rw [KQ (by rw [AN]; omega)]
   rfl))
  (fun i hi ih=>FJ (by
   unfold DR
   obtain ⟨q1,q2,q3,q4⟩:=M.i _ (II hi)
   have e3:(x.2.2.2.2.2[i]).2.2=(((x.2.2.2.2.2[i]).2.2.toNat:Nat):Int):=by omega
   have l1:=B9 (x.2.2.2.2.2[i]).1.size
   have l2:=B9 (x.2.2.2.2.2[i]).2.1.size
   have l3:=B9 (x.2.2.2.2.2[i]).2.2.toNat
   have l4:=KS M
   have l5:=Pd M.i M.l i
   rw [if_pos (by simpa using hi),if_pos (by omega),if_pos (by omega),if_pos (by omega),if_pos (by omega),if_pos (by omega),if_pos (by omega)]
   simp only [C8,Gg hi]
   rw [El (by omega),O,if_pos (by simp only [AN,List.length_append,CS]; omega),El (by omega),O,
    if_pos (by simp only [ByteArray.size_append,AN,List.length_append,CS]; omega),e3,Co (by omega),O,
    if_pos (by simp only [ByteArray.size_append,AN,List.length_append,CS]; omega),Bp (by omega)]
   rw [Mc hi,Ek] at ih
   simp only [<- Ei,Ap] at ih ⊢
   exact ih)) 0 (by omega)
 have k:=M.k; have f:=M.f; have t:=M.t; have e:=M.e
 have en:x.2.2.2.2.1=((x.2.2.2.2.1.toNat:Nat):Int):=by omega
 have l1:=B9 x.2.2.2.2.1.toNat
 have l2:=B9 x.2.2.2.2.2.length
 rw [Cb (by omega),O,Cb (by omega),O,if_pos (by simp only [AN,List.length_cons,List.length_nil]; omega),Cb (by omega),O,
  if_pos (by simp only [ByteArray.size_append,AN,List.length_cons,List.length_nil]; omega),Cb (by omega),O,if_pos (by simp only [ByteArray.size_append,AN,List.length_cons,List.length_nil]; omega),
  en,Co (by omega),O,if_pos (by simp only [ByteArray.size_append,AN,List.length_cons,List.length_nil]; omega),Co (by omega),O,
  if_pos (by simp only [ByteArray.size_append,AN,List.length_cons,List.length_nil]; omega)]
 refine Iq ?_
 unfold FI
 simp only [<- Ei]
 simpa [JR] using loop)
theorem IH (x) (hx:Kd.ok Ao x):Dd x=some true:=Gw (by
 unfold De
 have hl0:x.2.2.2.2.2.length<=maxLen:=hx.2.2.2.2.2.1
 obtain ⟨r,hr,hl⟩:=K4 x hl0 1048576 (by omega)
 rw [hr,O]
 by_cases h2:r<0
 ·rw [if_pos (by simpa using h2)]
 ·have h3:x.2.2.2.2.2.length<=68719476736:=by omega
  rw [if_neg (by simpa using h2)]
  simp only [Gt x h3,O,JT x hl0,JS x hl0]
  have e:(true != NN .bool (Hl x).2 (Hl x).2)=false:=by simp [NN]
  rw [if_pos (by simp),if_neg (by simp [e])]
  refine Fi ?_
  unfold Cs
  simp [Gt x h3,JL x h3])

theorem Q_ {P:Program} {c:List Char} {rest:List (List Char)} (h:behindMainWord (wordsSigns P.initOrder.toList)=c::rest) (h1:(c == "gc".toList||c == "spec".toList)=false) (h2:(c == "cut".toList||(c == "finals".toList&&rest.head? == some "cut".toList))=true):P.make=some .cut:=by
 unfold Program.make
 rw [h]
 simp only [h1,h2]
 rfl
theorem RA {P:Program} {c:List Char} {rest:List (List Char)} (h:behindMainWord (wordsSigns P.initOrder.toList)=c::rest) (h1:((stripLifts liftWords (c::rest)).2.head? == some "cut".toList)=true) (h2:(stripLifts liftWords (c::rest)).1=[])
  (h3:P.laysLater=false) (h4:P.bearsReflect=false) (h5:P.doorFits []=true):P.mayEnter=true:=by
 unfold Program.mayEnter
 rw [h]
 simp only [h1,h2,h3,h4,h5]
 simp
theorem RB {P:Program} {c:List Char} {rest:List (List Char)} (h:behindMainWord (wordsSigns P.initOrder.toList)=c::rest) (h1:(c == "carried".toList)=false) (h2:(stripLifts liftWords (c::rest)).1=[]):P.liftsFinal=false:=by
 have e:(some c==some "carried".toList)=false:=h1
 unfold Program.liftsFinal Program.headLifts
 rw [h]
 simp only [List.head?_cons,e,h2]
 simp
theorem C0 {a b:Bool} (h:a=true) (g:b=true):(a&&b)=true:=by rw [h,g]; rfl
theorem RC {α:Type} [BEq α] [LawfulBEq α] {a b:α} (h:a=b):(a==b)=true:=by rw [h]; exact beq_self_eq_true b
end Go.Proofs.Ytffahmnodgnohaa.Core

namespace Go.Proofs.Ytffahmnodgnohaa.Core
open Go
set_option maxRecDepth 100000
def TU:List Nat:=[104,97,114,110,101,115,115,32,57,52,51,54,48,100,51,54,48,102,97,48,51,101,55,56,99,49,99,55,102,52,101,50,52,51,100,50,100,97,57,53,55,57,52,98,57,49,49,99,102,51,55,51,101,101,49,49,101,100,97,49,52,100,97,99,49,98,51,56,98,51,55,99,32,99,117,116,32,97,116,32,108,111,111,112,46,101,120,97,109,112,108,101,47,103,48,48,49,56,48,47,108,97,119,115,46,70,110,69,120,97,99,116,77,115,103,84,101,120,116,32,108,111,111,112,46,101,120,97,109,112,108,101,47,103,48,48,49,56,48,47,108,97,119,115,46,70,110,69,120,97,99,116,82,101,97,100,77,115,103,32,108,111,111,112,46,101,120,97,109,112,108,101,47,103,48,48,49,56,48,47,108,97,119,115,46,70,110,77,115,103,115,32,108,111,111,112,46,101,120,97,109,112,108,101,47,103,48,48,49,56,48,47,108,97,119,115,46,70,110,69,120,97,99,116,77,101,109,98,101,114,78,101,119,32,108,111,111,112,46,101,120,97,109,112,108,101,47,103,48,48,49,56,48,47,108,97,119,115,46,70,110,69,120,97,99,116,67,111,117,110,99,105,108,78,101,119,32,108,111,111,112,46,101,120,97,109,112,108,101,47,103,48,48,49,56,48,47,108,97,119,115,46,70,110,69,120,97,99,116,71,114,111,117,112,78,101,119,32,108,111,111,112,46,101,120,97,109,112,108,101,47,103,48,48,49,56,48,47,108,97,119,115,46,70,110,65,108,111,110,101,49,50,32,108,111,111,112,46,101,120,97,109,112,108,101,47,103,48,48,49,56,48,47,108,97,119,115,46,70,110,67,104,111,115,101,110,32,108,111,111,112,46,101,120,97,109,112,108,101,47,103,48,48,49,56,48,47,108,97,119,115,46,70,110,68,101,99,105,100,101,115]
def TX:List Nat:=[99,117,116]
def TY:List (List Nat):=[[97,116],[108,111,111,112,46,101,120,97,109,112,108,101,47,103,48,48,49,56,48,47,108,97,119,115,46,70,110,69,120,97,99,116,77,115,103,84,101,120,116],[108,111,111,112,46,101,120,97,109,112,108,101,47,103,48,48,49,56,48,47,108,97,119,115,46,70,110,69,120,97,99,116,82,101,97,100,77,115,103],[108,111,111,112,46,101,120,97,109,112,108,101,47,103,48,48,49,56,48,47,108,97,119,115,46,70,110,77,115,103,115],[108,111,111,112,46,101,120,97,109,112,108,101,47,103,48,48,49,56,48,47,108,97,119,115,46,70,110,69,120,97,99,116,77,101,109,98,101,114,78,101,119],[108,111,111,112,46,101,120,97,109,112,108,101,47,103,48,48,49,56,48,47,108,97,119,115,46,70,110,69,120,97,99,116,67,111,117,110,99,105,108,78,101,119],[108,111,111,112,46,101,120,97,109,112,108,101,47,103,48,48,49,56,48,47,108,97,119,115,46,70,110,69,120,97,99,116,71,114,111,117,112,78,101,119],[108,111,111,112,46,101,120,97,109,112,108,101,47,103,48,48,49,56,48,47,108,97,119,115,46,70,110,65,108,111,110,101,49,50],[108,111,111,112,46,101,120,97,109,112,108,101,47,103,48,48,49,56,48,47,108,97,119,115,46,70,110,67,104,111,115,101,110],[108,111,111,112,46,101,120,97,109,112,108,101,47,103,48,48,49,56,48,47,108,97,119,115,46,70,110,68,101,99,105,100,101,115]]
theorem io:Try.prog.initOrder.toList=TU.map Char.ofNat:=(congrArg String.toList (show Try.prog.initOrder=String.ofList (TU.map Char.ofNat) from by kernel_rfl)).trans String.toList_ofList
theorem TQ:behindMainWord (wordsSigns Try.prog.initOrder.toList)=TX.map Char.ofNat::TY.map fun w=>w.map Char.ofNat:=by
 rw [io]
 kernel_rfl
theorem TR:Try.prog.make=some .cut:=Q_ TQ (by kernel_rfl) (by kernel_rfl)
theorem enters:Try.prog.mayEnter=true:=RA TQ (by kernel_rfl) (by kernel_rfl) (by kernel_rfl) (by kernel_rfl) (by kernel_rfl)
theorem R2:Try.prog.liftsFinal=false:=RB TQ (by kernel_rfl) (by kernel_rfl)
theorem Om:laidOutB Try.prog=true:=by kernel_rfl
theorem PD:mapsRowed Try.prog=true:=by kernel_rfl
theorem Sh:Try.prog.stopsHeard=true:=by kernel_rfl
end Go.Proofs.Ytffahmnodgnohaa.Core
