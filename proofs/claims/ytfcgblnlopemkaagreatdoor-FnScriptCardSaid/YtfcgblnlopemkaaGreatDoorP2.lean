/- Texts of the proof, packed: part 3. -/
import Derived.Test.YtfcgblnlopemkaaGreatDoorP1
import Derived.Test.YtfcgblnlopemkaaGreatDoorProg
import Derived.Shelf.SlLaysE0
import Derived.Shelf.RegionOpenPlain
import Derived.WalkKit
import Derived.Deep.LoopGhost
import Derived.Lib.Walk
import Derived.Lib.SliceRun
import Derived.Shelf.Lays2
import Derived.Lib.JoinLaws
import Derived.Lib.AppendZeros
import Derived.Lib.Overlaps
import Derived.Laws.Externs
import Derived.Laws.IdiomCopy
import Derived.Laws.CopyRow
import Derived.Maps.AppendAt
import Derived.Shelf.Small.Strs
import Derived.Shelf.Spec.SlicesInsert
import Derived.Shelf.SlicesE.DeleteFunc
import Derived.Shelf.Strings.Split
import Derived.Shelf.Strings.OnBuilder
import Derived.Shelf.Strconv.Itoa3
import Derived.Shelf.Strings.Builder1
set_option linter.unusedVariables false
set_option linter.unusedSimpArgs false
namespace Go.Proofs.YtfcgblnlopemkaaGreatDoor.Core
open Go
def Ev (p:Nat->Prop):Prop:=∃ m,∀ k,m<=k->p k
theorem Ev.mono {p q:Nat->Prop} (h:Ev p) (f:∀ k,p k->q k):Ev q:=h.elim fun m hm=>⟨m,fun k hk=>f k (hm k hk)⟩
theorem Ev.const {p:Prop} (h:p):Ev fun _=>p:=⟨0,fun _ _=>h⟩
theorem Ev.all {p:Nat->Prop} (h:∀ k,p k):Ev p:=⟨0,fun k _=>h k⟩
theorem Ev.and {p q:Nat->Prop} (h:Ev p) (g:Ev q):Ev fun k=>p k/\q k:=by
 obtain ⟨m,hm⟩:=h
 obtain ⟨n,hn⟩:=g
 exact ⟨max m n,fun k hk=>⟨hm k (by omega),hn k (by omega)⟩⟩
noncomputable def Lm {ρ:Type} (u:Nat->Option ρ):Option ρ :=
 @dite _ (∃ r,Ev fun k=>u k=some r) (Classical.propDecidable _) (fun h=>some (Classical.choose h)) (fun _=>none)
theorem AA6 {ρ:Type} {u:Nat->Option ρ} {r:ρ} (h:Lm u=some r):Ev fun k=>u k=some r:=by
 unfold Lm at h
 split at h
 ·rename_i hx
  cases h
  exact Classical.choose_spec hx
 ·cases h
theorem AEU {ρ:Type} {u:Nat->Option ρ} {r:ρ} (h:Ev fun k=>u k=some r):Lm u=some r:=by
 have hx:∃ r,Ev fun k=>u k=some r:=⟨r,h⟩
 unfold Lm
 rw [dif_pos hx]
 obtain ⟨m,hm⟩:=(Classical.choose_spec hx).and h
 obtain ⟨a,b⟩:=hm m (Nat.le_refl _)
 rw [<- b,a]
def Conv {ρ:Type} (kn:Nat->St->Option ρ) (kl:St->Option ρ):Prop:=∀ s r,kl s=some r->Ev fun j=>kn j s=some r
theorem Conv.refl {ρ:Type} (kl:St->Option ρ):Conv (fun _=>kl) kl:=fun _ _ h=>.const h
def aX (cal:Nat->Gi) (c:Gi):Prop:=∀ f a b r,c f a b=some r->Ev fun j=>cal j f a b=some r
theorem aX.refl (c:Gi):aX (fun _=>c) c:=fun _ _ _ _ h=>.const h
abbrev Lp (ρ:Type):Type:=((St->Option ρ)->St->Option ρ)->St->Option ρ
def AEV {ρ:Type} (F:Nat->(St->Option ρ)->St->Option ρ) (FL:(St->Option ρ)->St->Option ρ):Prop :=
 ∀ (go:Nat->St->Option ρ) (gl:St->Option ρ),Conv go gl->Conv (fun j=>F j (go j)) (FL gl)
def AEW {ρ:Type} (lp:Nat->Lp ρ) (ll:Lp ρ):Prop:=∀ (F:Nat->(St->Option ρ)->St->Option ρ) (FL:(St->Option ρ)->St->Option ρ),AEV F FL->(∀ j,AEV (fun _=>F j) (F j))->Conv (fun j=>lp j (F j)) (ll FL)
noncomputable def M2 {ρ:Type}:Lp ρ:=fun F s=>Lm fun n=>Qc n F s
theorem AEX {ρ:Type}:AEW (ρ:=ρ) Qc M2:=by
 intro F FL hF _ s r h
 have h:=AA6 h
 obtain ⟨m,hm⟩:=h
 have key:∀ n,∀ g:Nat->Nat,(∀ j,n<=g j)->Conv (fun j=>Qc (g j) (F j)) (Qc n FL):=by
  intro n
  induction n with
  | zero=>intro g _ s r h; cases h
  | succ n ih =>
   intro g hg s r h
   refine (hF (fun j=>Qc (g j-1) (F j)) (Qc n FL) (ih (fun j=>g j-1) fun j=>by have:=hg j; omega) s r h).mono fun j hj=>?_
   have e:g j=(g j-1)+1:=by have:=hg j; omega
   show Qc (g j) (F j) s=some r
   rw [e]
   exact hj
 obtain ⟨k,hk⟩:=key m (fun j=>max j m) (fun j=>by omega) s r (hm m (Nat.le_refl _))
 refine ⟨max k m,fun j hj=>?_⟩
 have:=hk j (by omega)
 simp only [show max j m=j by omega] at this
 exact this
theorem AA7 {ρ:Type} (k:Nat):AEW (ρ:=ρ) (fun _=>Qc k) (Qc k):=by
 intro F FL hF _
 induction k with
 | zero=>intro s r h; cases h
 | succ k ih=>exact hF _ _ ih
theorem um {ρ:Type} {F:(St->Option ρ)->St->Option ρ} (hF:AEV (fun _=>F) F) {s:St} {r:ρ} (h:F (M2 F) s=some r):M2 F s=some r:=by
 obtain ⟨m,hm⟩:=hF (fun j=>Qc j F) (M2 F) (fun s r h=>AA6 h) s r h
 exact AEU ⟨m+1,fun k hk=>by
  cases k with
  | zero=>omega
  | succ k=>exact hm k (by omega)⟩
theorem AA8 {ρ:Type}:AEW (ρ:=ρ) (fun _=>M2) M2:=by
 intro F FL hF hs s r h
 obtain ⟨m,hm⟩:=AA6 h
 have key:∀ n,Conv (fun j=>M2 (F j)) (Qc n FL):=by
  intro n
  induction n with
  | zero=>intro s r h; cases h
  | succ n ih=>intro s r h; exact (hF _ _ ih s r h).mono fun j hj=>um (hs j) hj
 exact key m s r (hm m (Nat.le_refl _))
theorem DJ {α β:Type} {x:Option α} {f:Nat->α->Option β} {g:α->Option β} (h:∀ a r,g a=some r->Ev fun j=>f j a=some r) (r:β) (hx:x.bind g=some r):Ev fun j=>x.bind (f j)=some r:=by
 cases x with
 | none=>cases hx
 | some a=>exact h a r hx
theorem uo {ρ:Type} {s:St} {v:AV} {K:Kd} {kn:Nat->List K.T->Option ρ} {kl:List K.T->Option ρ} (hk:∀ a r,kl a=some r->Ev fun j=>kn j a=some r) (r:ρ) (h:s.list v K kl=some r):Ev fun j=>s.list v K (kn j)=some r:=by
 unfold St.list at h ⊢
 split at h
 ·exact hk _ _ h
 ·split at h
  ·rename_i e
   simp only [dif_pos e]
   exact hk _ _ h
  ·cases h
 ·split at h
  ·rename_i e0
   split at h
   ·rename_i e
    simp only [e0,dif_pos e]
    exact hk _ _ h
   ·cases h
  ·rename_i e0
   split at h
   ·rename_i e
    simp only [e0,dif_pos e]
    exact hk _ _ h
   ·cases h
  ·rename_i e0
   split at h
   ·rename_i e
    simp only [e0,dif_pos e]
    exact hk _ _ h
   ·cases h
  ·rename_i e0
   split at h
   ·rename_i e
    simp only [e0,dif_pos e]
    exact hk _ _ h
   ·cases h
  ·cases h
 ·cases h
theorem ADR {ρ:Type} {op:BinOp} {x y:AV} {kn:Nat->AV->Option ρ} {kl:AV->Option ρ} (hk:∀ a r,kl a=some r->Ev fun j=>kn j a=some r) (r:ρ) (h:rU op x y kl=some r):Ev fun j=>rU op x y (kn j)=some r:=by
 have e:∀ k:AV->Option ρ,rU op x y k=(rU op x y some).bind k:=by
  intro k
  unfold rU
  repeat' split
  all_goals rfl
 rw [e] at h
 simp only [e (kn _)]
 exact DJ hk r h
theorem AEY {ρ:Type} {op:UnOp} {x:AV} {kn:Nat->AV->Option ρ} {kl:AV->Option ρ} (hk:∀ a r,kl a=some r->Ev fun j=>kn j a=some r) (r:ρ) (h:AC4 op x kl=some r):Ev fun j=>AC4 op x (kn j)=some r:=by
 unfold AC4 at h ⊢
 split at h<;>first | exact hk _ _ h | cases h
theorem AA9 {α β:Type} {x:Nat->Option α} {xl:Option α} {f:Nat->α->Option β} {g:α->Option β} (hx:∀ a,xl=some a->Ev fun j=>x j=some a) (h:∀ a r,g a=some r->Ev fun j=>f j a=some r) (r:β) (hr:xl.bind g=some r):Ev fun j=>(x j).bind (f j)=some r:=by
 cases xl with
 | none=>cases hr
 | some a=>exact ((hx a rfl).and (h a r hr)).mono fun j hj=>by rw [hj.1]; exact hj.2
theorem AGy {ρ:Type} {cal:Nat->Gi} {c:Gi} {d z:Nat} {x:Cr} {lo hi:Option Cr} {kn:Nat->St->Option ρ} {kl:St->Option ρ} (hk:Conv kn kl) (s:St) (r:ρ) (h:Ef c kl s (.sl d z x lo hi)=some r):Ev fun j=>Ef (cal j) (kn j) s (.sl d z x lo hi)=some r:=by
 simp only [Ef] at h ⊢
 split at h
 ·split at h
  ·rename_i ez
   split at h
   ·split at h
    ·rename_i g1
     split at h
     ·rename_i g2
      split at h
      ·rename_i g3
       simp only [if_pos ez,if_pos g1,if_pos g2,if_pos g3]
       exact hk _ _ h
      ·cases h
     ·cases h
    ·cases h
   ·cases h
  ·cases h
 ·split at h
  ·rename_i ez
   split at h
   ·split at h
    ·rename_i g1
     split at h
     ·rename_i g2
      split at h
      ·rename_i g3
       simp only [if_pos ez,if_pos g1,if_pos g2,if_pos g3]
       exact hk _ _ h
      ·cases h
     ·cases h
    ·cases h
   ·cases h
  ·cases h
 ·cases h
mutual
theorem uq {ρ:Type} {cal:Nat->Gi} {c:Gi} (hc:aX cal c):∀ (ao:Fw) {kn:Nat->St->Option ρ} {kl:St->Option ρ},Conv kn kl->∀ s r,Ef c kl s ao=some r->Ev fun j=>Ef (cal j) (kn j) s ao=some r
 | .mv d x,kn,kl,hk,s,r,h=>hk _ _ h
 | .nilrow d t K,kn,kl,hk,s,r,h=>hk _ _ h
 | .pick d c a b,kn,kl,hk,s,r,h=>by
  simp only [Ef] at h ⊢
  split at h
  ·split at h<;>rename_i e<;>simp only [e,if_true,if_false,Bool.false_eq_true]<;>exact hk _ _ h
  ·cases h
 | .sc c want ops d a b,kn,kl,hk,s,r,h=>by
  simp only [Ef] at h ⊢
  split at h
  ·split at h
   ·rename_i e
    simp only [e,if_true]
    exact zk hc ops (kn:=fun j s'=>kn j (s'.put d (if want then s'.opd a else s'.opd b))) (kl:=fun s'=>kl (s'.put d (if want then s'.opd a else s'.opd b))) (fun s r h=>hk _ _ h) s r h
   ·rename_i e
    simp only [if_neg e]
    exact hk _ _ h
  ·cases h
 | .alloc d cs,kn,kl,hk,s,r,h=>hk _ _ h
 | .box d x own,kn,kl,hk,s,r,h=>by
  simp only [Ef] at h ⊢
  exact DJ (fun a r h=>hk _ _ h) r h
 | .build d zero parts,kn,kl,hk,s,r,h=>by
  simp only [Ef] at h ⊢
  exact DJ (fun a r h=>hk _ _ h) r h
 | .bnew d zero parts,kn,kl,hk,s,r,h=>by
  simp only [Ef] at h ⊢
  exact DJ (fun a r h=>hk _ _ h) r h
 | .brow d t K parts,kn,kl,hk,s,r,h=>by
  simp only [Ef] at h ⊢
  exact DJ (fun a r h=>DJ (fun a r h=>hk _ _ h) r h) r h
 | .blst d K parts,kn,kl,hk,s,r,h=>by
  simp only [Ef] at h ⊢
  exact DJ (fun a r h=>DJ (fun a r h=>hk _ _ h) r h) r h
 | .load d x n,kn,kl,hk,s,r,h=>by
  simp only [Ef] at h ⊢
  refine DJ (fun a r h=>?_) r h
  split at h
  ·rename_i e
   simp only [if_pos e]
   exact hk _ _ h
  ·cases h
 | .store x y m own,kn,kl,hk,s,r,h=>by
  simp only [Ef] at h ⊢
  split at h
  ·rename_i e
   simp only [if_pos e]
   exact DJ (fun a r h=>hk _ _ h) r h
  ·cases h
 | .nilc d x,kn,kl,hk,s,r,h=>by
  simp only [Ef] at h ⊢
  split at h<;>first | exact hk _ _ h | cases h
 | .bin d op x y,kn,kl,hk,s,r,h=>by
  simp only [Ef] at h ⊢
  exact ADR (fun a r h=>hk _ _ h) r h
 | .eqs d neg K x y,kn,kl,hk,s,r,h=>by
  simp only [Ef] at h ⊢
  exact DJ (fun a r h=>DJ (fun a r h=>hk _ _ h) r h) r h
 | .un d op x,kn,kl,hk,s,r,h=>by
  simp only [Ef] at h ⊢
  exact AEY (fun a r h=>hk _ _ h) r h
 | .cvi d k x,kn,kl,hk,s,r,h=>by
  simp only [Ef] at h ⊢
  split at h<;>first | exact hk _ _ h | cases h
 | .bts d x,kn,kl,hk,s,r,h=>by
  simp only [Ef] at h ⊢
  exact uo (fun a r h=>hk _ _ h) r h
 | .fld d x off,kn,kl,hk,s,r,h=>by
  simp only [Ef] at h ⊢
  split at h<;>first | exact hk _ _ h | cases h
 | .field d x off n,kn,kl,hk,s,r,h=>by
  simp only [Ef] at h ⊢
  split at h
  ·split at h
   ·rename_i e
    simp only [if_pos e]
    exact hk _ _ h
   ·cases h
  ·cases h
 | .idx d z x i,kn,kl,hk,s,r,h=>by
  have e:∀ k:St->Option ρ,Ef (cal 0) k s (.idx d z x i)=(Ef (cal 0) some s (.idx d z x i)).bind k:=by
   intro k
   simp only [Ef]
   repeat' split
   all_goals rfl
  have e2:∀ k:St->Option ρ,∀ c:Gi,Ef c k s (.idx d z x i)=Ef (cal 0) k s (.idx d z x i):=fun k c=>by simp only [Ef]
  rw [e2,e] at h
  simp only [e2 (kn _),e (kn _)]
  exact DJ (fun a r h=>hk _ _ h) r h
 | .aidx d n x i,kn,kl,hk,s,r,h=>by
  simp only [Ef] at h ⊢
  split at h
  ·refine DJ (fun xs r h=>?_) r h
   split at h
   ·rename_i e1
    split at h
    ·rename_i e2
     split at h
     ·rename_i e3
      simp only [if_pos e1,if_pos e2,if_pos e3]
      exact hk _ _ h
     ·cases h
    ·cases h
   ·cases h
  ·cases h
 | .sidx d x i,kn,kl,hk,s,r,h=>by
  have e:∀ k:St->Option ρ,Ef (cal 0) k s (.sidx d x i)=(Ef (cal 0) some s (.sidx d x i)).bind k:=by
   intro k
   simp only [Ef]
   repeat' split
   all_goals rfl
  have e2:∀ k:St->Option ρ,∀ c:Gi,Ef c k s (.sidx d x i)=Ef (cal 0) k s (.sidx d x i):=fun k c=>by simp only [Ef]
  rw [e2,e] at h
  simp only [e2 (kn _),e (kn _)]
  exact DJ (fun a r h=>hk _ _ h) r h
 | .sl d z x lo hi,kn,kl,hk,s,r,h=>AGy hk s r h
 | .mk d t K n,kn,kl,hk,s,r,h=>by
  have e:∀ k:St->Option ρ,Ef (cal 0) k s (.mk d t K n)=(Ef (cal 0) some s (.mk d t K n)).bind k:=by
   intro k
   simp only [Ef]
   repeat' split
   all_goals rfl
  have e2:∀ k:St->Option ρ,∀ c:Gi,Ef c k s (.mk d t K n)=Ef (cal 0) k s (.mk d t K n):=fun k c=>by simp only [Ef]
  rw [e2,e] at h
  simp only [e2 (kn _),e (kn _)]
  exact DJ (fun a r h=>hk _ _ h) r h
 | .fn d f caps,kn,kl,hk,s,r,h=>hk _ _ h
 | .clo d f K x,kn,kl,hk,s,r,h=>by
  simp only [Ef] at h ⊢
  split at h
  ·exact DJ (fun a r h=>hk _ _ h) r h
  ·cases h
 | .fbox d x,kn,kl,hk,s,r,h=>by
  simp only [Ef] at h ⊢
  exact DJ (fun a r h=>hk _ _ h) r h
 | .min d x y,kn,kl,hk,s,r,h=>by
  simp only [Ef] at h ⊢
  split at h
  ·split at h
   ·rename_i e
    simp only [if_pos e]
    exact hk _ _ h
   ·cases h
  ·cases h
 | .app d e K a b,kn,kl,hk,s,r,h=>by
  simp only [Ef] at h ⊢
  split at h
  ·split at h
   ·rename_i e1
    split at h
    ·rename_i e2
     split at h
     ·rename_i e3
      simp only [e1,dif_pos e2,if_pos e3]
      refine uo (fun a r h=>?_) r h
      split at h
      ·rename_i e4
       simp only [if_pos e4]
       exact hk _ _ h
      ·cases h
     ·cases h
    ·cases h
   ·cases h
  ·cases h
 | .apz d e K a b,kn,kl,hk,s,r,h=>by
  simp only [Ef] at h ⊢
  split at h
  ·split at h
   ·rename_i e1
    split at h
    ·rename_i e2
     split at h
     ·rename_i e3
      simp only [e1,dif_pos e2,if_pos e3]
      refine uo (fun a r h=>?_) r h
      split at h
      ·rename_i e4
       simp only [if_pos e4]
       exact hk _ _ h
      ·cases h
     ·cases h
    ·cases h
   ·cases h
  ·cases h
 | .len d t x,kn,kl,hk,s,r,h=>by
  have e:∀ k:St->Option ρ,Ef (cal 0) k s (.len d t x)=(Ef (cal 0) some s (.len d t x)).bind k:=by
   intro k
   simp only [Ef]
   repeat' split
   all_goals rfl
  have e2:∀ k:St->Option ρ,∀ c:Gi,Ef c k s (.len d t x)=Ef (cal 0) k s (.len d t x):=fun k c=>by simp only [Ef]
  rw [e2,e] at h
  simp only [e2 (kn _),e (kn _)]
  exact DJ (fun a r h=>hk _ _ h) r h
 | .call d f args res,kn,kl,hk,s,r,h=>by
  simp only [Ef] at h ⊢
  refine DJ (fun q r h=>DJ (fun bx r h=>?_) r h) r h
  split at h
  ·rename_i e
   simp only [if_pos e]
   refine AA9 (fun a ha=>?_) (fun y r h=>?_) r h
   ·exact AA9 (f:=fun _=>Cp _) (g:=Cp _) (fun a ha=>hc _ _ _ _ ha) (fun y r h=>.const h) a ha
   ·split at h
    ·rename_i e
     simp only [if_pos e]
     exact hk _ _ h
    ·cases h
  ·cases h
 | .bld d k f t x y,kn,kl,hk,s,r,h=>by
  simp only [Ef] at h ⊢
  split at h
  ·rename_i id e1
   split at h
   ·rename_i T j e2
    split at h
    ·rename_i t' xs e3
     split at h
     ·rename_i e4
      cases e5:c (Br+f) [.int .i64 k,.int .i64 t,.int .i64 T] [] with
      | none=>rw [e5] at h; cases h
      | some q =>
       have hq:=hc _ _ _ _ e5
       rw [e5,AA] at h
       cases e8:Cp [] q with
       | none=>rw [e8] at h; cases h
       | some u =>
        rw [e8,AA] at h
        split at h
        ·rename_i e6
         split at h
         ·rename_i e7
          refine (hq.and (hk _ _ h)).mono fun j hj=>?_
          simp only [e2,e3,if_pos e4,hj.1,AA,e8,if_pos e6,if_pos e7]
          exact hj.2
         ·cases h
        ·rename_i e6
         cases ha:AFH k (s.opd y) with
         | none=>rw [ha] at h; cases h
         | some ys =>
          rw [ha,AA] at h
          split at h
          ·rename_i e7
           refine (hq.and (hk _ _ h)).mono fun j hj=>?_
           simp only [e2,e3,if_pos e4,hj.1,AA,e8,if_neg e6,ha,if_pos e7]
           exact hj.2
          ·cases h
     ·cases h
    ·cases h
   ·cases h
  ·cases h
 | .stb d t x,kn,kl,hk,s,r,h=>by
  simp only [Ef] at h ⊢
  split at h
  ·exact hk _ _ h
  ·cases h
 | .ext d x i,kn,kl,hk,s,r,h=>by
  simp only [Ef] at h ⊢
  split at h
  ·split at h
   ·rename_i e
    simp only [if_pos e]
    exact hk _ _ h
   ·cases h
  ·cases h
theorem zk {ρ:Type} {cal:Nat->Gi} {c:Gi} (hc:aX cal c):∀ (aos:List Fw) {kn:Nat->St->Option ρ} {kl:St->Option ρ},Conv kn kl->∀ s r,ot c kl s aos=some r->Ev fun j=>ot (cal j) (kn j) s aos=some r
 | [],kn,kl,hk,s,r,h=>by simp only [ot] at h ⊢; exact hk _ _ h
 | o::os,kn,kl,hk,s,r,h=>by
  simp only [ot] at h ⊢
  exact uq hc o (fun s r h=>zk hc os hk s r h) s r h
end
theorem eD {ρ:Type} {cal:Nat->Gi} {c:Gi} (hc:aX cal c) (anc:List (List Nat)) {kn:Nat->St->Option ρ} {kl:St->Option ρ} (hk:Conv kn kl):∀ (t:DT) (T:List (Nat×Nat)) s r,dK c anc kl t T s=some r->Ev fun j=>dK (cal j) anc (kn j) t T s=some r
 | .done,T,s,r,h=>hk _ _ h
 | .take i g ao d,T,s,r,h=>by
  simp only [dK] at h ⊢
  split at h
  ·rename_i e
   simp only [if_pos e]
   exact uq hc ao (fun s r h=>eD hc anc hk d _ s r h) s r h
  ·cases h
 | .skip i g d t,T,s,r,h=>by
  simp only [dK] at h ⊢
  split at h
  ·rename_i e
   simp only [if_pos e]
   exact eD hc anc hk t _ _ r h
  ·cases h
 | .only i g ao e fl d,T,s,r,h=>by
  simp only [dK] at h ⊢
  split at h
  ·rename_i e
   simp only [if_pos e]
   exact uq hc ao (fun s r h=>eD hc anc hk d _ s r h) s r h
  ·cases h
 | .test c a b,T,s,r,h=>by
  simp only [dK] at h ⊢
  split at h
  ·split at h
   ·rename_i e
    simp only [if_pos e]
    exact eD hc anc hk a _ _ r h
   ·rename_i e
    simp only [if_neg e]
    exact eD hc anc hk b _ _ r h
  ·cases h
 | .fork i ai ri j aj rj,T,s,r,h=>by
  simp only [dK] at h ⊢
  obtain ⟨ha,hb⟩:=ou.1 h
  have ea:Ev fun n=>(if (I5 ai.dsts T&&aK (anc.getD i []) (ai.touch s) s T)=true then Ef (cal n) (fun s'=>dK (cal n) anc (kn n) ri (IM (anc.getD i []) T) s') s ai else none)=some r:=by
   split at ha
   ·rename_i e
    simp only [if_pos e]
    exact uq hc ai (fun s r h=>eD hc anc hk ri _ s r h) s r ha
   ·cases ha
  have eb:Ev fun n=>(if (I5 aj.dsts T&&aK (anc.getD j []) (aj.touch s) s T)=true then Ef (cal n) (fun s'=>dK (cal n) anc (kn n) rj (IM (anc.getD j []) T) s') s aj else none)=some r:=by
   split at hb
   ·rename_i e
    simp only [if_pos e]
    exact uq hc aj (fun s r h=>eD hc anc hk rj _ s r h) s r hb
   ·cases hb
  exact (ea.and eb).mono fun n h=>ou.2 h
noncomputable def Hl {ρ:Type} (cal:Gi) (lp:Lp ρ):AG->(kn kr:St->Option ρ)->(ke:Nat->St->Option ρ)->St->Option ρ
 | .skip,kn,_,_,s=>kn s
 | .region ops live,kn,_,_,s=>ot cal (fun s'=>kn ⟨live.map fun t=>(t,GS s'.fr t),s'.st⟩) s ops
 | .draw anc t live,kn,_,_,s=>dK cal anc (fun s'=>kn ⟨live.map fun t=>(t,GS s'.fr t),s'.st⟩) t [] s
 | .seqc live a b,kn,kr,ke,s=>Hl cal lp a (fun s'=>Hl cal lp b kn kr ke (s'.cutH (EF s live) live s.st.length)) kr ke s
 | .seq a b,kn,kr,ke,s=>Hl cal lp a (fun s'=>Hl cal lp b kn kr ke s') kr ke s
 | .cond c a b,kn,kr,ke,s=>match s.opd c with
  | .bool t=>if t=true then Hl cal lp a kn kr ke s else Hl cal lp b kn kr ke s
  | _=>none
 | .block id live body,kn,kr,ke,s=>Hl cal lp body (fun s'=>kn (s'.cutH (EF s live) live s.st.length)) kr (fun i s'=>if i=id then kn (s'.cutH (EF s live) live s.st.length) else ke i s') s
 | .loop live body,_,kr,ke,s=>lp (fun go s'=>Hl cal lp body (fun s''=>go (s''.cutH (EF s live) live s.st.length)) kr ke s') (s.cut live s.st.length)
 | .exit id,_,_,ke,s=>ke id s
 | .ret,_,kr,_,s=>kr s
theorem TA {ρ:Type} (cal:Gi) (k:Nat):∀ (a:AG) (kn kr:St->Option ρ) (ke:Nat->St->Option ρ) (s:St),IH cal k a kn kr ke s=Hl cal (Qc k) a kn kr ke s
 | .skip,_,_,_,_=>rfl
 | .region ..,_,_,_,_=>rfl
 | .draw ..,_,_,_,_=>rfl
 | .seqc live a b,kn,kr,ke,s=>by simp only [IH,Hl,TA cal k a,TA cal k b]
 | .seq a b,kn,kr,ke,s=>by simp only [IH,Hl,TA cal k a,TA cal k b]
 | .cond c a b,kn,kr,ke,s=>by
  simp only [IH,Hl,TA cal k a,TA cal k b]
  cases s.opd c<;>rfl
 | .block id live a,kn,kr,ke,s=>by simp only [IH,Hl,TA cal k a]
 | .loop live a,kn,kr,ke,s=>by simp only [IH,Hl,TA cal k a]
 | .exit _,_,_,_,_=>rfl
 | .ret,_,_,_,_=>rfl
theorem J7 {ρ:Type}:∀ (a:AG) {cal:Nat->Gi} {c:Gi} {lp:Nat->Lp ρ} {ll:Lp ρ} {kn kr:Nat->St->Option ρ} {kl krl:St->Option ρ} {ke:Nat->Nat->St->Option ρ} {kel:Nat->St->Option ρ},aX cal c->AEW lp ll->(∀ j,AEW (fun _=>lp j) (lp j)) ->
  Conv kn kl->Conv kr krl->(∀ i,Conv (fun j=>ke j i) (kel i))->Conv (fun j=>Hl (cal j) (lp j) a (kn j) (kr j) (ke j)) (Hl c ll a kl krl kel)
 | .skip,_,_,_,_,_,_,_,_,_,_,hc,hl,hl',hk,hr,he=>hk
 | .region ops live,_,_,_,_,_,_,_,_,_,_,hc,hl,hl',hk,hr,he=>fun s r h=>zk hc ops (fun s r h=>hk _ r h) s r h
 | .draw anc t live,_,_,_,_,_,_,_,_,_,_,hc,hl,hl',hk,hr,he=>fun s r h=>eD hc anc (fun s r h=>hk _ r h) t [] s r h
 | .seqc live a b,_,_,_,_,_,_,_,_,_,_,hc,hl,hl',hk,hr,he=>fun s r h=>J7 a hc hl hl' (fun s' r h=>J7 b hc hl hl' hk hr he _ r h) hr he s r h
 | .seq a b,_,_,_,_,_,_,_,_,_,_,hc,hl,hl',hk,hr,he=>fun s r h=>J7 a hc hl hl' (fun s' r h=>J7 b hc hl hl' hk hr he _ r h) hr he s r h
 | .cond c a b,_,_,_,_,_,_,_,_,_,_,hc,hl,hl',hk,hr,he=>fun s r h=>by
  simp only [Hl] at h ⊢
  split at h
  ·split at h
   ·rename_i e
    simp only [if_pos e]
    exact J7 a hc hl hl' hk hr he s r h
   ·rename_i e
    simp only [if_neg e]
    exact J7 b hc hl hl' hk hr he s r h
  ·cases h
 | .block id live a,_,_,_,_,_,_,_,_,_,_,hc,hl,hl',hk,hr,he=>fun s r h=>by
  simp only [Hl] at h ⊢
  refine J7 a hc hl hl' (fun s r h=>hk _ r h) hr (fun i s' r h=>?_) s r h
  split at h
  ·rename_i e
   simp only [if_pos e]
   exact hk _ r h
  ·rename_i e
   simp only [if_neg e]
   exact he i _ r h
 | .loop live a,cal,c,lp,ll,kn,kr,kl,krl,ke,kel,hc,hl,hl',hk,hr,he=>fun s r h=>by
  simp only [Hl] at h ⊢
  refine hl _ _ (fun go gl hgo s' r h=>?_) (fun j go gl hgo s' r h=>?_) _ r h
  ·exact J7 a hc hl hl' (fun s r h=>hgo _ r h) hr he s' r h
  ·exact J7 (cal:=fun _=>cal j) (lp:=fun _=>lp j) (kn:=fun i s'=>go i (s'.cutH (EF s live) live s.st.length)) (kl:=fun s'=>gl (s'.cutH (EF s live) live s.st.length)) (kr:=fun _=>kr j) (krl:=kr j) (ke:=fun _=>ke j) (kel:=ke j) a (aX.refl _) (hl' j) (fun _=>hl' j) (fun s r h=>hgo _ r h) (Conv.refl _) (fun i=>Conv.refl _) s' r h
 | .exit id,_,_,_,_,_,_,_,_,_,_,hc,hl,hl',hk,hr,he=>fun s r h=>he id s r h
 | .ret,_,_,_,_,_,_,_,_,_,_,hc,hl,hl',hk,hr,he=>hr
theorem ADS {ρ:Type} {cal:Gi} {a:AG} {hs:List (Nat×Nat)} {live:List Nat} {n:Nat} {kr:St->Option ρ} {ke:Nat->St->Option ρ} {s:St} {r:ρ}
  (h:Hl cal M2 a (fun s''=>M2 (fun go s'=>Hl cal M2 a (fun s''=>go (s''.cutH hs live n)) kr ke s') (s''.cutH hs live n)) kr ke s=some r) :
  M2 (fun go s'=>Hl cal M2 a (fun s''=>go (s''.cutH hs live n)) kr ke s') s=some r :=
 um (F:=fun go s'=>Hl cal M2 a (fun s''=>go (s''.cutH hs live n)) kr ke s') (fun go gl hgo s' r h=>J7 (cal:=fun _=>cal) (lp:=fun _=>M2) (kn:=fun i s'=>go i (s'.cutH hs live n)) (kl:=fun s'=>gl (s'.cutH hs live n)) (kr:=fun _=>kr) (krl:=kr) (ke:=fun _=>ke) (kel:=ke) a (aX.refl _) AA8 (fun _=>AA8) (fun s r h=>hgo _ r h) (Conv.refl _) (fun i=>Conv.refl _) s' r h) h
noncomputable def AEZ (cal:Gi) (fn:BL) (args bs:List AV):Option (RT fn.outs) :=
 Hl cal M2 fn.body (AH fn) (AH fn) (fun _ _=>none) ⟨S8 0 (Di (Fx bs) args),Bo bs args⟩
noncomputable def zl (fns:Nat->Option BL) (prims:Gi):Gi:=fun f a b=>Lm fun k=>lu fns prims k f a b
theorem GZ {fns:Nat->Option BL} {prims:Gi} {f:Nat} {args bs r:List AV} (hf:fns f=none) (h:prims f args bs=some r):zl fns prims f args bs=some r:=by
 refine AEU ⟨1,fun k hk=>?_⟩
 cases k with
 | zero=>omega
 | succ k=>simp only [lu,hf,h]
theorem ADT {fns:Nat->Option BL} {prims:Gi} {f:Nat} {fn:BL} {args bs:List AV} {r:RT fn.outs} (hf:fns f=some fn) (hl:args.length=fn.params.length/\bs.length=(Eg fn.params 0).length)
  (h:AEZ (zl fns prims) fn args bs=some r):zl fns prims f args bs=some (EC fn.outs r):=by
 have hc:aX (fun k=>lu fns prims k) (zl fns prims):=fun f a b r h=>AA6 h
 obtain ⟨m,hm⟩:=J7 (lp:=Qc) (ll:=M2) fn.body (kn:=fun _=>AH fn) (kr:=fun _=>AH fn) (ke:=fun _ _ _=>none) hc AEX AA7 (Conv.refl _) (Conv.refl _) (fun i=>Conv.refl _) _ r h
 refine AEU ⟨m+1,fun k hk=>?_⟩
 cases k with
 | zero=>omega
 | succ k =>
  simp only [lu,hf,if_pos hl]
  have:=hm k (by omega)
  simp only [<- TA] at this
  unfold ACN
  rw [this]
  rfl
theorem VY:∀ (K:Kd) (x:K.T) (r:List AV),K.dec (K.enc x++r)=some (x,r)
 | .int k,x,r=>by simp [Kd.enc,Kd.dec]
 | .bool,x,r=>rfl
 | .str,x,r=>rfl
 | .slice e,x,r=>by simp [Kd.enc,Kd.dec]
 | .pair a b,x,r=>by simp [Kd.enc,Kd.dec,Bf,VY a,VY b]
 | .own t e,x,r=>by simp [Kd.enc,Kd.dec]
 | .ref K,x,r=>by
  have:=VY K x []
  rw [List.append_nil] at this
  simp [Kd.enc,Kd.dec,this]
 | .fun f,x,r=>by simp [Kd.enc,Kd.dec]
 | .clo f K,x,r=>by simp [Kd.enc,Kd.dec]
theorem ur (K:Kd) (x:K.T):K.of (K.av x)=some x:=by
 have h:K.ofCells (K.enc x)=some x:=by
  have:=VY K x []
  rw [List.append_nil] at this
  simp [Kd.ofCells,this]
 unfold Kd.of
 cases K<;>exact h
theorem ut:∀ (Ks:List Kd) (x:RT Ks),Cp Ks (EC Ks x)=some x
 | [],_=>rfl
 | [K],x=>ur K x
 | K::L::Ks,x=>by
  simp only [EC,Cp,ur,AA]
  rw [ut (L::Ks) x.2]
  rfl
theorem ABz {fns:Nat->Option BL} {prims:Gi} {f:Nat} {fn:BL} {args bs:List AV} {r:RT fn.outs} (hf:fns f=some fn) (hl:args.length=fn.params.length/\bs.length=(Eg fn.params 0).length)
  (h:AEZ (zl fns prims) fn args bs=some r):(zl fns prims f args bs).bind (Cp fn.outs)=some r:=by
 rw [ADT hf hl h,AA,ut]
theorem AEa {P:Program} {fns:Nat->Option BL} {prims:Gi} (ht:AER P fns) (hp:J6 P prims) {f:Nat} {args:List AV} (h:(zl fns prims f args []).bind (Cp [.bool])=some true) {W:World} {cargs:List Value}
  (ha:Az (VE (VX W)) args cargs) (hlt:f<Br:=by decide) (htab:zS (VX W):=by exact fun p h=>by cases h):Calls P f cargs.toArray W fun e W'=>e=.returned (.bool true)/\RowKit.Below W.heap.size W W':=by
 cases hq:zl fns prims f args [] with
 | none=>rw [hq] at h; cases h
 | some v =>
  rw [hq,AA] at h
  obtain ⟨m,hm⟩:=AA6 hq
  have hm:=hm m (Nat.le_refl _)
  have e:v=[.bool true]:=by
   match v,h with
   | [a],h =>
    have h:Kd.of .bool a=some true:=h
    unfold Kd.of Kd.ofCells at h
    cases a<;>simp [AV.cells,Kd.dec,AV.fits] at h<;>first | rw [h] | skip
  subst e
  exact ADQ ht hp hm ha hlt htab
def AFw (f:Nat):List (Nat×BL)->Option BL
 | []=>none
 | (g,a)::r=>if g=f then some a else AFw f r
inductive ACe (P:Program):List (Nat×BL)->Prop where
 | nil:ACe P []
 | cons {f:Nat} {a:BL} {r:List (Nat×BL)} (h:Aw P f a=true) (t:ACe P r):ACe P ((f,a)::r)
theorem ADU {P:Program} {tab:List (Nat×BL)} (h:ACe P tab):AER P fun f=>AFw f tab:=by
 intro f a hf
 induction h with
 | nil=>cases hf
 | cons h _ ih =>
  simp only [AFw] at hf
  split at hf
  ·rename_i e
   cases hf
   rw [<- e]
   exact h
  ·exact ih hf
end Go.Proofs.YtfcgblnlopemkaaGreatDoor.Core

namespace Go.Proofs.YtfcgblnlopemkaaGreatDoor.Core
open Go IntKind
set_option maxRecDepth 100000
noncomputable section
abbrev Kd.W:Kd:=.int .i64
abbrev Kd.S:Kd:=.slice .W
abbrev uu:Array UInt8:=#[0,1,2,2,3,3,3,3,4,4,4,4,4,4,4,4,5,5,5,5,5,5,5,5,5,5,5,5,5,5,5,5,6,6,6,6,6,6,6,6,6,6,6,6,6,6,6,6,6,6,6,6,6,6,6,6,6,6,6,6,6,6,6,6,7,7,7,7,7,7,7,7,7,7,7,7,7,7,7,7,7,7,7,7,7,7,7,7,7,7,7,7,7,7,7,7,7,7,7,7,7,7,7,7,7,7,7,7,7,7,7,7,7,7,7,7,7,7,7,7,7,7,7,7,7,7,7,7,8,8,8,8,8,8,8,8,8,8,8,8,8,8,8,8,8,8,8,8,8,8,8,8,8,8,8,8,8,8,8,8,8,8,8,8,8,8,8,8,8,8,8,8,8,8,8,8,8,8,8,8,8,8,8,8,8,8,8,8,8,8,8,8,8,8,8,8,8,8,8,8,8,8,8,8,8,8,8,8,8,8,8,8,8,8,8,8,8,8,8,8,8,8,8,8,8,8,8,8,8,8,8,8,8,8,8,8,8,8,8,8,8,8,8,8,8,8,8,8,8,8,8,8,8,8,8,8]
abbrev AK:Kd:=(.pair .str (.pair .str .W))
abbrev AB:Type:=ByteArray×ByteArray×Int
abbrev NT:Kd:=(.pair .W (.pair .W (.pair .W (.pair AK .S))))
abbrev zm:Type:=Int×Int×Int×AB×List Int
abbrev Z:Kd:=(.pair .W (.pair .W (.pair .bool (.pair .bool (.pair .bool (.pair .bool (.pair .S (.pair (.slice AK) (.pair .W NT)))))))))
abbrev Y:Type:=Int×Int×Bool×Bool×Bool×Bool×List Int×List AB×Int×Int×Int×Int×AB×List Int
abbrev AL:Kd:=(.pair .W (.pair .W (.pair .W (.pair .W (.pair .W (.slice AK))))))
abbrev AC:Type:=Int×Int×Int×Int×Int×List AB
abbrev A_:Kd:=(.pair .W (.pair .str (.pair .str (.pair .W (.pair .W (.pair .W (.pair .W (.pair .W .str))))))))
abbrev AU:Type:=Int×ByteArray×ByteArray×Int×Int×Int×Int×Int×ByteArray
abbrev Af:Kd:=(.pair (.slice .S) (.pair (.slice Z) (.pair (.slice AL) (.slice A_))))
abbrev AF:Type:=List (List Int)×List Y×List AC×List AU
abbrev AJ:Kd:=(.pair .W (.pair .W (.pair .W (.pair .W (.pair .str .str)))))
abbrev AD:Type:=Int×Int×Int×Int×ByteArray×ByteArray
abbrev Al:Kd:=(.pair (.slice .S) (.pair (.own 49 Z) (.pair (.own 112 AL) (.own 42 A_))))
abbrev AB0:Kd:=(.pair .W (.pair .W (.pair .W (.pair AK (.own 3 .W)))))
abbrev Ka:Kd:=(.pair .W (.pair .W (.pair .bool (.pair .bool (.pair .bool (.pair .bool (.pair (.own 3 .W) (.pair (.own 45 AK) (.pair .W AB0)))))))))
abbrev BG:Kd:=(.pair .W (.pair .W (.pair .W AK)))
abbrev AN:Type:=Int×Int×Int×ByteArray×ByteArray×Int
abbrev Ao:Kd:=(.pair (.slice (.int .u8)) (.pair .W .W))
abbrev AM:Type:=List Int×Int×Int
abbrev jk:Kd:=(.pair (.slice .S) (.slice AJ))
abbrev At:Type:=List (List Int)×List AD
abbrev eE:Kd:=(.pair (.slice .S) (.own 72 AJ))
abbrev Gl:Kd:=(.pair (.slice .S) (.pair (.own 49 Z) (.pair (.slice AL) (.slice A_))))
abbrev NU:Kd:=(.pair (.own 37 .S) (.own 72 AJ))
def uv:Nat×List PK×List Kd:=(5,[.val .str],[.str])
def eF:Nat×List PK×List Kd:=(6,[.val .str],[.str])
def AB1:Nat×List PK×List Kd:=(7,[.bor (.slice (.int .u8))],[.bool])
def jl:Nat×List PK×List Kd:=(8,[.bor (.slice (.int .u8))],[.str])
def NV:Nat×List PK×List Kd:=(9,[.val .str],[(.slice .S),(.slice AJ),.W])
def Ct:Nat×List PK×List Kd:=(10,[.val .W],[.str])
def bI:Nat×List PK×List Kd:=(11,[.val (.slice .S),.val (.slice AJ)],[Af,.S,.bool])
def xk:Nat×List PK×List Kd:=(12,[.val .str,.val .str],[.bool])
def sH:Nat×List PK×List Kd:=(13,[.val (.slice .S),.val (.slice AJ)],[Af,.S,.bool])
def mL:Nat×List PK×List Kd:=(14,[.val .str],[(.slice .S),(.slice AJ),.W])
def NW:Nat×List PK×List Kd:=(15,[.val .W],[.str])
def uw:Nat×List PK×List Kd:=(17,[.bor (.slice .str),.val .str],[.str])
def xm:Nat×List PK×List Kd:=(18,[.val A_],[.bool])
def sI:Nat×List PK×List Kd:=(19,[.val A_],[.str])
def pJ:Nat×List PK×List Kd:=(21,[.ptr Ao,.val (.slice (.int .u8))],[.str])
def xn:Nat×List PK×List Kd:=(22,[.val (.slice (.int .u8))],[(.ref Ao)])
def bJ:Nat×List PK×List Kd:=(23,[.val .str],[(.slice .str)])
def ux:Nat×List PK×List Kd:=(24,[.val .str],[(.slice .str),.bool])
def pK:Nat×List PK×List Kd:=(25,[.val .str],[.S,.bool])
def Hm:Nat×List PK×List Kd:=(26,[.bor (.slice .S)],[.bool])
def sJ:Nat×List PK×List Kd:=(27,[.bor (.slice .str)],[AJ,.bool])
def eG:Nat×List PK×List Kd:=(28,[.val AJ],[.bool])
def pL:Nat×List PK×List Kd:=(29,[.val .W],[(.int .u8)])
def sK:Nat×List PK×List Kd:=(30,[.val (.slice .S)],[Al,.bool])
def eH:Nat×List PK×List Kd:=(31,[.val AJ],[.bool])
def jm:Nat×List PK×List Kd:=(32,[.ptr Al,.val AJ,.val .W],[.bool])
def xo:Nat×List PK×List Kd:=(33,[.val .bool],[.W])
def pM:Nat×List PK×List Kd:=(34,[.val Af],[Al])
def bK:Nat×List PK×List Kd:=(35,[.val (.slice .S)],[Af,.bool])
def mM:Nat×List PK×List Kd:=(36,[.ptr Af,.val .W,.val AJ],[.W])
def uy:Nat×List PK×List Kd:=(37,[.val Af],[Af])
def Rc:Nat×List PK×List Kd:=(38,[.val .str,.val .str],[(.slice .str)])
def jn:Nat×List PK×List Kd:=(39,[.ptr NU,.val .str],[.bool])
def uz:Nat×List PK×List Kd:=(40,[.val .W],[.str])
def u6:Nat×List PK×List Kd:=(43,[.ptr Ao,.val (.slice (.int .u8))],[jk])
def Hn:Nat×List PK×List Kd:=(44,[.ptr Ao,.val .W],[.bool])
def J8:Nat×List PK×List Kd:=(45,[.ptr Ao,.val (.slice .str)],[.str])
def u7:Nat×List PK×List Kd:=(46,[.val AJ],[.str])
def C0:Nat×List PK×List Kd:=(47,[.ptr Ao,.val .W],[.W])
def u_:Nat×List PK×List Kd:=(48,[.val .W,.val (.int .u8)],[.str])
def IS:Nat×List PK×List Kd:=(49,[.val .str],[.W,.bool])
def vA:Nat×List PK×List Kd:=(50,[.bor .S],[.bool])
def BD:Nat×List PK×List Kd:=(51,[.val .W,.val .W,.val .W],[.bool])
def Ho:Nat×List PK×List Kd:=(52,[.bor (.slice .S)],[.bool])
def YV:Nat×List PK×List Kd:=(53,[.val (.slice .S)],[(.slice .S)])
def pN:Nat×List PK×List Kd:=(54,[.val .W,.val (.slice .S)],[Z,.bool])
def BH:Nat×List PK×List Kd:=(55,[.val .W,.val .W,.val .W],[.bool])
def I2:Nat×List PK×List Kd:=(56,[.val .W],[.bool])
def mN:Nat×List PK×List Kd:=(57,[.val .W,.val .W,.val .str,.val .str],[.bool])
def jo:Nat×List PK×List Kd:=(58,[.ptr Al,.val AJ,.val .W],[.bool])
def jp:Nat×List PK×List Kd:=(59,[.ptr Al,.val AJ,.val .W],[.bool])
def HT:Nat×List PK×List Kd:=(60,[.ptr Al,.val .W],[.W])
def AA_:Nat×List PK×List Kd:=(61,[.bor Z],[Ka])
def eI:Nat×List PK×List Kd:=(62,[.ptr Al,.val AJ,.val .W],[.bool])
def MF:Nat×List PK×List Kd:=(63,[.bor (.slice A_)],[(.own 42 A_)])
def Gm:Nat×List PK×List Kd:=(64,[.val Z],[Z])
def Tc:Nat×List PK×List Kd:=(65,[.val AL],[AL])
def R3:Nat×List PK×List Kd:=(66,[.val (.slice .S)],[(.slice .S)])
def pO:Nat×List PK×List Kd:=(67,[.val .W,.val (.slice .S)],[Z,.bool])
def sL:Nat×List PK×List Kd:=(68,[.ptr Af,.val .W,.val AJ],[.W])
def sM:Nat×List PK×List Kd:=(69,[.ptr Af,.val .W,.val .W],[.W])
def Kb:Nat×List PK×List Kd:=(70,[.ptr Af,.val Z,.val (.slice AL),.val (.slice BG),.val .W],[])
def ABA:Nat×List PK×List Kd:=(71,[.bor Z],[Ka])
def xp:Nat×List PK×List Kd:=(72,[.ptr Af,.val .W,.val AJ],[.W])
def jq:Nat×List PK×List Kd:=(73,[.val (.slice AL)],[(.slice AL)])
def Hp:Nat×List PK×List Kd:=(74,[.val Z],[Z])
def vB:Nat×List PK×List Kd:=(76,[.val .str],[(.slice .str),.bool])
def iD:Nat×List PK×List Kd:=(77,[.val .str,.val .str],[.bool])
def jr:Nat×List PK×List Kd:=(78,[.ptr NU,.val (.slice .str)],[.bool])
def vC:Nat×List PK×List Kd:=(79,[.bor (.slice .str)],[AJ,.bool])
def sN:Nat×List PK×List Kd:=(83,[.ptr Ao],[(.slice .S)])
def vD:Nat×List PK×List Kd:=(84,[.ptr Ao,.ptr Af],[AJ])
def J9:Nat×List PK×List Kd:=(85,[.ptr Ao],[.W])
def Gn:Nat×List PK×List Kd:=(86,[.bor .S,.val .W],[.bool])
def NX:Nat×List PK×List Kd:=(87,[.bor .S,.val .W],[.W])
def C3:Nat×List PK×List Kd:=(88,[.bor .S],[(.own 3 .W)])
def GX:Nat×List PK×List Kd:=(89,[.bor .S,.val .W],[.bool])
def mO:Nat×List PK×List Kd:=(90,[.val .str],[.bool])
def zn:Nat×List PK×List Kd:=(91,[.val Z,.val (.slice .S),.val .W,.val .W,.val .str,.val .str],[Z,(.slice AL),(.slice BG),.bool])
def NY:Nat×List PK×List Kd:=(92,[.ptr Al,.val (.slice AL),.val (.slice BG),.val .W],[])
def zo:Nat×List PK×List Kd:=(93,[.val Z,.val (.slice .S),.val .W],[Z,(.slice AL),.bool])
def IT:Nat×List PK×List Kd:=(94,[.bor (.slice Z),.val (.clo 95 .W)],[.W])
def eJ:Nat×List PK×List Kd:=(96,[.ptr Al,.val .W,.val .W],[])
def GU:Nat×List PK×List Kd:=(97,[.mov (.own 112 AL),.val .W,.val .W],[(.own 112 AL)])
def BU:Nat×List PK×List Kd:=(98,[.bor (.slice AK)],[(.own 45 AK)])
def zp:Nat×List PK×List Kd:=(99,[.val Z,.val (.slice .S),.val .W,.val .W,.val .str,.val .str],[Z,(.slice AL),(.slice BG),.bool])
def zq:Nat×List PK×List Kd:=(100,[.val Z,.val (.slice .S),.val .W],[Z,(.slice AL),.bool])
def vE:Nat×List PK×List Kd:=(101,[.val Z,.val (.slice .S),.val AL],[Z,(.slice AL),(.slice BG)])
def NZ:Nat×List PK×List Kd:=(105,[.val .str,.val .str],[.bool])
def xq:Nat×List PK×List Kd:=(106,[.val .str],[.S,.bool])
def xr:Nat×List PK×List Kd:=(107,[.val .str],[.W,.W])
def Td:Nat×List PK×List Kd:=(108,[.val .str],[.W,.bool])
def VZ:Nat×List PK×List Kd:=(111,[.ptr Ao,.val .S],[.W])
def Rd:Nat×List PK×List Kd:=(112,[.bor Z],[.bool])
def aY:Nat×List PK×List Kd:=(113,[.ptr Z,.val (.slice .S)],[.bool])
def jJ:Nat×List PK×List Kd:=(114,[.bor (.slice AK),.val .str],[AK])
def Gp:Nat×List PK×List Kd:=(115,[.ptr Z,.val .S],[.S])
def PF:Nat×List PK×List Kd:=(116,[.mut (.own 3 .W)],[])
def Te:Nat×List PK×List Kd:=(117,[.ptr Z],[(.slice BG)])
def Bt:Nat×List PK×List Kd:=(118,[.ptr Z,.val .S,.val AL],[(.slice AL)])
def Na:Nat×List PK×List Kd:=(119,[.ptr Z],[])
def Nb:Nat×List PK×List Kd:=(120,[.ptr Z,.val .S,.val (.slice AK)],[(.slice AL)])
def vF:Nat×List PK×List Kd:=(121,[.val Z,.val (.slice .S),.val AL],[Z,(.slice AL),(.slice BG)])
def Re:Nat×List PK×List Kd:=(122,[.bor Z],[.bool])
def jK:Nat×List PK×List Kd:=(123,[.bor (.slice AK),.val .str],[AK])
def Tf:Nat×List PK×List Kd:=(124,[.bor (.slice AK),.val AK],[(.own 45 AK)])
def YW:Nat×List PK×List Kd:=(125,[.val .S,.val .W],[.S])
def YX:Nat×List PK×List Kd:=(126,[.ptr Z],[(.slice BG)])
def jL:Nat×List PK×List Kd:=(127,[.ptr Z,.val .S,.val (.slice AK)],[(.slice AL)])
def zr:Nat×List PK×List Kd:=(128,[.bor AL],[.bool])
def xt:Nat×List PK×List Kd:=(129,[.val Z,.val .S,.val AL],[Z,(.slice AL),(.slice BG)])
def eK:Nat×List PK×List Kd:=(130,[.val Z,.val .W],[Z])
def Ls:Nat×List PK×List Kd:=(131,[.val Z,.val AL,.val .W],[(.slice AL)])
def Tg:Nat×List PK×List Kd:=(140,[.bor .S,.val .W,.val .W],[.bool])
def Nc:Nat×List PK×List Kd:=(141,[.bor (.slice AK)],[.bool])
def eL:Nat×List PK×List Kd:=(142,[.ptr Z],[.bool])
def FQ:Nat×List PK×List Kd:=(143,[.mut (.own 3 .W),.val .W,.val .W,.val .W],[])
def sO:Nat×List PK×List Kd:=(144,[.val (.int .u64)],[.W])
def eM:Nat×List PK×List Kd:=(145,[.bor (.slice AK),.val AK],[(.own 45 AK)])
def zt:Nat×List PK×List Kd:=(146,[.bor AL],[.bool])
def jt:Nat×List PK×List Kd:=(147,[.ptr Z,.val (.slice .S),.val AL],[(.slice AL),(.slice BG)])
def jM:Nat×List PK×List Kd:=(148,[.bor .S],[.bool])
def Nd:Nat×List PK×List Kd:=(149,[.bor (.slice AK)],[.bool])
def pP:Nat×List PK×List Kd:=(150,[.bor NT],[.bool])
def Va:Nat×List PK×List Kd:=(151,[.val .S,.val .W],[.S])
def mP:Nat×List PK×List Kd:=(158,[.val (.int .u64)],[.W])
def NG:Nat×List PK×List Kd:=(162,[.mut (.own 3 .W),.val .W,.val .W],[])
def Rf:Nat×List PK×List Kd:=(163,[.mut (.own 3 .W),.val .W,.val .W],[])
def NH:Nat×List PK×List Kd:=(164,[.mut (.own 3 .W),.val .W,.val .W],[])
def PC:Nat×List PK×List Kd:=(165,[.mut (.own 3 .W),.val .W,.val .W],[.W,.W])
def Nf:Nat×List PK×List Kd:=(166,[.mut (.own 3 .W),.val .W,.val .W],[])
def I6:Nat×List PK×List Kd:=(167,[.mut (.own 3 .W),.val .W,.val .W],[.bool])
def eN:Nat×List PK×List Kd:=(168,[.val .W,.val .W],[.bool])
def MG:Nat×List PK×List Kd:=(169,[.mut (.own 3 .W),.val .W,.val .W,.val .W],[.W])
def Qh:Nat×List PK×List Kd:=(170,[.mut (.own 3 .W),.val .W,.val .W,.val .W],[.W,.bool])
def mQ:Nat×List PK×List Kd:=(171,[.val (.int .u32)],[.W])
def FR:Nat×List PK×List Kd:=(172,[.bor (.slice AK),.val .str,.val (.fun 173)],[.W,.bool])
def mR:Nat×List PK×List Kd:=(174,[.val .str,.val .str],[.W])
def LY:Nat×List PK×List Kd:=(175,[.mov (.own 45 AK),.val .W,.mov (.own 45 AK)],[(.own 45 AK)])
def ju:Nat×List PK×List Kd:=(176,[.ptr Z,.val (.slice .S),.val AL],[(.slice AL)])
def dO:Nat×List PK×List Kd:=(177,[.ptr Z,.val .S,.val AL],[(.slice AL)])
def eO:Nat×List PK×List Kd:=(178,[.val .S,.val .W],[.S])
def iE:Nat×List PK×List Kd:=(179,[.ptr Z,.val AL],[(.slice AL)])
def Qi:Nat×List PK×List Kd:=(180,[.ptr Z,.val .W,.val AL],[(.slice BG)])
def bL:Nat×List PK×List Kd:=(190,[.val .W],[.bool])
def TB:Nat×List PK×List Kd:=(194,[.mov (.own 3 .W),.val (.clo 195 .W)],[(.own 3 .W)])
abbrev LZ {A0 ρ:Type} (t W:A0->Option ρ):Prop:=∀ {a0 r},t a0=some r->W a0=some r
abbrev PD {A0 A1 ρ:Type} (t W:A0->A1->Option ρ):Prop:=∀ {a0 a1 r},t a0 a1=some r->W a0 a1=some r
abbrev M3 {A0 A1 A2 ρ:Type} (t W:A0->A1->A2->Option ρ):Prop:=∀ {a0 a1 a2 r},t a0 a1 a2=some r->W a0 a1 a2=some r
abbrev X1 {A0 A1 A2 A3 ρ:Type} (t W:A0->A1->A2->A3->Option ρ):Prop:=∀ {a0 a1 a2 a3 r},t a0 a1 a2 a3=some r->W a0 a1 a2 a3=some r
abbrev rq {A0 A1 A2 A3 A4 ρ:Type} (t W:A0->A1->A2->A3->A4->Option ρ):Prop:=∀ {a0 a1 a2 a3 a4 r},t a0 a1 a2 a3 a4=some r->W a0 a1 a2 a3 a4=some r
abbrev Le6 {A0 A1 A2 A3 A4 A5 ρ:Type} (t W:A0->A1->A2->A3->A4->A5->Option ρ):Prop:=∀ {a0 a1 a2 a3 a4 a5 r},t a0 a1 a2 a3 a4 a5=some r->W a0 a1 a2 a3 a4 a5=some r
abbrev Le7 {A0 A1 A2 A3 A4 A5 A6 ρ:Type} (t W:A0->A1->A2->A3->A4->A5->A6->Option ρ):Prop:=∀ {a0 a1 a2 a3 a4 a5 a6 r},t a0 a1 a2 a3 a4 a5 a6=some r->W a0 a1 a2 a3 a4 a5 a6=some r
abbrev Le8 {A0 A1 A2 A3 A4 A5 A6 A7 ρ:Type} (t W:A0->A1->A2->A3->A4->A5->A6->A7->Option ρ):Prop:=∀ {a0 a1 a2 a3 a4 a5 a6 a7 r},t a0 a1 a2 a3 a4 a5 a6 a7=some r->W a0 a1 a2 a3 a4 a5 a6 a7=some r
abbrev Le9 {A0 A1 A2 A3 A4 A5 A6 A7 A8 ρ:Type} (t W:A0->A1->A2->A3->A4->A5->A6->A7->A8->Option ρ):Prop:=∀ {a0 a1 a2 a3 a4 a5 a6 a7 a8 r},t a0 a1 a2 a3 a4 a5 a6 a7 a8=some r->W a0 a1 a2 a3 a4 a5 a6 a7 a8=some r
abbrev ADV {A0 A1 A2 A3 A4 A5 A6 A7 A8 A9 ρ:Type} (t W:A0->A1->A2->A3->A4->A5->A6->A7->A8->A9->Option ρ):Prop:=∀ {a0 a1 a2 a3 a4 a5 a6 a7 a8 a9 r},t a0 a1 a2 a3 a4 a5 a6 a7 a8 a9=some r->W a0 a1 a2 a3 a4 a5 a6 a7 a8 a9=some r
abbrev AHq {A0 A1 A2 A3 A4 A5 A6 A7 A8 A9 A10 ρ:Type} (t W:A0->A1->A2->A3->A4->A5->A6->A7->A8->A9->A10->Option ρ):Prop:=∀ {a0 a1 a2 a3 a4 a5 a6 a7 a8 a9 a10 r},t a0 a1 a2 a3 a4 a5 a6 a7 a8 a9 a10=some r->W a0 a1 a2 a3 a4 a5 a6 a7 a8 a9 a10=some r
abbrev AGz {A0 A1 A2 A3 A4 A5 A6 A7 A8 A9 A10 A11 ρ:Type} (t W:A0->A1->A2->A3->A4->A5->A6->A7->A8->A9->A10->A11->Option ρ):Prop:=∀ {a0 a1 a2 a3 a4 a5 a6 a7 a8 a9 a10 a11 r},t a0 a1 a2 a3 a4 a5 a6 a7 a8 a9 a10 a11=some r->W a0 a1 a2 a3 a4 a5 a6 a7 a8 a9 a10 a11=some r
abbrev AHr {A0 A1 A2 A3 A4 A5 A6 A7 A8 A9 A10 A11 A12 A13 ρ:Type} (t W:A0->A1->A2->A3->A4->A5->A6->A7->A8->A9->A10->A11->A12->A13->Option ρ):Prop:=∀ {a0 a1 a2 a3 a4 a5 a6 a7 a8 a9 a10 a11 a12 a13 r},t a0 a1 a2 a3 a4 a5 a6 a7 a8 a9 a10 a11 a12 a13=some r->W a0 a1 a2 a3 a4 a5 a6 a7 a8 a9 a10 a11 a12 a13=some r
abbrev AHV {A0 A1 A2 A3 A4 A5 A6 A7 A8 A9 A10 A11 A12 A13 A14 ρ:Type} (t W:A0->A1->A2->A3->A4->A5->A6->A7->A8->A9->A10->A11->A12->A13->A14->Option ρ):Prop:=∀ {a0 a1 a2 a3 a4 a5 a6 a7 a8 a9 a10 a11 a12 a13 a14 r},t a0 a1 a2 a3 a4 a5 a6 a7 a8 a9 a10 a11 a12 a13 a14=some r->W a0 a1 a2 a3 a4 a5 a6 a7 a8 a9 a10 a11 a12 a13 a14=some r
instance (n:Nat):OfNat Cr n:=⟨.t n⟩
abbrev Cr.F:Cr:=.c (.bool false)
abbrev Cr.V:Cr:=.c (.bool true)
abbrev Cr.z:Cr:=.c .nil
abbrev AG.R (a:List Fw) (b:List Nat) (c:AG):AG:=.seq (.region a b) c
abbrev AG.r (a:List Fw) (b:List Nat):AG:=.region a b
abbrev AG.s (a b:AG):AG:=.seq a b
abbrev AG.q (c:Cr) (a b:AG):AG:=.cond c a b
abbrev AG.Q (c:Cr) (a:AG):AG:=.cond c a .skip
abbrev AG.k:AG:=.skip
abbrev AG.e:AG:=.ret
abbrev AG.D (n:Nat) (l:List (Nat×List Nat)) (t:DT) (v:List Nat):AG:=.draw (cls n l) t v
abbrev AG.b (n:Nat) (l:List Nat) (c:AG):AG:=.block n l c
abbrev DT.O (i:Nat) (a:Fw) (e:Bool) (fl:List (Nat×Fw)) (r:DT):DT:=.only i none a e fl r
abbrev DT.z:DT:=.done

def Vb:AG:=(.s (.R [.m 44 12,.m 45 9,.len 46 false 45,.b 47 .lss 44 46] [3,5,7,9,10,11,12,47] (.cond 47 .k (.exit 0))) (.s (.b 1 [3,5,7,9,10,11,12] (.seqc [3,5,7,9,10,11,12] (.R [.m 50 12,.bin 51 .gtr 50 (.i 0)] [3,5,7,9,10,11,12,51] (.cond 51 (.r [.m 52 11,.bin 53 .add 52 (.c (.str ⟨#[32]⟩)),.m 11 53] [3,5,7,9,10,11,12]) .k)) (.r [.m 54 11,.m 55 9,.m 56 12,.idx 57 1 55 56,.l 58 57,.cl 59 [58] Ct,.b 60 .add 54 59,.m 11 60] [3,5,7,9,10,11,12]))) (.r [.m 48 12,.bin 49 .add 48 (.i 1),.m 12 49] [3,5,7,9,10,11,12])))
def Th:AG:=(.R [.m 92 13,.cl 93 [92] NV,.m 91 93,.ext 94 91 0,.ext 95 91 1,.ext 96 91 2,.m 14 94,.m 15 95,.m 16 96] [3,7,13,16] (.R [.m 97 7,.m 98 3,.cl 99 [98] uv,.b 100 .eql 97 99,.m 101 100,.sc 101 true [.m 102 16,.bin 103 .eql 102 (.c (.int .i64 (-1))),.m 104 103,.sc 104 false [.m 105 13,.cl 106 [105] eF,.m 107 7,.b 108 .eql 106 107] 109 .V 108] 110 109 .F,.m 2 110] [2] .e))
def Ti:AG:=(.R [.m 76 3,.bin 77 .add (.c (.str ⟨#[35,32,115,97,105,100,10,32,32,32,10]⟩)) 76,.m 13 77] [3,7,13] (.seqc [3,7,13] (.R [.m 78 3,.len 79 true 78,.bin 80 .gtr 79 (.i 0),.m 81 80,.sc 81 true [.m 82 3,.m 83 3,.len 84 true 83,.bin 85 .sub 84 (.i 1),.sidx 86 82 85,.bin 87 .eql 86 (.c (.int .u8 10))] 88 87 .F] [3,7,13,88] (.cond 88 (.r [.m 89 13,.bin 90 .add 89 (.c (.str ⟨#[32,32,35,32,109,111,114,101,10]⟩)),.m 13 90] [3,7,13]) .k)) Th))
def MH:AG:=(.s (.R [.m 61 10,.un 62 .not 61,.m 63 62,.sc 63 false [.m 64 11,.m 65 7,.cl 66 [64,65] xk,.un 67 .not 66] 68 .V 67,.m 69 68,.sc 69 false [.m 70 9,.len 71 false 70,.m 72 5,.len 73 false 72,.b 74 .neq 71 73] 75 .V 74] [3,7,75] (.cond 75 (.R [.mv 2 .F] [2] .e) .k)) Ti)
def Bn:BL:=⟨[.val (.slice (.int .u8))],[⟨2,false,.bool⟩],(.R [.mv 2 .F] [0] (.s (.R [.m 17 0,.cl 18 [17] AB1] [0,18] (.cond 18 (.R [.mv 2 .V] [2] .e) .k)) (.R [.m 19 0,.cl 20 [19] jl,.m 3 20] [3] (.R [.m 22 3,.cl 23 [22] NV,.m 21 23,.ext 24 21 0,.ext 25 21 1,.ext 26 21 2,.m 4 24,.m 5 25,.m 6 26] [3,4,5,6] (.R [.m 27 3,.cl 28 [27] eF,.m 7 28] [3,4,5,6,7] (.s (.R [.m 29 6,.bin 30 .neq 29 (.i 0)] [3,4,5,6,7,30] (.cond 30 (.R [.m 31 7,.m 32 6,.cl 33 [32] Ct,.bin 34 .add (.c (.str ⟨#[102,97,117,108,116,32]⟩)) 33,.bin 35 .add 34 (.c (.str ⟨#[10]⟩)),.b 36 .eql 31 35,.m 2 36] [2] .e) .k)) (.R [.m 38 4,.m 39 5,.cl 40 [38,39] bI,.m 37 40,.ext 41 37 0,.ext 42 37 1,.ext 43 37 2,.al 8 Af,.store 8 41 4 false,.m 9 42,.m 10 43] [3,5,7,9,10] (.R [.mv 11 (.c (.str ⟨#[]⟩))] [3,5,7,9,10,11] (.s (.R [.mv 12 (.i 0)] [3,5,7,9,10,11,12] (.b 0 [3,5,7,9,10,11] (.loop [3,5,7,9,10,11,12] Vb))) MH)))))))))⟩
theorem sP:Aw Tryz.prog 4 Bn=true:=by kernel_rfl
def YY:AG:=(.s (.R [.m 33 10,.m 34 7,.len 35 false 34,.b 36 .lss 33 35] [6,7,9,10,36] (.cond 36 .k (.exit 0))) (.s (.b 1 [6,7,9,10] (.seqc [6,7,9,10] (.R [.m 39 10,.bin 40 .gtr 39 (.i 0)] [6,7,9,10,40] (.cond 40 (.r [.m 41 9,.bin 42 .add 41 (.c (.str ⟨#[32]⟩)),.m 9 42] [6,7,9,10]) .k)) (.r [.m 43 9,.m 44 7,.m 45 10,.idx 46 1 44 45,.l 47 46,.cl 48 [47] Ct,.b 49 .add 43 48,.m 9 49] [6,7,9,10]))) (.r [.m 37 10,.bin 38 .add 37 (.i 1),.m 10 38] [6,7,9,10])))
def Vc:AG:=(.cond 88 (.r [.m 89 9,.bin 90 .add 89 (.c (.str ⟨#[103,101,116,32]⟩)),.f 91 12 1,.l 92 91,.b 93 .add 90 92,.bin 94 .add 93 (.c (.str ⟨#[32]⟩)),.f 95 12 8,.l 96 95,.b 97 .add 94 96,.bin 98 .add 97 (.c (.str ⟨#[10]⟩)),.m 9 98] [6,9,11]) .k)
def Vd:AG:=(.R [.f 81 12 4,.l 82 81,.bin 83 .geq 82 (.i 0),.m 84 83,.sc 84 true [.f 85 12 0,.l 86 85,.bin 87 .eql 86 (.i 2)] 88 87 .F] [6,9,11,12,88] Vc)
def Ve:AG:=(.r [.m 60 11,.bin 61 .add 60 (.i 1),.m 11 61] [6,9,11])
def Vf:AG:=(.s (.R [.m 55 11,.f 56 6 3,.l 57 56,.len 58 false 57,.b 59 .lss 55 58] [6,9,11,59] (.cond 59 .k (.exit 2))) (.s (.b 3 [6,9,11] (.R [.f 62 6 3,.l 63 62,.m 64 11,.idx 65 9 63 64,.ls 66 65 9,.al 12 A_,.store 12 66 9 false] [6,9,11,12] (.seqc [6,9,11,12] (.R [.f 67 12 4,.l 68 67,.bin 69 .geq 68 (.i 0),.m 70 69,.sc 70 true [.f 71 12 0,.l 72 71,.bin 73 .eql 72 (.i 1)] 74 73 .F] [6,9,11,12,74] (.cond 74 (.r [.m 75 9,.bin 76 .add 75 (.c (.str ⟨#[112,117,116,32]⟩)),.f 77 12 1,.l 78 77,.b 79 .add 76 78,.bin 80 .add 79 (.c (.str ⟨#[10]⟩)),.m 9 80] [6,9,11,12]) .k)) Vd))) Ve))
def Vg:AG:=(.s (.R [.m 99 13,.f 100 6 1,.l 101 100,.len 102 false 101,.b 103 .lss 99 102] [6,9,13,103] (.cond 103 .k (.exit 4))) (.s (.b 5 [6,9,13] (.R [.f 106 6 1,.l 107 106,.m 108 13,.idx 109 16 107 108,.f 110 109 5,.l 111 110] [6,9,13,111] (.cond 111 (.r [.m 112 9,.bin 113 .add 112 (.c (.str ⟨#[115,101,114,118,101,115,32]⟩)),.f 114 6 1,.l 115 114,.m 116 13,.idx 117 16 115 116,.f 118 117 0,.l 119 118,.cl 120 [119] Ct,.b 121 .add 113 120,.bin 122 .add 121 (.c (.str ⟨#[10]⟩)),.m 9 122] [6,9,13]) .k))) (.r [.m 104 13,.bin 105 .add 104 (.i 1),.m 13 105] [6,9,13])))
def Vh:AG:=(.R [.m 123 9,.m 2 123] [2] .e)
def Vi:AG:=(.s (.R [.mv 13 (.i 0)] [6,9,13] (.b 4 [9] (.loop [6,9,13] Vg))) Vh)
def Ng:AG:=(.seqc [6,9] (.R [.m 50 7,.len 51 false 50,.bin 52 .gtr 51 (.i 0)] [6,9,52] (.cond 52 (.r [.m 53 9,.bin 54 .add 53 (.c (.str ⟨#[10]⟩)),.m 9 54] [6,9]) .k)) (.s (.R [.mv 11 (.i 0)] [6,9,11] (.b 2 [6,9] (.loop [6,9,11] Vf))) Vi))
def BA:BL:=⟨[.val .str],[⟨2,false,.str⟩],(.R [.mv 2 (.c (.str ⟨#[]⟩))] [0] (.R [.m 15 0,.cl 16 [15] NV,.m 14 16,.ext 17 14 0,.ext 18 14 1,.ext 19 14 2,.m 3 17,.m 4 18,.m 5 19] [3,4,5] (.s (.R [.m 20 5,.bin 21 .neq 20 (.i 0)] [3,4,5,21] (.cond 21 (.R [.m 22 5,.cl 23 [22] Ct,.bin 24 .add (.c (.str ⟨#[102,97,117,108,116,32]⟩)) 23,.bin 25 .add 24 (.c (.str ⟨#[10]⟩)),.m 2 25] [2] .e) .k)) (.R [.m 27 3,.m 28 4,.cl 29 [27,28] sH,.m 26 29,.ext 30 26 0,.ext 31 26 1,.ext 32 26 2,.al 6 Af,.store 6 30 4 false,.m 7 31,.m 8 32] [6,7] (.R [.mv 9 (.c (.str ⟨#[]⟩))] [6,7,9] (.s (.R [.mv 10 (.i 0)] [6,7,9,10] (.b 0 [6,7,9] (.loop [6,7,9,10] YY))) Ng))))))⟩
theorem vG:Aw Tryz.prog 5 BA=true:=by kernel_rfl
def YZ:AG:=(.R [.b 39 .lss 38 37] [6,9,36,37,38,39] (.s (.cond 39 .k (.exit 0)) (.s (.b 1 [6,9,36,37,38] (.R [.idx 40 1 36 38,.l 41 40,.m 11 41] [6,9,11,36,37,38] (.r [.m 42 9,.m 43 11,.cl 44 [43] NW,.blst 45 .str [44],.app 46 9 .str 42 45,.m 9 46] [6,9,36,37,38]))) (.r [.bin 47 .add 38 (.i 1),.m 38 47] [6,9,36,37,38]))))
def Vj:AG:=(.R [.b 59 .lss 58 57] [6,12,56,57,58,59] (.s (.cond 59 .k (.exit 2)) (.s (.b 3 [6,12,56,57,58] (.R [.idx 60 9 56 58,.ls 61 60 9,.al 14 A_,.store 14 61 9 false] [6,12,14,56,57,58] (.R [.ls 62 14 9,.cl 63 [62] xm] [6,12,14,56,57,58,63] (.cond 63 (.r [.ls 64 14 9,.cl 65 [64] sI,.bld (some 66) 1 16 5 12 65] [6,12,56,57,58]) .k)))) (.r [.bin 67 .add 58 (.i 1),.m 58 67] [6,12,56,57,58]))))
def Vk:AG:=(.R [.b 72 .lss 71 70] [12,69,70,71,72] (.s (.cond 72 .k (.exit 4)) (.s (.b 5 [12,69,70,71] (.R [.idx 73 16 69 71,.ls 74 73 16,.al 16 Z,.store 16 74 16 false] [12,16,69,70,71] (.R [.f 75 16 5,.l 76 75] [12,16,69,70,71,76] (.cond 76 (.r [.f 77 16 0,.l 78 77,.cl 79 [78] NW,.bin 80 .add (.c (.str ⟨#[115,101,114,118,101,115,32]⟩)) 79,.bin 81 .add 80 (.c (.str ⟨#[10]⟩)),.bld (some 82) 1 16 5 12 81] [12,69,70,71]) .k)))) (.r [.bin 83 .add 71 (.i 1),.m 71 83] [12,69,70,71]))))
def Vl:AG:=(.R [.bld (some 84) 2 20 5 12 (.c .undef),.m 2 84] [2] .e)
def Nh:AG:=(.s (.R [.f 68 6 1,.l 69 68,.len 70 false 69,.mv 71 (.i 0)] [12,69,70,71] (.b 4 [12] (.loop [12,69,70,71] Vk))) Vl)
def Vm:AG:=(.s (.R [.f 55 6 3,.l 56 55,.len 57 false 56,.mv 58 (.i 0)] [6,12,56,57,58] (.b 2 [6,12] (.loop [6,12,56,57,58] Vj))) Nh)
def Ni:AG:=(.R [.alloc 12 [.self 53,.new 5 (.int .u8) []]] [6,9,12] (.seqc [6,12] (.R [.m 48 9,.len 49 false 48,.bin 50 .gtr 49 (.i 0)] [6,9,12,50] (.cond 50 (.r [.m 51 9,.cx (some 52) [51,.c (.str ⟨#[32]⟩)] uw,.bin 53 .add 52 (.c (.str ⟨#[10]⟩)),.bld (some 54) 1 16 5 12 53] [6,12]) .k)) Vm))
def Au:BL:=⟨[.val .str],[⟨2,false,.str⟩],(.R [.mv 2 (.c (.str ⟨#[]⟩))] [0] (.R [.m 18 0,.cl 19 [18] mL,.m 17 19,.ext 20 17 0,.ext 21 17 1,.ext 22 17 2,.m 3 20,.m 4 21,.m 5 22] [3,4,5] (.s (.R [.m 23 5,.bin 24 .neq 23 (.i 0)] [3,4,5,24] (.cond 24 (.R [.m 25 5,.cl 26 [25] NW,.bin 27 .add (.c (.str ⟨#[102,97,117,108,116,32]⟩)) 26,.bin 28 .add 27 (.c (.str ⟨#[10]⟩)),.m 2 28] [2] .e) .k)) (.R [.m 30 3,.m 31 4,.cl 32 [30,31] bI,.m 29 32,.ext 33 29 0,.ext 34 29 1,.ext 35 29 2,.al 6 Af,.store 6 33 4 false,.m 7 34,.m 8 35] [6,7] (.R [.nilrow 9 9 .str] [6,7,9] (.s (.R [.m 36 7,.len 37 false 36,.mv 38 (.i 0)] [6,9,36,37,38] (.b 0 [6,9] (.loop [6,9,36,37,38] YZ))) Ni))))))⟩
theorem vH:Aw Tryz.prog 6 Au=true:=by kernel_rfl
def aZ:BL:=⟨[.val (.slice (.int .u8))],[⟨2,false,.bool⟩],(.R [.mv 2 .F] [0] (.R [.m 3 0,.len 4 false 3,.bin 5 .gtr 4 (.i 1048576),.m 2 5] [2] .e))⟩
theorem AB2:Aw Tryz.prog 7 aZ=true:=by kernel_rfl
def IU:BL:=⟨[.val (.slice (.int .u8))],[⟨2,false,.str⟩],(.R [.mv 2 (.c (.str ⟨#[]⟩))] [0] (.R [.m 3 0,.cl 4 [3] xn,.m 5 0,.cl 6 [4,5] pJ,.m 2 6] [2] .e))⟩
theorem jv:Aw Tryz.prog 8 IU=true:=by kernel_rfl
def R4:AG:=(.cond 73 (.R [.m 75 10,.idx 76 1 75 (.i 1),.l 77 76,.cl 78 [77] pK,.m 74 78,.ext 79 74 0,.ext 80 74 1,.m 12 79,.m 13 80] [5,6,7,8,9,12,13] (.R [.m 81 7,.m 82 12,.blst 83 .S [82],.app 84 37 .S 81 83,.m 7 84] [5,6,7,8,9,13] (.s (.R [.m 85 13,.un 86 .not 85,.m 87 86,.sc 87 false [.m 88 8,.len 89 false 88,.bin 90 .gtr 89 (.i 0)] 91 .V 90,.m 92 91,.sc 92 false [.m 93 7,.cl 94 [93] Hm,.un 95 .not 94] 96 .V 95] [5,6,7,8,9,96] (.cond 96 (.R [.blst 97 .S [],.m 98 5,.m 99 9,.bin 100 .add 99 (.i 1),.m 2 97,.m 3 98,.m 4 100] [2,3,4] .e) .k)) (.exit 1)))) .k)
def J_:AG:=(.R [.m 102 10,.cl 103 [102] sJ,.m 101 103,.ext 104 101 0,.ext 105 101 1,.al 14 AJ,.store 14 104 6 false,.m 15 105] [5,6,7,8,9,14,15] (.s (.R [.m 106 15,.un 107 .not 106,.m 108 107,.sc 108 false [.ls 109 14 6,.cl 110 [109] eG,.un 111 .not 110] 112 .V 111,.m 113 112,.sc 113 false [.m 114 7,.len 115 false 114,.bin 116 .eql 115 (.i 0)] 117 .V 116,.m 118 117,.sc 118 false [.m 119 8,.len 120 false 119,.bin 121 .eql 120 (.i 70)] 122 .V 121] [5,6,7,8,9,14,122] (.cond 122 (.R [.blst 123 .S [],.m 124 5,.m 125 9,.bin 126 .add 125 (.i 1),.m 2 123,.m 3 124,.m 4 126] [2,3,4] .e) .k)) (.r [.m 127 8,.ls 128 14 6,.blst 129 AJ [128],.app 130 72 AJ 127 129,.m 8 130] [5,6,7,8,9])))
def Qj:AG:=(.s (.R [.m 59 11,.un 60 .not 59] [5,6,7,8,9,10,60] (.cond 60 (.R [.blst 61 .S [],.m 62 5,.m 63 9,.bin 64 .add 63 (.i 1),.m 2 61,.m 3 62,.m 4 64] [2,3,4] .e) .k)) (.s (.R [.m 65 10,.idx 66 1 65 (.i 0),.l 67 66,.bin 68 .eql 67 (.c (.str ⟨#[118,105,101,119]⟩)),.m 69 68,.sc 69 true [.m 70 10,.len 71 false 70,.bin 72 .eql 71 (.i 2)] 73 72 .F] [5,6,7,8,9,10,73] R4) J_))
def Qk:AG:=(.r [.m 36 9,.bin 37 .add 36 (.i 1),.m 9 37] [5,6,7,8,9])
def Ql:AG:=(.s (.R [.m 32 9,.m 33 6,.len 34 false 33,.b 35 .lss 32 34] [5,6,7,8,9,35] (.cond 35 .k (.exit 0))) (.s (.b 1 [5,6,7,8,9] (.R [.m 39 6,.m 40 9,.idx 41 1 39 40,.l 42 41,.cl 43 [42] ux,.m 38 43,.ext 44 38 0,.ext 45 38 1,.m 10 44,.m 11 45] [5,6,7,8,9,10,11] (.s (.R [.m 46 11,.m 47 46,.sc 47 true [.m 48 10,.len 49 false 48,.bin 50 .eql 49 (.i 0),.m 51 50,.sc 51 false [.m 52 10,.idx 53 1 52 (.i 0),.l 54 53,.sidx 55 54 (.i 0),.bin 56 .eql 55 (.c (.int .u8 35))] 57 .V 56] 58 57 .F] [5,6,7,8,9,10,11,58] (.cond 58 (.exit 1) .k)) Qj))) Qk))
def KA:AG:=(.s (.R [.m 131 7,.len 132 false 131,.bin 133 .eql 132 (.i 0)] [5,7,8,133] (.cond 133 (.R [.blst 134 .S [],.m 135 5,.m 2 134,.m 3 135,.mv 4 (.i 1)] [2,3,4] .e) .k)) (.R [.m 136 7,.m 137 8,.m 2 136,.m 3 137,.mv 4 (.i 0)] [2,3,4] .e))
def Qm:AG:=(.R [.m 28 0,.cl 29 [28] bJ,.m 6 29] [5,6] (.R [.brow 30 37 .S [],.m 7 30] [5,6,7] (.R [.brow 31 72 AJ [],.m 8 31] [5,6,7,8] (.s (.R [.mv 9 (.i 0)] [5,6,7,8,9] (.b 0 [5,7,8] (.loop [5,6,7,8,9] Ql))) KA))))
def Ay:BL:=⟨[.val .str],[⟨2,false,(.slice .S)⟩,⟨3,false,(.slice AJ)⟩,⟨4,false,.W⟩],(.R [.mv 2 .z,.mv 3 .z,.mv 4 (.i 0)] [0] (.R [.blst 16 AJ [],.m 5 16] [0,5] (.s (.R [.m 17 0,.len 18 true 17,.bin 19 .gtr 18 (.i 4000),.m 20 19,.sc 20 false [.m 21 0,.cl 22 [21] bJ,.len 23 false 22,.bin 24 .gtr 23 (.i 100)] 25 .V 24] [0,5,25] (.cond 25 (.R [.blst 26 .S [],.m 27 5,.m 2 26,.m 3 27,.mv 4 (.c (.int .i64 (-1)))] [2,3,4] .e) .k)) Qm)))⟩
theorem mS:Aw Tryz.prog 9 Ay=true:=by kernel_rfl
def Ya:AG:=(.R [.m 18 5,.cl 19 [18] pL,.brow 20 5 (.int .u8) [19],.bts 21 20,.m 22 4,.b 23 .add 21 22,.m 4 23] [0,3,4] (.r [.m 24 0,.bin 25 .quo 24 (.i 10),.m 0 25] [0,3,4]))
def Yb:AG:=(.s (.R [.m 10 0,.bin 11 .neq 10 (.i 0)] [0,3,4,11] (.cond 11 .k (.exit 0))) (.b 1 [0,3,4] (.R [.m 12 0,.bin 13 .rem 12 (.i 10),.m 5 13] [0,3,4,5] (.seqc [0,3,4,5] (.R [.m 14 5,.bin 15 .lss 14 (.i 0)] [0,3,4,5,15] (.cond 15 (.r [.m 16 5,.un 17 .neg 16,.m 5 17] [0,3,4,5]) .k)) Ya))))
def Vn:AG:=(.s (.R [.m 26 3] [4,26] (.cond 26 (.R [.m 27 4,.bin 28 .add (.c (.str ⟨#[45]⟩)) 27,.m 2 28] [2] .e) .k)) (.R [.m 29 4,.m 2 29] [2] .e))
def Ds:BL:=⟨[.val .W],[⟨2,false,.str⟩],(.R [.mv 2 (.c (.str ⟨#[]⟩))] [0] (.s (.R [.m 6 0,.bin 7 .eql 6 (.i 0)] [0,7] (.cond 7 (.R [.mv 2 (.c (.str ⟨#[48]⟩))] [2] .e) .k)) (.R [.m 8 0,.bin 9 .lss 8 (.i 0),.m 3 9] [0,3] (.R [.mv 4 (.c (.str ⟨#[]⟩))] [0,3,4] (.s (.b 0 [3,4] (.loop [0,3,4] Yb)) Vn)))))⟩
theorem vI:Aw Tryz.prog 10 Ds=true:=by kernel_rfl
def Vo:AG:=(.R [.b 31 .lss 30 29] [1,4,7,28,29,30,31] (.s (.cond 31 .k (.exit 0)) (.s (.b 1 [1,4,7,28,29,30] (.R [.idx 32 6 28 30,.ls 33 32 6,.al 10 AJ,.store 10 33 6 false] [1,4,7,10,28,29,30] (.R [.ls 34 10 6,.cl 35 [34] eH,.un 36 .not 35] [1,4,7,28,29,30,36] (.cond 36 (.R [.build 37 [.nil,.nil,.nil,.nil] [],.store 4 37 4 false,.mv 5 .z,.mv 6 .F] [4,5,6] .e) .k)))) (.r [.bin 38 .add 30 (.i 1),.m 30 38] [1,4,7,28,29,30]))))
def Tj:AG:=(.R [.b 42 .lss 41 40] [4,7,11,39,40,41,42] (.s (.cond 42 .k (.exit 2)) (.s (.b 3 [4,7,11,39,40,41] (.R [.m 43 41,.idx 44 6 39 41,.ls 45 44 6,.al 13 AJ,.m 12 43,.store 13 45 6 false] [4,7,11,12,13,39,40,41] (.R [.ls 46 13 6,.m 47 12,.cl 48 [7,46,47] jm,.m 14 48] [4,7,11,14,39,40,41] (.r [.m 49 11,.m 50 14,.cl 51 [50] xo,.blst 52 .W [51],.app 53 3 .W 49 52,.m 11 53] [4,7,11,39,40,41])))) (.r [.bin 54 .add 41 (.i 1),.m 41 54] [4,7,11,39,40,41]))))
def Tk:AG:=(.R [.ls 55 7 4,.cl 56 [55] pM,.m 57 11,.store 4 56 4 false,.m 5 57,.mv 6 .V] [4,5,6] .e)
def MI:AG:=(.R [.nilrow 11 3 .W] [1,4,7,11] (.s (.R [.m 39 1,.len 40 false 39,.mv 41 (.i 0)] [4,7,11,39,40,41] (.b 2 [4,7,11] (.loop [4,7,11,39,40,41] Tj))) Tk))
def Tl:AG:=(.s (.R [.m 28 1,.len 29 false 28,.mv 30 (.i 0)] [1,4,7,28,29,30] (.b 0 [1,4,7] (.loop [1,4,7,28,29,30] Vo))) MI)
def BW:BL:=⟨[.val (.slice .S),.val (.slice AJ)],[⟨4,true,Af⟩,⟨5,false,.S⟩,⟨6,false,.bool⟩],(.R [.al 4 Al,.mv 5 .z,.mv 6 .F] [0,1,4] (.R [.m 16 0,.cl 17 [16] sK,.m 15 17,.ext 18 15 0,.ext 19 15 1,.al 7 Al,.store 7 18 4 false,.m 8 19] [1,4,7,8] (.s (.R [.m 20 8,.un 21 .not 20,.m 22 21,.sc 22 false [.m 23 1,.len 24 false 23,.bin 25 .gtr 24 (.i 70)] 26 .V 25] [1,4,7,26] (.cond 26 (.R [.build 27 [.nil,.nil,.nil,.nil] [],.store 4 27 4 false,.mv 5 .z,.mv 6 .F] [4,5,6] .e) .k)) Tl)))⟩
theorem sQ:Aw Tryz.prog 11 BW=true:=by kernel_rfl
def QO:BL:=⟨[.val .str,.val .str],[⟨4,false,.bool⟩],(.R [.mv 4 .F] [0,1] (.R [.m 5 0,.len 6 true 5,.m 7 1,.len 8 true 7,.b 9 .leq 6 8,.m 10 9,.sc 10 true [.m 11 1,.m 12 0,.len 13 true 12,.sl 14 0 11 none (some 13),.m 15 0,.b 16 .eql 14 15] 17 16 .F,.m 4 17] [4] .e))⟩
theorem xu:Aw Tryz.prog 12 QO=true:=by kernel_rfl
def Vp:AG:=(.s (.b 1 [1,4,7,8,9] (.r [.m 26 1,.len 27 false 26,.bin 28 .leq 27 (.i 70),.m 29 28,.sc 29 true [.m 30 1,.m 31 9,.idx 32 6 30 31,.ls 33 32 6,.cl 34 [33] eG] 35 34 .F,.m 8 35] [1,4,7,8,9])) (.r [.m 24 9,.bin 25 .add 24 (.i 1),.m 9 25] [1,4,7,8,9]))
def Vq:AG:=(.s (.R [.m 17 9,.m 18 1,.len 19 false 18,.b 20 .lss 17 19,.m 21 20,.sc 21 true [.m 22 8] 23 22 .F] [1,4,7,8,9,23] (.cond 23 .k (.exit 0))) Vp)
def Vr:AG:=(.s (.R [.m 41 11,.m 42 1,.len 43 false 42,.b 44 .lss 41 43] [1,4,7,10,11,44] (.cond 44 .k (.exit 2))) (.s (.b 3 [1,4,7,10,11] (.r [.m 47 10,.m 48 11,.m 49 1,.m 50 11,.idx 51 6 49 50,.ls 52 51 6,.cl 53 [7,48,52] mM,.blst 54 .W [53],.app 55 3 .W 47 54,.m 10 55] [1,4,7,10,11])) (.r [.m 45 11,.bin 46 .add 45 (.i 1),.m 11 46] [1,4,7,10,11])))
def Tm:AG:=(.R [.ls 56 7 4,.cl 57 [56] uy,.m 58 10,.store 4 57 4 false,.m 5 58,.mv 6 .V] [4,5,6] .e)
def MJ:AG:=(.s (.R [.m 36 8,.un 37 .not 36] [1,4,7,37] (.cond 37 (.R [.bu 38 Af [],.blst 39 .W [],.store 4 38 4 false,.m 5 39,.mv 6 .F] [4,5,6] .e) .k)) (.R [.brow 40 3 .W [],.m 10 40] [1,4,7,10] (.s (.R [.mv 11 (.i 0)] [1,4,7,10,11] (.b 2 [4,7,10] (.loop [1,4,7,10,11] Vr))) Tm)))
def Bb:BL:=⟨[.val (.slice .S),.val (.slice AJ)],[⟨4,true,Af⟩,⟨5,false,.S⟩,⟨6,false,.bool⟩],(.R [.al 4 Af,.mv 5 .z,.mv 6 .F] [0,1,4] (.R [.m 13 0,.cl 14 [13] bK,.m 12 14,.ext 15 12 0,.ext 16 12 1,.al 7 Af,.store 7 15 4 false,.m 8 16] [1,4,7,8] (.s (.R [.mv 9 (.i 0)] [1,4,7,8,9] (.b 0 [1,4,7,8] (.loop [1,4,7,8,9] Vq))) MJ)))⟩
theorem sR:Aw Tryz.prog 13 Bb=true:=by kernel_rfl
def R5:AG:=(.R [.b 34 .lss 33 32] [6,31,32,33,34] (.s (.cond 34 .k (.exit 0)) (.s (.b 1 [6,31,32,33] (.R [.m 35 33,.idx 36 1 31 33,.l 37 36,.m 7 35,.m 8 37] [6,7,8,31,32,33] (.R [.m 38 8,.cl 39 [6,38] jn,.un 40 .not 39] [6,7,31,32,33,40] (.cond 40 (.R [.m 41 7,.bin 42 .add 41 (.i 1),.mv 2 .z,.mv 3 .z,.m 4 42] [2,3,4] .e) .k)))) (.r [.bin 43 .add 33 (.i 1),.m 33 43] [6,31,32,33]))))
def KB:AG:=(.s (.R [.f 44 6 0,.l 45 44,.len 46 false 45,.bin 47 .eql 46 (.i 0)] [6,47] (.cond 47 (.R [.mv 2 .z,.mv 3 .z,.mv 4 (.i 1)] [2,3,4] .e) .k)) (.s (.D 7 [(2,[]),(4,[1]),(5,[3,4])] (.tk 7 [.mv 4 (.i 0),.m 3 51,.m 2 49,.l 51 50,.f 50 6 1,.l 49 48,.f 48 6 0] .z) [2,3,4]) .e))
def Qn:AG:=(.R [.al 6 NU] [5,6] (.s (.R [.m 31 5,.len 32 false 31,.mv 33 (.i 0)] [6,31,32,33] (.b 0 [6] (.loop [6,31,32,33] R5))) KB))
def Qo:AG:=(.s (.R [.m 23 0,.len 24 true 23,.bin 25 .gtr 24 (.i 4000),.m 26 25,.sc 26 false [.m 27 5,.len 28 false 27,.bin 29 .gtr 28 (.i 100)] 30 .V 29] [5,30] (.cond 30 (.R [.mv 2 .z,.mv 3 .z,.mv 4 (.c (.int .i64 (-1)))] [2,3,4] .e) .k)) Qn)
def BQ:BL:=⟨[.val .str],[⟨2,false,(.slice .S)⟩,⟨3,false,(.slice AJ)⟩,⟨4,false,.W⟩],(.R [.mv 2 .z,.mv 3 .z,.mv 4 (.i 0)] [0] (.R [.m 9 0,.cx (some 10) [9,.c (.str ⟨#[10]⟩)] Rc,.m 5 10] [0,5] (.seqc [0,5] (.R [.m 11 5,.m 12 5,.len 13 false 12,.bin 14 .sub 13 (.i 1),.idx 15 1 11 14,.l 16 15,.bin 17 .eql 16 (.c (.str ⟨#[]⟩))] [0,5,17] (.cond 17 (.r [.m 18 5,.m 19 5,.len 20 false 19,.bin 21 .sub 20 (.i 1),.sl 22 1 18 none (some 21),.m 5 22] [0,5]) .k)) Qo)))⟩
theorem mT:Aw Tryz.prog 14 BQ=true:=by kernel_rfl
def Nj:BL:=⟨[.val .W],[⟨2,false,.str⟩],(.R [.mv 2 (.c (.str ⟨#[]⟩))] [0] (.R [.m 3 0,.cl 4 [3] uz,.m 2 4] [2] .e))⟩
theorem vJ:Aw Tryz.prog 15 Nj=true:=by kernel_rfl
def QP:BL:=⟨[.val A_],[⟨2,false,.bool⟩],(.R [.box 1 0 false,.mv 2 .F] [1] (.R [.f 3 1 4,.l 4 3,.bin 5 .geq 4 (.i 0),.m 2 5] [2] .e))⟩
theorem xv:Aw Tryz.prog 18 QP=true:=by kernel_rfl
def Lt:BL:=⟨[.val A_],[⟨2,false,.str⟩],(.R [.box 1 0 false,.mv 2 (.c (.str ⟨#[]⟩))] [1] (.s (.R [.f 3 1 0,.l 4 3,.bin 5 .eql 4 (.i 1)] [1,5] (.cond 5 (.R [.f 6 1 1,.l 7 6,.bin 8 .add (.c (.str ⟨#[112,117,116,32]⟩)) 7,.bin 9 .add 8 (.c (.str ⟨#[10]⟩)),.m 2 9] [2] .e) .k)) (.R [.f 10 1 1,.l 11 10,.bin 12 .add (.c (.str ⟨#[103,101,116,32]⟩)) 11,.bin 13 .add 12 (.c (.str ⟨#[32]⟩)),.f 14 1 8,.l 15 14,.b 16 .add 13 15,.bin 17 .add 16 (.c (.str ⟨#[10]⟩)),.m 2 17] [2] .e)))⟩
theorem sS:Aw Tryz.prog 19 Lt=true:=by kernel_rfl
def Tn:AG:=(.r [.m 39 6,.f 40 5 0,.l 41 40,.m 42 7,.idx 43 1 41 42,.l 44 43,.m 45 8,.idx 46 1 44 45,.l 47 46,.cl 48 [47] Ct,.b 49 .add 39 48,.m 6 49] [0,5,6,7,8])
def To:AG:=(.r [.m 33 8,.bin 34 .add 33 (.i 1),.m 8 34] [0,5,6,7,8])
def Tp:AG:=(.s (.R [.m 25 8,.f 26 5 0,.l 27 26,.m 28 7,.idx 29 1 27 28,.l 30 29,.len 31 false 30,.b 32 .lss 25 31] [0,5,6,7,8,32] (.cond 32 .k (.exit 2))) (.s (.b 3 [0,5,6,7,8] (.seqc [0,5,6,7,8] (.R [.m 35 8,.bin 36 .gtr 35 (.i 0)] [0,5,6,7,8,36] (.cond 36 (.r [.m 37 6,.bin 38 .add 37 (.c (.str ⟨#[44]⟩)),.m 6 38] [0,5,6,7,8]) .k)) Tn)) To))
def Tq:AG:=(.r [.m 50 6,.bin 51 .add 50 (.c (.str ⟨#[10]⟩)),.m 6 51] [0,5,6,7])
def R6:AG:=(.r [.m 21 7,.bin 22 .add 21 (.i 1),.m 7 22] [0,5,6,7])
def R7:AG:=(.s (.R [.m 16 7,.f 17 5 0,.l 18 17,.len 19 false 18,.b 20 .lss 16 19] [0,5,6,7,20] (.cond 20 .k (.exit 0))) (.s (.b 1 [0,5,6,7] (.R [.m 23 6,.bin 24 .add 23 (.c (.str ⟨#[118,105,101,119,32]⟩)),.m 6 24] [0,5,6,7] (.s (.R [.mv 8 (.i 0)] [0,5,6,7,8] (.b 2 [0,5,6,7] (.loop [0,5,6,7,8] Tp))) Tq))) R6))
def R8:AG:=(.R [.f 66 5 1,.l 67 66,.m 68 9,.idx 69 6 67 68,.ls 70 69 6,.cl 71 [70] u7,.m 10 71] [0,5,6,9,10] (.seqc [0,5,6,9,10] (.R [.m 72 0,.cx (some 73) [72,.c (.int .i64 120)] Hn] [0,5,6,9,10,73] (.cond 73 (.r [.m 74 0,.blst 75 .str [.c (.str ⟨#[112,117,116,32,49,32,97]⟩),.c (.str ⟨#[112,117,116,32,120,32,97,32,98]⟩),.c (.str ⟨#[118,105,101,119,32,49]⟩),.c (.str ⟨#[103,101,116,32,57,32,97]⟩),.c (.str ⟨#[102,97,108,108]⟩),.c (.str ⟨#[119,104,97,116]⟩),.c (.str ⟨#[7]⟩),.c (.str ⟨#[100,101,108,105,118,101,114,32,49,32,50]⟩),.c (.str ⟨#[118,105,101,119,32,49,44,44,50]⟩)],.cl 76 [74,75] J8,.m 10 76] [0,5,6,9,10]) .k)) (.r [.m 77 6,.m 78 10,.b 79 .add 77 78,.bin 80 .add 79 (.c (.str ⟨#[10]⟩)),.m 6 80] [0,5,6,9])))
def R9:AG:=(.r [.m 57 9,.bin 58 .add 57 (.i 1),.m 9 58] [0,5,6,9])
def R_:AG:=(.s (.R [.m 52 9,.f 53 5 1,.l 54 53,.len 55 false 54,.b 56 .lss 52 55] [0,5,6,9,56] (.cond 56 .k (.exit 4))) (.s (.b 5 [0,5,6,9] (.seqc [0,5,6,9] (.R [.m 59 0,.cx (some 60) [59,.c (.int .i64 16)] Hn] [0,5,6,9,60] (.cond 60 (.r [.m 61 6,.m 62 0,.brow 63 9 .str [.c (.str ⟨#[10]⟩),.c (.str ⟨#[32,32,10]⟩),.c (.str ⟨#[35,32,97,32,119,111,114,100,10]⟩),.c (.str ⟨#[32,32,35,32,98,10]⟩)],.cl 64 [62,63] J8,.b 65 .add 61 64,.m 6 65] [0,5,6,9]) .k)) R8)) R9))
def SA:AG:=(.s (.R [.m 101 11,.bin 102 .lss 101 (.i 70)] [6,11,102] (.cond 102 .k (.exit 7))) (.s (.b 8 [6,11] (.r [.m 105 6,.bin 106 .add 105 (.c (.str ⟨#[102,97,108,108,32,49,10]⟩)),.m 6 106] [6,11])) (.r [.m 103 11,.bin 104 .add 103 (.i 1),.m 11 104] [6,11])))
def SB:AG:=(.s (.R [.m 109 12,.bin 110 .lss 109 (.i 100)] [6,12,110] (.cond 110 .k (.exit 9))) (.s (.b 10 [6,12] (.r [.m 113 6,.bin 114 .add 113 (.c (.str ⟨#[10]⟩)),.m 6 114] [6,12])) (.r [.m 111 12,.bin 112 .add 111 (.i 1),.m 12 112] [6,12])))
def SC:AG:=(.R [.m 131 6,.m 4 131] [4] .e)
def K3:AG:=(.s (.R [.m 81 0,.cx (some 82) [81,.c (.int .i64 30)] C0] [0,6,82] (.b 6 [6] (.R [.bin 84 .eql 82 (.i 0),.m 83 84] [0,6,82,83] (.cond 83 (.r [.m 85 6,.bin 86 .add (.c (.str ⟨#[35,32,102,105,114,115,116,10]⟩)) 85,.m 6 86] [6]) (.R [.bin 88 .eql 82 (.i 1),.m 87 88] [0,6,82,87] (.cond 87 (.r [.m 89 0,.blst 90 .str [.c (.str ⟨#[]⟩),.c (.str ⟨#[10]⟩),.c (.str ⟨#[35]⟩),.c (.str ⟨#[118,105,101,119,32,48,10]⟩),.c (.str ⟨#[118,105,101,119,32,49,44,49,10]⟩),.c (.str ⟨#[118,105,101,119,10]⟩),.c (.str ⟨#[103,101,116,32,49,32,97,10]⟩),.c (.str ⟨#[118,105,101,119,32,49]⟩),.c (.str ⟨#[118,105,101,119,32,48,49,10]⟩)],.cl 91 [89,90] J8,.m 6 91] [6]) (.R [.bin 93 .eql 82 (.i 2),.m 92 93] [0,6,82,92] (.cond 92 (.r [.m 94 6,.m 95 6,.len 96 true 95,.bin 97 .sub 96 (.i 1),.sl 98 0 94 none (some 97),.m 6 98] [6]) (.R [.bin 100 .eql 82 (.i 3),.m 99 100] [0,6,82,99] (.cond 99 (.R [.mv 11 (.i 0)] [6,11] (.b 7 [6] (.loop [6,11] SA))) (.R [.bin 108 .eql 82 (.i 4),.m 107 108] [0,6,82,107] (.cond 107 (.R [.mv 12 (.i 0)] [6,12] (.b 9 [6] (.loop [6,12] SB))) (.R [.bin 116 .eql 82 (.i 5),.m 115 116] [0,6,115] (.cond 115 (.R [.m 117 6,.len 118 true 117,.bin 119 .lss 118 (.i 4000)] [0,6,119] (.cond 119 (.r [.m 120 6,.bin 121 .add 120 (.c (.str ⟨#[35]⟩)),.m 122 6,.len 123 true 122,.bin 124 .sub (.i 4000) 123,.bin 125 .sub 124 (.i 1),.m 126 0,.cx (some 127) [126,.c (.int .i64 2)] C0,.b 128 .add 125 127,.cx (some 129) [128,.c (.int .u8 32)] u_,.b 130 .add 121 129,.m 6 130] [6]) .k)) .k)))))))))))))) SC)
def K4:AG:=(.s (.R [.mv 9 (.i 0)] [0,5,6,9] (.b 4 [0,6] (.loop [0,5,6,9] R_))) K3)
def AY:BL:=⟨[.ptr Ao,.val (.slice (.int .u8))],[⟨4,false,.str⟩],(.R [.mv 4 (.c (.str ⟨#[]⟩))] [0,1] (.R [.m 13 0,.m 14 1,.cl 15 [13,14] u6,.al 5 jk,.store 5 15 2 false] [0,5] (.R [.mv 6 (.c (.str ⟨#[]⟩))] [0,5,6] (.s (.R [.mv 7 (.i 0)] [0,5,6,7] (.b 0 [0,5,6] (.loop [0,5,6,7] R7))) K4))))⟩
theorem pQ:Aw Tryz.prog 21 AY=true:=by kernel_rfl
def bM:AG:=(.s (.b 1 [0,3,4] (.r [.m 18 3,.bin 19 .mul 18 (.i 131),.m 20 0,.m 21 4,.idx 22 1 20 21,.l 23 22,.cvi 24 .i64 23,.b 25 .add 19 24,.bin 26 .add 25 (.i 7),.bin 27 .and 26 (.i 1073741823),.m 3 27] [0,3,4])) (.r [.m 16 4,.bin 17 .add 16 (.i 1),.m 4 17] [0,3,4]))
def bN:AG:=(.s (.R [.m 8 4,.m 9 0,.len 10 false 9,.b 11 .lss 8 10,.m 12 11,.sc 12 true [.m 13 4,.bin 14 .lss 13 (.i 4000)] 15 14 .F] [0,3,4,15] (.cond 15 .k (.exit 0))) bM)
def bO:AG:=(.R [.m 28 0,.m 29 3,.bu 30 Ao [(0,1,28),(2,1,29)],.box 31 30 false,.m 2 31] [2] .e)
def Ea:BL:=⟨[.val (.slice (.int .u8))],[⟨2,false,(.ref Ao)⟩],(.R [.mv 2 (.c (.undef))] [0] (.R [.m 5 0,.len 6 false 5,.bin 7 .add (.i 14301) 6,.m 3 7] [0,3] (.s (.R [.mv 4 (.i 0)] [0,3,4] (.b 0 [0,3] (.loop [0,3,4] bN))) bO)))⟩
theorem xw:Aw Tryz.prog 22 Ea=true:=by kernel_rfl
def Vs:AG:=(.s (.R [.m 7 5,.m 8 0,.len 9 true 8,.b 10 .lss 7 9] [0,3,4,5,10] (.cond 10 .k (.exit 0))) (.s (.b 1 [0,3,4,5] (.R [.m 13 0,.m 14 5,.sidx 15 13 14,.bin 16 .eql 15 (.c (.int .u8 10))] [0,3,4,5,16] (.cond 16 (.R [.m 17 3,.m 18 0,.m 19 4,.m 20 5,.sl 21 0 18 (some 19) (some 20),.blst 22 .str [21],.app 23 9 .str 17 22,.m 3 23] [0,3,5] (.r [.m 24 5,.bin 25 .add 24 (.i 1),.m 4 25] [0,3,4,5])) .k))) (.r [.m 11 5,.bin 12 .add 11 (.i 1),.m 5 12] [0,3,4,5])))
def Nk:AG:=(.seqc [3] (.R [.m 26 4,.m 27 0,.len 28 true 27,.b 29 .lss 26 28] [0,3,4,29] (.cond 29 (.r [.m 30 3,.m 31 0,.m 32 4,.sl 33 0 31 (some 32) none,.blst 34 .str [33],.app 35 9 .str 30 34,.m 3 35] [3]) .k)) (.R [.m 36 3,.m 2 36] [2] .e))
def C1:BL:=⟨[.val .str],[⟨2,false,(.slice .str)⟩],(.R [.mv 2 .z] [0] (.R [.brow 6 9 .str [],.m 3 6] [0,3] (.R [.mv 4 (.i 0)] [0,3,4] (.s (.R [.mv 5 (.i 0)] [0,3,4,5] (.b 0 [0,3,4] (.loop [0,3,4,5] Vs))) Nk))))⟩
theorem sU:Aw Tryz.prog 23 C1=true:=by kernel_rfl
def Yc:AG:=(.seqc [0,4,6] (.R [.m 45 5,.m 46 6,.b 47 .lss 45 46] [0,4,5,6,47] (.cond 47 (.r [.m 48 4,.m 49 0,.m 50 5,.m 51 6,.sl 52 0 49 (some 50) (some 51),.blst 53 .str [52],.app 54 9 .str 48 53,.m 4 54] [0,4,6]) .k)) (.r [.m 55 6,.bin 56 .add 55 (.i 1),.m 5 56] [0,4,5,6]))
def Yd:AG:=(.s (.R [.m 35 6,.m 36 0,.len 37 true 36,.b 38 .lss 35 37,.m 39 38,.sc 39 true [.m 40 0,.m 41 6,.sidx 42 40 41,.bin 43 .neq 42 (.c (.int .u8 32))] 44 43 .F] [0,4,5,6,44] (.cond 44 (.exit 1) .k)) Yc)
def Ye:AG:=(.r [.m 16 6,.bin 17 .add 16 (.i 1),.m 6 17] [0,4,5,6])
def Vt:AG:=(.s (.R [.m 12 6,.m 13 0,.len 14 true 13,.b 15 .leq 12 14] [0,4,5,6,15] (.cond 15 .k (.exit 0))) (.s (.b 1 [0,4,5,6] (.s (.R [.m 18 6,.m 19 0,.len 20 true 19,.b 21 .lss 18 20,.m 22 21,.sc 22 true [.m 23 0,.m 24 6,.sidx 25 23 24,.bin 26 .lss 25 (.c (.int .u8 32)),.m 27 26,.sc 27 false [.m 28 0,.m 29 6,.sidx 30 28 29,.bin 31 .gtr 30 (.c (.int .u8 126))] 32 .V 31] 33 32 .F] [0,4,5,6,33] (.cond 33 (.R [.blst 34 .str [],.m 2 34,.mv 3 .F] [2,3] .e) .k)) Yd)) Ye))
def Nl:AG:=(.s (.R [.m 57 4,.len 58 false 57,.bin 59 .gtr 58 (.i 10)] [4,59] (.cond 59 (.R [.blst 60 .str [],.m 2 60,.mv 3 .F] [2,3] .e) .k)) (.R [.m 61 4,.m 2 61,.mv 3 .V] [2,3] .e))
def CN:BL:=⟨[.val .str],[⟨2,false,(.slice .str)⟩,⟨3,false,.bool⟩],(.R [.mv 2 .z,.mv 3 .F] [0] (.R [.brow 7 9 .str [],.m 4 7] [0,4] (.s (.R [.m 8 0,.len 9 true 8,.bin 10 .gtr 9 (.i 600)] [0,4,10] (.cond 10 (.R [.m 11 4,.m 2 11,.mv 3 .F] [2,3] .e) .k)) (.R [.mv 5 (.i 0)] [0,4,5] (.s (.R [.mv 6 (.i 0)] [0,4,5,6] (.b 0 [4] (.loop [0,4,5,6] Vt))) Nl)))))⟩
theorem vK:Aw Tryz.prog 24 CN=true:=by kernel_rfl
def Tr:AG:=(.R [.m 27 0,.m 28 5,.m 29 6,.sl 30 0 27 (some 28) (some 29),.cl 31 [30] IS,.m 26 31,.ext 32 26 0,.ext 33 26 1,.m 7 32,.m 8 33] [0,4,6,7,8] (.s (.R [.m 34 8,.un 35 .not 34] [0,4,6,7,35] (.cond 35 (.R [.blst 36 .W [],.m 2 36,.mv 3 .F] [2,3] .e) .k)) (.R [.m 37 4,.m 38 7,.blst 39 .W [38],.app 40 3 .W 37 39,.m 4 40] [0,4,6] (.r [.m 41 6,.bin 42 .add 41 (.i 1),.m 5 42] [0,4,5,6]))))
def Ts:AG:=(.r [.m 14 6,.bin 15 .add 14 (.i 1),.m 6 15] [0,4,5,6])
def Tt:AG:=(.s (.R [.m 10 6,.m 11 0,.len 12 true 11,.b 13 .leq 10 12] [0,4,5,6,13] (.cond 13 .k (.exit 0))) (.s (.b 1 [0,4,5,6] (.s (.R [.m 16 6,.m 17 0,.len 18 true 17,.b 19 .lss 16 18,.m 20 19,.sc 20 true [.m 21 0,.m 22 6,.sidx 23 21 22,.bin 24 .neq 23 (.c (.int .u8 44))] 25 24 .F] [0,4,5,6,25] (.cond 25 (.exit 1) .k)) Tr)) Ts))
def SD:AG:=(.R [.m 43 4,.m 2 43,.mv 3 .V] [2,3] .e)
def Cg:BL:=⟨[.val .str],[⟨2,false,.S⟩,⟨3,false,.bool⟩],(.R [.mv 2 .z,.mv 3 .F] [0] (.R [.brow 9 3 .W [],.m 4 9] [0,4] (.R [.mv 5 (.i 0)] [0,4,5] (.s (.R [.mv 6 (.i 0)] [0,4,5,6] (.b 0 [4] (.loop [0,4,5,6] Tt))) SD))))⟩
theorem pR:Aw Tryz.prog 25 Cg=true:=by kernel_rfl
def Yf:AG:=(.s (.R [.m 4 3,.m 5 0,.len 6 false 5,.b 7 .lss 4 6] [0,3,7] (.cond 7 .k (.exit 0))) (.s (.b 1 [0,3] (.R [.m 10 0,.m 11 3,.idx 12 1 10 11,.l 13 12,.cl 14 [13] vA,.un 15 .not 14] [0,3,15] (.cond 15 (.R [.mv 2 .F] [2] .e) .k))) (.r [.m 8 3,.bin 9 .add 8 (.i 1),.m 3 9] [0,3])))
def Yg:AG:=(.R [.m 16 0,.len 17 false 16,.cx (some 18) [17,.c (.int .i64 1),.c (.int .i64 9)] BD,.m 2 18] [2] .e)
def Ei:BL:=⟨[.val (.slice .S)],[⟨2,false,.bool⟩],(.R [.mv 2 .F] [0] (.s (.R [.mv 3 (.i 0)] [0,3] (.b 0 [0] (.loop [0,3] Yf))) Yg))⟩
theorem vL:Aw Tryz.prog 26 Ei=true:=by kernel_rfl
def Vu:AG:=(.cond 21 (.R [.m 23 0,.idx 24 1 23 (.i 1),.l 25 24,.cl 26 [25] IS,.m 22 26,.ext 27 22 0,.ext 28 22 1,.m 4 27,.m 5 28] [0,2,4,5] (.s (.D 11 [(1,[]),(4,[]),(7,[0,3,6]),(8,[]),(9,[7]),(10,[8,9])] (.tk 9 [.m 37 5,.bu 36 AJ [(0,1,.c (.int .i64 1)),(1,1,29),(3,1,.c (.int .i64 1)),(4,1,32),(5,1,35)],.l 35 34,.idx 34 1 33 (.i 3),.m 33 0,.l 32 31,.idx 31 1 30 (.i 2),.m 30 0,.m 29 4] (.O 9 (.store 2 36 6 false) false [] (.tk 11 [.m 3 37] .z))) [2,3]) .e)) .k)
def Vv:AG:=(.cond 46 (.R [.m 48 0,.idx 49 1 48 (.i 1),.l 50 49,.cl 51 [50] IS,.m 47 51,.ext 52 47 0,.ext 53 47 1,.m 6 52,.m 7 53] [0,2,6,7] (.R [.m 54 6,.m 55 0,.idx 56 1 55 (.i 2),.l 57 56,.bu 58 AJ [(0,1,.c (.int .i64 1)),(1,1,54),(3,1,.c (.int .i64 2)),(4,1,57)],.m 59 7,.store 2 58 6 false,.m 3 59] [2,3] .e)) .k)
def Tu:AG:=(.R [.m 81 0,.idx 82 1 81 (.i 1),.l 83 82,.cl 84 [83] IS,.m 80 84,.ext 85 80 0,.ext 86 80 1,.m 10 85,.m 11 86] [2,9,10,11] (.R [.m 87 9,.bin 88 .add (.i 2) 87,.bu 89 AJ [(0,1,88),(1,1,.c (.int .i64 1))],.al 12 AJ,.store 12 89 6 false] [2,10,11,12] (.seqc [2,11,12] (.R [.f 90 12 0,.l 91 90,.bin 92 .leq 91 (.i 4)] [2,10,11,12,92] (.cond 92 (.r [.m 93 10,.f 94 12 2,.store 94 93 1 false] [2,11,12]) (.r [.m 95 10,.f 96 12 1,.store 96 95 1 false] [2,11,12]))) (.R [.ls 97 12 6,.m 98 11,.store 2 97 6 false,.m 3 98] [2,3] .e))))
def Tv:AG:=(.r [.m 65 9,.bin 66 .add 65 (.i 1),.m 9 66] [0,2,8,9])
def Tw:AG:=(.s (.R [.m 61 9,.m 62 8,.len 63 false 62,.b 64 .lss 61 63] [0,2,8,9,64] (.cond 64 .k (.exit 0))) (.s (.b 1 [0,2,8,9] (.s (.s (.D 13 [(1,[]),(2,[0,1]),(4,[]),(7,[3,6])] (.tk 9 [.m 75 74,.b 74 .neq 70 73,.l 73 72,.idx 72 1 71 (.i 0),.m 71 0,.l 70 69,.idx 69 1 67 68,.m 68 9,.m 67 8] (.test 75 (.sk 75 false 3 12 79 (.tk 13 [.pick 79 75 .V 78] .z)) (.tg 75 false 12 [.bin 78 .neq 77 (.i 2),.len 77 false 76,.m 76 0] (.tk 13 [.pick 79 75 .V 78] .z)))) [0,2,8,9,79]) (.cond 79 (.exit 1) .k)) Tu)) Tv))
def Tx:AG:=(.R [.bu 99 AJ [],.store 2 99 6 false,.mv 3 .F] [2,3] .e)
def Ty:AG:=(.R [.brow 60 9 .str [.c (.str ⟨#[100,101,108,105,118,101,114]⟩),.c (.str ⟨#[100,114,111,112]⟩),.c (.str ⟨#[99,111,112,121]⟩),.c (.str ⟨#[97,100,111,112,116]⟩),.c (.str ⟨#[102,97,108,108]⟩)],.m 8 60] [0,2,8] (.s (.R [.mv 9 (.i 0)] [0,2,8,9] (.b 0 [2] (.loop [0,2,8,9] Tw))) Tx))
def MK:AG:=(.s (.R [.m 38 0,.idx 39 1 38 (.i 0),.l 40 39,.bin 41 .eql 40 (.c (.str ⟨#[103,101,116]⟩)),.m 42 41,.sc 42 true [.m 43 0,.len 44 false 43,.bin 45 .eql 44 (.i 3)] 46 45 .F] [0,2,46] Vv) Ty)
def BE:BL:=⟨[.val (.slice .str)],[⟨2,true,AJ⟩,⟨3,false,.bool⟩],(.R [.al 2 AJ,.mv 3 .F] [0,2] (.s (.R [.m 13 0,.idx 14 1 13 (.i 0),.l 15 14,.bin 16 .eql 15 (.c (.str ⟨#[112,117,116]⟩)),.m 17 16,.sc 17 true [.m 18 0,.len 19 false 18,.bin 20 .eql 19 (.i 4)] 21 20 .F] [0,2,21] Vu) MK))⟩
theorem sV:Aw Tryz.prog 27 BE=true:=by kernel_rfl
def Yh:AG:=(.s (.R [.f 18 1 0,.l 19 18,.bin 20 .neq 19 (.i 1)] [1,20] (.cond 20 (.R [.f 21 1 3,.l 22 21,.bin 23 .eql 22 (.i 0),.m 24 23,.sc 24 true [.f 25 1 4,.l 26 25,.bin 27 .eql 26 (.c (.str ⟨#[]⟩))] 28 27 .F,.m 29 28,.sc 29 true [.f 30 1 5,.l 31 30,.bin 32 .eql 31 (.c (.str ⟨#[]⟩))] 33 32 .F,.m 2 33] [2] .e) .k)) (.R [.f 34 1 3,.l 35 34,.bin 36 .eql 35 (.i 1),.m 37 36,.sc 37 false [.f 38 1 3,.l 39 38,.bin 40 .eql 39 (.i 2)] 41 .V 40,.m 42 41,.sc 42 true [.f 43 1 4,.l 44 43,.len 45 true 44,.cx (some 46) [45,.c (.int .i64 1),.c (.int .i64 12)] BD] 47 46 .F,.m 48 47,.sc 48 true [.f 49 1 5,.l 50 49,.len 51 true 50,.bin 52 .leq 51 (.i 20)] 53 52 .F,.m 54 53,.sc 54 true [.f 55 1 3,.l 56 55,.bin 57 .eql 56 (.i 1),.m 58 57,.sc 58 false [.f 59 1 5,.l 60 59,.bin 61 .eql 60 (.c (.str ⟨#[]⟩))] 62 .V 61] 63 62 .F,.m 2 63] [2] .e))
def Hq:BL:=⟨[.val AJ],[⟨2,false,.bool⟩],(.R [.box 1 0 false,.mv 2 .F] [1] (.s (.R [.f 3 1 0,.l 4 3,.cx (some 5) [4,.c (.int .i64 1),.c (.int .i64 6)] BD,.un 6 .not 5,.m 7 6,.sc 7 false [.f 8 1 1,.l 9 8,.cx (some 10) [9,.c (.int .i64 1),.c (.int .i64 6)] BD,.un 11 .not 10] 12 .V 11,.m 13 12,.sc 13 false [.f 14 1 2,.l 15 14,.bin 16 .lss 15 (.i 0)] 17 .V 16] [1,17] (.cond 17 (.R [.mv 2 .F] [2] .e) .k)) Yh))⟩
theorem vM:Aw Tryz.prog 28 Hq=true:=by kernel_rfl
def Kc:BL:=⟨[.val .W],[⟨2,false,(.int .u8)⟩],(.R [.mv 2 (.c (.int .u8 0))] [0] (.s (.R [.m 3 0,.bin 4 .lss 3 (.i 10)] [0,4] (.cond 4 (.R [.m 5 0,.bin 6 .add (.i 48) 5,.cvi 7 .u8 6,.m 2 7] [2] .e) .k)) (.R [.m 8 0,.bin 9 .add (.i 97) 8,.bin 10 .sub 9 (.i 10),.cvi 11 .u8 10,.m 2 11] [2] .e)))⟩
theorem pS:Aw Tryz.prog 29 Kc=true:=by kernel_rfl
def Vw:AG:=(.s (.R [.m 15 5,.bin 16 .leq 15 (.i 6)] [0,2,4,5,16] (.cond 16 .k (.exit 0))) (.s (.b 1 [0,2,4,5] (.R [.m 20 5,.m 21 0,.cl 22 [20,21] pN,.m 19 22,.ext 23 19 0,.ext 24 19 1,.al 6 Z,.store 6 23 16 false,.m 7 24] [0,2,4,5,6] (.r [.f 25 4 1,.l 26 25,.ls 27 6 16,.blst 28 Z [27],.app 29 49 Z 26 28,.f 30 4 1,.store 30 29 1 false] [0,2,4,5]))) (.r [.m 17 5,.bin 18 .add 17 (.i 1),.m 5 18] [0,2,4,5])))
def Vx:AG:=(.R [.ls 31 4 4,.store 2 31 4 false,.mv 3 .V] [2,3] .e)
def D9:BL:=⟨[.val (.slice .S)],[⟨2,true,Al⟩,⟨3,false,.bool⟩],(.R [.al 2 Al,.mv 3 .F] [0,2] (.s (.R [.m 8 0,.cl 9 [8] Ho,.un 10 .not 9] [0,2,10] (.cond 10 (.R [.build 11 [.nil,.nil,.nil,.nil] [],.store 2 11 4 false,.mv 3 .F] [2,3] .e) .k)) (.R [.m 12 0,.cl 13 [12] YV,.build 14 [.nil,.nil,.nil,.nil] [(0,1,13)],.al 4 Al,.store 4 14 4 false] [0,2,4] (.s (.R [.mv 5 (.i 1)] [0,2,4,5] (.b 0 [2,4] (.loop [0,2,4,5] Vw))) Vx))))⟩
theorem sW:Aw Tryz.prog 30 D9=true:=by kernel_rfl
def Yi:AG:=(.s (.R [.f 18 1 0,.l 19 18,.bin 20 .eql 19 (.i 1)] [1,20] (.cond 20 (.R [.f 21 1 3,.l 22 21,.f 23 1 4,.l 24 23,.f 25 1 5,.l 26 25,.cx (some 27) [22,.c (.int .i64 0),24,26] mN,.m 2 27] [2] .e) .k)) (.R [.f 28 1 3,.l 29 28,.bin 30 .eql 29 (.i 0),.m 31 30,.sc 31 true [.f 32 1 4,.l 33 32,.bin 34 .eql 33 (.c (.str ⟨#[]⟩))] 35 34 .F,.m 36 35,.sc 36 true [.f 37 1 5,.l 38 37,.bin 39 .eql 38 (.c (.str ⟨#[]⟩))] 40 39 .F,.m 2 40] [2] .e))
def Hr:BL:=⟨[.val AJ],[⟨2,false,.bool⟩],(.R [.box 1 0 false,.mv 2 .F] [1] (.s (.R [.f 3 1 0,.l 4 3,.cx (some 5) [4,.c (.int .i64 1),.c (.int .i64 6)] BH,.un 6 .not 5,.m 7 6,.sc 7 false [.f 8 1 1,.l 9 8,.cl 10 [9] I2,.un 11 .not 10] 12 .V 11,.m 13 12,.sc 13 false [.f 14 1 2,.l 15 14,.bin 16 .lss 15 (.i 0)] 17 .V 16] [1,17] (.cond 17 (.R [.mv 2 .F] [2] .e) .k)) Yi))⟩
theorem vN:Aw Tryz.prog 31 Hr=true:=by kernel_rfl
def IV:BL:=⟨[.ptr Al,.val AJ,.val .W],[⟨6,false,.bool⟩],(.R [.box 4 1 false,.mv 6 .F] [0,2,4] (.s (.R [.f 8 4 0,.l 9 8] [0,2,4,9] (.b 0 [0,2,4] (.R [.bin 11 .eql 9 (.i 1),.m 10 11] [0,2,4,9,10] (.cond 10 (.R [.m 12 0,.ls 13 4 6,.m 14 2,.cl 15 [12,13,14] jo,.m 6 15] [6] .e) (.R [.bin 17 .eql 9 (.i 5),.m 16 17] [0,2,4,9,16] (.cond 16 (.R [.m 18 0,.ls 19 4 6,.m 20 2,.cl 21 [18,19,20] jp,.m 6 21] [6] .e) (.R [.bin 23 .eql 9 (.i 6),.m 22 23] [0,2,4,22] (.cond 22 (.R [.m 24 0,.f 25 4 1,.l 26 25,.cl 27 [24,26] HT,.m 7 27] [0,7] (.s (.D 15 [(4,[]),(5,[]),(9,[]),(10,[8,9]),(13,[3,4,12])] (.tk 12 [.ls 39 38 16,.idx 38 16 36 37,.m 37 7,.l 36 35,.f 35 34 1,.n 34 33,.m 33 0,.m 32 7,.l 31 30,.f 30 29 1,.n 29 28,.m 28 0] (.O 12 (.cl 40 [39] AA_) false [] (.tk 14 [.idx 41 16 31 32] (.O 14 (.store 41 40 16 false) false [] .z)))) []) (.R [.mv 6 .V] [6] .e))) .k)))))))) (.R [.m 42 0,.ls 43 4 6,.m 44 2,.cl 45 [42,43,44] eI,.m 6 45] [6] .e)))⟩
theorem jw:Aw Tryz.prog 32 IV=true:=by kernel_rfl
def QQ:BL:=⟨[.val .bool],[⟨2,false,.W⟩],(.R [.mv 2 (.i 0)] [0] (.s (.R [.m 3 0] [3] (.cond 3 (.R [.mv 2 (.i 0)] [2] .e) .k)) (.R [.mv 2 (.i 1)] [2] .e)))⟩
theorem xx:Aw Tryz.prog 33 QQ=true:=by kernel_rfl
def Tz:AG:=(.R [.b 19 .lss 18 17] [1,2,3,16,17,18,19] (.s (.cond 19 .k (.exit 0)) (.s (.b 1 [1,2,3,16,17,18] (.R [.idx 20 16 16 18,.ls 21 20 16,.al 5 Z,.store 5 21 16 false] [1,2,3,5,16,17,18] (.D 8 [(2,[]),(5,[1,4])] (.tk 3 [.ls 24 5 16,.l 23 22,.f 22 3 1] (.O 3 (.cl 25 [24] Gm) false [] (.O 4 (.blst 26 Z [25]) false [] (.O 5 (.app 27 49 Z 23 26) false [] (.tk 7 [.f 28 3 1] (.O 7 (.store 28 27 1 false) false [] .z)))))) [1,2,3,16,17,18]))) (.r [.bin 29 .add 18 (.i 1),.m 18 29] [1,2,3,16,17,18]))))
def SE:AG:=(.R [.b 34 .lss 33 32] [2,3,31,32,33,34] (.s (.cond 34 .k (.exit 2)) (.s (.b 3 [2,3,31,32,33] (.R [.idx 35 6 31 33,.ls 36 35 6,.al 7 AL,.store 7 36 6 false] [2,3,7,31,32,33] (.D 8 [(2,[]),(5,[1,4])] (.tk 3 [.ls 39 7 6,.l 38 37,.f 37 3 2] (.O 3 (.cl 40 [39] Tc) false [] (.O 4 (.blst 41 AL [40]) false [] (.O 5 (.app 42 112 AL 38 41) false [] (.tk 7 [.f 43 3 2] (.O 7 (.store 43 42 1 false) false [] .z)))))) [2,3,31,32,33]))) (.r [.bin 44 .add 33 (.i 1),.m 33 44] [2,3,31,32,33]))))
def SF:AG:=(.R [.ls 45 3 4,.store 2 45 4 false] [2] .e)
def K5:AG:=(.s (.R [.f 30 1 2,.l 31 30,.len 32 false 31,.mv 33 (.i 0)] [2,3,31,32,33] (.b 2 [2,3] (.loop [2,3,31,32,33] SE))) SF)
def Ba:BL:=⟨[.val Af],[⟨2,true,Al⟩],(.R [.box 1 0 true,.al 2 Al] [1,2] (.s (.D 9 [(3,[]),(5,[2,4]),(7,[]),(8,[6,7])] (.tk 2 [.l 9 8,.f 8 1 0] (.tk 5 [.l 12 11,.f 11 1 3] (.O 2 (.cl 10 [9] YV) false [(7,.al 3 Al)] (.O 5 (.cl 13 [12] MF) false [(7,.al 3 Al)] (.tk 7 [.build 14 [.nil,.nil,.nil,.nil] [(0,1,10),(3,1,13)]] (.O 7 (.al 3 Al) true [] (.O 8 (.store 3 14 4 false) false [] .z))))))) [1,2,3]) (.s (.R [.f 15 1 1,.l 16 15,.len 17 false 16,.mv 18 (.i 0)] [1,2,3,16,17,18] (.b 0 [1,2,3] (.loop [1,2,3,16,17,18] Tz))) K5)))⟩
theorem pT:Aw Tryz.prog 34 Ba=true:=by kernel_rfl
def Vy:AG:=(.s (.R [.m 15 5,.bin 16 .leq 15 (.i 6)] [0,2,4,5,16] (.cond 16 .k (.exit 0))) (.s (.b 1 [0,2,4,5] (.R [.m 20 5,.m 21 0,.cl 22 [20,21] pO,.m 19 22,.ext 23 19 0,.ext 24 19 1,.al 6 Z,.store 6 23 16 false,.m 7 24] [0,2,4,5,6] (.r [.f 25 4 1,.l 26 25,.ls 27 6 16,.blst 28 Z [27],.app 29 49 Z 26 28,.f 30 4 1,.store 30 29 1 false] [0,2,4,5]))) (.r [.m 17 5,.bin 18 .add 17 (.i 1),.m 5 18] [0,2,4,5])))
def Vz:AG:=(.R [.ls 31 4 4,.store 2 31 4 false,.mv 3 .V] [2,3] .e)
def D_:BL:=⟨[.val (.slice .S)],[⟨2,true,Af⟩,⟨3,false,.bool⟩],(.R [.al 2 Gl,.mv 3 .F] [0,2] (.s (.R [.m 8 0,.cl 9 [8] Hm,.un 10 .not 9] [0,2,10] (.cond 10 (.R [.build 11 [.nil,.nil,.nil,.nil] [],.store 2 11 4 false,.mv 3 .F] [2,3] .e) .k)) (.R [.m 12 0,.cl 13 [12] R3,.build 14 [.nil,.nil,.nil,.nil] [(0,1,13)],.al 4 Gl,.store 4 14 4 false] [0,2,4] (.s (.R [.mv 5 (.i 1)] [0,2,4,5] (.b 0 [2,4] (.loop [0,2,4,5] Vy))) Vz))))⟩
theorem sX:Aw Tryz.prog 35 D_=true:=by kernel_rfl

def TC:BL:=⟨[.ptr Af,.val .W,.val AJ],[⟨6,false,.W⟩],(.R [.box 5 2 false,.mv 6 (.i 0)] [0,1,5] (.s (.R [.f 7 5 0,.l 8 7] [0,1,5,8] (.b 0 [0,1,5] (.R [.bin 10 .eql 8 (.i 1),.m 9 10] [0,1,5,8,9] (.cond 9 (.R [.m 11 0,.m 12 1,.ls 13 5 6,.cl 14 [11,12,13] sL,.m 6 14] [6] .e) (.R [.bin 16 .eql 8 (.i 5),.m 15 16] [0,1,5,8,15] (.cond 15 (.R [.m 17 0,.m 18 1,.f 19 5 1,.l 20 19,.cl 21 [17,18,20] sM,.m 6 21] [6] .e) (.R [.bin 23 .eql 8 (.i 6),.m 22 23] [0,1,5,22] (.cond 22 (.s (.D 15 [(1,[]),(5,[]),(8,[4,7]),(11,[]),(12,[]),(13,[]),(14,[0,10,11,12,13])] (.tk 10 [.ls 33 32 16,.idx 32 16 28 31,.bin 31 .sub 30 (.i 1),.l 30 29,.f 29 5 1,.l 28 27,.f 27 26 1,.n 26 25,.m 25 0,.m 24 0] (.tk 14 [.m 37 1] (.O 10 (.cl 34 [33] ABA) false [(11,.brow 35 112 AL []),(12,.brow 36 140 BG [])] (.O 11 (.brow 35 112 AL []) true [(12,.brow 36 140 BG [])] (.O 12 (.brow 36 140 BG []) true [] (.O 14 (.cl 38 [24,34,35,36,37] Kb) false [] .z)))))) []) (.R [.mv 6 (.i 0)] [6] .e)) .k)))))))) (.R [.m 39 0,.m 40 1,.ls 41 5 6,.cl 42 [39,40,41] xp,.m 6 42] [6] .e)))⟩
theorem zu:Aw Tryz.prog 36 TC=true:=by kernel_rfl
def Yj:AG:=(.s (.R [.m 16 4,.f 17 1 1,.l 18 17,.len 19 false 18,.b 20 .lss 16 19] [1,2,3,4,20] (.cond 20 .k (.exit 0))) (.s (.b 1 [1,2,3,4] (.D 12 [(2,[]),(4,[]),(5,[3,4]),(9,[1,8])] (.tk 7 [.ls 29 28 16,.idx 28 16 26 27,.m 27 4,.l 26 25,.f 25 1 1,.l 24 23,.f 23 3 1] (.O 7 (.cl 30 [29] Hp) false [] (.O 8 (.blst 31 Z [30]) false [] (.O 9 (.app 32 49 Z 24 31) false [] (.tk 11 [.f 33 3 1] (.O 11 (.store 33 32 1 false) false [] .z)))))) [1,2,3,4])) (.r [.m 21 4,.bin 22 .add 21 (.i 1),.m 4 22] [1,2,3,4])))
def Yk:AG:=(.R [.ls 34 3 4,.store 2 34 4 false] [2] .e)
def Ej:BL:=⟨[.val Af],[⟨2,true,Af⟩],(.R [.box 1 0 true,.al 2 Gl] [1,2] (.s (.D 13 [(3,[]),(5,[2,4]),(6,[]),(7,[]),(9,[5,6,8]),(11,[]),(12,[10,11])] (.tk 2 [.l 6 5,.f 5 1 0] (.tk 5 [.l 9 8,.f 8 1 2] (.tk 9 [.l 13 12,.f 12 1 3] (.O 2 (.cl 7 [6] R3) false [(6,.brow 11 42 A_ []),(11,.al 3 Gl)] (.O 5 (.cl 10 [9] jq) false [(6,.brow 11 42 A_ []),(11,.al 3 Gl)] (.O 6 (.brow 11 42 A_ []) true [(11,.al 3 Gl)] (.O 9 (.app 14 42 A_ 11 13) false [(11,.al 3 Gl)] (.tk 11 [.build 15 [.nil,.nil,.nil,.nil] [(0,1,7),(2,1,10),(3,1,14)]] (.O 11 (.al 3 Gl) true [] (.O 12 (.store 3 15 4 false) false [] .z)))))))))) [1,2,3]) (.s (.R [.mv 4 (.i 0)] [1,2,3,4] (.b 0 [2,3] (.loop [1,2,3,4] Yj))) Yk)))⟩
theorem vO:Aw Tryz.prog 37 Ej=true:=by kernel_rfl
def Qp:AG:=(.s (.R [.m 25 5,.idx 26 1 25 (.i 0),.l 27 26,.bin 28 .eql 27 (.c (.str ⟨#[118,105,101,119]⟩))] [0,5,28] (.cond 28 (.R [.m 29 0,.m 30 5,.cl 31 [29,30] jr,.m 4 31] [4] .e) .k)) (.R [.m 33 5,.cl 34 [33] vC,.m 32 34,.ext 35 32 0,.ext 36 32 1,.al 7 AJ,.store 7 35 6 false,.m 8 36] [0,7,8] (.s (.D 11 [(1,[]),(5,[]),(7,[4,6]),(8,[0,7])] (.tk 6 [.ls 42 7 6,.l 41 40,.f 40 39 1,.n 39 38,.m 38 0,.m 37 0] (.O 6 (.blst 43 AJ [42]) false [] (.O 7 (.app 44 72 AJ 41 43) false [] (.tk 10 [.f 46 45 1,.n 45 37] (.O 10 (.store 46 44 1 false) false [] .z))))) [0,8]) (.R [.m 47 8,.m 48 47,.sc 48 true [.m 49 0,.n 50 49,.f 51 50 0,.l 52 51,.len 53 false 52,.bin 54 .gtr 53 (.i 0)] 55 54 .F,.m 56 55,.sc 56 true [.m 57 0,.n 58 57,.f 59 58 1,.l 60 59,.len 61 false 60,.bin 62 .leq 61 (.i 70)] 63 62 .F,.m 4 63] [4] .e))))
def EP:BL:=⟨[.ptr NU,.val .str],[⟨4,false,.bool⟩],(.R [.mv 4 .F] [0,1] (.R [.m 10 1,.cl 11 [10] vB,.m 9 11,.ext 12 9 0,.ext 13 9 1,.m 5 12,.m 6 13] [0,5,6] (.s (.R [.m 14 6,.un 15 .not 14] [0,5,15] (.cond 15 (.R [.mv 4 .F] [4] .e) .k)) (.s (.R [.m 16 5,.len 17 false 16,.bin 18 .eql 17 (.i 0),.m 19 18,.sc 19 false [.m 20 5,.idx 21 1 20 (.i 0),.l 22 21,.cx (some 23) [22,.c (.str ⟨#[35]⟩)] iD] 24 .V 23] [0,5,24] (.cond 24 (.R [.mv 4 .V] [4] .e) .k)) Qp))))⟩
theorem jx:Aw Tryz.prog 39 EP=true:=by kernel_rfl
def Yl:AG:=(.s (.R [.m 26 9,.m 27 8,.b 28 .lss 26 27] [0,4,5,6,8,9,28] (.cond 28 .k (.exit 0))) (.s (.b 1 [0,4,5,6,8,9] (.R [.m 31 0,.cl 32 [31,6] vD,.al 10 AJ,.store 10 32 6 false] [0,4,5,6,8,9,10] (.R [.m 33 9,.ls 34 10 6,.cl 35 [6,33,34] mM] [0,4,5,6,8,9,10] (.r [.f 36 5 1,.l 37 36,.ls 38 10 6,.blst 39 AJ [38],.app 40 72 AJ 37 39,.f 41 5 1,.store 41 40 1 false] [0,4,5,6,8,9])))) (.r [.m 29 9,.bin 30 .add 29 (.i 1),.m 9 30] [0,4,5,6,8,9])))
def Ym:AG:=(.R [.ls 42 5 2,.store 4 42 2 false] [4] .e)
def Ek:BL:=⟨[.ptr Ao,.val (.slice (.int .u8))],[⟨4,true,jk⟩],(.R [.al 4 eE] [0,1,4] (.R [.m 11 0,.cl 12 [11] sN,.build 13 [.nil,.nil] [(0,1,12)],.al 5 eE,.store 5 13 2 false] [0,1,4,5] (.R [.f 15 5 0,.l 16 15,.cl 17 [16] bK,.m 14 17,.ext 18 14 0,.ext 19 14 1,.al 6 Af,.store 6 18 4 false,.m 7 19] [0,1,4,5,6] (.R [.m 20 1,.len 21 false 20,.bin 22 .quo 21 (.i 4),.bin 23 .add (.i 20) 22,.m 8 23] [0,4,5,6,8] (.seqc [0,4,5,6,8] (.R [.m 24 8,.bin 25 .gtr 24 (.i 69)] [0,4,5,6,8,25] (.cond 25 (.r [.mv 8 (.i 69)] [0,4,5,6,8]) .k)) (.s (.R [.mv 9 (.i 0)] [0,4,5,6,8,9] (.b 0 [4,5] (.loop [0,4,5,6,8,9] Yl))) Ym))))))⟩
theorem vP:Aw Tryz.prog 43 Ek=true:=by kernel_rfl
def Nm:BL:=⟨[.ptr Ao,.val .W],[⟨4,false,.bool⟩],(.R [.mv 4 .F] [0,1] (.R [.m 5 0,.m 6 1,.cl 7 [5,6] C0,.bin 8 .eql 7 (.i 0),.m 4 8] [4] .e))⟩
theorem vQ:Aw Tryz.prog 44 Nm=true:=by kernel_rfl
def Nn:BL:=⟨[.ptr Ao,.val (.slice .str)],[⟨4,false,.str⟩],(.R [.mv 4 (.c (.str ⟨#[]⟩))] [0,1] (.R [.m 5 1,.m 6 0,.m 7 1,.len 8 false 7,.cl 9 [6,8] C0,.idx 10 1 5 9,.l 11 10,.m 4 11] [4] .e))⟩
theorem vR:Aw Tryz.prog 45 Nn=true:=by kernel_rfl
def Yn:AG:=(.cond 12 (.s (.D 13 [(5,[]),(7,[4,6]),(9,[]),(11,[8,10])] (.tk 2 [.l 14 13,.f 13 1 1] (.tk 7 [.l 19 18,.f 18 1 4] (.tk 11 [.l 23 22,.f 22 1 5] (.O 2 (.cl 15 [14] Ct) false [] (.tk 5 [.bin 17 .add 16 (.c (.str ⟨#[32]⟩)),.bin 16 .add (.c (.str ⟨#[112,117,116,32]⟩)) 15] (.tk 9 [.bin 21 .add 20 (.c (.str ⟨#[32]⟩)),.b 20 .add 17 19] (.tk 13 [.m 2 24,.b 24 .add 21 23] .z))))))) [2]) .e) .k)
def Pq:AG:=(.s (.R [.f 25 1 0,.l 26 25,.bin 27 .eql 26 (.i 1)] [1,3,27] (.cond 27 (.s (.D 9 [(5,[]),(7,[4,6])] (.tk 2 [.l 29 28,.f 28 1 1] (.tk 7 [.l 34 33,.f 33 1 4] (.O 2 (.cl 30 [29] Ct) false [] (.tk 5 [.bin 32 .add 31 (.c (.str ⟨#[32]⟩)),.bin 31 .add (.c (.str ⟨#[103,101,116,32]⟩)) 30] (.tk 9 [.m 2 35,.b 35 .add 32 34] .z))))) [2]) .e) .k)) (.s (.R [.f 36 1 0,.l 37 36,.bin 38 .leq 37 (.i 4)] [1,3,38] (.cond 38 (.s (.D 10 [(1,[]),(3,[0,2]),(5,[]),(8,[4,7])] (.tk 7 [.l 45 44,.f 44 1 2,.l 43 42,.idx 42 1 39 41,.l 41 40,.f 40 1 0,.m 39 3] (.O 7 (.cl 46 [45] Ct) false [] (.tk 10 [.m 2 47,.b 47 .add 43 46] .z))) [2]) .e) .k)) (.s (.D 10 [(1,[]),(3,[0,2]),(5,[]),(8,[4,7])] (.tk 7 [.l 54 53,.f 53 1 1,.l 52 51,.idx 51 1 48 50,.l 50 49,.f 49 1 0,.m 48 3] (.O 7 (.cl 55 [54] Ct) false [] (.tk 10 [.m 2 56,.b 56 .add 52 55] .z))) [2]) .e)))
def Dt:BL:=⟨[.val AJ],[⟨2,false,.str⟩],(.R [.box 1 0 false,.mv 2 (.c (.str ⟨#[]⟩))] [1] (.R [.brow 4 9 .str [.c (.str ⟨#[]⟩),.c (.str ⟨#[]⟩),.c (.str ⟨#[100,101,108,105,118,101,114,32]⟩),.c (.str ⟨#[100,114,111,112,32]⟩),.c (.str ⟨#[99,111,112,121,32]⟩),.c (.str ⟨#[97,100,111,112,116,32]⟩),.c (.str ⟨#[102,97,108,108,32]⟩)],.m 3 4] [1,3] (.s (.R [.f 5 1 0,.l 6 5,.bin 7 .eql 6 (.i 1),.m 8 7,.sc 8 true [.f 9 1 3,.l 10 9,.bin 11 .eql 10 (.i 1)] 12 11 .F] [1,3,12] Yn) Pq)))⟩
theorem vS:Aw Tryz.prog 46 Dt=true:=by kernel_rfl
def Lu:BL:=⟨[.ptr Ao,.val .W],[⟨4,false,.W⟩],(.R [.mv 4 (.i 0)] [0,1] (.s (.R [.m 9 1,.bin 10 .leq 9 (.i 0)] [0,1,10] (.cond 10 (.R [.mv 4 (.i 0)] [4] .e) .k)) (.s (.R [.m 11 1,.bin 12 .leq 11 (.i 256)] [0,1,12] (.cond 12 (.R [.m 13 0,.cl 14 [13] J9,.m 15 1,.b 16 .rem 14 15,.m 4 16] [4] .e) .k)) (.R [.m 17 0,.cl 18 [17] J9,.m 5 18] [0,1,5] (.R [.m 19 0,.cl 20 [19] J9,.m 6 20] [0,1,5,6] (.R [.m 21 0,.cl 22 [21] J9,.m 7 22] [0,1,5,6,7] (.R [.m 23 0,.cl 24 [23] J9,.m 8 24] [1,5,6,7,8] (.R [.m 25 5,.bin 26 .mul 25 (.i 16777216),.m 27 6,.bin 28 .mul 27 (.i 65536),.b 29 .add 26 28,.m 30 7,.bin 31 .mul 30 (.i 256),.b 32 .add 29 31,.m 33 8,.b 34 .add 32 33,.m 35 1,.b 36 .rem 34 35,.m 4 36] [4] .e))))))))⟩
theorem sY:Aw Tryz.prog 47 Lu=true:=by kernel_rfl
def Yo:AG:=(.s (.R [.m 9 6,.m 10 0,.b 11 .lss 9 10] [0,1,5,6,11] (.cond 11 .k (.exit 0))) (.s (.b 1 [0,1,5,6] (.r [.m 14 5,.m 15 6,.m 16 1,.idx 17 1 14 15,.store 17 16 1 false] [0,1,5,6])) (.r [.m 12 6,.bin 13 .add 12 (.i 1),.m 6 13] [0,1,5,6])))
def Yp:AG:=(.R [.m 18 5,.bts 19 18,.m 4 19] [4] .e)
def El:BL:=⟨[.val .W,.val (.int .u8)],[⟨4,false,.str⟩],(.R [.mv 4 (.c (.str ⟨#[]⟩))] [0,1] (.R [.m 7 0,.mk 8 5 (.int .u8) 7,.m 5 8] [0,1,5] (.s (.R [.mv 6 (.i 0)] [0,1,5,6] (.b 0 [5] (.loop [0,1,5,6] Yo))) Yp)))⟩
theorem vT:Aw Tryz.prog 48 El=true:=by kernel_rfl
def Qq:AG:=(.s (.R [.m 9 5,.m 10 0,.len 11 true 10,.b 12 .lss 9 11] [0,4,5,12] (.cond 12 .k (.exit 0))) (.s (.b 1 [0,4,5] (.s (.R [.m 15 0,.m 16 5,.sidx 17 15 16,.bin 18 .lss 17 (.c (.int .u8 48)),.m 19 18,.sc 19 false [.m 20 0,.m 21 5,.sidx 22 20 21,.bin 23 .gtr 22 (.c (.int .u8 57))] 24 .V 23] [0,4,5,24] (.cond 24 (.R [.mv 2 (.i 0),.mv 3 .F] [2,3] .e) .k)) (.r [.m 25 4,.bin 26 .mul (.i 10) 25,.m 27 0,.m 28 5,.sidx 29 27 28,.cvi 30 .i64 29,.b 31 .add 26 30,.bin 32 .sub 31 (.i 48),.m 4 32] [0,4,5]))) (.r [.m 13 5,.bin 14 .add 13 (.i 1),.m 5 14] [0,4,5])))
def I7:AG:=(.s (.R [.m 33 4,.bin 34 .gtr 33 (.i 1000000000),.m 35 34,.sc 35 false [.m 36 4,.cl 37 [36] Ct,.m 38 0,.b 39 .neq 37 38] 40 .V 39] [4,40] (.cond 40 (.R [.mv 2 (.i 0),.mv 3 .F] [2,3] .e) .k)) (.R [.m 41 4,.m 2 41,.mv 3 .V] [2,3] .e))
def B8:BL:=⟨[.val .str],[⟨2,false,.W⟩,⟨3,false,.bool⟩],(.R [.mv 2 (.i 0),.mv 3 .F] [0] (.s (.R [.m 6 0,.len 7 true 6,.bin 8 .gtr 7 (.i 10)] [0,8] (.cond 8 (.R [.mv 2 (.i 0),.mv 3 .F] [2,3] .e) .k)) (.R [.mv 4 (.i 0)] [0,4] (.s (.R [.mv 5 (.i 0)] [0,4,5] (.b 0 [0,4] (.loop [0,4,5] Qq))) I7))))⟩
theorem jy:Aw Tryz.prog 49 B8=true:=by kernel_rfl
def Yq:AG:=(.s (.R [.m 8 3,.m 9 0,.len 10 false 9,.b 11 .lss 8 10] [0,3,11] (.cond 11 .k (.exit 0))) (.s (.b 1 [0,3] (.s (.D 16 [(1,[]),(2,[0,1]),(8,[6]),(9,[7,8]),(10,[6]),(11,[6]),(12,[10,11]),(14,[9,13])] (.tk 4 [.l 17 16,.idx 16 1 14 15,.m 15 3,.m 14 0] (.O 4 (.cx (some 18) [17,.c (.int .i64 1),.c (.int .i64 6)] BD) false [] (.tk 7 [.m 20 19,.un 19 .not 18] (.test 20 (.sk 20 false 8 15 29 (.tk 16 [.pick 29 20 .V 28] .z)) (.tg 20 false 14 [.l 27 26,.idx 26 1 24 25,.m 25 3,.m 24 0,.sl 23 1 21 none (some 22),.m 22 3,.m 21 0] (.only 14 (some (20,false)) (.cl 28 [23,27] Gn) false [] (.tk 16 [.pick 29 20 .V 28] .z))))))) [0,3,29]) (.cond 29 (.R [.mv 2 .F] [2] .e) .k))) (.r [.m 12 3,.bin 13 .add 12 (.i 1),.m 3 13] [0,3])))
def Yr:AG:=(.R [.mv 2 .V] [2] .e)
def Em:BL:=⟨[.val .S],[⟨2,false,.bool⟩],(.R [.mv 2 .F] [0] (.s (.R [.m 4 0,.len 5 false 4,.cx (some 6) [5,.c (.int .i64 1),.c (.int .i64 4)] BD,.un 7 .not 6] [0,7] (.cond 7 (.R [.mv 2 .F] [2] .e) .k)) (.s (.R [.mv 3 (.i 0)] [0,3] (.b 0 [] (.loop [0,3] Yq))) Yr)))⟩
theorem vU:Aw Tryz.prog 50 Em=true:=by kernel_rfl
def TD:BL:=⟨[.val .W,.val .W,.val .W],[⟨6,false,.bool⟩],(.R [.mv 6 .F] [0,1,2] (.R [.m 7 0,.m 8 1,.b 9 .geq 7 8,.m 10 9,.sc 10 true [.m 11 0,.m 12 2,.b 13 .leq 11 12] 14 13 .F,.m 6 14] [6] .e))⟩
theorem zv:Aw Tryz.prog 51 TD=true:=by kernel_rfl
def Ys:AG:=(.R [.b 16 .lss 15 14] [0,4,7,8,9,13,14,15,16] (.s (.cond 16 .k (.exit 2)) (.s (.b 3 [0,4,7,8,9,13,14,15] (.R [.m 17 15,.idx 18 1 13 15,.l 19 18,.m 5 17,.m 6 19] [0,4,5,6,7,8,9,13,14,15] (.R [.m 20 6,.cl 21 [20] I2,.un 22 .not 21,.m 23 22,.sc 23 false [.m 24 4,.m 25 6,.cl 26 [24,25] NX,.m 27 5,.b 28 .neq 26 27] 29 .V 28] [0,4,7,8,9,13,14,15,29] (.cond 29 (.R [.mv 2 .F] [2] .e) .k)))) (.r [.bin 30 .add 15 (.i 1),.m 15 30] [0,4,7,8,9,13,14,15]))))
def Pr:AG:=(.R [.m 31 4,.len 32 false 31,.cx (some 33) [32,.c (.int .i64 1),.c (.int .i64 4)] BH,.un 34 .not 33] [0,7,8,9,34] (.cond 34 (.R [.mv 2 .F] [2] .e) .k))
def V0:AG:=(.r [.bin 35 .add 9 (.i 1),.m 9 35] [0,7,8,9])
def V5:AG:=(.R [.b 10 .lss 9 8] [0,7,8,9,10] (.s (.cond 10 .k (.exit 0)) (.s (.b 1 [0,7,8,9] (.R [.idx 11 1 7 9,.l 12 11,.m 4 12] [0,4,7,8,9] (.s (.R [.m 13 4,.len 14 false 13,.mv 15 (.i 0)] [0,4,7,8,9,13,14,15] (.b 2 [0,4,7,8,9] (.loop [0,4,7,8,9,13,14,15] Ys))) Pr))) V0)))
def V6:AG:=(.R [.m 36 0,.len 37 false 36,.cx (some 38) [37,.c (.int .i64 1),.c (.int .i64 9)] BH,.m 2 38] [2] .e)
def CO:BL:=⟨[.val (.slice .S)],[⟨2,false,.bool⟩],(.R [.mv 2 .F] [0] (.s (.R [.m 7 0,.len 8 false 7,.mv 9 (.i 0)] [0,7,8,9] (.b 0 [0] (.loop [0,7,8,9] V5))) V6))⟩
theorem vV:Aw Tryz.prog 52 CO=true:=by kernel_rfl
def T0:AG:=(.R [.b 9 .lss 8 7] [3,6,7,8,9] (.s (.cond 9 .k (.exit 0)) (.s (.b 1 [3,6,7,8] (.R [.idx 10 1 6 8,.l 11 10,.m 5 11] [3,5,6,7,8] (.r [.m 12 3,.m 13 5,.cl 14 [13] C3,.blst 15 .S [14],.app 16 37 .S 12 15,.m 3 16] [3,6,7,8]))) (.r [.bin 17 .add 8 (.i 1),.m 8 17] [3,6,7,8]))))
def T1:AG:=(.R [.m 18 3,.m 2 18] [2] .e)
def DZ:BL:=⟨[.val (.slice .S)],[⟨2,false,(.slice .S)⟩],(.R [.mv 2 .z] [0] (.R [.nilrow 3 37 .S] [0,3] (.s (.R [.m 6 0,.len 7 false 6,.mv 8 (.i 0)] [3,6,7,8] (.b 0 [3] (.loop [3,6,7,8] T0))) T1)))⟩
theorem pU:Aw Tryz.prog 53 DZ=true:=by kernel_rfl
def T2:AG:=(.R [.m 16 1,.idx 17 1 16 (.i 0),.l 18 17,.idx 19 1 18 (.i 0),.l 20 19,.m 21 0,.b 22 .eql 20 21,.m 6 22] [0,1,4,6] (.R [.m 23 0,.m 24 1,.idx 25 1 24 (.i 0),.l 26 25,.m 27 0,.cl 28 [26,27] GX,.m 29 6,.m 30 6,.bu 31 Z [(0,1,23),(1,1,.c (.int .i64 1)),(3,1,28),(4,1,29),(5,1,30)],.store 4 31 16 false,.mv 5 .V] [4,5] .e))
def Fs:BL:=⟨[.val .W,.val (.slice .S)],[⟨4,true,Z⟩,⟨5,false,.bool⟩],(.R [.al 4 Z,.mv 5 .F] [0,1,4] (.s (.R [.m 7 0,.cl 8 [7] I2,.un 9 .not 8,.m 10 9,.sc 10 false [.m 11 1,.cl 12 [11] Ho,.un 13 .not 12] 14 .V 13] [0,1,4,14] (.cond 14 (.R [.bu 15 Z [],.store 4 15 16 false,.mv 5 .F] [4,5] .e) .k)) T2))⟩
theorem pV:Aw Tryz.prog 54 Fs=true:=by kernel_rfl
def No:BL:=⟨[.val .W,.val .W,.val .W],[⟨6,false,.bool⟩],(.R [.mv 6 .F] [0,1,2] (.R [.m 7 0,.m 8 1,.b 9 .geq 7 8,.m 10 9,.sc 10 true [.m 11 0,.m 12 2,.b 13 .leq 11 12] 14 13 .F,.m 6 14] [6] .e))⟩
theorem vW:Aw Tryz.prog 55 No=true:=by kernel_rfl
def QR:BL:=⟨[.val .W],[⟨2,false,.bool⟩],(.R [.mv 2 .F] [0] (.R [.m 3 0,.cx (some 4) [3,.c (.int .i64 1),.c (.int .i64 6)] BH,.m 2 4] [2] .e))⟩
theorem xy:Aw Tryz.prog 56 QR=true:=by kernel_rfl
def eP:AG:=(.R [.m 27 0,.bin 28 .eql 27 (.i 1),.m 29 28,.sc 29 false [.m 30 3,.bin 31 .eql 30 (.c (.str ⟨#[]⟩))] 32 .V 31,.m 8 32] [8] .e)
def Ke:BL:=⟨[.val .W,.val .W,.val .str,.val .str],[⟨8,false,.bool⟩],(.R [.mv 8 .F] [0,1,2,3] (.s (.R [.m 9 0,.cx (some 10) [9,.c (.int .i64 1),.c (.int .i64 2)] BH,.un 11 .not 10,.m 12 11,.sc 12 false [.m 13 1,.cx (some 14) [13,.c (.int .i64 0),.c (.int .i64 1000)] BH,.un 15 .not 14] 16 .V 15,.m 17 16,.sc 17 false [.m 18 2,.cl 19 [18] mO,.un 20 .not 19] 21 .V 20,.m 22 21,.sc 22 false [.m 23 3,.len 24 true 23,.bin 25 .gtr 24 (.i 20)] 26 .V 25] [0,3,26] (.cond 26 (.R [.mv 8 .F] [8] .e) .k)) eP))⟩
theorem zw:Aw Tryz.prog 57 Ke=true:=by kernel_rfl
def IW:BL:=⟨[.ptr Al,.val AJ,.val .W],[⟨6,false,.bool⟩],(.R [.box 4 1 false,.mv 6 .F] [0,2,4] (.R [.m 13 0,.n 14 13,.f 15 14 3,.l 16 15,.len 17 false 16,.m 7 17] [0,2,4,7] (.s (.D 18 [(1,[]),(5,[]),(7,[]),(9,[]),(11,[]),(12,[6,8,10,11]),(14,[4,13]),(15,[0,14])] (.tk 13 [.bu 30 A_ [(0,1,24),(1,1,26),(2,1,28),(3,1,29),(4,1,.c (.int .i64 (-1)))],.m 29 2,.l 28 27,.f 27 4 5,.l 26 25,.f 25 4 4,.l 24 23,.f 23 4 3,.l 22 21,.f 21 20 3,.n 20 19,.m 19 0,.m 18 0] (.O 13 (.blst 31 A_ [30]) false [] (.O 14 (.app 32 42 A_ 22 31) false [] (.tk 17 [.f 34 33 3,.n 33 18] (.O 17 (.store 34 32 1 false) false [] .z))))) [0,2,4,7]) (.R [.m 35 0,.f 36 4 1,.l 37 36,.cl 38 [35,37] HT,.m 8 38] [0,2,4,7,8] (.s (.D 29 [(4,[]),(5,[3,4]),(7,[]),(11,[]),(13,[]),(14,[]),(16,[]),(18,[6,10,12,13,15,17]),(21,[19]),(22,[19]),(23,[19]),(24,[]),(25,[20,24]),(26,[21,25]),(27,[22,26]),(28,[23,27])] (.tk 18 [.l 57 56,.f 56 4 5,.l 55 54,.f 54 4 4,.m 53 7,.l 52 51,.f 51 4 3,.l 50 49,.f 49 48 0,.n 48 47,.m 47 0,.ls 46 45 16,.idx 45 16 43 44,.m 44 8,.l 43 42,.f 42 41 1,.n 41 40,.m 40 0] (.O 18 (.cl 58 [46,50,52,53,55,57] zn) false [(24,.al 9 Z)] (.tk 24 [.ext 62 39 3,.ext 61 39 2,.ext 60 39 1,.ext 59 39 0,.m 39 58] (.O 24 (.al 9 Z) true [] (.O 25 (.store 9 59 16 false) false [] (.tk 29 [.m 12 62,.m 11 61,.m 10 60] .z)))))) [0,2,8,9,10,11,12]) (.s (.R [.m 63 12,.un 64 .not 63] [0,2,8,9,10,11,64] (.cond 64 (.R [.mv 6 .F] [6] .e) .k)) (.s (.D 8 [(4,[]),(5,[]),(6,[3,4,5])] (.tk 7 [.idx 71 16 68 69,.ls 70 9 16,.m 69 8,.l 68 67,.f 67 66 1,.n 66 65,.m 65 0] (.O 7 (.store 71 70 16 false) false [] .z)) [0,2,10,11]) (.R [.m 72 0,.m 73 10,.m 74 11,.m 75 2,.cl 76 [72,73,74,75] NY] [] (.R [.mv 6 .V] [6] .e)))))))))⟩
theorem jz:Aw Tryz.prog 58 IW=true:=by kernel_rfl
def Qr:AG:=(.s (.R [.m 25 8,.m 26 0,.n 27 26,.f 28 27 0,.l 29 28,.len 30 false 29,.b 31 .leq 25 30] [0,2,4,7,8,31] (.cond 31 .k (.exit 0))) (.s (.b 1 [0,2,4,7,8] (.s (.s (.D 13 [(4,[]),(6,[3,5]),(10,[]),(12,[9,11])] (.tk 13 [.b 46 .neq 43 45,.l 45 44,.f 44 4 1,.l 43 42,.idx 42 1 41 (.i 0),.l 41 40,.idx 40 1 37 39,.bin 39 .sub 38 (.i 1),.m 38 8,.l 37 36,.f 36 35 0,.n 35 34,.m 34 0] .z) [0,2,4,7,8,46]) (.cond 46 (.exit 1) .k)) (.s (.D 21 [(4,[]),(5,[3,4]),(7,[]),(11,[]),(12,[6,10,11]),(15,[13]),(16,[13]),(17,[]),(18,[14,17]),(19,[15,18]),(20,[16,19])] (.tk 12 [.m 59 8,.l 58 57,.f 57 56 0,.n 56 55,.m 55 0,.ls 54 53 16,.idx 53 16 51 52,.m 52 7,.l 51 50,.f 50 49 1,.n 49 48,.m 48 0] (.O 12 (.cl 60 [54,58,59] zo) false [(17,.al 9 Z)] (.tk 17 [.ext 63 47 2,.ext 62 47 1,.ext 61 47 0,.m 47 60] (.O 17 (.al 9 Z) true [] (.O 18 (.store 9 61 16 false) false [] (.tk 21 [.m 11 63,.m 10 62] .z)))))) [0,2,7,9,10,11]) (.seqc [11] (.R [.m 64 11] [0,2,7,9,10,11,64] (.cond 64 (.s (.D 8 [(4,[]),(5,[]),(6,[3,4,5])] (.tk 7 [.idx 71 16 68 69,.ls 70 9 16,.m 69 7,.l 68 67,.f 67 66 1,.n 66 65,.m 65 0] (.O 7 (.store 71 70 16 false) false [] .z)) [0,2,10,11]) (.r [.m 72 0,.m 73 10,.m 74 2,.cx (some 75) [72,73,.z,74] NY] [11])) .k)) (.R [.m 76 11,.m 6 76] [6] .e))))) (.r [.m 32 8,.bin 33 .add 32 (.i 1),.m 8 33] [0,2,4,7,8])))
def PG:AG:=(.R [.mv 6 .F] [6] .e)
def Cu:BL:=⟨[.ptr Al,.val AJ,.val .W],[⟨6,false,.bool⟩],(.R [.box 4 1 false,.mv 6 .F] [0,2,4] (.R [.m 12 0,.f 13 4 1,.l 14 13,.cl 15 [12,14] HT,.m 7 15] [0,2,4,7] (.s (.R [.m 16 0,.n 17 16,.f 18 17 1,.l 19 18,.m 20 7,.idx 21 16 19 20,.f 22 21 1,.l 23 22,.bin 24 .add 23 (.i 1),.m 8 24] [0,2,4,7,8] (.b 0 [] (.loop [0,2,4,7,8] Qr))) PG)))⟩
theorem j1:Aw Tryz.prog 59 Cu=true:=by kernel_rfl
def HU:BL:=⟨[.ptr Al,.val .W],[⟨4,false,.W⟩],(.R [.fbox 3 1,.mv 4 (.i 0)] [0,3] (.R [.m 5 0,.n 6 5,.f 7 6 1,.l 8 7,.clo 9 95 .W 3,.cl 10 [8,9] IT,.m 4 10] [4] .e))⟩
theorem iF:Aw Tryz.prog 60 HU=true:=by kernel_rfl
def V7:BL:=⟨[.val Z],[⟨2,true,Ka⟩],(.R [.box 1 0 true,.al 2 Ka] [1,2] (.R [.f 3 1 0,.l 4 3,.f 5 1 1,.l 6 5,.bnew 7 [.int .i64 0,.int .i64 0,.bool false,.bool false,.bool false,.bool false,.new 3 .W [],.new 45 AK [],.int .i64 0,.int .i64 0,.int .i64 0,.int .i64 0,.str U,.str U,.int .i64 0,.new 3 .W []] [(0,1,4),(1,1,6),(2,1,.V)],.store 2 7 16 false] [2] .e))⟩
theorem ABB:Aw Tryz.prog 61 V7=true:=by kernel_rfl
def Gq:BL:=⟨[.ptr Al,.val AJ,.val .W],[⟨6,false,.bool⟩],(.R [.box 4 1 false,.mv 6 .F] [0,2,4] (.s (.R [.m 8 0,.n 9 8,.f 10 9 2,.l 11 10,.len 12 false 11,.bin 13 .eql 12 (.i 0)] [0,2,4,13] (.cond 13 (.R [.mv 6 .F] [6] .e) .k)) (.s (.D 9 [(2,[]),(7,[1,6])] (.tk 9 [.m 7 21,.b 21 .rem 15 20,.len 20 false 19,.l 19 18,.f 18 17 2,.n 17 16,.m 16 0,.l 15 14,.f 14 4 2] .z) [0,2,4,7]) (.s (.R [.f 22 4 0,.l 23 22] [0,2,7,23] (.b 0 [] (.R [.bin 25 .eql 23 (.i 2),.m 24 25] [0,2,7,23,24] (.cond 24 (.r [.m 26 0,.m 27 7,.m 28 2,.cl 29 [26,27,28] eJ] []) (.R [.bin 31 .eql 23 (.i 3),.m 30 31] [0,7,23,30] (.cond 30 (.r [.m 32 0,.m 33 0,.n 34 33,.f 35 34 2,.l 36 35,.m 37 7,.m 38 7,.bin 39 .add 38 (.i 1),.cl 40 [36,37,39] GU,.n 41 32,.f 42 41 2,.store 42 40 1 false] []) (.R [.bin 44 .eql 23 (.i 4),.m 43 44] [0,7,43] (.cond 43 (.D 18 [(1,[]),(5,[]),(9,[]),(10,[8,9]),(14,[4,13]),(15,[0,14])] (.tk 12 [.ls 56 55 6,.idx 55 6 53 54,.m 54 7,.l 53 52,.f 52 51 2,.n 51 50,.m 50 0,.l 49 48,.f 48 47 2,.n 47 46,.m 46 0,.m 45 0] (.O 12 (.cl 57 [56] Tc) false [] (.O 13 (.blst 58 AL [57]) false [] (.O 14 (.app 59 112 AL 49 58) false [] (.tk 17 [.f 61 60 2,.n 60 45] (.O 17 (.store 61 59 1 false) false [] .z)))))) []) .k)))))))) (.R [.mv 6 .V] [6] .e)))))⟩
theorem eQ:Aw Tryz.prog 62 Gq=true:=by kernel_rfl
def JL:BL:=⟨[.val Z],[⟨2,true,Z⟩],(.R [.box 1 0 false,.al 2 Z] [1,2] (.s (.D 17 [(3,[]),(5,[2,4]),(6,[]),(9,[5,8]),(10,[2,4,8]),(11,[9,10])] (.tk 2 [.l 4 3,.f 3 1 6] (.tk 5 [.l 7 6,.f 6 1 7] (.tk 9 [.l 11 10,.f 10 9 6,.f 9 1 9] (.O 2 (.cl 5 [4] C3) false [] (.tk 11 [.f 13 1 6] (.O 5 (.cl 8 [7] BU) false [] (.O 9 (.cl 12 [11] C3) false [] (.O 11 (.store 13 5 1 false) false [] (.tk 13 [.f 14 1 7] (.O 13 (.store 14 8 1 false) false [] (.tk 16 [.f 16 15 6,.f 15 1 9] (.O 16 (.store 16 12 1 false) false [] .z)))))))))))) [1,2]) (.R [.ls 17 1 16,.store 2 17 16 false] [2] .e)))⟩
theorem mU:Aw Tryz.prog 64 JL=true:=by kernel_rfl
def Np:BL:=⟨[.val AL],[⟨2,true,AL⟩],(.R [.box 1 0 false,.al 2 AL] [1,2] (.R [.f 3 1 5,.l 4 3,.cl 5 [4] BU,.f 6 1 5,.store 6 5 1 false] [1,2] (.R [.ls 7 1 6,.store 2 7 6 false] [2] .e)))⟩
theorem vX:Aw Tryz.prog 65 Np=true:=by kernel_rfl
def PH:AG:=(.s (.R [.m 6 4,.m 7 0,.len 8 false 7,.b 9 .lss 6 8] [0,3,4,9] (.cond 9 .k (.exit 0))) (.s (.b 1 [0,3,4] (.r [.m 12 3,.brow 13 3 .W [],.m 14 0,.m 15 4,.idx 16 1 14 15,.l 17 16,.app 18 3 .W 13 17,.blst 19 .S [18],.app 20 37 .S 12 19,.m 3 20] [0,3,4])) (.r [.m 10 4,.bin 11 .add 10 (.i 1),.m 4 11] [0,3,4])))
def PI:AG:=(.R [.m 21 3,.m 2 21] [2] .e)
def Ci:BL:=⟨[.val (.slice .S)],[⟨2,false,(.slice .S)⟩],(.R [.mv 2 .z] [0] (.R [.brow 5 37 .S [],.m 3 5] [0,3] (.s (.R [.mv 4 (.i 0)] [0,3,4] (.b 0 [3] (.loop [0,3,4] PH))) PI)))⟩
theorem iG:Aw Tryz.prog 66 Ci=true:=by kernel_rfl
def T3:AG:=(.R [.m 16 0,.m 17 1,.idx 18 1 17 (.i 0),.l 19 18,.m 20 0,.cl 21 [19,20] Gn,.bu 22 Z [(0,1,16),(1,1,.c (.int .i64 1)),(3,1,21)],.al 6 Z,.store 6 22 16 false] [0,1,4,6] (.R [.m 23 1,.idx 24 1 23 (.i 0),.l 25 24,.idx 26 1 25 (.i 0),.l 27 26,.m 28 0,.b 29 .eql 27 28,.f 30 6 4,.store 30 29 1 false] [4,6] (.R [.f 31 6 4,.l 32 31,.f 33 6 5,.store 33 32 1 false] [4,6] (.R [.ls 34 6 16,.store 4 34 16 false,.mv 5 .V] [4,5] .e))))
def Ft:BL:=⟨[.val .W,.val (.slice .S)],[⟨4,true,Z⟩,⟨5,false,.bool⟩],(.R [.al 4 Z,.mv 5 .F] [0,1,4] (.s (.R [.m 7 1,.cl 8 [7] Hm,.un 9 .not 8,.m 10 9,.sc 10 false [.m 11 0,.cx (some 12) [11,.c (.int .i64 1),.c (.int .i64 6)] BD,.un 13 .not 12] 14 .V 13] [0,1,4,14] (.cond 14 (.R [.bu 15 Z [],.store 4 15 16 false,.mv 5 .F] [4,5] .e) .k)) T3))⟩
theorem pW:Aw Tryz.prog 67 Ft=true:=by kernel_rfl
def Lv:BL:=⟨[.ptr Af,.val .W,.val AJ],[⟨6,false,.W⟩],(.R [.box 5 2 false,.mv 6 (.i 0)] [0,1,5] (.s (.D 20 [(1,[]),(2,[]),(6,[1,5]),(7,[]),(9,[]),(11,[]),(13,[]),(14,[8,10,12,13]),(16,[6,15]),(17,[0,16])] (.tk 1 [.m 11 0] (.tk 6 [.l 16 15,.f 15 14 3,.n 14 13,.m 13 0] (.tk 15 [.bu 25 A_ [(0,1,19),(1,1,21),(2,1,23),(3,1,24),(4,1,.c (.int .i64 (-1)))],.m 24 1,.l 23 22,.f 22 5 5,.l 21 20,.f 20 5 4,.l 19 18,.f 18 5 3] (.O 1 (.brow 12 42 A_ []) false [(15,.blst 26 A_ [25])] (.O 6 (.app 17 42 A_ 12 16) false [(15,.blst 26 A_ [25])] (.O 15 (.blst 26 A_ [25]) true [] (.O 16 (.app 27 42 A_ 17 26) false [] (.tk 19 [.f 29 28 3,.n 28 11] (.O 19 (.store 29 27 1 false) false [] .z))))))))) [0,1,5]) (.s (.D 36 [(4,[]),(7,[3,6]),(9,[]),(13,[]),(15,[]),(21,[]),(23,[]),(25,[8,12,14,20,22,24]),(28,[26]),(29,[26]),(30,[26]),(31,[]),(32,[27,31]),(33,[28,32]),(34,[29,33]),(35,[30,34])] (.tk 25 [.l 55 54,.f 54 5 5,.l 53 52,.f 52 5 4,.bin 51 .sub 50 (.i 1),.len 50 false 49,.l 49 48,.f 48 47 3,.n 47 46,.m 46 0,.l 45 44,.f 44 5 3,.l 43 42,.f 42 41 0,.n 41 40,.m 40 0,.ls 39 38 16,.idx 38 16 34 37,.bin 37 .sub 36 (.i 1),.l 36 35,.f 35 5 1,.l 34 33,.f 33 32 1,.n 32 31,.m 31 0] (.O 25 (.cl 56 [39,43,45,51,53,55] zp) false [(31,.al 7 Z)] (.tk 31 [.ext 60 30 3,.ext 59 30 2,.ext 58 30 1,.ext 57 30 0,.m 30 56] (.O 31 (.al 7 Z) true [] (.O 32 (.store 7 57 16 false) false [] (.tk 36 [.m 10 60,.m 9 59,.m 8 58] .z)))))) [0,1,7,8,9,10]) (.s (.R [.m 61 10,.un 62 .not 61] [0,1,7,8,9,62] (.cond 62 (.R [.mv 6 (.i 1)] [6] .e) .k)) (.R [.m 63 0,.ls 64 7 16,.m 65 8,.m 66 9,.m 67 1,.cl 68 [63,64,65,66,67] Kb] [] (.R [.mv 6 (.i 0)] [6] .e))))))⟩
theorem sZ:Aw Tryz.prog 68 Lv=true:=by kernel_rfl
def V8:AG:=(.s (.R [.m 23 8,.m 24 0,.n 25 24,.f 26 25 0,.l 27 26,.len 28 false 27,.b 29 .leq 23 28] [0,1,2,7,8,29] (.cond 29 .k (.exit 0))) (.s (.b 1 [0,1,2,7,8] (.s (.R [.m 32 0,.n 33 32,.f 34 33 0,.l 35 34,.m 36 8,.bin 37 .sub 36 (.i 1),.idx 38 1 35 37,.l 39 38,.idx 40 1 39 (.i 0),.l 41 40,.m 42 2,.b 43 .neq 41 42] [0,1,2,7,8,43] (.cond 43 (.exit 1) .k)) (.s (.D 15 [(1,[]),(5,[]),(6,[0,4,5]),(9,[7]),(10,[7]),(11,[]),(12,[8,11]),(13,[9,12]),(14,[10,13])] (.tk 6 [.m 50 8,.l 49 48,.f 48 47 0,.n 47 46,.m 46 0,.ls 45 7 16] (.O 6 (.cl 51 [45,49,50] zq) false [(11,.al 9 Z)] (.tk 11 [.ext 54 44 2,.ext 53 44 1,.ext 52 44 0,.m 44 51] (.O 11 (.al 9 Z) true [] (.O 12 (.store 9 52 16 false) false [] (.tk 15 [.m 11 54,.m 10 53] .z)))))) [0,1,9,10,11]) (.s (.R [.m 55 11,.un 56 .not 55] [0,1,9,10,56] (.cond 56 (.R [.mv 6 (.i 1)] [6] .e) .k)) (.R [.m 57 0,.ls 58 9 16,.m 59 10,.brow 60 140 BG [],.m 61 1,.cl 62 [57,58,59,60,61] Kb] [] (.R [.mv 6 (.i 0)] [6] .e)))))) (.r [.m 30 8,.bin 31 .add 30 (.i 1),.m 8 31] [0,1,2,7,8])))
def T4:AG:=(.R [.mv 6 (.i 1)] [6] .e)
def EA:BL:=⟨[.ptr Af,.val .W,.val .W],[⟨6,false,.W⟩],(.R [.mv 6 (.i 0)] [0,1,2] (.R [.m 12 0,.n 13 12,.f 14 13 1,.l 15 14,.m 16 2,.bin 17 .sub 16 (.i 1),.idx 18 16 15 17,.ls 19 18 16,.al 7 Z,.store 7 19 16 false] [0,1,2,7] (.s (.R [.f 20 7 1,.l 21 20,.bin 22 .add 21 (.i 1),.m 8 22] [0,1,2,7,8] (.b 0 [] (.loop [0,1,2,7,8] V8))) T4)))⟩
theorem sa:Aw Tryz.prog 69 EA=true:=by kernel_rfl
def SG:AG:=(.R [.brow 72 42 A_ [],.m 73 0,.n 74 73,.f 75 74 3,.l 76 75,.app 77 42 A_ 72 76,.m 13 77] [0,3,4,11,12,13] (.R [.m 78 13,.f 79 12 0,.l 80 79,.idx 81 9 78 80,.m 14 81] [0,3,4,11,12,13,14] (.R [.m 82 14,.m 83 4,.n 84 82,.f 85 84 4,.store 85 83 1 false] [0,3,4,11,12,13,14] (.R [.m 86 14,.f 87 12 3,.f 88 87 2,.l 89 88,.n 90 86,.f 91 90 5,.store 91 89 1 false] [0,3,4,11,12,13,14] (.R [.m 92 14,.f 93 12 1,.l 94 93,.n 95 92,.f 96 95 6,.store 96 94 1 false] [0,3,4,11,12,13,14] (.R [.m 97 14,.f 98 12 2,.l 99 98,.n 100 97,.f 101 100 7,.store 101 99 1 false] [0,3,4,11,12,13,14] (.seqc [0,3,4,11,13] (.R [.m 102 14,.n 103 102,.f 104 103 0,.l 105 104,.bin 106 .eql 105 (.i 2)] [0,3,4,11,12,13,14,106] (.cond 106 (.r [.m 107 14,.f 108 12 3,.f 109 108 1,.l 110 109,.n 111 107,.f 112 111 8,.store 112 110 1 false] [0,3,4,11,13]) .k)) (.r [.m 113 0,.m 114 13,.n 115 113,.f 116 115 3,.store 116 114 1 false] [0,3,4,11]))))))))
def SH:AG:=(.r [.m 46 11,.bin 47 .add 46 (.i 1),.m 11 47] [0,3,4,11])
def SI:AG:=(.s (.R [.m 42 11,.m 43 3,.len 44 false 43,.b 45 .lss 42 44] [0,3,4,11,45] (.cond 45 .k (.exit 0))) (.s (.b 1 [0,3,4,11] (.R [.m 48 3,.m 49 11,.idx 50 6 48 49,.ls 51 50 6,.al 12 BG,.store 12 51 6 false] [0,3,4,11,12] (.s (.s (.D 20 [(2,[]),(7,[1,6]),(13,[8]),(15,[12,14])] (.tk 9 [.m 60 59,.b 59 .geq 53 58,.len 58 false 57,.l 57 56,.f 56 55 3,.n 55 54,.m 54 0,.l 53 52,.f 52 12 0] (.test 60 (.sk 60 false 10 19 71 (.tk 20 [.pick 71 60 .V 70] .z)) (.tg 60 false 19 [.bin 70 .geq 69 (.i 0),.l 69 68,.f 68 67 4,.idx 67 9 64 66,.l 66 65,.f 65 12 0,.l 64 63,.f 63 62 3,.n 62 61,.m 61 0] (.tk 20 [.pick 71 60 .V 70] .z)))) [0,3,4,11,12,71]) (.cond 71 (.exit 1) .k)) SG))) SH))
def C4:BL:=⟨[.ptr Af,.val Z,.val (.slice AL),.val (.slice BG),.val .W],[],(.R [.box 6 1 false] [0,2,3,4,6] (.R [.brow 15 49 Z [],.m 16 0,.n 17 16,.f 18 17 1,.l 19 18,.app 20 49 Z 15 19,.m 10 20] [0,2,3,4,6,10] (.R [.m 21 10,.f 22 6 0,.l 23 22,.bin 24 .sub 23 (.i 1),.ls 25 6 16,.idx 26 16 21 24,.store 26 25 16 false] [0,2,3,4,10] (.R [.m 27 0,.m 28 10,.n 29 27,.f 30 29 1,.store 30 28 1 false] [0,2,3,4] (.R [.m 31 0,.brow 32 112 AL [],.m 33 0,.n 34 33,.f 35 34 2,.l 36 35,.app 37 112 AL 32 36,.m 38 2,.app 39 112 AL 37 38,.n 40 31,.f 41 40 2,.store 41 39 1 false] [0,3,4] (.R [.mv 11 (.i 0)] [0,3,4,11] (.b 0 [] (.loop [0,3,4,11] SI))))))))⟩
theorem pX:Aw Tryz.prog 70 C4=true:=by kernel_rfl
def V9:BL:=⟨[.val Z],[⟨2,true,Ka⟩],(.R [.box 1 0 true,.al 2 Ka] [1,2] (.R [.f 3 1 0,.l 4 3,.f 5 1 1,.l 6 5,.bnew 7 [.int .i64 0,.int .i64 0,.bool false,.bool false,.bool false,.bool false,.new 3 .W [],.new 45 AK [],.int .i64 0,.int .i64 0,.int .i64 0,.int .i64 0,.str U,.str U,.int .i64 0,.new 3 .W []] [(0,1,4),(1,1,6),(2,1,.V)],.store 2 7 16 false] [2] .e))⟩
theorem ABC:Aw Tryz.prog 71 V9=true:=by kernel_rfl
def QS:BL:=⟨[.ptr Af,.val .W,.val AJ],[⟨6,false,.W⟩],(.R [.box 5 2 false,.mv 6 (.i 0)] [0,1,5] (.s (.R [.m 12 0,.n 13 12,.f 14 13 2,.l 15 14,.len 16 false 15,.bin 17 .eql 16 (.i 0)] [0,1,5,17] (.cond 17 (.R [.mv 6 (.i 1)] [6] .e) .k)) (.s (.D 9 [(2,[]),(7,[1,6])] (.tk 9 [.m 7 25,.b 25 .rem 19 24,.len 24 false 23,.l 23 22,.f 22 21 2,.n 21 20,.m 20 0,.l 19 18,.f 18 5 2] .z) [0,1,5,7]) (.R [.m 26 0,.n 27 26,.f 28 27 2,.l 29 28,.m 30 7,.idx 31 6 29 30,.ls 32 31 6,.al 8 AL,.store 8 32 6 false] [0,1,5,7,8] (.s (.R [.f 33 5 0,.l 34 33,.bin 35 .eql 34 (.i 4)] [0,1,5,7,8,35] (.cond 35 (.s (.D 13 [(1,[]),(2,[]),(6,[1,5]),(7,[]),(9,[6,8]),(10,[0,9])] (.tk 1 [.m 36 0] (.tk 6 [.l 41 40,.f 40 39 2,.n 39 38,.m 38 0] (.tk 8 [.ls 43 8 6] (.O 1 (.brow 37 112 AL []) false [(8,.blst 44 AL [43])] (.O 6 (.app 42 112 AL 37 41) false [(8,.blst 44 AL [43])] (.O 8 (.blst 44 AL [43]) true [] (.O 9 (.app 45 112 AL 42 44) false [] (.tk 12 [.f 47 46 2,.n 46 36] (.O 12 (.store 47 45 1 false) false [] .z))))))))) []) (.R [.mv 6 (.i 0)] [6] .e)) .k)) (.s (.D 20 [(1,[]),(2,[]),(6,[]),(7,[5,6]),(8,[1,7]),(9,[]),(13,[]),(15,[12,14]),(16,[8,15]),(17,[0,16])] (.tk 1 [.m 48 0] (.tk 8 [.sl 55 6 53 none (some 54),.m 54 7,.l 53 52,.f 52 51 2,.n 51 50,.m 50 0] (.tk 16 [.sl 63 6 60 (some 62) none,.bin 62 .add 61 (.i 1),.m 61 7,.l 60 59,.f 59 58 2,.n 58 57,.m 57 0] (.O 1 (.brow 49 112 AL []) false [] (.O 8 (.app 56 112 AL 49 55) false [] (.O 16 (.app 64 112 AL 56 63) false [] (.tk 19 [.f 66 65 2,.n 65 48] (.O 19 (.store 66 64 1 false) false [] .z)))))))) [0,1,5,8]) (.s (.R [.f 67 5 0,.l 68 67,.bin 69 .eql 68 (.i 3)] [0,1,8,69] (.cond 69 (.R [.mv 6 (.i 0)] [6] .e) .k)) (.s (.D 23 [(4,[]),(7,[3,6]),(9,[]),(13,[]),(14,[8,12,13]),(17,[15]),(18,[15]),(19,[]),(20,[16,19]),(21,[17,20]),(22,[18,21])] (.tk 14 [.ls 84 8 6,.l 83 82,.f 82 81 0,.n 81 80,.m 80 0,.ls 79 78 16,.idx 78 16 74 77,.bin 77 .sub 76 (.i 1),.l 76 75,.f 75 8 2,.l 74 73,.f 73 72 1,.n 72 71,.m 71 0] (.O 14 (.cl 85 [79,83,84] vE) false [(19,.al 9 Z)] (.tk 19 [.ext 88 70 2,.ext 87 70 1,.ext 86 70 0,.m 70 85] (.O 19 (.al 9 Z) true [] (.O 20 (.store 9 86 16 false) false [] (.tk 23 [.m 11 88,.m 10 87] .z)))))) [0,1,9,10,11]) (.R [.m 89 0,.ls 90 9 16,.m 91 10,.m 92 11,.m 93 1,.cl 94 [89,90,91,92,93] Kb] [] (.R [.mv 6 (.i 0)] [6] .e))))))))))⟩
theorem xz:Aw Tryz.prog 72 QS=true:=by kernel_rfl
def Qs:AG:=(.s (.R [.m 7 4,.m 8 0,.len 9 false 8,.b 10 .lss 7 9] [0,3,4,10] (.cond 10 .k (.exit 0))) (.s (.b 1 [0,3,4] (.R [.m 13 0,.m 14 4,.idx 15 6 13 14,.ls 16 15 6,.al 5 AL,.store 5 16 6 false] [0,3,4,5] (.R [.brow 17 45 AK [],.f 18 5 5,.l 19 18,.app 20 45 AK 17 19,.f 21 5 5,.store 21 20 1 false] [0,3,4,5] (.r [.m 22 3,.ls 23 5 6,.blst 24 AL [23],.app 25 112 AL 22 24,.m 3 25] [0,3,4])))) (.r [.m 11 4,.bin 12 .add 11 (.i 1),.m 4 12] [0,3,4])))
def Qt:AG:=(.R [.m 26 3,.m 2 26] [2] .e)
def Cv:BL:=⟨[.val (.slice AL)],[⟨2,false,(.slice AL)⟩],(.R [.mv 2 .z] [0] (.R [.brow 6 112 AL [],.m 3 6] [0,3] (.s (.R [.mv 4 (.i 0)] [0,3,4] (.b 0 [3] (.loop [0,3,4] Qs))) Qt)))⟩
theorem j3:Aw Tryz.prog 73 Cv=true:=by kernel_rfl
def Nq:BL:=⟨[.val Z],[⟨2,true,Z⟩],(.R [.box 1 0 false,.al 2 Z] [1,2] (.R [.brow 3 3 .W [],.f 4 1 6,.l 5 4,.app 6 3 .W 3 5,.f 7 1 6,.store 7 6 1 false] [1,2] (.R [.brow 8 45 AK [],.f 9 1 7,.l 10 9,.app 11 45 AK 8 10,.f 12 1 7,.store 12 11 1 false] [1,2] (.R [.brow 13 3 .W [],.f 14 1 9,.f 15 14 6,.l 16 15,.app 17 3 .W 13 16,.f 18 1 9,.f 19 18 6,.store 19 17 1 false] [1,2] (.R [.ls 20 1 16,.store 2 20 16 false] [2] .e)))))⟩
theorem vY:Aw Tryz.prog 74 Nq=true:=by kernel_rfl
def Yt:AG:=(.s (.R [.m 11 4,.m 12 0,.len 13 true 12,.b 14 .lss 11 13] [0,4,14] (.cond 14 .k (.exit 0))) (.s (.b 1 [0,4] (.R [.m 17 0,.m 18 4,.sidx 19 17 18,.bin 20 .lss 19 (.c (.int .u8 32)),.m 21 20,.sc 21 false [.m 22 0,.m 23 4,.sidx 24 22 23,.bin 25 .gtr 24 (.c (.int .u8 126))] 26 .V 25] [0,4,26] (.cond 26 (.R [.mv 2 .z,.mv 3 .F] [2,3] .e) .k))) (.r [.m 15 4,.bin 16 .add 15 (.i 1),.m 4 16] [0,4])))
def V_:AG:=(.R [.b 31 .lss 30 29] [5,28,29,30,31] (.s (.cond 31 .k (.exit 2)) (.s (.b 3 [5,28,29,30] (.R [.idx 32 1 28 30,.l 33 32,.m 7 33] [5,7,28,29,30] (.R [.m 34 7,.bin 35 .neq 34 (.c (.str ⟨#[]⟩))] [5,7,28,29,30,35] (.cond 35 (.r [.m 36 5,.m 37 7,.blst 38 .str [37],.app 39 9 .str 36 38,.m 5 39] [5,28,29,30]) .k)))) (.r [.bin 40 .add 30 (.i 1),.m 30 40] [5,28,29,30]))))
def Nr:AG:=(.s (.R [.m 41 5,.len 42 false 41,.bin 43 .gtr 42 (.i 10)] [5,43] (.cond 43 (.R [.mv 2 .z,.mv 3 .F] [2,3] .e) .k)) (.R [.m 44 5,.m 2 44,.mv 3 .V] [2,3] .e))
def Ns:AG:=(.R [.nilrow 5 9 .str] [0,5] (.s (.R [.m 27 0,.cx (some 28) [27,.c (.str ⟨#[32]⟩)] Rc,.len 29 false 28,.mv 30 (.i 0)] [5,28,29,30] (.b 2 [5] (.loop [5,28,29,30] V_))) Nr))
def Bh:BL:=⟨[.val .str],[⟨2,false,(.slice .str)⟩,⟨3,false,.bool⟩],(.R [.mv 2 .z,.mv 3 .F] [0] (.s (.R [.m 8 0,.len 9 true 8,.bin 10 .gtr 9 (.i 600)] [0,10] (.cond 10 (.R [.mv 2 .z,.mv 3 .F] [2,3] .e) .k)) (.s (.R [.mv 4 (.i 0)] [0,4] (.b 0 [0] (.loop [0,4] Yt))) Ns)))⟩
theorem vZ:Aw Tryz.prog 76 Bh=true:=by kernel_rfl
def HV:BL:=⟨[.val .str,.val .str],[⟨4,false,.bool⟩],(.R [.mv 4 .F] [0,1] (.R [.m 5 0,.m 6 1,.cl 7 [5,6] NZ,.m 4 7] [4] .e))⟩
theorem iH:Aw Tryz.prog 77 HV=true:=by kernel_rfl
def Qu:AG:=(.R [.m 19 1,.idx 20 1 19 (.i 1),.l 21 20,.cl 22 [21] xq,.m 18 22,.ext 23 18 0,.ext 24 18 1,.m 5 23,.m 6 24] [0,5,6] (.R [.m 25 0,.m 26 0,.n 27 26,.f 28 27 0,.l 29 28,.m 30 5,.blst 31 .S [30],.app 32 37 .S 29 31,.n 33 25,.f 34 33 0,.store 34 32 1 false] [0,6] (.R [.m 35 6,.m 36 35,.sc 36 true [.m 37 0,.n 38 37,.f 39 38 0,.l 40 39,.cl 41 [40] Ho] 42 41 .F,.m 4 42] [4] .e)))
def EQ:BL:=⟨[.ptr NU,.val (.slice .str)],[⟨4,false,.bool⟩],(.R [.mv 4 .F] [0,1] (.s (.R [.m 7 1,.len 8 false 7,.bin 9 .neq 8 (.i 2),.m 10 9,.sc 10 false [.m 11 0,.n 12 11,.f 13 12 1,.l 14 13,.len 15 false 14,.bin 16 .gtr 15 (.i 0)] 17 .V 16] [0,1,17] (.cond 17 (.R [.mv 4 .F] [4] .e) .k)) Qu))⟩
theorem j4:Aw Tryz.prog 78 EQ=true:=by kernel_rfl
def Yu:AG:=(.cond 36 (.r [.m 40 6,.f 41 8 1,.store 41 (.i 1) 1 false,.f 42 8 2,.store 42 40 1 false] [2,7,8]) (.R [.bin 44 .eql 35 (.i 1),.m 43 44] [0,2,5,7,8,43] (.cond 43 (.s (.D 7 [(3,[]),(5,[2,4])] (.tk 4 [.f 48 8 3,.l 47 46,.idx 46 1 45 (.i 2),.m 45 0] (.O 4 (.store 48 (.i 2) 1 false) false [] (.tk 6 [.f 49 8 4] (.O 6 (.store 49 47 1 false) false [] .z)))) [0,2,5,7,8]) (.R [.m 50 5,.bin 51 .eql 50 (.i 4)] [0,2,7,8,51] (.cond 51 (.D 7 [(3,[]),(5,[2,4])] (.tk 4 [.f 55 8 3,.l 54 53,.idx 53 1 52 (.i 3),.m 52 0] (.O 4 (.store 55 (.i 1) 1 false) false [] (.tk 6 [.f 56 8 5] (.O 6 (.store 56 54 1 false) false [] .z)))) [2,7,8]) .k))) .k)))
def Yv:DT:=(.tk 6 [.pick 62 59 61 .F] (.O 6 (.store 2 57 6 false) false [] (.tk 8 [.m 3 62] .z)))
def Ps:AG:=(.s (.D 8 [(1,[]),(6,[0,4]),(7,[5,6])] (.tk 3 [.m 59 58,.m 58 7,.ls 57 8 6] (.test 59 (.tg 59 true 4 [.ls 60 8 6] (.only 4 (some (59,true)) (.cl 61 [60] eH) false [] Yv)) (.sk 59 true 2 5 62 Yv))) [2,3]) .e)
def WA:AG:=(.R [.m 26 0,.idx 27 1 26 (.i 1),.l 28 27,.cl 29 [28] Td,.m 25 29,.ext 30 25 0,.ext 31 25 1,.m 6 30,.m 7 31] [0,2,4,5,6,7] (.R [.m 32 4,.m 33 6,.bu 34 AJ [(0,1,32),(1,1,33)],.al 8 AJ,.store 8 34 6 false] [0,2,4,5,6,7,8] (.s (.R [.m 35 4] [0,2,5,6,7,8,35] (.b 0 [2,7,8] (.seqc [0,2,5,6,7,8,35,36] (.R [.bin 37 .eql 35 (.i 2),.m 36 37] [0,2,5,6,7,8,35,36] (.cond 36 .k (.R [.bin 38 .eql 35 (.i 3),.m 36 38] [0,2,5,6,7,8,35,36] (.cond 36 .k (.r [.bin 39 .eql 35 (.i 4),.m 36 39] [0,2,5,6,7,8,35,36]))))) Yu))) Ps)))
def Cw:BL:=⟨[.val (.slice .str)],[⟨2,true,AJ⟩,⟨3,false,.bool⟩],(.R [.al 2 AJ,.mv 3 .F] [0,2] (.R [.m 10 0,.idx 11 1 10 (.i 0),.l 12 11,.cl 13 [12] xr,.m 9 13,.ext 14 9 0,.ext 15 9 1,.m 4 14,.m 5 15] [0,2,4,5] (.s (.R [.m 16 4,.bin 17 .eql 16 (.i 0),.m 18 17,.sc 18 false [.m 19 0,.len 20 false 19,.m 21 5,.b 22 .neq 20 21] 23 .V 22] [0,2,4,5,23] (.cond 23 (.R [.bu 24 AJ [],.store 2 24 6 false,.mv 3 .F] [2,3] .e) .k)) WA)))⟩
theorem vd:Aw Tryz.prog 79 Cw=true:=by kernel_rfl
def WB:AG:=(.s (.R [.m 17 6,.m 18 0,.cx (some 19) [18,.c (.int .i64 3)] C0,.bin 20 .add (.i 1) 19,.b 21 .lss 17 20] [0,3,4,5,6,21] (.cond 21 .k (.exit 2))) (.s (.b 3 [0,3,4,5,6] (.R [.m 24 0,.cx (some 25) [24,.c (.int .i64 4)] C0,.bin 26 .add (.i 1) 25,.m 7 26] [0,3,4,5,6,7] (.R [.m 27 5,.m 28 7,.cl 29 [27,28] Gn,.un 30 .not 29] [0,3,4,5,6,7,30] (.cond 30 (.r [.m 31 5,.m 32 7,.blst 33 .W [32],.app 34 3 .W 31 33,.m 5 34] [0,3,4,5,6]) .k)))) (.r [.m 22 6,.bin 23 .add 22 (.i 1),.m 6 23] [0,3,4,5,6])))
def WC:AG:=(.r [.m 35 3,.m 36 5,.blst 37 .S [36],.app 38 37 .S 35 37,.m 3 38] [0,3,4])
def T5:AG:=(.r [.m 14 4,.bin 15 .add 14 (.i 1),.m 4 15] [0,3,4])
def T6:AG:=(.s (.R [.m 9 4,.m 10 0,.cx (some 11) [10,.c (.int .i64 5)] C0,.bin 12 .add (.i 1) 11,.b 13 .lss 9 12] [0,3,4,13] (.cond 13 .k (.exit 0))) (.s (.b 1 [0,3,4] (.R [.brow 16 3 .W [],.m 5 16] [0,3,4,5] (.s (.R [.mv 6 (.i 0)] [0,3,4,5,6] (.b 2 [0,3,4,5] (.loop [0,3,4,5,6] WB))) WC))) T5))
def T7:AG:=(.R [.m 39 3,.m 2 39] [2] .e)
def CL:BL:=⟨[.ptr Ao],[⟨2,false,(.slice .S)⟩],(.R [.mv 2 .z] [0] (.R [.brow 8 37 .S [],.m 3 8] [0,3] (.s (.R [.mv 4 (.i 0)] [0,3,4] (.b 0 [3] (.loop [0,3,4] T6))) T7)))⟩
theorem se:Aw Tryz.prog 83 CL=true:=by kernel_rfl

def Yw:AG:=(.s (.R [.m 66 6,.m 67 1,.n 68 67,.f 69 68 1,.l 70 69,.len 71 false 70,.b 72 .lss 66 71] [0,1,4,5,6,72] (.cond 72 .k (.exit 1))) (.s (.b 2 [0,1,4,5,6] (.R [.m 75 1,.n 76 75,.f 77 76 1,.l 78 77,.m 79 6,.idx 80 16 78 79,.f 81 80 5,.l 82 81,.m 83 82,.sc 83 true [.m 84 0,.cx (some 85) [84,.c (.int .i64 4)] Hn,.un 86 .not 85] 87 86 .F] [0,1,4,5,6,87] (.cond 87 (.r [.m 88 6,.bin 89 .add 88 (.i 1),.f 90 5 1,.store 90 89 1 false] [0,1,4,5,6]) .k))) (.r [.m 73 6,.bin 74 .add 73 (.i 1),.m 6 74] [0,1,4,5,6])))
def WD:DT:=(.sk 132 true 3 27 136 (.tk 28 [.pick 136 132 135 .F] .z))
def WE:AG:=(.s (.R [.m 93 7,.m 94 1,.n 95 94,.f 96 95 1,.l 97 96,.len 98 false 97,.b 99 .lss 93 98] [0,1,4,5,7,99] (.cond 99 .k (.exit 3))) (.s (.b 4 [0,1,4,5,7] (.R [.m 102 1,.n 103 102,.f 104 103 1,.l 105 104,.m 106 7,.idx 107 16 105 106,.ls 108 107 16,.al 8 Z,.store 8 108 16 false] [0,1,4,5,7,8] (.s (.D 28 [(2,[]),(7,[1,6]),(13,[8]),(15,[12,14]),(19,[8]),(21,[18,20])] (.tk 9 [.m 117 116,.b 116 .lss 110 115,.len 115 false 114,.l 114 113,.f 113 112 0,.n 112 111,.m 111 1,.l 110 109,.f 109 8 1] (.test 117 (.tg 117 true 22 [.b 130 .eql 127 129,.l 129 128,.f 128 8 0,.l 127 126,.idx 126 1 125 (.i 0),.l 125 124,.idx 124 1 121 123,.l 123 122,.f 122 8 1,.l 121 120,.f 120 119 0,.n 119 118,.m 118 1] (.tk 24 [.m 132 131,.pick 131 117 130 .F] (.test 132 (.tg 132 true 25 [.m 133 0] (.only 25 (some (132,true)) (.cx (some 134) [133,.c (.int .i64 3)] Hn) false [] (.tg 132 true 27 [.un 135 .not 134] (.tk 28 [.pick 136 132 135 .F] .z)))) WD))) (.sk 117 true 13 22 131 (.tk 24 [.m 132 131,.pick 131 117 130 .F] WD)))) [0,1,4,5,7,8,136]) (.cond 136 (.r [.f 137 8 0,.l 138 137,.f 139 5 1,.store 139 138 1 false] [0,1,4,5,7]) .k)))) (.r [.m 100 7,.bin 101 .add 100 (.i 1),.m 7 101] [0,1,4,5,7])))
def WF:AG:=(.R [.ls 140 5 6,.store 4 140 6 false] [4] .e)
def WG:AG:=(.s (.R [.f 47 5 0,.l 48 47] [0,1,4,5,48] (.b 0 [4,5] (.R [.bin 50 .eql 48 (.i 1),.m 49 50] [0,1,4,5,48,49] (.cond 49 (.R [.m 51 0,.brow 52 3 .W [.c (.int .i64 1),.c (.int .i64 1),.c (.int .i64 2)],.cl 53 [51,52] VZ,.f 54 5 3,.store 54 53 1 false] [0,1,4,5] (.R [.m 55 0,.brow 56 9 .str [.c (.str ⟨#[97]⟩),.c (.str ⟨#[98]⟩),.c (.str ⟨#[99]⟩)],.cl 57 [55,56] J8,.f 58 5 4,.store 58 57 1 false] [0,1,4,5] (.seqc [0,1,4,5] (.R [.f 59 5 3,.l 60 59,.bin 61 .eql 60 (.i 1)] [0,1,4,5,61] (.cond 61 (.r [.m 62 0,.brow 63 9 .str [.c (.str ⟨#[118]⟩),.c (.str ⟨#[119]⟩),.c (.str ⟨#[120]⟩),.c (.str ⟨#[121]⟩)],.cl 64 [62,63] J8,.f 65 5 5,.store 65 64 1 false] [0,1,4,5]) .k)) (.R [.mv 6 (.i 0)] [0,1,4,5,6] (.b 1 [4,5] (.loop [0,1,4,5,6] Yw)))))) (.R [.bin 92 .eql 48 (.i 5),.m 91 92] [0,1,4,5,91] (.cond 91 (.R [.mv 7 (.i 0)] [0,1,4,5,7] (.b 3 [4,5] (.loop [0,1,4,5,7] WE))) .k)))))) WF)
def WH:AG:=(.seqc [0,1,4,5] (.R [.f 39 5 0,.l 40 39,.bin 41 .eql 40 (.i 2),.m 42 41,.sc 42 true [.m 43 0,.cx (some 44) [43,.c (.int .i64 2)] Hn] 45 44 .F] [0,1,4,5,45] (.cond 45 (.r [.f 46 5 2,.store 46 (.i 0) 1 false] [0,1,4,5]) .k)) WG)
def WI:AG:=(.seqc [0,1,4,5] (.R [.m 18 1,.n 19 18,.f 20 19 2,.l 21 20,.len 22 false 21,.bin 23 .eql 22 (.i 0),.m 24 23,.sc 24 true [.f 25 5 0,.l 26 25,.cx (some 27) [26,.c (.int .i64 2),.c (.int .i64 4)] BD] 28 27 .F] [0,1,4,5,28] (.cond 28 (.r [.f 29 5 0,.store 29 (.i 1) 1 false] [0,1,4,5]) .k)) (.seqc [0,1,4,5] (.R [.f 30 5 0,.l 31 30,.bin 32 .eql 31 (.i 6),.m 33 32,.sc 33 true [.m 34 0,.cx (some 35) [34,.c (.int .i64 4)] Hn,.un 36 .not 35] 37 36 .F] [0,1,4,5,37] (.cond 37 (.r [.f 38 5 0,.store 38 (.i 1) 1 false] [0,1,4,5]) .k)) WH))
def Bi:BL:=⟨[.ptr Ao,.ptr Af],[⟨4,true,AJ⟩],(.R [.al 4 AJ] [0,1,4] (.R [.m 9 0,.blst 10 .W [.c (.int .i64 1),.c (.int .i64 1),.c (.int .i64 1),.c (.int .i64 2),.c (.int .i64 2),.c (.int .i64 2),.c (.int .i64 2),.c (.int .i64 2),.c (.int .i64 2),.c (.int .i64 2),.c (.int .i64 2),.c (.int .i64 3),.c (.int .i64 4),.c (.int .i64 5),.c (.int .i64 6)],.cl 11 [9,10] VZ,.m 12 0,.cx (some 13) [12,.c (.int .i64 4)] C0,.bin 14 .add (.i 1) 13,.m 15 0,.cx (some 16) [15,.c (.int .i64 20)] C0,.bu 17 AJ [(0,1,11),(1,1,14),(2,1,16)],.al 5 AJ,.store 5 17 6 false] [0,1,4,5] WI))⟩
theorem ve:Aw Tryz.prog 84 Bi=true:=by kernel_rfl
def Nt:BL:=⟨[.ptr Ao],[⟨2,false,.W⟩],(.R [.mv 2 (.i 0)] [0] (.R [.m 4 0,.m 5 0,.n 6 5,.f 7 6 2,.l 8 7,.bin 9 .mul 8 (.i 6364136223846793005),.bin 10 .add 9 (.i 1442695040888963407),.n 11 4,.f 12 11 2,.store 12 10 1 false] [0] (.s (.D 13 [(5,[]),(10,[4,9])] (.tk 13 [.m 3 24,.bin 24 .and 23 (.i 255),.b 23 .xor 17 22,.bin 22 .shr 21 (.c (.int .u64 45)),.l 21 20,.f 20 19 2,.n 19 18,.m 18 0,.bin 17 .shr 16 (.c (.int .u64 33)),.l 16 15,.f 15 14 2,.n 14 13,.m 13 0] .z) [0,3]) (.seqc [3] (.s (.D 10 [(4,[]),(9,[3,8])] (.tk 10 [.b 34 .lss 28 33,.len 33 false 32,.l 32 31,.f 31 30 0,.n 30 29,.m 29 0,.l 28 27,.f 27 26 1,.n 26 25,.m 25 0] .z) [0,3,34]) (.cond 34 (.s (.D 15 [(1,[]),(5,[]),(9,[4,8]),(12,[0,11])] (.tk 15 [.m 3 48,.bin 48 .and 47 (.i 255),.b 47 .add 35 46,.cvi 46 .i64 45,.l 45 44,.idx 44 1 39 43,.l 43 42,.f 42 41 1,.n 41 40,.m 40 0,.l 39 38,.f 38 37 0,.n 37 36,.m 36 0,.m 35 3] .z) [0,3]) (.r [.m 49 0,.m 50 0,.n 51 50,.f 52 51 1,.l 53 52,.bin 54 .add 53 (.i 1),.n 55 49,.f 56 55 1,.store 56 54 1 false] [3])) .k)) (.R [.m 57 3,.m 2 57] [2] .e)))))⟩
theorem vf:Aw Tryz.prog 85 Nt=true:=by kernel_rfl
def eR:AG:=(.s (.R [.m 6 5,.m 7 0,.len 8 false 7,.b 9 .lss 6 8] [0,1,5,9] (.cond 9 .k (.exit 0))) (.s (.b 1 [0,1,5] (.R [.m 12 0,.m 13 5,.idx 14 1 12 13,.l 15 14,.m 16 1,.b 17 .eql 15 16] [0,1,5,17] (.cond 17 (.R [.mv 4 .V] [4] .e) .k))) (.r [.m 10 5,.bin 11 .add 10 (.i 1),.m 5 11] [0,1,5])))
def eS:AG:=(.R [.mv 4 .F] [4] .e)
def Gr:BL:=⟨[.val .S,.val .W],[⟨4,false,.bool⟩],(.R [.mv 4 .F] [0,1] (.s (.R [.mv 5 (.i 0)] [0,1,5] (.b 0 [] (.loop [0,1,5] eR))) eS))⟩
theorem zx:Aw Tryz.prog 86 Gr=true:=by kernel_rfl
def La:AG:=(.R [.b 9 .lss 8 7] [0,1,7,8,9] (.s (.cond 9 .k (.exit 0)) (.s (.b 1 [0,1,7,8] (.R [.m 10 8,.m 5 10] [0,1,5,7,8] (.R [.m 11 1,.m 12 0,.m 13 5,.idx 14 1 12 13,.l 15 14,.b 16 .eql 11 15] [0,1,5,7,8,16] (.cond 16 (.R [.m 17 5,.m 4 17] [4] .e) .k)))) (.r [.bin 18 .add 8 (.i 1),.m 8 18] [0,1,7,8]))))
def Lb:AG:=(.R [.mv 4 (.c (.int .i64 (-1)))] [4] .e)
def B3:BL:=⟨[.val .S,.val .W],[⟨4,false,.W⟩],(.R [.mv 4 (.i 0)] [0,1] (.s (.R [.m 6 0,.len 7 false 6,.mv 8 (.i 0)] [0,1,7,8] (.b 0 [] (.loop [0,1,7,8] La))) Lb))⟩
theorem aa:Aw Tryz.prog 87 B3=true:=by kernel_rfl
def EG:BL:=⟨[.val .S,.val .W],[⟨4,false,.bool⟩],(.R [.mv 4 .F] [0,1] (.R [.m 5 0,.m 6 1,.cl 7 [5,6] NX,.bin 8 .geq 7 (.i 0),.m 4 8] [4] .e))⟩
theorem VM:Aw Tryz.prog 89 EG=true:=by kernel_rfl
def TE:BL:=⟨[.val .str],[⟨2,false,.bool⟩],(.R [.mv 2 .F] [0] (.R [.m 3 0,.len 4 true 3,.cx (some 5) [4,.c (.int .i64 1),.c (.int .i64 12)] BH,.m 2 5] [2] .e))⟩
theorem zy:Aw Tryz.prog 90 TE=true:=by kernel_rfl
def eT:DT:=(.O 4 (.store 12 106 16 false) false [] (.tk 8 [.mv 15 .V,.mv 14 .z,.m 13 109] .z))
def eU:AG:=(.s (.R [.m 100 18,.len 101 false 100,.bin 102 .eql 101 (.i 0)] [12,16,18,20,102] (.cond 102 (.R [.cl 103 [16] Te,.m 21 103] [12,16,21] (.R [.ls 104 16 16,.m 105 21,.store 12 104 16 false,.mv 13 .z,.m 14 105,.mv 15 .V] [12,13,14,15] .e)) .k)) (.s (.D 8 [(1,[]),(2,[]),(3,[1,2]),(4,[0,3])] (.tk 3 [.ls 108 20 6,.m 107 18] (.fork 0 (.ls 106 16 16) (.O 3 (.cl 109 [16,107,108] Bt) false [] eT) 3 (.cl 109 [16,107,108] Bt) (.tk 1 [.ls 106 16 16] eT))) [12,13,14,15]) .e))
def bP:AG:=(.R [.m 71 1,.f 72 6 1,.l 73 72,.bin 74 .sub 73 (.i 1),.idx 75 1 71 74,.l 76 75,.cl 77 [16,76] Gp,.m 18 77] [2,3,12,16,17,18] (.R [.m 78 18,.cl 79 [78] C3,.m 19 79] [2,3,12,16,17,18,19] (.R [.m 80 19,.cl 81 [80] PF] [2,3,12,16,17,18,19] (.R [.m 82 2,.m 83 3,.f 84 16 8,.l 85 84,.ls 86 17 3,.m 87 19,.bu 88 NT [(0,1,82),(1,1,83),(2,1,85),(3,3,86),(6,1,87)],.f 89 16 9,.store 89 88 7 false] [2,12,16,17,18] (.R [.f 90 16 8,.l 91 90,.bu 92 AL [(0,1,.c (.int .i64 7)),(4,1,91)],.al 20 AL,.store 20 92 6 false] [2,12,16,17,18,20] (.seqc [12,16,18,20] (.R [.m 93 2,.bin 94 .eql 93 (.i 1)] [12,16,17,18,20,94] (.cond 94 (.r [.f 95 16 8,.l 96 95,.ls 97 17 3,.brow 98 45 AK [97],.bu 99 AL [(0,1,.c (.int .i64 5)),(4,1,96),(5,1,98)],.store 20 99 6 false] [12,16,18,20]) .k)) eU))))))
def bQ:AG:=(.R [.ls 39 6 16,.cl 40 [39] Gm,.al 16 Z,.store 16 40 16 false] [1,2,3,4,5,6,12,16] (.R [.f 41 16 8,.l 42 41,.bin 43 .add 42 (.i 1),.f 44 16 8,.store 44 43 1 false] [1,2,3,4,5,6,12,16] (.R [.m 45 4,.m 46 5,.f 47 6 1,.l 48 47,.bin 49 .mul (.i 1000) 48,.f 50 16 8,.l 51 50,.b 52 .add 49 51,.bu 53 AK [(0,1,45),(1,1,46),(2,1,52)],.al 17 AK,.store 17 53 3 false] [1,2,3,4,6,12,16,17] (.s (.R [.m 54 2,.bin 55 .eql 54 (.i 1),.m 56 55,.sc 56 true [.f 57 6 7,.l 58 57,.len 59 false 58,.bin 60 .eql 59 (.i 12)] 61 60 .F,.m 62 61,.sc 62 true [.f 63 6 7,.l 64 63,.m 65 4,.cl 66 [64,65] jJ,.bu 67 AK [],.eqs 68 false AK 66 67] 69 68 .F] [1,2,3,6,12,16,17,69] (.cond 69 (.R [.bu 70 Z [],.store 12 70 16 false,.mv 13 .z,.mv 14 .z,.mv 15 .F] [12,13,14,15] .e) .k)) bP))))
def Eb:BL:=⟨[.val Z,.val (.slice .S),.val .W,.val .W,.val .str,.val .str],[⟨12,true,Z⟩,⟨13,false,(.slice AL)⟩,⟨14,false,(.slice BG)⟩,⟨15,false,.bool⟩],(.R [.box 6 0 false,.al 12 Z,.mv 13 .z,.mv 14 .z,.mv 15 .F] [1,2,3,4,5,6,12] (.s (.R [.ls 22 6 16,.cl 23 [22] Rd,.un 24 .not 23,.m 25 24,.sc 25 false [.m 26 1,.cl 27 [6,26] aY,.un 28 .not 27] 29 .V 28,.m 30 29,.sc 30 false [.m 31 2,.m 32 3,.m 33 4,.m 34 5,.cl 35 [31,32,33,34] mN,.un 36 .not 35] 37 .V 36] [1,2,3,4,5,6,12,37] (.cond 37 (.R [.bu 38 Z [],.store 12 38 16 false,.mv 13 .z,.mv 14 .z,.mv 15 .F] [12,13,14,15] .e) .k)) bQ))⟩
theorem zz:Aw Tryz.prog 91 Eb=true:=by kernel_rfl
def SJ:AG:=(.s (.D 8 [(4,[]),(6,[3,5])] (.tk 8 [.m 10 54,.idx 54 9 51 53,.l 53 52,.f 52 9 0,.l 51 50,.f 50 49 3,.n 49 48,.m 48 0] .z) [0,3,9,10,20,21,22]) (.s (.D 24 [(1,[]),(2,[]),(3,[]),(4,[]),(5,[]),(8,[]),(10,[]),(12,[0,4]),(15,[1,7,14]),(18,[2,9,17]),(21,[3,11,20])] (.tk 14 [.f 68 67 4,.n 67 55,.l 66 65,.f 65 9 2,.l 64 63,.f 63 9 1,.l 62 61,.f 61 60 2,.f 60 9 3,.m 59 3,.m 58 10,.m 57 10,.m 56 10,.m 55 10] (.O 14 (.store 68 59 1 false) false [] (.tk 17 [.f 70 69 5,.n 69 56] (.O 17 (.store 70 62 1 false) false [] (.tk 20 [.f 72 71 6,.n 71 57] (.O 20 (.store 72 64 1 false) false [] (.tk 23 [.f 74 73 7,.n 73 58] (.O 23 (.store 74 66 1 false) false [] .z)))))))) [0,3,9,10,20,21,22]) (.R [.m 75 10,.n 76 75,.f 77 76 0,.l 78 77,.bin 79 .eql 78 (.i 2)] [0,3,9,10,20,21,22,79] (.cond 79 (.r [.m 80 10,.f 81 9 3,.f 82 81 1,.l 83 82,.n 84 80,.f 85 84 8,.store 85 83 1 false] [0,3,20,21,22]) .k))))
def SK:AG:=(.r [.bin 86 .add 22 (.i 1),.m 22 86] [0,3,20,21,22])
def SL:AG:=(.R [.b 23 .lss 22 21] [0,3,20,21,22,23] (.s (.cond 23 .k (.exit 0)) (.s (.b 1 [0,3,20,21,22] (.R [.idx 24 6 20 22,.ls 25 24 6,.al 9 BG,.store 9 25 6 false] [0,3,9,20,21,22] (.s (.s (.D 22 [(2,[]),(8,[1,7]),(15,[10]),(17,[14,16])] (.tk 8 [.bin 33 .sub 32 (.i 1),.len 32 false 31,.l 31 30,.f 30 29 3,.n 29 28,.m 28 0,.l 27 26,.f 26 9 0] (.O 8 (.cx (some 34) [27,.c (.int .i64 0),33] BH) false [] (.tk 11 [.m 36 35,.un 35 .not 34] (.test 36 (.sk 36 false 10 21 47 (.tk 22 [.pick 47 36 .V 46] .z)) (.tg 36 false 21 [.bin 46 .neq 45 (.c (.int .i64 (-1))),.l 45 44,.f 44 43 4,.idx 43 9 40 42,.l 42 41,.f 41 9 0,.l 40 39,.f 39 38 3,.n 38 37,.m 37 0] (.tk 22 [.pick 47 36 .V 46] .z)))))) [0,3,9,20,21,22,47]) (.cond 47 (.exit 1) .k)) SJ))) SK)))
def Cl:BL:=⟨[.ptr Al,.val (.slice AL),.val (.slice BG),.val .W],[],(.R [.m 11 0,.m 12 0,.n 13 12,.f 14 13 2,.l 15 14,.m 16 1,.app 17 112 AL 15 16,.n 18 11,.f 19 18 2,.store 19 17 1 false] [0,2,3] (.R [.m 20 2,.len 21 false 20,.mv 22 (.i 0)] [0,3,20,21,22] (.b 0 [] (.loop [0,3,20,21,22] SL))))⟩
theorem mV:Aw Tryz.prog 92 Cl=true:=by kernel_rfl
def eV:DT:=(.sk 33 false 10 32 44 (.tk 33 [.pick 44 33 .V 43] .z))
def bR:DT:=(.sk 27 false 4 20 32 (.tk 22 [.m 33 32,.pick 32 27 .V 31] eV))
def bS:DT:=(.sk 20 false 5 14 26 (.tk 16 [.m 27 26,.pick 26 20 .V 25] bR))
def bT:DT:=(.O 9 (.store 6 74 16 false) false [] (.tk 12 [.mv 8 .V,.m 7 82] .z))
def bU:DT:=(.O 8 (.cl 82 [9,80,81] Bt) false [] bT)
def bV:AG:=(.R [.cl 57 [9] Na] [1,2,6,9,10] (.R [.m 58 2,.f 59 9 1,.store 59 58 1 false,.f 60 9 2,.store 60 .F 1 false,.f 61 9 3,.store 61 .F 1 false,.f 62 9 4,.store 62 .V 1 false] [1,2,6,9,10] (.s (.R [.m 63 10] [1,2,6,9,63] (.cond 63 (.s (.D 9 [(1,[]),(3,[0,2]),(5,[]),(7,[4,6])] (.tk 7 [.l 70 69,.f 69 9 7,.l 68 67,.idx 67 1 64 66,.bin 66 .sub 65 (.i 1),.m 65 2,.m 64 1] (.O 7 (.cl 71 [9,68,70] Nb) false [] (.tk 9 [.m 11 71] .z))) [6,9,11]) (.R [.ls 72 9 16,.m 73 11,.store 6 72 16 false,.m 7 73,.mv 8 .V] [6,7,8] .e)) .k)) (.s (.D 12 [(1,[]),(2,[]),(4,[1,3]),(7,[]),(8,[6,7]),(9,[0,8])] (.tk 6 [.l 79 78,.idx 78 1 75 77,.bin 77 .sub 76 (.i 2),.m 76 2,.m 75 1] (.tk 8 [.bu 81 AL [(0,1,.c (.int .i64 1))]] (.fork 0 (.ls 74 9 16) (.O 6 (.cl 80 [9,79] Gp) false [] bU) 6 (.cl 80 [9,79] Gp) (.fork 0 (.ls 74 9 16) bU 8 (.cl 82 [9,80,81] Bt) (.tk 1 [.ls 74 9 16] bT))))) [6,7,8]) .e))))
def bW:AG:=(.R [.ls 46 3 16,.cl 47 [46] Gm,.al 9 Z,.store 9 47 16 false] [1,2,3,6,9] (.R [.f 48 3 3,.l 49 48,.m 50 49,.sc 50 true [.f 51 3 1,.l 52 51,.m 53 2,.bin 54 .sub 53 (.i 1),.b 55 .eql 52 54] 56 55 .F,.m 10 56] [1,2,6,9,10] bV))
def Gs:BL:=⟨[.val Z,.val (.slice .S),.val .W],[⟨6,true,Z⟩,⟨7,false,(.slice AL)⟩,⟨8,false,.bool⟩],(.R [.box 3 0 false,.al 6 Z,.mv 7 .z,.mv 8 .F] [1,2,3,6] (.s (.s (.D 33 [(10,[8]),(12,[9,11]),(17,[15]),(19,[16,18]),(23,[21]),(25,[22,24]),(29,[21]),(31,[28,30])] (.tk 1 [.ls 12 3 16] (.O 1 (.cl 13 [12] Rd) false [] (.tk 4 [.m 15 14,.un 14 .not 13] (.test 15 (.sk 15 false 3 7 19 (.tk 9 [.m 20 19,.pick 19 15 .V 18] bS)) (.tg 15 false 5 [.m 16 1] (.only 5 (some (15,false)) (.cl 17 [16] Ho) false [] (.tg 15 false 7 [.un 18 .not 17] (.tk 9 [.m 20 19,.pick 19 15 .V 18] (.test 20 bS (.tg 20 false 12 [.len 23 false 22,.m 22 1,.m 21 2] (.only 12 (some (20,false)) (.cx (some 24) [21,.c (.int .i64 2),23] BH) false [] (.tg 20 false 14 [.un 25 .not 24] (.tk 16 [.m 27 26,.pick 26 20 .V 25] (.test 27 bR (.tg 27 false 20 [.b 31 .leq 28 30,.l 30 29,.f 29 3 1,.m 28 2] (.tk 22 [.m 33 32,.pick 32 27 .V 31] (.test 33 eV (.tg 33 false 32 [.b 43 .neq 40 42,.l 42 41,.f 41 3 0,.l 40 39,.idx 39 1 38 (.i 0),.l 38 37,.idx 37 1 34 36,.bin 36 .sub 35 (.i 1),.m 35 2,.m 34 1] (.tk 33 [.pick 44 33 .V 43] .z))))))))))))))))))) [1,2,3,6,44]) (.cond 44 (.R [.bu 45 Z [],.store 6 45 16 false,.mv 7 .z,.mv 8 .F] [6,7,8] .e) .k)) bW))⟩
theorem z_:Aw Tryz.prog 93 Gs=true:=by kernel_rfl
def Da:AG:=(.R [.b 9 .lss 8 7] [0,1,7,8,9] (.s (.cond 9 .k (.exit 0)) (.s (.b 1 [0,1,7,8] (.R [.m 10 8,.m 5 10] [0,1,5,7,8] (.R [.m 11 1,.m 12 0,.m 13 5,.idx 14 16 12 13,.ls 15 14 16,.call (some 16) 95 [(.t 15,.bor Z),(.t 11,.cap 95 .W)] [.bool]] [0,1,5,7,8,16] (.cond 16 (.R [.m 17 5,.m 4 17] [4] .e) .k)))) (.r [.bin 18 .add 8 (.i 1),.m 8 18] [0,1,7,8]))))
def Db:AG:=(.R [.mv 4 (.c (.int .i64 (-1)))] [4] .e)
def Ag:BL:=⟨[.val (.slice Z),.val (.clo 95 .W)],[⟨4,false,.W⟩],(.R [.mv 4 (.i 0)] [0,1] (.s (.R [.m 6 0,.len 7 false 6,.mv 8 (.i 0)] [0,1,7,8] (.b 0 [] (.loop [0,1,7,8] Da))) Db))⟩
theorem IX:Aw Tryz.prog 94 Ag=true:=by kernel_rfl
def GJ:BL:=⟨[.val Z,.val .W],[⟨3,false,.bool⟩],(.R [.box 2 0 false,.mv 3 .F] [1,2] (.R [.f 4 2 0,.l 5 4,.l 6 1,.b 7 .eql 5 6,.m 3 7] [3] .e))⟩
theorem dP:Aw Tryz.prog 95 GJ=true:=by kernel_rfl
def Gt:BL:=⟨[.ptr Al,.val .W,.val .W],[],(.R [.m 11 0,.n 12 11,.f 13 12 2,.l 14 13,.m 15 1,.idx 16 6 14 15,.ls 17 16 6,.al 6 AL,.store 6 17 6 false] [0,1,2,6] (.R [.m 18 0,.m 19 0,.n 20 19,.f 21 20 2,.l 22 21,.m 23 1,.m 24 1,.bin 25 .add 24 (.i 1),.cl 26 [22,23,25] GU,.n 27 18,.f 28 27 2,.store 28 26 1 false] [0,2,6] (.R [.m 29 0,.f 30 6 2,.l 31 30,.cl 32 [29,31] HT,.m 7 32] [0,2,6,7] (.R [.m 33 7,.bin 34 .geq 33 (.i 0)] [0,2,6,7,34] (.cond 34 (.s (.D 21 [(4,[]),(5,[3,4]),(7,[]),(11,[]),(12,[6,10,11]),(15,[13]),(16,[13]),(17,[]),(18,[14,17]),(19,[15,18]),(20,[16,19])] (.tk 12 [.ls 47 6 6,.l 46 45,.f 45 44 0,.n 44 43,.m 43 0,.ls 42 41 16,.idx 41 16 39 40,.m 40 7,.l 39 38,.f 38 37 1,.n 37 36,.m 36 0] (.O 12 (.cl 48 [42,46,47] vF) false [(17,.al 8 Z)] (.tk 17 [.ext 51 35 2,.ext 50 35 1,.ext 49 35 0,.m 35 48] (.O 17 (.al 8 Z) true [] (.O 18 (.store 8 49 16 false) false [] (.tk 21 [.m 10 51,.m 9 50] .z)))))) [0,2,7,8,9,10]) (.s (.D 8 [(4,[]),(5,[]),(6,[3,4,5])] (.tk 7 [.idx 58 16 55 56,.ls 57 8 16,.m 56 7,.l 55 54,.f 54 53 1,.n 53 52,.m 52 0] (.O 7 (.store 58 57 16 false) false [] .z)) [0,2,9,10]) (.r [.m 59 0,.m 60 9,.m 61 10,.m 62 2,.cl 63 [59,60,61,62] NY] []))) .k)))))⟩
theorem eW:Aw Tryz.prog 96 Gt=true:=by kernel_rfl
def eX:DT:=(.sk 88 false 11 75 100 (.tk 76 [.pick 100 88 .V 99] .z))
def bX:DT:=(.sk 81 false 5 62 87 (.tk 64 [.m 88 87,.pick 87 81 .V 86] eX))
def bY:DT:=(.sk 73 false 3 52 77 (.sk 76 true 2 54 79 (.sk 73 false 1 55 80 (.tk 57 [.m 81 80,.pick 80 73 .V 79] bX))))
def bZ:DT:=(.sk 68 false 3 47 72 (.tk 49 [.m 73 72,.pick 72 68 .V 71] bY))
def ba:DT:=(.sk 62 false 4 42 67 (.tk 44 [.m 68 67,.pick 67 62 .V 66] bZ))
def bc:DT:=(.sk 57 false 3 36 61 (.tk 38 [.m 62 61,.pick 61 57 .V 60] ba))
def bd:DT:=(.sk 49 false 3 28 53 (.sk 52 true 2 30 55 (.sk 49 false 1 31 56 (.tk 33 [.m 57 56,.pick 56 49 .V 55] bc))))
def be:DT:=(.sk 44 false 3 23 48 (.tk 25 [.m 49 48,.pick 48 44 .V 47] bd))
def bf:DT:=(.sk 38 false 4 18 43 (.tk 20 [.m 44 43,.pick 43 38 .V 42] be))
def bg:DT:=(.sk 33 false 3 12 37 (.tk 14 [.m 38 37,.pick 37 33 .V 36] bf))
def bh:DT:=(.tg 81 false 62 [.b 86 .gtr 83 85,.len 85 false 84,.m 84 1,.l 83 82,.f 82 6 1] (.tk 64 [.m 88 87,.pick 87 81 .V 86] (.test 88 eX (.tg 88 false 75 [.b 99 .neq 96 98,.l 98 97,.f 97 6 0,.l 96 95,.idx 95 1 94 (.i 0),.l 94 93,.idx 93 1 89 92,.bin 92 .sub 91 (.i 1),.l 91 90,.f 90 6 1,.m 89 1] (.tk 76 [.pick 100 88 .V 99] .z)))))
def Yx:DT:=(.tg 57 false 34 [.m 58 3] (.only 34 (some (57,false)) (.cx (some 59) [58,.c (.int .i64 0),.c (.int .i64 1000)] BD) false [] (.tg 57 false 36 [.un 60 .not 59] (.tk 38 [.m 62 61,.pick 61 57 .V 60] (.test 62 ba (.tg 62 false 40 [.len 64 true 63,.m 63 4] (.only 40 (some (62,false)) (.cx (some 65) [64,.c (.int .i64 1),.c (.int .i64 12)] BD) false [] (.tg 62 false 42 [.un 66 .not 65] (.tk 44 [.m 68 67,.pick 67 62 .V 66] (.test 68 bZ (.tg 68 false 47 [.bin 71 .gtr 70 (.i 20),.len 70 true 69,.m 69 5] (.tk 49 [.m 73 72,.pick 72 68 .V 71] (.test 73 bY (.tg 73 false 52 [.m 76 75,.bin 75 .eql 74 (.i 2),.m 74 2] (.test 76 (.tg 76 true 54 [.bin 78 .neq 77 (.c (.str ⟨#[]⟩)),.m 77 5] (.tg 73 false 55 [.pick 79 76 78 .F] (.tk 57 [.m 81 80,.pick 80 73 .V 79] (.test 81 bX bh)))) (.sk 76 true 2 54 79 (.tg 73 false 55 [.pick 79 76 78 .F] (.tk 57 [.m 81 80,.pick 80 73 .V 79] bh))))))))))))))))))
def Pt:AG:=(.s (.R [.m 160 21,.m 161 20,.len 162 false 161,.b 163 .lss 160 162] [2,6,12,16,17,18,19,20,21,163] (.cond 163 .k (.exit 0))) (.s (.b 1 [2,6,12,16,17,18,19,20,21] (.s (.s (.D 7 [(1,[]),(2,[0,1]),(4,[]),(6,[3,5])] (.tk 7 [.b 172 .eql 169 171,.l 171 170,.f 170 6 0,.l 169 168,.idx 168 1 166 167,.m 167 21,.m 166 20] .z) [2,6,12,16,17,18,19,20,21,172]) (.cond 172 (.exit 1) .k)) (.s (.D 13 [(2,[]),(3,[]),(4,[2,3]),(6,[]),(8,[]),(10,[1,5,7,9]),(11,[]),(12,[10,11])] (.tk 11 [.bu 183 AL [(0,1,.c (.int .i64 7)),(1,1,174),(2,1,178),(3,1,180),(4,1,182)],.l 182 181,.f 181 18 8,.l 180 179,.f 179 6 1,.l 178 177,.idx 177 1 175 176,.m 176 21,.m 175 20,.l 174 173,.f 173 6 0] (.O 11 (.al 22 AL) false [] (.O 12 (.store 22 183 6 false) false [] .z))) [2,6,12,16,17,18,19,20,21,22]) (.seqc [2,6,12,16,17,18,19,20,21,22] (.R [.m 184 2,.bin 185 .eql 184 (.i 1)] [2,6,12,16,17,18,19,20,21,22,185] (.cond 185 (.R [.f 186 22 0,.store 186 (.i 5) 1 false] [2,6,12,16,17,18,19,20,21,22] (.r [.ls 187 19 3,.brow 188 45 AK [187],.f 189 22 5,.store 189 188 1 false] [2,6,12,16,17,18,19,20,21,22])) .k)) (.r [.m 190 16,.ls 191 22 6,.blst 192 AL [191],.app 193 112 AL 190 192,.m 16 193] [2,6,12,16,17,18,19,20,21]))))) (.r [.m 164 21,.bin 165 .add 164 (.i 1),.m 21 165] [2,6,12,16,17,18,19,20,21])))
def Yy:AG:=(.R [.ls 194 18 16,.m 195 16,.m 196 17,.store 12 194 16 false,.m 13 195,.m 14 196,.mv 15 .V] [12,13,14,15] .e)
def Pu:AG:=(.R [.m 134 1,.f 135 6 1,.l 136 135,.bin 137 .sub 136 (.i 1),.idx 138 1 134 137,.l 139 138,.m 20 139] [2,3,6,12,16,17,18,19,20] (.s (.D 12 [(1,[]),(2,[]),(4,[]),(5,[]),(6,[]),(8,[5,7]),(9,[0,1,3,4,8])] (.tk 8 [.l 147 146,.f 146 6 0,.m 145 20,.ls 144 19 3,.l 143 142,.f 142 18 8,.m 141 3,.m 140 2] (.O 8 (.cl 148 [145,147] YW) false [] (.tk 11 [.f 150 18 9,.bu 149 NT [(0,1,140),(1,1,141),(2,1,143),(3,3,144),(6,1,148)]] (.O 11 (.store 150 149 7 false) false [] .z)))) [2,6,12,16,17,18,19,20]) (.s (.R [.f 151 18 9,.f 152 151 6,.l 153 152,.len 154 false 153,.bin 155 .eql 154 (.i 0)] [2,6,12,16,17,18,19,20,155] (.cond 155 (.R [.cl 156 [18] YX,.m 17 156] [12,16,17,18] (.R [.ls 157 18 16,.m 158 16,.m 159 17,.store 12 157 16 false,.m 13 158,.m 14 159,.mv 15 .V] [12,13,14,15] .e)) .k)) (.s (.R [.mv 21 (.i 0)] [2,6,12,16,17,18,19,20,21] (.b 0 [12,16,17,18] (.loop [2,6,12,16,17,18,19,20,21] Pt))) Yy))))
def Yz:AG:=(.R [.ls 104 6 16,.cl 105 [104] Hp,.al 18 Z,.store 18 105 16 false] [1,2,3,4,5,6,12,16,17,18] (.R [.f 106 6 8,.l 107 106,.bin 108 .add 107 (.i 1),.f 109 18 8,.store 109 108 1 false] [1,2,3,4,5,6,12,16,17,18] (.R [.m 110 4,.m 111 5,.f 112 6 1,.l 113 112,.bin 114 .mul (.i 1000) 113,.f 115 18 8,.l 116 115,.b 117 .add 114 116,.bu 118 AK [(0,1,110),(1,1,111),(2,1,117)],.al 19 AK,.store 19 118 3 false] [1,2,3,4,6,12,16,17,18,19] (.s (.s (.D 12 [(5,[2]),(6,[4,5]),(7,[2]),(8,[6,7]),(9,[2]),(10,[8,9])] (.tk 3 [.m 121 120,.bin 120 .eql 119 (.i 1),.m 119 2] (.test 121 (.tg 121 true 6 [.ls 124 19 3,.l 123 122,.f 122 6 7] (.tg 121 true 8 [.m 126 4] (.tg 121 true 10 [.ls 128 19 3] (.only 6 (some (121,true)) (.cl 125 [123,124] Tf) false [] (.only 8 (some (121,true)) (.cl 127 [125,126] jK) false [] (.tg 121 true 11 [.eqs 129 true AK 127 128] (.tk 12 [.pick 130 121 129 .F] .z))))))) (.sk 121 true 8 11 130 (.tk 12 [.pick 130 121 129 .F] .z)))) [1,2,3,6,12,16,17,18,19,130]) (.cond 130 (.R [.bu 131 Z [],.m 132 16,.m 133 17,.store 12 131 16 false,.m 13 132,.m 14 133,.mv 15 .F] [12,13,14,15] .e) .k)) Pu))))
def CG:BL:=⟨[.val Z,.val (.slice .S),.val .W,.val .W,.val .str,.val .str],[⟨12,true,Z⟩,⟨13,false,(.slice AL)⟩,⟨14,false,(.slice BG)⟩,⟨15,false,.bool⟩],(.R [.box 6 0 false,.al 12 Z,.mv 13 .z,.mv 14 .z,.mv 15 .F] [1,2,3,4,5,6,12] (.R [.brow 23 112 AL [],.m 16 23] [1,2,3,4,5,6,12,16] (.R [.blst 24 BG [],.m 17 24] [1,2,3,4,5,6,12,16,17] (.s (.s (.D 76 [(59,[56]),(61,[58,60]),(65,[63]),(68,[64,67]),(72,[63]),(74,[71,73])] (.tk 1 [.ls 25 6 16] (.O 1 (.cl 26 [25] Re) false [] (.tk 4 [.m 28 27,.un 27 .not 26] (.test 28 (.sk 28 false 3 7 32 (.tk 9 [.m 33 32,.pick 32 28 .V 31] bg)) (.tg 28 false 5 [.m 29 1] (.only 5 (some (28,false)) (.cl 30 [29] Hm) false [] (.tg 28 false 7 [.un 31 .not 30] (.tk 9 [.m 33 32,.pick 32 28 .V 31] (.test 33 bg (.tg 33 false 12 [.un 36 .not 35,.l 35 34,.f 34 6 5] (.tk 14 [.m 38 37,.pick 37 33 .V 36] (.test 38 bf (.tg 38 false 18 [.bin 42 .neq 41 (.i 0),.l 41 40,.f 40 39 0,.f 39 6 9] (.tk 20 [.m 44 43,.pick 43 38 .V 42] (.test 44 be (.tg 44 false 23 [.bin 47 .geq 46 (.i 900),.l 46 45,.f 45 6 8] (.tk 25 [.m 49 48,.pick 48 44 .V 47] (.test 49 bd (.tg 49 false 28 [.m 52 51,.bin 51 .neq 50 (.i 1),.m 50 2] (.test 52 (.tg 52 true 30 [.bin 54 .neq 53 (.i 2),.m 53 2] (.tg 49 false 31 [.pick 55 52 54 .F] (.tk 33 [.m 57 56,.pick 56 49 .V 55] (.test 57 bc Yx)))) (.sk 52 true 2 30 55 (.tg 49 false 31 [.pick 55 52 54 .F] (.tk 33 [.m 57 56,.pick 56 49 .V 55] Yx))))))))))))))))))))))) [1,2,3,4,5,6,12,16,17,100]) (.cond 100 (.R [.bu 101 Z [],.m 102 16,.m 103 17,.store 12 101 16 false,.m 13 102,.m 14 103,.mv 15 .F] [12,13,14,15] .e) .k)) Yz))))⟩
theorem AAA:Aw Tryz.prog 99 CG=true:=by kernel_rfl
def eY:DT:=(.sk 37 false 10 32 48 (.tk 33 [.pick 48 37 .V 47] .z))
def bl:DT:=(.sk 31 false 4 20 36 (.tk 22 [.m 37 36,.pick 36 31 .V 35] eY))
def bm:DT:=(.sk 24 false 5 14 30 (.tk 16 [.m 31 30,.pick 30 24 .V 29] bl))
def bn:DT:=(.sk 60 true 8 18 69 (.tk 20 [.m 10 69,.pick 69 60 68 .F] .z))
def bo:AG:=(.s (.R [.m 90 13,.m 91 1,.m 92 2,.bin 93 .sub 92 (.i 2),.idx 94 1 91 93,.l 95 94,.len 96 false 95,.b 97 .lss 90 96] [1,2,3,6,9,11,13,97] (.cond 97 .k (.exit 0))) (.s (.b 1 [1,2,3,6,9,11,13] (.R [.m 100 1,.m 101 2,.bin 102 .sub 101 (.i 2),.idx 103 1 100 102,.l 104 103,.m 105 13,.idx 106 1 104 105,.l 107 106,.m 14 107] [1,2,3,6,9,11,13,14] (.R [.m 108 14,.f 109 3 0,.l 110 109,.b 111 .neq 108 110] [1,2,3,6,9,11,13,14,111] (.cond 111 (.r [.m 112 9,.f 113 3 0,.l 114 113,.m 115 14,.m 116 2,.bu 117 AL [(0,1,.c (.int .i64 1)),(1,1,114),(2,1,115),(3,1,116)],.blst 118 AL [117],.app 119 112 AL 112 118,.m 9 119] [1,2,3,6,9,11,13]) .k)))) (.r [.m 98 13,.bin 99 .add 98 (.i 1),.m 13 99] [1,2,3,6,9,11,13])))
def bp:AG:=(.R [.ls 120 11 16,.cl 121 [120] Hp,.m 122 9,.store 6 121 16 false,.m 7 122,.mv 8 .V] [6,7,8] .e)
def br:AG:=(.s (.D 10 [(2,[]),(3,[]),(4,[]),(6,[3,5]),(7,[1,2,6]),(8,[]),(9,[7,8])] (.tk 3 [.m 72 2,.l 71 70,.f 70 3 0] (.tk 6 [.l 75 74,.f 74 3 7] (.O 3 (.brow 73 45 AK []) false [(8,.al 11 Z)] (.O 6 (.apz 76 45 AK 73 75) false [(8,.al 11 Z)] (.tk 8 [.bu 77 Z [(0,1,71),(1,1,72),(4,1,.V),(7,1,76)]] (.O 8 (.al 11 Z) true [] (.O 9 (.store 11 77 16 false) false [] .z))))))) [1,2,3,6,9,10,11]) (.s (.R [.m 78 10] [1,2,3,6,9,11,78] (.cond 78 (.s (.D 9 [(1,[]),(3,[0,2]),(5,[]),(7,[4,6])] (.tk 7 [.l 85 84,.f 84 3 7,.l 83 82,.idx 82 1 79 81,.bin 81 .sub 80 (.i 1),.m 80 2,.m 79 1] (.O 7 (.cl 86 [11,83,85] jL) false [] (.tk 9 [.m 12 86] .z))) [6,11,12]) (.R [.ls 87 11 16,.cl 88 [87] Hp,.m 89 12,.store 6 88 16 false,.m 7 89,.mv 8 .V] [6,7,8] .e)) .k)) (.s (.R [.mv 13 (.i 0)] [1,2,3,6,9,11,13] (.b 0 [6,9,11] (.loop [1,2,3,6,9,11,13] bo))) bp)))
def bt:AG:=(.s (.D 20 [(5,[2]),(7,[4,6]),(11,[9]),(13,[10,12]),(15,[9]),(17,[14,16])] (.tk 3 [.m 53 52,.l 52 51,.f 51 3 3] (.test 53 (.tg 53 true 8 [.b 58 .eql 55 57,.bin 57 .sub 56 (.i 1),.m 56 2,.l 55 54,.f 54 3 1] (.tk 10 [.m 60 59,.pick 59 53 58 .F] (.test 60 (.tg 60 true 17 [.l 67 66,.f 66 3 0,.l 65 64,.idx 64 1 61 63,.bin 63 .sub 62 (.i 2),.m 62 2,.m 61 1] (.only 17 (some (60,true)) (.cl 68 [65,67] Gn) false [] (.tk 20 [.m 10 69,.pick 69 60 68 .F] .z))) bn))) (.sk 53 true 5 8 59 (.tk 10 [.m 60 59,.pick 59 53 58 .F] bn)))) [1,2,3,6,9,10]) br)
def DP:BL:=⟨[.val Z,.val (.slice .S),.val .W],[⟨6,true,Z⟩,⟨7,false,(.slice AL)⟩,⟨8,false,.bool⟩],(.R [.box 3 0 false,.al 6 Z,.mv 7 .z,.mv 8 .F] [1,2,3,6] (.R [.brow 15 112 AL [],.m 9 15] [1,2,3,6,9] (.s (.s (.D 33 [(10,[8]),(12,[9,11]),(17,[15]),(19,[16,18]),(23,[21]),(25,[22,24]),(29,[21]),(31,[28,30])] (.tk 1 [.ls 16 3 16] (.O 1 (.cl 17 [16] Re) false [] (.tk 4 [.m 19 18,.un 18 .not 17] (.test 19 (.sk 19 false 3 7 23 (.tk 9 [.m 24 23,.pick 23 19 .V 22] bm)) (.tg 19 false 5 [.m 20 1] (.only 5 (some (19,false)) (.cl 21 [20] Hm) false [] (.tg 19 false 7 [.un 22 .not 21] (.tk 9 [.m 24 23,.pick 23 19 .V 22] (.test 24 bm (.tg 24 false 12 [.len 27 false 26,.m 26 1,.m 25 2] (.only 12 (some (24,false)) (.cx (some 28) [25,.c (.int .i64 2),27] BD) false [] (.tg 24 false 14 [.un 29 .not 28] (.tk 16 [.m 31 30,.pick 30 24 .V 29] (.test 31 bl (.tg 31 false 20 [.b 35 .leq 32 34,.l 34 33,.f 33 3 1,.m 32 2] (.tk 22 [.m 37 36,.pick 36 31 .V 35] (.test 37 eY (.tg 37 false 32 [.b 47 .neq 44 46,.l 46 45,.f 45 3 0,.l 44 43,.idx 43 1 42 (.i 0),.l 42 41,.idx 41 1 38 40,.bin 40 .sub 39 (.i 1),.m 39 2,.m 38 1] (.tk 33 [.pick 48 37 .V 47] .z))))))))))))))))))) [1,2,3,6,9,48]) (.cond 48 (.R [.bu 49 Z [],.m 50 9,.store 6 49 16 false,.m 7 50,.mv 8 .F] [6,7,8] .e) .k)) bt)))⟩
theorem AAB:Aw Tryz.prog 100 DP=true:=by kernel_rfl
def Y0:DT:=(.sk 95 true 9 25 105 (.tk 26 [.pick 105 95 104 .F] .z))
def WJ:DT:=(.sk 91 true 2 14 94 (.tk 16 [.m 95 94,.pick 94 91 93 .F] Y0))
def WK:AG:=(.cond 105 (.R [.ls 106 3 16,.f 107 5 3,.l 108 107,.cl 109 [106,108] eK,.al 12 Z,.store 12 109 16 false] [3,5,6,11,12] (.s (.D 17 [(1,[]),(3,[]),(5,[]),(7,[]),(8,[]),(10,[7,9]),(11,[2,4,6,10]),(13,[]),(14,[0,10]),(15,[12,14]),(16,[13,15])] (.tk 7 [.l 116 115,.f 115 5 3,.l 114 113,.f 113 5 1,.l 112 111,.f 111 3 0,.ls 110 12 16] (.tk 10 [.l 119 118,.f 118 3 7] (.tk 14 [.m 123 11] (.O 7 (.brow 117 45 AK []) false [] (.O 10 (.apz 120 45 AK 117 119) false [] (.tk 12 [.bu 121 AL [(0,1,.c (.int .i64 2)),(1,1,112),(2,1,114),(3,1,116),(5,1,120)]] (.O 14 (.store 6 110 16 false) false [(12,.brow 122 112 AL [121])] (.O 12 (.brow 122 112 AL [121]) true [] (.tk 17 [.m 8 123,.m 7 122] .z))))))))) [6,7,8]) .e)) .k)
def WL:DT:=(.sk 139 true 6 16 146 (.tk 17 [.pick 146 139 145 .F] .z))
def WM:AG:=(.cond 146 (.s (.D 11 [(2,[]),(4,[]),(5,[]),(7,[4,6]),(8,[1,3,7]),(9,[]),(10,[8,9])] (.tk 4 [.l 150 149,.f 149 5 3,.l 148 147,.f 147 3 0] (.tk 7 [.l 153 152,.f 152 5 5] (.O 4 (.brow 151 45 AK []) false [(9,.al 14 Z)] (.O 7 (.apz 154 45 AK 151 153) false [(9,.al 14 Z)] (.tk 9 [.bu 155 Z [(0,1,148),(1,1,150),(3,1,.V),(7,1,154)]] (.O 9 (.al 14 Z) true [] (.O 10 (.store 14 155 16 false) false [] .z))))))) [3,5,6,11,14]) (.s (.D 8 [(1,[]),(2,[]),(3,[1,2]),(4,[]),(5,[0,3]),(7,[4,6])] (.tk 3 [.ls 158 5 6,.ls 157 3 16,.ls 156 14 16] (.tk 5 [.m 160 11] (.O 3 (.cx (some 159) [157,158,.c (.int .i64 4)] Ls) false [] (.O 5 (.store 6 156 16 false) false [] (.tk 8 [.m 8 160,.m 7 159] .z))))) [6,7,8]) .e)) .k)
def WN:AG:=(.R [.ls 161 9 16,.m 162 10,.m 163 11,.store 6 161 16 false,.m 7 162,.m 8 163] [6,7,8] .e)
def Nu:AG:=(.R [.m 124 1,.f 125 5 3,.l 126 125,.bin 127 .sub 126 (.i 1),.idx 128 1 124 127,.l 129 128,.m 13 129] [3,5,6,9,10,11,13] (.s (.s (.D 17 [(5,[3]),(7,[4,6]),(13,[9]),(15,[12,14])] (.tk 4 [.m 133 132,.bin 132 .eql 131 (.i 3),.l 131 130,.f 130 5 0] (.test 133 (.tg 133 true 7 [.l 136 135,.f 135 3 0,.m 134 13] (.only 7 (some (133,true)) (.cl 137 [134,136] Gn) false [] (.tk 10 [.m 139 138,.pick 138 133 137 .F] (.test 139 (.tg 139 true 16 [.b 145 .neq 142 144,.l 144 143,.f 143 3 0,.l 142 141,.idx 141 1 140 (.i 0),.m 140 13] (.tk 17 [.pick 146 139 145 .F] .z)) WL)))) (.sk 133 true 4 8 138 (.tk 10 [.m 139 138,.pick 138 133 137 .F] WL)))) [3,5,6,9,10,11,146]) WM) WN))
def WO:AG:=(.s (.R [.f 63 5 3,.l 64 63,.f 65 3 1,.l 66 65,.b 67 .eql 64 66] [1,3,5,6,9,10,11,67] (.cond 67 (.s (.D 15 [(1,[]),(2,[]),(5,[1,4]),(7,[]),(8,[0,6,7]),(10,[8]),(11,[8]),(12,[9,10,11])] (.tk 8 [.ls 75 5 6,.l 74 73,.idx 73 1 69 72,.bin 72 .sub 71 (.i 1),.l 71 70,.f 70 3 1,.m 69 1,.ls 68 3 16] (.O 8 (.cl 76 [68,74,75] xt) false [] (.tk 12 [.ext 79 76 2,.ext 78 76 1,.ext 77 76 0] (.O 12 (.store 6 77 16 false) false [] (.tk 15 [.m 8 79,.m 7 78] .z))))) [6,7,8]) .e) .k)) (.s (.s (.D 26 [(6,[3]),(9,[5,8]),(17,[15]),(20,[16,19]),(22,[15]),(24,[21,23])] (.tk 4 [.m 83 82,.bin 82 .eql 81 (.i 1),.l 81 80,.f 80 5 0] (.test 83 (.tg 83 true 10 [.b 89 .eql 85 88,.bin 88 .add 87 (.i 1),.l 87 86,.f 86 3 1,.l 85 84,.f 84 5 3] (.tk 12 [.m 91 90,.pick 90 83 89 .F] (.test 91 (.tg 91 true 14 [.l 93 92,.f 92 3 3] (.tk 16 [.m 95 94,.pick 94 91 93 .F] (.test 95 (.tg 95 true 24 [.l 103 102,.f 102 3 0,.l 101 100,.idx 100 1 96 99,.bin 99 .sub 98 (.i 1),.l 98 97,.f 97 3 1,.m 96 1] (.only 24 (some (95,true)) (.cl 104 [101,103] Gn) false [] (.tk 26 [.pick 105 95 104 .F] .z))) Y0))) WJ))) (.sk 83 true 6 10 90 (.tk 12 [.m 91 90,.pick 90 83 89 .F] WJ)))) [1,3,5,6,9,10,11,105]) WK) Nu))
def B4:BL:=⟨[.val Z,.val (.slice .S),.val AL],[⟨6,true,Z⟩,⟨7,false,(.slice AL)⟩,⟨8,false,(.slice BG)⟩],(.R [.box 3 0 false,.box 5 2 false,.al 6 Z,.mv 7 .z,.mv 8 .z] [1,3,5,6] (.R [.ls 15 3 16,.cl 16 [15] Hp,.al 9 Z,.store 9 16 16 false] [1,3,5,6,9] (.R [.blst 17 AL [],.m 10 17] [1,3,5,6,9,10] (.R [.blst 18 BG [],.m 11 18] [1,3,5,6,9,10,11] (.s (.R [.ls 19 3 16,.cl 20 [19] Re,.un 21 .not 20,.m 22 21,.sc 22 false [.m 23 1,.cl 24 [23] Hm,.un 25 .not 24] 26 .V 25,.m 27 26,.sc 27 false [.ls 28 5 6,.cl 29 [28] zr,.un 30 .not 29] 31 .V 30,.m 32 31,.sc 32 false [.f 33 5 2,.l 34 33,.f 35 3 0,.l 36 35,.b 37 .neq 34 36] 38 .V 37,.m 39 38,.sc 39 false [.f 40 5 3,.l 41 40,.f 42 3 1,.l 43 42,.b 44 .lss 41 43] 45 .V 44,.m 46 45,.sc 46 false [.f 47 5 3,.l 48 47,.m 49 1,.len 50 false 49,.b 51 .gtr 48 50] 52 .V 51,.m 53 52,.sc 53 false [.f 54 3 1,.l 55 54,.m 56 1,.len 57 false 56,.b 58 .gtr 55 57] 59 .V 58] [1,3,5,6,9,10,11,59] (.cond 59 (.R [.ls 60 9 16,.m 61 10,.m 62 11,.store 6 60 16 false,.m 7 61,.m 8 62] [6,7,8] .e) .k)) WO)))))⟩
theorem vg:Aw Tryz.prog 101 B4=true:=by kernel_rfl
def Cm:BL:=⟨[.val .str,.val .str],[⟨4,false,.bool⟩],(.R [.mv 4 .F] [0,1] (.R [.m 5 0,.len 6 true 5,.m 7 1,.len 8 true 7,.b 9 .geq 6 8,.m 10 9,.sc 10 true [.m 11 0,.m 12 1,.len 13 true 12,.sl 14 0 11 none (some 13),.m 15 1,.b 16 .eql 14 15] 17 16 .F,.m 4 17] [4] .e))⟩
theorem Nv:Aw Tryz.prog 105 Cm=true:=by kernel_rfl
def bw:AG:=(.R [.b 13 .lss 12 11] [4,10,11,12,13] (.s (.cond 13 .k (.exit 0)) (.s (.b 1 [4,10,11,12] (.R [.idx 14 1 10 12,.l 15 14,.m 6 15] [4,6,10,11,12] (.R [.m 17 6,.cl 18 [17] Td,.m 16 18,.ext 19 16 0,.ext 20 16 1,.m 7 19,.m 8 20] [4,7,8,10,11,12] (.s (.R [.m 21 8,.un 22 .not 21] [4,7,10,11,12,22] (.cond 22 (.R [.mv 2 .z,.mv 3 .F] [2,3] .e) .k)) (.r [.m 23 4,.m 24 7,.blst 25 .W [24],.app 26 3 .W 23 25,.m 4 26] [4,10,11,12]))))) (.r [.bin 27 .add 12 (.i 1),.m 12 27] [4,10,11,12]))))
def bz:AG:=(.R [.m 28 4,.m 2 28,.mv 3 .V] [2,3] .e)
def Fe:BL:=⟨[.val .str],[⟨2,false,.S⟩,⟨3,false,.bool⟩],(.R [.mv 2 .z,.mv 3 .F] [0] (.R [.nilrow 4 3 .W] [0,4] (.s (.R [.m 9 0,.cx (some 10) [9,.c (.str ⟨#[44]⟩)] Rc,.len 11 false 10,.mv 12 (.i 0)] [4,10,11,12] (.b 0 [4] (.loop [4,10,11,12] bw))) bz)))⟩
theorem x_:Aw Tryz.prog 106 Fe=true:=by kernel_rfl
def QT:BL:=⟨[.val .str],[⟨2,false,.W⟩,⟨3,false,.W⟩],(.R [.mv 2 (.i 0),.mv 3 (.i 0)] [0] (.s (.R [.m 4 0] [4] (.b 0 [] (.R [.bin 6 .eql 4 (.c (.str ⟨#[112,117,116]⟩)),.m 5 6] [4,5] (.cond 5 (.R [.mv 2 (.i 1),.mv 3 (.i 4)] [2,3] .e) (.R [.bin 8 .eql 4 (.c (.str ⟨#[103,101,116]⟩)),.m 7 8] [4,7] (.cond 7 (.R [.mv 2 (.i 1),.mv 3 (.i 3)] [2,3] .e) (.R [.bin 10 .eql 4 (.c (.str ⟨#[100,101,108,105,118,101,114]⟩)),.m 9 10] [4,9] (.cond 9 (.R [.mv 2 (.i 2),.mv 3 (.i 2)] [2,3] .e) (.R [.bin 12 .eql 4 (.c (.str ⟨#[100,114,111,112]⟩)),.m 11 12] [4,11] (.cond 11 (.R [.mv 2 (.i 3),.mv 3 (.i 2)] [2,3] .e) (.R [.bin 14 .eql 4 (.c (.str ⟨#[99,111,112,121]⟩)),.m 13 14] [4,13] (.cond 13 (.R [.mv 2 (.i 4),.mv 3 (.i 2)] [2,3] .e) (.R [.bin 16 .eql 4 (.c (.str ⟨#[97,100,111,112,116]⟩)),.m 15 16] [4,15] (.cond 15 (.R [.mv 2 (.i 5),.mv 3 (.i 2)] [2,3] .e) (.R [.bin 18 .eql 4 (.c (.str ⟨#[102,97,108,108]⟩)),.m 17 18] [17] (.cond 17 (.R [.mv 2 (.i 6),.mv 3 (.i 2)] [2,3] .e) .k)))))))))))))))) (.R [.mv 2 (.i 0),.mv 3 (.i 0)] [2,3] .e)))⟩
theorem yA:Aw Tryz.prog 107 QT=true:=by kernel_rfl
def Qv:AG:=(.s (.R [.m 14 5,.m 15 0,.len 16 true 15,.b 17 .lss 14 16] [0,4,5,17] (.cond 17 .k (.exit 0))) (.s (.b 1 [0,4,5] (.s (.R [.m 20 0,.m 21 5,.sidx 22 20 21,.bin 23 .lss 22 (.c (.int .u8 48)),.m 24 23,.sc 24 false [.m 25 0,.m 26 5,.sidx 27 25 26,.bin 28 .gtr 27 (.c (.int .u8 57))] 29 .V 28] [0,4,5,29] (.cond 29 (.R [.mv 2 (.i 0),.mv 3 .F] [2,3] .e) .k)) (.r [.m 30 4,.bin 31 .mul 30 (.i 10),.m 32 0,.m 33 5,.sidx 34 32 33,.bin 35 .sub 34 (.c (.int .u8 48)),.cvi 36 .i64 35,.b 37 .add 31 36,.m 4 37] [0,4,5]))) (.r [.m 18 5,.bin 19 .add 18 (.i 1),.m 5 19] [0,4,5])))
def I8:AG:=(.s (.R [.m 38 4,.bin 39 .gtr 38 (.i 1000000000),.m 40 39,.sc 40 false [.m 41 4,.cl 42 [41] NW,.m 43 0,.b 44 .neq 42 43] 45 .V 44] [4,45] (.cond 45 (.R [.mv 2 (.i 0),.mv 3 .F] [2,3] .e) .k)) (.R [.m 46 4,.m 2 46,.mv 3 .V] [2,3] .e))
def PJ:AG:=(.R [.mv 4 (.i 0)] [0,4] (.s (.R [.mv 5 (.i 0)] [0,4,5] (.b 0 [0,4] (.loop [0,4,5] Qv))) I8))
def Bc:BL:=⟨[.val .str],[⟨2,false,.W⟩,⟨3,false,.bool⟩],(.R [.mv 2 (.i 0),.mv 3 .F] [0] (.s (.R [.m 6 0,.len 7 true 6,.bin 8 .eql 7 (.i 0),.m 9 8,.sc 9 false [.m 10 0,.len 11 true 10,.bin 12 .gtr 11 (.i 10)] 13 .V 12] [0,13] (.cond 13 (.R [.mv 2 (.i 0),.mv 3 .F] [2,3] .e) .k)) PJ))⟩
theorem j5:Aw Tryz.prog 108 Bc=true:=by kernel_rfl
def JM:BL:=⟨[.ptr Ao,.val .S],[⟨4,false,.W⟩],(.R [.mv 4 (.i 0)] [0,1] (.R [.m 5 1,.m 6 0,.m 7 1,.len 8 false 7,.cl 9 [6,8] C0,.idx 10 1 5 9,.l 11 10,.m 4 11] [4] .e))⟩
theorem mW:Aw Tryz.prog 111 JM=true:=by kernel_rfl
def WP:AG:=(.s (.R [.f 31 1 5,.l 32 31,.m 33 32,.sc 33 true [.f 34 1 3,.l 35 34,.un 36 .not 35,.m 37 36,.sc 37 false [.f 38 1 4,.l 39 38,.un 40 .not 39] 41 .V 40,.m 42 41,.sc 42 false [.f 43 1 6,.l 44 43,.len 45 false 44,.bin 46 .gtr 45 (.i 0)] 47 .V 46] 48 47 .F,.m 49 48,.sc 49 false [.f 50 1 2,.l 51 50,.m 52 51,.sc 52 true [.f 53 1 3,.l 54 53,.m 55 54,.sc 55 false [.f 56 1 4,.l 57 56] 58 .V 57] 59 58 .F] 60 .V 59] [1,60] (.cond 60 (.R [.mv 2 .F] [2] .e) .k)) (.R [.cl 61 [1] eL,.m 2 61] [2] .e))
def Ga:BL:=⟨[.val Z],[⟨2,false,.bool⟩],(.R [.box 1 0 false,.mv 2 .F] [1] (.s (.R [.f 3 1 0,.l 4 3,.cl 5 [4] I2,.un 6 .not 5,.m 7 6,.sc 7 false [.f 8 1 1,.l 9 8,.cx (some 10) [9,.c (.int .i64 1),.c (.int .i64 9)] BH,.un 11 .not 10] 12 .V 11,.m 13 12,.sc 13 false [.f 14 1 6,.l 15 14,.cx (some 16) [15,.c (.int .i64 1),.c (.int .i64 6)] Tg,.un 17 .not 16] 18 .V 17,.m 19 18,.sc 19 false [.f 20 1 7,.l 21 20,.cl 22 [21] Nc,.un 23 .not 22] 24 .V 23,.m 25 24,.sc 25 false [.f 26 1 8,.l 27 26,.cx (some 28) [27,.c (.int .i64 0),.c (.int .i64 900)] BH,.un 29 .not 28] 30 .V 29] [1,30] (.cond 30 (.R [.mv 2 .F] [2] .e) .k)) WP))⟩
theorem sg:Aw Tryz.prog 112 Ga=true:=by kernel_rfl
def Lc:AG:=(.s (.D 20 [(4,[2]),(9,[3,8]),(13,[2]),(17,[12,16])] (.tk 1 [.m 34 1] (.O 1 (.cl 35 [34] Ho) false [] (.tk 3 [.m 36 35] (.test 36 (.tg 36 true 18 [.b 51 .eql 46 50,.l 50 49,.f 49 48 0,.n 48 47,.m 47 0,.l 46 45,.idx 45 1 44 (.i 0),.l 44 43,.idx 43 1 37 42,.bin 42 .sub 41 (.i 1),.l 41 40,.f 40 39 1,.n 39 38,.m 38 0,.m 37 1] (.tk 20 [.m 4 52,.pick 52 36 51 .F] .z)) (.sk 36 true 15 18 52 (.tk 20 [.m 4 52,.pick 52 36 51 .F] .z)))))) [4]) .e)
def C5:BL:=⟨[.ptr Z,.val (.slice .S)],[⟨4,false,.bool⟩],(.R [.mv 4 .F] [0,1] (.s (.R [.m 5 0,.n 6 5,.f 7 6 5,.l 8 7,.un 9 .not 8,.m 10 9,.sc 10 false [.m 11 0,.n 12 11,.f 13 12 9,.f 14 13 0,.l 15 14,.bin 16 .neq 15 (.i 0)] 17 .V 16,.m 18 17,.sc 18 false [.m 19 0,.n 20 19,.f 21 20 8,.l 22 21,.bin 23 .eql 22 (.i 900)] 24 .V 23,.m 25 24,.sc 25 false [.m 26 0,.n 27 26,.f 28 27 1,.l 29 28,.m 30 1,.len 31 false 30,.b 32 .gtr 29 31] 33 .V 32] [0,1,33] (.cond 33 (.R [.mv 4 .F] [4] .e) .k)) Lc))⟩
theorem ae:Aw Tryz.prog 113 C5=true:=by kernel_rfl
def b6:AG:=(.R [.b 10 .lss 9 8] [1,4,7,8,9,10] (.s (.cond 10 .k (.exit 0)) (.s (.b 1 [1,4,7,8,9] (.R [.idx 11 3 7 9,.ls 12 11 3,.al 6 AK,.store 6 12 3 false] [1,4,6,7,8,9] (.R [.f 13 6 0,.l 14 13,.m 15 1,.b 16 .eql 14 15] [1,4,6,7,8,9,16] (.cond 16 (.R [.ls 17 6 3,.store 4 17 3 false] [4] .e) .k)))) (.r [.bin 18 .add 9 (.i 1),.m 9 18] [1,4,7,8,9]))))
def b7:AG:=(.R [.bu 19 AK [],.store 4 19 3 false] [4] .e)
def Ff:BL:=⟨[.val (.slice AK),.val .str],[⟨4,true,AK⟩],(.R [.al 4 AK] [0,1,4] (.s (.R [.m 7 0,.len 8 false 7,.mv 9 (.i 0)] [1,4,7,8,9] (.b 0 [4] (.loop [1,4,7,8,9] b6))) b7))⟩
theorem yB:Aw Tryz.prog 114 Ff=true:=by kernel_rfl
def Nw:AG:=(.R [.b 11 .lss 10 9] [0,5,8,9,10,11] (.s (.cond 11 .k (.exit 0)) (.s (.b 1 [0,5,8,9,10] (.R [.idx 12 1 8 10,.l 13 12,.m 7 13] [0,5,7,8,9,10] (.R [.m 14 7,.m 15 0,.n 16 15,.f 17 16 0,.l 18 17,.b 19 .neq 14 18] [0,5,7,8,9,10,19] (.cond 19 (.r [.m 20 5,.m 21 7,.blst 22 .W [21],.app 23 3 .W 20 22,.m 5 23] [0,5,8,9,10]) .k)))) (.r [.bin 24 .add 10 (.i 1),.m 10 24] [0,5,8,9,10]))))
def Nx:AG:=(.R [.m 25 5,.m 4 25] [4] .e)
def CR:BL:=⟨[.ptr Z,.val .S],[⟨4,false,.S⟩],(.R [.mv 4 .z] [0,1] (.R [.nilrow 5 3 .W] [0,1,5] (.s (.R [.m 8 1,.len 9 false 8,.mv 10 (.i 0)] [0,5,8,9,10] (.b 0 [5] (.loop [0,5,8,9,10] Nw))) Nx)))⟩
theorem eZ:Aw Tryz.prog 115 CR=true:=by kernel_rfl
def GK:BL:=⟨[.mut (.own 3 .W)],[],(.R [.m 3 0,.len 4 false 3,.m 2 4] [0,2] (.r [.m 5 0,.m 6 2,.m 7 2,.cvi 8 .u64 7,.cl 9 [8] sO,.cx (some 10) [5,.c (.int .i64 0),6,9] FQ] []))⟩
theorem dQ:Aw Tryz.prog 116 GK=true:=by kernel_rfl

def Qw:AG:=(.R [.m 30 0,.bu 31 NT [],.n 32 30,.f 33 32 9,.store 33 31 7 false] [0,3] (.s (.D 13 [(2,[]),(6,[]),(8,[]),(10,[1,5,7,9])] (.tk 11 [.bu 44 BG [(0,1,35),(1,1,39),(2,1,41),(3,3,43)],.ls 43 42 3,.f 42 3 3,.l 41 40,.f 40 3 2,.l 39 38,.f 38 37 1,.n 37 36,.m 36 0,.l 35 34,.f 34 3 1] (.O 11 (.brow 45 140 BG [44]) false [] (.tk 13 [.m 2 45] .z))) [2]) .e))
def ER:BL:=⟨[.ptr Z],[⟨2,false,(.slice BG)⟩],(.R [.mv 2 .z] [0] (.R [.m 4 0,.n 5 4,.f 6 5 9,.ls 7 6 7,.al 3 NT,.store 3 7 7 false] [0,3] (.seqc [0,3] (.R [.f 8 3 0,.l 9 8,.bin 10 .eql 9 (.i 1)] [0,3,10] (.cond 10 (.D 11 [(1,[]),(5,[]),(7,[4,6]),(8,[0,7])] (.tk 7 [.ls 17 16 3,.f 16 3 3,.l 15 14,.f 14 13 7,.n 13 12,.m 12 0,.m 11 0] (.O 7 (.cl 18 [15,17] eM) false [] (.tk 10 [.f 20 19 7,.n 19 11] (.O 10 (.store 20 18 1 false) false [] .z)))) [0,3]) (.D 10 [(4,[]),(7,[3,6])] (.tk 7 [.l 27 26,.f 26 25 0,.f 25 3 3,.l 24 23,.f 23 22 7,.n 22 21,.m 21 0] (.O 7 (.cl 28 [24,27] jJ) false [] (.tk 9 [.f 29 3 3] (.O 9 (.store 29 28 3 false) false [] .z)))) [0,3]))) Qw)))⟩
theorem j6:Aw Tryz.prog 117 ER=true:=by kernel_rfl
def M4:AG:=(.R [.b 14 .lss 13 12] [0,5,7,11,12,13,14] (.s (.cond 14 .k (.exit 0)) (.s (.b 1 [0,5,7,11,12,13] (.R [.idx 15 1 11 13,.l 16 15,.m 9 16] [0,5,7,9,11,12,13] (.R [.ls 17 5 6,.cl 18 [17] Tc,.al 10 AL,.store 10 18 6 false] [0,5,7,9,10,11,12,13] (.s (.D 15 [(4,[]),(5,[]),(9,[3]),(11,[4,10]),(13,[8,12])] (.tk 10 [.f 28 10 1,.l 27 26,.f 26 25 1,.n 25 24,.m 24 0,.m 23 9,.l 22 21,.f 21 20 0,.n 20 19,.m 19 0] (.O 10 (.store 28 22 1 false) false [] (.tk 12 [.f 29 10 2] (.O 12 (.store 29 23 1 false) false [] (.tk 14 [.f 30 10 3] (.O 14 (.store 30 27 1 false) false [] .z)))))) [0,5,7,10,11,12,13]) (.r [.m 31 7,.ls 32 10 6,.blst 33 AL [32],.app 34 112 AL 31 33,.m 7 34] [0,5,7,11,12,13]))))) (.r [.bin 35 .add 13 (.i 1),.m 13 35] [0,5,7,11,12,13]))))
def M5:AG:=(.R [.m 36 7,.m 6 36] [6] .e)
def CE:BL:=⟨[.ptr Z,.val .S,.val AL],[⟨6,false,(.slice AL)⟩],(.R [.box 5 2 false,.mv 6 .z] [0,1,5] (.R [.nilrow 7 112 AL] [0,1,5,7] (.s (.R [.m 11 1,.len 12 false 11,.mv 13 (.i 0)] [0,5,7,11,12,13] (.b 0 [7] (.loop [0,5,7,11,12,13] M4))) M5)))⟩
theorem dR:Aw Tryz.prog 118 CE=true:=by kernel_rfl
def JN:BL:=⟨[.ptr Z],[],(.r [.m 2 0,.m 3 0,.m 4 0,.m 5 0,.m 6 0,.bu 7 NT [],.n 8 2,.f 9 8 4,.store 9 .F 1 false,.n 10 3,.f 11 10 5,.store 11 .F 1 false,.n 12 4,.f 13 12 6,.store 13 .z 1 false,.n 14 5,.f 15 14 8,.store 15 (.i 0) 1 false,.n 16 6,.f 17 16 9,.store 17 7 7 false] [])⟩
theorem mX:Aw Tryz.prog 119 JN=true:=by kernel_rfl
def FS:BL:=⟨[.ptr Z,.val .S,.val (.slice AK)],[⟨6,false,(.slice AL)⟩],(.R [.mv 6 .z] [0,1,2] (.R [.m 8 0,.m 9 1,.cl 10 [8,9] Gp,.m 7 10] [0,2,7] (.R [.m 11 0,.m 12 0,.m 13 2,.cl 14 [13] BU,.n 15 11,.f 16 15 3,.store 16 .V 1 true,.n 17 12,.f 18 17 7,.store 18 14 1 true] [0,2,7] (.R [.m 19 0,.m 20 7,.cl 21 [20] C3,.n 22 19,.f 23 22 6,.store 23 21 1 true] [0,2,7] (.R [.m 24 0,.n 25 24,.f 26 25 6,.l 27 26,.cl 28 [27] PF] [0,2,7] (.seqc [0,2,7] (.R [.m 29 7,.len 30 false 29,.bin 31 .eql 30 (.i 0)] [0,2,7,31] (.cond 31 (.r [.m 32 0,.n 33 32,.f 34 33 5,.store 34 .V 1 true] [0,2,7]) .k)) (.R [.m 35 0,.m 36 7,.m 37 2,.bu 38 AL [(0,1,.c (.int .i64 3)),(5,1,37)],.cl 39 [35,36,38] Bt,.m 6 39] [6] .e)))))))⟩
theorem af:Aw Tryz.prog 120 FS=true:=by kernel_rfl
def Y1:AG:=(.R [.m 50 1,.ls 51 5 6,.cl 52 [9,50,51] jt,.m 49 52,.ext 53 49 0,.ext 54 49 1,.m 10 53,.m 11 54] [6,9,10,11] (.R [.ls 55 9 16,.cl 56 [55] Gm,.m 57 10,.m 58 11,.store 6 56 16 false,.m 7 57,.m 8 58] [6,7,8] .e))
def Hs:BL:=⟨[.val Z,.val (.slice .S),.val AL],[⟨6,true,Z⟩,⟨7,false,(.slice AL)⟩,⟨8,false,(.slice BG)⟩],(.R [.box 3 0 false,.box 5 2 false,.al 6 Z,.mv 7 .z,.mv 8 .z] [1,3,5,6] (.R [.ls 12 3 16,.cl 13 [12] Gm,.al 9 Z,.store 9 13 16 false] [1,3,5,6,9] (.s (.R [.f 14 5 2,.l 15 14,.f 16 3 0,.l 17 16,.b 18 .neq 15 17,.m 19 18,.sc 19 false [.f 20 5 3,.l 21 20,.f 22 3 1,.l 23 22,.b 24 .lss 21 23] 25 .V 24,.m 26 25,.sc 26 false [.f 27 5 3,.l 28 27,.m 29 1,.len 30 false 29,.b 31 .gtr 28 30] 32 .V 31,.m 33 32,.sc 33 false [.ls 34 3 16,.cl 35 [34] Rd,.un 36 .not 35] 37 .V 36,.m 38 37,.sc 38 false [.m 39 1,.cl 40 [39] Ho,.un 41 .not 40] 42 .V 41,.m 43 42,.sc 43 false [.ls 44 5 6,.cl 45 [44] zt,.un 46 .not 45] 47 .V 46] [1,5,6,9,47] (.cond 47 (.R [.ls 48 9 16,.store 6 48 16 false,.mv 7 .z,.mv 8 .z] [6,7,8] .e) .k)) Y1)))⟩
theorem vh:Aw Tryz.prog 121 Hs=true:=by kernel_rfl
def WQ:AG:=(.R [.f 71 1 9,.ls 72 71 7,.al 3 NT,.store 3 72 7 false] [1,3] (.R [.ls 73 3 7,.cl 74 [73] pP,.m 75 74,.sc 75 false [.f 76 3 0,.l 77 76,.bin 78 .eql 77 (.i 1),.m 79 78,.sc 79 false [.f 80 3 0,.l 81 80,.bin 82 .eql 81 (.i 2)] 83 .V 82,.m 84 83,.sc 84 true [.f 85 1 5,.l 86 85] 87 86 .F,.m 88 87,.sc 88 true [.f 89 3 1,.l 90 89,.cx (some 91) [90,.c (.int .i64 0),.c (.int .i64 1000)] BD] 92 91 .F,.m 93 92,.sc 93 true [.f 94 3 2,.l 95 94,.cx (some 96) [95,.c (.int .i64 1),.c (.int .i64 900)] BD] 97 96 .F] 98 .V 97,.m 2 98] [2] .e))
def Gb:BL:=⟨[.val Z],[⟨2,false,.bool⟩],(.R [.box 1 0 false,.mv 2 .F] [1] (.s (.R [.f 4 1 0,.l 5 4,.cx (some 6) [5,.c (.int .i64 1),.c (.int .i64 6)] BD,.un 7 .not 6,.m 8 7,.sc 8 false [.f 9 1 1,.l 10 9,.cx (some 11) [10,.c (.int .i64 1),.c (.int .i64 9)] BD,.un 12 .not 11] 13 .V 12,.m 14 13,.sc 14 false [.f 15 1 5,.l 16 15,.m 17 16,.sc 17 true [.f 18 1 3,.l 19 18,.un 20 .not 19,.m 21 20,.sc 21 false [.f 22 1 4,.l 23 22,.un 24 .not 23] 25 .V 24,.m 26 25,.sc 26 false [.f 27 1 6,.l 28 27,.len 29 false 28,.bin 30 .gtr 29 (.i 0)] 31 .V 30] 32 31 .F] 33 .V 32,.m 34 33,.sc 34 false [.f 35 1 2,.l 36 35,.m 37 36,.sc 37 true [.f 38 1 3,.l 39 38,.m 40 39,.sc 40 false [.f 41 1 4,.l 42 41] 43 .V 42] 44 43 .F] 45 .V 44,.m 46 45,.sc 46 false [.f 47 1 6,.l 48 47,.cl 49 [48] jM,.un 50 .not 49] 51 .V 50,.m 52 51,.sc 52 false [.f 53 1 9,.f 54 53 6,.l 55 54,.cl 56 [55] jM,.un 57 .not 56] 58 .V 57,.m 59 58,.sc 59 false [.f 60 1 7,.l 61 60,.cl 62 [61] Nd,.un 63 .not 62] 64 .V 63,.m 65 64,.sc 65 false [.f 66 1 8,.l 67 66,.cx (some 68) [67,.c (.int .i64 0),.c (.int .i64 900)] BD,.un 69 .not 68] 70 .V 69] [1,70] (.cond 70 (.R [.mv 2 .F] [2] .e) .k)) WQ))⟩
theorem sh:Aw Tryz.prog 122 Gb=true:=by kernel_rfl
def b8:AG:=(.s (.R [.m 6 5,.m 7 0,.len 8 false 7,.b 9 .lss 6 8] [0,1,4,5,9] (.cond 9 .k (.exit 0))) (.s (.b 1 [0,1,4,5] (.R [.m 12 0,.m 13 5,.idx 14 3 12 13,.f 15 14 0,.l 16 15,.m 17 1,.b 18 .eql 16 17] [0,1,4,5,18] (.cond 18 (.R [.m 19 0,.m 20 5,.idx 21 3 19 20,.ls 22 21 3,.store 4 22 3 false] [4] .e) .k))) (.r [.m 10 5,.bin 11 .add 10 (.i 1),.m 5 11] [0,1,4,5])))
def b9:AG:=(.R [.bu 23 AK [],.store 4 23 3 false] [4] .e)
def Fg:BL:=⟨[.val (.slice AK),.val .str],[⟨4,true,AK⟩],(.R [.al 4 AK] [0,1,4] (.s (.R [.mv 5 (.i 0)] [0,1,4,5] (.b 0 [4] (.loop [0,1,4,5] b8))) b9))⟩
theorem yC:Aw Tryz.prog 123 Fg=true:=by kernel_rfl
def Y2:AG:=(.s (.D 18 [(1,[]),(2,[0,1]),(5,[]),(7,[4,6]),(10,[8]),(11,[9,10]),(14,[8]),(16,[13,15])] (.tk 9 [.m 42 41,.b 41 .eql 38 40,.l 40 39,.f 39 3 0,.l 38 37,.f 37 36 0,.idx 36 3 34 35,.m 35 7,.m 34 0] (.test 42 (.tg 42 true 17 [.b 50 .geq 47 49,.l 49 48,.f 48 3 2,.l 47 46,.f 46 45 2,.idx 45 3 43 44,.m 44 7,.m 43 0] (.tk 18 [.pick 51 42 50 .F] .z)) (.sk 42 true 8 17 51 (.tk 18 [.pick 51 42 50 .F] .z)))) [0,3,5,6,7,51]) (.cond 51 (.R [.m 52 5,.m 4 52] [4] .e) .k))
def Y3:AG:=(.r [.m 17 7,.bin 18 .add 17 (.i 1),.m 7 18] [0,3,5,6,7])
def Y4:AG:=(.s (.R [.m 13 7,.m 14 0,.len 15 false 14,.b 16 .lss 13 15] [0,3,5,6,7,16] (.cond 16 .k (.exit 0))) (.s (.b 1 [0,3,5,6,7] (.seqc [0,3,5,6,7] (.s (.D 8 [(1,[]),(2,[0,1]),(5,[]),(7,[4,6])] (.tk 8 [.b 26 .lss 23 25,.l 25 24,.f 24 3 0,.l 23 22,.f 22 21 0,.idx 21 3 19 20,.m 20 7,.m 19 0] .z) [0,3,5,6,7,26]) (.cond 26 (.r [.m 27 6,.m 28 0,.m 29 7,.idx 30 3 28 29,.ls 31 30 3,.blst 32 AK [31],.app 33 45 AK 27 32,.m 6 33] [0,3,5,6,7]) .k)) Y2)) Y3))
def WR:AG:=(.s (.R [.m 57 8,.m 58 0,.len 59 false 58,.b 60 .lss 57 59] [0,3,5,6,8,60] (.cond 60 .k (.exit 2))) (.s (.b 3 [0,3,5,6,8] (.s (.D 8 [(1,[]),(2,[0,1]),(5,[]),(7,[4,6])] (.tk 8 [.b 70 .gtr 67 69,.l 69 68,.f 68 3 0,.l 67 66,.f 66 65 0,.idx 65 3 63 64,.m 64 8,.m 63 0] .z) [0,3,5,6,8,70]) (.cond 70 (.r [.m 71 6,.m 72 0,.m 73 8,.idx 74 3 72 73,.ls 75 74 3,.blst 76 AK [75],.app 77 45 AK 71 76,.m 6 77] [0,3,5,6,8]) .k))) (.r [.m 61 8,.bin 62 .add 61 (.i 1),.m 8 62] [0,3,5,6,8])))
def Ny:AG:=(.s (.R [.m 78 0,.cl 79 [78] Nd,.un 80 .not 79,.m 81 80,.sc 81 false [.m 82 6,.cl 83 [82] Nd,.un 84 .not 83] 85 .V 84] [5,6,85] (.cond 85 (.R [.m 86 5,.m 4 86] [4] .e) .k)) (.R [.m 87 6,.m 4 87] [4] .e))
def Nz:AG:=(.R [.m 53 6,.ls 54 3 3,.blst 55 AK [54],.app 56 45 AK 53 55,.m 6 56] [0,3,5,6] (.s (.R [.mv 8 (.i 0)] [0,3,5,6,8] (.b 2 [0,5,6] (.loop [0,3,5,6,8] WR))) Ny))
def BP:BL:=⟨[.val (.slice AK),.val AK],[⟨4,false,(.own 45 AK)⟩],(.R [.box 3 1 false,.mv 4 .z] [0,3] (.R [.brow 9 45 AK [],.m 10 0,.app 11 45 AK 9 10,.m 5 11] [0,3,5] (.R [.brow 12 45 AK [],.m 6 12] [0,3,5,6] (.s (.R [.mv 7 (.i 0)] [0,3,5,6,7] (.b 0 [0,3,5,6] (.loop [0,3,5,6,7] Y4))) Nz))))⟩
theorem vj:Aw Tryz.prog 124 BP=true:=by kernel_rfl
def T8:AG:=(.s (.R [.m 8 6,.bin 9 .leq 8 (.i 6)] [0,1,5,6,9] (.cond 9 .k (.exit 0))) (.s (.b 1 [0,1,5,6] (.R [.m 12 6,.m 13 1,.b 14 .neq 12 13,.m 15 14,.sc 15 true [.m 16 0,.m 17 6,.cl 18 [16,17] Gn] 19 18 .F] [0,1,5,6,19] (.cond 19 (.r [.m 20 5,.m 21 6,.blst 22 .W [21],.app 23 3 .W 20 22,.m 5 23] [0,1,5,6]) .k))) (.r [.m 10 6,.bin 11 .add 10 (.i 1),.m 6 11] [0,1,5,6])))
def T9:AG:=(.R [.m 24 5,.m 4 24] [4] .e)
def Dc:BL:=⟨[.val .S,.val .W],[⟨4,false,.S⟩],(.R [.mv 4 .z] [0,1] (.R [.brow 7 3 .W [],.m 5 7] [0,1,5] (.s (.R [.mv 6 (.i 1)] [0,1,5,6] (.b 0 [5] (.loop [0,1,5,6] T8))) T9)))⟩
theorem pY:Aw Tryz.prog 125 Dc=true:=by kernel_rfl
def Kf:BL:=⟨[.ptr Z],[⟨2,false,(.slice BG)⟩],(.R [.mv 2 .z] [0] (.R [.m 5 0,.n 6 5,.f 7 6 9,.ls 8 7 7,.al 3 NT,.store 3 8 7 false] [0,3] (.s (.D 13 [(2,[]),(6,[]),(8,[]),(10,[1,5,7,9]),(11,[]),(12,[10,11])] (.tk 11 [.bu 19 BG [(0,1,10),(1,1,14),(2,1,16),(3,3,18)],.ls 18 17 3,.f 17 3 3,.l 16 15,.f 15 3 2,.l 14 13,.f 13 12 1,.n 12 11,.m 11 0,.l 10 9,.f 9 3 1] (.O 11 (.al 4 BG) false [] (.O 12 (.store 4 19 6 false) false [] .z))) [0,3,4]) (.seqc [0,4] (.R [.f 20 3 0,.l 21 20,.bin 22 .eql 21 (.i 1)] [0,3,4,22] (.cond 22 (.D 11 [(1,[]),(5,[]),(7,[4,6]),(8,[0,7])] (.tk 7 [.ls 29 28 3,.f 28 3 3,.l 27 26,.f 26 25 7,.n 25 24,.m 24 0,.m 23 0] (.O 7 (.cl 30 [27,29] Tf) false [] (.tk 10 [.f 32 31 7,.n 31 23] (.O 10 (.store 32 30 1 false) false [] .z)))) [0,4]) (.D 10 [(4,[]),(7,[3,6])] (.tk 7 [.l 39 38,.f 38 37 0,.f 37 3 3,.l 36 35,.f 35 34 7,.n 34 33,.m 33 0] (.O 7 (.cl 40 [36,39] jK) false [] (.tk 9 [.f 41 4 3] (.O 9 (.store 41 40 3 false) false [] .z)))) [0,4]))) (.R [.m 42 0,.bu 43 NT [],.n 44 42,.f 45 44 9,.store 45 43 7 false] [4] (.R [.ls 46 4 6,.brow 47 140 BG [46],.m 2 47] [2] .e))))))⟩
theorem pZ:Aw Tryz.prog 126 Kf=true:=by kernel_rfl
def b_:AG:=(.s (.R [.m 37 8,.m 38 1,.len 39 false 38,.b 40 .lss 37 39] [0,1,2,7,8,40] (.cond 40 .k (.exit 0))) (.s (.b 1 [0,1,2,7,8] (.s (.D 9 [(1,[]),(2,[0,1]),(4,[]),(8,[3,7])] (.tk 9 [.b 51 .neq 46 50,.l 50 49,.f 49 48 0,.n 48 47,.m 47 0,.l 46 45,.idx 45 1 43 44,.m 44 8,.m 43 1] .z) [0,1,2,7,8,51]) (.cond 51 (.D 20 [(1,[]),(5,[]),(6,[]),(7,[5,6]),(9,[]),(13,[]),(14,[]),(15,[13,14]),(16,[4,8,12,15]),(18,[0,17])] (.tk 13 [.l 64 63,.f 63 62 1,.n 62 61,.m 61 0,.l 60 59,.idx 59 1 57 58,.m 58 8,.m 57 1,.l 56 55,.f 55 54 0,.n 54 53,.m 53 0,.m 52 7] (.tk 15 [.m 66 2] (.O 13 (.brow 65 45 AK []) false [] (.O 15 (.apz 67 45 AK 65 66) false [] (.tk 17 [.bu 68 AL [(0,1,.c (.int .i64 3)),(1,1,56),(2,1,60),(3,1,64),(5,1,67)]] (.O 17 (.blst 69 AL [68]) false [] (.O 18 (.app 70 112 AL 52 69) false [] (.tk 20 [.m 7 70] .z)))))))) [0,1,2,7,8]) .k))) (.r [.m 41 8,.bin 42 .add 41 (.i 1),.m 8 42] [0,1,2,7,8])))
def cA:AG:=(.R [.m 71 7,.m 6 71] [6] .e)
def Fh:BL:=⟨[.ptr Z,.val .S,.val (.slice AK)],[⟨6,false,(.slice AL)⟩],(.R [.mv 6 .z] [0,1,2] (.R [.brow 9 112 AL [],.m 7 9] [0,1,2,7] (.R [.m 10 0,.n 11 10,.f 12 11 3,.store 12 .V 1 false] [0,1,2,7] (.R [.m 13 0,.brow 14 45 AK [],.m 15 2,.app 16 45 AK 14 15,.n 17 13,.f 18 17 7,.store 18 16 1 false] [0,1,2,7] (.R [.m 19 0,.m 20 1,.m 21 0,.n 22 21,.f 23 22 0,.l 24 23,.cl 25 [20,24] YW,.n 26 19,.f 27 26 6,.store 27 25 1 false] [0,1,2,7] (.R [.m 28 0,.m 29 0,.n 30 29,.f 31 30 6,.l 32 31,.len 33 false 32,.bin 34 .eql 33 (.i 0),.n 35 28,.f 36 35 5,.store 36 34 1 false] [0,1,2,7] (.s (.R [.mv 8 (.i 0)] [0,1,2,7,8] (.b 0 [7] (.loop [0,1,2,7,8] b_))) cA)))))))⟩
theorem yD:Aw Tryz.prog 127 Fh=true:=by kernel_rfl
def ed:AG:=(.cond 39 (.R [.mv 2 .V] [2] .e) (.R [.bin 43 .eql 38 (.i 5),.m 42 43] [1,42] (.cond 42 (.R [.f 44 1 5,.l 45 44,.len 46 false 45,.bin 47 .eql 46 (.i 1),.m 2 47] [2] .e) .k)))
def ee:AG:=(.R [.f 48 1 5,.l 49 48,.len 50 false 49,.bin 51 .eql 50 (.i 0),.m 2 51] [2] .e)
def en:AG:=(.s (.R [.f 37 1 0,.l 38 37] [1,38] (.b 0 [1] (.seqc [1,38,39] (.R [.bin 40 .eql 38 (.i 2),.m 39 40] [1,38,39] (.cond 39 .k (.r [.bin 41 .eql 38 (.i 3),.m 39 41] [1,38,39]))) ed))) ee)
def FT:BL:=⟨[.val AL],[⟨2,false,.bool⟩],(.R [.box 1 0 false,.mv 2 .F] [1] (.s (.R [.f 3 1 0,.l 4 3,.cx (some 5) [4,.c (.int .i64 1),.c (.int .i64 8)] BD,.un 6 .not 5,.m 7 6,.sc 7 false [.f 8 1 1,.l 9 8,.cx (some 10) [9,.c (.int .i64 1),.c (.int .i64 6)] BD,.un 11 .not 10] 12 .V 11,.m 13 12,.sc 13 false [.f 14 1 2,.l 15 14,.cx (some 16) [15,.c (.int .i64 1),.c (.int .i64 6)] BD,.un 17 .not 16] 18 .V 17,.m 19 18,.sc 19 false [.f 20 1 3,.l 21 20,.cx (some 22) [21,.c (.int .i64 1),.c (.int .i64 9)] BD,.un 23 .not 22] 24 .V 23,.m 25 24,.sc 25 false [.f 26 1 4,.l 27 26,.cx (some 28) [27,.c (.int .i64 0),.c (.int .i64 1000000000)] BD,.un 29 .not 28] 30 .V 29,.m 31 30,.sc 31 false [.f 32 1 5,.l 33 32,.cl 34 [33] Nd,.un 35 .not 34] 36 .V 35] [1,36] (.cond 36 (.R [.mv 2 .F] [2] .e) .k)) en))⟩
theorem AAC:Aw Tryz.prog 128 FT=true:=by kernel_rfl
def cB:AG:=(.cond 28 (.R [.m 29 1,.f 30 5 5,.l 31 30,.cl 32 [9,29,31] jL,.m 12 32] [6,9,11,12] (.R [.ls 33 9 16,.m 34 12,.m 35 11,.store 6 33 16 false,.m 7 34,.m 8 35] [6,7,8] .e)) .k)
def cC:AG:=(.seqc [3,5,6,9,11] (.R [.f 64 9 3,.l 65 64,.un 66 .not 65] [3,5,6,9,11,66] (.cond 66 (.R [.ls 67 3 16,.f 68 3 1,.l 69 68,.cl 70 [67,69] eK,.store 9 70 16 false] [3,5,6,9,11] (.R [.f 71 9 3,.store 71 .V 1 false] [3,5,6,9,11] (.r [.brow 72 45 AK [],.f 73 5 5,.l 74 73,.app 75 45 AK 72 74,.f 76 9 7,.store 76 75 1 false] [3,5,6,9,11]))) .k)) (.s (.D 8 [(1,[]),(2,[]),(3,[1,2]),(4,[]),(5,[0,3]),(7,[4,6])] (.tk 3 [.ls 79 5 6,.ls 78 3 16,.ls 77 9 16] (.tk 5 [.m 81 11] (.O 3 (.cx (some 80) [78,79,.c (.int .i64 4)] Ls) false [] (.O 5 (.store 6 77 16 false) false [] (.tk 8 [.m 8 81,.m 7 80] .z))))) [6,7,8]) .e))
def cD:AG:=(.s (.R [.f 54 9 3,.l 55 54,.un 56 .not 55,.m 57 56,.sc 57 true [.f 58 9 2,.l 59 58] 60 59 .F] [3,5,6,9,10,11,60] (.cond 60 (.R [.ls 61 9 16,.m 62 10,.m 63 11,.store 6 61 16 false,.m 7 62,.m 8 63] [6,7,8] .e) .k)) cC)
def Y5:AG:=(.R [.f 149 9 9,.f 150 149 6,.l 151 150,.f 152 5 1,.l 153 152,.cl 154 [151,153] Va,.f 155 9 9,.f 156 155 6,.store 156 154 1 false] [6,9,10,11] (.R [.f 157 9 9,.f 158 157 6,.l 159 158,.len 160 false 159,.bin 161 .eql 160 (.i 0)] [6,9,10,11,161] (.cond 161 (.r [.cl 162 [9] YX,.m 11 162] [6,9,10,11]) .k)))
def Y6:AG:=(.s (.R [.f 133 9 9,.f 134 133 0,.l 135 134,.m 136 13,.b 137 .neq 135 136,.m 138 137,.sc 138 false [.f 139 9 9,.f 140 139 2,.l 141 140,.f 142 5 4,.l 143 142,.b 144 .neq 141 143] 145 .V 144] [5,6,9,10,11,145] (.cond 145 (.R [.ls 146 9 16,.m 147 10,.m 148 11,.store 6 146 16 false,.m 7 147,.m 8 148] [6,7,8] .e) .k)) Y5)
def Y7:AG:=(.cond 127 (.R [.mv 13 (.i 1)] [5,6,9,10,11,13] (.seqc [5,6,9,10,11,13] (.R [.f 130 5 0,.l 131 130,.bin 132 .eql 131 (.i 8)] [5,6,9,10,11,13,132] (.cond 132 (.r [.mv 13 (.i 2)] [5,6,9,10,11,13]) .k)) Y6)) .k)
def Y8:AG:=(.R [.ls 163 9 16,.m 164 10,.m 165 11,.store 6 163 16 false,.m 7 164,.m 8 165] [6,7,8] .e)
def C2:BL:=⟨[.val Z,.val .S,.val AL],[⟨6,true,Z⟩,⟨7,false,(.slice AL)⟩,⟨8,false,(.slice BG)⟩],(.R [.box 3 0 false,.box 5 2 false,.al 6 Z,.mv 7 .z,.mv 8 .z] [1,3,5,6] (.R [.ls 14 3 16,.cl 15 [14] Hp,.al 9 Z,.store 9 15 16 false] [1,3,5,6,9] (.R [.blst 16 AL [],.m 10 16] [1,3,5,6,9,10] (.R [.blst 17 BG [],.m 11 17] [1,3,5,6,9,10,11] (.s (.R [.f 18 5 0,.l 19 18] [1,3,5,6,9,10,11,19] (.b 0 [6,9,10,11] (.R [.bin 21 .eql 19 (.i 2),.m 20 21] [1,3,5,6,9,10,11,19,20] (.cond 20 (.R [.f 22 9 4,.l 23 22,.m 24 23,.sc 24 true [.f 25 9 3,.l 26 25,.un 27 .not 26] 28 27 .F] [1,5,6,9,10,11,28] cB) (.R [.bin 37 .eql 19 (.i 3),.m 36 37] [1,3,5,6,9,10,11,19,36] (.cond 36 (.s (.s (.D 13 [(1,[]),(3,[0,2]),(9,[5]),(11,[8,10])] (.tk 3 [.l 40 39,.f 39 3 0,.m 38 1] (.O 3 (.cl 41 [38,40] Gn) false [] (.tk 6 [.m 43 42,.un 42 .not 41] (.test 43 (.sk 43 false 6 12 50 (.tk 13 [.pick 50 43 .V 49] .z)) (.tg 43 false 12 [.b 49 .eql 46 48,.l 48 47,.f 47 3 0,.l 46 45,.idx 45 1 44 (.i 0),.m 44 1] (.tk 13 [.pick 50 43 .V 49] .z)))))) [3,5,6,9,10,11,50]) (.cond 50 (.R [.ls 51 9 16,.m 52 10,.m 53 11,.store 6 51 16 false,.m 7 52,.m 8 53] [6,7,8] .e) .k)) cD) (.R [.bin 83 .eql 19 (.i 4),.m 82 83] [3,5,6,9,10,11,19,82] (.cond 82 (.R [.f 84 9 4,.l 85 84] [5,6,9,10,11,85] (.cond 85 (.R [.f 86 9 6,.l 87 86,.f 88 5 1,.l 89 88,.cl 90 [87,89] Va,.f 91 9 6,.store 91 90 1 false] [6,9,10,11] (.r [.f 92 9 3,.l 93 92,.m 94 93,.sc 94 true [.f 95 9 6,.l 96 95,.len 97 false 96,.bin 98 .eql 97 (.i 0)] 99 98 .F,.f 100 9 5,.store 100 99 1 false] [6,9,10,11])) .k)) (.R [.bin 102 .eql 19 (.i 5),.m 101 102] [3,5,6,9,10,11,19,101] (.cond 101 (.R [.f 103 9 3,.l 104 103] [3,5,6,9,10,11,104] (.cond 104 (.s (.D 9 [(2,[]),(6,[1,5])] (.tk 6 [.ls 110 109 3,.idx 109 3 108 (.i 0),.l 108 107,.f 107 5 5,.l 106 105,.f 105 9 7] (.O 6 (.cl 111 [106,110] Tf) false [] (.tk 8 [.f 112 9 7] (.O 8 (.store 112 111 1 false) false [] .z)))) [3,5,6,9,11]) (.s (.D 8 [(1,[]),(2,[]),(3,[1,2]),(4,[]),(5,[0,3]),(7,[4,6])] (.tk 3 [.ls 115 5 6,.ls 114 3 16,.ls 113 9 16] (.tk 5 [.m 117 11] (.O 3 (.cx (some 116) [114,115,.c (.int .i64 6)] Ls) false [] (.O 5 (.store 6 113 16 false) false [] (.tk 8 [.m 8 117,.m 7 116] .z))))) [6,7,8]) .e)) .k)) (.R [.bin 119 .eql 19 (.i 7),.m 118 119] [3,5,6,9,10,11,19,118] (.cond 118 (.R [.f 120 9 3,.l 121 120] [3,5,6,9,10,11,121] (.cond 121 (.s (.D 8 [(1,[]),(2,[]),(3,[1,2]),(4,[]),(5,[0,3]),(7,[4,6])] (.tk 3 [.ls 124 5 6,.ls 123 3 16,.ls 122 9 16] (.tk 5 [.m 126 11] (.O 3 (.cx (some 125) [123,124,.c (.int .i64 8)] Ls) false [] (.O 5 (.store 6 122 16 false) false [] (.tk 8 [.m 8 126,.m 7 125] .z))))) [6,7,8]) .e) .k)) (.seqc [5,6,9,10,11,127] (.R [.bin 128 .eql 19 (.i 6),.m 127 128] [5,6,9,10,11,19,127] (.cond 127 .k (.r [.bin 129 .eql 19 (.i 8),.m 127 129] [5,6,9,10,11,127]))) Y7))))))))))))) Y8)))))⟩
theorem yE:Aw Tryz.prog 129 C2=true:=by kernel_rfl
def N0:BL:=⟨[.val Z,.val .W],[⟨4,true,Z⟩],(.R [.box 2 0 false,.al 4 Z] [1,2,4] (.s (.D 9 [(2,[]),(3,[]),(4,[]),(6,[3,5]),(7,[1,2,6])] (.tk 3 [.m 7 1,.l 6 5,.f 5 2 0] (.tk 6 [.l 10 9,.f 9 2 7] (.O 3 (.brow 8 45 AK []) false [] (.O 6 (.apz 11 45 AK 8 10) false [] (.tk 8 [.bu 12 Z [(0,1,6),(1,1,7),(7,1,11),(8,1,.c (.int .i64 0))]] (.O 8 (.store 4 12 16 false) false [] .z)))))) [4]) .e))⟩
theorem vk:Aw Tryz.prog 130 N0=true:=by kernel_rfl
def Lw:BL:=⟨[.val Z,.val AL,.val .W],[⟨6,false,(.slice AL)⟩],(.R [.box 3 0 false,.box 4 1 false,.mv 6 .z] [2,3,4] (.R [.m 7 2,.f 8 3 0,.l 9 8,.f 10 4 1,.l 11 10,.f 12 4 3,.l 13 12,.f 14 4 4,.l 15 14,.bu 16 AL [(0,1,7),(1,1,9),(2,1,11),(3,1,13),(4,1,15)],.brow 17 112 AL [16],.m 6 17] [6] .e))⟩
theorem si:Aw Tryz.prog 131 Lw=true:=by kernel_rfl
def Qx:AG:=(.R [.b 12 .lss 11 10] [0,1,2,9,10,11,12] (.s (.cond 12 .k (.exit 0)) (.s (.b 1 [0,1,2,9,10,11] (.R [.m 13 11,.idx 14 1 9 11,.l 15 14,.m 7 13,.m 8 15] [0,1,2,7,8,9,10,11] (.R [.m 16 8,.m 17 1,.m 18 2,.cl 19 [16,17,18] BH,.un 20 .not 19,.m 21 20,.sc 21 false [.m 22 7,.bin 23 .gtr 22 (.i 0),.m 24 23,.sc 24 true [.m 25 8,.m 26 0,.m 27 7,.bin 28 .sub 27 (.i 1),.idx 29 1 26 28,.l 30 29,.b 31 .leq 25 30] 32 31 .F] 33 .V 32] [0,1,2,9,10,11,33] (.cond 33 (.R [.mv 6 .F] [6] .e) .k)))) (.r [.bin 34 .add 11 (.i 1),.m 11 34] [0,1,2,9,10,11]))))
def Qy:AG:=(.R [.mv 6 .V] [6] .e)
def Cx:BL:=⟨[.val .S,.val .W,.val .W],[⟨6,false,.bool⟩],(.R [.mv 6 .F] [0,1,2] (.s (.R [.m 9 0,.len 10 false 9,.mv 11 (.i 0)] [0,1,2,9,10,11] (.b 0 [] (.loop [0,1,2,9,10,11] Qx))) Qy))⟩
theorem j7:Aw Tryz.prog 140 Cx=true:=by kernel_rfl
def WS:DT:=(.sk 28 false 3 20 32 (.sk 31 true 9 29 41 (.sk 28 false 1 30 42 (.tk 31 [.pick 42 28 .V 41] .z))))
def WT:DT:=(.sk 22 false 4 15 27 (.tk 17 [.m 28 27,.pick 27 22 .V 26] WS))
def WU:DT:=(.tg 28 false 30 [.pick 41 31 40 .F] (.tk 31 [.pick 42 28 .V 41] .z))
def WV:AG:=(.R [.b 8 .lss 7 6] [0,5,6,7,8] (.s (.cond 8 .k (.exit 0)) (.s (.b 1 [0,5,6,7] (.R [.m 9 7,.idx 10 3 5 7,.ls 11 10 3,.al 4 AK,.m 3 9,.store 4 11 3 false] [0,3,4,5,6,7] (.s (.D 31 [(22,[19]),(23,[19]),(25,[22,24]),(28,[21,27])] (.tk 2 [.l 13 12,.f 12 4 0] (.O 2 (.cl 14 [13] mO) false [] (.tk 5 [.m 16 15,.un 15 .not 14] (.test 16 (.sk 16 false 4 9 21 (.tk 11 [.m 22 21,.pick 21 16 .V 20] WT)) (.tg 16 false 9 [.bin 20 .gtr 19 (.i 20),.len 19 true 18,.l 18 17,.f 17 4 1] (.tk 11 [.m 22 21,.pick 21 16 .V 20] (.test 22 WT (.tg 22 false 13 [.l 24 23,.f 23 4 2] (.only 13 (some (22,false)) (.cx (some 25) [24,.c (.int .i64 1),.c (.int .i64 1000000000)] BH) false [] (.tg 22 false 15 [.un 26 .not 25] (.tk 17 [.m 28 27,.pick 27 22 .V 26] (.test 28 WS (.tg 28 false 20 [.m 31 30,.bin 30 .gtr 29 (.i 0),.m 29 3] (.test 31 (.tg 31 true 29 [.b 40 .leq 33 39,.l 39 38,.f 38 37 0,.idx 37 3 34 36,.bin 36 .sub 35 (.i 1),.m 35 3,.m 34 0,.l 33 32,.f 32 4 0] WU) (.sk 31 true 9 29 41 WU))))))))))))))) [0,5,6,7,42]) (.cond 42 (.R [.mv 2 .F] [2] .e) .k)))) (.r [.bin 43 .add 7 (.i 1),.m 7 43] [0,5,6,7]))))
def WW:AG:=(.R [.m 44 0,.len 45 false 44,.bin 46 .leq 45 (.i 12),.m 2 46] [2] .e)
def En:BL:=⟨[.val (.slice AK)],[⟨2,false,.bool⟩],(.R [.mv 2 .F] [0] (.s (.R [.m 5 0,.len 6 false 5,.mv 7 (.i 0)] [0,5,6,7] (.b 0 [0] (.loop [0,5,6,7] WV))) WW))⟩
theorem vm:Aw Tryz.prog 141 En=true:=by kernel_rfl
def Gu:BL:=⟨[.ptr Z],[⟨2,false,.bool⟩],(.R [.mv 2 .F] [0] (.R [.m 4 0,.n 5 4,.f 6 5 9,.ls 7 6 7,.al 3 NT,.store 3 7 7 false] [0,3] (.s (.R [.f 8 3 0,.l 9 8,.bin 10 .eql 9 (.i 0)] [0,3,10] (.cond 10 (.R [.f 11 3 1,.l 12 11,.bin 13 .eql 12 (.i 0),.m 14 13,.sc 14 true [.f 15 3 2,.l 16 15,.bin 17 .eql 16 (.i 0)] 18 17 .F,.m 19 18,.sc 19 true [.f 20 3 3,.ls 21 20 3,.bu 22 AK [],.eqs 23 false AK 21 22] 24 23 .F,.m 25 24,.sc 25 true [.f 26 3 6,.l 27 26,.len 28 false 27,.bin 29 .eql 28 (.i 0)] 30 29 .F,.m 2 30] [2] .e) .k)) (.R [.f 31 3 0,.l 32 31,.cx (some 33) [32,.c (.int .i64 1),.c (.int .i64 2)] BH,.m 34 33,.sc 34 true [.m 35 0,.n 36 35,.f 37 36 5,.l 38 37] 39 38 .F,.m 40 39,.sc 40 true [.f 41 3 1,.l 42 41,.cx (some 43) [42,.c (.int .i64 0),.c (.int .i64 1000)] BH] 44 43 .F,.m 45 44,.sc 45 true [.f 46 3 2,.l 47 46,.cx (some 48) [47,.c (.int .i64 1),.c (.int .i64 900)] BH] 49 48 .F,.m 50 49,.sc 50 true [.f 51 3 6,.l 52 51,.cx (some 53) [52,.c (.int .i64 1),.c (.int .i64 6)] Tg] 54 53 .F,.m 2 54] [2] .e))))⟩
theorem eo:Aw Tryz.prog 142 Gu=true:=by kernel_rfl
def Pv:AG:=(.cond 87 (.R [.m 88 0,.m 89 1,.m 90 2,.m 91 11,.cl 92 [88,89,90,91] MG,.m 13 92] [0,2,3,8,9,13] (.R [.m 93 13,.m 1 93] [0,1,2,3,8,9] (.exit 1))) .k)
def Pw:AG:=(.R [.m 95 0,.m 96 1,.m 97 2,.m 98 11,.cl 99 [95,96,97,98] Qh,.m 94 99,.ext 100 94 0,.ext 101 94 1,.m 14 100,.m 15 101] [0,1,2,3,10,14,15] (.R [.m 102 15,.m 9 102] [0,1,2,3,9,10,14] (.R [.m 103 14,.m 104 1,.b 105 .sub 103 104,.m 106 2,.m 107 14,.b 108 .sub 106 107,.m 16 105,.m 17 108] [0,1,2,3,9,10,14,16,17] (.R [.m 109 10,.bin 110 .quo 109 (.i 8),.m 18 110] [0,1,2,3,9,14,16,17,18] (.R [.m 111 16,.m 112 17,.b 113 .lss 111 112] [0,1,2,3,9,14,16,17,18,113] (.cond 113 (.R [.m 114 16,.m 115 18,.b 116 .geq 114 115,.m 8 116] [0,1,2,3,8,9,14] (.R [.m 117 0,.m 118 1,.m 119 14,.m 120 3,.cl 121 [117,118,119,120] FQ] [0,2,3,8,9,14] (.r [.m 122 14,.bin 123 .add 122 (.i 1),.m 1 123] [0,1,2,3,8,9]))) (.R [.m 124 17,.m 125 18,.b 126 .geq 124 125,.m 8 126] [0,1,2,3,8,9,14] (.R [.m 127 0,.m 128 14,.bin 129 .add 128 (.i 1),.m 130 2,.m 131 3,.cl 132 [127,129,130,131] FQ] [0,1,3,8,9,14] (.r [.m 133 14,.m 2 133] [0,1,2,3,8,9])))))))))
def Px:AG:=(.s (.s (.D 15 [(4,[2]),(6,[3,5]),(8,[2]),(9,[2]),(10,[8,9]),(12,[7,11])] (.tk 3 [.m 75 74,.bin 74 .gtr 73 (.i 0),.m 73 1] (.test 75 (.tg 75 true 12 [.l 84 83,.idx 83 1 81 82,.m 82 11,.m 81 0,.l 80 79,.idx 79 1 76 78,.bin 78 .sub 77 (.i 1),.m 77 1,.m 76 0] (.only 12 (some (75,true)) (.cl 85 [80,84] eN) false [] (.tg 75 true 14 [.un 86 .not 85] (.tk 15 [.pick 87 75 86 .F] .z)))) (.sk 75 true 11 14 87 (.tk 15 [.pick 87 75 86 .F] .z)))) [0,1,2,3,8,9,10,11,87]) Pv) Pw)
def Py:AG:=(.seqc [0,1,2,3,8,9,10,11] (.R [.m 61 8,.m 62 61,.sc 62 true [.m 63 9] 64 63 .F,.m 65 64,.sc 65 true [.m 66 12,.bin 67 .eql 66 (.i 1)] 68 67 .F] [0,1,2,3,8,9,10,11,68] (.cond 68 (.R [.m 69 0,.m 70 1,.m 71 2,.cl 72 [69,70,71] I6] [0,1,2,3,8,9,10,11,72] (.cond 72 .e .k)) .k)) Px)
def Ht:AG:=(.R [.m 43 0,.m 44 1,.m 45 2,.cl 46 [43,44,45] PC,.m 42 46,.ext 47 42 0,.ext 48 42 1,.m 11 47,.m 12 48] [0,1,2,3,8,9,10,11,12] (.seqc [0,1,2,3,8,9,10,11,12] (.R [.m 49 12,.bin 50 .eql 49 (.i 2)] [0,1,2,3,8,9,10,11,12,50] (.cond 50 (.R [.m 51 0,.m 52 1,.m 53 2,.cl 54 [51,52,53] Nf] [0,1,2,3,8,9,10,11] (.R [.m 55 2,.bin 56 .sub 55 (.i 1),.m 57 11,.m 58 1,.b 59 .sub 57 58,.b 60 .sub 56 59,.m 11 60] [0,1,2,3,8,9,10,11] (.r [.mv 12 (.i 1)] [0,1,2,3,8,9,10,11,12]))) .k)) Py))
def Hu:AG:=(.b 1 [0,1,2,3,8,9] (.R [.m 19 2,.m 20 1,.b 21 .sub 19 20,.m 10 21] [0,1,2,3,8,9,10] (.s (.R [.m 22 10,.bin 23 .leq 22 (.i 12)] [0,1,2,3,8,9,10,23] (.cond 23 (.R [.m 24 0,.m 25 1,.m 26 2,.cl 27 [24,25,26] NG] [] .e) .k)) (.s (.R [.m 28 3,.bin 29 .eql 28 (.i 0)] [0,1,2,3,8,9,10,29] (.cond 29 (.R [.m 30 0,.m 31 1,.m 32 2,.cl 33 [30,31,32] Rf] [] .e) .k)) (.seqc [0,1,2,3,8,9,10] (.R [.m 34 8,.un 35 .not 34] [0,1,2,3,8,9,10,35] (.cond 35 (.R [.m 36 0,.m 37 1,.m 38 2,.cl 39 [36,37,38] NH] [0,1,2,3,8,9,10] (.r [.m 40 3,.bin 41 .sub 40 (.i 1),.m 3 41] [0,1,2,3,8,9,10])) .k)) Ht)))))
def BR:BL:=⟨[.mut (.own 3 .W),.val .W,.val .W,.val .W],[],(.R [.mv 8 .V] [0,1,2,3,8] (.R [.mv 9 .V] [0,1,2,3,8,9] (.b 0 [] (.loop [0,1,2,3,8,9] Hu))))⟩
theorem TF:Aw Tryz.prog 143 BR=true:=by kernel_rfl
def Lx:BL:=⟨[.val (.int .u64)],[⟨2,false,.W⟩],(.R [.mv 2 (.i 0)] [0] (.s (.cond .F (.R [.m 3 0,.cvi 4 .u32 3,.cl 5 [4] mQ,.m 2 5] [2] .e) .k) (.R [.m 6 0,.cl 7 [6] mP,.m 2 7] [2] .e)))⟩
theorem sj:Aw Tryz.prog 144 Lx=true:=by kernel_rfl
def Y9:DT:=(.tg 20 false 15 [.pick 31 22 30 .F] (.tk 16 [.pick 32 20 .V 31] .z))
def Y_:AG:=(.s (.R [.m 44 5,.cl 45 [44] Nc,.un 46 .not 45] [0,5,46] (.cond 46 (.R [.m 47 0,.cl 48 [47] BU,.m 4 48] [4] .e) .k)) (.R [.m 49 5,.m 4 49] [4] .e))
def ZA:AG:=(.seqc [0,5] (.R [.m 34 7] [0,3,5,6,34] (.cond 34 (.r [.m 35 5,.m 36 6,.ls 37 3 3,.idx 38 3 35 36,.store 38 37 3 false] [0,5]) (.r [.m 39 5,.m 40 6,.ls 41 3 3,.brow 42 45 AK [41],.cl 43 [39,40,42] LY,.m 5 43] [0,5]))) Y_)
def Eo:BL:=⟨[.val (.slice AK),.val AK],[⟨4,false,(.own 45 AK)⟩],(.R [.box 3 1 false,.mv 4 .z] [0,3] (.R [.m 8 0,.cl 9 [8] BU,.m 5 9] [0,3,5] (.R [.m 11 0,.f 12 3 0,.l 13 12,.cx (some 14) [11,13,.c (.fn 173 [])] FR,.m 10 14,.ext 15 10 0,.ext 16 10 1,.m 6 15,.m 7 16] [0,3,5,6,7] (.s (.s (.D 16 [(7,[5]),(8,[6,7]),(11,[5]),(13,[10,12])] (.tk 1 [.m 17 0] (.O 1 (.cl 18 [17] Nc) false [] (.tk 4 [.m 20 19,.un 19 .not 18] (.test 20 (.sk 20 false 2 6 23 (.sk 22 true 8 14 31 (.sk 20 false 1 15 32 (.tk 16 [.pick 32 20 .V 31] .z)))) (.tg 20 false 6 [.m 22 21,.m 21 7] (.test 22 (.tg 22 true 14 [.b 30 .geq 27 29,.l 29 28,.f 28 3 2,.l 27 26,.f 26 25 2,.idx 25 3 23 24,.m 24 6,.m 23 0] Y9) (.sk 22 true 8 14 31 Y9))))))) [0,3,5,6,7,32]) (.cond 32 (.R [.m 33 5,.m 4 33] [4] .e) .k)) ZA))))⟩
theorem vn:Aw Tryz.prog 145 Eo=true:=by kernel_rfl
def ew:AG:=(.cond 39 (.R [.mv 2 .V] [2] .e) (.R [.bin 43 .eql 38 (.i 5),.m 42 43] [1,42] (.cond 42 (.R [.f 44 1 5,.l 45 44,.len 46 false 45,.bin 47 .eql 46 (.i 1),.m 2 47] [2] .e) .k)))
def e_:AG:=(.R [.f 48 1 5,.l 49 48,.len 50 false 49,.bin 51 .eql 50 (.i 0),.m 2 51] [2] .e)
def fA:AG:=(.s (.R [.f 37 1 0,.l 38 37] [1,38] (.b 0 [1] (.seqc [1,38,39] (.R [.bin 40 .eql 38 (.i 2),.m 39 40] [1,38,39] (.cond 39 .k (.r [.bin 41 .eql 38 (.i 3),.m 39 41] [1,38,39]))) ew))) e_)
def FU:BL:=⟨[.val AL],[⟨2,false,.bool⟩],(.R [.box 1 0 false,.mv 2 .F] [1] (.s (.R [.f 3 1 0,.l 4 3,.cx (some 5) [4,.c (.int .i64 1),.c (.int .i64 8)] BH,.un 6 .not 5,.m 7 6,.sc 7 false [.f 8 1 1,.l 9 8,.cl 10 [9] I2,.un 11 .not 10] 12 .V 11,.m 13 12,.sc 13 false [.f 14 1 2,.l 15 14,.cl 16 [15] I2,.un 17 .not 16] 18 .V 17,.m 19 18,.sc 19 false [.f 20 1 3,.l 21 20,.cx (some 22) [21,.c (.int .i64 1),.c (.int .i64 9)] BH,.un 23 .not 22] 24 .V 23,.m 25 24,.sc 25 false [.f 26 1 4,.l 27 26,.cx (some 28) [27,.c (.int .i64 0),.c (.int .i64 1000000000)] BH,.un 29 .not 28] 30 .V 29,.m 31 30,.sc 31 false [.f 32 1 5,.l 33 32,.cl 34 [33] Nc,.un 35 .not 34] 36 .V 35] [1,36] (.cond 36 (.R [.mv 2 .F] [2] .e) .k)) fA))⟩
theorem AAD:Aw Tryz.prog 146 FU=true:=by kernel_rfl
def Qz:DT:=(.sk 31 true 5 19 37 (.tk 20 [.pick 37 31 36 .F] .z))
def Q0:AG:=(.cond 37 (.s (.D 14 [(1,[]),(2,[]),(7,[1,6]),(9,[]),(11,[0,8,10])] (.tk 11 [.l 48 47,.f 47 5 5,.l 46 45,.idx 45 1 39 44,.bin 44 .sub 43 (.i 1),.l 43 42,.f 42 41 1,.n 41 40,.m 40 0,.m 39 1,.m 38 0] (.O 11 (.cl 49 [38,46,48] Nb) false [] (.tk 14 [.mv 7 .z,.m 6 49] .z))) [6,7]) .e) .k)
def Q1:AG:=(.cond 75 (.s (.D 11 [(1,[]),(5,[]),(7,[4,6]),(8,[0,7])] (.tk 7 [.l 82 81,.f 81 5 1,.l 80 79,.f 79 78 6,.n 78 77,.m 77 0,.m 76 0] (.O 7 (.cl 83 [80,82] eO) false [] (.tk 10 [.f 85 84 6,.n 84 76] (.O 10 (.store 85 83 1 false) false [] .z)))) [0]) (.r [.m 86 0,.m 87 0,.n 88 87,.f 89 88 5,.l 90 89,.m 91 90,.sc 91 false [.m 92 0,.n 93 92,.f 94 93 6,.l 95 94,.len 96 false 95,.bin 97 .eql 96 (.i 0),.m 98 97,.sc 98 true [.m 99 0,.n 100 99,.f 101 100 3,.l 102 101] 103 102 .F] 104 .V 103,.n 105 86,.f 106 105 5,.store 106 104 1 false] [])) .k)
def PL:AG:=(.cond 107 (.R [.m 110 0,.ls 111 5 6,.cl 112 [110,111] iE,.m 6 112,.mv 7 .z] [6,7] .e) (.R [.bin 114 .eql 9 (.i 6),.m 113 114] [0,5,9,113] (.cond 113 (.R [.m 115 0,.ls 116 5 6,.cx (some 117) [115,.c (.int .i64 1),116] Qi,.mv 6 .z,.m 7 117] [6,7] .e) (.R [.bin 119 .eql 9 (.i 8),.m 118 119] [0,5,118] (.cond 118 (.R [.m 120 0,.ls 121 5 6,.cx (some 122) [120,.c (.int .i64 2),121] Qi,.mv 6 .z,.m 7 122] [6,7] .e) .k)))))
def PM:AG:=(.R [.mv 6 .z,.mv 7 .z] [6,7] .e)
def CX:BL:=⟨[.ptr Z,.val (.slice .S),.val AL],[⟨6,false,(.slice AL)⟩,⟨7,false,(.slice BG)⟩],(.R [.box 5 2 false,.mv 6 .z,.mv 7 .z] [0,1,5] (.s (.R [.f 8 5 0,.l 9 8] [0,1,5,9] (.b 0 [] (.R [.bin 11 .eql 9 (.i 1),.m 10 11] [0,1,5,9,10] (.cond 10 (.R [.m 12 0,.m 13 1,.ls 14 5 6,.cl 15 [12,13,14] ju,.m 6 15,.mv 7 .z] [6,7] .e) (.R [.bin 17 .eql 9 (.i 2),.m 16 17] [0,1,5,9,16] (.cond 16 (.s (.D 20 [(2,[]),(6,[1,5])] (.tk 8 [.m 25 24,.b 24 .eql 19 23,.l 23 22,.f 22 21 1,.n 21 20,.m 20 0,.l 19 18,.f 18 5 3] (.test 25 (.tg 25 true 12 [.l 29 28,.f 28 27 4,.n 27 26,.m 26 0] (.tk 14 [.m 31 30,.pick 30 25 29 .F] (.test 31 (.tg 31 true 19 [.un 36 .not 35,.l 35 34,.f 34 33 3,.n 33 32,.m 32 0] (.tk 20 [.pick 37 31 36 .F] .z)) Qz))) (.sk 25 true 4 12 30 (.tk 14 [.m 31 30,.pick 30 25 29 .F] Qz)))) [0,1,5,37]) Q0) (.R [.bin 51 .eql 9 (.i 3),.m 50 51] [0,1,5,9,50] (.cond 50 (.s (.D 11 [(1,[]),(2,[]),(5,[1,4]),(7,[]),(8,[0,6,7])] (.tk 8 [.ls 59 5 6,.l 58 57,.idx 57 1 53 56,.bin 56 .sub 55 (.i 1),.l 55 54,.f 54 5 3,.m 53 1,.m 52 0] (.O 8 (.cl 60 [52,58,59] dO) false [] (.tk 11 [.mv 7 .z,.m 6 60] .z))) [6,7]) .e) (.R [.bin 62 .eql 9 (.i 4),.m 61 62] [0,5,9,61] (.cond 61 (.s (.D 13 [(2,[]),(6,[1,5])] (.tk 8 [.m 70 69,.b 69 .eql 64 68,.l 68 67,.f 67 66 1,.n 66 65,.m 65 0,.l 64 63,.f 63 5 3] (.test 70 (.tg 70 true 12 [.l 74 73,.f 73 72 4,.n 72 71,.m 71 0] (.tk 13 [.pick 75 70 74 .F] .z)) (.sk 70 true 4 12 75 (.tk 13 [.pick 75 70 74 .F] .z)))) [0,5,75]) Q1) (.seqc [0,5,9,107] (.R [.bin 108 .eql 9 (.i 5),.m 107 108] [0,5,9,107] (.cond 107 .k (.r [.bin 109 .eql 9 (.i 7),.m 107 109] [0,5,9,107]))) PL))))))))))) PM))⟩
theorem j8:Aw Tryz.prog 147 CX=true:=by kernel_rfl
def cE:DT:=(.tg 16 false 21 [.pick 30 19 29 .F] (.tk 22 [.pick 31 16 .V 30] .z))
def cH:AG:=(.s (.R [.m 4 3,.m 5 0,.len 6 false 5,.b 7 .lss 4 6] [0,3,7] (.cond 7 .k (.exit 0))) (.s (.b 1 [0,3] (.s (.D 22 [(1,[]),(2,[0,1]),(11,[9]),(13,[10,12]),(15,[9]),(16,[9]),(17,[15,16]),(19,[14,18])] (.tk 4 [.l 13 12,.idx 12 1 10 11,.m 11 3,.m 10 0] (.O 4 (.cx (some 14) [13,.c (.int .i64 1),.c (.int .i64 6)] BD) false [] (.tk 7 [.m 16 15,.un 15 .not 14] (.test 16 (.sk 16 false 3 10 20 (.sk 19 true 10 20 30 (.sk 16 false 1 21 31 (.tk 22 [.pick 31 16 .V 30] .z)))) (.tg 16 false 10 [.m 19 18,.bin 18 .gtr 17 (.i 0),.m 17 3] (.test 19 (.tg 19 true 20 [.b 29 .geq 24 28,.l 28 27,.idx 27 1 25 26,.m 26 3,.m 25 0,.l 24 23,.idx 23 1 20 22,.bin 22 .sub 21 (.i 1),.m 21 3,.m 20 0] cE) (.sk 19 true 10 20 30 cE))))))) [0,3,31]) (.cond 31 (.R [.mv 2 .F] [2] .e) .k))) (.r [.m 8 3,.bin 9 .add 8 (.i 1),.m 3 9] [0,3])))
def cI:AG:=(.R [.mv 2 .V] [2] .e)
def Fi:BL:=⟨[.val .S],[⟨2,false,.bool⟩],(.R [.mv 2 .F] [0] (.s (.R [.mv 3 (.i 0)] [0,3] (.b 0 [] (.loop [0,3] cH))) cI))⟩
theorem yF:Aw Tryz.prog 148 Fi=true:=by kernel_rfl
def WX:DT:=(.sk 32 false 3 21 36 (.sk 35 true 9 30 45 (.sk 32 false 1 31 46 (.tk 32 [.pick 46 32 .V 45] .z))))
def WY:DT:=(.sk 26 false 4 16 31 (.tk 18 [.m 32 31,.pick 31 26 .V 30] WX))
def WZ:DT:=(.tg 32 false 31 [.pick 45 35 44 .F] (.tk 32 [.pick 46 32 .V 45] .z))
def Wa:AG:=(.s (.R [.m 5 3,.m 6 0,.len 7 false 6,.b 8 .lss 5 7] [0,3,8] (.cond 8 .k (.exit 0))) (.s (.b 1 [0,3] (.R [.m 11 0,.m 12 3,.idx 13 3 11 12,.ls 14 13 3,.al 4 AK,.store 4 14 3 false] [0,3,4] (.s (.D 32 [(22,[20]),(24,[21,23]),(27,[20]),(29,[26,28])] (.tk 3 [.len 17 true 16,.l 16 15,.f 15 4 0] (.O 3 (.cx (some 18) [17,.c (.int .i64 1),.c (.int .i64 12)] BD) false [] (.tk 6 [.m 20 19,.un 19 .not 18] (.test 20 (.sk 20 false 4 10 25 (.tk 12 [.m 26 25,.pick 25 20 .V 24] WY)) (.tg 20 false 10 [.bin 24 .gtr 23 (.i 20),.len 23 true 22,.l 22 21,.f 21 4 1] (.tk 12 [.m 26 25,.pick 25 20 .V 24] (.test 26 WY (.tg 26 false 14 [.l 28 27,.f 27 4 2] (.only 14 (some (26,false)) (.cx (some 29) [28,.c (.int .i64 1),.c (.int .i64 1000000000)] BD) false [] (.tg 26 false 16 [.un 30 .not 29] (.tk 18 [.m 32 31,.pick 31 26 .V 30] (.test 32 WX (.tg 32 false 21 [.m 35 34,.bin 34 .gtr 33 (.i 0),.m 33 3] (.test 35 (.tg 35 true 30 [.b 44 .geq 41 43,.l 43 42,.f 42 4 0,.l 41 40,.f 40 39 0,.idx 39 3 36 38,.bin 38 .sub 37 (.i 1),.m 37 3,.m 36 0] WZ) (.sk 35 true 9 30 45 WZ))))))))))))))) [0,3,46]) (.cond 46 (.R [.mv 2 .F] [2] .e) .k)))) (.r [.m 9 3,.bin 10 .add 9 (.i 1),.m 3 10] [0,3])))
def Wb:AG:=(.R [.m 47 0,.len 48 false 47,.bin 49 .leq 48 (.i 12),.m 2 49] [2] .e)
def Ep:BL:=⟨[.val (.slice AK)],[⟨2,false,.bool⟩],(.R [.mv 2 .F] [0] (.s (.R [.mv 3 (.i 0)] [0,3] (.b 0 [0] (.loop [0,3] Wa))) Wb))⟩
theorem vo:Aw Tryz.prog 149 Ep=true:=by kernel_rfl
def Kg:BL:=⟨[.val NT],[⟨2,false,.bool⟩],(.R [.box 1 0 false,.mv 2 .F] [1] (.R [.f 3 1 0,.l 4 3,.bin 5 .eql 4 (.i 0),.m 6 5,.sc 6 true [.f 7 1 1,.l 8 7,.bin 9 .eql 8 (.i 0)] 10 9 .F,.m 11 10,.sc 11 true [.f 12 1 2,.l 13 12,.bin 14 .eql 13 (.i 0)] 15 14 .F,.m 16 15,.sc 16 true [.f 17 1 3,.ls 18 17 3,.bu 19 AK [],.eqs 20 false AK 18 19] 21 20 .F,.m 22 21,.sc 22 true [.f 23 1 6,.l 24 23,.len 25 false 24,.bin 26 .eql 25 (.i 0)] 27 26 .F,.m 2 27] [2] .e))⟩
theorem pa:Aw Tryz.prog 150 Kg=true:=by kernel_rfl
def SM:AG:=(.s (.R [.m 8 6,.m 9 0,.len 10 false 9,.b 11 .lss 8 10] [0,1,5,6,11] (.cond 11 .k (.exit 0))) (.s (.b 1 [0,1,5,6] (.R [.m 14 0,.m 15 6,.idx 16 1 14 15,.l 17 16,.m 18 1,.b 19 .neq 17 18] [0,1,5,6,19] (.cond 19 (.r [.m 20 5,.m 21 0,.m 22 6,.idx 23 1 21 22,.l 24 23,.blst 25 .W [24],.app 26 3 .W 20 25,.m 5 26] [0,1,5,6]) .k))) (.r [.m 12 6,.bin 13 .add 12 (.i 1),.m 6 13] [0,1,5,6])))
def SN:AG:=(.R [.m 27 5,.m 4 27] [4] .e)
def DE:BL:=⟨[.val .S,.val .W],[⟨4,false,.S⟩],(.R [.mv 4 .z] [0,1] (.R [.brow 7 3 .W [],.m 5 7] [0,1,5] (.s (.R [.mv 6 (.i 0)] [0,1,5,6] (.b 0 [5] (.loop [0,1,5,6] SM))) SN)))⟩
theorem mY:Aw Tryz.prog 151 DE=true:=by kernel_rfl
def SO:AG:=(.seqc [0,2] (.R [.m 13 0,.bin 14 .geq 13 (.c (.int .u64 256))] [0,2,14] (.cond 14 (.R [.m 15 0,.bin 16 .shr 15 (.c (.int .u64 8)),.m 0 16] [0,2] (.r [.m 17 2,.bin 18 .add 17 (.i 8),.m 2 18] [0,2])) .k)) (.R [.m 19 2,.m 20 0,.cvi 21 .u8 20,.sidx 22 (.c (.str ⟨uu⟩)) 21,.cvi 23 .i64 22,.b 24 .add 19 23,.m 2 24] [2] .e))
def SP:AG:=(.seqc [0,2] (.R [.m 7 0,.bin 8 .geq 7 (.c (.int .u64 65536))] [0,2,8] (.cond 8 (.R [.m 9 0,.bin 10 .shr 9 (.c (.int .u64 16)),.m 0 10] [0,2] (.r [.m 11 2,.bin 12 .add 11 (.i 16),.m 2 12] [0,2])) .k)) SO)
def DF:BL:=⟨[.val (.int .u64)],[⟨2,false,.W⟩],(.R [.mv 2 (.i 0)] [0,2] (.seqc [0,2] (.R [.m 3 0,.bin 4 .geq 3 (.c (.int .u64 4294967296))] [0,2,4] (.cond 4 (.R [.m 5 0,.bin 6 .shr 5 (.c (.int .u64 32)),.m 0 6] [0] (.r [.mv 2 (.i 32)] [0,2])) .k)) SP))⟩
theorem mZ:Aw Tryz.prog 158 DF=true:=by kernel_rfl
def Fj:AG:=(.s (.b 3 [0,1,2,6,7] (.D 18 [(1,[]),(2,[]),(3,[]),(5,[]),(6,[]),(8,[5,7]),(10,[]),(11,[]),(12,[10,11]),(14,[0,1,9,13]),(16,[2,4,15])] (.tk 15 [.idx 47 1 33 34,.l 46 45,.idx 45 1 43 44,.m 44 7,.m 43 0,.l 42 41,.idx 41 1 38 40,.bin 40 .sub 39 (.i 1),.m 39 7,.m 38 0,.bin 37 .sub 36 (.i 1),.m 36 7,.m 35 0,.m 34 7,.m 33 0] (.O 15 (.store 47 42 1 false) false [] (.tk 17 [.idx 48 1 35 37] (.O 17 (.store 48 46 1 false) false [] .z)))) [0,1,2,6,7])) (.r [.m 31 7,.bin 32 .sub 31 (.i 1),.m 7 32] [0,1,2,6,7]))
def Fk:AG:=(.s (.s (.D 15 [(1,[]),(2,[0,1]),(5,[3]),(6,[4,5]),(8,[3]),(9,[3]),(11,[8,10]),(13,[7,12])] (.tk 4 [.m 19 18,.b 18 .gtr 16 17,.m 17 1,.m 16 7] (.test 19 (.tg 19 true 13 [.l 28 27,.idx 27 1 24 26,.bin 26 .sub 25 (.i 1),.m 25 7,.m 24 0,.l 23 22,.idx 22 1 20 21,.m 21 7,.m 20 0] (.only 13 (some (19,true)) (.cl 29 [23,28] eN) false [] (.tk 15 [.pick 30 19 29 .F] .z))) (.sk 19 true 10 14 30 (.tk 15 [.pick 30 19 29 .F] .z)))) [0,1,2,6,7,30]) (.cond 30 .k (.exit 2))) Fj)
def Fl:AG:=(.r [.m 13 6,.bin 14 .add 13 (.i 1),.m 6 14] [0,1,2,6])
def Fm:AG:=(.s (.R [.m 10 6,.m 11 2,.b 12 .lss 10 11] [0,1,2,6,12] (.cond 12 .k (.exit 0))) (.s (.b 1 [0,1,2,6] (.R [.m 15 6,.m 7 15] [0,1,2,6,7] (.b 2 [0,1,2,6] (.loop [0,1,2,6,7] Fk)))) Fl))
def Ac:BL:=⟨[.mut (.own 3 .W),.val .W,.val .W],[],(.R [.m 8 1,.bin 9 .add 8 (.i 1),.m 6 9] [0,1,2,6] (.b 0 [] (.loop [0,1,2,6] Fm)))⟩
theorem NI:Aw Tryz.prog 162 Ac=true:=by kernel_rfl
def N1:BL:=⟨[.val .W,.val .W],[⟨4,false,.bool⟩],(.R [.mv 4 .F] [0,1] (.R [.m 5 0,.cl 6 [5] bL,.m 7 6,.sc 7 true [.m 8 1,.cl 9 [8] bL,.un 10 .not 9] 11 10 .F,.m 12 11,.sc 12 false [.m 13 0,.m 14 1,.b 15 .lss 13 14] 16 .V 15,.m 4 16] [4] .e))⟩
theorem vp:Aw Tryz.prog 168 N1=true:=by kernel_rfl

def Ce:AG:=(.s (.R [.m 15 9,.m 16 10,.b 17 .lss 15 16] [0,1,2,8,9,10,17] (.cond 17 .k (.exit 0))) (.b 1 [0,1,2,8,9,10] (.R [.m 18 9,.m 19 10,.b 20 .add 18 19,.cvi 21 .u64 20,.bin 22 .shr 21 (.c (.int .u64 1)),.cvi 23 .i64 22,.m 11 23] [0,1,2,8,9,10,11] (.R [.m 24 2,.m 25 0,.m 26 11,.idx 27 3 25 26,.ls 28 27 3,.m 29 1,.call (some 30) 173 [(.t 28,.val AK),(.t 29,.val .str),(.t 24,.cap0 173)] [.W],.bin 31 .lss 30 (.i 0)] [0,1,2,8,9,10,11,31] (.cond 31 (.r [.m 32 11,.bin 33 .add 32 (.i 1),.m 9 33] [0,1,2,8,9,10]) (.r [.m 34 11,.m 10 34] [0,1,2,8,9,10]))))))
def Bd:AG:=(.R [.m 35 9,.m 36 9,.m 37 8,.b 38 .lss 36 37,.m 39 38,.sc 39 true [.m 40 2,.m 41 0,.m 42 9,.idx 43 3 41 42,.ls 44 43 3,.m 45 1,.call (some 46) 173 [(.t 44,.val AK),(.t 45,.val .str),(.t 40,.cap0 173)] [.W],.bin 47 .eql 46 (.i 0)] 48 47 .F,.m 6 35,.m 7 48] [6,7] .e)
def AP:BL:=⟨[.val (.slice AK),.val .str,.val (.fun 173)],[⟨6,false,.W⟩,⟨7,false,.bool⟩],(.R [.mv 6 (.i 0),.mv 7 .F] [0,1,2] (.R [.m 12 0,.len 13 false 12,.m 8 13] [0,1,2,8] (.R [.m 14 8,.mv 9 (.i 0),.m 10 14] [0,1,2,8,9,10] (.s (.b 0 [0,1,2,8,9] (.loop [0,1,2,8,9,10] Ce)) Bd))))⟩
theorem FV:Aw Tryz.prog 172 AP=true:=by kernel_rfl
def Kh:BL:=⟨[.val AK,.val .str],[⟨4,false,.W⟩],(.R [.box 2 0 false,.mv 4 (.i 0)] [1,2] (.R [.f 5 2 0,.l 6 5,.m 7 1,.cl 8 [6,7] mR,.m 4 8] [4] .e))⟩
theorem pb:Aw Tryz.prog 173 Kh=true:=by kernel_rfl
def PN:DT:=(.sk 22 false 14 30 37 (.tk 31 [.pick 37 22 .V 36] .z))
def PO:AG:=(.R [.m 38 0,.m 39 0,.f 40 5 3,.l 41 40,.n 42 38,.f 43 42 1,.store 43 41 1 false,.n 44 39,.f 45 44 3,.store 45 .F 1 false] [0,5] (.R [.m 46 0,.cl 47 [46] Na] [0,5] (.s (.D 11 [(1,[]),(4,[]),(9,[0,3,8])] (.tk 3 [.l 50 49,.f 49 5 1,.m 48 0] (.tk 9 [.bu 56 AL [(0,1,.c (.int .i64 2)),(5,1,55)],.l 55 54,.f 54 53 7,.n 53 52,.m 52 0] (.O 3 (.brow 51 3 .W [50]) false [] (.O 9 (.cl 57 [48,51,56] Bt) false [] (.tk 11 [.m 6 57] .z))))) [6]) .e)))
def ES:BL:=⟨[.ptr Z,.val (.slice .S),.val AL],[⟨6,false,(.slice AL)⟩],(.R [.box 5 2 false,.mv 6 .z] [0,1,5] (.s (.s (.D 31 [(2,[]),(7,[1,6]),(17,[15]),(22,[16,21]),(24,[15]),(28,[23,27])] (.tk 9 [.m 15 14,.b 14 .neq 8 13,.bin 13 .add 12 (.i 1),.l 12 11,.f 11 10 1,.n 10 9,.m 9 0,.l 8 7,.f 7 5 3] (.test 15 (.sk 15 false 5 14 21 (.tk 16 [.m 22 21,.pick 21 15 .V 20] PN)) (.tg 15 false 14 [.un 20 .not 19,.l 19 18,.f 18 17 3,.n 17 16,.m 16 0] (.tk 16 [.m 22 21,.pick 21 15 .V 20] (.test 22 PN (.tg 22 false 28 [.l 34 33,.f 33 32 0,.n 32 31,.m 31 0,.l 30 29,.idx 29 1 23 28,.bin 28 .sub 27 (.i 1),.l 27 26,.f 26 25 1,.n 25 24,.m 24 0,.m 23 1] (.only 28 (some (22,false)) (.cl 35 [30,34] GX) false [] (.tg 22 false 30 [.un 36 .not 35] (.tk 31 [.pick 37 22 .V 36] .z))))))))) [0,5,37]) (.cond 37 (.R [.mv 6 .z] [6] .e) .k)) PO))⟩
theorem j9:Aw Tryz.prog 176 ES=true:=by kernel_rfl
def M6:DT:=(.tg 32 false 20 [.pick 44 38 43 .F] (.tk 22 [.m 24 45,.pick 45 32 .V 44] .z))
def M7:AG:=(.cond 24 (.s (.D 21 [(1,[]),(2,[]),(3,[]),(4,[]),(6,[]),(9,[0,5,8]),(12,[1,11]),(15,[2,14]),(18,[3,17])] (.tk 8 [.l 53 52,.f 52 5 5,.l 51 50,.f 50 5 3,.m 49 0,.m 48 0,.m 47 0,.m 46 0] (.O 8 (.cl 54 [53] BU) false [] (.tk 11 [.f 56 55 1,.n 55 46] (.O 11 (.store 56 51 1 false) false [] (.tk 14 [.f 58 57 3,.n 57 47] (.O 14 (.store 58 .V 1 false) false [] (.tk 17 [.f 60 59 2,.n 59 48] (.O 17 (.store 60 .F 1 false) false [] (.tk 20 [.f 62 61 7,.n 61 49] (.O 20 (.store 62 54 1 false) false [] .z)))))))))) [0,5]) (.r [.m 63 0,.cl 64 [63] Na] [0,5])) (.R [.m 66 0,.n 67 66,.f 68 67 3,.l 69 68,.un 70 .not 69,.m 65 70] [0,5,65] (.cond 65 (.R [.mv 6 .z] [6] .e) .k)))
def M8:AG:=(.R [.m 71 0,.f 72 5 1,.l 73 72,.brow 74 3 .W [73],.bu 75 AL [(0,1,.c (.int .i64 4))],.cl 76 [71,74,75] Bt,.m 6 76] [6] .e)
def M9:AG:=(.s (.b 0 [0,5] (.s (.D 22 [(2,[]),(6,[1,5])] (.tk 8 [.m 32 31,.b 31 .gtr 26 30,.l 30 29,.f 29 28 1,.n 28 27,.m 27 0,.l 26 25,.f 25 5 3] (.test 32 (.sk 32 false 6 14 39 (.sk 38 true 5 19 44 (.sk 32 false 1 20 45 (.tk 22 [.m 24 45,.pick 45 32 .V 44] .z)))) (.tg 32 false 14 [.m 38 37,.un 37 .not 36,.l 36 35,.f 35 34 3,.n 34 33,.m 33 0] (.test 38 (.tg 38 true 19 [.un 43 .not 42,.l 42 41,.f 41 40 2,.n 40 39,.m 39 0] M6) (.sk 38 true 5 19 44 M6))))) [0,5,24]) M7)) M8)
def Bu:BL:=⟨[.ptr Z,.val .S,.val AL],[⟨6,false,(.slice AL)⟩],(.R [.box 5 2 false,.mv 6 .z] [0,1,5] (.s (.s (.D 17 [(1,[]),(5,[0,4]),(11,[7]),(15,[10,14])] (.tk 5 [.l 11 10,.f 10 9 0,.n 9 8,.m 8 0,.m 7 1] (.O 5 (.cl 12 [7,11] GX) false [] (.tk 8 [.m 14 13,.un 13 .not 12] (.test 14 (.sk 14 false 8 16 23 (.tk 17 [.pick 23 14 .V 22] .z)) (.tg 14 false 16 [.b 22 .eql 17 21,.l 21 20,.f 20 19 0,.n 19 18,.m 18 0,.l 17 16,.idx 16 1 15 (.i 0),.m 15 1] (.tk 17 [.pick 23 14 .V 22] .z)))))) [0,5,23]) (.cond 23 (.R [.mv 6 .z] [6] .e) .k)) M9))⟩
theorem dS:Aw Tryz.prog 177 Bu=true:=by kernel_rfl
def N2:BL:=⟨[.val .S,.val .W],[⟨4,false,.S⟩],(.R [.fbox 3 1,.mv 4 .z] [0,3] (.R [.m 5 0,.cl 6 [5] C3,.clo 7 195 .W 3,.cl 8 [6,7] TB,.m 4 8] [4] .e))⟩
theorem vq:Aw Tryz.prog 178 N2=true:=by kernel_rfl
def PP:AG:=(.s (.R [.f 19 3 0,.l 20 19,.bin 21 .eql 20 (.i 7)] [0,3,21] (.cond 21 (.R [.m 22 0,.f 23 3 1,.l 24 23,.brow 25 3 .W [24],.f 26 3 4,.l 27 26,.bu 28 AL [(0,1,.c (.int .i64 8)),(4,1,27)],.cl 29 [22,25,28] Bt,.m 4 29] [4] .e) .k)) (.s (.D 13 [(1,[]),(5,[]),(9,[4,8]),(10,[0,9])] (.tk 9 [.ls 38 37 3,.idx 37 3 36 (.i 0),.l 36 35,.f 35 3 5,.l 34 33,.f 33 32 7,.n 32 31,.m 31 0,.m 30 0] (.O 9 (.cl 39 [34,38] eM) false [] (.tk 12 [.f 41 40 7,.n 40 30] (.O 12 (.store 41 39 1 false) false [] .z)))) [0,3]) (.R [.m 42 0,.f 43 3 1,.l 44 43,.brow 45 3 .W [44],.f 46 3 4,.l 47 46,.bu 48 AL [(0,1,.c (.int .i64 6)),(4,1,47)],.cl 49 [42,45,48] Bt,.m 4 49] [4] .e)))
def D7:BL:=⟨[.ptr Z,.val AL],[⟨4,false,(.slice AL)⟩],(.R [.box 3 1 false,.mv 4 .z] [0,3] (.s (.s (.D 14 [(2,[]),(6,[1,5])] (.tk 8 [.m 12 11,.b 11 .neq 6 10,.l 10 9,.f 9 8 1,.n 8 7,.m 7 0,.l 6 5,.f 5 3 3] (.test 12 (.sk 12 false 5 13 18 (.tk 14 [.pick 18 12 .V 17] .z)) (.tg 12 false 13 [.un 17 .not 16,.l 16 15,.f 15 14 3,.n 14 13,.m 13 0] (.tk 14 [.pick 18 12 .V 17] .z)))) [0,3,18]) (.cond 18 (.R [.mv 4 .z] [4] .e) .k)) PP))⟩
theorem iI:Aw Tryz.prog 179 D7=true:=by kernel_rfl
def N3:DT:=(.sk 23 false 8 25 32 (.tk 26 [.pick 32 23 .V 31] .z))
def M_:AG:=(.s (.D 13 [(1,[]),(6,[]),(8,[5,7]),(9,[0,8])] (.tk 8 [.l 40 39,.f 39 5 1,.l 38 37,.f 37 36 6,.f 36 35 9,.n 35 34,.m 34 0,.m 33 0] (.O 8 (.cl 41 [38,40] eO) false [] (.tk 12 [.f 44 43 6,.f 43 42 9,.n 42 33] (.O 12 (.store 44 41 1 false) false [] .z)))) [0]) (.s (.R [.m 45 0,.n 46 45,.f 47 46 9,.f 48 47 6,.l 49 48,.len 50 false 49,.bin 51 .gtr 50 (.i 0)] [0,51] (.cond 51 (.R [.mv 6 .z] [6] .e) .k)) (.R [.m 52 0,.cl 53 [52] Te,.m 6 53] [6] .e)))
def Dd:BL:=⟨[.ptr Z,.val .W,.val AL],[⟨6,false,(.slice BG)⟩],(.R [.box 5 2 false,.mv 6 .z] [0,1,5] (.s (.s (.D 26 [(2,[]),(6,[1,5]),(13,[7]),(14,[12,13]),(22,[16]),(24,[21,23])] (.tk 8 [.m 14 13,.b 13 .neq 8 12,.l 12 11,.f 11 10 1,.n 10 9,.m 9 0,.l 8 7,.f 7 5 3] (.test 14 (.sk 14 false 7 15 22 (.tk 17 [.m 23 22,.pick 22 14 .V 21] N3)) (.tg 14 false 15 [.b 21 .neq 19 20,.m 20 1,.l 19 18,.f 18 17 0,.f 17 16 9,.n 16 15,.m 15 0] (.tk 17 [.m 23 22,.pick 22 14 .V 21] (.test 23 N3 (.tg 23 false 25 [.b 31 .neq 28 30,.l 30 29,.f 29 5 4,.l 28 27,.f 27 26 2,.f 26 25 9,.n 25 24,.m 24 0] (.tk 26 [.pick 32 23 .V 31] .z))))))) [0,5,32]) (.cond 32 (.R [.mv 6 .z] [6] .e) .k)) M_))⟩
theorem fB:Aw Tryz.prog 180 Dd=true:=by kernel_rfl
def Ly:BL:=⟨[.val .W],[⟨2,false,.bool⟩],(.R [.mv 2 .F] [0] (.R [.m 3 0,.m 4 0,.b 5 .neq 3 4,.m 2 5] [2] .e))⟩
theorem sm:Aw Tryz.prog 190 Ly=true:=by kernel_rfl
end
end Go.Proofs.YtfcgblnlopemkaaGreatDoor.Core

namespace Go.Proofs.YtfcgblnlopemkaaGreatDoor.Core
open Go Go.Shelf Go.RowKit Go.Lib
variable {P:Program} {ρ:Ren}
set_option maxHeartbeats 2000000 in
set_option maxRecDepth 100000 in
theorem AEb (L:SlLaysE0.n41 P ρ) (i0:TypeInfo) (z:Value) (size bytes:Nat) (hi:P.info? (ρ.t 23)=some i0) (hz0:i0.zero=some z) (hz1:i0.size=size) (hz2:i0.bytes=bytes) (hzs:z.cells.size=size) (hsz:0<size)
  (z23:∀ w,(Go.sizeOf (ρ.t 23)).run P w=.ok size w) (ad:Addr) (n c:Nat) (news:List Value) (w:World) (hl:news.length=n*size) (hn:n<=maxLen) (hbig:n*bytes<=140737488355328)
  (hc:∀ j u,news[j]? = some u->w.cell? (ad.add j)=some u) (h1:∀ u∈news,u.oneCell'=true) :
  Calls P (ρ.f 41) #[.slice (some ad) n c] w fun e w'=>∃ v',e=.returned v'/\w'.ownsRow w.heap.size (ρ.t 23) size v' n news/\w.grownBy w' none:=by
 have mixed:=L.mixed; have t4:=L.t4; have a4:=L.a4; have z4:=L.z4; have v4:=L.v4; have t22:=L.t22; have a22:=L.a22; have z22:=L.z22; have v22:=L.v22
 have q22:∀ (w:World) (a:Option Addr) (n c n' c':Nat),(binOp .eql (ρ.t 22) (.slice a n c) (.slice none n' c')).run P w=.ok (.bool a.isNone) w:=fun w a n c n' c'=>Lib.run_eql_slice_nil w _ _ a n c n' c' L.t22
 have u22:∀ w,Sem.run P (underlying (ρ.t 22)) w=.ok (TypeDesc.slice (ρ.t 23)) w:=run_underlying t22
 have A:Aside (∀ j u,news[j]? = some u->w.cell? (ad.add j)=some u):=hc
 clear hc
 obtain ⟨_,_,FG⟩:=L.f41
 go_enter FG,SlBodyN.n41_ntmps ρ
 go_wp2_with (at_builtin; refine wpList_append_own _ rfl _ _ (ρ.t 22) rfl w.heap.size (ρ.t 23) i0 z size bytes t22 hi hz0 hz1 hz2 hzs hsz _ _ _ rfl (World.ownsRow_made w #[] 0 (Nat.le_refl _) (Nat.zero_le _) (by simp)) ad n c news rfl ?qc1 ?qc2 ?qc3 ?qc4 ?qc5 ?qc6 ?_)
 case qc1=>exact hl
 case qc2 =>
  intro j u hj
  exact Lib.cell?_alloc_some _ (A.out j u hj)
 case qc3=>exact h1
 case qc4=>rw [Nat.zero_add]; exact hn
 case qc5=>rw [Nat.zero_add]; exact hbig
 case qc6=>simp
 intro v' w1 hown hgrow hnil
 go_wp2
 go_ret
 refine ⟨v',rfl,by simpa using hown,⟨hgrow.os,hgrow.tape,hgrow.output,?_,fun k hk _=>?_⟩⟩
 ·have:=hgrow.size
  simp at this
  omega
 ·rw [hgrow.block k (by simp; omega) (by simp [Value.ownBlock]; omega)]
  simp only [World.alloc,Array.getElem?_push]
  rw [if_neg (by omega)]
set_option maxHeartbeats 1000000 in
theorem ADW (L:SlLaysE0.n41 P ρ) (n c:Nat) (w:World) :
  Calls P (ρ.f 41) #[.slice none n c] w fun e w'=>e=.returned (.slice none 0 0)/\w'=w:=by
 have mixed:=L.mixed; have t4:=L.t4; have a4:=L.a4; have z4:=L.z4; have v4:=L.v4; have t22:=L.t22; have a22:=L.a22; have z22:=L.z22; have v22:=L.v22
 have q22:∀ (w:World) (a:Option Addr) (n c n' c':Nat),(binOp .eql (ρ.t 22) (.slice a n c) (.slice none n' c')).run P w=.ok (.bool a.isNone) w:=fun w a n c n' c'=>Lib.run_eql_slice_nil w _ _ a n c n' c' L.t22
 obtain ⟨_,_,FG⟩:=L.f41
 go_enter FG,SlBodyN.n41_ntmps ρ
 go_wp2
 go_ret
 exact ⟨rfl,rfl⟩
theorem Dh {α:Type} {c:Prop} [Decidable c] {a b r:α} (h:(if c then a else b)=r):(c/\a=r)\/(¬ c/\b=r):=by
 by_cases hc:c
 ·rw [if_pos hc] at h; exact .inl ⟨hc,h⟩
 ·rw [if_neg hc] at h; exact .inr ⟨hc,h⟩
def Rg (P:Program) (f:Nat) (args bs rs:List AV):Prop :=
 o_ P f/\(∀ r∈rs,r.cells.all AV.nilFree=true)/\∃ n,n+bs.length=rs.length /\
  ∀ (H:HP) (φ:CQ) (w:World) (cargs:List Value),SR H φ (Bo bs args) w->Az (VB H φ (Bo bs args)) (Di (Fx bs) args) cargs ->
   Calls P f cargs.toArray w fun out w'=>match out with
    | .returned v=>QM H φ w args bs (rs.drop n) (rs.take n) v w'
    | _=>False
theorem fC {H H':HP} {φ φ':CQ} {w w':World} {args rs:List AV} {v:Value} (h:Ak H φ (Bo [] args) w H' φ' (Bo [] rs) w') (hr:AGn H' φ' (Bo [] rs) (Di (Fx []) rs) v):QM H φ w args [] [] rs v w':=by
 refine ⟨H',φ',h.le,h.sr,h.fr _ _ _ _ _ ⟨rfl,rfl,rfl,Nat.le_refl _,fun _ _ _=>rfl,fun _ _=>rfl,fun i bi hi _ b hb=>.inr ⟨i,(As.1 hi).1,hb⟩,fun j hj=>?_,fun _ _ _=>rfl⟩,hr⟩
 simp at hj
theorem AEc {K:Kd} (L:SlLaysE0.n41 P ρ) (he:elB P (ρ.t 23) K=true) {xs:List K.T} (hx:xs.length<=68719476736):Rg P (ρ.f 41) [.lst K xs] [] [.new (ρ.t 23) K xs]:=by
 obtain ⟨i,z,hi,hz,h1,h2,h3,h4⟩:=YL he
 have hn:xs.length<=maxLen:=by unfold maxLen; omega
 refine ⟨?_,?_,1,rfl,fun H φ w cargs hs ha=>?_⟩
 ·obtain ⟨nm,hnm,hf⟩:=L.f41
  exact ⟨_,_,hf,hnm,rfl⟩
 ·intro r hr
  simp only [Bq] at hr
  subst hr
  rfl
 ·obtain ⟨v,rest,rfl,hv,hrest⟩:=ha
  have hrest:rest=[]:=hrest
  subst hrest
  ··obtain ⟨sl,cap,e,hc,hr⟩:=(show dN (Gj H K) K.sz H xs v from hv)
    subst e
    have fin:∀ (v':Value) (w':World) (flat:List Value),w'.ownsRow w.heap.size (ρ.t 23) K.sz v' xs.length flat->EE H K xs flat->w.grownBy w' none->QM H φ w [.lst K xs] [] [] [.new (ρ.t 23) K xs] v' w':=by
     intro v' w' flat ho hrr hg
     have hst:=d7 (st:=Bo [] [.lst K xs]) hs hg ho hrr
     refine fC (rs:=[.new (ρ.t 23) K xs]) hst ?_
     exact ⟨rfl,rfl⟩
    cases sl with
    | none =>
     have:xs=[]:=by
      rcases hr with h | ⟨_,_,_,_,_,h,_⟩
      ·exact h
      ·cases h
     subst this
     refine Calls.mono (ADW L _ _ w) fun out w' h=>?_
     obtain ⟨rfl,rfl⟩:=h
     exact fin _ _ [] ⟨by simp,.inl ⟨rfl,rfl⟩⟩ (fun j x h=>by simp at h) ⟨rfl,rfl,rfl,Nat.le_refl _,fun _ _ _=>rfl⟩
    | some ad =>
     obtain ⟨sl2,cap2,flat,e2,_,hl,hrr,hcl⟩:=yh hs.hp (show dN (Gj H K) K.sz H xs (.slice (some ad) xs.length cap) from ⟨some ad,cap,rfl,hc,hr⟩)
     cases e2
     refine Calls.mono (AEb L i z K.sz i.bytes hi hz h1 rfl h3 (Kd.sz_pos K) (fun w=>by simp [sizeOf,typeInfo,hi,h1]) ad xs.length cap flat w hl hn (Nat.le_trans (Nat.mul_le_mul hx h2) (by omega)) ?_ (Dr hrr hl)) fun out w' h=>?_
     ·intro j u hj
      rcases hcl with rfl | ⟨b,off,c,el,fz,ea,hb,hcc⟩
      ·have:flat=[]:=DD.1 (by rw [hl]; simp)
       rw [this] at hj
       simp at hj
      ·cases ea
       rw [Addr.add_none]
       have:=hs.hp _ _ hb
       have h5:=hcc j u hj
       simp only [World.cell?,this]
       simpa using h5
     ·obtain ⟨v',rfl,ho,hg⟩:=h
      exact fin v' w' flat ho hrr hg

theorem Wc (w:World) (dT sT ty elem:TypeId) (g o dLen dCap:Nat) (a:Addr) (sLen sCap:Nat) (cur:Array Value) (t:TypeId) (cs:List Value) (k:Nat) (i:TypeInfo)
  (hu:P.underlying dT=some (.slice elem)) (hi:P.info? elem=some i) (hg:w.heap[g]? = some (.cells cur t (0,0))) (hk:Nat.min sLen dLen=k) (hn:cs.length=k*i.size)
  (hsrc:∀ j v,cs[j]? = some v->w.cell? (a.add j)=some v) (hfit:o+cs.length<=cur.size) (h1:∀ v∈cs,v.oneCell'=true) :
  (Builtin.copy_ #[dT,sT] ty #[.slice (some ⟨g,o,none⟩) dLen dCap,.slice (some a) sLen sCap]).run P w =
   .ok (goInt k) (w.setRow g (cur.toList.take o++cs++cur.toList.drop (o+cs.length)).toArray):=by
 have hl:=run_loadCells_list (P:=P) w a cs hsrc
 have hst:=run_storeCells_at P g o t cs 0 cur w hg (by simpa using hfit) h1
 simp [Builtin.copy_,run_underlying hu,Builtin.lenOf,Builtin.firstCells,sizeOf,typeInfo,hi,hk,<- hn,hl,hst]
theorem pc (w:World) (t tn ty e:TypeId) (i:TypeInfo) (z:Value) (kn:IntKind) (ht:P.underlying t=some (.slice e)) (htn:P.underlying tn=some (.int kn)) (hi:P.info? e=some i) (hz:i.zero=some z)
  (b:Addr) (sLen sCap:Nat) (olds:List Value) (hlo:olds.length=sLen*i.size) (holds:∀ j v,olds[j]? = some v->w.cell? (b.add j)=some v) (n:Nat) (h0:0<n) (hs:0<i.size)
  (hg:sCap<sLen+n) (h63:((sLen+n:Nat):Int)<=9223372036854775807) (h48:n*i.bytes<=281474976710656) (hfit:Builtin.nextslicecap (sLen+n) sCap*i.bytes<=281474976710656) (k:IntKind) :
  (Builtin.append_ #[t,tn] ty #[.slice (some b) sLen sCap,.int k n]).run P w =
   .ok (.slice (some ⟨w.heap.size,0,none⟩) (sLen+n) (grownCap w (sLen+n) sCap e))
    (w.drew.alloc (.cells (olds.toArray++Builtin.zeroCells z.cells n++Builtin.zeroCells z.cells (grownCap w (sLen+n) sCap e-(sLen+n))) e)):=by
 have hn:¬ (sLen+n<=sCap):=by omega
 have hw:IntKind.i64.wrap (n:Int)=n:=by rw [IntKind.wrap_i64]; omega
 have h63':¬ (9223372036854775807<((sLen:Int)+(n:Int))):=by omega
 have h48':¬ (281474976710656<Builtin.nextslicecap (sLen+n) sCap*i.bytes):=by omega
 have h48i:¬ (281474976710656<(n:Int)*(i.bytes:Int)):=by
  rw [<- Int.natCast_mul]
  omega
 have hneg:¬ ((n:Int)<0):=by omega
 have hn0:n≠0:=by omega
 have hns:¬ (n*i.size=0):=Nat.mul_ne_zero hn0 (by omega)
 have hfo:=run_firstCells_some (P:=P) w.drew i.size sLen b sLen sCap olds hlo (by simpa using holds)
 simp [Builtin.append_,run_underlying ht,run_underlying htn,sizeOf,typeInfo,zeroValue,hi,hz,asInt,asIntOf,hw,hn,hn0,hneg,hns,h63',h48',h48i,Question.forced,hfo,newRow,grownCap]
 try (congr 2; apply Array.ext'; simp [Bf])
structure ADX (P:Program) (ρ:Ren):Prop where
 mixed:P.follows .mixedOrders=true
 f22:Bears P (ρ.f 22) (Body2.n22 ρ)
 ov:∀ args w,(callFunc (ρ.f 29) args).run P w=((Extern.SlicesOverlaps.overlaps #[(ρ.t 24),(ρ.t 24)] #[(ρ.t 4)] args).run P w).andThen fun v w'=>.ok (.value v) w'
 t3:P.underlying (ρ.t 3)=some (TypeDesc.int IntKind.i64)
 a3:∀ w,(isAgg (ρ.t 3)).run P w=.ok false w
 z3:∀ w,(Go.sizeOf (ρ.t 3)).run P w=.ok 1 w
 v3:∀ w,(zeroValue (ρ.t 3)).run P w=.ok (Value.int IntKind.i64 0) w
 t4:P.underlying (ρ.t 4)=some (TypeDesc.bool)
 a4:∀ w,(isAgg (ρ.t 4)).run P w=.ok false w
 z4:∀ w,(Go.sizeOf (ρ.t 4)).run P w=.ok 1 w
 v4:∀ w,(zeroValue (ρ.t 4)).run P w=.ok (Value.bool false) w
 t24:P.underlying (ρ.t 24)=some (TypeDesc.slice (ρ.t 9))
 a24:∀ w,(isAgg (ρ.t 24)).run P w=.ok false w
 z24:∀ w,(Go.sizeOf (ρ.t 24)).run P w=.ok 1 w
 v24:∀ w,(zeroValue (ρ.t 24)).run P w=.ok (Value.slice none 0 0) w
set_option maxHeartbeats 4000000 in
set_option maxRecDepth 100000 in
theorem AB3 (L:ADX P ρ) (i0:TypeInfo) (z:Value) (size bytes:Nat) (hi:P.info? (ρ.t 9)=some i0) (hz0:i0.zero=some z) (hz1:i0.size=size) (hz2:i0.bytes=bytes) (hzs:z.cells.size=size) (hsz:0<size)
  (z9:∀ w,(Go.sizeOf (ρ.t 9)).run P w=.ok size w) (v:Value) (base:Option Addr) (n cap:Nat) (hv:v=.slice base n cap) (xs:List Value) (w:World) (hown:w.ownsRow 0 (ρ.t 9) size v n xs) (ad:Addr) (m vc:Nat) (news:List Value) (hm:0<m)
  (hl:news.length=m*size) (hn:n+m<=maxLen) (hbig:(n+m)*bytes<=140737488355328) (hnews:∀ j u,news[j]? = some u->w.cell? (ad.add j)=some u) (h1:∀ u∈news,u.oneCell'=true) :
  Calls P (ρ.f 22) #[v,.int .i64 n,.slice (some ad) m vc] w fun e w'=>∃ v',e=.returned v'/\w'.ownsRow 0 (ρ.t 9) size v' (n+m) (xs++news)/\w.grownBy w' v.ownBlock/\(v'.ownBlock=v.ownBlock\/v'.ownBlock=some w.heap.size):=by
 subst hv
 have mixed:=L.mixed; have t3:=L.t3; have a3:=L.a3; have z3:=L.z3; have v3:=L.v3; have t4:=L.t4; have a4:=L.a4; have z4:=L.z4; have v4:=L.v4; have t24:=L.t24; have a24:=L.a24; have z24:=L.z24; have v24:=L.v24
 have u3:=run_underlying L.t3; have u4:=run_underlying L.t4; have u24:=run_underlying L.t24
 have hz1':¬ ((m:Int)=0):=by omega
 have hob:∀ c,(Value.slice base n c).ownBlock=(Value.slice base n cap).ownBlock:=fun c=>by cases base<;>rfl
 have hcap:n<=cap:=by
  rcases hown.2 with ⟨e,e2⟩ | ⟨g,c,cur,e,_,_,h,_⟩
  ·omega
  ·cases e; exact h
 have A:Aside (∀ j u,news[j]? = some u->w.cell? (ad.add j)=some u):=hnews
 clear hnews
 obtain ⟨_,_,FG⟩:=L.f22
 go_enter FG,Body2.n22_ntmps ρ
 go_wp2_with (at_builtin; refine wpList_append_own_at _ rfl _ _ (ρ.t 24) rfl 0 (ρ.t 9) i0 z size bytes t24 hi hz0 hz1 hz2 hzs hsz _ _ _ rfl hown ad m vc news rfl ?qc1 ?qc2 ?qc3 ?qc4 ?qc5 ?qc6 ?_)
 all_goals first
  | exact hl
  | exact A.out
  | exact h1
  | exact hn
  | exact hbig
  | exact Nat.zero_le _
  | (
   intro v' w1 ho hgrow hnil hblk
   go_wp2
   go_ret
   exact ⟨v',rfl,ho,by rw [<- hob]; exact hgrow,by rw [<- hob]; exact hblk⟩)
theorem AEd {α:Type} (c V:List α) (I M N:Nat) (hI:I<=N) (hV:V.length=M) (hN:N+M<=c.length) :
  (((c.take (I+M)++(c.take N).drop I++c.drop (I+M+(N-I))).take I++V++(c.take (I+M)++(c.take N).drop I++c.drop (I+M+(N-I))).drop (I+M)).take (N+M))=c.take I++V++(c.take N).drop I:=by
 have l1:(c.take (I+M)).length=I+M:=by rw [List.length_take]; omega
 have l2:((c.take N).drop I).length=N-I:=by rw [List.length_drop,List.length_take]; omega
 have e1:(c.take (I+M)++(c.take N).drop I++c.drop (I+M+(N-I))).take I=c.take I:=by
  rw [Bf,List.take_append_of_le_length (by omega),List.take_take,Nat.min_eq_left (by omega)]
 have e2:(c.take (I+M)++(c.take N).drop I++c.drop (I+M+(N-I))).drop (I+M)=(c.take N).drop I++c.drop (I+M+(N-I)):=by
  rw [Bf,List.drop_append_of_le_length (by omega),List.drop_of_length_le (by omega),List.nil_append]
 rw [e1,e2,<- Bf]
 have l3:(c.take I++V++(c.take N).drop I).length=N+M:=by simp only [List.length_append,l2,hV,List.length_take]; omega
 rw [List.take_append_of_le_length (by omega),<- l3,List.take_length]
theorem Ki (w:World) (g:Nat) (c:Array Value):(w.setRow g c).heap.size=w.heap.size:=by
 unfold World.setRow
 exact Array.size_modify
theorem ABD {w:World} {b:Nat} {c:Array Value} {t:TypeId} {fz:Nat×Nat} (h:w.heap[b]? = some (.cells c t fz)):w.shape? b=some (t,c.size):=by simp [World.shape?,h]
theorem yz {w:World} {b o:Nat} {c:Array Value} {t:TypeId} (h:w.heap[b]? = some (.cells c t (0,0))):w.frozen? ⟨b,o,none⟩=false:=by simp [World.frozen?,h]
theorem TG {w:World} {b o:Nat} {c:Array Value} {t:TypeId} {fz:Nat×Nat} (h:w.heap[b]? = some (.cells c t fz)):w.cell? ⟨b,o,none⟩=c[o]? := by simp [World.cell?,h]
set_option maxHeartbeats 8000000 in
set_option maxRecDepth 100000 in
theorem AAE (L:ADX P ρ) (i0:TypeInfo) (z:Value) (size bytes:Nat) (hi:P.info? (ρ.t 9)=some i0) (hz0:i0.zero=some z) (hz1:i0.size=size) (hz2:i0.bytes=bytes) (hzs:z.cells.size=size) (hsz:0<size)
  (z9:∀ w,(Go.sizeOf (ρ.t 9)).run P w=.ok size w) (g n cap i:Nat) (cur:Array Value) (w:World) (hg:w.heap[g]? = some (.cells cur (ρ.t 9) (0,0))) (hcs:cur.size=cap*size) (hin:i<n) (vb m vc:Nat) (vcur:Array Value) (hgv:w.heap[vb]? = some (.cells vcur (ρ.t 9) (0,0))) (hvb:vb≠g)
  (hm:0<m) (hroom:n+m<=cap) (hcm:cap<=maxLen) (hvl:m*size<=vcur.size) (h1:∀ u∈cur.toList.take (n*size),u.oneCell'=true) (h1v:∀ u∈vcur.toList.take (m*size),u.oneCell'=true) (hkB:cur.size≠0) :
  Calls P (ρ.f 22) #[.slice (some ⟨g,0,none⟩) n cap,.int .i64 i,.slice (some ⟨vb,0,none⟩) m vc] w fun e w'=>e=.returned (.slice (some ⟨g,0,none⟩) (n+m) cap) /\
   ∃ cur',w'.heap[g]? = some (.cells cur' (ρ.t 9) (0,0))/\cur'.size=cap*size/\cur'.toList.take ((n+m)*size)=cur.toList.take (i*size)++vcur.toList.take (m*size)++(cur.toList.take (n*size)).drop (i*size)/\w.grownBy w' (some g):=by
 have mixed:=L.mixed; have t3:=L.t3; have a3:=L.a3; have z3:=L.z3; have v3:=L.v3; have t4:=L.t4; have a4:=L.a4; have z4:=L.z4; have v4:=L.v4; have t24:=L.t24; have a24:=L.a24; have z24:=L.z24; have v24:=L.v24
 have u3:=run_underlying L.t3; have u4:=run_underlying L.t4; have u24:=run_underlying L.t24
 have hcm':cap<=9223372036854775807:=hcm
 have hz1':¬ ((m:Int)=0):=by omega
 have hz2':¬ ((i:Int)=(n:Int)):=by omega
 have hw1:IntKind.i64.wrap ((i:Int)+(m:Int))=(i:Int)+(m:Int):=by rw [IntKind.wrap_i64]; omega
 have hw2:IntKind.i64.wrap ((n:Int)+(m:Int))=(n:Int)+(m:Int):=by rw [IntKind.wrap_i64]; omega
 have hb1:(0:Int)<=(i:Int)+(m:Int):=by omega
 have hin':i<=n:=by omega
 have htn:((i:Int)+(m:Int)).toNat=i+m:=by omega
 have htn2:((n:Int)+(m:Int)).toNat=n+m:=by omega
 have hb2:¬ (cap=i+m):=by omega
 have hb3:(i:Int)<=(n:Int)+(m:Int):=by omega
 have hb4:¬ (cap=i):=by omega
 have hb5:¬ ((n:Int)+(m:Int)>(cap:Int)):=by omega
 have hov:∀ o lb cb,(callFunc (ρ.f 29) #[.slice (some ⟨vb,0,none⟩) m vc,.slice (some ⟨g,o,none⟩) lb cb]).run P w=.ok (.value (.bool false)) w:=fun o lb cb=>by
  rw [L.ov,Lib.run_overlaps_apart w (ρ.t 24) (ρ.t 4) (ρ.t 9) L.t24 size z9 ⟨vb,0,none⟩ ⟨g,o,none⟩ m vc lb cb hvb _ _ _ _ (ABD hgv) (ABD hg) hkB (yz hgv) (yz hgv)]
  rfl
 have e1:(i+m)*size=i*size+m*size:=Nat.add_mul i m size
 have e2:(n+m)*size=n*size+m*size:=Nat.add_mul n m size
 have e3:(n-i)*size=n*size-i*size:=Nat.sub_mul n i size
 have e4:i*size<=n*size:=CP size hin'
 have e5:n*size+m*size<=cur.size:=by rw [hcs,<- e2]; exact CP size hroom
 have lm:((cur.toList.take (n*size)).drop (i*size)).length=(n-i)*size:=by rw [List.length_drop,List.length_take,Array.length_toList,e3]; omega
 have hcp1:∀ ty dc sc,(Builtin.copy_ #[(ρ.t 24),(ρ.t 24)] ty #[.slice (some ⟨g,(i+m)*size,none⟩) (n+m-(i+m)) dc,.slice (some ⟨g,i*size,none⟩) (n+m-i) sc]).run P w.drew=.ok (goInt ((n-i:Nat):Int)) (w.drew.setRow g (cur.toList.take ((i+m)*size)++(cur.toList.take (n*size)).drop (i*size)++cur.toList.drop ((i+m)*size+((cur.toList.take (n*size)).drop (i*size)).length)).toArray):=fun ty dc sc =>
  Wc w.drew _ _ ty (ρ.t 9) g ((i+m)*size) (n+m-(i+m)) dc ⟨g,i*size,none⟩ (n+m-i) sc cur (ρ.t 9) _ (n-i) i0 L.t24 hi hg (by simp only [Nat.min_def]; split<;>omega) (by rw [lm,hz1])
   (fun j v hj=>by
    rw [Addr.add_none]
    have:w.drew.cell? ⟨g,i*size+j,none⟩=cur[i*size+j]? := TG hg
    rw [this,<- hj,DC,CA]
    have:i*size+j<n*size:=by
     have:=(As.1 hj).1
     omega
    rw [if_pos this,Array.getElem?_toList])
   (by rw [lm,e1,e3]; omega) (fun v hv=>h1 v (List.mem_of_mem_drop hv))
 obtain ⟨cur1,hcur1⟩:∃ c1,c1=(cur.toList.take ((i+m)*size)++(cur.toList.take (n*size)).drop (i*size)++cur.toList.drop ((i+m)*size+((cur.toList.take (n*size)).drop (i*size)).length)).toArray:=⟨_,rfl⟩
 rw [<- hcur1] at hcp1
 have hs1:cur1.size=cap*size:=by
  rw [hcur1,List.size_toArray]
  simp only [List.length_append,List.length_take,List.length_drop,Array.length_toList,e1]
  omega
 have hg1:(w.drew.setRow g cur1).heap[g]? = some (.cells cur1 (ρ.t 9) (0,0)):=setRow_heap w.drew g cur cur1 (ρ.t 9) _ hg
 have hgv1:(w.drew.setRow g cur1).heap[vb]? = some (.cells vcur (ρ.t 9) (0,0)):=by rw [setRow_other w.drew g vb cur1 hvb]; exact hgv
 have lv:(vcur.toList.take (m*size)).length=m*size:=by rw [List.length_take,Array.length_toList]; omega
 have hcp2:∀ (W:World),W.heap=(w.drew.setRow g cur1).heap->∀ ty dc,(Builtin.copy_ #[(ρ.t 24),(ρ.t 24)] ty #[.slice (some ⟨g,i*size,none⟩) (n+m-i) dc,.slice (some ⟨vb,0,none⟩) m vc]).run P W=.ok (goInt m) (W.setRow g (cur1.toList.take (i*size)++vcur.toList.take (m*size)++cur1.toList.drop (i*size+(vcur.toList.take (m*size)).length)).toArray):=fun W hW ty dc =>
  Wc W _ _ ty (ρ.t 9) g (i*size) (n+m-i) dc ⟨vb,0,none⟩ m vc cur1 (ρ.t 9) _ m i0 L.t24 hi (by rw [hW]; exact hg1) (by simp only [Nat.min_def]; split<;>omega) (by rw [lv,hz1])
   (fun j v hj=>by
    rw [Addr.add_none,TG (by rw [hW]; exact hgv1),<- hj,CA,Nat.zero_add]
    have:j<m*size:=by
     have:=(As.1 hj).1
     omega
    rw [if_pos this,Array.getElem?_toList])
   (by rw [lv]; omega) h1v
 clear e1 e2 e3
 obtain ⟨_,_,FG⟩:=L.f22
 go_enter FG,Body2.n22_ntmps ρ
 go_wp2_with (simp only [hov])
 go_region_law_o (refine step_copy_runI rfl _ _ (ρ.t 24) (ρ.t 24) rfl _ _ (by simp [Act.eval,Act.put]) (by simp [Act.eval,Act.put]) (hcp1 _ _ _) ?_)
 go_wp2_with (at_builtin; refine wpList_copy_runI _ rfl _ _ (ρ.t 24) (ρ.t 24) rfl _ _ rfl rfl (hcp2 _ rfl _ _) ?_)
 go_ret
 have e1:(i+m)*size=i*size+m*size:=Nat.add_mul i m size
 have e2:(n+m)*size=n*size+m*size:=Nat.add_mul n m size
 have e3:(n-i)*size=n*size-i*size:=Nat.sub_mul n i size
 have e6:cur.toList.length=cap*size:=by rw [Array.length_toList,hcs]
 have e7:vcur.toList.length=vcur.size:=Array.length_toList
 refine ⟨rfl,_,setRow_heap _ g _ _ _ _ (setRow_heap w.drew g cur _ (ρ.t 9) _ hg),?_,?_,⟨rfl,rfl,rfl,by rw [Ki,Ki]; exact Nat.le_refl _,fun k hk hne=>?_⟩⟩
 ·simp only [List.size_toArray,List.length_append,List.length_take,List.length_drop,e1,e3,e6,e7]
  omega
 ·have:=AEd cur.toList (vcur.toList.take (m*size)) (i*size) (m*size) (n*size) e4 lv (by omega)
  simp only [e1,e2,e3]
  simpa only [Bf] using this
 ·have hk':k≠g:=fun e=>hne (by rw [e])
  rw [setRow_other _ g k _ hk',setRow_other _ g k _ hk']
  rfl
set_option maxHeartbeats 8000000 in
set_option maxRecDepth 100000 in
theorem ABE (L:ADX P ρ) (i0:TypeInfo) (z:Value) (size bytes:Nat) (hi:P.info? (ρ.t 9)=some i0) (hz0:i0.zero=some z) (hz1:i0.size=size) (hz2:i0.bytes=bytes) (hzs:z.cells.size=size) (hsz:0<size)
  (z9:∀ w,(Go.sizeOf (ρ.t 9)).run P w=.ok size w) (g n cap i:Nat) (cur:Array Value) (w:World) (hg:w.heap[g]? = some (.cells cur (ρ.t 9) (0,0))) (hcs:cur.size=cap*size) (hin:i<n) (vb m vc:Nat) (vcur:Array Value) (hgv:w.heap[vb]? = some (.cells vcur (ρ.t 9) (0,0))) (hvb:vb≠g)
  (hm:0<m) (hnc:n<=cap) (hroom:cap<n+m) (hcm:n+m<=68719476736) (hby:bytes<=2048) (hvl:m*size<=vcur.size) (h1:∀ u∈cur.toList.take (n*size),u.oneCell'=true) (h1v:∀ u∈vcur.toList.take (m*size),u.oneCell'=true) :
  Calls P (ρ.f 22) #[.slice (some ⟨g,0,none⟩) n cap,.int .i64 i,.slice (some ⟨vb,0,none⟩) m vc] w fun e w'=>∃ cap',e=.returned (.slice (some ⟨w.heap.size,0,none⟩) (n+m) cap')/\n+m<=cap'/\cap'<=maxLen /\
   ∃ cur',w'.heap[w.heap.size]? = some (.cells cur' (ρ.t 9) (0,0))/\cur'.size=cap'*size/\cur'.toList.take ((n+m)*size)=cur.toList.take (i*size)++vcur.toList.take (m*size)++(cur.toList.take (n*size)).drop (i*size)/\w.grownBy w' none:=by
 have mixed:=L.mixed; have t3:=L.t3; have a3:=L.a3; have z3:=L.z3; have v3:=L.v3; have t4:=L.t4; have a4:=L.a4; have z4:=L.z4; have v4:=L.v4; have t24:=L.t24; have a24:=L.a24; have z24:=L.z24; have v24:=L.v24
 have u3:=run_underlying L.t3; have u4:=run_underlying L.t4; have u24:=run_underlying L.t24
 have hcm':n+m<=9223372036854775807:=by omega
 have hz1':¬ ((m:Int)=0):=by omega
 have hz2':¬ ((i:Int)=(n:Int)):=by omega
 have hw1:IntKind.i64.wrap ((i:Int)+(m:Int))=(i:Int)+(m:Int):=by rw [IntKind.wrap_i64]; omega
 have hw2:IntKind.i64.wrap ((n:Int)+(m:Int))=(n:Int)+(m:Int):=by rw [IntKind.wrap_i64]; omega
 have hw3:IntKind.i64.wrap ((n:Int)+(m:Int)-(i:Int))=(n:Int)+(m:Int)-(i:Int):=by rw [IntKind.wrap_i64]; omega
 have hb1:(0:Int)<=(i:Int)+(m:Int):=by omega
 have hin':i<=n:=by omega
 have htn:((i:Int)+(m:Int)).toNat=i+m:=by omega
 have htn2:((n:Int)+(m:Int)).toNat=n+m:=by omega
 have hb4:¬ (cap=i):=by omega
 have hb5:(n:Int)+(m:Int)>(cap:Int):=by omega
 have hb6:¬ (cap=0):=by omega
 have e1:(i+m)*size=i*size+m*size:=Nat.add_mul i m size
 have e2:(n+m)*size=n*size+m*size:=Nat.add_mul n m size
 have e3:(n-i)*size=n*size-i*size:=Nat.sub_mul n i size
 have e4:i*size<=n*size:=CP size hin'
 have e5:n*size<=cur.size:=by rw [hcs]; exact CP size hnc
 have lo:(cur.toList.take (i*size)).length=i*size:=by rw [List.length_take,Array.length_toList]; omega
 have lv:(vcur.toList.take (m*size)).length=m*size:=by rw [List.length_take,Array.length_toList]; omega
 have lm:((cur.toList.take (n*size)).drop (i*size)).length=(n-i)*size:=by rw [List.length_drop,List.length_take,Array.length_toList,e3]; omega
 have hgl:g<w.heap.size:=(Array.getElem?_eq_some_iff.1 hg).1
 have hvl2:vb<w.heap.size:=(Array.getElem?_eq_some_iff.1 hgv).1
 have hbb:(n+m)*bytes<=140737488355328:=Nat.le_trans (Nat.mul_le_mul hcm hby) (by omega)
 obtain ⟨C,new,hap,hC1,hC2,hns,hnt⟩:∃ (C:Nat) (new:Array Value),(∀ ty,(Builtin.append_ #[(ρ.t 24),(ρ.t 3)] ty #[.slice (some ⟨g,0,none⟩) i cap,.int .i64 ((n:Int)+(m:Int)-(i:Int))]).run P w=.ok (.slice (some ⟨w.heap.size,0,none⟩) (n+m) C) (w.drew.alloc (.cells new (ρ.t 9)))) /\
   n+m<=C/\C<=maxLen/\new.size=C*size/\new.toList.take (i*size)=cur.toList.take (i*size):=by
  have hsum:i+(n+m-i)=n+m:=by omega
  have hge:=grownCap_ge w (n+m) cap (ρ.t 9)
  refine ⟨grownCap w (n+m) cap (ρ.t 9),(cur.toList.take (i*size)).toArray++Builtin.zeroCells z.cells (n+m-i)++Builtin.zeroCells z.cells (grownCap w (n+m) cap (ρ.t 9)-(n+m)),fun ty=>?_,hge,grownCap_le_maxLen _ _ _ _ (by unfold maxLen; omega),?_,?_⟩
  ·have:=pc (P:=P) w (ρ.t 24) (ρ.t 3) ty (ρ.t 9) i0 z .i64 L.t24 L.t3 hi hz0 ⟨g,0,none⟩ i cap (cur.toList.take (i*size)) (by rw [lo,hz1]) (fun j v hj=>by
     rw [Addr.add_none,TG hg,<- hj,CA,Nat.zero_add]
     have:j<i*size:=by
      have:=(As.1 hj).1
      omega
     rw [if_pos this,Array.getElem?_toList]) (n+m-i) (by omega) (by omega) (by omega) (by omega) (by rw [hz2]; exact Nat.le_trans (CP bytes (Nat.sub_le _ _)) (by omega)) (by rw [hsum,hz2]; exact growslice_fits hroom hbb) .i64
   rw [hsum,show ((n+m-i:Nat):Int)=(n:Int)+(m:Int)-(i:Int) by omega] at this
   exact this
  ·simp only [Array.size_append,List.size_toArray,size_zeroCells,hzs,lo,<- Nat.add_mul]
   congr 1
   omega
  ·simp only [Array.toList_append,Bf]
   exact (congrArg (fun k=>List.take k _) lo.symm).trans (by rw [List.take_left])
 have hW1:(w.drew.alloc (.cells new (ρ.t 9))).heap[w.heap.size]? = some (.cells new (ρ.t 9) (0,0)):=heap_alloc_new w.drew _
 have hW1o:∀ k,k<w.heap.size->(w.drew.alloc (.cells new (ρ.t 9))).heap[k]? = w.heap[k]? := fun k hk=>heap_alloc_old w.drew _ hk
 have e8:i*size+m*size<=new.size:=by rw [hns,<- e1]; exact CP size (by omega)
 have e9:n*size+m*size<=new.size:=by rw [hns,<- e2]; exact CP size (by omega)
 have hcp1:∀ (W:World),W.heap=(w.drew.alloc (.cells new (ρ.t 9))).heap->∀ ty dc,(Builtin.copy_ #[(ρ.t 24),(ρ.t 24)] ty #[.slice (some ⟨w.heap.size,i*size,none⟩) (n+m-i) dc,.slice (some ⟨vb,0,none⟩) m vc]).run P W=.ok (goInt m) (W.setRow w.heap.size (new.toList.take (i*size)++vcur.toList.take (m*size)++new.toList.drop (i*size+(vcur.toList.take (m*size)).length)).toArray):=fun W hW ty dc =>
  Wc W _ _ ty (ρ.t 9) w.heap.size (i*size) (n+m-i) dc ⟨vb,0,none⟩ m vc new (ρ.t 9) _ m i0 L.t24 hi (by rw [hW]; exact hW1) (by simp only [Nat.min_def]; split<;>omega) (by rw [lv,hz1])
   (fun j v hj=>by
    rw [Addr.add_none,TG (by rw [hW,hW1o vb hvl2]; exact hgv),<- hj,CA,Nat.zero_add]
    have:j<m*size:=by
     have:=(As.1 hj).1
     omega
    rw [if_pos this,Array.getElem?_toList])
   (by rw [lv]; omega) h1v
 obtain ⟨cur1,hcur1⟩:∃ c1,c1=(new.toList.take (i*size)++vcur.toList.take (m*size)++new.toList.drop (i*size+(vcur.toList.take (m*size)).length)).toArray:=⟨_,rfl⟩
 rw [<- hcur1] at hcp1
 have hln:new.toList.length=new.size:=Array.length_toList
 have hs1:cur1.size=C*size:=by
  rw [hcur1,List.size_toArray,<- hns]
  simp only [List.length_append,List.length_take,List.length_drop,hln,lv]
  omega
 have hcp2:∀ (W:World),W.heap=((w.drew.alloc (.cells new (ρ.t 9))).setRow w.heap.size cur1).heap->∀ ty dc sc,(Builtin.copy_ #[(ρ.t 24),(ρ.t 24)] ty #[.slice (some ⟨w.heap.size,(i+m)*size,none⟩) (n+m-(i+m)) dc,.slice (some ⟨g,i*size,none⟩) (n-i) sc]).run P W=.ok (goInt ((n-i:Nat):Int)) (W.setRow w.heap.size (cur1.toList.take ((i+m)*size)++(cur.toList.take (n*size)).drop (i*size)++cur1.toList.drop ((i+m)*size+((cur.toList.take (n*size)).drop (i*size)).length)).toArray):=fun W hW ty dc sc =>
  Wc W _ _ ty (ρ.t 9) w.heap.size ((i+m)*size) (n+m-(i+m)) dc ⟨g,i*size,none⟩ (n-i) sc cur1 (ρ.t 9) _ (n-i) i0 L.t24 hi (by rw [hW]; exact setRow_heap _ _ new cur1 _ _ hW1) (by simp only [Nat.min_def]; split<;>omega) (by rw [lm,hz1])
   (fun j v hj=>by
    rw [Addr.add_none,TG (by rw [hW,setRow_other _ _ g _ (by omega),hW1o g hgl]; exact hg),<- hj,DC,CA]
    have:i*size+j<n*size:=by
     have:=(As.1 hj).1
     omega
    rw [if_pos this,Array.getElem?_toList])
   (by rw [lm,hs1,<- hns,e1,e3]; omega) (fun v hv=>h1 v (List.mem_of_mem_drop hv))
 have fin:(cur1.toList.take ((i+m)*size)++(cur.toList.take (n*size)).drop (i*size)++cur1.toList.drop ((i+m)*size+((cur.toList.take (n*size)).drop (i*size)).length)).take ((n+m)*size)=cur.toList.take (i*size)++vcur.toList.take (m*size)++(cur.toList.take (n*size)).drop (i*size):=by
  have l1:(new.toList.take (i*size)).length=i*size:=by rw [List.length_take,hln]; omega
  have t1:cur1.toList.take ((i+m)*size)=cur.toList.take (i*size)++vcur.toList.take (m*size):=by
   rw [hcur1,<- hnt,e1]
   have l2:(new.toList.take (i*size)++vcur.toList.take (m*size)).length=i*size+m*size:=by rw [List.length_append,l1,lv]
   exact (congrArg (fun k=>List.take k _) l2.symm).trans (by rw [List.take_left])
  rw [t1]
  have l3:(cur.toList.take (i*size)++vcur.toList.take (m*size)++(cur.toList.take (n*size)).drop (i*size)).length=(n+m)*size:=by
   simp only [List.length_append,lo,lv,lm,e2,e3]
   omega
  exact (congrArg (fun k=>List.take k _) l3.symm).trans (by rw [List.take_left])
 obtain ⟨cur2,hcur2⟩:∃ c2,c2=(cur1.toList.take ((i+m)*size)++(cur.toList.take (n*size)).drop (i*size)++cur1.toList.drop ((i+m)*size+((cur.toList.take (n*size)).drop (i*size)).length)).toArray:=⟨_,rfl⟩
 rw [<- hcur2] at hcp2
 have hs2:cur2.size=C*size:=by
  rw [hcur2,List.size_toArray,<- hs1]
  simp only [List.length_append,List.length_take,List.length_drop,Array.length_toList,lm,e1,e3]
  omega
 have fin2:cur2.toList.take ((n+m)*size)=cur.toList.take (i*size)++vcur.toList.take (m*size)++(cur.toList.take (n*size)).drop (i*size):=by rw [hcur2]; exact fin
 clear e1 e2 e3 hcur1 hcur2 fin
 obtain ⟨W1,hW1d⟩:∃ W1,W1=w.drew.alloc (.cells new (ρ.t 9)):=⟨_,rfl⟩
 have hWs:W1.heap.size=w.heap.size+1:=by rw [hW1d]; exact Array.size_push _
 have hWos:W1.os=w.os/\W1.tape=w.tape/\W1.output=w.output:=by rw [hW1d]; exact ⟨rfl,rfl,rfl⟩
 rw [<- hW1d] at hW1 hW1o hcp1 hcp2 hap
 clear hW1d
 have hcp3:=hcp2 (W1.setRow w.heap.size cur1).drew rfl
 clear hcp2
 have hb7:¬ (C=i+m):=by omega
 have hb8:¬ (C=i):=by omega
 obtain ⟨_,_,FG⟩:=L.f22
 go_enter FG,Body2.n22_ntmps ρ
 go_wp2_with (at_builtin; refine Lib.wpList_append_run _ rfl _ _ (ρ.t 24) (ρ.t 3) rfl _ _ rfl rfl _ _ (hap _) ?_)
 go_region_law_o (refine step_copy_runI rfl _ _ (ρ.t 24) (ρ.t 24) rfl _ _ (by simp [Act.eval,Act.put]) (by simp [Act.eval,Act.put]) (hcp3 _ _ _) ?_)
 go_wp2
 go_ret
 refine ⟨C,rfl,hC1,hC2,cur2,setRow_heap _ _ cur1 cur2 _ _ (setRow_heap _ _ new cur1 _ _ hW1),hs2,fin2,⟨hWos.1,hWos.2.1,hWos.2.2,?_,fun k hk _=>?_⟩⟩
 ·rw [Ki]
  show w.heap.size<=(W1.setRow w.heap.size cur1).heap.size
  rw [Ki,hWs]
  omega
 ·rw [setRow_other _ _ k _ (by omega)]
  show (W1.setRow w.heap.size cur1).heap[k]? = _
  rw [setRow_other _ _ k _ (by omega),hW1o k hk]
theorem ru {H:HP} {K:Kd} {xs:List K.T} {f:List Value} (h:EE H K xs f) (i:Nat):EE H K (xs.take i) (f.take (i*K.sz)):=by
 intro j x hx
 rw [CA] at hx
 split at hx
 ·rename_i hj
  have:=h j x hx
  have hle:(j+1)*K.sz<=i*K.sz:=CP _ hj
  rw [Nat.succ_mul] at hle
  rw [List.drop_take,List.take_take,Nat.min_eq_left (by omega)]
  exact this
 ·cases hx
theorem rz {H:HP} {K:Kd} {xs:List K.T} {f:List Value} (h:EE H K xs f) (i:Nat):EE H K (xs.drop i) (f.drop (i*K.sz)):=by
 intro j x hx
 rw [DC] at hx
 have:=h _ x hx
 rw [List.drop_drop,<- Nat.add_mul]
 exact this
theorem AAF {H:HP} {φ:CQ} {w w':World} {t:TypeId} {K:Kd} {xs vs ys:List K.T} {n:Int} {v':Value} {flat:List Value}
  (hs:SR H φ (Bo [] [.new t K xs,.int .i64 n,.new t K vs]) w) (hg:w.grownBy w' (ED (φ 0))) (hb:∀ b,ED v'=some b->ED (φ 0)=some b\/w.heap.size<=b)
  (ho:w'.ownsRow 0 t K.sz v' ys.length flat) (hr:EE H K ys flat):QM H φ w [.new t K xs,.int .i64 n,.new t K vs] [] [] [.new t K ys] v' w':=by
 have hout:∀ b,ED (φ 0)=some b->H b=none:=fun b h=>hs.out 0 (.rows t K xs) rfl rfl b h
 have hlt:∀ b o,H b=some o->b<w.heap.size:=fun b o h=>(Array.getElem?_eq_some_iff.1 (hs.hp b o h)).1
 refine ⟨H,fun _=>v',HP.le_refl H,⟨fun b o h=>?_,fun id bx hid=>?_,fun i j bi bj hi hj _ _ hne=>?_,fun i bi hi _ b hv=>?_,fun id cs hid=>?_,hs.tb⟩,⟨hg.os,hg.tape,hg.output,hg.size,fun b hlt hne=>hg.block b hlt (fun e=>hne 0 (by show 0<2; omega) e.symm),fun j hj=>by simp at hj,fun i bi hi _ b hv=>?_,fun j hj=>by simp at hj,fun _ _ _=>rfl⟩,⟨rfl,rfl⟩⟩
 ·rw [hg.block b (hlt b o h) (fun e=>by rw [hout b e.symm] at h; cases h)]
  exact hs.hp b o h
 ·cases id with
  | zero=>cases hid; exact ⟨flat,ho,hr⟩
  | succ k=>cases hid
 ·cases i with
  | succ k=>cases hi
  | zero =>
   cases j with
   | succ k=>cases hj
   | zero=>exact absurd rfl hne
 ·cases hh:H b with
  | none=>rfl
  | some o =>
   rcases hb b hv with h | h
   ·rw [hout b h] at hh; cases hh
   ·have:=hlt b o hh; omega
 ·cases id with
  | zero=>cases hid
  | succ k=>cases hid
 ·rcases hb b hv with h | h
  ·exact .inr ⟨0,(by show 0<2; omega),h⟩
  ·exact .inl h
theorem ADY {K:Kd} (L:ADX P ρ) (he:elB P (ρ.t 9) K=true) {xs vs:List K.T} {i:Nat} (hx:xs.length+vs.length<=68719476736) (hv:vs≠[]) (hi:i<=xs.length) :
  Rg P (ρ.f 22) [.new (ρ.t 9) K xs,.int .i64 i,.new (ρ.t 9) K vs] [] [.new (ρ.t 9) K (xs.take i++vs++xs.drop i)]:=by
 obtain ⟨i0,z,hi0,hz,h1,h2,h3,h4⟩:=YL he
 have hm:0<vs.length:=List.length_pos_iff.2 hv
 have hsz:=Kd.sz_pos K
 refine ⟨?_,?_,1,rfl,fun H φ w cargs hs ha=>?_⟩
 ·obtain ⟨nm,hnm,hf⟩:=L.f22
  exact ⟨_,_,hf,hnm,rfl⟩
 ·intro r hr
  simp only [Bq] at hr
  subst hr
  rfl
 ·obtain ⟨v0,r0,rfl,hv0,ha⟩:=ha
  obtain ⟨v1,r1,rfl,hv1,ha⟩:=ha
  obtain ⟨v2,r2,rfl,hv2,ha⟩:=ha
  have hr2:r2=[]:=ha
  subst hr2
  have e0:v0=φ 0:=hv0.1
  have e1:v1=.int .i64 i:=hv1
  have e2:v2=φ 1:=hv2.1
  subst e0 e1 e2
  obtain ⟨flat,ho,hr⟩:=hs.box 0 (.rows (ρ.t 9) K xs) rfl
  obtain ⟨flatv,hov,hrv⟩:=hs.box 1 (.rows (ρ.t 9) K vs) rfl
  have hnew:(xs.take i++vs++xs.drop i).length=xs.length+vs.length:=by simp only [List.length_append,List.length_take,List.length_drop]; omega
  have hnil:vs.length≠0:=by omega
  obtain ⟨gv,capv,curv,ev,_,hgv,hcv,hcmv,hsv,htv⟩:=hov.2.resolve_left (fun h=>hnil h.2)
  have hlv:vs.length*K.sz<=curv.size:=by rw [hsv]; exact CP _ hcv
  have hn:xs.length+vs.length<=maxLen:=by unfold maxLen; omega
  have hbb:(xs.length+vs.length)*i0.bytes<=140737488355328:=Nat.le_trans (Nat.mul_le_mul hx h2) (by omega)
  have hcv2:∀ j u,flatv[j]? = some u->w.cell? ((⟨gv,0,none⟩:Addr).add j)=some u:=fun j u hj=>by
   rw [Addr.add_none,TG hgv,Nat.zero_add]
   rw [<- htv,CA] at hj
   split at hj
   ·rwa [Array.getElem?_toList] at hj
   ·cases hj
  have one:(w.ownsRow 0 (ρ.t 9) K.sz (φ 1) vs.length flatv):=hov
  rw [ev]
  by_cases hin:i=xs.length
  ·subst hin
   obtain ⟨base,n,cap,e0,hnn⟩:∃ base n cap,φ 0=.slice base n cap/\n=xs.length:=by
    rcases ho.2 with ⟨e,h⟩ | ⟨g,cap,cur,e,_⟩
    ·exact ⟨none,0,0,e,h.symm⟩
    ·exact ⟨_,_,_,e,rfl⟩
   subst hnn
   refine Calls.mono (AB3 L i0 z K.sz i0.bytes hi0 hz h1 rfl h3 hsz (fun w=>by simp [sizeOf,typeInfo,hi0,h1]) (φ 0) base _ cap e0 flat w ho ⟨gv,0,none⟩ vs.length capv flatv hm hov.1 hn hbb hcv2 (Dr hrv hov.1)) fun out w' h=>?_
   obtain ⟨v',rfl,ho',hg,hbk⟩:=h
   have hbv:∀ {v:Value} {n:Nat} {fl:List Value} {ww:World},ww.ownsRow 0 (ρ.t 9) K.sz v n fl->ED v=v.ownBlock:=fun h=>by
    rcases h.2 with ⟨e,_⟩ | ⟨g,c,cu,e,_⟩<;>rw [e]<;>rfl
   have hbl:ED (φ 0)=(φ 0).ownBlock:=by rw [e0]; cases base<;>rfl
   refine AAF (flat:=flat++flatv) hs (by rw [hbl]; exact hg) (fun b hb=>?_) (by rw [hnew]; exact ho') ?_
   ·rw [hbv ho'] at hb
    rcases hbk with h | h
    ·exact .inl (by rw [hbl,<- h]; exact hb)
    ·rw [h] at hb
     cases hb
     exact .inr (Nat.le_refl _)
   ·rw [List.take_length,List.drop_length,List.append_nil]
    exact Iz hr ho.1 hrv
  ·have hlt:i<xs.length:=by omega
   obtain ⟨g,cap,cur,e0,_,hg,hc,hcm,hsc,ht⟩:=ho.2.resolve_left (fun h=>by omega)
   have hne:gv≠g:=fun e=>hs.sep 0 1 _ _ rfl rfl rfl rfl (by decide) g (by rw [e0]; rfl) (by rw [ev,e]; rfl)
   rw [e0]
   have z9:∀ w,(Go.sizeOf (ρ.t 9)).run P w=.ok K.sz w:=fun w=>by simp [sizeOf,typeInfo,hi0,h1]
   have hcap0:cur.size≠0:=by
    have:=CP K.sz hc
    have h5:0<xs.length*K.sz:=Nat.mul_pos (by omega) hsz
    omega
   have htk:cur.toList.take (i*K.sz)=flat.take (i*K.sz):=by
    rw [<- ht,List.take_take,Nat.min_eq_left (CP _ hi)]
   have hrow:∀ (cur':Array Value),cur'.toList.take ((xs.length+vs.length)*K.sz)=cur.toList.take (i*K.sz)++curv.toList.take (vs.length*K.sz)++(cur.toList.take (xs.length*K.sz)).drop (i*K.sz)->cur'.toList.take ((xs.length+vs.length)*K.sz)=flat.take (i*K.sz)++flatv++flat.drop (i*K.sz):=fun cur' h=>by rw [h,htk,htv,ht]
   have hlf:(flat.take (i*K.sz)++flatv++flat.drop (i*K.sz)).length=(xs.length+vs.length)*K.sz:=by
    have h5:=ho.1
    have h6:=hov.1
    have h7:i*K.sz<=xs.length*K.sz:=CP _ hi
    simp only [List.length_append,List.length_take,List.length_drop,h5,h6,Nat.add_mul]
    omega
   have hrr:EE H K (xs.take i++vs++xs.drop i) (flat.take (i*K.sz)++flatv++flat.drop (i*K.sz)):=by
    have h5:=ho.1
    have h7:i*K.sz<=xs.length*K.sz:=CP _ hi
    have l1:(flat.take (i*K.sz)).length=(xs.take i).length*K.sz:=by rw [List.length_take,List.length_take,Nat.min_eq_left hi,h5]; omega
    refine Iz (Iz (ru hr i) l1 hrv) ?_ (rz hr i)
    rw [List.length_append,List.length_append,l1,hov.1,Nat.add_mul]
   by_cases hroom:xs.length+vs.length<=cap
   ·refine Calls.mono (AAE L i0 z K.sz i0.bytes hi0 hz h1 rfl h3 hsz z9 g xs.length cap i cur w hg hsc hlt gv vs.length capv curv hgv hne hm hroom hcm hlv (by rw [ht]; exact Dr hr ho.1) (by rw [htv]; exact Dr hrv hov.1) hcap0) fun out w' h=>?_
    obtain ⟨rfl,cur',g1,g2,g3,g4⟩:=h
    refine AAF hs (by rw [e0]; exact g4) (fun b hb=>.inl (by rw [e0]; exact hb)) (flat:=flat.take (i*K.sz)++flatv++flat.drop (i*K.sz)) ?_ hrr
    rw [hnew]
    exact ⟨hlf,.inr ⟨g,cap,cur',rfl,Nat.zero_le _,g1,hroom,hcm,g2,hrow cur' g3⟩⟩
   ·refine Calls.mono (ABE L i0 z K.sz i0.bytes hi0 hz h1 rfl h3 hsz z9 g xs.length cap i cur w hg hsc hlt gv vs.length capv curv hgv hne hm hc (by omega) hx h2 hlv (by rw [ht]; exact Dr hr ho.1) (by rw [htv]; exact Dr hrv hov.1)) fun out w' h=>?_
    obtain ⟨cap',rfl,g5,g6,cur',g1,g2,g3,g4⟩:=h
    refine AAF hs ⟨g4.os,g4.tape,g4.output,g4.size,fun k hk _=>g4.block k hk (by simp)⟩ (fun b hb=>.inr (by cases hb; exact Nat.le_refl _)) (flat:=flat.take (i*K.sz)++flatv++flat.drop (i*K.sz)) ?_ hrr
    rw [hnew]
    exact ⟨hlf,.inr ⟨w.heap.size,cap',cur',rfl,Nat.zero_le _,g1,g5,g6,g2,hrow cur' g3⟩⟩
def vr (t:TypeId) (K:Kd) (args bs:List AV):Option (List AV) :=
 match args,bs with
 | [.lst K' xs],[]=>if h:K'=K then (if xs.length<=68719476736 then some [.new t K (h▸xs)] else none) else none
 | _,_=>none
theorem vt {t:TypeId} {K:Kd} {xs:List K.T} (h:xs.length<=68719476736):vr t K [.lst K xs] []=some [.new t K xs]:=by simp [vr,h]
theorem vu {K:Kd} (L:SlLaysE0.n41 P ρ) (he:elB P (ρ.t 23) K=true) {args bs rs:List AV} (h:vr (ρ.t 23) K args bs=some rs):Rg P (ρ.f 41) args bs rs:=by
 unfold vr at h
 split at h
 ·split at h
  ·rename_i hk
   subst hk
   split at h
   ·cases h
    exact AEc L he (by assumption)
   ·cases h
  ·cases h
 ·cases h
def AEe (t:TypeId) (K:Kd) (args bs:List AV):Option (List AV) :=
 match args,bs with
 | [.new t1 K1 xs,.int k i,.new t2 K2 vs],[]=>if h1:K1=K then (if h2:K2=K then (if t1=t/\t2=t/\k=.i64/\0<=i/\i<=xs.length/\vs.length≠0/\xs.length+vs.length<=68719476736 then
   some [.new t K ((h1▸xs).take i.toNat++(h2▸vs)++(h1▸xs).drop i.toNat)] else none) else none) else none
 | _,_=>none
theorem AFx {t:TypeId} {K:Kd} {xs vs:List K.T} {i:Nat} (h:xs.length+vs.length<=68719476736) (hi:i<=xs.length) (hv:vs.length≠0):AEe t K [.new t K xs,.int .i64 i,.new t K vs] []=some [.new t K (xs.take i++vs++xs.drop i)]:=by
 have hi':(i:Int)<=(xs.length:Int):=by omega
 have h0:(0:Int)<=(i:Int):=by omega
 simp only [AEe,dif_pos,true_and]
 rw [if_pos ⟨h0,hi',hv,h⟩,Ab]
theorem AFy {K:Kd} (L:ADX P ρ) (he:elB P (ρ.t 9) K=true) {args bs rs:List AV} (h:AEe (ρ.t 9) K args bs=some rs):Rg P (ρ.f 22) args bs rs:=by
 unfold AEe at h
 split at h
 ·split at h
  ·rename_i hk
   subst hk
   split at h
   ·rename_i hk2
    subst hk2
    split at h
    ·rename_i hc
     obtain ⟨rfl,rfl,rfl,h0,hi,hv,hx⟩:=hc
     cases h
     rename_i n _
     obtain ⟨m,rfl⟩:=Int.eq_ofNat_of_zero_le h0
     exact ADY L he hx (fun e=>hv (by rw [e]; rfl)) (by omega)
    ·cases h
   ·cases h
  ·cases h
 ·cases h
def AG0 (args bs:List AV):Option (List AV) :=
 match args,bs with
 | [.str a,.str b],[]=>some [.int .i64 (Lib.compareBytes a.data.toList b.data.toList)]
 | _,_=>none
theorem AFz (L:Lays.n106 P ρ) {args bs rs:List AV} (h:AG0 args bs=some rs):Rg P (ρ.f 106) args bs rs:=by
 unfold AG0 at h
 split at h
 ·cases h
  rename_i a b
  refine ⟨⟨_,_,L.f106,by rfl,rfl⟩,?_,1,rfl,fun H φ w cargs hs ha=>?_⟩
  ·intro r hr
   simp only [Bq] at hr
   subst hr
   rfl
  ·obtain ⟨v0,r0,rfl,hv0,ha⟩:=ha
   obtain ⟨v1,r1,rfl,hv1,ha⟩:=ha
   have hr1:r1=[]:=ha
   subst hr1
   have e0:v0=.string a:=hv0
   have e1:v1=.string b:=hv1
   subst e0 e1
   refine Calls.mono (Any.strings_Compare L a b w) fun out w' h=>?_
   obtain ⟨rfl,rfl⟩:=h
   exact fC (rs:=[.int .i64 (Lib.compareBytes a.data.toList b.data.toList)]) (Ak.refl hs) rfl
 ·cases h
theorem uF {H:HP} {φ:CQ} {w w':World} {t:TypeId} {K:Kd} {xs ys:List K.T} {ags:List AV} {v':Value} {flat:List Value} (hst:Bo [] (.new t K xs::ags)=[.rows t K xs])
  (hs:SR H φ (Bo [] (.new t K xs::ags)) w) (hg:w.grownBy w' (ED (φ 0))) (hb:∀ b,ED v'=some b->ED (φ 0)=some b\/w.heap.size<=b)
  (ho:w'.ownsRow 0 t K.sz v' ys.length flat) (hr:EE H K ys flat):QM H φ w (.new t K xs::ags) [] [] [.new t K ys] v' w':=by
 have hbx:(Bo [] (.new t K xs::ags))[0]? = some (.rows t K xs):=by rw [hst]; rfl
 have hout:∀ b,ED (φ 0)=some b->H b=none:=fun b h=>hs.out 0 (.rows t K xs) hbx rfl b h
 have hlt:∀ b o,H b=some o->b<w.heap.size:=fun b o h=>(Array.getElem?_eq_some_iff.1 (hs.hp b o h)).1
 refine ⟨H,fun _=>v',HP.le_refl H,⟨fun b o h=>?_,fun id bx hid=>?_,fun i j bi bj hi hj _ _ hne=>?_,fun i bi hi _ b hv=>?_,fun id cs hid=>?_,hs.tb⟩,⟨hg.os,hg.tape,hg.output,hg.size,fun b hlt hne=>hg.block b hlt (fun e=>hne 0 (by rw [hst]; show 0<1; omega) e.symm),fun j hj=>by simp at hj,fun i bi hi _ b hv=>?_,fun j hj=>by simp at hj,fun _ _ _=>rfl⟩,⟨rfl,rfl⟩⟩
 ·rw [hg.block b (hlt b o h) (fun e=>by rw [hout b e.symm] at h; cases h)]
  exact hs.hp b o h
 ·cases id with
  | zero=>cases hid; exact ⟨flat,ho,hr⟩
  | succ k=>cases hid
 ·cases i with
  | succ k=>cases hi
  | zero =>
   cases j with
   | succ k=>cases hj
   | zero=>exact absurd rfl hne
 ·cases hh:H b with
  | none=>rfl
  | some o =>
   rcases hb b hv with h | h
   ·rw [hout b h] at hh; cases hh
   ·have:=hlt b o hh; omega
 ·cases id with
  | zero=>cases hid
  | succ k=>cases hid
 ·rcases hb b hv with h | h
  ·exact .inr ⟨0,(by rw [hst]; show 0<1; omega),h⟩
  ·exact .inl h

structure AG1 (P:Program) (g:Nat):Prop where
 eg:∀ args w,(callFunc g args).run P w=.ok (.enter g args) w
 says:∀ (n x:Int) (b o:Nat) (W:World),W.cell? ⟨b,o,none⟩=some (.int .i64 n) ->
  Calls P g #[.int .i64 x,.pointer (some ⟨b,o,none⟩)] W fun e w'=>e=.returned (.bool (x==n))/\∃ q,w'=W.drewN q
set_option maxHeartbeats 2000000 in
theorem ABF (L:SlLaysH.n10 P ρ) (fv:Value) (w:World) :
  Calls P (ρ.f 10) #[.slice none 0 0,fv] w fun e w'=>e=.returned (.slice none 0 0)/\w'=w:=by
 have mixed:=L.mixed; have t0:=L.t0; have a0:=L.a0; have z0:=L.z0; have v0:=L.v0; have t3:=L.t3; have a3:=L.a3; have z3:=L.z3; have v3:=L.v3; have t4:=L.t4; have a4:=L.a4; have z4:=L.z4; have v4:=L.v4; have t22:=L.t22; have a22:=L.a22; have z22:=L.z22; have v22:=L.v22; have a23:=L.a23; have z23:=L.z23; have t25:=L.t25; have a25:=L.a25; have z25:=L.z25; have v25:=L.v25
 have e6:∀ args w,(callFunc (ρ.f 6) args).run P w=.ok (.enter (ρ.f 6) args) w:=L.f6.enters rfl
 have hIF:=AnyE.slices_IndexFunc_empty (P:=P) (ρ:=ρ) { L with } none 0 fv w
 obtain ⟨_,_,FG⟩:=L.f10
 go_enter FG,SlBodyH.n10_ntmps ρ
 go_wp2_with (go_at_fn (ρ.f 6); refine hIF.mono ?_; rintro e w' ⟨rfl,rfl⟩)
 go_ret
 exact ⟨rfl,rfl⟩
theorem ma {α:Type} [Inhabited α] (enc:α->Value) (w:World) (b off:Nat) (d:Array α):(Sort.putRow enc w b off d).heap.size=w.heap.size:=by
 simp [Sort.putRow,Sort.mapBlock]
theorem mb {α:Type} [Inhabited α] (enc:α->Value) (w:World) (b off k:Nat) (d:Array α) (h:k≠b):(Sort.putRow enc w b off d).heap[k]? = w.heap[k]? := by
 simp only [Sort.putRow,Sort.mapBlock,Array.getElem?_modify]
 rw [if_neg (fun e=>h e.symm)]
theorem pd {α:Type} [Inhabited α] (enc:α->Value) (w:World) (b off:Nat) (d:Array α) {c:Array Value} {e:TypeId} {fr:Nat×Nat} (h:w.heap[b]? = some (.cells c e fr)) :
  (Sort.putRow enc w b off d).heap[b]? = some (.cells (Sort.putCells enc off d c) e fr):=by
 simp only [Sort.putRow,Sort.mapBlock,Array.getElem?_modify,if_true,h,Option.map_some,Sort.onCells]
theorem AB4 (L:SlLaysH.n10 P ρ) (hv:∀ w,(zeroValue (ρ.t 23)).run P w=.ok (.int .i64 0) w) {g:Nat} (E:AG1 P g) {xs:List Int} {n:Int} :
  Rg P (ρ.f 10) [.new (ρ.t 23) (.int .i64) xs,.clo g (.int .i64) n] [] [.new (ρ.t 23) (.int .i64) (xs.filter fun x=>!(x==n))]:=by
 refine ⟨?_,?_,1,rfl,fun H φ w cargs hs ha=>?_⟩
 ·obtain ⟨nm,hnm,hf⟩:=L.f10
  exact ⟨_,_,hf,hnm,rfl⟩
 ·intro r hr
  simp only [Bq] at hr
  subst hr
  rfl
 ·obtain ⟨v0,r0,rfl,hv0,ha⟩:=ha
  obtain ⟨v1,r1,rfl,hv1,ha⟩:=ha
  have hr1:r1=[]:=ha
  subst hr1
  have e0:v0=φ 0:=hv0.1
  subst e0
  obtain ⟨b,o,c,el,fz,e1,hb,vs,hvs,hvc⟩:=(show AAm H g (Gj H (.int .i64) n) v1 from hv1)
  have hvs:vs=[.int .i64 n]:=hvs
  subst hvs e1
  have hcn:c[o]? = some (.int .i64 n):=hvc 0 _ rfl
  have hwb:=hs.hp _ _ hb
  have hbl:b<w.heap.size:=(Array.getElem?_eq_some_iff.1 hwb).1
  have hcell:w.cell? ⟨b,o,none⟩=some (.int .i64 n):=by rw [TG hwb]; exact hcn
  obtain ⟨flat,ho,hr⟩:=hs.box 0 (.rows (ρ.t 23) (.int .i64) xs) rfl
  have hstk:Bo [] [AV.new (ρ.t 23) (.int .i64) xs,.clo g (.int .i64) n]=[.rows (ρ.t 23) (.int .i64) xs]:=rfl
  have hout:∀ bb,ED (φ 0)=some bb->H bb=none:=fun bb h=>hs.out 0 (.rows (ρ.t 23) (.int .i64) xs) rfl rfl bb h
  obtain ⟨hfl,⟨e0,hx⟩ | ⟨gb,cap,cur,e0,hle,hg,hc,hcm,hsc,ht⟩⟩:=ho
  ·have:xs=[]:=DD.1 (by omega)
   subst this
   rw [e0]
   refine Calls.mono (ABF L _ w) fun out w' h=>?_
   obtain ⟨rfl,rfl⟩:=h
   exact uF hstk hs ⟨rfl,rfl,rfl,Nat.le_refl _,fun _ _ _=>rfl⟩ (fun b hb=>by simp [ED] at hb) (flat:=[]) ⟨by simp,.inl ⟨rfl,rfl⟩⟩ (fun j x h=>by simp at h)
  ·have hne:b≠gb:=fun e=>by
    have:=hout gb (by rw [e0]; rfl)
    rw [<- e] at this
    rw [this] at hb; cases hb
   have hgl:gb<w.heap.size:=(Array.getElem?_eq_some_iff.1 hg).1
   have hflat:∀ j (h:j<xs.length),cur[j]? = some (.int .i64 xs[j]):=fun j hj=>by
    have h1:(flat.drop (j*1)).take 1=[.int .i64 xs[j]]:=hr j xs[j] (List.getElem?_eq_getElem hj)
    have h4:((flat.drop (j*1)).take 1)[0]? = some (.int .i64 xs[j]):=by rw [h1]; rfl
    have h5:flat[j]? = some (.int .i64 xs[j]):=by simpa using h4
    rw [<- ht] at h5
    have h6:j<xs.length*Kd.sz (.int .i64):=by simpa [Kd.sz] using hj
    rw [CA,if_pos h6,Array.getElem?_toList] at h5
    exact h5
   have hH:Sort.Holds (Value.int .i64) w gb 0 xs.toArray:=fun j hj=>by
    have hj':j<xs.length:=by simpa using hj
    have hx:xs.toArray[j]! = xs[j]:=by simp [hj']
    refine ⟨?_,?_⟩
    ·rw [TG hg,Nat.zero_add,hflat j hj',hx]
    ·simp [World.frozen?,hg]
   have hp:PredAt P g #[.pointer (some ⟨b,o,none⟩)] (Value.int .i64) (fun x=>x==n) w:=fun W x hB=>E.says n x b o W ((hB.cell (p:=⟨b,o,none⟩) hbl).trans hcell)
   have hpo:PredOver P g #[.pointer (some ⟨b,o,none⟩)] (Value.int .i64) (fun x=>x==n) gb 0 xs.toArray.size w:=fun k os dk x _=>E.says n x b o _ (by
    unfold sortWorld
    rw [Sort.cell?_grow _ _ _ (by show b<(Sort.putRow _ _ _ _ _).heap.size; rw [ma]; exact hbl),Sort.cell?_putRow_other _ _ gb 0 _ _ (Or.inl hne)]
    exact hcell)
   have hcm':cap<=9223372036854775807:=hcm
   have hcall:=AnyE.slices_DeleteFunc L (Value.int .i64) (fun _=>rfl) (fun x=>x==n) g #[.pointer (some ⟨b,o,none⟩)] E.eg 0 hv gb 0 cap xs.toArray w hp hpo hH (by simp; omega) (by simpa using hc)
   rw [e0]
   refine Calls.mono (by simpa using hcall) fun out w' h=>?_
   obtain ⟨rfl,q,rfl⟩:=h
   have hfl':(xs.filter fun x=>!(x==n)).length<=xs.length:=List.length_filter_le _ _
   generalize hys:(xs.filter fun x=>!(x==n))=ys at hfl' ⊢
   have hd:(ys++List.replicate (xs.length-ys.length) 0).length=xs.length:=by simp; omega
   generalize hdd:(ys++List.replicate (xs.length-ys.length) (0:Int))=zs at hd ⊢
   refine uF (flat:=ys.map (Value.int .i64)) hstk hs ⟨rfl,rfl,rfl,?_,fun k hk hne2=>?_⟩ (fun b hb=>.inl (by rw [e0]; exact hb)) ?_ ?_
   ·rw [ma]; exact Nat.le_refl _
   ·rw [mb _ _ _ _ _ _ (fun e=>hne2 (by rw [e0,e]; rfl))]; rfl
   ·refine ⟨by simp [Kd.sz],.inr ⟨gb,cap,_,rfl,Nat.zero_le _,pd _ _ _ _ _ (show (Sort.ahead w q).heap[gb]? = _ from hg),by omega,hcm,by simpa [Sort.putCells] using hsc,?_⟩⟩
    apply List.ext_getElem?
    intro j
    have hcs:cur.size=cap:=by simpa [Kd.sz] using hsc
    rw [CA]
    by_cases hj:j<ys.length
    ·have h6:j<ys.length*Kd.sz (.int .i64):=by simpa [Kd.sz] using hj
     have hj2:j<cur.size:=by omega
     rw [if_pos h6,Array.getElem?_toList,Sort.putCells,Array.getElem?_mapIdx,Array.getElem?_eq_getElem hj2]
     have h7:zs.toArray[j-0]! = ys[j]:=by
      subst hdd
      simp [BO hj,hj]
     simp only [Option.map_some,Cd,List.getElem?_eq_getElem hj]
     rw [if_pos ⟨Nat.zero_le _,by simp; omega⟩,h7]
    ·have h6:¬ j<ys.length*Kd.sz (.int .i64):=by simpa [Kd.sz] using hj
     rw [if_neg h6,Cd,Dn (by omega)]; rfl
   ·intro j x hx
    show ((ys.map (Value.int .i64)).drop (j*1)).take 1=[.int .i64 x]
    have hj:=(As.1 hx).1
    have hxj:=(As.1 hx).2
    rw [Nat.mul_one,List.drop_eq_getElem_cons (by simpa using hj)]
    simp [hxj]
def ABG (t g:Nat) (args bs:List AV):Option (List AV) :=
 match args,bs with
 | [.new t1 (.int k) xs,.clo g1 (.int k1) n],[]=>if t1=t/\g1=g/\k=.i64/\k1=.i64 then
   some [.new t (.int .i64) ((show List Int from xs).filter fun x=>!(x==(show Int from n)))] else none
 | _,_=>none
theorem AEf {t g:Nat} {xs:List Int} {n:Int}:ABG t g [.new t (.int .i64) xs,.clo g (.int .i64) n] []=some [.new t (.int .i64) (xs.filter fun x=>!(x==n))]:=by
 simp [ABG]
theorem AEg (L:SlLaysH.n10 P ρ) (hv:∀ w,(zeroValue (ρ.t 23)).run P w=.ok (.int .i64 0) w) {g:Nat} (E:AG1 P g) {args bs rs:List AV} (h:ABG (ρ.t 23) g args bs=some rs):Rg P (ρ.f 10) args bs rs:=by
 unfold ABG at h
 split at h
 ·split at h
  ·rename_i hc
   obtain ⟨rfl,rfl,rfl,rfl⟩:=hc
   cases h
   exact AB4 L hv E
  ·cases h
 ·cases h

theorem AAG (w:World) (t e ty:TypeId) (z:Value) (ht:P.underlying t=some (.slice e)) (hz:∀ w,(zeroValue e).run P w=.ok z w) (g o n c:Nat) (cur:Array Value) (te:TypeId) (hg:w.heap[g]? = some (.cells cur te (0,0))) (hn:0<n)
  (hfit:o+n*z.cells.size<=cur.size) (h1:∀ v∈(Builtin.zeroCells z.cells n).toList,v.oneCell'=true) :
  (Builtin.clear_ #[t] ty #[.slice (some ⟨g,o,none⟩) n c]).run P w=.ok (.tuple #[]) (w.setRow g (cur.toList.take o++(Builtin.zeroCells z.cells n).toList++cur.toList.drop (o+(Builtin.zeroCells z.cells n).toList.length)).toArray):=by
 have hl:(Builtin.zeroCells z.cells n).toList.length=n*z.cells.size:=by rw [Array.length_toList,size_zeroCells]
 have hst:=run_storeCells_at P g o te (Builtin.zeroCells z.cells n).toList 0 cur w hg (by rw [hl]; simpa using hfit) h1
 cases n with
 | zero=>omega
 | succ n=>simp [Builtin.clear_,run_underlying ht,hz,hst]
theorem pe {ops:Array Oper} {o:Oper} {a:Act} {w:World} {K:Act->World->Prop} {Q:Exit->Act->World->Prop} {E:Prop}
  (hg:o.guard=none) (d x:Operand) (dT sT:TypeId) (hop:o.op=Op.call { callee:=Callee.builtin Builtin.append,args:=#[d,x],argTypes:=#[dT,sT] })
  (v u:Value) (hd:a.eval d=v) (hx:a.eval x=u) {v':Value} {w':World} (hr:(Builtin.append_ #[dT,sT] o.type #[v,u]).run P w=.ok v' w') (hK:K (a.put o.dst v') w') :
  if Region.wanted o (yielded ops a.tmps)=true then Oper.wp P o a w K Q else E:=by
 have hw:Region.wanted o (yielded ops a.tmps)=true:=by simp [Region.wanted,hg]
 rw [if_pos hw]
 unfold Oper.wp
 simp [execOp,hop,resolve,invoke,builtin,hd,hx,hr,Result.andThen]
 exact hK
theorem mc (w:World) {ops:Array Oper} {rest:List Oper} {o:Oper} {a:Act} {Q:Exit->Act->World->Prop} (hgd:o.guard=none) (s:Operand) (t:TypeId)
  (ho:o.op=.call { callee:=.builtin .clear,args:=#[s],argTypes:=#[t] }) (v:Value) (hs:a.eval s=v) {v':Value} {w':World}
  (hr:(Builtin.clear_ #[t] o.type #[v]).run P w=.ok v' w') (h:wpList P ops Q rest (a.put o.dst v') w'):wpList P ops Q (o::rest) a w :=
 wpList_plain hgd fun K hK=>by
  unfold Oper.wp execOp
  simp only [ho,resolve,invoke,builtin,Sem.run_bind,Sem.run_pure,Result.andThen_ok,List.map_toArray,List.map_cons,List.map_nil,hs,hr]
  exact hK _ _ h
set_option maxHeartbeats 8000000 in
set_option maxRecDepth 100000 in
theorem ABH (L:SlLaysE0.n45 P ρ) (i0:TypeInfo) (size:Nat) (hi:P.info? (ρ.t 23)=some i0) (hz1:i0.size=size) (z23:∀ w,(Go.sizeOf (ρ.t 23)).run P w=.ok size w) (base:Option Addr) (n cap i:Nat) (w:World) (hin:i<=n) (hnc:n<=cap) (hcm:cap<=maxLen) :
  Calls P (ρ.f 45) #[.slice base n cap,.int .i64 i,.int .i64 i] w fun e w'=>e=.returned (.slice base n cap)/\w'=w:=by
 have mixed:=L.mixed; have t0:=L.t0; have a0:=L.a0; have z0:=L.z0; have v0:=L.v0; have t3:=L.t3; have a3:=L.a3; have z3:=L.z3; have v3:=L.v3; have t4:=L.t4; have a4:=L.a4; have z4:=L.z4; have v4:=L.v4; have t22:=L.t22; have a22:=L.a22; have z22:=L.z22; have v22:=L.v22
 obtain ⟨_,_,FG⟩:=L.f45
 go_enter FG,SlBodyN.n45_ntmps ρ
 go_wp2
 all_goals (go_ret; exact ⟨rfl,rfl⟩)
set_option maxHeartbeats 8000000 in
set_option maxRecDepth 100000 in
theorem ABI (L:SlLaysE0.n45 P ρ) (i0:TypeInfo) (z:Value) (size bytes:Nat) (hi:P.info? (ρ.t 23)=some i0) (hz0:i0.zero=some z) (hz1:i0.size=size) (hzs:z.cells.size=size) (hzo:∀ v∈z.cells.toList,v.oneCell'=true) (hsz:0<size)
  (z23:∀ w,(Go.sizeOf (ρ.t 23)).run P w=.ok size w) (v23:∀ w,(zeroValue (ρ.t 23)).run P w=.ok z w) (g n cap i j:Nat) (cur:Array Value) (w:World) (hg:w.heap[g]? = some (.cells cur (ρ.t 23) (0,0))) (hcs:cur.size=cap*size) (hij:i<j) (hjn:j<=n) (hnc:n<=cap) (hcm:cap<=maxLen)
  (h1:∀ u∈cur.toList.take (n*size),u.oneCell'=true) :
  Calls P (ρ.f 45) #[.slice (some ⟨g,0,none⟩) n cap,.int .i64 i,.int .i64 j] w fun e w'=>e=.returned (.slice (some ⟨g,0,none⟩) (n-(j-i)) cap) /\
   ∃ cur',w'.heap[g]? = some (.cells cur' (ρ.t 23) (0,0))/\cur'.size=cap*size/\cur'.toList.take ((n-(j-i))*size)=cur.toList.take (i*size)++(cur.toList.take (n*size)).drop (j*size)/\w.grownBy w' (some g):=by
 have mixed:=L.mixed; have t0:=L.t0; have a0:=L.a0; have z0:=L.z0; have v0:=L.v0; have t3:=L.t3; have a3:=L.a3; have z3:=L.z3; have v3:=L.v3; have t4:=L.t4; have a4:=L.a4; have z4:=L.z4; have v4:=L.v4; have t22:=L.t22; have a22:=L.a22; have z22:=L.z22; have v22:=L.v22
 have hcm':cap<=9223372036854775807:=hcm
 have hij1:¬ ((i:Int)=(j:Int)):=by omega
 have hb1:(i:Int)<=(j:Int):=by omega
 have hb2:¬ (cap=0):=by omega
 have hb3:(j:Int)<=(n:Int):=by omega
 have hb4:¬ (cap=i):=by omega
 have e4:j*size<=n*size:=CP size hjn
 have e5:n*size<=cur.size:=by rw [hcs]; exact CP size hnc
 have e6:i*size<=j*size:=CP size (by omega)
 have e3:(n-j)*size=n*size-j*size:=Nat.sub_mul n j size
 have e7:(i+(n-j))*size=i*size+(n-j)*size:=Nat.add_mul _ _ size
 have hln:cur.toList.length=cur.size:=Array.length_toList
 have lm:((cur.toList.take (n*size)).drop (j*size)).length=(n-j)*size:=by rw [List.length_drop,List.length_take,hln,e3]; omega
 have hap:∀ (A:Addr) (c:Nat),(A=(⟨g,j*size,none⟩:Addr)\/n=j)->∀ ty,(Builtin.append_ #[(ρ.t 22),(ρ.t 22)] ty #[.slice (some ⟨g,0,none⟩) i cap,.slice (some A) (n-j) c]).run P w.drew=.ok (.slice (some ⟨g,0,none⟩) (i+(n-j)) cap) (w.drew.setRow g (cur.toList.take (i*size)++(cur.toList.take (n*size)).drop (j*size)++cur.toList.drop (i*size+((cur.toList.take (n*size)).drop (j*size)).length)).toArray):=fun A c hA ty=>by
  have:=run_append_room (P:=P) w.drew (ρ.t 22) ty (ρ.t 23) i0 L.t22 hi g i cap cur hg A (n-j) c ((cur.toList.take (n*size)).drop (j*size)) (by rw [lm,hz1]) (fun k u hk=>by
   have hk2:=(As.1 hk).1
   rw [lm] at hk2
   rcases hA with rfl | rfl
   ·rw [Addr.add_none]
    have h5:w.drew.cell? ⟨g,j*size+k,none⟩=cur[j*size+k]? := TG hg
    rw [h5,<- hk,DC,CA,if_pos (by omega),Array.getElem?_toList]
   ·simp at hk2) (fun u hu=>h1 u (List.mem_of_mem_drop hu)) (by omega) (by rw [lm,hz1,e3]; omega)
  rw [hz1] at this
  exact this
 obtain ⟨cur1,hcur1⟩:∃ c1,c1=(cur.toList.take (i*size)++(cur.toList.take (n*size)).drop (j*size)++cur.toList.drop (i*size+((cur.toList.take (n*size)).drop (j*size)).length)).toArray:=⟨_,rfl⟩
 rw [<- hcur1] at hap
 have hs1:cur1.size=cap*size:=by
  rw [hcur1,List.size_toArray,<- hcs]
  simp only [List.length_append,List.length_take,List.length_drop,hln,lm]
  omega
 have ht1:cur1.toList.take ((i+(n-j))*size)=cur.toList.take (i*size)++(cur.toList.take (n*size)).drop (j*size):=by
  have l3:(cur.toList.take (i*size)++(cur.toList.take (n*size)).drop (j*size)).length=(i+(n-j))*size:=by
   simp only [List.length_append,List.length_take,hln,lm,e7]
   omega
  rw [hcur1]
  exact (congrArg (fun k=>List.take k _) l3.symm).trans (by rw [List.take_left])
 have hg1:(w.drew.setRow g cur1).heap[g]? = some (.cells cur1 (ρ.t 23) (0,0)):=setRow_heap w.drew g cur cur1 (ρ.t 23) _ hg
 obtain ⟨d,hd⟩:∃ d,d=n-(i+(n-j)):=⟨_,rfl⟩
 have hdp:0<d:=by omega
 have e8:(i+(n-j))*size+d*size<=cur1.size:=by rw [hs1,<- Nat.add_mul]; exact CP size (by omega)
 have hzc:∀ v∈(Builtin.zeroCells z.cells d).toList,v.oneCell'=true:=by
  intro v hv
  simp only [Builtin.zeroCells,Array.toList_map,List.mem_map] at hv
  obtain ⟨k,_,rfl⟩:=hv
  refine hzo _ ?_
  have hk:k % z.cells.size<z.cells.size:=Nat.mod_lt _ (by omega)
  rw [getElem!_pos z.cells _ hk]
  exact Array.getElem_mem_toList hk
 have hcl:∀ ty c,(Builtin.clear_ #[(ρ.t 22)] ty #[.slice (some ⟨g,(i+(n-j))*size,none⟩) (n-(i+(n-j))) c]).run P (w.drew.setRow g cur1)=.ok (.tuple #[]) ((w.drew.setRow g cur1).setRow g (cur1.toList.take ((i+(n-j))*size)++(Builtin.zeroCells z.cells d).toList++cur1.toList.drop ((i+(n-j))*size+(Builtin.zeroCells z.cells d).toList.length)).toArray):=fun ty c=>by
  rw [<- hd]
  exact AAG _ _ (ρ.t 23) ty z L.t22 v23 g _ d c cur1 (ρ.t 23) hg1 hdp (by rw [hzs]; exact e8) hzc
 have lz:(Builtin.zeroCells z.cells d).toList.length=d*size:=by rw [Array.length_toList,size_zeroCells,hzs]
 obtain ⟨cur2,hcur2⟩:∃ c2,c2=(cur1.toList.take ((i+(n-j))*size)++(Builtin.zeroCells z.cells d).toList++cur1.toList.drop ((i+(n-j))*size+(Builtin.zeroCells z.cells d).toList.length)).toArray:=⟨_,rfl⟩
 rw [<- hcur2] at hcl
 have hs2:cur2.size=cap*size:=by
  rw [hcur2,List.size_toArray,<- hs1]
  simp only [List.length_append,List.length_take,List.length_drop,Array.length_toList,lz]
  rw [Array.length_toList] at lz
  omega
 have ht2:cur2.toList.take ((i+(n-j))*size)=cur.toList.take (i*size)++(cur.toList.take (n*size)).drop (j*size):=by
  have l4:(cur1.toList.take ((i+(n-j))*size)).length=(i+(n-j))*size:=by rw [List.length_take,Array.length_toList]; omega
  rw [hcur2,<- ht1,Bf]
  exact (congrArg (fun k=>List.take k _) l4.symm).trans (by rw [List.take_left])
 have hkn:n-(j-i)=i+(n-j):=by omega
 rw [hkn]
 have hW1s:((w.drew.setRow g cur1).setRow g cur2).heap[g]? = some (.cells cur2 (ρ.t 23) (0,0)):=setRow_heap _ g cur1 cur2 _ _ hg1
 have hgr:w.grownBy ((w.drew.setRow g cur1).setRow g cur2) (some g):=by
  refine ⟨rfl,rfl,rfl,by rw [Ki,Ki]; exact Nat.le_refl _,fun k hk hne=>?_⟩
  have hk':k≠g:=fun e=>hne (by rw [e])
  rw [setRow_other _ g k _ hk',setRow_other _ g k _ hk']
  rfl
 obtain ⟨W1,hW1⟩:∃ W1,W1=w.drew.setRow g cur1:=⟨_,rfl⟩
 obtain ⟨W2,hW2⟩:∃ W2,W2=W1.setRow g cur2:=⟨_,rfl⟩
 rw [<- hW1,<- hW2] at hcl hW1s hgr
 rw [<- hW1] at hap
 have hb6:¬ (cap=i+(n-j)):=by omega
 have hb7:i+(n-j)<=n:=by omega
 have hb8:i<=cap:=by omega
 clear e3 e4 e5 e6 e7 e8 hcur1 hcur2 lm hW1 hW2 hd hkn hs1 ht1 hg1 lz
 obtain ⟨A,hAe,hAd⟩:∃ A:Addr,(if cap=j then some (⟨g,0,none⟩:Addr) else some ⟨g,j*size,none⟩)=some A/\(A=(⟨g,j*size,none⟩:Addr)\/n=j):=by
  by_cases h:cap=j
  ·exact ⟨⟨g,0,none⟩,by simp [h],.inr (by omega)⟩
  ·exact ⟨⟨g,j*size,none⟩,by simp [h],.inl rfl⟩
 have hap2:=hap A (cap-j) hAd
 clear hap hAd
 obtain ⟨_,_,FG⟩:=L.f45
 go_enter FG,SlBodyN.n45_ntmps ρ
 go_wp2
 go_region_law_o (refine pe rfl _ _ (ρ.t 22) (ρ.t 22) rfl _ _ (by simp [Act.eval,Act.put]) (by simp [Act.eval,Act.put,hAe]) (hap2 _) ?_)
 go_wp2_with (at_builtin; refine mc _ rfl _ (ρ.t 22) rfl _ rfl (hcl _ _) ?_)
 go_ret
 exact ⟨rfl,cur2,hW1s,hs2,ht2,hgr⟩
theorem ADZ {K:Kd} (L:SlLaysE0.n45 P ρ) (he:elB P (ρ.t 23) K=true) {xs:List K.T} {i j:Nat} (hij:i<=j) (hj:j<=xs.length) :
  Rg P (ρ.f 45) [.new (ρ.t 23) K xs,.int .i64 i,.int .i64 j] [] [.new (ρ.t 23) K (xs.take i++xs.drop j)]:=by
 obtain ⟨i0,z,hi0,hz,h1,h2,h3,h4⟩:=YL he
 have hsz:=Kd.sz_pos K
 have z23:∀ w,(Go.sizeOf (ρ.t 23)).run P w=.ok K.sz w:=fun w=>by simp [sizeOf,typeInfo,hi0,h1]
 have v23:∀ w,(zeroValue (ρ.t 23)).run P w=.ok z w:=fun w=>by simp [zeroValue,typeInfo,hi0,hz]
 refine ⟨?_,?_,1,rfl,fun H φ w cargs hs ha=>?_⟩
 ·obtain ⟨nm,hnm,hf⟩:=L.f45
  exact ⟨_,_,hf,hnm,rfl⟩
 ·intro r hr
  simp only [Bq] at hr
  subst hr
  rfl
 ·obtain ⟨v0,r0,rfl,hv0,ha⟩:=ha
  obtain ⟨v1,r1,rfl,hv1,ha⟩:=ha
  obtain ⟨v2,r2,rfl,hv2,ha⟩:=ha
  have hr2:r2=[]:=ha
  subst hr2
  have e0:v0=φ 0:=hv0.1
  have e1:v1=.int .i64 i:=hv1
  have e2:v2=.int .i64 j:=hv2
  subst e0 e1 e2
  obtain ⟨flat,ho,hr⟩:=hs.box 0 (.rows (ρ.t 23) K xs) rfl
  have hnew:(xs.take i++xs.drop j).length=xs.length-(j-i):=by simp only [List.length_append,List.length_take,List.length_drop]; omega
  have hstk:Bo [] [AV.new (ρ.t 23) K xs,.int .i64 i,.int .i64 j]=[.rows (ρ.t 23) K xs]:=rfl
  by_cases hlt:i=j
  ·subst hlt
   obtain ⟨base,n,cap,e0,hnn,hcap,hcm⟩:∃ base n cap,φ 0=.slice base n cap/\n=xs.length/\n<=cap/\cap<=maxLen:=by
    rcases ho.2 with ⟨e,h⟩ | ⟨g,cap,cur,e,_,_,hc,hm,_⟩
    ·exact ⟨none,0,0,e,h.symm,Nat.le_refl _,Nat.zero_le _⟩
    ·exact ⟨_,_,_,e,rfl,hc,hm⟩
   subst hnn
   rw [e0]
   refine Calls.mono (ABH L i0 K.sz hi0 h1 z23 base _ cap i w hj hcap hcm) fun out w' h=>?_
   obtain ⟨rfl,rfl⟩:=h
   refine uF hstk hs ⟨rfl,rfl,rfl,Nat.le_refl _,fun _ _ _=>rfl⟩ (fun b hb=>.inl (by rw [e0]; exact hb)) (flat:=flat) ?_ ?_
   ·rw [List.take_append_drop,<- e0]; exact ho
   ·rw [List.take_append_drop]; exact hr
  ·obtain ⟨g,cap,cur,e0,_,hg,hc,hcm,hsc,ht⟩:=ho.2.resolve_left (fun h=>by omega)
   rw [e0]
   have hzo:∀ v∈z.cells.toList,v.oneCell'=true:=d6 (h4 H)
   refine Calls.mono (ABI L i0 z K.sz i0.bytes hi0 hz h1 h3 hzo hsz z23 v23 g xs.length cap i j cur w hg hsc (by omega) hj hc hcm (by rw [ht]; exact Dr hr ho.1)) fun out w' h=>?_
   obtain ⟨rfl,cur',g1,g2,g3,g4⟩:=h
   have htk:cur.toList.take (i*K.sz)=flat.take (i*K.sz):=by
    rw [<- ht,List.take_take,Nat.min_eq_left (CP _ (by omega))]
   have l1:(flat.take (i*K.sz)).length=(xs.take i).length*K.sz:=by
    have h5:=ho.1
    have h7:i*K.sz<=xs.length*K.sz:=CP _ (by omega)
    rw [List.length_take,List.length_take,Nat.min_eq_left (show i<=xs.length by omega),h5]; omega
   have l2:(flat.drop (j*K.sz)).length=(xs.drop j).length*K.sz:=by rw [List.length_drop,List.length_drop,ho.1,Nat.sub_mul]
   refine uF hstk hs (by rw [e0]; exact g4) (fun b hb=>.inl (by rw [e0]; exact hb)) (flat:=flat.take (i*K.sz)++flat.drop (j*K.sz)) ?_ (Iz (ru hr i) l1 (rz hr j))
   rw [hnew]
   refine ⟨?_,.inr ⟨g,cap,cur',rfl,Nat.zero_le _,g1,by omega,hcm,g2,by rw [g3,htk,ht]⟩⟩
   rw [List.length_append,l1,l2,<- Nat.add_mul,<- hnew,List.length_append]
def AEh (t:TypeId) (K:Kd) (args bs:List AV):Option (List AV) :=
 match args,bs with
 | [.new t1 K1 xs,.int k i,.int k2 j],[]=>if h1:K1=K then (if t1=t/\k=.i64/\k2=.i64/\0<=i/\i<=j/\j<=xs.length then
   some [.new t K ((h1▸xs).take i.toNat++(h1▸xs).drop j.toNat)] else none) else none
 | _,_=>none
theorem AF0 {t:TypeId} {K:Kd} {xs:List K.T} {i j:Nat} (hi:i<=j) (hj:j<=xs.length):AEh t K [.new t K xs,.int .i64 i,.int .i64 j] []=some [.new t K (xs.take i++xs.drop j)]:=by
 have h0:(0:Int)<=(i:Int):=by omega
 have h1:(i:Int)<=(j:Int):=by omega
 have h2:(j:Int)<=(xs.length:Int):=by omega
 simp only [AEh,dif_pos,true_and]
 rw [if_pos ⟨h0,h1,h2⟩,Ab,Ab]
theorem AF1 {K:Kd} (L:SlLaysE0.n45 P ρ) (he:elB P (ρ.t 23) K=true) {args bs rs:List AV} (h:AEh (ρ.t 23) K args bs=some rs):Rg P (ρ.f 45) args bs rs:=by
 unfold AEh at h
 split at h
 ·split at h
  ·rename_i hk
   subst hk
   split at h
   ·rename_i hc
    obtain ⟨rfl,rfl,rfl,h0,hij,hj⟩:=hc
    cases h
    rename_i i _ j _
    obtain ⟨a,rfl⟩:=Int.eq_ofNat_of_zero_le h0
    obtain ⟨b,rfl⟩:=Int.eq_ofNat_of_zero_le (Int.le_trans h0 hij)
    exact ADZ L he (by omega) (by omega)
   ·cases h
  ·cases h
 ·cases h

set_option maxHeartbeats 1000000 in
theorem ADa (L:Lays.n146 P ρ) (hi9:(P.info? (ρ.t 9)).map (fun i=>(i.zero,i.size,i.bytes))=some (some (.string U),1,16)) (s sep:ByteArray) (w:World) (hs:s.size<4294967281) (h1:sep.size=1) :
  Calls P (ρ.f 146) #[.string s,.string sep] w fun e w' =>
   e=.returned (.slice (some ⟨w.heap.size,0,none⟩) (Lib.countB s sep+1) (Lib.countB s sep+1))/\w'=w.alloc (.cells ((Lib.splitB sep 0 (Lib.countB s sep) s).map Value.string).toArray (ρ.t 9)):=by
 obtain ⟨c,rfl⟩:=Lib.one_byte sep h1
 have hle:=Lib.countB_le ⟨#[c]⟩ (by decide:1<=1) s.size s (Nat.le_refl _)
 have hlen:=Lib.splitB_all ⟨#[c]⟩ (by decide:1<=1) 0 _ s rfl
 have cc:=Any.strings_genSplit_core { L with } hi9 s ⟨#[c]⟩ 0 (-1) (Lib.countB s ⟨#[c]⟩+1) w hs (by decide:1<=1) (Nat.zero_le _)
  (fun x cs _=>(Any.strings_Index_one { L with } x c (w.alloc (.cells cs (ρ.t 9)))).mono fun e w' ⟨he,hw⟩=>⟨by rw [he]; show _=Ending.returned (Value.int .i64 (Lib.index x.data.toList [c])); rw [Lib.index_one],hw⟩)
  ((Any.strings_Count_one { L with } s c w).mono fun e w' ⟨he,hw⟩=>⟨by rw [he]; show _=Ending.returned (Value.int .i64 ((Lib.count s.data.toList [c]:Nat):Int)); rw [Lib.count_one]; rfl,hw⟩)
  (by decide) (by decide) (by rw [if_pos (by decide)]; omega)
 rw [Nat.add_sub_cancel,hlen] at cc
 have e2:Lib.cellsOf (Lib.splitB ⟨#[c]⟩ 0 (Lib.countB s ⟨#[c]⟩) s) (Lib.countB s ⟨#[c]⟩+1)=((Lib.splitB ⟨#[c]⟩ 0 (Lib.countB s ⟨#[c]⟩) s).map Value.string).toArray:=by rw [<- hlen]; exact Lib.cellsOf_full _
 rw [e2] at cc
 have t3:=L.t3; have t9:=L.t9; have t31:=L.t31
 have a3:=L.a3; have a9:=L.a9; have a31:=L.a31
 have z3:=L.z3; have v3:=L.v3; have z9:=L.z9; have v9:=L.v9; have z31:=L.z31; have v31:=L.v31
 have e221:∀ args w,(callFunc (ρ.f 221) args).run P w=.ok (.enter (ρ.f 221) args) w:=enters_of L.f221 (by kernel_rfl) rfl
 go_enter L.f146,Body.n146_ntmps ρ
 go_wp2_with (go_at_fn (ρ.f 221); refine cc.mono ?_; rintro e w' ⟨rfl,hw⟩; rw [hw])
 go_ret
 exact ⟨rfl,rfl⟩
def AAH (args bs:List AV):Option (List AV) :=
 match args,bs with
 | [.str s,.str t],[]=>if s.size<4294967281/\t.size=1 then some [.lst .str (Lib.splitB t 0 (Lib.countB s t) s)] else none
 | _,_=>none
theorem ADb {s t:ByteArray} (h:s.size<4294967281) (h1:t.size=1):AAH [.str s,.str t] []=some [.lst .str (Lib.splitB t 0 (Lib.countB s t) s)]:=if_pos ⟨h,h1⟩
theorem ADc (L:Lays.n146 P ρ) (hi9:(P.info? (ρ.t 9)).map (fun i=>(i.zero,i.size,i.bytes))=some (some (.string U),1,16)) {args bs rs:List AV} (h:AAH args bs=some rs):Rg P (ρ.f 146) args bs rs:=by
 unfold AAH at h
 split at h
 ·rename_i s t
  split at h
  ·rename_i hc
   cases h
   refine ⟨⟨_,_,L.f146,by rfl,rfl⟩,?_,1,rfl,fun H φ w cargs hs ha=>?_⟩
   ·intro r hr
    simp only [Bq] at hr
    subst hr
    rfl
   ·obtain ⟨v0,r0,rfl,hv0,ha⟩:=ha
    obtain ⟨v1,r1,rfl,hv1,ha⟩:=ha
    have hr1:r1=[]:=ha
    subst hr1
    have e0:v0=.string s:=hv0
    have e1:v1=.string t:=hv1
    subst e0 e1
    refine Calls.mono (ADa L hi9 s t w hc.1 hc.2) fun out w' h=>?_
    obtain ⟨rfl,rfl⟩:=h
    obtain ⟨H',hst,hn⟩:=Ak.lit hs (.cells ((Lib.splitB t 0 (Lib.countB s t) s).map Value.string).toArray (ρ.t 9))
    have hlen:=Lib.splitB_all t (by omega) 0 _ s rfl
    refine fC (rs:=[.lst .str (Lib.splitB t 0 (Lib.countB s t) s)]) hst ?_
    refine ⟨some ⟨w.heap.size,0,none⟩,Lib.countB s t+1,by rw [hlen],by rw [hlen]; exact Nat.le_refl _,.inr ⟨w.heap.size,0,_,_,_,rfl,hn,fun j x hx=>⟨[.string x],rfl,rfl,fun i u hu=>?_⟩⟩⟩
    match i,hu with
    | 0,hu =>
     cases hu
     simp [Kd.sz,hx]
  ·cases h
 ·cases h
def ACf (args bs:List AV):Option (List AV) :=
 match args,bs with
 | [.int .i64 n],[]=>if -9223372036854775808<=n/\n<=9223372036854775807 then some [.str ⟨(Lib.itoa n).toArray⟩] else none
 | _,_=>none
theorem AEi {n:Int} (h:-9223372036854775808<=n) (h1:n<=9223372036854775807):ACf [.int .i64 n] []=some [.str ⟨(Lib.itoa n).toArray⟩]:=if_pos ⟨h,h1⟩
theorem AB5 {w:World} (k:Nat) (os:Array Obj):w.grownBy (Go.Sort.grow (w.drewN k) os) none:=by
 have hd:w.grownBy (w.drewN k) none:=by
  induction k with
  | zero=>exact ⟨rfl,rfl,rfl,Nat.le_refl _,fun _ _ _=>rfl⟩
  | succ k ih=>exact ⟨ih.os,ih.tape,ih.output,ih.size,ih.block⟩
 refine ⟨hd.os,hd.tape,hd.output,?_,fun b hb hn=>?_⟩
 ·have:=hd.size
  simp only [Go.Sort.grow,Array.size_append]
  omega
 ·rw [<- hd.block b hb hn]
  have:=hd.size
  simp only [Go.Sort.grow]
  rw [Array.getElem?_append_left (by omega)]
theorem AEj (L:LaysM.n171 P ρ) (ht:(ρ.g 17,(Lib.pow10Tab.map fun z=>Value.int .u64 z).toArray)∈AHL) {args bs rs:List AV} (h:ACf args bs=some rs):Rg P (ρ.f 171) args bs rs:=by
 unfold ACf at h
 split at h
 ·rename_i n
  split at h
  ·rename_i hc
   cases h
   refine ⟨⟨_,_,L.f171,by rfl,rfl⟩,?_,1,rfl,fun H φ w cargs hs ha=>?_⟩
   ·intro r hr
    simp only [Bq] at hr
    subst hr
    rfl
   ·obtain ⟨v0,r0,rfl,hv0,ha⟩:=ha
    have hr0:r0=[]:=ha
    subst hr0
    have e0:v0=.int .i64 n:=hv0
    subst e0
    have tab:Lib.TabIs P w "internal/strconv.uint64pow10" .u64 Lib.pow10Tab:=by
     obtain ⟨el,fz,e⟩:=hs.tb _ ht
     unfold Lib.TabIs World.var?
     rw [L.m17,AA,hs.hp _ _ e]
    refine Calls.mono (Any.strconv_Itoa L n hc.1 hc.2 w tab) fun out w' h=>?_
    obtain ⟨rfl,k,os,rfl⟩:=h
    exact fC (rs:=[.str ⟨(Lib.itoa n).toArray⟩]) (Ak.grow hs (AB5 k os)) rfl
  ·cases h
 ·cases h
def ACg (args bs:List AV):Option (List AV) :=
 match args,bs with
 | [.lst .str xs,.str t],[]=>if xs≠[]/\xs.length<=140737488355328/\(Lib.join (xs.map (·.data.toList)) t.data.toList).length<=140737488355328 then some [.str ⟨(Lib.join (xs.map (·.data.toList)) t.data.toList).toArray⟩] else none
 | _,_=>none
theorem AEk {xs:List ByteArray} {t:ByteArray} (h:xs≠[]) (h1:xs.length<=140737488355328) (h2:(Lib.join (xs.map (·.data.toList)) t.data.toList).length<=140737488355328):ACg [.lst .str xs,.str t] []=some [.str ⟨(Lib.join (xs.map (·.data.toList)) t.data.toList).toArray⟩]:=if_pos ⟨h,h1,h2⟩
theorem AEl (L:Lays.n156 P ρ) (X:Builder.Extra P ρ) {args bs rs:List AV} (h:ACg args bs=some rs):Rg P (ρ.f 156) args bs rs:=by
 unfold ACg at h
 split at h
 ·rename_i xs t
  split at h
  ·rename_i hc
   cases h
   refine ⟨⟨_,_,L.f156,by rfl,rfl⟩,?_,1,rfl,fun H φ w cargs hs ha=>?_⟩
   ·intro r hr
    simp only [Bq] at hr
    subst hr
    rfl
   ·obtain ⟨v0,r0,rfl,hv0,ha⟩:=ha
    obtain ⟨v1,r1,rfl,hv1,ha⟩:=ha
    have hr1:r1=[]:=ha
    subst hr1
    have e1:v1=.string t:=hv1
    subst e1
    obtain ⟨a,cap,rfl,hcap,hx⟩:dN (Gj H .str) 1 H xs v0:=hv0
    rcases hx with hx | ⟨b,off,c,el,fz,rfl,hb,hr⟩
    ·exact absurd hx hc.1
    have hwb:=hs.hp b _ hb
    refine Calls.mono (Any.strings_Join L X b off cap xs t w (fun j x hj=>?_) (Array.getElem?_eq_some_iff.1 hwb).1 hc.2.1 hcap hc.2.2) fun out w' h=>?_
    ·obtain ⟨cs,q1,_,q3⟩:=hr j x hj
     have q1:cs=[.string x]:=q1
     subst q1
     have:=q3 0 _ rfl
     simp only [World.cell?,hwb]
     simpa using this
    ·obtain ⟨rfl,hbel⟩:=h
     exact fC (rs:=[.str ⟨(Lib.join (xs.map (·.data.toList)) t.data.toList).toArray⟩]) (Ak.grow hs ⟨hbel.os,hbel.tape,hbel.output,hbel.size,fun k hk _=>hbel.block k hk⟩) rfl
  ·cases h
 ·cases h

def AHW (w w':World) (b:Nat) (v:Value) (T:TypeId):Prop:=w.grownBy w' (some b)/\w'.heap[b]? = some (.cells #[.pointer (some ⟨b,0,none⟩),v] T (0,0))
theorem AHX (L:Lays.n240 P ρ) (X:Builder.X72 P ρ) (b:Nat) (p v:Value) (w:World) (hb:w.heap[b]? = some (.cells #[p,v] (ρ.t 72) (0,0))) (hp:p=.pointer none\/p=.pointer (some ⟨b,0,none⟩)) :
  Calls P (ρ.f 240) #[.pointer (some ⟨b,0,none⟩)] w fun e w'=>e=.returned (.tuple #[])/\AHW w w' b v (ρ.t 72):=by
 rcases hp with rfl | rfl
 ·refine (Any.Builder_copyCheck_fresh L X b w (by simp [World.cell?,hb]) (by simp [World.shape?,hb]) (by simp [World.frozen?,hb])).mono ?_
  rintro e w' ⟨rfl,rfl⟩
  exact ⟨rfl,QL w ⟨b,0,none⟩ _,by simp [World.setCell,Array.getElem?_modify,hb]⟩
 ·refine (Any.Builder_copyCheck_used L X b w (by simp [World.cell?,hb])).mono ?_
  rintro e w' ⟨rfl,rfl⟩
  exact ⟨rfl,⟨rfl,rfl,rfl,Nat.le_refl _,fun _ _ _=>rfl⟩,hb⟩
theorem md {w:World} {ops:Array Oper} {rest:List Oper} {o:Oper} {a:Act} {Q:Exit->Act->World->Prop} (hgd:o.guard=none) (s x:Operand) (t u:TypeId)
  (ho:o.op=.call { callee:=.builtin .append,args:=#[s,x],argTypes:=#[t,u] }) (v y:Value) (hs:a.eval s=v) (hx:a.eval x=y) {v':Value} {w':World}
  (hr:(Builtin.append_ #[t,u] o.type #[v,y]).run P w=.ok v' w') (h:wpList P ops Q rest (a.put o.dst v') w'):wpList P ops Q (o::rest) a w:=by
 refine wpList_plain hgd fun K hK=>?_
 unfold Oper.wp execOp
 simp only [ho,resolve,invoke,builtin,Sem.run_bind,Sem.run_pure,Result.andThen_ok,List.map_toArray,List.map_cons,List.map_nil,hs,hx,hr]
 exact hK _ _ h
theorem AF2 {w:World} {v:Value} {t u te ty:TypeId} {xs:List Int} {s:ByteArray} (ht:P.underlying t=some (.slice te)) (hu:P.underlying u=some .string)
  (he:(P.info? te).map (fun i=>(i.zero,i.size,i.bytes))=some (some (.int .u8 0),1,1)) (ho:w.ownsRow 0 te 1 v xs.length (xs.map (.int .u8))) (hl:xs.length+s.size<=68719476736) :
  ∃ v' w',(Builtin.append_ #[t,u] ty #[v,.string s]).run P w=.ok v' w'/\w'.ownsRow 0 te 1 v' (xs.length+(Cq s).length) ((xs++Cq s).map (.int .u8))/\w.grownBy w' (ED v)/\∀ q,ED v'=some q->ED v=some q\/w.heap.size<=q:=by
 obtain ⟨i,hi,hz,h1,h2⟩:=info_parts he
 have hs1:(Cq s).length=s.size:=by simp [Cq]
 have hs2:(xs++Cq s).map (Value.int .u8)=xs.map (.int .u8)++strCells s:=by simp [Cq,strCells]
 have hm:xs.length+s.size<=maxLen:=by unfold maxLen; omega
 rw [hs1,hs2]
 obtain ⟨v',w',hr,q1,q2,_⟩:=run_append_own_string (P:=P) w 0 t u ty te i ht hu hi hz h1 h2 v xs.length _ ho s hm (by omega) (Nat.zero_le _)
 have hbl:ED v=v.ownBlock:=by rcases ho.2 with ⟨rfl,_⟩ | ⟨g,cap,cur,rfl,_⟩<;>rfl
 refine ⟨v',w',hr,q1,by rw [hbl]; exact q2,?_⟩
 rcases ho.2 with ⟨e3,hn⟩ | ⟨g,cap,cur,e3,_,hg,hnc,hcm,hcs,htake⟩
 ·obtain ⟨v2,w2,hr2,o2,_,_⟩:=run_append_own_string (P:=P) w w.heap.size t u ty te i ht hu hi hz h1 h2 v xs.length _ ⟨ho.1,.inl ⟨e3,hn⟩⟩ s hm (by omega) (Nat.le_refl _)
  have e4:=hr.symm.trans hr2
  simp only [Result.ok.injEq] at e4
  obtain ⟨rfl,rfl⟩:=e4
  intro q hq
  right
  rcases o2.2 with ⟨e5,_⟩ | ⟨g',cap',cur',e5,hbase,_⟩
  ·rw [e5] at hq; cases hq
  ·rw [e5] at hq; simp only [ED,BT] at hq; omega
 ·by_cases hroom:xs.length+s.size<=cap
  ·have hr2:=run_append_room_string (P:=P) w t u ty te i ht hu hi h1 g xs.length cap cur hg s hroom (by omega)
   rw [<- e3] at hr2
   have e4:=hr.symm.trans hr2
   simp only [Result.ok.injEq] at e4
   obtain ⟨rfl,_⟩:=e4
   intro q hq
   left
   rw [e3]
   exact hq
  ·have holds:∀ j u,(xs.map (Value.int .u8))[j]? = some u->w.cell? ((⟨g,0,none⟩:Addr).add j)=some u:=ho.cells (g:=g) (by rw [e3]; rfl)
   have hr2:=run_append_grow_string (P:=P) w t u ty te i (.int .u8 0) ht hu hi hz ⟨g,0,none⟩ xs.length cap _ (by rw [h1]; simp) holds s (by omega) (by omega) (by rw [h2]; exact growslice_fits (by omega) (by omega))
   rw [<- e3] at hr2
   have e4:=hr.symm.trans hr2
   simp only [Result.ok.injEq] at e4
   obtain ⟨rfl,_⟩:=e4
   intro q hq
   right
   simp only [ED,BT] at hq
   omega
theorem r4 {f:Nat} {fn:Func} {c:Code} (h:P.funcs[f]? = some fn) (hb:fn.body=some c) (hn:(fn.name == "runtime.NumGoroutine")=false):o_ P f:=⟨fn,c,h,hn,hb⟩
set_option maxHeartbeats 2000000 in
set_option maxRecDepth 100000 in
theorem AF3 (L:Lays.n166 P ρ) (X:Builder.Extra P ρ):uY P (ρ.f 166) 1 (ρ.t 5) (ρ.t 72):=by
 refine ⟨r4 L.f166 rfl (by kernel_rfl),fun w b p v xs hbk hp how hne ⟨H,hT,hH1,hH2,hH3⟩=>⟨fun e=>(by cases e),fun _ s hlen=>?_,fun e=>(by cases e)⟩⟩
 have mixed:=L.mixed
 have t72:=L.t72; have a72:=L.a72; have z72:=L.z72; have v72:=L.v72; have u72:=run_underlying L.t72
 have t70:=L.t70; have a70:=L.a70; have z70:=L.z70; have v70:=L.v70; have u70:=run_underlying L.t70
 have t37:=L.t37; have a37:=L.a37; have z37:=L.z37; have v37:=L.v37; have u37:=run_underlying L.t37
 have t3:=L.t3; have a3:=L.a3; have z3:=L.z3; have v3:=L.v3; have u3:=run_underlying L.t3
 have t9:=L.t9; have a9:=L.a9; have z9:=L.z9; have v9:=L.v9; have u9:=run_underlying L.t9
 have t4:=L.t4; have a4:=L.a4; have z4:=L.z4; have v4:=L.v4; have u4:=run_underlying L.t4
 have t164:=L.t164; have a164:=L.a164; have z164:=L.z164; have v164:=L.v164; have u164:=run_underlying L.t164
 have t5:=X.t5; have a5:=X.a5; have z5:=X.z5; have v5:=X.v5; have u5:=run_underlying X.t5
 have e240:∀ args w,(callFunc (ρ.f 240) args).run P w=.ok (.enter (ρ.f 240) args) w:=enters_of L.f240 (by kernel_rfl) rfl
 have hs1:(Cq s).length=s.size:=by simp [Cq]
 go_enter L.f166,Body.n166_ntmps ρ
 go_wp2_with (go_at_fn (ρ.f 240); refine (AHX { L with } X.toX72 b p v _ hbk hp).mono ?_)
 intro e w1 h0 hcc
 subst h0
 obtain ⟨g1,hb1⟩:=hcc
 have c0:w1.cell? ⟨b,0,none⟩=some (.pointer (some ⟨b,0,none⟩)):=by rw [Lib.cell_of_heap hb1]; rfl
 have c1:w1.cell? ⟨b,1,none⟩=some v:=by rw [Lib.cell_of_heap hb1]; rfl
 have how1:w1.ownsRow 0 (ρ.t 5) 1 v xs.length (xs.map (.int .u8)):=by
  refine how.kept g1 ?_
  rcases how.2 with ⟨rfl,_⟩ | ⟨g,cap,cur,rfl,_⟩
  ·exact .inl rfl
  ·right; intro e; exact hne (by simpa [Value.ownBlock,ED] using e)
 obtain ⟨v',w2,hr,o2,g2,l2⟩:=AF2 (w:=w1) (ty:=ρ.t 37) L.t37 L.t9 X.infoByte how1 (s:=s) (by omega)
 have hlt:b<w1.heap.size:=(Array.getElem?_eq_some_iff.1 hb1).1
 have hb2:w2.heap[b]? = some (.cells #[.pointer (some ⟨b,0,none⟩),v] (ρ.t 72) (0,0)):=by
  rw [g2.block b hlt (fun e=>hne e.symm)]
  exact hb1
 have d0:w2.cell? ⟨b,0,none⟩=some (.pointer (some ⟨b,0,none⟩)):=by rw [Lib.cell_of_heap hb2]; rfl
 have d1:w2.cell? ⟨b,1,none⟩=some v:=by rw [Lib.cell_of_heap hb2]; rfl
 have f1:w2.frozen? ⟨b,1,none⟩=false:=Lib.frozen_of_heap hb2 1
 have ev':∃ ao n' cap,v'=.slice ao n' cap:=by
  rcases o2.2 with ⟨hv,_⟩ | ⟨g,cap,cur,hv,_⟩
  ·exact ⟨_,_,_,hv⟩
  ·exact ⟨_,_,_,hv⟩
 obtain ⟨ao,n',cap,rfl⟩:=ev'
 go_wp2_with (at_builtin; refine md rfl _ _ (ρ.t 37) (ρ.t 9) rfl _ _ rfl rfl hr ?_)
 go_wp2
 go_ret2
 exact ⟨_,rfl,w1,w2,_,g1,hb1,g2,o2,l2,QL w2 ⟨b,1,none⟩ _,by simp [World.setCell,Array.getElem?_modify,hb2]⟩
theorem jN:∀ {xs:List Int},rT xs=true->xs.map (Value.int .u8)=Go.Lib.byteCells (Dp xs).data.toList
 | [],_=>rfl
 | x::xs,h=>by
  simp only [rT,List.all_cons,AE,decide_eq_true_eq] at h
  have:=jN (xs:=xs) (by simpa [rT] using h.2)
  have e:((UInt8.ofNat x.toNat).toNat:Int)=x:=by
   have:x.toNat<256:=by omega
   simp [UInt8.toNat_ofNat',Nat.mod_eq_of_lt this]
   omega
  simp only [List.map_cons,this,Dp,Go.Lib.byteCells,List.map_cons,e]
theorem ABJ {w w':World} {r:Option Nat} (h:Below w.heap.size w w'):w.grownBy w' r:=⟨h.os,h.tape,h.output,h.size,fun k hk _=>h.block k hk⟩
set_option maxHeartbeats 1000000 in
set_option maxRecDepth 100000 in
theorem AF4 (L:Lays.n169 P ρ) (X:Builder.Extra P ρ):uY P (ρ.f 169) 2 (ρ.t 5) (ρ.t 72):=by
 refine ⟨r4 L.f169 rfl (by kernel_rfl),fun w b p v xs hbk hp how hne ⟨H,hT,hH1,hH2,hH3⟩=>⟨fun e=>(by cases e),fun e=>(by cases e),fun _ hB=>?_⟩⟩
 have hcs:=jN hB
 have hl:(Dp xs).data.toList.length=xs.length:=by simp [Dp]
 by_cases h0:xs=[]
 ·subst h0
  have hB0:∀ w':World,∀ e,(e=Ending.returned (.string ⟨#[]⟩)/\Below w.heap.size w w')->e=.returned (.string (Dp []))/\w.grownBy w' (ED v):=fun w' e h=>⟨h.1,ABJ h.2⟩
  rcases how.2 with ⟨rfl,_⟩ | ⟨g,cap,cur,rfl,_,hg,_⟩
  ·exact (Any.Builder_String_nil L X w.heap.size b p w hbk).mono fun e w' h=>hB0 w' e h
  ·by_cases hc0:cap=0
   ·subst hc0
    exact (Any.Builder_String_noroom L X w.heap.size b g p cur w (Nat.le_refl _) hbk hg).mono fun e w' h=>hB0 w' e h
   ·exact (Any.Builder_String_room L X w.heap.size b g cap p w hc0 hbk).mono fun e w' h=>hB0 w' e h
 ·obtain ⟨l,hl2⟩:∃ l,l=(Dp xs).data.toList:=⟨_,rfl⟩
  have h0:l≠[]:=fun e=>by rw [<- hl2,e] at hl; exact h0 (DD.1 hl.symm)
  have hbs:Dp xs=⟨l.toArray⟩:=by rw [hl2]
  rw [hbs]
  rw [hcs,<- hl,<- hl2] at how
  have hl0:l.length≠0:=by simpa using h0
  obtain ⟨g,cap,cur,rfl,hbg,hg,hnc,hcm,hcs2,htake⟩:∃ g cap cur,v=.slice (some ⟨g,0,none⟩) l.length cap/\0<=g/\w.heap[g]? = some (.cells cur (ρ.t 5) (0,0))/\l.length<=cap/\cap<=maxLen/\cur.size=cap*1/\cur.toList.take (l.length*1)=Lib.byteCells l:=by
   rcases how.2 with ⟨_,hz⟩ | ⟨g,cap,cur,hv,r⟩
   ·exact absurd hz hl0
   ·exact ⟨g,cap,cur,hv,r⟩
  clear hl hcs hbs hl2
  have c1:w.drew.cell? ⟨b,1,none⟩=some (.slice (some ⟨g,0,none⟩) l.length cap):=by
   have:w.drew.heap[b]? = some (.cells #[p,.slice (some ⟨g,0,none⟩) l.length cap] (ρ.t 72) (0,0)):=hbk
   rw [Lib.cell_of_heap this]; rfl
  have hSD:(Builtin.unsafeSliceData_ #[(ρ.t 37)] (ρ.t 127) #[.slice (some ⟨g,0,none⟩) l.length cap]).run P w.drew=.ok (.pointer (some ⟨g,0,none⟩)) w.drew :=
   Lib.run_unsafeSliceData_row _ _ _ _ _ _ (by omega)
  have hUS:(Builtin.unsafeString_ #[(ρ.t 127),(ρ.t 3)] (ρ.t 9) #[.pointer (some ⟨g,0,none⟩),.int .i64 l.length]).run P w.drew=.ok (.string ⟨l.toArray⟩) (w.drew.freeze ⟨g,0,none⟩ l.length):=by
   refine Lib.run_unsafeString_row w.drew (ρ.t 127) (ρ.t 3) (ρ.t 9) (ρ.t 5) L.t127 X.cellsByte g cur.size (by have hg':w.drew.heap[g]? = some (.cells cur (ρ.t 5) (0,0)):=hg; simp [World.shape?,hg']) l h0 (by omega) (by unfold maxLen at hcm; omega) ?_
   intro j x hx
   have:=how.cells (g:=g) rfl j (.int .u8 x.toNat) (by simp [Lib.byteCells,hx])
   exact this
  have hgr:w.grownBy (w.drew.freeze ⟨g,0,none⟩ l.length) (some g):=by
   unfold World.freeze
   split
   ·exact ⟨rfl,rfl,rfl,Nat.le_refl _,fun _ _ _=>rfl⟩
   ·refine ⟨rfl,rfl,rfl,by simp,fun k hk hn=>?_⟩
    simp only [Array.getElem?_modify]
    rw [if_neg (fun e=>hn (by rw [<- e]))]
    rfl
  have mixed:=L.mixed
  have t72:=L.t72; have a72:=L.a72; have z72:=L.z72; have v72:=L.v72; have u72:=run_underlying L.t72
  have t70:=L.t70; have a70:=L.a70; have z70:=L.z70; have v70:=L.v70; have u70:=run_underlying L.t70
  have t37:=L.t37; have a37:=L.a37; have z37:=L.z37; have v37:=L.v37; have u37:=run_underlying L.t37
  have t127:=L.t127; have a127:=L.a127; have z127:=L.z127; have v127:=L.v127; have u127:=run_underlying L.t127
  have t3:=L.t3; have a3:=L.a3; have z3:=L.z3; have v3:=L.v3; have u3:=run_underlying L.t3
  have t9:=L.t9; have a9:=L.a9; have z9:=L.z9; have v9:=L.v9; have u9:=run_underlying L.t9
  have t5:=X.t5; have a5:=X.a5; have z5:=X.z5; have v5:=X.v5; have u5:=run_underlying X.t5
  go_enter L.f169,Body.n169_ntmps ρ
  go_wp2
  go_region_o
  all_goals (go_wp2; go_ret; exact ⟨rfl,hgr⟩)
def AF5 (k t T:Nat) (args bs:List AV):Option (List AV) :=
 match args,bs with
 | [.int .i64 a,.int .i64 b,.int .i64 c],[]=>if a=k/\b=t/\c=T then some [] else none
 | _,_=>none
theorem ACh {f k t T k' t' T':Nat} (h:uY P f k t T) (hq:AF5 k t T [.int .i64 k',.int .i64 t',.int .i64 T'] []=some []):uY P f k' t' T':=by
 unfold AF5 at hq
 simp only at hq
 split at hq
 ·rename_i e
  obtain ⟨e1,e2,e3⟩:=e
  have e1:k'=k:=by exact_mod_cast e1
  have e2:t'=t:=by exact_mod_cast e2
  have e3:T'=T:=by exact_mod_cast e3
  rw [e1,e2,e3]
  exact h
 ·cases hq
end Go.Proofs.YtfcgblnlopemkaaGreatDoor.Core
