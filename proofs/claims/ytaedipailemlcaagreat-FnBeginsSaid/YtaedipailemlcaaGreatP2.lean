/- Texts of the proof, packed: part 3. -/
import Derived.Test.YtaedipailemlcaaGreatP1
import Derived.Test.YtaedipailemlcaaGreatProg
import Derived.Shelf.SlLaysE0
import Derived.Shelf.RegionOpenPlain
import Derived.WalkKit
import Derived.Deep.LoopGhost
import Derived.Lib.Walk
import Derived.Lib.SliceRun
import Derived.Shelf.Lays2
import Derived.Lib.JoinLaws
import Derived.Lib.AppendZeros
import Derived.Lib.Overlaps
import Derived.Laws.Externs
import Derived.Laws.IdiomCopy
import Derived.Laws.CopyRow
import Derived.Maps.AppendAt
import Derived.Shelf.Small.Strs
import Derived.Shelf.Spec.SlicesInsert
import Derived.Shelf.SlicesE.DeleteFunc
set_option linter.unusedVariables false
set_option linter.unusedSimpArgs false
namespace Go.Proofs.YtaedipailemlcaaGreat.Core
open Go
def Ev (p:Nat→Prop):Prop:=∃ m,∀ k,m≤k→p k
theorem Ev.mono {p q:Nat→Prop} (h:Ev p) (f:∀ k,p k→q k):Ev q:=h.elim fun m hm=>⟨m,fun k hk=>f k (hm k hk)⟩
theorem Ev.const {p:Prop} (h:p):Ev fun _=>p:=⟨0,fun _ _=>h⟩
theorem Ev.all {p:Nat→Prop} (h:∀ k,p k):Ev p:=⟨0,fun k _=>h k⟩
theorem Ev.and {p q:Nat→Prop} (h:Ev p) (g:Ev q):Ev fun k=>p k∧q k:=by
 obtain ⟨m,hm⟩:=h
 obtain ⟨n,hn⟩:=g
 exact ⟨max m n,fun k hk=>⟨hm k (by omega),hn k (by omega)⟩⟩
noncomputable def Lm {ρ:Type} (u:Nat→Option ρ):Option ρ :=
 @dite _ (∃ r,Ev fun k=>u k=some r) (Classical.propDecidable _) (fun h=>some (Classical.choose h)) (fun _=>none)
theorem dO {ρ:Type} {u:Nat→Option ρ} {r:ρ} (h:Lm u=some r):Ev fun k=>u k=some r:=by
 unfold Lm at h
 split at h
 ·rename_i hx
  cases h
  exact Classical.choose_spec hx
 ·cases h
theorem iL {ρ:Type} {u:Nat→Option ρ} {r:ρ} (h:Ev fun k=>u k=some r):Lm u=some r:=by
 have hx:∃ r,Ev fun k=>u k=some r:=⟨r,h⟩
 unfold Lm
 rw [dif_pos hx]
 obtain ⟨m,hm⟩:=(Classical.choose_spec hx).and h
 obtain ⟨a,b⟩:=hm m (Nat.le_refl _)
 rw [← b,a]
def Conv {ρ:Type} (kn:Nat→St→Option ρ) (kl:St→Option ρ):Prop:=∀ s r,kl s=some r→Ev fun j=>kn j s=some r
theorem Conv.refl {ρ:Type} (kl:St→Option ρ):Conv (fun _=>kl) kl:=fun _ _ h=>.const h
def PN (cal:Nat→Ee) (c:Ee):Prop:=∀ f a b r,c f a b=some r→Ev fun j=>cal j f a b=some r
theorem PN.refl (c:Ee):PN (fun _=>c) c:=fun _ _ _ _ h=>.const h
abbrev Lp (ρ:Type):Type:=((St→Option ρ)→St→Option ρ)→St→Option ρ
def iM {ρ:Type} (F:Nat→(St→Option ρ)→St→Option ρ) (FL:(St→Option ρ)→St→Option ρ):Prop :=
 ∀ (go:Nat→St→Option ρ) (gl:St→Option ρ),Conv go gl→Conv (fun j=>F j (go j)) (FL gl)
def iN {ρ:Type} (lp:Nat→Lp ρ) (ll:Lp ρ):Prop:=∀ (F:Nat→(St→Option ρ)→St→Option ρ) (FL:(St→Option ρ)→St→Option ρ),iM F FL→(∀ j,iM (fun _=>F j) (F j))→Conv (fun j=>lp j (F j)) (ll FL)
noncomputable def Hi {ρ:Type}:Lp ρ:=fun F s=>Lm fun n=>Jn n F s
theorem iO {ρ:Type}:iN (ρ:=ρ) Jn Hi:=by
 intro F FL hF _ s r h
 have h:=dO h
 obtain ⟨m,hm⟩:=h
 have key:∀ n,∀ g:Nat→Nat,(∀ j,n≤g j)→Conv (fun j=>Jn (g j) (F j)) (Jn n FL):=by
  intro n
  induction n with
  | zero=>intro g _ s r h; cases h
  | succ n ih =>
   intro g hg s r h
   refine (hF (fun j=>Jn (g j-1) (F j)) (Jn n FL) (ih (fun j=>g j-1) fun j=>by have:=hg j; omega) s r h).mono fun j hj=>?_
   have e:g j=(g j-1)+1:=by have:=hg j; omega
   show Jn (g j) (F j) s=some r
   rw [e]
   exact hj
 obtain ⟨k,hk⟩:=key m (fun j=>max j m) (fun j=>by omega) s r (hm m (Nat.le_refl _))
 refine ⟨max k m,fun j hj=>?_⟩
 have:=hk j (by omega)
 simp only [show max j m=j by omega] at this
 exact this
theorem dP {ρ:Type} (k:Nat):iN (ρ:=ρ) (fun _=>Jn k) (Jn k):=by
 intro F FL hF _
 induction k with
 | zero=>intro s r h; cases h
 | succ k ih=>exact hF _ _ ih
theorem ZG {ρ:Type} {F:(St→Option ρ)→St→Option ρ} (hF:iM (fun _=>F) F) {s:St} {r:ρ} (h:F (Hi F) s=some r):Hi F s=some r:=by
 obtain ⟨m,hm⟩:=hF (fun j=>Jn j F) (Hi F) (fun s r h=>dO h) s r h
 exact iL ⟨m+1,fun k hk=>by
  cases k with
  | zero=>omega
  | succ k=>exact hm k (by omega)⟩
theorem dQ {ρ:Type}:iN (ρ:=ρ) (fun _=>Hi) Hi:=by
 intro F FL hF hs s r h
 obtain ⟨m,hm⟩:=dO h
 have key:∀ n,Conv (fun j=>Hi (F j)) (Jn n FL):=by
  intro n
  induction n with
  | zero=>intro s r h; cases h
  | succ n ih=>intro s r h; exact (hF _ _ ih s r h).mono fun j hj=>ZG (hs j) hj
 exact key m s r (hm m (Nat.le_refl _))
theorem B_ {α β:Type} {x:Option α} {f:Nat→α→Option β} {g:α→Option β} (h:∀ a r,g a=some r→Ev fun j=>f j a=some r) (r:β) (hx:x.bind g=some r):Ev fun j=>x.bind (f j)=some r:=by
 cases x with
 | none=>cases hx
 | some a=>exact h a r hx
theorem ZH {ρ:Type} {s:St} {v:AV} {K:Kd} {kn:Nat→List K.T→Option ρ} {kl:List K.T→Option ρ} (hk:∀ a r,kl a=some r→Ev fun j=>kn j a=some r) (r:ρ) (h:s.list v K kl=some r):Ev fun j=>s.list v K (kn j)=some r:=by
 unfold St.list at h ⊢
 split at h
 ·exact hk _ _ h
 ·split at h
  ·rename_i e
   simp only [dif_pos e]
   exact hk _ _ h
  ·cases h
 ·split at h
  ·rename_i e0
   split at h
   ·rename_i e
    simp only [e0,dif_pos e]
    exact hk _ _ h
   ·cases h
  ·rename_i e0
   split at h
   ·rename_i e
    simp only [e0,dif_pos e]
    exact hk _ _ h
   ·cases h
  ·rename_i e0
   split at h
   ·rename_i e
    simp only [e0,dif_pos e]
    exact hk _ _ h
   ·cases h
  ·cases h
 ·cases h
theorem gN {ρ:Type} {op:BinOp} {x y:AV} {kn:Nat→AV→Option ρ} {kl:AV→Option ρ} (hk:∀ a r,kl a=some r→Ev fun j=>kn j a=some r) (r:ρ) (h:XD op x y kl=some r):Ev fun j=>XD op x y (kn j)=some r:=by
 have e:∀ k:AV→Option ρ,XD op x y k=(XD op x y some).bind k:=by
  intro k
  unfold XD
  repeat' split
  all_goals rfl
 rw [e] at h
 simp only [e (kn _)]
 exact B_ hk r h
theorem iP {ρ:Type} {op:UnOp} {x:AV} {kn:Nat→AV→Option ρ} {kl:AV→Option ρ} (hk:∀ a r,kl a=some r→Ev fun j=>kn j a=some r) (r:ρ) (h:fh op x kl=some r):Ev fun j=>fh op x (kn j)=some r:=by
 unfold fh at h ⊢
 split at h<;>first | exact hk _ _ h | cases h
theorem dR {α β:Type} {x:Nat→Option α} {xl:Option α} {f:Nat→α→Option β} {g:α→Option β} (hx:∀ a,xl=some a→Ev fun j=>x j=some a) (h:∀ a r,g a=some r→Ev fun j=>f j a=some r) (r:β) (hr:xl.bind g=some r):Ev fun j=>(x j).bind (f j)=some r:=by
 cases xl with
 | none=>cases hr
 | some a=>exact ((hx a rfl).and (h a r hr)).mono fun j hj=>by rw [hj.1]; exact hj.2
theorem kU {ρ:Type} {cal:Nat→Ee} {c:Ee} {d z:Nat} {x:B7} {lo hi:Option B7} {kn:Nat→St→Option ρ} {kl:St→Option ρ} (hk:Conv kn kl) (s:St) (r:ρ) (h:DK c kl s (.sl d z x lo hi)=some r):Ev fun j=>DK (cal j) (kn j) s (.sl d z x lo hi)=some r:=by
 simp only [DK] at h ⊢
 split at h
 ·split at h
  ·rename_i ez
   split at h
   ·split at h
    ·rename_i g1
     split at h
     ·rename_i g2
      split at h
      ·rename_i g3
       simp only [if_pos ez,if_pos g1,if_pos g2,if_pos g3]
       exact hk _ _ h
      ·cases h
     ·cases h
    ·cases h
   ·cases h
  ·cases h
 ·split at h
  ·rename_i ez
   split at h
   ·split at h
    ·rename_i g1
     split at h
     ·rename_i g2
      split at h
      ·rename_i g3
       simp only [if_pos ez,if_pos g1,if_pos g2,if_pos g3]
       exact hk _ _ h
      ·cases h
     ·cases h
    ·cases h
   ·cases h
  ·cases h
 ·cases h
mutual
theorem ZI {ρ:Type} {cal:Nat→Ee} {c:Ee} (hc:PN cal c):∀ (ao:D_) {kn:Nat→St→Option ρ} {kl:St→Option ρ},Conv kn kl→∀ s r,DK c kl s ao=some r→Ev fun j=>DK (cal j) (kn j) s ao=some r
 | .mv d x,kn,kl,hk,s,r,h=>hk _ _ h
 | .nilrow d t K,kn,kl,hk,s,r,h=>hk _ _ h
 | .pick d c a b,kn,kl,hk,s,r,h=>by
  simp only [DK] at h ⊢
  split at h
  ·split at h<;>rename_i e<;>simp only [e,if_true,if_false,Bool.false_eq_true]<;>exact hk _ _ h
  ·cases h
 | .sc c want ops d a b,kn,kl,hk,s,r,h=>by
  simp only [DK] at h ⊢
  split at h
  ·split at h
   ·rename_i e
    simp only [e,if_true]
    exact b_ hc ops (kn:=fun j s'=>kn j (s'.put d (if want then s'.opd a else s'.opd b))) (kl:=fun s'=>kl (s'.put d (if want then s'.opd a else s'.opd b))) (fun s r h=>hk _ _ h) s r h
   ·rename_i e
    simp only [if_neg e]
    exact hk _ _ h
  ·cases h
 | .alloc d cs,kn,kl,hk,s,r,h=>hk _ _ h
 | .box d x own,kn,kl,hk,s,r,h=>by
  simp only [DK] at h ⊢
  exact B_ (fun a r h=>hk _ _ h) r h
 | .build d zero parts,kn,kl,hk,s,r,h=>by
  simp only [DK] at h ⊢
  exact B_ (fun a r h=>hk _ _ h) r h
 | .bnew d zero parts,kn,kl,hk,s,r,h=>by
  simp only [DK] at h ⊢
  exact B_ (fun a r h=>hk _ _ h) r h
 | .brow d t K parts,kn,kl,hk,s,r,h=>by
  simp only [DK] at h ⊢
  exact B_ (fun a r h=>B_ (fun a r h=>hk _ _ h) r h) r h
 | .blst d K parts,kn,kl,hk,s,r,h=>by
  simp only [DK] at h ⊢
  exact B_ (fun a r h=>B_ (fun a r h=>hk _ _ h) r h) r h
 | .load d x n,kn,kl,hk,s,r,h=>by
  simp only [DK] at h ⊢
  refine B_ (fun a r h=>?_) r h
  split at h
  ·rename_i e
   simp only [if_pos e]
   exact hk _ _ h
  ·cases h
 | .store x y m own,kn,kl,hk,s,r,h=>by
  simp only [DK] at h ⊢
  split at h
  ·rename_i e
   simp only [if_pos e]
   exact B_ (fun a r h=>hk _ _ h) r h
  ·cases h
 | .nilc d x,kn,kl,hk,s,r,h=>by
  simp only [DK] at h ⊢
  split at h<;>first | exact hk _ _ h | cases h
 | .bin d op x y,kn,kl,hk,s,r,h=>by
  simp only [DK] at h ⊢
  exact gN (fun a r h=>hk _ _ h) r h
 | .eqs d neg K x y,kn,kl,hk,s,r,h=>by
  simp only [DK] at h ⊢
  exact B_ (fun a r h=>B_ (fun a r h=>hk _ _ h) r h) r h
 | .un d op x,kn,kl,hk,s,r,h=>by
  simp only [DK] at h ⊢
  exact iP (fun a r h=>hk _ _ h) r h
 | .cvi d k x,kn,kl,hk,s,r,h=>by
  simp only [DK] at h ⊢
  split at h<;>first | exact hk _ _ h | cases h
 | .bts d x,kn,kl,hk,s,r,h=>by
  simp only [DK] at h ⊢
  exact ZH (fun a r h=>hk _ _ h) r h
 | .fld d x off,kn,kl,hk,s,r,h=>by
  simp only [DK] at h ⊢
  split at h<;>first | exact hk _ _ h | cases h
 | .field d x off n,kn,kl,hk,s,r,h=>by
  simp only [DK] at h ⊢
  split at h
  ·split at h
   ·rename_i e
    simp only [if_pos e]
    exact hk _ _ h
   ·cases h
  ·cases h
 | .idx d z x i,kn,kl,hk,s,r,h=>by
  have e:∀ k:St→Option ρ,DK (cal 0) k s (.idx d z x i)=(DK (cal 0) some s (.idx d z x i)).bind k:=by
   intro k
   simp only [DK]
   repeat' split
   all_goals rfl
  have e2:∀ k:St→Option ρ,∀ c:Ee,DK c k s (.idx d z x i)=DK (cal 0) k s (.idx d z x i):=fun k c=>by simp only [DK]
  rw [e2,e] at h
  simp only [e2 (kn _),e (kn _)]
  exact B_ (fun a r h=>hk _ _ h) r h
 | .sidx d x i,kn,kl,hk,s,r,h=>by
  have e:∀ k:St→Option ρ,DK (cal 0) k s (.sidx d x i)=(DK (cal 0) some s (.sidx d x i)).bind k:=by
   intro k
   simp only [DK]
   repeat' split
   all_goals rfl
  have e2:∀ k:St→Option ρ,∀ c:Ee,DK c k s (.sidx d x i)=DK (cal 0) k s (.sidx d x i):=fun k c=>by simp only [DK]
  rw [e2,e] at h
  simp only [e2 (kn _),e (kn _)]
  exact B_ (fun a r h=>hk _ _ h) r h
 | .sl d z x lo hi,kn,kl,hk,s,r,h=>kU hk s r h
 | .mk d t K n,kn,kl,hk,s,r,h=>by
  have e:∀ k:St→Option ρ,DK (cal 0) k s (.mk d t K n)=(DK (cal 0) some s (.mk d t K n)).bind k:=by
   intro k
   simp only [DK]
   repeat' split
   all_goals rfl
  have e2:∀ k:St→Option ρ,∀ c:Ee,DK c k s (.mk d t K n)=DK (cal 0) k s (.mk d t K n):=fun k c=>by simp only [DK]
  rw [e2,e] at h
  simp only [e2 (kn _),e (kn _)]
  exact B_ (fun a r h=>hk _ _ h) r h
 | .fn d f caps,kn,kl,hk,s,r,h=>hk _ _ h
 | .clo d f K x,kn,kl,hk,s,r,h=>by
  simp only [DK] at h ⊢
  split at h
  ·exact B_ (fun a r h=>hk _ _ h) r h
  ·cases h
 | .fbox d x,kn,kl,hk,s,r,h=>by
  simp only [DK] at h ⊢
  exact B_ (fun a r h=>hk _ _ h) r h
 | .min d x y,kn,kl,hk,s,r,h=>by
  simp only [DK] at h ⊢
  split at h
  ·split at h
   ·rename_i e
    simp only [if_pos e]
    exact hk _ _ h
   ·cases h
  ·cases h
 | .app d e K a b,kn,kl,hk,s,r,h=>by
  simp only [DK] at h ⊢
  split at h
  ·split at h
   ·rename_i e1
    split at h
    ·rename_i e2
     split at h
     ·rename_i e3
      simp only [e1,dif_pos e2,if_pos e3]
      refine ZH (fun a r h=>?_) r h
      split at h
      ·rename_i e4
       simp only [if_pos e4]
       exact hk _ _ h
      ·cases h
     ·cases h
    ·cases h
   ·cases h
  ·cases h
 | .apz d e K a b,kn,kl,hk,s,r,h=>by
  simp only [DK] at h ⊢
  split at h
  ·split at h
   ·rename_i e1
    split at h
    ·rename_i e2
     split at h
     ·rename_i e3
      simp only [e1,dif_pos e2,if_pos e3]
      refine ZH (fun a r h=>?_) r h
      split at h
      ·rename_i e4
       simp only [if_pos e4]
       exact hk _ _ h
      ·cases h
     ·cases h
    ·cases h
   ·cases h
  ·cases h
 | .len d t x,kn,kl,hk,s,r,h=>by
  have e:∀ k:St→Option ρ,DK (cal 0) k s (.len d t x)=(DK (cal 0) some s (.len d t x)).bind k:=by
   intro k
   simp only [DK]
   repeat' split
   all_goals rfl
  have e2:∀ k:St→Option ρ,∀ c:Ee,DK c k s (.len d t x)=DK (cal 0) k s (.len d t x):=fun k c=>by simp only [DK]
  rw [e2,e] at h
  simp only [e2 (kn _),e (kn _)]
  exact B_ (fun a r h=>hk _ _ h) r h
 | .call d f args res,kn,kl,hk,s,r,h=>by
  simp only [DK] at h ⊢
  refine B_ (fun q r h=>B_ (fun bx r h=>?_) r h) r h
  split at h
  ·rename_i e
   simp only [if_pos e]
   refine dR (fun a ha=>?_) (fun y r h=>?_) r h
   ·exact dR (f:=fun _=>CE _) (g:=CE _) (fun a ha=>hc _ _ _ _ ha) (fun y r h=>.const h) a ha
   ·split at h
    ·rename_i e
     simp only [if_pos e]
     exact hk _ _ h
    ·cases h
  ·cases h
 | .ext d x i,kn,kl,hk,s,r,h=>by
  simp only [DK] at h ⊢
  split at h
  ·split at h
   ·rename_i e
    simp only [if_pos e]
    exact hk _ _ h
   ·cases h
  ·cases h
theorem b_ {ρ:Type} {cal:Nat→Ee} {c:Ee} (hc:PN cal c):∀ (aos:List D_) {kn:Nat→St→Option ρ} {kl:St→Option ρ},Conv kn kl→∀ s r,Vp c kl s aos=some r→Ev fun j=>Vp (cal j) (kn j) s aos=some r
 | [],kn,kl,hk,s,r,h=>by simp only [Vp] at h ⊢; exact hk _ _ h
 | o::os,kn,kl,hk,s,r,h=>by
  simp only [Vp] at h ⊢
  exact ZI hc o (fun s r h=>b_ hc os hk s r h) s r h
end
theorem RG {ρ:Type} {cal:Nat→Ee} {c:Ee} (hc:PN cal c) (anc:List (List Nat)) {kn:Nat→St→Option ρ} {kl:St→Option ρ} (hk:Conv kn kl):∀ (t:DT) (T:List (Nat×Nat)) s r,dK c anc kl t T s=some r→Ev fun j=>dK (cal j) anc (kn j) t T s=some r
 | .done,T,s,r,h=>hk _ _ h
 | .take i g ao d,T,s,r,h=>by
  simp only [dK] at h ⊢
  split at h
  ·rename_i e
   simp only [if_pos e]
   exact ZI hc ao (fun s r h=>RG hc anc hk d _ s r h) s r h
  ·cases h
 | .skip i g d t,T,s,r,h=>by
  simp only [dK] at h ⊢
  split at h
  ·rename_i e
   simp only [if_pos e]
   exact RG hc anc hk t _ _ r h
  ·cases h
 | .only i g ao e fl d,T,s,r,h=>by
  simp only [dK] at h ⊢
  split at h
  ·rename_i e
   simp only [if_pos e]
   exact ZI hc ao (fun s r h=>RG hc anc hk d _ s r h) s r h
  ·cases h
 | .test c a b,T,s,r,h=>by
  simp only [dK] at h ⊢
  split at h
  ·split at h
   ·rename_i e
    simp only [if_pos e]
    exact RG hc anc hk a _ _ r h
   ·rename_i e
    simp only [if_neg e]
    exact RG hc anc hk b _ _ r h
  ·cases h
 | .fork i ai ri j aj rj,T,s,r,h=>by
  simp only [dK] at h ⊢
  obtain ⟨ha,hb⟩:=Vq.1 h
  have ea:Ev fun n=>(if (FY ai.dsts T&&O7 (anc.getD i []) (ai.touch s) s T)=true then DK (cal n) (fun s'=>dK (cal n) anc (kn n) ri (E8 (anc.getD i []) T) s') s ai else none)=some r:=by
   split at ha
   ·rename_i e
    simp only [if_pos e]
    exact ZI hc ai (fun s r h=>RG hc anc hk ri _ s r h) s r ha
   ·cases ha
  have eb:Ev fun n=>(if (FY aj.dsts T&&O7 (anc.getD j []) (aj.touch s) s T)=true then DK (cal n) (fun s'=>dK (cal n) anc (kn n) rj (E8 (anc.getD j []) T) s') s aj else none)=some r:=by
   split at hb
   ·rename_i e
    simp only [if_pos e]
    exact ZI hc aj (fun s r h=>RG hc anc hk rj _ s r h) s r hb
   ·cases hb
  exact (ea.and eb).mono fun n h=>Vq.2 h
noncomputable def Ej {ρ:Type} (cal:Ee) (lp:Lp ρ):AI→(kn kr:St→Option ρ)→(ke:Nat→St→Option ρ)→St→Option ρ
 | .skip,kn,_,_,s=>kn s
 | .region ops live,kn,_,_,s=>Vp cal (fun s'=>kn ⟨live.map fun t=>(t,D5 s'.fr t),s'.st⟩) s ops
 | .draw anc t live,kn,_,_,s=>dK cal anc (fun s'=>kn ⟨live.map fun t=>(t,D5 s'.fr t),s'.st⟩) t [] s
 | .seqc live a b,kn,kr,ke,s=>Ej cal lp a (fun s'=>Ej cal lp b kn kr ke (s'.cutH (CV s live) live s.st.length)) kr ke s
 | .seq a b,kn,kr,ke,s=>Ej cal lp a (fun s'=>Ej cal lp b kn kr ke s') kr ke s
 | .cond c a b,kn,kr,ke,s=>match s.opd c with
  | .bool t=>if t=true then Ej cal lp a kn kr ke s else Ej cal lp b kn kr ke s
  | _=>none
 | .block id live body,kn,kr,ke,s=>Ej cal lp body (fun s'=>kn (s'.cutH (CV s live) live s.st.length)) kr (fun i s'=>if i=id then kn (s'.cutH (CV s live) live s.st.length) else ke i s') s
 | .loop live body,_,kr,ke,s=>lp (fun go s'=>Ej cal lp body (fun s''=>go (s''.cutH (CV s live) live s.st.length)) kr ke s') (s.cut live s.st.length)
 | .exit id,_,_,ke,s=>ke id s
 | .ret,_,kr,_,s=>kr s
theorem Ky {ρ:Type} (cal:Ee) (k:Nat):∀ (a:AI) (kn kr:St→Option ρ) (ke:Nat→St→Option ρ) (s:St),E4 cal k a kn kr ke s=Ej cal (Jn k) a kn kr ke s
 | .skip,_,_,_,_=>rfl
 | .region ..,_,_,_,_=>rfl
 | .draw ..,_,_,_,_=>rfl
 | .seqc live a b,kn,kr,ke,s=>by simp only [E4,Ej,Ky cal k a,Ky cal k b]
 | .seq a b,kn,kr,ke,s=>by simp only [E4,Ej,Ky cal k a,Ky cal k b]
 | .cond c a b,kn,kr,ke,s=>by
  simp only [E4,Ej,Ky cal k a,Ky cal k b]
  cases s.opd c<;>rfl
 | .block id live a,kn,kr,ke,s=>by simp only [E4,Ej,Ky cal k a]
 | .loop live a,kn,kr,ke,s=>by simp only [E4,Ej,Ky cal k a]
 | .exit _,_,_,_,_=>rfl
 | .ret,_,_,_,_=>rfl
theorem F7 {ρ:Type}:∀ (a:AI) {cal:Nat→Ee} {c:Ee} {lp:Nat→Lp ρ} {ll:Lp ρ} {kn kr:Nat→St→Option ρ} {kl krl:St→Option ρ} {ke:Nat→Nat→St→Option ρ} {kel:Nat→St→Option ρ},PN cal c→iN lp ll→(∀ j,iN (fun _=>lp j) (lp j)) →
  Conv kn kl→Conv kr krl→(∀ i,Conv (fun j=>ke j i) (kel i))→Conv (fun j=>Ej (cal j) (lp j) a (kn j) (kr j) (ke j)) (Ej c ll a kl krl kel)
 | .skip,_,_,_,_,_,_,_,_,_,_,hc,hl,hl',hk,hr,he=>hk
 | .region ops live,_,_,_,_,_,_,_,_,_,_,hc,hl,hl',hk,hr,he=>fun s r h=>b_ hc ops (fun s r h=>hk _ r h) s r h
 | .draw anc t live,_,_,_,_,_,_,_,_,_,_,hc,hl,hl',hk,hr,he=>fun s r h=>RG hc anc (fun s r h=>hk _ r h) t [] s r h
 | .seqc live a b,_,_,_,_,_,_,_,_,_,_,hc,hl,hl',hk,hr,he=>fun s r h=>F7 a hc hl hl' (fun s' r h=>F7 b hc hl hl' hk hr he _ r h) hr he s r h
 | .seq a b,_,_,_,_,_,_,_,_,_,_,hc,hl,hl',hk,hr,he=>fun s r h=>F7 a hc hl hl' (fun s' r h=>F7 b hc hl hl' hk hr he _ r h) hr he s r h
 | .cond c a b,_,_,_,_,_,_,_,_,_,_,hc,hl,hl',hk,hr,he=>fun s r h=>by
  simp only [Ej] at h ⊢
  split at h
  ·split at h
   ·rename_i e
    simp only [if_pos e]
    exact F7 a hc hl hl' hk hr he s r h
   ·rename_i e
    simp only [if_neg e]
    exact F7 b hc hl hl' hk hr he s r h
  ·cases h
 | .block id live a,_,_,_,_,_,_,_,_,_,_,hc,hl,hl',hk,hr,he=>fun s r h=>by
  simp only [Ej] at h ⊢
  refine F7 a hc hl hl' (fun s r h=>hk _ r h) hr (fun i s' r h=>?_) s r h
  split at h
  ·rename_i e
   simp only [if_pos e]
   exact hk _ r h
  ·rename_i e
   simp only [if_neg e]
   exact he i _ r h
 | .loop live a,cal,c,lp,ll,kn,kr,kl,krl,ke,kel,hc,hl,hl',hk,hr,he=>fun s r h=>by
  simp only [Ej] at h ⊢
  refine hl _ _ (fun go gl hgo s' r h=>?_) (fun j go gl hgo s' r h=>?_) _ r h
  ·exact F7 a hc hl hl' (fun s r h=>hgo _ r h) hr he s' r h
  ·exact F7 (cal:=fun _=>cal j) (lp:=fun _=>lp j) (kn:=fun i s'=>go i (s'.cutH (CV s live) live s.st.length)) (kl:=fun s'=>gl (s'.cutH (CV s live) live s.st.length)) (kr:=fun _=>kr j) (krl:=kr j) (ke:=fun _=>ke j) (kel:=ke j) a (PN.refl _) (hl' j) (fun _=>hl' j) (fun s r h=>hgo _ r h) (Conv.refl _) (fun i=>Conv.refl _) s' r h
 | .exit id,_,_,_,_,_,_,_,_,_,_,hc,hl,hl',hk,hr,he=>fun s r h=>he id s r h
 | .ret,_,_,_,_,_,_,_,_,_,_,hc,hl,hl',hk,hr,he=>hr
theorem gO {ρ:Type} {cal:Ee} {a:AI} {hs:List (Nat×Nat)} {live:List Nat} {n:Nat} {kr:St→Option ρ} {ke:Nat→St→Option ρ} {s:St} {r:ρ}
  (h:Ej cal Hi a (fun s''=>Hi (fun go s'=>Ej cal Hi a (fun s''=>go (s''.cutH hs live n)) kr ke s') (s''.cutH hs live n)) kr ke s=some r) :
  Hi (fun go s'=>Ej cal Hi a (fun s''=>go (s''.cutH hs live n)) kr ke s') s=some r :=
 ZG (F:=fun go s'=>Ej cal Hi a (fun s''=>go (s''.cutH hs live n)) kr ke s') (fun go gl hgo s' r h=>F7 (cal:=fun _=>cal) (lp:=fun _=>Hi) (kn:=fun i s'=>go i (s'.cutH hs live n)) (kl:=fun s'=>gl (s'.cutH hs live n)) (kr:=fun _=>kr) (krl:=kr) (ke:=fun _=>ke) (kel:=ke) a (PN.refl _) dQ (fun _=>dQ) (fun s r h=>hgo _ r h) (Conv.refl _) (fun i=>Conv.refl _) s' r h) h
noncomputable def iQ (cal:Ee) (fn:Bi) (args bs:List AV):Option (RT fn.outs) :=
 Ej cal Hi fn.body (AH fn) (AH fn) (fun _ _=>none) ⟨Kw 0 (CF (Dl bs) args),Ay bs args⟩
noncomputable def cA (Sh:Nat→Option Bi) (EM:Ee):Ee:=fun f a b=>Lm fun k=>XF Sh EM k f a b
theorem SV {Sh:Nat→Option Bi} {EM:Ee} {f:Nat} {args bs r:List AV} (hf:Sh f=none) (h:EM f args bs=some r):cA Sh EM f args bs=some r:=by
 refine iL ⟨1,fun k hk=>?_⟩
 cases k with
 | zero=>omega
 | succ k=>simp only [XF,hf,h]
theorem gP {Sh:Nat→Option Bi} {EM:Ee} {f:Nat} {fn:Bi} {args bs:List AV} {r:RT fn.outs} (hf:Sh f=some fn) (hl:args.length=fn.params.length∧bs.length=(Cq fn.params 0).length)
  (h:iQ (cA Sh EM) fn args bs=some r):cA Sh EM f args bs=some (CT fn.outs r):=by
 have hc:PN (fun k=>XF Sh EM k) (cA Sh EM):=fun f a b r h=>dO h
 obtain ⟨m,hm⟩:=F7 (lp:=Jn) (ll:=Hi) fn.body (kn:=fun _=>AH fn) (kr:=fun _=>AH fn) (ke:=fun _ _ _=>none) hc iO dP (Conv.refl _) (Conv.refl _) (fun i=>Conv.refl _) _ r h
 refine iL ⟨m+1,fun k hk=>?_⟩
 cases k with
 | zero=>omega
 | succ k =>
  simp only [XF,hf,if_pos hl]
  have:=hm k (by omega)
  simp only [← Ky] at this
  unfold ed
  rw [this]
  rfl
theorem MJ:∀ (K:Kd) (x:K.T) (r:List AV),K.dec (K.enc x++r)=some (x,r)
 | .int k,x,r=>by simp [Kd.enc,Kd.dec]
 | .bool,x,r=>rfl
 | .str,x,r=>rfl
 | .slice e,x,r=>by simp [Kd.enc,Kd.dec]
 | .pair a b,x,r=>by simp [Kd.enc,Kd.dec,List.append_assoc,MJ a,MJ b]
 | .own t e,x,r=>by simp [Kd.enc,Kd.dec]
 | .ref K,x,r=>by
  have:=MJ K x []
  rw [List.append_nil] at this
  simp [Kd.enc,Kd.dec,this]
 | .fun f,x,r=>by simp [Kd.enc,Kd.dec]
 | .clo f K,x,r=>by simp [Kd.enc,Kd.dec]
theorem ZJ (K:Kd) (x:K.T):K.of (K.av x)=some x:=by
 have h:K.ofCells (K.enc x)=some x:=by
  have:=MJ K x []
  rw [List.append_nil] at this
  simp [Kd.ofCells,this]
 unfold Kd.of
 cases K<;>exact h
theorem ZK:∀ (Ks:List Kd) (x:RT Ks),CE Ks (CT Ks x)=some x
 | [],_=>rfl
 | [K],x=>ZJ K x
 | K::L::Ks,x=>by
  simp only [CT,CE,ZJ,Option.bind_some]
  rw [ZK (L::Ks) x.2]
  rfl
theorem eI {Sh:Nat→Option Bi} {EM:Ee} {f:Nat} {fn:Bi} {args bs:List AV} {r:RT fn.outs} (hf:Sh f=some fn) (hl:args.length=fn.params.length∧bs.length=(Cq fn.params 0).length)
  (h:iQ (cA Sh EM) fn args bs=some r):(cA Sh EM f args bs).bind (CE fn.outs)=some r:=by
 rw [gP hf hl h,Option.bind_some,ZK]
theorem iR {P:Program} {Sh:Nat→Option Bi} {EM:Ee} (ht:iI P Sh) (hp:Gf P EM) {f:Nat} {args:List AV} (h:(cA Sh EM f args []).bind (CE [.bool])=some true) {W:World} {cargs:List Value}
  (ha:AX (VE (Su W)) args cargs):Calls P f cargs.toArray W fun e W'=>e=.returned (.bool true)∧RowKit.Below W.heap.size W W':=by
 cases hq:cA Sh EM f args [] with
 | none=>rw [hq] at h; cases h
 | some v =>
  rw [hq,Option.bind_some] at h
  obtain ⟨m,hm⟩:=dO hq
  have hm:=hm m (Nat.le_refl _)
  have e:v=[.bool true]:=by
   match v,h with
   | [a],h =>
    have h:Kd.of .bool a=some true:=h
    unfold Kd.of Kd.ofCells at h
    cases a<;>simp [AV.cells,Kd.dec,AV.fits] at h<;>first | rw [h] | skip
  subst e
  exact gM ht hp hm ha
def je (f:Nat):List (Nat×Bi)→Option Bi
 | []=>none
 | (g,a)::r=>if g=f then some a else je f r
inductive fK (P:Program):List (Nat×Bi)→Prop where
 | nil:fK P []
 | cons {f:Nat} {a:Bi} {r:List (Nat×Bi)} (h:BT P f a=true) (t:fK P r):fK P ((f,a)::r)
theorem gQ {P:Program} {tab:List (Nat×Bi)} (h:fK P tab):iI P fun f=>je f tab:=by
 intro f a hf
 induction h with
 | nil=>cases hf
 | cons h _ ih =>
  simp only [je] at hf
  split at hf
  ·rename_i e
   cases hf
   rw [← e]
   exact h
  ·exact ih hf
end Go.Proofs.YtaedipailemlcaaGreat.Core

namespace Go.Proofs.YtaedipailemlcaaGreat.Core
open Go IntKind
set_option linter.unusedVariables false
set_option maxRecDepth 100000
noncomputable section
abbrev Z:Kd:=(.pair .str (.pair .str (.int .i64)))
abbrev X:Type:=ByteArray×ByteArray×Int
abbrev JI:Kd:=(.pair (.int .i64) (.pair (.int .i64) (.pair (.int .i64) (.pair Z (.slice (.int .i64))))))
abbrev cB:Type:=Int×Int×Int×X×List Int
abbrev U:Kd:=(.pair (.int .i64) (.pair (.int .i64) (.pair .bool (.pair .bool (.pair .bool (.pair .bool (.pair (.slice (.int .i64)) (.pair (.slice Z) (.pair (.int .i64) JI)))))))))
abbrev O:Type:=Int×Int×Bool×Bool×Bool×Bool×List Int×List X×Int×Int×Int×Int×X×List Int
abbrev AK:Kd:=(.pair (.int .i64) (.pair (.int .i64) (.pair (.int .i64) (.pair (.int .i64) (.pair (.int .i64) (.slice Z))))))
abbrev Y:Type:=Int×Int×Int×Int×Int×List X
abbrev Aq:Kd:=(.pair (.int .i64) (.pair (.int .i64) (.pair (.int .i64) Z)))
abbrev AB:Type:=Int×Int×Int×ByteArray×ByteArray×Int
abbrev Ek:Kd:=(.pair (.int .i64) (.pair .str (.pair .str (.pair (.int .i64) (.pair (.int .i64) (.pair (.int .i64) (.pair (.int .i64) (.pair (.int .i64) .str))))))))
abbrev Bd:Type:=Int×ByteArray×ByteArray×Int×Int×Int×Int×Int×ByteArray
abbrev AS:Kd:=(.pair (.slice (.slice (.int .i64))) (.pair (.slice U) (.pair (.slice AK) (.slice Ek))))
abbrev AG:Type:=List (List Int)×List O×List Y×List Bd
abbrev Aa:Kd:=(.pair (.slice (.int .u8)) (.pair (.int .i64) (.int .i64)))
abbrev AD:Type:=List Int×Int×Int
abbrev Aj:Kd:=(.pair (.int .i64) (.pair (.int .i64) (.pair (.int .i64) (.pair (.int .i64) (.pair .str .str)))))
abbrev AW:Type:=Int×Int×Int×Int×ByteArray×ByteArray
abbrev TM:Kd:=(.pair (.slice (.slice (.int .i64))) (.slice Aj))
abbrev PO:Type:=List (List Int)×List AW
abbrev E5:Kd:=(.pair (.slice (.slice (.int .i64))) (.pair (.own 31 U) (.pair (.slice AK) (.slice Ek))))
abbrev eJ:Kd:=(.pair (.int .i64) (.pair (.int .i64) (.pair (.int .i64) (.pair Z (.own 3 (.int .i64))))))
abbrev PP:Kd:=(.pair (.int .i64) (.pair (.int .i64) (.pair .bool (.pair .bool (.pair .bool (.pair .bool (.pair (.own 3 (.int .i64)) (.pair (.own 27 Z) (.pair (.int .i64) eJ)))))))))
abbrev RH:Kd:=(.pair (.slice (.slice (.int .i64))) (.own 113 Aj))
def eK:Nat×List PK×List Kd:=(6,[.bor (.slice (.int .u8))],[.bool])
def ZL:Nat×List PK×List Kd:=(9,[.val U,.val (.slice (.slice (.int .i64))),.val AK],[U,(.slice AK),(.slice Aq)])
def Pl:Nat×List PK×List Kd:=(10,[.bor U],[.bool])
def cC:Nat×List PK×List Kd:=(11,[.bor AK],[.bool])
def Nb:Nat×List PK×List Kd:=(12,[.bor (.slice Z),.val .str],[Z])
def gR:Nat×List PK×List Kd:=(14,[.bor (.slice (.int .i64)),.val (.int .i64)],[.bool])
def UQ:Nat×List PK×List Kd:=(16,[.val U,.val (.slice (.slice (.int .i64))),.val (.int .i64),.val (.int .i64),.val .str,.val .str],[U,(.slice AK),(.slice Aq),.bool])
def TN:Nat×List PK×List Kd:=(17,[.val (.slice (.int .u8))],[U,(.slice (.slice (.int .i64)))])
def UR:Nat×List PK×List Kd:=(18,[.val U,.val (.slice (.slice (.int .i64))),.val (.int .i64),.val (.int .i64),.val .str,.val .str],[U,(.slice AK),(.slice Aq),.bool])
def aV:Nat×List PK×List Kd:=(19,[.val (.slice (.int .u8))],[(.ref Aa)])
def Xk:Nat×List PK×List Kd:=(20,[.ptr Aa,.val (.slice (.int .u8))],[AS])
def CQ:Nat×List PK×List Kd:=(21,[.ptr Aa,.val (.int .i64)],[(.int .i64)])
def Ab:Nat×List PK×List Kd:=(23,[.val (.int .i64),.val (.int .i64),.val (.int .i64)],[.bool])
def US:Nat×List PK×List Kd:=(24,[.val U],[U])
def ZM:Nat×List PK×List Kd:=(25,[.bor (.slice (.slice (.int .i64)))],[.bool])
def El:Nat×List PK×List Kd:=(28,[.val U],[U])
def KI:Nat×List PK×List Kd:=(29,[.bor U],[.bool])
def F8:Nat×List PK×List Kd:=(30,[.bor (.slice (.slice (.int .i64)))],[.bool])
def aW:Nat×List PK×List Kd:=(31,[.val U,.val (.slice (.int .i64)),.val AK],[U,(.slice AK),(.slice Aq)])
def EJ:Nat×List PK×List Kd:=(32,[.bor (.slice (.int .i64)),.val (.int .i64)],[.bool])
def RI:Nat×List PK×List Kd:=(33,[.val U,.val (.int .i64)],[U])
def G1:Nat×List PK×List Kd:=(34,[.val U,.val AK,.val (.int .i64)],[(.slice AK)])
def Sv:Nat×List PK×List Kd:=(35,[.val (.int .i64)],[.bool])
def BM:Nat×List PK×List Kd:=(36,[.val (.int .i64),.val (.int .i64),.val (.int .i64)],[.bool])
def LO:Nat×List PK×List Kd:=(37,[.bor (.slice (.int .i64)),.val (.int .i64),.val (.int .i64)],[.bool])
def LP:Nat×List PK×List Kd:=(38,[.bor (.slice Z)],[.bool])
def RJ:Nat×List PK×List Kd:=(39,[.ptr U],[.bool])
def IC:Nat×List PK×List Kd:=(40,[.bor (.slice Z)],[.bool])
def PQ:Nat×List PK×List Kd:=(41,[.ptr U,.val (.slice (.slice (.int .i64)))],[.bool])
def cD:Nat×List PK×List Kd:=(42,[.val (.int .i64),.val (.int .i64),.val .str,.val .str],[.bool])
def RK:Nat×List PK×List Kd:=(43,[.ptr U,.val (.slice (.int .i64))],[(.slice (.int .i64))])
def FA:Nat×List PK×List Kd:=(44,[.bor (.slice (.int .i64))],[(.own 3 (.int .i64))])
def Qt:Nat×List PK×List Kd:=(45,[.mut (.own 3 (.int .i64))],[])
def TO:Nat×List PK×List Kd:=(46,[.ptr U],[(.slice Aq)])
def I3:Nat×List PK×List Kd:=(47,[.ptr U,.val (.slice (.int .i64)),.val AK],[(.slice AK)])
def F9:Nat×List PK×List Kd:=(48,[.ptr Aa,.val (.int .i64)],[.bool])
def Nz:Nat×List PK×List Kd:=(49,[.val (.int .i64),.val (.slice (.slice (.int .i64)))],[U,.bool])
def Sw:Nat×List PK×List Kd:=(50,[.bor (.slice Z),.val .str],[Z])
def LQ:Nat×List PK×List Kd:=(51,[.bor (.slice Z),.val Z],[(.own 27 Z)])
def N0:Nat×List PK×List Kd:=(52,[.val (.slice (.int .i64)),.val (.int .i64)],[(.slice (.int .i64))])
def N1:Nat×List PK×List Kd:=(53,[.ptr U],[(.slice Aq)])
def ZN:Nat×List PK×List Kd:=(54,[.ptr Aa,.val (.slice (.int .u8))],[TM])
def Xl:Nat×List PK×List Kd:=(55,[.val (.slice (.slice (.int .i64))),.val (.slice Aj)],[AS,(.slice (.int .i64)),.bool])
def F_:Nat×List PK×List Kd:=(56,[.ptr Aa],[(.int .i64)])
def BX:Nat×List PK×List Kd:=(58,[.bor (.slice Z)],[(.own 27 Z)])
def PR:Nat×List PK×List Kd:=(59,[.bor (.slice (.int .i64)),.val (.int .i64)],[(.int .i64)])
def Sx:Nat×List PK×List Kd:=(66,[.bor (.slice (.int .i64))],[.bool])
def WB:Nat×List PK×List Kd:=(67,[.bor JI],[.bool])
def ZO:Nat×List PK×List Kd:=(68,[.bor (.slice (.int .i64))],[.bool])
def Sy:Nat×List PK×List Kd:=(69,[.ptr U,.val (.slice (.int .i64)),.val (.slice Z)],[(.slice AK)])
def MK:Nat×List PK×List Kd:=(70,[.val (.slice (.int .i64)),.val (.int .i64)],[(.slice (.int .i64))])
def UT:Nat×List PK×List Kd:=(71,[.val .str],[.bool])
def DM:Nat×List PK×List Kd:=(72,[.mut (.own 3 (.int .i64)),.val (.int .i64),.val (.int .i64),.val (.int .i64)],[])
def Xm:Nat×List PK×List Kd:=(73,[.val (.int .u64)],[(.int .i64)])
def ZP:Nat×List PK×List Kd:=(74,[.bor (.slice Z),.val Z],[(.own 27 Z)])
def ZQ:Nat×List PK×List Kd:=(75,[.val AK],[AK])
def Xn:Nat×List PK×List Kd:=(76,[.ptr Aa],[(.slice (.slice (.int .i64)))])
def Pm:Nat×List PK×List Kd:=(77,[.val (.slice (.slice (.int .i64)))],[AS,.bool])
def ZR:Nat×List PK×List Kd:=(78,[.ptr Aa,.ptr AS],[Aj])
def UU:Nat×List PK×List Kd:=(79,[.ptr AS,.val (.int .i64),.val Aj],[(.int .i64)])
def ZS:Nat×List PK×List Kd:=(80,[.val Aj],[.bool])
def ZT:Nat×List PK×List Kd:=(81,[.val AS],[AS])
def ML:Nat×List PK×List Kd:=(83,[.ptr Aa,.val (.slice (.int .i64))],[(.int .i64)])
def Hr:Nat×List PK×List Kd:=(89,[.mut (.own 3 (.int .i64)),.val (.int .i64),.val (.int .i64)],[])
def KJ:Nat×List PK×List Kd:=(90,[.mut (.own 3 (.int .i64)),.val (.int .i64),.val (.int .i64)],[])
def Hs:Nat×List PK×List Kd:=(91,[.mut (.own 3 (.int .i64)),.val (.int .i64),.val (.int .i64)],[])
def I1:Nat×List PK×List Kd:=(92,[.mut (.own 3 (.int .i64)),.val (.int .i64),.val (.int .i64)],[(.int .i64),(.int .i64)])
def ID:Nat×List PK×List Kd:=(93,[.mut (.own 3 (.int .i64)),.val (.int .i64),.val (.int .i64)],[])
def FZ:Nat×List PK×List Kd:=(94,[.mut (.own 3 (.int .i64)),.val (.int .i64),.val (.int .i64)],[.bool])
def RL:Nat×List PK×List Kd:=(95,[.val (.int .i64),.val (.int .i64)],[.bool])
def HF:Nat×List PK×List Kd:=(96,[.mut (.own 3 (.int .i64)),.val (.int .i64),.val (.int .i64),.val (.int .i64)],[(.int .i64)])
def Js:Nat×List PK×List Kd:=(97,[.mut (.own 3 (.int .i64)),.val (.int .i64),.val (.int .i64),.val (.int .i64)],[(.int .i64),.bool])
def UV:Nat×List PK×List Kd:=(98,[.val (.int .u32)],[(.int .i64)])
def UW:Nat×List PK×List Kd:=(99,[.val (.int .u64)],[(.int .i64)])
def DN:Nat×List PK×List Kd:=(100,[.bor (.slice Z),.val .str,.val (.fun 101)],[(.int .i64),.bool])
def UX:Nat×List PK×List Kd:=(102,[.val .str,.val .str],[(.int .i64)])
def Gp:Nat×List PK×List Kd:=(103,[.mov (.own 27 Z),.val (.int .i64),.mov (.own 27 Z)],[(.own 27 Z)])
def Kc:Nat×List PK×List Kd:=(104,[.val (.slice (.slice (.int .i64)))],[(.slice (.slice (.int .i64)))])
def RM:Nat×List PK×List Kd:=(105,[.ptr Aa,.val (.slice .str)],[.str])
def Xo:Nat×List PK×List Kd:=(106,[.ptr AS,.val (.int .i64),.val Aj],[(.int .i64)])
def Xp:Nat×List PK×List Kd:=(107,[.ptr AS,.val (.int .i64),.val (.int .i64)],[(.int .i64)])
def GM:Nat×List PK×List Kd:=(108,[.ptr AS,.val U,.val (.slice AK),.val (.slice Aq),.val (.int .i64)],[])
def dS:Nat×List PK×List Kd:=(109,[.bor U],[PP])
def aX:Nat×List PK×List Kd:=(110,[.ptr AS,.val (.int .i64),.val Aj],[(.int .i64)])
def TP:Nat×List PK×List Kd:=(111,[.val (.slice AK)],[(.slice AK)])
def Pn:Nat×List PK×List Kd:=(122,[.val (.int .i64)],[.bool])
def cE:Nat×List PK×List Kd:=(126,[.val U,.val (.slice (.slice (.int .i64))),.val (.int .i64)],[U,(.slice AK),.bool])
abbrev lq { ρ:Type} (t W:Option ρ):Prop:=∀ { r},t=some r→W=some r
abbrev SW {A0 ρ:Type} (t W:A0→Option ρ):Prop:=∀ {a0 r},t a0=some r→W a0=some r
abbrev SX {A0 A1 ρ:Type} (t W:A0→A1→Option ρ):Prop:=∀ {a0 a1 r},t a0 a1=some r→W a0 a1=some r
abbrev XU {A0 A1 A2 ρ:Type} (t W:A0→A1→A2→Option ρ):Prop:=∀ {a0 a1 a2 r},t a0 a1 a2=some r→W a0 a1 a2=some r
abbrev cH {A0 A1 A2 A3 ρ:Type} (t W:A0→A1→A2→A3→Option ρ):Prop:=∀ {a0 a1 a2 a3 r},t a0 a1 a2 a3=some r→W a0 a1 a2 a3=some r
abbrev eL {A0 A1 A2 A3 A4 ρ:Type} (t W:A0→A1→A2→A3→A4→Option ρ):Prop:=∀ {a0 a1 a2 a3 a4 r},t a0 a1 a2 a3 a4=some r→W a0 a1 a2 a3 a4=some r
abbrev iS {A0 A1 A2 A3 A4 A5 ρ:Type} (t W:A0→A1→A2→A3→A4→A5→Option ρ):Prop:=∀ {a0 a1 a2 a3 a4 a5 r},t a0 a1 a2 a3 a4 a5=some r→W a0 a1 a2 a3 a4 a5=some r
abbrev ir {A0 A1 A2 A3 A4 A5 A6 ρ:Type} (t W:A0→A1→A2→A3→A4→A5→A6→Option ρ):Prop:=∀ {a0 a1 a2 a3 a4 a5 a6 r},t a0 a1 a2 a3 a4 a5 a6=some r→W a0 a1 a2 a3 a4 a5 a6=some r
abbrev gS {A0 A1 A2 A3 A4 A5 A6 A7 ρ:Type} (t W:A0→A1→A2→A3→A4→A5→A6→A7→Option ρ):Prop:=∀ {a0 a1 a2 a3 a4 a5 a6 a7 r},t a0 a1 a2 a3 a4 a5 a6 a7=some r→W a0 a1 a2 a3 a4 a5 a6 a7=some r
abbrev km {A0 A1 A2 A3 A4 A5 A6 A7 A8 ρ:Type} (t W:A0→A1→A2→A3→A4→A5→A6→A7→A8→Option ρ):Prop:=∀ {a0 a1 a2 a3 a4 a5 a6 a7 a8 r},t a0 a1 a2 a3 a4 a5 a6 a7 a8=some r→W a0 a1 a2 a3 a4 a5 a6 a7 a8=some r
abbrev kV {A0 A1 A2 A3 A4 A5 A6 A7 A8 A9 ρ:Type} (t W:A0→A1→A2→A3→A4→A5→A6→A7→A8→A9→Option ρ):Prop:=∀ {a0 a1 a2 a3 a4 a5 a6 a7 a8 a9 r},t a0 a1 a2 a3 a4 a5 a6 a7 a8 a9=some r→W a0 a1 a2 a3 a4 a5 a6 a7 a8 a9=some r
abbrev lX {A0 A1 A2 A3 A4 A5 A6 A7 A8 A9 A10 ρ:Type} (t W:A0→A1→A2→A3→A4→A5→A6→A7→A8→A9→A10→Option ρ):Prop:=∀ {a0 a1 a2 a3 a4 a5 a6 a7 a8 a9 a10 r},t a0 a1 a2 a3 a4 a5 a6 a7 a8 a9 a10=some r→W a0 a1 a2 a3 a4 a5 a6 a7 a8 a9 a10=some r
abbrev lY {A0 A1 A2 A3 A4 A5 A6 A7 A8 A9 A10 A11 A12 A13 ρ:Type} (t W:A0→A1→A2→A3→A4→A5→A6→A7→A8→A9→A10→A11→A12→A13→Option ρ):Prop:=∀ {a0 a1 a2 a3 a4 a5 a6 a7 a8 a9 a10 a11 a12 a13 r},t a0 a1 a2 a3 a4 a5 a6 a7 a8 a9 a10 a11 a12 a13=some r→W a0 a1 a2 a3 a4 a5 a6 a7 a8 a9 a10 a11 a12 a13=some r
end
end Go.Proofs.YtaedipailemlcaaGreat.Core

namespace Go.Proofs.YtaedipailemlcaaGreat.Core
open Go IntKind
set_option linter.unusedVariables false
set_option maxRecDepth 100000
noncomputable section
def MM:AI:=(.seq (.seq (.region [.m 104 18,.m 105 6,.len 106 false (.t 105),.b 107 .lss 104 106] [5,6,7,13,17,18,107]) (.cond (.t 107) .skip (.exit 0))) (.seq (.block 1 [5,6,7,13,17,18] (.seq (.region [.m 110 6,.m 111 18,.idx 112 6 (.t 110) (.t 111),.f 113 112 0,.l 114 113,.bin 115 .neq (.t 114) (.i 5),.m 116 115,.sc 116 false [.m 117 13,.m 118 6,.m 119 18,.idx 120 6 (.t 118) (.t 119),.f 121 120 2,.l 122 121,.cl 123 [117,122] gR,.un 124 .not (.t 123)] 125 (.c (.bool true)) (.t 124),.m 126 125,.sc 126 false [.m 127 6,.m 128 18,.idx 129 6 (.t 127) (.t 128),.f 130 129 5,.l 131 130,.idx 132 3 (.t 131) (.i 0),.f 133 132 1,.l 134 133,.bin 135 .neq (.t 134) (.c (.str ⟨#[122]⟩))] 136 (.c (.bool true)) (.t 135)] [5,6,7,13,17,18,136]) (.cond (.t 136) (.seq (.region [.mv 2 (.c (.bool false))] [2]) .ret) .skip))) (.region [.m 108 18,.bin 109 .add (.t 108) (.i 1),.m 18 109] [5,6,7,13,17,18])))
def HG:AI:=(.seq (.region [.m 137 17,.un 138 .not (.t 137),.m 139 138,.sc 139 true [.m 140 7,.len 141 false (.t 140),.bin 142 .eql (.t 141) (.i 0)] 143 (.t 142) (.c (.bool false)),.m 144 143,.sc 144 true [.m 145 6,.len 146 false (.t 145),.m 147 13,.len 148 false (.t 147),.bin 149 .sub (.t 148) (.i 1),.b 150 .eql 146 149] 151 (.t 150) (.c (.bool false)),.m 152 151,.sc 152 true [.f 153 5 9,.f 154 153 6,.l 155 154,.len 156 false (.t 155),.m 157 13,.len 158 false (.t 157),.bin 159 .sub (.t 158) (.i 1),.b 160 .eql 156 159] 161 (.t 160) (.c (.bool false)),.m 162 161,.sc 162 true [.ls 163 5 16,.cl 164 [163] Pl] 165 (.t 164) (.c (.bool false)),.m 2 165] [2]) .ret)
def LR:AI:=(.seq (.seq (.region [.m 59 8,.un 60 .not (.t 59)] [3,4,5,6,7,60]) (.cond (.t 60) (.seq (.region [.f 61 5 0,.l 62 61,.bin 63 .eql (.t 62) (.i 0),.m 2 63] [2]) .ret) .skip)) (.seq (.region [.m 64 4,.f 65 3 1,.l 66 65,.bin 67 .sub (.t 66) (.i 1),.idx 68 1 (.t 64) (.t 67),.l 69 68,.m 13 69] [4,5,6,7,13]) (.seq (.seq (.region [.m 70 13,.len 71 false (.t 70),.bin 72 .eql (.t 71) (.i 1)] [4,5,6,7,13,72]) (.cond (.t 72) (.seq (.region [.m 73 7,.len 74 false (.t 73),.bin 75 .eql (.t 74) (.i 1),.m 76 75,.sc 76 true [.m 77 7,.idx 78 6 (.t 77) (.i 0),.f 79 78 0,.l 80 79,.bin 81 .eql (.t 80) (.i 3)] 82 (.t 81) (.c (.bool false)),.m 83 82,.sc 83 true [.f 84 5 7,.l 85 84,.cx (some 86) [.t 85,.c (.str ⟨#[97]⟩)] Nb,.field 87 (.t 86) 1 none,.bin 88 .eql (.t 87) (.c (.str ⟨#[122]⟩))] 89 (.t 88) (.c (.bool false)),.m 90 89,.sc 90 true [.f 91 5 9,.f 92 91 0,.l 93 92,.bin 94 .eql (.t 93) (.i 0)] 95 (.t 94) (.c (.bool false)),.m 2 95] [2]) .ret) .skip)) (.seq (.region [.ls 97 5 16,.m 98 4,.cx (some 99) [.t 97,.t 98,.c (.int .i64 2),.c (.int .i64 4),.c (.str ⟨#[97]⟩),.c (.str ⟨#[]⟩)] UQ,.m 96 99,.ext 100 (.t 96) 0,.ext 101 (.t 96) 1,.ext 102 (.t 96) 2,.ext 103 (.t 96) 3,.al 14 U,.store (.t 14) (.t 100) 16 false,.m 15 101,.m 16 102,.m 17 103] [5,6,7,13,17]) (.seq (.seq (.region [.mv 18 (.i 0)] [5,6,7,13,17,18]) (.block 0 [5,6,7,13,17] (.loop [5,6,7,13,17,18] MM))) HG)))))
def BJ:Bi:=⟨[.val (.slice (.int .u8))],[⟨2,false,.bool⟩],(.seq (.region [.mv 2 (.c (.bool false))] [0]) (.seq (.seq (.region [.m 19 0,.cl 20 [19] eK] [0,20]) (.cond (.t 20) (.seq (.region [.mv 2 (.c (.bool true))] [2]) .ret) .skip)) (.seq (.region [.m 22 0,.cl 23 [22] TN,.m 21 23,.ext 24 (.t 21) 0,.ext 25 (.t 21) 1,.al 3 U,.store (.t 3) (.t 24) 16 false,.m 4 25] [3,4]) (.seq (.region [.ls 27 3 16,.m 28 4,.cx (some 29) [.t 27,.t 28,.c (.int .i64 1),.c (.int .i64 3),.c (.str ⟨#[97]⟩),.c (.str ⟨#[122]⟩)] UQ,.m 26 29,.ext 30 (.t 26) 0,.ext 31 (.t 26) 1,.ext 32 (.t 26) 2,.ext 33 (.t 26) 3,.al 5 U,.store (.t 5) (.t 30) 16 false,.m 6 31,.m 7 32,.m 8 33] [3,4,5,6,7,8]) (.seq (.region [.ls 35 3 16,.m 36 4,.cx (some 37) [.t 35,.t 36,.c (.int .i64 1),.c (.int .i64 3),.c (.str ⟨#[97]⟩),.c (.str ⟨#[122]⟩)] UR,.m 34 37,.ext 38 (.t 34) 0,.ext 39 (.t 34) 1,.ext 40 (.t 34) 2,.ext 41 (.t 34) 3,.al 9 U,.store (.t 9) (.t 38) 16 false,.m 10 39,.m 11 40,.m 12 41] [3,4,5,6,7,8,10,11,12]) (.seq (.seq (.region [.m 42 8,.m 43 12,.eqs 44 true .bool (.t 42) (.t 43),.m 45 44,.sc 45 false [.m 46 6,.len 47 false (.t 46),.m 48 10,.len 49 false (.t 48),.b 50 .neq 47 49] 51 (.c (.bool true)) (.t 50),.m 52 51,.sc 52 false [.m 53 7,.len 54 false (.t 53),.m 55 11,.len 56 false (.t 55),.b 57 .neq 54 56] 58 (.c (.bool true)) (.t 57)] [3,4,5,6,7,8,58]) (.cond (.t 58) (.seq (.region [.mv 2 (.c (.bool false))] [2]) .ret) .skip)) LR))))))⟩
theorem Xq:BT Tryz.prog 5 BJ=true:=by kernel_rfl
def PS:Bi:=⟨[.val (.slice (.int .u8))],[⟨2,false,.bool⟩],(.seq (.region [.mv 2 (.c (.bool false))] [0]) (.seq (.region [.m 3 0,.len 4 false (.t 3),.bin 5 .gtr (.t 4) (.i 1048576),.m 2 5] [2]) .ret))⟩
theorem eM:BT Tryz.prog 6 PS=true:=by kernel_rfl
def N2:DT:=(.sk 95 true 9 25 105 (.tk 26 [.pick 105 (.t 95) (.t 104) (.c (.bool false))] .done))
def MN:DT:=(.sk 91 true 2 14 94 (.tk 16 [.m 95 94,.pick 94 (.t 91) (.t 93) (.c (.bool false))] N2))
def MO:AI:=(.cond (.t 105) (.seq (.region [.ls 106 3 16,.f 107 5 3,.l 108 107,.cl 109 [106,108] RI,.al 12 U,.store (.t 12) (.t 109) 16 false] [3,5,6,11,12]) (.seq (.draw (Hc 17 [(1,[]),(3,[]),(5,[]),(7,[]),(8,[]),(10,[7,9]),(11,[2,4,6,10]),(13,[]),(14,[0,10]),(15,[12,14]),(16,[13,15])]) (.tk 7 [.l 116 115,.f 115 5 3,.l 114 113,.f 113 5 1,.l 112 111,.f 111 3 0,.ls 110 12 16] (.tk 10 [.l 119 118,.f 118 3 7] (.tk 14 [.m 123 11] (.only 7 none (.brow 117 27 Z []) false [] (.only 10 none (.apz 120 27 Z (.t 117) (.t 119)) false [] (.tk 12 [.bu 121 AK [(0,1,.c (.int .i64 2)),(1,1,.t 112),(2,1,.t 114),(3,1,.t 116),(5,1,.t 120)]] (.only 14 none (.store (.t 6) (.t 110) 16 false) false [(12,.brow 122 34 AK [.t 121])] (.only 12 none (.brow 122 34 AK [.t 121]) true [] (.tk 17 [.m 8 123,.m 7 122] .done))))))))) [6,7,8]) .ret)) .skip)
def MP:DT:=(.sk 139 true 6 16 146 (.tk 17 [.pick 146 (.t 139) (.t 145) (.c (.bool false))] .done))
def MQ:AI:=(.cond (.t 146) (.seq (.draw (Hc 11 [(2,[]),(4,[]),(5,[]),(7,[4,6]),(8,[1,3,7]),(9,[]),(10,[8,9])]) (.tk 4 [.l 150 149,.f 149 5 3,.l 148 147,.f 147 3 0] (.tk 7 [.l 153 152,.f 152 5 5] (.only 4 none (.brow 151 27 Z []) false [(9,.al 14 U)] (.only 7 none (.apz 154 27 Z (.t 151) (.t 153)) false [(9,.al 14 U)] (.tk 9 [.bu 155 U [(0,1,.t 148),(1,1,.t 150),(3,1,.c (.bool true)),(7,1,.t 154)]] (.only 9 none (.al 14 U) true [] (.only 10 none (.store (.t 14) (.t 155) 16 false) false [] .done))))))) [3,5,6,11,14]) (.seq (.draw (Hc 8 [(1,[]),(2,[]),(3,[1,2]),(4,[]),(5,[0,3]),(7,[4,6])]) (.tk 3 [.ls 158 5 6,.ls 157 3 16,.ls 156 14 16] (.tk 5 [.m 160 11] (.only 3 none (.cx (some 159) [.t 157,.t 158,.c (.int .i64 4)] G1) false [] (.only 5 none (.store (.t 6) (.t 156) 16 false) false [] (.tk 8 [.m 8 160,.m 7 159] .done))))) [6,7,8]) .ret)) .skip)
def MR:AI:=(.seq (.region [.ls 161 9 16,.m 162 10,.m 163 11,.store (.t 6) (.t 161) 16 false,.m 7 162,.m 8 163] [6,7,8]) .ret)
def IE:AI:=(.seq (.region [.m 124 1,.f 125 5 3,.l 126 125,.bin 127 .sub (.t 126) (.i 1),.idx 128 1 (.t 124) (.t 127),.l 129 128,.m 13 129] [3,5,6,9,10,11,13]) (.seq (.seq (.draw (Hc 17 [(5,[3]),(7,[4,6]),(13,[9]),(15,[12,14])]) (.tk 4 [.m 133 132,.bin 132 .eql (.t 131) (.i 3),.l 131 130,.f 130 5 0] (.test 133 (.tg 133 true 7 [.l 136 135,.f 135 3 0,.m 134 13] (.only 7 (some (133,true)) (.cl 137 [134,136] EJ) false [] (.tk 10 [.m 139 138,.pick 138 (.t 133) (.t 137) (.c (.bool false))] (.test 139 (.tg 139 true 16 [.b 145 .neq 142 144,.l 144 143,.f 143 3 0,.l 142 141,.idx 141 1 (.t 140) (.i 0),.m 140 13] (.tk 17 [.pick 146 (.t 139) (.t 145) (.c (.bool false))] .done)) MP)))) (.sk 133 true 4 8 138 (.tk 10 [.m 139 138,.pick 138 (.t 133) (.t 137) (.c (.bool false))] MP)))) [3,5,6,9,10,11,146]) MQ) MR))
def MS:AI:=(.seq (.seq (.region [.f 63 5 3,.l 64 63,.f 65 3 1,.l 66 65,.b 67 .eql 64 66] [1,3,5,6,9,10,11,67]) (.cond (.t 67) (.seq (.draw (Hc 15 [(1,[]),(2,[]),(5,[1,4]),(7,[]),(8,[0,6,7]),(10,[8]),(11,[8]),(12,[9,10,11])]) (.tk 8 [.ls 75 5 6,.l 74 73,.idx 73 1 (.t 69) (.t 72),.bin 72 .sub (.t 71) (.i 1),.l 71 70,.f 70 3 1,.m 69 1,.ls 68 3 16] (.only 8 none (.cl 76 [68,74,75] aW) false [] (.tk 12 [.ext 79 (.t 76) 2,.ext 78 (.t 76) 1,.ext 77 (.t 76) 0] (.only 12 none (.store (.t 6) (.t 77) 16 false) false [] (.tk 15 [.m 8 79,.m 7 78] .done))))) [6,7,8]) .ret) .skip)) (.seq (.seq (.draw (Hc 26 [(6,[3]),(9,[5,8]),(17,[15]),(20,[16,19]),(22,[15]),(24,[21,23])]) (.tk 4 [.m 83 82,.bin 82 .eql (.t 81) (.i 1),.l 81 80,.f 80 5 0] (.test 83 (.tg 83 true 10 [.b 89 .eql 85 88,.bin 88 .add (.t 87) (.i 1),.l 87 86,.f 86 3 1,.l 85 84,.f 84 5 3] (.tk 12 [.m 91 90,.pick 90 (.t 83) (.t 89) (.c (.bool false))] (.test 91 (.tg 91 true 14 [.l 93 92,.f 92 3 3] (.tk 16 [.m 95 94,.pick 94 (.t 91) (.t 93) (.c (.bool false))] (.test 95 (.tg 95 true 24 [.l 103 102,.f 102 3 0,.l 101 100,.idx 100 1 (.t 96) (.t 99),.bin 99 .sub (.t 98) (.i 1),.l 98 97,.f 97 3 1,.m 96 1] (.only 24 (some (95,true)) (.cl 104 [101,103] EJ) false [] (.tk 26 [.pick 105 (.t 95) (.t 104) (.c (.bool false))] .done))) N2))) MN))) (.sk 83 true 6 10 90 (.tk 12 [.m 91 90,.pick 90 (.t 83) (.t 89) (.c (.bool false))] MN)))) [1,3,5,6,9,10,11,105]) MO) IE))
def BA:Bi:=⟨[.val U,.val (.slice (.slice (.int .i64))),.val AK],[⟨6,true,U⟩,⟨7,false,(.slice AK)⟩,⟨8,false,(.slice Aq)⟩],(.seq (.region [.box 3 (.t 0) false,.box 5 (.t 2) false,.al 6 U,.mv 7 (.c (.nil)),.mv 8 (.c (.nil))] [1,3,5,6]) (.seq (.region [.ls 15 3 16,.cl 16 [15] El,.al 9 U,.store (.t 9) (.t 16) 16 false] [1,3,5,6,9]) (.seq (.region [.blst 17 AK [],.m 10 17] [1,3,5,6,9,10]) (.seq (.region [.blst 18 Aq [],.m 11 18] [1,3,5,6,9,10,11]) (.seq (.seq (.region [.ls 19 3 16,.cl 20 [19] KI,.un 21 .not (.t 20),.m 22 21,.sc 22 false [.m 23 1,.cl 24 [23] F8,.un 25 .not (.t 24)] 26 (.c (.bool true)) (.t 25),.m 27 26,.sc 27 false [.ls 28 5 6,.cl 29 [28] cC,.un 30 .not (.t 29)] 31 (.c (.bool true)) (.t 30),.m 32 31,.sc 32 false [.f 33 5 2,.l 34 33,.f 35 3 0,.l 36 35,.b 37 .neq 34 36] 38 (.c (.bool true)) (.t 37),.m 39 38,.sc 39 false [.f 40 5 3,.l 41 40,.f 42 3 1,.l 43 42,.b 44 .lss 41 43] 45 (.c (.bool true)) (.t 44),.m 46 45,.sc 46 false [.f 47 5 3,.l 48 47,.m 49 1,.len 50 false (.t 49),.b 51 .gtr 48 50] 52 (.c (.bool true)) (.t 51),.m 53 52,.sc 53 false [.f 54 3 1,.l 55 54,.m 56 1,.len 57 false (.t 56),.b 58 .gtr 55 57] 59 (.c (.bool true)) (.t 58)] [1,3,5,6,9,10,11,59]) (.cond (.t 59) (.seq (.region [.ls 60 9 16,.m 61 10,.m 62 11,.store (.t 6) (.t 60) 16 false,.m 7 61,.m 8 62] [6,7,8]) .ret) .skip)) MS)))))⟩
theorem ZU:BT Tryz.prog 9 BA=true:=by kernel_rfl
def MT:AI:=(.seq (.seq (.region [.f 31 1 5,.l 32 31,.m 33 32,.sc 33 true [.f 34 1 3,.l 35 34,.un 36 .not (.t 35),.m 37 36,.sc 37 false [.f 38 1 4,.l 39 38,.un 40 .not (.t 39)] 41 (.c (.bool true)) (.t 40),.m 42 41,.sc 42 false [.f 43 1 6,.l 44 43,.len 45 false (.t 44),.bin 46 .gtr (.t 45) (.i 0)] 47 (.c (.bool true)) (.t 46)] 48 (.t 47) (.c (.bool false)),.m 49 48,.sc 49 false [.f 50 1 2,.l 51 50,.m 52 51,.sc 52 true [.f 53 1 3,.l 54 53,.m 55 54,.sc 55 false [.f 56 1 4,.l 57 56] 58 (.c (.bool true)) (.t 57)] 59 (.t 58) (.c (.bool false))] 60 (.c (.bool true)) (.t 59)] [1,60]) (.cond (.t 60) (.seq (.region [.mv 2 (.c (.bool false))] [2]) .ret) .skip)) (.seq (.region [.cl 61 [1] RJ,.m 2 61] [2]) .ret))
def EA:Bi:=⟨[.val U],[⟨2,false,.bool⟩],(.seq (.region [.box 1 (.t 0) false,.mv 2 (.c (.bool false))] [1]) (.seq (.seq (.region [.f 3 1 0,.l 4 3,.cl 5 [4] Sv,.un 6 .not (.t 5),.m 7 6,.sc 7 false [.f 8 1 1,.l 9 8,.cx (some 10) [.t 9,.c (.int .i64 1),.c (.int .i64 9)] BM,.un 11 .not (.t 10)] 12 (.c (.bool true)) (.t 11),.m 13 12,.sc 13 false [.f 14 1 6,.l 15 14,.cx (some 16) [.t 15,.c (.int .i64 1),.c (.int .i64 6)] LO,.un 17 .not (.t 16)] 18 (.c (.bool true)) (.t 17),.m 19 18,.sc 19 false [.f 20 1 7,.l 21 20,.cl 22 [21] LP,.un 23 .not (.t 22)] 24 (.c (.bool true)) (.t 23),.m 25 24,.sc 25 false [.f 26 1 8,.l 27 26,.cx (some 28) [.t 27,.c (.int .i64 0),.c (.int .i64 900)] BM,.un 29 .not (.t 28)] 30 (.c (.bool true)) (.t 29)] [1,30]) (.cond (.t 30) (.seq (.region [.mv 2 (.c (.bool false))] [2]) .ret) .skip)) MT))⟩
theorem Xr:BT Tryz.prog 10 EA=true:=by kernel_rfl
def RN:AI:=(.cond (.t 39) (.seq (.region [.mv 2 (.c (.bool true))] [2]) .ret) (.seq (.region [.bin 43 .eql (.t 38) (.i 5),.m 42 43] [1,42]) (.cond (.t 42) (.seq (.region [.f 44 1 5,.l 45 44,.len 46 false (.t 45),.bin 47 .eql (.t 46) (.i 1),.m 2 47] [2]) .ret) .skip)))
def RO:AI:=(.seq (.region [.f 48 1 5,.l 49 48,.len 50 false (.t 49),.bin 51 .eql (.t 50) (.i 0),.m 2 51] [2]) .ret)
def RP:AI:=(.seq (.seq (.region [.f 37 1 0,.l 38 37] [1,38]) (.block 0 [1] (.seqc [1,38,39] (.seq (.region [.bin 40 .eql (.t 38) (.i 2),.m 39 40] [1,38,39]) (.cond (.t 39) .skip (.region [.bin 41 .eql (.t 38) (.i 3),.m 39 41] [1,38,39]))) RN))) RO)
def DO:Bi:=⟨[.val AK],[⟨2,false,.bool⟩],(.seq (.region [.box 1 (.t 0) false,.mv 2 (.c (.bool false))] [1]) (.seq (.seq (.region [.f 3 1 0,.l 4 3,.cx (some 5) [.t 4,.c (.int .i64 1),.c (.int .i64 8)] Ab,.un 6 .not (.t 5),.m 7 6,.sc 7 false [.f 8 1 1,.l 9 8,.cx (some 10) [.t 9,.c (.int .i64 1),.c (.int .i64 6)] Ab,.un 11 .not (.t 10)] 12 (.c (.bool true)) (.t 11),.m 13 12,.sc 13 false [.f 14 1 2,.l 15 14,.cx (some 16) [.t 15,.c (.int .i64 1),.c (.int .i64 6)] Ab,.un 17 .not (.t 16)] 18 (.c (.bool true)) (.t 17),.m 19 18,.sc 19 false [.f 20 1 3,.l 21 20,.cx (some 22) [.t 21,.c (.int .i64 1),.c (.int .i64 9)] Ab,.un 23 .not (.t 22)] 24 (.c (.bool true)) (.t 23),.m 25 24,.sc 25 false [.f 26 1 4,.l 27 26,.cx (some 28) [.t 27,.c (.int .i64 0),.c (.int .i64 1000000000)] Ab,.un 29 .not (.t 28)] 30 (.c (.bool true)) (.t 29),.m 31 30,.sc 31 false [.f 32 1 5,.l 33 32,.cl 34 [33] IC,.un 35 .not (.t 34)] 36 (.c (.bool true)) (.t 35)] [1,36]) (.cond (.t 36) (.seq (.region [.mv 2 (.c (.bool false))] [2]) .ret) .skip)) RP))⟩
theorem cI:BT Tryz.prog 11 DO=true:=by kernel_rfl
def Po:AI:=(.seq (.region [.b 10 .lss 9 8] [1,4,7,8,9,10]) (.seq (.cond (.t 10) .skip (.exit 0)) (.seq (.block 1 [1,4,7,8,9] (.seq (.region [.idx 11 3 (.t 7) (.t 9),.ls 12 11 3,.al 6 Z,.store (.t 6) (.t 12) 3 false] [1,4,6,7,8,9]) (.seq (.region [.f 13 6 0,.l 14 13,.m 15 1,.b 16 .eql 14 15] [1,4,6,7,8,9,16]) (.cond (.t 16) (.seq (.region [.ls 17 6 3,.store (.t 4) (.t 17) 3 false] [4]) .ret) .skip)))) (.region [.bin 18 .add (.t 9) (.i 1),.m 9 18] [1,4,7,8,9]))))
def Pp:AI:=(.seq (.region [.bu 19 Z [],.store (.t 4) (.t 19) 3 false] [4]) .ret)
def DU:Bi:=⟨[.val (.slice Z),.val .str],[⟨4,true,Z⟩],(.seq (.region [.al 4 Z] [0,1,4]) (.seq (.seq (.region [.m 7 0,.len 8 false (.t 7),.mv 9 (.i 0)] [1,4,7,8,9]) (.block 0 [4] (.loop [1,4,7,8,9] Po))) Pp))⟩
theorem aY:BT Tryz.prog 12 DU=true:=by kernel_rfl
def XV:AI:=(.seq (.seq (.region [.m 6 5,.m 7 0,.len 8 false (.t 7),.b 9 .lss 6 8] [0,1,5,9]) (.cond (.t 9) .skip (.exit 0))) (.seq (.block 1 [0,1,5] (.seq (.region [.m 12 0,.m 13 5,.idx 14 1 (.t 12) (.t 13),.l 15 14,.m 16 1,.b 17 .eql 15 16] [0,1,5,17]) (.cond (.t 17) (.seq (.region [.mv 4 (.c (.bool true))] [4]) .ret) .skip))) (.region [.m 10 5,.bin 11 .add (.t 10) (.i 1),.m 5 11] [0,1,5])))
def XW:AI:=(.seq (.region [.mv 4 (.c (.bool false))] [4]) .ret)
def Hj:Bi:=⟨[.val (.slice (.int .i64)),.val (.int .i64)],[⟨4,false,.bool⟩],(.seq (.region [.mv 4 (.c (.bool false))] [0,1]) (.seq (.seq (.region [.mv 5 (.i 0)] [0,1,5]) (.block 0 [] (.loop [0,1,5] XV))) XW))⟩
theorem gT:BT Tryz.prog 14 Hj=true:=by kernel_rfl
def RQ:DT:=(.only 4 none (.store (.t 12) (.t 106) 16 false) false [] (.tk 8 [.mv 15 (.c (.bool true)),.mv 14 (.c (.nil)),.m 13 109] .done))
def RR:AI:=(.seq (.seq (.region [.m 100 18,.len 101 false (.t 100),.bin 102 .eql (.t 101) (.i 0)] [12,16,18,20,102]) (.cond (.t 102) (.seq (.region [.cl 103 [16] TO,.m 21 103] [12,16,21]) (.seq (.region [.ls 104 16 16,.m 105 21,.store (.t 12) (.t 104) 16 false,.mv 13 (.c (.nil)),.m 14 105,.mv 15 (.c (.bool true))] [12,13,14,15]) .ret)) .skip)) (.seq (.draw (Hc 8 [(1,[]),(2,[]),(3,[1,2]),(4,[0,3])]) (.tk 3 [.ls 108 20 6,.m 107 18] (.fork 0 (.ls 106 16 16) (.only 3 none (.cl 109 [16,107,108] I3) false [] RQ) 3 (.cl 109 [16,107,108] I3) (.tk 1 [.ls 106 16 16] RQ))) [12,13,14,15]) .ret))
def Pq:AI:=(.seq (.region [.m 71 1,.f 72 6 1,.l 73 72,.bin 74 .sub (.t 73) (.i 1),.idx 75 1 (.t 71) (.t 74),.l 76 75,.cl 77 [16,76] RK,.m 18 77] [2,3,12,16,17,18]) (.seq (.region [.m 78 18,.cl 79 [78] FA,.m 19 79] [2,3,12,16,17,18,19]) (.seq (.region [.m 80 19,.cl 81 [80] Qt] [2,3,12,16,17,18,19]) (.seq (.region [.m 82 2,.m 83 3,.f 84 16 8,.l 85 84,.ls 86 17 3,.m 87 19,.bu 88 JI [(0,1,.t 82),(1,1,.t 83),(2,1,.t 85),(3,3,.t 86),(6,1,.t 87)],.f 89 16 9,.store (.t 89) (.t 88) 7 false] [2,12,16,17,18]) (.seq (.region [.f 90 16 8,.l 91 90,.bu 92 AK [(0,1,.c (.int .i64 7)),(4,1,.t 91)],.al 20 AK,.store (.t 20) (.t 92) 6 false] [2,12,16,17,18,20]) (.seqc [12,16,18,20] (.seq (.region [.m 93 2,.bin 94 .eql (.t 93) (.i 1)] [12,16,17,18,20,94]) (.cond (.t 94) (.region [.f 95 16 8,.l 96 95,.ls 97 17 3,.brow 98 27 Z [.t 97],.bu 99 AK [(0,1,.c (.int .i64 5)),(4,1,.t 96),(5,1,.t 98)],.store (.t 20) (.t 99) 6 false] [12,16,18,20]) .skip)) RR))))))
def Pr:AI:=(.seq (.region [.ls 39 6 16,.cl 40 [39] US,.al 16 U,.store (.t 16) (.t 40) 16 false] [1,2,3,4,5,6,12,16]) (.seq (.region [.f 41 16 8,.l 42 41,.bin 43 .add (.t 42) (.i 1),.f 44 16 8,.store (.t 44) (.t 43) 1 false] [1,2,3,4,5,6,12,16]) (.seq (.region [.m 45 4,.m 46 5,.f 47 6 1,.l 48 47,.bin 49 .mul (.i 1000) (.t 48),.f 50 16 8,.l 51 50,.b 52 .add 49 51,.bu 53 Z [(0,1,.t 45),(1,1,.t 46),(2,1,.t 52)],.al 17 Z,.store (.t 17) (.t 53) 3 false] [1,2,3,4,6,12,16,17]) (.seq (.seq (.region [.m 54 2,.bin 55 .eql (.t 54) (.i 1),.m 56 55,.sc 56 true [.f 57 6 7,.l 58 57,.len 59 false (.t 58),.bin 60 .eql (.t 59) (.i 12)] 61 (.t 60) (.c (.bool false)),.m 62 61,.sc 62 true [.f 63 6 7,.l 64 63,.m 65 4,.cl 66 [64,65] Nb,.bu 67 Z [],.eqs 68 false Z (.t 66) (.t 67)] 69 (.t 68) (.c (.bool false))] [1,2,3,6,12,16,17,69]) (.cond (.t 69) (.seq (.region [.bu 70 U [],.store (.t 12) (.t 70) 16 false,.mv 13 (.c (.nil)),.mv 14 (.c (.nil)),.mv 15 (.c (.bool false))] [12,13,14,15]) .ret) .skip)) Pq))))
def Cm:Bi:=⟨[.val U,.val (.slice (.slice (.int .i64))),.val (.int .i64),.val (.int .i64),.val .str,.val .str],[⟨12,true,U⟩,⟨13,false,(.slice AK)⟩,⟨14,false,(.slice Aq)⟩,⟨15,false,.bool⟩],(.seq (.region [.box 6 (.t 0) false,.al 12 U,.mv 13 (.c (.nil)),.mv 14 (.c (.nil)),.mv 15 (.c (.bool false))] [1,2,3,4,5,6,12]) (.seq (.seq (.region [.ls 22 6 16,.cl 23 [22] Pl,.un 24 .not (.t 23),.m 25 24,.sc 25 false [.m 26 1,.cl 27 [6,26] PQ,.un 28 .not (.t 27)] 29 (.c (.bool true)) (.t 28),.m 30 29,.sc 30 false [.m 31 2,.m 32 3,.m 33 4,.m 34 5,.cl 35 [31,32,33,34] cD,.un 36 .not (.t 35)] 37 (.c (.bool true)) (.t 36)] [1,2,3,4,5,6,12,37]) (.cond (.t 37) (.seq (.region [.bu 38 U [],.store (.t 12) (.t 38) 16 false,.mv 13 (.c (.nil)),.mv 14 (.c (.nil)),.mv 15 (.c (.bool false))] [12,13,14,15]) .ret) .skip)) Pr))⟩
theorem cJ:BT Tryz.prog 16 Cm=true:=by kernel_rfl
def Jt:AI:=(.cond (.t 40) (.seq (.draw (Hc 9 [(2,[]),(3,[1,2]),(5,[]),(7,[4]),(8,[6,7])]) (.tk 7 [.l 47 46,.f 46 5 0,.ls 45 44 16,.idx 44 16 (.t 42) (.t 43),.m 43 6,.l 42 41,.f 41 5 1] (.only 7 none (.store (.t 2) (.t 45) 16 false) false [] (.tk 9 [.m 3 47] .done))) [2,3]) .ret) .skip)
def Ju:AI:=(.region [.m 19 6,.bin 20 .add (.t 19) (.i 1),.m 6 20] [2,4,5,6])
def Jv:AI:=(.seq (.seq (.region [.m 14 6,.f 15 5 1,.l 16 15,.len 17 false (.t 16),.b 18 .lss 14 17] [2,4,5,6,18]) (.cond (.t 18) .skip (.exit 0))) (.seq (.block 1 [2,4,5,6] (.seq (.region [.f 21 5 1,.l 22 21,.m 23 6,.idx 24 16 (.t 22) (.t 23),.f 25 24 5,.l 26 25,.m 27 26,.sc 27 true [.f 28 5 1,.l 29 28,.m 30 6,.idx 31 16 (.t 29) (.t 30),.f 32 31 9,.f 33 32 0,.l 34 33,.bin 35 .eql (.t 34) (.i 0),.m 36 35,.sc 36 false [.m 37 4,.cx (some 38) [.t 37,.c (.int .i64 4)] F9] 39 (.c (.bool true)) (.t 38)] 40 (.t 39) (.c (.bool false))] [2,4,5,6,40]) Jt)) Ju))
def GA:AI:=(.seq (.draw (Hc 15 [(6,[]),(8,[5,7]),(11,[9]),(12,[]),(13,[10,12]),(14,[11,13])]) (.tk 8 [.l 56 55,.f 55 5 0,.l 54 53,.idx 53 1 (.t 52) (.i 0),.l 52 51,.idx 51 1 (.t 50) (.i 0),.l 50 49,.f 49 5 0] (.only 8 none (.cl 57 [54,56] Nz) false [(12,.al 7 U)] (.tk 12 [.ext 59 (.t 48) 1,.ext 58 (.t 48) 0,.m 48 57] (.only 12 none (.al 7 U) true [] (.only 13 none (.store (.t 7) (.t 58) 16 false) false [] (.tk 15 [.m 8 59] .done)))))) [2,5,7]) (.seq (.draw (Hc 5 [(1,[]),(3,[0]),(4,[2,3])]) (.tk 3 [.l 62 61,.f 61 5 0,.ls 60 7 16] (.only 3 none (.store (.t 2) (.t 60) 16 false) false [] (.tk 5 [.m 3 62] .done))) [2,3]) .ret))
def Al:Bi:=⟨[.val (.slice (.int .u8))],[⟨2,true,U⟩,⟨3,false,(.slice (.slice (.int .i64)))⟩],(.seq (.region [.al 2 U,.mv 3 (.c (.nil))] [0,2]) (.seq (.region [.m 9 0,.cl 10 [9] aV,.m 4 10] [0,2,4]) (.seq (.region [.m 11 4,.m 12 0,.cl 13 [11,12] Xk,.al 5 AS,.store (.t 5) (.t 13) 4 false] [2,4,5]) (.seq (.seq (.region [.mv 6 (.i 0)] [2,4,5,6]) (.block 0 [2,5] (.loop [2,4,5,6] Jv))) GA))))⟩
theorem TQ:BT Tryz.prog 17 Al=true:=by kernel_rfl
def RS:DT:=(.sk 88 false 11 75 100 (.tk 76 [.pick 100 (.t 88) (.c (.bool true)) (.t 99)] .done))
def Ps:DT:=(.sk 81 false 5 62 87 (.tk 64 [.m 88 87,.pick 87 (.t 81) (.c (.bool true)) (.t 86)] RS))
def Pt:DT:=(.sk 73 false 3 52 77 (.sk 76 true 2 54 79 (.sk 73 false 1 55 80 (.tk 57 [.m 81 80,.pick 80 (.t 73) (.c (.bool true)) (.t 79)] Ps))))
def Pu:DT:=(.sk 68 false 3 47 72 (.tk 49 [.m 73 72,.pick 72 (.t 68) (.c (.bool true)) (.t 71)] Pt))
def Pv:DT:=(.sk 62 false 4 42 67 (.tk 44 [.m 68 67,.pick 67 (.t 62) (.c (.bool true)) (.t 66)] Pu))
def Pw:DT:=(.sk 57 false 3 36 61 (.tk 38 [.m 62 61,.pick 61 (.t 57) (.c (.bool true)) (.t 60)] Pv))
def Px:DT:=(.sk 49 false 3 28 53 (.sk 52 true 2 30 55 (.sk 49 false 1 31 56 (.tk 33 [.m 57 56,.pick 56 (.t 49) (.c (.bool true)) (.t 55)] Pw))))
def Py:DT:=(.sk 44 false 3 23 48 (.tk 25 [.m 49 48,.pick 48 (.t 44) (.c (.bool true)) (.t 47)] Px))
def Pz:DT:=(.sk 38 false 4 18 43 (.tk 20 [.m 44 43,.pick 43 (.t 38) (.c (.bool true)) (.t 42)] Py))
def P0:DT:=(.sk 33 false 3 12 37 (.tk 14 [.m 38 37,.pick 37 (.t 33) (.c (.bool true)) (.t 36)] Pz))
def P1:DT:=(.tg 81 false 62 [.b 86 .gtr 83 85,.len 85 false (.t 84),.m 84 1,.l 83 82,.f 82 6 1] (.tk 64 [.m 88 87,.pick 87 (.t 81) (.c (.bool true)) (.t 86)] (.test 88 RS (.tg 88 false 75 [.b 99 .neq 96 98,.l 98 97,.f 97 6 0,.l 96 95,.idx 95 1 (.t 94) (.i 0),.l 94 93,.idx 93 1 (.t 89) (.t 92),.bin 92 .sub (.t 91) (.i 1),.l 91 90,.f 90 6 1,.m 89 1] (.tk 76 [.pick 100 (.t 88) (.c (.bool true)) (.t 99)] .done)))))
def N3:DT:=(.tg 57 false 34 [.m 58 3] (.only 34 (some (57,false)) (.cx (some 59) [.t 58,.c (.int .i64 0),.c (.int .i64 1000)] Ab) false [] (.tg 57 false 36 [.un 60 .not (.t 59)] (.tk 38 [.m 62 61,.pick 61 (.t 57) (.c (.bool true)) (.t 60)] (.test 62 Pv (.tg 62 false 40 [.len 64 true (.t 63),.m 63 4] (.only 40 (some (62,false)) (.cx (some 65) [.t 64,.c (.int .i64 1),.c (.int .i64 12)] Ab) false [] (.tg 62 false 42 [.un 66 .not (.t 65)] (.tk 44 [.m 68 67,.pick 67 (.t 62) (.c (.bool true)) (.t 66)] (.test 68 Pu (.tg 68 false 47 [.bin 71 .gtr (.t 70) (.i 20),.len 70 true (.t 69),.m 69 5] (.tk 49 [.m 73 72,.pick 72 (.t 68) (.c (.bool true)) (.t 71)] (.test 73 Pt (.tg 73 false 52 [.m 76 75,.bin 75 .eql (.t 74) (.i 2),.m 74 2] (.test 76 (.tg 76 true 54 [.bin 78 .neq (.t 77) (.c (.str ⟨#[]⟩)),.m 77 5] (.tg 73 false 55 [.pick 79 (.t 76) (.t 78) (.c (.bool false))] (.tk 57 [.m 81 80,.pick 80 (.t 73) (.c (.bool true)) (.t 79)] (.test 81 Ps P1)))) (.sk 76 true 2 54 79 (.tg 73 false 55 [.pick 79 (.t 76) (.t 78) (.c (.bool false))] (.tk 57 [.m 81 80,.pick 80 (.t 73) (.c (.bool true)) (.t 79)] P1))))))))))))))))))
def JJ:AI:=(.seq (.seq (.region [.m 160 21,.m 161 20,.len 162 false (.t 161),.b 163 .lss 160 162] [2,6,12,16,17,18,19,20,21,163]) (.cond (.t 163) .skip (.exit 0))) (.seq (.block 1 [2,6,12,16,17,18,19,20,21] (.seq (.seq (.draw (Hc 7 [(1,[]),(2,[0,1]),(4,[]),(6,[3,5])]) (.tk 7 [.b 172 .eql 169 171,.l 171 170,.f 170 6 0,.l 169 168,.idx 168 1 (.t 166) (.t 167),.m 167 21,.m 166 20] .done) [2,6,12,16,17,18,19,20,21,172]) (.cond (.t 172) (.exit 1) .skip)) (.seq (.draw (Hc 13 [(2,[]),(3,[]),(4,[2,3]),(6,[]),(8,[]),(10,[1,5,7,9]),(11,[]),(12,[10,11])]) (.tk 11 [.bu 183 AK [(0,1,.c (.int .i64 7)),(1,1,.t 174),(2,1,.t 178),(3,1,.t 180),(4,1,.t 182)],.l 182 181,.f 181 18 8,.l 180 179,.f 179 6 1,.l 178 177,.idx 177 1 (.t 175) (.t 176),.m 176 21,.m 175 20,.l 174 173,.f 173 6 0] (.only 11 none (.al 22 AK) false [] (.only 12 none (.store (.t 22) (.t 183) 6 false) false [] .done))) [2,6,12,16,17,18,19,20,21,22]) (.seqc [2,6,12,16,17,18,19,20,21,22] (.seq (.region [.m 184 2,.bin 185 .eql (.t 184) (.i 1)] [2,6,12,16,17,18,19,20,21,22,185]) (.cond (.t 185) (.seq (.region [.f 186 22 0,.store (.t 186) (.i 5) 1 false] [2,6,12,16,17,18,19,20,21,22]) (.region [.ls 187 19 3,.brow 188 27 Z [.t 187],.f 189 22 5,.store (.t 189) (.t 188) 1 false] [2,6,12,16,17,18,19,20,21,22])) .skip)) (.region [.m 190 16,.ls 191 22 6,.blst 192 AK [.t 191],.app 193 34 AK (.t 190) (.t 192),.m 16 193] [2,6,12,16,17,18,19,20,21]))))) (.region [.m 164 21,.bin 165 .add (.t 164) (.i 1),.m 21 165] [2,6,12,16,17,18,19,20,21])))
def N4:AI:=(.seq (.region [.ls 194 18 16,.m 195 16,.m 196 17,.store (.t 12) (.t 194) 16 false,.m 13 195,.m 14 196,.mv 15 (.c (.bool true))] [12,13,14,15]) .ret)
def JK:AI:=(.seq (.region [.m 134 1,.f 135 6 1,.l 136 135,.bin 137 .sub (.t 136) (.i 1),.idx 138 1 (.t 134) (.t 137),.l 139 138,.m 20 139] [2,3,6,12,16,17,18,19,20]) (.seq (.draw (Hc 12 [(1,[]),(2,[]),(4,[]),(5,[]),(6,[]),(8,[5,7]),(9,[0,1,3,4,8])]) (.tk 8 [.l 147 146,.f 146 6 0,.m 145 20,.ls 144 19 3,.l 143 142,.f 142 18 8,.m 141 3,.m 140 2] (.only 8 none (.cl 148 [145,147] N0) false [] (.tk 11 [.f 150 18 9,.bu 149 JI [(0,1,.t 140),(1,1,.t 141),(2,1,.t 143),(3,3,.t 144),(6,1,.t 148)]] (.only 11 none (.store (.t 150) (.t 149) 7 false) false [] .done)))) [2,6,12,16,17,18,19,20]) (.seq (.seq (.region [.f 151 18 9,.f 152 151 6,.l 153 152,.len 154 false (.t 153),.bin 155 .eql (.t 154) (.i 0)] [2,6,12,16,17,18,19,20,155]) (.cond (.t 155) (.seq (.region [.cl 156 [18] N1,.m 17 156] [12,16,17,18]) (.seq (.region [.ls 157 18 16,.m 158 16,.m 159 17,.store (.t 12) (.t 157) 16 false,.m 13 158,.m 14 159,.mv 15 (.c (.bool true))] [12,13,14,15]) .ret)) .skip)) (.seq (.seq (.region [.mv 21 (.i 0)] [2,6,12,16,17,18,19,20,21]) (.block 0 [12,16,17,18] (.loop [2,6,12,16,17,18,19,20,21] JJ))) N4))))
def N5:AI:=(.seq (.region [.ls 104 6 16,.cl 105 [104] El,.al 18 U,.store (.t 18) (.t 105) 16 false] [1,2,3,4,5,6,12,16,17,18]) (.seq (.region [.f 106 6 8,.l 107 106,.bin 108 .add (.t 107) (.i 1),.f 109 18 8,.store (.t 109) (.t 108) 1 false] [1,2,3,4,5,6,12,16,17,18]) (.seq (.region [.m 110 4,.m 111 5,.f 112 6 1,.l 113 112,.bin 114 .mul (.i 1000) (.t 113),.f 115 18 8,.l 116 115,.b 117 .add 114 116,.bu 118 Z [(0,1,.t 110),(1,1,.t 111),(2,1,.t 117)],.al 19 Z,.store (.t 19) (.t 118) 3 false] [1,2,3,4,6,12,16,17,18,19]) (.seq (.seq (.draw (Hc 12 [(5,[2]),(6,[4,5]),(7,[2]),(8,[6,7]),(9,[2]),(10,[8,9])]) (.tk 3 [.m 121 120,.bin 120 .eql (.t 119) (.i 1),.m 119 2] (.test 121 (.tg 121 true 6 [.ls 124 19 3,.l 123 122,.f 122 6 7] (.tg 121 true 8 [.m 126 4] (.tg 121 true 10 [.ls 128 19 3] (.only 6 (some (121,true)) (.cl 125 [123,124] LQ) false [] (.only 8 (some (121,true)) (.cl 127 [125,126] Sw) false [] (.tg 121 true 11 [.eqs 129 true Z (.t 127) (.t 128)] (.tk 12 [.pick 130 (.t 121) (.t 129) (.c (.bool false))] .done))))))) (.sk 121 true 8 11 130 (.tk 12 [.pick 130 (.t 121) (.t 129) (.c (.bool false))] .done)))) [1,2,3,6,12,16,17,18,19,130]) (.cond (.t 130) (.seq (.region [.bu 131 U [],.m 132 16,.m 133 17,.store (.t 12) (.t 131) 16 false,.m 13 132,.m 14 133,.mv 15 (.c (.bool false))] [12,13,14,15]) .ret) .skip)) JK))))
def BG:Bi:=⟨[.val U,.val (.slice (.slice (.int .i64))),.val (.int .i64),.val (.int .i64),.val .str,.val .str],[⟨12,true,U⟩,⟨13,false,(.slice AK)⟩,⟨14,false,(.slice Aq)⟩,⟨15,false,.bool⟩],(.seq (.region [.box 6 (.t 0) false,.al 12 U,.mv 13 (.c (.nil)),.mv 14 (.c (.nil)),.mv 15 (.c (.bool false))] [1,2,3,4,5,6,12]) (.seq (.region [.brow 23 34 AK [],.m 16 23] [1,2,3,4,5,6,12,16]) (.seq (.region [.blst 24 Aq [],.m 17 24] [1,2,3,4,5,6,12,16,17]) (.seq (.seq (.draw (Hc 76 [(59,[56]),(61,[58,60]),(65,[63]),(68,[64,67]),(72,[63]),(74,[71,73])]) (.tk 1 [.ls 25 6 16] (.only 1 none (.cl 26 [25] KI) false [] (.tk 4 [.m 28 27,.un 27 .not (.t 26)] (.test 28 (.sk 28 false 3 7 32 (.tk 9 [.m 33 32,.pick 32 (.t 28) (.c (.bool true)) (.t 31)] P0)) (.tg 28 false 5 [.m 29 1] (.only 5 (some (28,false)) (.cl 30 [29] F8) false [] (.tg 28 false 7 [.un 31 .not (.t 30)] (.tk 9 [.m 33 32,.pick 32 (.t 28) (.c (.bool true)) (.t 31)] (.test 33 P0 (.tg 33 false 12 [.un 36 .not (.t 35),.l 35 34,.f 34 6 5] (.tk 14 [.m 38 37,.pick 37 (.t 33) (.c (.bool true)) (.t 36)] (.test 38 Pz (.tg 38 false 18 [.bin 42 .neq (.t 41) (.i 0),.l 41 40,.f 40 39 0,.f 39 6 9] (.tk 20 [.m 44 43,.pick 43 (.t 38) (.c (.bool true)) (.t 42)] (.test 44 Py (.tg 44 false 23 [.bin 47 .geq (.t 46) (.i 900),.l 46 45,.f 45 6 8] (.tk 25 [.m 49 48,.pick 48 (.t 44) (.c (.bool true)) (.t 47)] (.test 49 Px (.tg 49 false 28 [.m 52 51,.bin 51 .neq (.t 50) (.i 1),.m 50 2] (.test 52 (.tg 52 true 30 [.bin 54 .neq (.t 53) (.i 2),.m 53 2] (.tg 49 false 31 [.pick 55 (.t 52) (.t 54) (.c (.bool false))] (.tk 33 [.m 57 56,.pick 56 (.t 49) (.c (.bool true)) (.t 55)] (.test 57 Pw N3)))) (.sk 52 true 2 30 55 (.tg 49 false 31 [.pick 55 (.t 52) (.t 54) (.c (.bool false))] (.tk 33 [.m 57 56,.pick 56 (.t 49) (.c (.bool true)) (.t 55)] N3))))))))))))))))))))))) [1,2,3,4,5,6,12,16,17,100]) (.cond (.t 100) (.seq (.region [.bu 101 U [],.m 102 16,.m 103 17,.store (.t 12) (.t 101) 16 false,.m 13 102,.m 14 103,.mv 15 (.c (.bool false))] [12,13,14,15]) .ret) .skip)) N5))))⟩
theorem cK:BT Tryz.prog 18 BG=true:=by kernel_rfl
def P2:AI:=(.seq (.block 1 [0,3,4] (.region [.m 18 3,.bin 19 .mul (.t 18) (.i 131),.m 20 0,.m 21 4,.idx 22 1 (.t 20) (.t 21),.l 23 22,.cvi 24 .i64 (.t 23),.b 25 .add 19 24,.bin 26 .add (.t 25) (.i 7),.bin 27 .and (.t 26) (.i 1073741823),.m 3 27] [0,3,4])) (.region [.m 16 4,.bin 17 .add (.t 16) (.i 1),.m 4 17] [0,3,4]))
def P3:AI:=(.seq (.seq (.region [.m 8 4,.m 9 0,.len 10 false (.t 9),.b 11 .lss 8 10,.m 12 11,.sc 12 true [.m 13 4,.bin 14 .lss (.t 13) (.i 4000)] 15 (.t 14) (.c (.bool false))] [0,3,4,15]) (.cond (.t 15) .skip (.exit 0))) P2)
def P4:AI:=(.seq (.region [.m 28 0,.m 29 3,.bu 30 Aa [(0,1,.t 28),(2,1,.t 29)],.box 31 (.t 30) false,.m 2 31] [2]) .ret)
def Cn:Bi:=⟨[.val (.slice (.int .u8))],[⟨2,false,(.ref Aa)⟩],(.seq (.region [.mv 2 (.c (.undef))] [0]) (.seq (.region [.m 5 0,.len 6 false (.t 5),.bin 7 .add (.i 14301) (.t 6),.m 3 7] [0,3]) (.seq (.seq (.region [.mv 4 (.i 0)] [0,3,4]) (.block 0 [0,3] (.loop [0,3,4] P3))) P4)))⟩
theorem aZ:BT Tryz.prog 19 Cn=true:=by kernel_rfl
def G2:Bi:=⟨[.ptr Aa,.val (.slice (.int .u8))],[⟨4,true,AS⟩],(.seq (.region [.al 4 AS] [0,1,4]) (.seq (.region [.m 9 0,.m 10 1,.cl 11 [9,10] ZN,.al 5 TM,.store (.t 5) (.t 11) 2 false] [4,5]) (.seq (.region [.f 13 5 0,.l 14 13,.f 15 5 1,.l 16 15,.cl 17 [14,16] Xl,.m 12 17,.ext 18 (.t 12) 0,.ext 19 (.t 12) 1,.ext 20 (.t 12) 2,.al 6 AS,.store (.t 6) (.t 18) 4 false,.m 7 19,.m 8 20] [4,6]) (.seq (.region [.ls 21 6 4,.store (.t 4) (.t 21) 4 false] [4]) .ret))))⟩
theorem Xs:BT Tryz.prog 20 G2=true:=by kernel_rfl
def G3:Bi:=⟨[.ptr Aa,.val (.int .i64)],[⟨4,false,(.int .i64)⟩],(.seq (.region [.mv 4 (.i 0)] [0,1]) (.seq (.seq (.region [.m 9 1,.bin 10 .leq (.t 9) (.i 0)] [0,1,10]) (.cond (.t 10) (.seq (.region [.mv 4 (.i 0)] [4]) .ret) .skip)) (.seq (.seq (.region [.m 11 1,.bin 12 .leq (.t 11) (.i 256)] [0,1,12]) (.cond (.t 12) (.seq (.region [.m 13 0,.cl 14 [13] F_,.m 15 1,.b 16 .rem 14 15,.m 4 16] [4]) .ret) .skip)) (.seq (.region [.m 17 0,.cl 18 [17] F_,.m 5 18] [0,1,5]) (.seq (.region [.m 19 0,.cl 20 [19] F_,.m 6 20] [0,1,5,6]) (.seq (.region [.m 21 0,.cl 22 [21] F_,.m 7 22] [0,1,5,6,7]) (.seq (.region [.m 23 0,.cl 24 [23] F_,.m 8 24] [1,5,6,7,8]) (.seq (.region [.m 25 5,.bin 26 .mul (.t 25) (.i 16777216),.m 27 6,.bin 28 .mul (.t 27) (.i 65536),.b 29 .add 26 28,.m 30 7,.bin 31 .mul (.t 30) (.i 256),.b 32 .add 29 31,.m 33 8,.b 34 .add 32 33,.m 35 1,.b 36 .rem 34 35,.m 4 36] [4]) .ret))))))))⟩
theorem Xt:BT Tryz.prog 21 G3=true:=by kernel_rfl
def Kz:Bi:=⟨[.val (.int .i64),.val (.int .i64),.val (.int .i64)],[⟨6,false,.bool⟩],(.seq (.region [.mv 6 (.c (.bool false))] [0,1,2]) (.seq (.region [.m 7 0,.m 8 1,.b 9 .geq 7 8,.m 10 9,.sc 10 true [.m 11 0,.m 12 2,.b 13 .leq 11 12] 14 (.t 13) (.c (.bool false)),.m 6 14] [6]) .ret))⟩
theorem cL:BT Tryz.prog 23 Kz=true:=by kernel_rfl
def Fk:Bi:=⟨[.val U],[⟨2,true,U⟩],(.seq (.region [.box 1 (.t 0) false,.al 2 U] [1,2]) (.seq (.draw (Hc 17 [(3,[]),(5,[2,4]),(6,[]),(9,[5,8]),(10,[2,4,8]),(11,[9,10])]) (.tk 2 [.l 4 3,.f 3 1 6] (.tk 5 [.l 7 6,.f 6 1 7] (.tk 9 [.l 11 10,.f 10 9 6,.f 9 1 9] (.only 2 none (.cl 5 [4] FA) false [] (.tk 11 [.f 13 1 6] (.only 5 none (.cl 8 [7] BX) false [] (.only 9 none (.cl 12 [11] FA) false [] (.only 11 none (.store (.t 13) (.t 5) 1 false) false [] (.tk 13 [.f 14 1 7] (.only 13 none (.store (.t 14) (.t 8) 1 false) false [] (.tk 16 [.f 16 15 6,.f 15 1 9] (.only 16 none (.store (.t 16) (.t 12) 1 false) false [] .done)))))))))))) [1,2]) (.seq (.region [.ls 17 1 16,.store (.t 2) (.t 17) 16 false] [2]) .ret)))⟩
theorem UY:BT Tryz.prog 24 Fk=true:=by kernel_rfl
def N6:AI:=(.seq (.region [.b 16 .lss 15 14] [0,4,7,8,9,13,14,15,16]) (.seq (.cond (.t 16) .skip (.exit 2)) (.seq (.block 3 [0,4,7,8,9,13,14,15] (.seq (.region [.m 17 15,.idx 18 1 (.t 13) (.t 15),.l 19 18,.m 5 17,.m 6 19] [0,4,5,6,7,8,9,13,14,15]) (.seq (.region [.m 20 6,.cl 21 [20] Sv,.un 22 .not (.t 21),.m 23 22,.sc 23 false [.m 24 4,.m 25 6,.cl 26 [24,25] PR,.m 27 5,.b 28 .neq 26 27] 29 (.c (.bool true)) (.t 28)] [0,4,7,8,9,13,14,15,29]) (.cond (.t 29) (.seq (.region [.mv 2 (.c (.bool false))] [2]) .ret) .skip)))) (.region [.bin 30 .add (.t 15) (.i 1),.m 15 30] [0,4,7,8,9,13,14,15]))))
def JL:AI:=(.seq (.region [.m 31 4,.len 32 false (.t 31),.cx (some 33) [.t 32,.c (.int .i64 1),.c (.int .i64 4)] BM,.un 34 .not (.t 33)] [0,7,8,9,34]) (.cond (.t 34) (.seq (.region [.mv 2 (.c (.bool false))] [2]) .ret) .skip))
def MU:AI:=(.region [.bin 35 .add (.t 9) (.i 1),.m 9 35] [0,7,8,9])
def MV:AI:=(.seq (.region [.b 10 .lss 9 8] [0,7,8,9,10]) (.seq (.cond (.t 10) .skip (.exit 0)) (.seq (.block 1 [0,7,8,9] (.seq (.region [.idx 11 1 (.t 7) (.t 9),.l 12 11,.m 4 12] [0,4,7,8,9]) (.seq (.seq (.region [.m 13 4,.len 14 false (.t 13),.mv 15 (.i 0)] [0,4,7,8,9,13,14,15]) (.block 2 [0,4,7,8,9] (.loop [0,4,7,8,9,13,14,15] N6))) JL))) MU)))
def MW:AI:=(.seq (.region [.m 36 0,.len 37 false (.t 36),.cx (some 38) [.t 37,.c (.int .i64 1),.c (.int .i64 9)] BM,.m 2 38] [2]) .ret)
def BN:Bi:=⟨[.val (.slice (.slice (.int .i64)))],[⟨2,false,.bool⟩],(.seq (.region [.mv 2 (.c (.bool false))] [0]) (.seq (.seq (.region [.m 7 0,.len 8 false (.t 7),.mv 9 (.i 0)] [0,7,8,9]) (.block 0 [0] (.loop [0,7,8,9] MV))) MW))⟩
theorem ZV:BT Tryz.prog 25 BN=true:=by kernel_rfl
def IF:Bi:=⟨[.val U],[⟨2,true,U⟩],(.seq (.region [.box 1 (.t 0) false,.al 2 U] [1,2]) (.seq (.region [.brow 3 3 (.int .i64) [],.f 4 1 6,.l 5 4,.app 6 3 (.int .i64) (.t 3) (.t 5),.f 7 1 6,.store (.t 7) (.t 6) 1 false] [1,2]) (.seq (.region [.brow 8 27 Z [],.f 9 1 7,.l 10 9,.app 11 27 Z (.t 8) (.t 10),.f 12 1 7,.store (.t 12) (.t 11) 1 false] [1,2]) (.seq (.region [.brow 13 3 (.int .i64) [],.f 14 1 9,.f 15 14 6,.l 16 15,.app 17 3 (.int .i64) (.t 13) (.t 16),.f 18 1 9,.f 19 18 6,.store (.t 19) (.t 17) 1 false] [1,2]) (.seq (.region [.ls 20 1 16,.store (.t 2) (.t 20) 16 false] [2]) .ret)))))⟩
theorem ZW:BT Tryz.prog 28 IF=true:=by kernel_rfl
def MX:AI:=(.seq (.region [.f 71 1 9,.ls 72 71 7,.al 3 JI,.store (.t 3) (.t 72) 7 false] [1,3]) (.seq (.region [.ls 73 3 7,.cl 74 [73] WB,.m 75 74,.sc 75 false [.f 76 3 0,.l 77 76,.bin 78 .eql (.t 77) (.i 1),.m 79 78,.sc 79 false [.f 80 3 0,.l 81 80,.bin 82 .eql (.t 81) (.i 2)] 83 (.c (.bool true)) (.t 82),.m 84 83,.sc 84 true [.f 85 1 5,.l 86 85] 87 (.t 86) (.c (.bool false)),.m 88 87,.sc 88 true [.f 89 3 1,.l 90 89,.cx (some 91) [.t 90,.c (.int .i64 0),.c (.int .i64 1000)] Ab] 92 (.t 91) (.c (.bool false)),.m 93 92,.sc 93 true [.f 94 3 2,.l 95 94,.cx (some 96) [.t 95,.c (.int .i64 1),.c (.int .i64 900)] Ab] 97 (.t 96) (.c (.bool false))] 98 (.c (.bool true)) (.t 97),.m 2 98] [2]) .ret))
def EB:Bi:=⟨[.val U],[⟨2,false,.bool⟩],(.seq (.region [.box 1 (.t 0) false,.mv 2 (.c (.bool false))] [1]) (.seq (.seq (.region [.f 4 1 0,.l 5 4,.cx (some 6) [.t 5,.c (.int .i64 1),.c (.int .i64 6)] Ab,.un 7 .not (.t 6),.m 8 7,.sc 8 false [.f 9 1 1,.l 10 9,.cx (some 11) [.t 10,.c (.int .i64 1),.c (.int .i64 9)] Ab,.un 12 .not (.t 11)] 13 (.c (.bool true)) (.t 12),.m 14 13,.sc 14 false [.f 15 1 5,.l 16 15,.m 17 16,.sc 17 true [.f 18 1 3,.l 19 18,.un 20 .not (.t 19),.m 21 20,.sc 21 false [.f 22 1 4,.l 23 22,.un 24 .not (.t 23)] 25 (.c (.bool true)) (.t 24),.m 26 25,.sc 26 false [.f 27 1 6,.l 28 27,.len 29 false (.t 28),.bin 30 .gtr (.t 29) (.i 0)] 31 (.c (.bool true)) (.t 30)] 32 (.t 31) (.c (.bool false))] 33 (.c (.bool true)) (.t 32),.m 34 33,.sc 34 false [.f 35 1 2,.l 36 35,.m 37 36,.sc 37 true [.f 38 1 3,.l 39 38,.m 40 39,.sc 40 false [.f 41 1 4,.l 42 41] 43 (.c (.bool true)) (.t 42)] 44 (.t 43) (.c (.bool false))] 45 (.c (.bool true)) (.t 44),.m 46 45,.sc 46 false [.f 47 1 6,.l 48 47,.cl 49 [48] Sx,.un 50 .not (.t 49)] 51 (.c (.bool true)) (.t 50),.m 52 51,.sc 52 false [.f 53 1 9,.f 54 53 6,.l 55 54,.cl 56 [55] Sx,.un 57 .not (.t 56)] 58 (.c (.bool true)) (.t 57),.m 59 58,.sc 59 false [.f 60 1 7,.l 61 60,.cl 62 [61] IC,.un 63 .not (.t 62)] 64 (.c (.bool true)) (.t 63),.m 65 64,.sc 65 false [.f 66 1 8,.l 67 66,.cx (some 68) [.t 67,.c (.int .i64 0),.c (.int .i64 900)] Ab,.un 69 .not (.t 68)] 70 (.c (.bool true)) (.t 69)] [1,70]) (.cond (.t 70) (.seq (.region [.mv 2 (.c (.bool false))] [2]) .ret) .skip)) MX))⟩
theorem Xu:BT Tryz.prog 29 EB=true:=by kernel_rfl
def N7:AI:=(.seq (.seq (.region [.m 4 3,.m 5 0,.len 6 false (.t 5),.b 7 .lss 4 6] [0,3,7]) (.cond (.t 7) .skip (.exit 0))) (.seq (.block 1 [0,3] (.seq (.region [.m 10 0,.m 11 3,.idx 12 1 (.t 10) (.t 11),.l 13 12,.cl 14 [13] ZO,.un 15 .not (.t 14)] [0,3,15]) (.cond (.t 15) (.seq (.region [.mv 2 (.c (.bool false))] [2]) .ret) .skip))) (.region [.m 8 3,.bin 9 .add (.t 8) (.i 1),.m 3 9] [0,3])))
def N8:AI:=(.seq (.region [.m 16 0,.len 17 false (.t 16),.cx (some 18) [.t 17,.c (.int .i64 1),.c (.int .i64 9)] Ab,.m 2 18] [2]) .ret)
def Cu:Bi:=⟨[.val (.slice (.slice (.int .i64)))],[⟨2,false,.bool⟩],(.seq (.region [.mv 2 (.c (.bool false))] [0]) (.seq (.seq (.region [.mv 3 (.i 0)] [0,3]) (.block 0 [0] (.loop [0,3] N7))) N8))⟩
theorem ZX:BT Tryz.prog 30 Cu=true:=by kernel_rfl
def P5:AI:=(.cond (.t 28) (.seq (.region [.m 29 1,.f 30 5 5,.l 31 30,.cl 32 [9,29,31] Sy,.m 12 32] [6,9,11,12]) (.seq (.region [.ls 33 9 16,.m 34 12,.m 35 11,.store (.t 6) (.t 33) 16 false,.m 7 34,.m 8 35] [6,7,8]) .ret)) .skip)
def P6:AI:=(.seqc [3,5,6,9,11] (.seq (.region [.f 64 9 3,.l 65 64,.un 66 .not (.t 65)] [3,5,6,9,11,66]) (.cond (.t 66) (.seq (.region [.ls 67 3 16,.f 68 3 1,.l 69 68,.cl 70 [67,69] RI,.store (.t 9) (.t 70) 16 false] [3,5,6,9,11]) (.seq (.region [.f 71 9 3,.store (.t 71) (.c (.bool true)) 1 false] [3,5,6,9,11]) (.region [.brow 72 27 Z [],.f 73 5 5,.l 74 73,.app 75 27 Z (.t 72) (.t 74),.f 76 9 7,.store (.t 76) (.t 75) 1 false] [3,5,6,9,11]))) .skip)) (.seq (.draw (Hc 8 [(1,[]),(2,[]),(3,[1,2]),(4,[]),(5,[0,3]),(7,[4,6])]) (.tk 3 [.ls 79 5 6,.ls 78 3 16,.ls 77 9 16] (.tk 5 [.m 81 11] (.only 3 none (.cx (some 80) [.t 78,.t 79,.c (.int .i64 4)] G1) false [] (.only 5 none (.store (.t 6) (.t 77) 16 false) false [] (.tk 8 [.m 8 81,.m 7 80] .done))))) [6,7,8]) .ret))
def P7:AI:=(.seq (.seq (.region [.f 54 9 3,.l 55 54,.un 56 .not (.t 55),.m 57 56,.sc 57 true [.f 58 9 2,.l 59 58] 60 (.t 59) (.c (.bool false))] [3,5,6,9,10,11,60]) (.cond (.t 60) (.seq (.region [.ls 61 9 16,.m 62 10,.m 63 11,.store (.t 6) (.t 61) 16 false,.m 7 62,.m 8 63] [6,7,8]) .ret) .skip)) P6)
def N9:AI:=(.seq (.region [.f 149 9 9,.f 150 149 6,.l 151 150,.f 152 5 1,.l 153 152,.cl 154 [151,153] MK,.f 155 9 9,.f 156 155 6,.store (.t 156) (.t 154) 1 false] [6,9,10,11]) (.seq (.region [.f 157 9 9,.f 158 157 6,.l 159 158,.len 160 false (.t 159),.bin 161 .eql (.t 160) (.i 0)] [6,9,10,11,161]) (.cond (.t 161) (.region [.cl 162 [9] N1,.m 11 162] [6,9,10,11]) .skip)))
def N_:AI:=(.seq (.seq (.region [.f 133 9 9,.f 134 133 0,.l 135 134,.m 136 13,.b 137 .neq 135 136,.m 138 137,.sc 138 false [.f 139 9 9,.f 140 139 2,.l 141 140,.f 142 5 4,.l 143 142,.b 144 .neq 141 143] 145 (.c (.bool true)) (.t 144)] [5,6,9,10,11,145]) (.cond (.t 145) (.seq (.region [.ls 146 9 16,.m 147 10,.m 148 11,.store (.t 6) (.t 146) 16 false,.m 7 147,.m 8 148] [6,7,8]) .ret) .skip)) N9)
def OA:AI:=(.cond (.t 127) (.seq (.region [.mv 13 (.i 1)] [5,6,9,10,11,13]) (.seqc [5,6,9,10,11,13] (.seq (.region [.f 130 5 0,.l 131 130,.bin 132 .eql (.t 131) (.i 8)] [5,6,9,10,11,13,132]) (.cond (.t 132) (.region [.mv 13 (.i 2)] [5,6,9,10,11,13]) .skip)) N_)) .skip)
def OB:AI:=(.seq (.region [.ls 163 9 16,.m 164 10,.m 165 11,.store (.t 6) (.t 163) 16 false,.m 7 164,.m 8 165] [6,7,8]) .ret)
def Bp:Bi:=⟨[.val U,.val (.slice (.int .i64)),.val AK],[⟨6,true,U⟩,⟨7,false,(.slice AK)⟩,⟨8,false,(.slice Aq)⟩],(.seq (.region [.box 3 (.t 0) false,.box 5 (.t 2) false,.al 6 U,.mv 7 (.c (.nil)),.mv 8 (.c (.nil))] [1,3,5,6]) (.seq (.region [.ls 14 3 16,.cl 15 [14] El,.al 9 U,.store (.t 9) (.t 15) 16 false] [1,3,5,6,9]) (.seq (.region [.blst 16 AK [],.m 10 16] [1,3,5,6,9,10]) (.seq (.region [.blst 17 Aq [],.m 11 17] [1,3,5,6,9,10,11]) (.seq (.seq (.region [.f 18 5 0,.l 19 18] [1,3,5,6,9,10,11,19]) (.block 0 [6,9,10,11] (.seq (.region [.bin 21 .eql (.t 19) (.i 2),.m 20 21] [1,3,5,6,9,10,11,19,20]) (.cond (.t 20) (.seq (.region [.f 22 9 4,.l 23 22,.m 24 23,.sc 24 true [.f 25 9 3,.l 26 25,.un 27 .not (.t 26)] 28 (.t 27) (.c (.bool false))] [1,5,6,9,10,11,28]) P5) (.seq (.region [.bin 37 .eql (.t 19) (.i 3),.m 36 37] [1,3,5,6,9,10,11,19,36]) (.cond (.t 36) (.seq (.seq (.draw (Hc 13 [(1,[]),(3,[0,2]),(9,[5]),(11,[8,10])]) (.tk 3 [.l 40 39,.f 39 3 0,.m 38 1] (.only 3 none (.cl 41 [38,40] EJ) false [] (.tk 6 [.m 43 42,.un 42 .not (.t 41)] (.test 43 (.sk 43 false 6 12 50 (.tk 13 [.pick 50 (.t 43) (.c (.bool true)) (.t 49)] .done)) (.tg 43 false 12 [.b 49 .eql 46 48,.l 48 47,.f 47 3 0,.l 46 45,.idx 45 1 (.t 44) (.i 0),.m 44 1] (.tk 13 [.pick 50 (.t 43) (.c (.bool true)) (.t 49)] .done)))))) [3,5,6,9,10,11,50]) (.cond (.t 50) (.seq (.region [.ls 51 9 16,.m 52 10,.m 53 11,.store (.t 6) (.t 51) 16 false,.m 7 52,.m 8 53] [6,7,8]) .ret) .skip)) P7) (.seq (.region [.bin 83 .eql (.t 19) (.i 4),.m 82 83] [3,5,6,9,10,11,19,82]) (.cond (.t 82) (.seq (.region [.f 84 9 4,.l 85 84] [5,6,9,10,11,85]) (.cond (.t 85) (.seq (.region [.f 86 9 6,.l 87 86,.f 88 5 1,.l 89 88,.cl 90 [87,89] MK,.f 91 9 6,.store (.t 91) (.t 90) 1 false] [6,9,10,11]) (.region [.f 92 9 3,.l 93 92,.m 94 93,.sc 94 true [.f 95 9 6,.l 96 95,.len 97 false (.t 96),.bin 98 .eql (.t 97) (.i 0)] 99 (.t 98) (.c (.bool false)),.f 100 9 5,.store (.t 100) (.t 99) 1 false] [6,9,10,11])) .skip)) (.seq (.region [.bin 102 .eql (.t 19) (.i 5),.m 101 102] [3,5,6,9,10,11,19,101]) (.cond (.t 101) (.seq (.region [.f 103 9 3,.l 104 103] [3,5,6,9,10,11,104]) (.cond (.t 104) (.seq (.draw (Hc 9 [(2,[]),(6,[1,5])]) (.tk 6 [.ls 110 109 3,.idx 109 3 (.t 108) (.i 0),.l 108 107,.f 107 5 5,.l 106 105,.f 105 9 7] (.only 6 none (.cl 111 [106,110] LQ) false [] (.tk 8 [.f 112 9 7] (.only 8 none (.store (.t 112) (.t 111) 1 false) false [] .done)))) [3,5,6,9,11]) (.seq (.draw (Hc 8 [(1,[]),(2,[]),(3,[1,2]),(4,[]),(5,[0,3]),(7,[4,6])]) (.tk 3 [.ls 115 5 6,.ls 114 3 16,.ls 113 9 16] (.tk 5 [.m 117 11] (.only 3 none (.cx (some 116) [.t 114,.t 115,.c (.int .i64 6)] G1) false [] (.only 5 none (.store (.t 6) (.t 113) 16 false) false [] (.tk 8 [.m 8 117,.m 7 116] .done))))) [6,7,8]) .ret)) .skip)) (.seq (.region [.bin 119 .eql (.t 19) (.i 7),.m 118 119] [3,5,6,9,10,11,19,118]) (.cond (.t 118) (.seq (.region [.f 120 9 3,.l 121 120] [3,5,6,9,10,11,121]) (.cond (.t 121) (.seq (.draw (Hc 8 [(1,[]),(2,[]),(3,[1,2]),(4,[]),(5,[0,3]),(7,[4,6])]) (.tk 3 [.ls 124 5 6,.ls 123 3 16,.ls 122 9 16] (.tk 5 [.m 126 11] (.only 3 none (.cx (some 125) [.t 123,.t 124,.c (.int .i64 8)] G1) false [] (.only 5 none (.store (.t 6) (.t 122) 16 false) false [] (.tk 8 [.m 8 126,.m 7 125] .done))))) [6,7,8]) .ret) .skip)) (.seqc [5,6,9,10,11,127] (.seq (.region [.bin 128 .eql (.t 19) (.i 6),.m 127 128] [5,6,9,10,11,19,127]) (.cond (.t 127) .skip (.region [.bin 129 .eql (.t 19) (.i 8),.m 127 129] [5,6,9,10,11,127]))) OA))))))))))))) OB)))))⟩
theorem aa:BT Tryz.prog 31 Bp=true:=by kernel_rfl
def RU:AI:=(.seq (.seq (.region [.m 6 5,.m 7 0,.len 8 false (.t 7),.b 9 .lss 6 8] [0,1,5,9]) (.cond (.t 9) .skip (.exit 0))) (.seq (.block 1 [0,1,5] (.seq (.region [.m 12 0,.m 13 5,.idx 14 1 (.t 12) (.t 13),.l 15 14,.m 16 1,.b 17 .eql 15 16] [0,1,5,17]) (.cond (.t 17) (.seq (.region [.mv 4 (.c (.bool true))] [4]) .ret) .skip))) (.region [.m 10 5,.bin 11 .add (.t 10) (.i 1),.m 5 11] [0,1,5])))
def RV:AI:=(.seq (.region [.mv 4 (.c (.bool false))] [4]) .ret)
def EK:Bi:=⟨[.val (.slice (.int .i64)),.val (.int .i64)],[⟨4,false,.bool⟩],(.seq (.region [.mv 4 (.c (.bool false))] [0,1]) (.seq (.seq (.region [.mv 5 (.i 0)] [0,1,5]) (.block 0 [] (.loop [0,1,5] RU))) RV))⟩
theorem cM:BT Tryz.prog 32 EK=true:=by kernel_rfl
def IG:Bi:=⟨[.val U,.val (.int .i64)],[⟨4,true,U⟩],(.seq (.region [.box 2 (.t 0) false,.al 4 U] [1,2,4]) (.seq (.draw (Hc 9 [(2,[]),(3,[]),(4,[]),(6,[3,5]),(7,[1,2,6])]) (.tk 3 [.m 7 1,.l 6 5,.f 5 2 0] (.tk 6 [.l 10 9,.f 9 2 7] (.only 3 none (.brow 8 27 Z []) false [] (.only 6 none (.apz 11 27 Z (.t 8) (.t 10)) false [] (.tk 8 [.bu 12 U [(0,1,.t 6),(1,1,.t 7),(7,1,.t 11),(8,1,.c (.int .i64 0))]] (.only 8 none (.store (.t 4) (.t 12) 16 false) false [] .done)))))) [4]) .ret))⟩
theorem ZY:BT Tryz.prog 33 IG=true:=by kernel_rfl
def G4:Bi:=⟨[.val U,.val AK,.val (.int .i64)],[⟨6,false,(.slice AK)⟩],(.seq (.region [.box 3 (.t 0) false,.box 4 (.t 1) false,.mv 6 (.c (.nil))] [2,3,4]) (.seq (.region [.m 7 2,.f 8 3 0,.l 9 8,.f 10 4 1,.l 11 10,.f 12 4 3,.l 13 12,.f 14 4 4,.l 15 14,.bu 16 AK [(0,1,.t 7),(1,1,.t 9),(2,1,.t 11),(3,1,.t 13),(4,1,.t 15)],.brow 17 34 AK [.t 16],.m 6 17] [6]) .ret))⟩
theorem Xv:BT Tryz.prog 34 G4=true:=by kernel_rfl
def Jh:Bi:=⟨[.val (.int .i64)],[⟨2,false,.bool⟩],(.seq (.region [.mv 2 (.c (.bool false))] [0]) (.seq (.region [.m 3 0,.cx (some 4) [.t 3,.c (.int .i64 1),.c (.int .i64 6)] BM,.m 2 4] [2]) .ret))⟩
theorem ae:BT Tryz.prog 35 Jh=true:=by kernel_rfl
def IH:Bi:=⟨[.val (.int .i64),.val (.int .i64),.val (.int .i64)],[⟨6,false,.bool⟩],(.seq (.region [.mv 6 (.c (.bool false))] [0,1,2]) (.seq (.region [.m 7 0,.m 8 1,.b 9 .geq 7 8,.m 10 9,.sc 10 true [.m 11 0,.m 12 2,.b 13 .leq 11 12] 14 (.t 13) (.c (.bool false)),.m 6 14] [6]) .ret))⟩
theorem ZZ:BT Tryz.prog 36 IH=true:=by kernel_rfl
def Jw:AI:=(.seq (.region [.b 12 .lss 11 10] [0,1,2,9,10,11,12]) (.seq (.cond (.t 12) .skip (.exit 0)) (.seq (.block 1 [0,1,2,9,10,11] (.seq (.region [.m 13 11,.idx 14 1 (.t 9) (.t 11),.l 15 14,.m 7 13,.m 8 15] [0,1,2,7,8,9,10,11]) (.seq (.region [.m 16 8,.m 17 1,.m 18 2,.cl 19 [16,17,18] BM,.un 20 .not (.t 19),.m 21 20,.sc 21 false [.m 22 7,.bin 23 .gtr (.t 22) (.i 0),.m 24 23,.sc 24 true [.m 25 8,.m 26 0,.m 27 7,.bin 28 .sub (.t 27) (.i 1),.idx 29 1 (.t 26) (.t 28),.l 30 29,.b 31 .leq 25 30] 32 (.t 31) (.c (.bool false))] 33 (.c (.bool true)) (.t 32)] [0,1,2,9,10,11,33]) (.cond (.t 33) (.seq (.region [.mv 6 (.c (.bool false))] [6]) .ret) .skip)))) (.region [.bin 34 .add (.t 11) (.i 1),.m 11 34] [0,1,2,9,10,11]))))
def Jx:AI:=(.seq (.region [.mv 6 (.c (.bool true))] [6]) .ret)
def Bn:Bi:=⟨[.val (.slice (.int .i64)),.val (.int .i64),.val (.int .i64)],[⟨6,false,.bool⟩],(.seq (.region [.mv 6 (.c (.bool false))] [0,1,2]) (.seq (.seq (.region [.m 9 0,.len 10 false (.t 9),.mv 11 (.i 0)] [0,1,2,9,10,11]) (.block 0 [] (.loop [0,1,2,9,10,11] Jw))) Jx))⟩
theorem TR:BT Tryz.prog 37 Bn=true:=by kernel_rfl
def MY:DT:=(.sk 28 false 3 20 32 (.sk 31 true 9 29 41 (.sk 28 false 1 30 42 (.tk 31 [.pick 42 (.t 28) (.c (.bool true)) (.t 41)] .done))))
def MZ:DT:=(.sk 22 false 4 15 27 (.tk 17 [.m 28 27,.pick 27 (.t 22) (.c (.bool true)) (.t 26)] MY))
def Ma:DT:=(.tg 28 false 30 [.pick 41 (.t 31) (.t 40) (.c (.bool false))] (.tk 31 [.pick 42 (.t 28) (.c (.bool true)) (.t 41)] .done))
def Mb:AI:=(.seq (.region [.b 8 .lss 7 6] [0,5,6,7,8]) (.seq (.cond (.t 8) .skip (.exit 0)) (.seq (.block 1 [0,5,6,7] (.seq (.region [.m 9 7,.idx 10 3 (.t 5) (.t 7),.ls 11 10 3,.al 4 Z,.m 3 9,.store (.t 4) (.t 11) 3 false] [0,3,4,5,6,7]) (.seq (.draw (Hc 31 [(22,[19]),(23,[19]),(25,[22,24]),(28,[21,27])]) (.tk 2 [.l 13 12,.f 12 4 0] (.only 2 none (.cl 14 [13] UT) false [] (.tk 5 [.m 16 15,.un 15 .not (.t 14)] (.test 16 (.sk 16 false 4 9 21 (.tk 11 [.m 22 21,.pick 21 (.t 16) (.c (.bool true)) (.t 20)] MZ)) (.tg 16 false 9 [.bin 20 .gtr (.t 19) (.i 20),.len 19 true (.t 18),.l 18 17,.f 17 4 1] (.tk 11 [.m 22 21,.pick 21 (.t 16) (.c (.bool true)) (.t 20)] (.test 22 MZ (.tg 22 false 13 [.l 24 23,.f 23 4 2] (.only 13 (some (22,false)) (.cx (some 25) [.t 24,.c (.int .i64 1),.c (.int .i64 1000000000)] BM) false [] (.tg 22 false 15 [.un 26 .not (.t 25)] (.tk 17 [.m 28 27,.pick 27 (.t 22) (.c (.bool true)) (.t 26)] (.test 28 MY (.tg 28 false 20 [.m 31 30,.bin 30 .gtr (.t 29) (.i 0),.m 29 3] (.test 31 (.tg 31 true 29 [.b 40 .leq 33 39,.l 39 38,.f 38 37 0,.idx 37 3 (.t 34) (.t 36),.bin 36 .sub (.t 35) (.i 1),.m 35 3,.m 34 0,.l 33 32,.f 32 4 0] Ma) (.sk 31 true 9 29 41 Ma))))))))))))))) [0,5,6,7,42]) (.cond (.t 42) (.seq (.region [.mv 2 (.c (.bool false))] [2]) .ret) .skip)))) (.region [.bin 43 .add (.t 7) (.i 1),.m 7 43] [0,5,6,7]))))
def Mc:AI:=(.seq (.region [.m 44 0,.len 45 false (.t 44),.bin 46 .leq (.t 45) (.i 12),.m 2 46] [2]) .ret)
def Cv:Bi:=⟨[.val (.slice Z)],[⟨2,false,.bool⟩],(.seq (.region [.mv 2 (.c (.bool false))] [0]) (.seq (.seq (.region [.m 5 0,.len 6 false (.t 5),.mv 7 (.i 0)] [0,5,6,7]) (.block 0 [0] (.loop [0,5,6,7] Mb))) Mc))⟩
theorem Za:BT Tryz.prog 38 Cv=true:=by kernel_rfl
end
end Go.Proofs.YtaedipailemlcaaGreat.Core

namespace Go.Proofs.YtaedipailemlcaaGreat.Core
open Go IntKind
set_option linter.unusedVariables false
set_option maxRecDepth 100000
noncomputable section
def EL:Bi:=⟨[.ptr U],[⟨2,false,.bool⟩],(.seq (.region [.mv 2 (.c (.bool false))] [0]) (.seq (.region [.m 4 0,.n 5 4,.f 6 5 9,.ls 7 6 7,.al 3 JI,.store (.t 3) (.t 7) 7 false] [0,3]) (.seq (.seq (.region [.f 8 3 0,.l 9 8,.bin 10 .eql (.t 9) (.i 0)] [0,3,10]) (.cond (.t 10) (.seq (.region [.f 11 3 1,.l 12 11,.bin 13 .eql (.t 12) (.i 0),.m 14 13,.sc 14 true [.f 15 3 2,.l 16 15,.bin 17 .eql (.t 16) (.i 0)] 18 (.t 17) (.c (.bool false)),.m 19 18,.sc 19 true [.f 20 3 3,.ls 21 20 3,.bu 22 Z [],.eqs 23 false Z (.t 21) (.t 22)] 24 (.t 23) (.c (.bool false)),.m 25 24,.sc 25 true [.f 26 3 6,.l 27 26,.len 28 false (.t 27),.bin 29 .eql (.t 28) (.i 0)] 30 (.t 29) (.c (.bool false)),.m 2 30] [2]) .ret) .skip)) (.seq (.region [.f 31 3 0,.l 32 31,.cx (some 33) [.t 32,.c (.int .i64 1),.c (.int .i64 2)] BM,.m 34 33,.sc 34 true [.m 35 0,.n 36 35,.f 37 36 5,.l 38 37] 39 (.t 38) (.c (.bool false)),.m 40 39,.sc 40 true [.f 41 3 1,.l 42 41,.cx (some 43) [.t 42,.c (.int .i64 0),.c (.int .i64 1000)] BM] 44 (.t 43) (.c (.bool false)),.m 45 44,.sc 45 true [.f 46 3 2,.l 47 46,.cx (some 48) [.t 47,.c (.int .i64 1),.c (.int .i64 900)] BM] 49 (.t 48) (.c (.bool false)),.m 50 49,.sc 50 true [.f 51 3 6,.l 52 51,.cx (some 53) [.t 52,.c (.int .i64 1),.c (.int .i64 6)] LO] 54 (.t 53) (.c (.bool false)),.m 2 54] [2]) .ret))))⟩
theorem RW:BT Tryz.prog 39 EL=true:=by kernel_rfl
def Md:DT:=(.sk 32 false 3 21 36 (.sk 35 true 9 30 45 (.sk 32 false 1 31 46 (.tk 32 [.pick 46 (.t 32) (.c (.bool true)) (.t 45)] .done))))
def Me:DT:=(.sk 26 false 4 16 31 (.tk 18 [.m 32 31,.pick 31 (.t 26) (.c (.bool true)) (.t 30)] Md))
def Mf:DT:=(.tg 32 false 31 [.pick 45 (.t 35) (.t 44) (.c (.bool false))] (.tk 32 [.pick 46 (.t 32) (.c (.bool true)) (.t 45)] .done))
def Mg:AI:=(.seq (.seq (.region [.m 5 3,.m 6 0,.len 7 false (.t 6),.b 8 .lss 5 7] [0,3,8]) (.cond (.t 8) .skip (.exit 0))) (.seq (.block 1 [0,3] (.seq (.region [.m 11 0,.m 12 3,.idx 13 3 (.t 11) (.t 12),.ls 14 13 3,.al 4 Z,.store (.t 4) (.t 14) 3 false] [0,3,4]) (.seq (.draw (Hc 32 [(22,[20]),(24,[21,23]),(27,[20]),(29,[26,28])]) (.tk 3 [.len 17 true (.t 16),.l 16 15,.f 15 4 0] (.only 3 none (.cx (some 18) [.t 17,.c (.int .i64 1),.c (.int .i64 12)] Ab) false [] (.tk 6 [.m 20 19,.un 19 .not (.t 18)] (.test 20 (.sk 20 false 4 10 25 (.tk 12 [.m 26 25,.pick 25 (.t 20) (.c (.bool true)) (.t 24)] Me)) (.tg 20 false 10 [.bin 24 .gtr (.t 23) (.i 20),.len 23 true (.t 22),.l 22 21,.f 21 4 1] (.tk 12 [.m 26 25,.pick 25 (.t 20) (.c (.bool true)) (.t 24)] (.test 26 Me (.tg 26 false 14 [.l 28 27,.f 27 4 2] (.only 14 (some (26,false)) (.cx (some 29) [.t 28,.c (.int .i64 1),.c (.int .i64 1000000000)] Ab) false [] (.tg 26 false 16 [.un 30 .not (.t 29)] (.tk 18 [.m 32 31,.pick 31 (.t 26) (.c (.bool true)) (.t 30)] (.test 32 Md (.tg 32 false 21 [.m 35 34,.bin 34 .gtr (.t 33) (.i 0),.m 33 3] (.test 35 (.tg 35 true 30 [.b 44 .geq 41 43,.l 43 42,.f 42 4 0,.l 41 40,.f 40 39 0,.idx 39 3 (.t 36) (.t 38),.bin 38 .sub (.t 37) (.i 1),.m 37 3,.m 36 0] Mf) (.sk 35 true 9 30 45 Mf))))))))))))))) [0,3,46]) (.cond (.t 46) (.seq (.region [.mv 2 (.c (.bool false))] [2]) .ret) .skip)))) (.region [.m 9 3,.bin 10 .add (.t 9) (.i 1),.m 3 10] [0,3])))
def Mh:AI:=(.seq (.region [.m 47 0,.len 48 false (.t 47),.bin 49 .leq (.t 48) (.i 12),.m 2 49] [2]) .ret)
def Cw:Bi:=⟨[.val (.slice Z)],[⟨2,false,.bool⟩],(.seq (.region [.mv 2 (.c (.bool false))] [0]) (.seq (.seq (.region [.mv 3 (.i 0)] [0,3]) (.block 0 [0] (.loop [0,3] Mg))) Mh))⟩
theorem Zb:BT Tryz.prog 40 Cw=true:=by kernel_rfl
def Gq:AI:=(.seq (.draw (Hc 20 [(4,[2]),(9,[3,8]),(13,[2]),(17,[12,16])]) (.tk 1 [.m 34 1] (.only 1 none (.cl 35 [34] ZM) false [] (.tk 3 [.m 36 35] (.test 36 (.tg 36 true 18 [.b 51 .eql 46 50,.l 50 49,.f 49 48 0,.n 48 47,.m 47 0,.l 46 45,.idx 45 1 (.t 44) (.i 0),.l 44 43,.idx 43 1 (.t 37) (.t 42),.bin 42 .sub (.t 41) (.i 1),.l 41 40,.f 40 39 1,.n 39 38,.m 38 0,.m 37 1] (.tk 20 [.m 4 52,.pick 52 (.t 36) (.t 51) (.c (.bool false))] .done)) (.sk 36 true 15 18 52 (.tk 20 [.m 4 52,.pick 52 (.t 36) (.t 51) (.c (.bool false))] .done)))))) [4]) .ret)
def Br:Bi:=⟨[.ptr U,.val (.slice (.slice (.int .i64)))],[⟨4,false,.bool⟩],(.seq (.region [.mv 4 (.c (.bool false))] [0,1]) (.seq (.seq (.region [.m 5 0,.n 6 5,.f 7 6 5,.l 8 7,.un 9 .not (.t 8),.m 10 9,.sc 10 false [.m 11 0,.n 12 11,.f 13 12 9,.f 14 13 0,.l 15 14,.bin 16 .neq (.t 15) (.i 0)] 17 (.c (.bool true)) (.t 16),.m 18 17,.sc 18 false [.m 19 0,.n 20 19,.f 21 20 8,.l 22 21,.bin 23 .eql (.t 22) (.i 900)] 24 (.c (.bool true)) (.t 23),.m 25 24,.sc 25 false [.m 26 0,.n 27 26,.f 28 27 1,.l 29 28,.m 30 1,.len 31 false (.t 30),.b 32 .gtr 29 31] 33 (.c (.bool true)) (.t 32)] [0,1,33]) (.cond (.t 33) (.seq (.region [.mv 4 (.c (.bool false))] [4]) .ret) .skip)) Gq))⟩
theorem PT:BT Tryz.prog 41 Br=true:=by kernel_rfl
def RX:AI:=(.seq (.region [.m 27 0,.bin 28 .eql (.t 27) (.i 1),.m 29 28,.sc 29 false [.m 30 3,.bin 31 .eql (.t 30) (.c (.str ⟨#[]⟩))] 32 (.c (.bool true)) (.t 31),.m 8 32] [8]) .ret)
def GN:Bi:=⟨[.val (.int .i64),.val (.int .i64),.val .str,.val .str],[⟨8,false,.bool⟩],(.seq (.region [.mv 8 (.c (.bool false))] [0,1,2,3]) (.seq (.seq (.region [.m 9 0,.cx (some 10) [.t 9,.c (.int .i64 1),.c (.int .i64 2)] BM,.un 11 .not (.t 10),.m 12 11,.sc 12 false [.m 13 1,.cx (some 14) [.t 13,.c (.int .i64 0),.c (.int .i64 1000)] BM,.un 15 .not (.t 14)] 16 (.c (.bool true)) (.t 15),.m 17 16,.sc 17 false [.m 18 2,.cl 19 [18] UT,.un 20 .not (.t 19)] 21 (.c (.bool true)) (.t 20),.m 22 21,.sc 22 false [.m 23 3,.len 24 true (.t 23),.bin 25 .gtr (.t 24) (.i 20)] 26 (.c (.bool true)) (.t 25)] [0,3,26]) (.cond (.t 26) (.seq (.region [.mv 8 (.c (.bool false))] [8]) .ret) .skip)) RX))⟩
theorem cN:BT Tryz.prog 42 GN=true:=by kernel_rfl
def II:AI:=(.seq (.region [.b 11 .lss 10 9] [0,5,8,9,10,11]) (.seq (.cond (.t 11) .skip (.exit 0)) (.seq (.block 1 [0,5,8,9,10] (.seq (.region [.idx 12 1 (.t 8) (.t 10),.l 13 12,.m 7 13] [0,5,7,8,9,10]) (.seq (.region [.m 14 7,.m 15 0,.n 16 15,.f 17 16 0,.l 18 17,.b 19 .neq 14 18] [0,5,7,8,9,10,19]) (.cond (.t 19) (.region [.m 20 5,.m 21 7,.blst 22 (.int .i64) [.t 21],.app 23 3 (.int .i64) (.t 20) (.t 22),.m 5 23] [0,5,8,9,10]) .skip)))) (.region [.bin 24 .add (.t 10) (.i 1),.m 10 24] [0,5,8,9,10]))))
def IJ:AI:=(.seq (.region [.m 25 5,.m 4 25] [4]) .ret)
def BU:Bi:=⟨[.ptr U,.val (.slice (.int .i64))],[⟨4,false,(.slice (.int .i64))⟩],(.seq (.region [.mv 4 (.c (.nil))] [0,1]) (.seq (.region [.nilrow 5 3 (.int .i64)] [0,1,5]) (.seq (.seq (.region [.m 8 1,.len 9 false (.t 8),.mv 10 (.i 0)] [0,5,8,9,10]) (.block 0 [5] (.loop [0,5,8,9,10] II))) IJ)))⟩
theorem RY:BT Tryz.prog 43 BU=true:=by kernel_rfl
def D1:Bi:=⟨[.mut (.own 3 (.int .i64))],[],(.seq (.region [.m 3 0,.len 4 false (.t 3),.m 2 4] [0,2]) (.region [.m 5 0,.m 6 2,.m 7 2,.cvi 8 .u64 (.t 7),.cl 9 [8] Xm,.cx (some 10) [.t 5,.c (.int .i64 0),.t 6,.t 9] DM] []))⟩
theorem Qu:BT Tryz.prog 45 D1=true:=by kernel_rfl
def Jy:AI:=(.seq (.region [.m 30 0,.bu 31 JI [],.n 32 30,.f 33 32 9,.store (.t 33) (.t 31) 7 false] [0,3]) (.seq (.draw (Hc 13 [(2,[]),(6,[]),(8,[]),(10,[1,5,7,9])]) (.tk 11 [.bu 44 Aq [(0,1,.t 35),(1,1,.t 39),(2,1,.t 41),(3,3,.t 43)],.ls 43 42 3,.f 42 3 3,.l 41 40,.f 40 3 2,.l 39 38,.f 38 37 1,.n 37 36,.m 36 0,.l 35 34,.f 34 3 1] (.only 11 none (.brow 45 52 Aq [.t 44]) false [] (.tk 13 [.m 2 45] .done))) [2]) .ret))
def Cf:Bi:=⟨[.ptr U],[⟨2,false,(.slice Aq)⟩],(.seq (.region [.mv 2 (.c (.nil))] [0]) (.seq (.region [.m 4 0,.n 5 4,.f 6 5 9,.ls 7 6 7,.al 3 JI,.store (.t 3) (.t 7) 7 false] [0,3]) (.seqc [0,3] (.seq (.region [.f 8 3 0,.l 9 8,.bin 10 .eql (.t 9) (.i 1)] [0,3,10]) (.cond (.t 10) (.draw (Hc 11 [(1,[]),(5,[]),(7,[4,6]),(8,[0,7])]) (.tk 7 [.ls 17 16 3,.f 16 3 3,.l 15 14,.f 14 13 7,.n 13 12,.m 12 0,.m 11 0] (.only 7 none (.cl 18 [15,17] ZP) false [] (.tk 10 [.f 20 19 7,.n 19 11] (.only 10 none (.store (.t 20) (.t 18) 1 false) false [] .done)))) [0,3]) (.draw (Hc 10 [(4,[]),(7,[3,6])]) (.tk 7 [.l 27 26,.f 26 25 0,.f 25 3 3,.l 24 23,.f 23 22 7,.n 22 21,.m 21 0] (.only 7 none (.cl 28 [24,27] Nb) false [] (.tk 9 [.f 29 3 3] (.only 9 none (.store (.t 29) (.t 28) 3 false) false [] .done)))) [0,3]))) Jy)))⟩
theorem TS:BT Tryz.prog 46 Cf=true:=by kernel_rfl
def Hk:AI:=(.seq (.region [.b 14 .lss 13 12] [0,5,7,11,12,13,14]) (.seq (.cond (.t 14) .skip (.exit 0)) (.seq (.block 1 [0,5,7,11,12,13] (.seq (.region [.idx 15 1 (.t 11) (.t 13),.l 16 15,.m 9 16] [0,5,7,9,11,12,13]) (.seq (.region [.ls 17 5 6,.cl 18 [17] ZQ,.al 10 AK,.store (.t 10) (.t 18) 6 false] [0,5,7,9,10,11,12,13]) (.seq (.draw (Hc 15 [(4,[]),(5,[]),(9,[3]),(11,[4,10]),(13,[8,12])]) (.tk 10 [.f 28 10 1,.l 27 26,.f 26 25 1,.n 25 24,.m 24 0,.m 23 9,.l 22 21,.f 21 20 0,.n 20 19,.m 19 0] (.only 10 none (.store (.t 28) (.t 22) 1 false) false [] (.tk 12 [.f 29 10 2] (.only 12 none (.store (.t 29) (.t 23) 1 false) false [] (.tk 14 [.f 30 10 3] (.only 14 none (.store (.t 30) (.t 27) 1 false) false [] .done)))))) [0,5,7,10,11,12,13]) (.region [.m 31 7,.ls 32 10 6,.blst 33 AK [.t 32],.app 34 34 AK (.t 31) (.t 33),.m 7 34] [0,5,7,11,12,13]))))) (.region [.bin 35 .add (.t 13) (.i 1),.m 13 35] [0,5,7,11,12,13]))))
def Hl:AI:=(.seq (.region [.m 36 7,.m 6 36] [6]) .ret)
def BE:Bi:=⟨[.ptr U,.val (.slice (.int .i64)),.val AK],[⟨6,false,(.slice AK)⟩],(.seq (.region [.box 5 (.t 2) false,.mv 6 (.c (.nil))] [0,1,5]) (.seq (.region [.nilrow 7 34 AK] [0,1,5,7]) (.seq (.seq (.region [.m 11 1,.len 12 false (.t 11),.mv 13 (.i 0)] [0,5,7,11,12,13]) (.block 0 [7] (.loop [0,5,7,11,12,13] Hk))) Hl)))⟩
theorem Qv:BT Tryz.prog 47 BE=true:=by kernel_rfl
def IK:Bi:=⟨[.ptr Aa,.val (.int .i64)],[⟨4,false,.bool⟩],(.seq (.region [.mv 4 (.c (.bool false))] [0,1]) (.seq (.region [.m 5 0,.m 6 1,.cl 7 [5,6] CQ,.bin 8 .eql (.t 7) (.i 0),.m 4 8] [4]) .ret))⟩
theorem Zc:BT Tryz.prog 48 IK=true:=by kernel_rfl
def LT:AI:=(.seq (.region [.m 16 0,.m 17 1,.idx 18 1 (.t 17) (.i 0),.l 19 18,.m 20 0,.cl 21 [19,20] EJ,.bu 22 U [(0,1,.t 16),(1,1,.c (.int .i64 1)),(3,1,.t 21)],.al 6 U,.store (.t 6) (.t 22) 16 false] [0,1,4,6]) (.seq (.region [.m 23 1,.idx 24 1 (.t 23) (.i 0),.l 25 24,.idx 26 1 (.t 25) (.i 0),.l 27 26,.m 28 0,.b 29 .eql 27 28,.f 30 6 4,.store (.t 30) (.t 29) 1 false] [4,6]) (.seq (.region [.f 31 6 4,.l 32 31,.f 33 6 5,.store (.t 33) (.t 32) 1 false] [4,6]) (.seq (.region [.ls 34 6 16,.store (.t 4) (.t 34) 16 false,.mv 5 (.c (.bool true))] [4,5]) .ret))))
def Di:Bi:=⟨[.val (.int .i64),.val (.slice (.slice (.int .i64)))],[⟨4,true,U⟩,⟨5,false,.bool⟩],(.seq (.region [.al 4 U,.mv 5 (.c (.bool false))] [0,1,4]) (.seq (.seq (.region [.m 7 1,.cl 8 [7] F8,.un 9 .not (.t 8),.m 10 9,.sc 10 false [.m 11 0,.cx (some 12) [.t 11,.c (.int .i64 1),.c (.int .i64 6)] Ab,.un 13 .not (.t 12)] 14 (.c (.bool true)) (.t 13)] [0,1,4,14]) (.cond (.t 14) (.seq (.region [.bu 15 U [],.store (.t 4) (.t 15) 16 false,.mv 5 (.c (.bool false))] [4,5]) .ret) .skip)) LT))⟩
theorem WC:BT Tryz.prog 49 Di=true:=by kernel_rfl
def P8:AI:=(.seq (.seq (.region [.m 6 5,.m 7 0,.len 8 false (.t 7),.b 9 .lss 6 8] [0,1,4,5,9]) (.cond (.t 9) .skip (.exit 0))) (.seq (.block 1 [0,1,4,5] (.seq (.region [.m 12 0,.m 13 5,.idx 14 3 (.t 12) (.t 13),.f 15 14 0,.l 16 15,.m 17 1,.b 18 .eql 16 17] [0,1,4,5,18]) (.cond (.t 18) (.seq (.region [.m 19 0,.m 20 5,.idx 21 3 (.t 19) (.t 20),.ls 22 21 3,.store (.t 4) (.t 22) 3 false] [4]) .ret) .skip))) (.region [.m 10 5,.bin 11 .add (.t 10) (.i 1),.m 5 11] [0,1,4,5])))
def P9:AI:=(.seq (.region [.bu 23 Z [],.store (.t 4) (.t 23) 3 false] [4]) .ret)
def DV:Bi:=⟨[.val (.slice Z),.val .str],[⟨4,true,Z⟩],(.seq (.region [.al 4 Z] [0,1,4]) (.seq (.seq (.region [.mv 5 (.i 0)] [0,1,4,5]) (.block 0 [4] (.loop [0,1,4,5] P8))) P9))⟩
theorem af:BT Tryz.prog 50 DV=true:=by kernel_rfl
def OC:AI:=(.seq (.draw (Hc 18 [(1,[]),(2,[0,1]),(5,[]),(7,[4,6]),(10,[8]),(11,[9,10]),(14,[8]),(16,[13,15])]) (.tk 9 [.m 42 41,.b 41 .eql 38 40,.l 40 39,.f 39 3 0,.l 38 37,.f 37 36 0,.idx 36 3 (.t 34) (.t 35),.m 35 7,.m 34 0] (.test 42 (.tg 42 true 17 [.b 50 .geq 47 49,.l 49 48,.f 48 3 2,.l 47 46,.f 46 45 2,.idx 45 3 (.t 43) (.t 44),.m 44 7,.m 43 0] (.tk 18 [.pick 51 (.t 42) (.t 50) (.c (.bool false))] .done)) (.sk 42 true 8 17 51 (.tk 18 [.pick 51 (.t 42) (.t 50) (.c (.bool false))] .done)))) [0,3,5,6,7,51]) (.cond (.t 51) (.seq (.region [.m 52 5,.m 4 52] [4]) .ret) .skip))
def OD:AI:=(.region [.m 17 7,.bin 18 .add (.t 17) (.i 1),.m 7 18] [0,3,5,6,7])
def OE:AI:=(.seq (.seq (.region [.m 13 7,.m 14 0,.len 15 false (.t 14),.b 16 .lss 13 15] [0,3,5,6,7,16]) (.cond (.t 16) .skip (.exit 0))) (.seq (.block 1 [0,3,5,6,7] (.seqc [0,3,5,6,7] (.seq (.draw (Hc 8 [(1,[]),(2,[0,1]),(5,[]),(7,[4,6])]) (.tk 8 [.b 26 .lss 23 25,.l 25 24,.f 24 3 0,.l 23 22,.f 22 21 0,.idx 21 3 (.t 19) (.t 20),.m 20 7,.m 19 0] .done) [0,3,5,6,7,26]) (.cond (.t 26) (.region [.m 27 6,.m 28 0,.m 29 7,.idx 30 3 (.t 28) (.t 29),.ls 31 30 3,.blst 32 Z [.t 31],.app 33 27 Z (.t 27) (.t 32),.m 6 33] [0,3,5,6,7]) .skip)) OC)) OD))
def Mi:AI:=(.seq (.seq (.region [.m 57 8,.m 58 0,.len 59 false (.t 58),.b 60 .lss 57 59] [0,3,5,6,8,60]) (.cond (.t 60) .skip (.exit 2))) (.seq (.block 3 [0,3,5,6,8] (.seq (.draw (Hc 8 [(1,[]),(2,[0,1]),(5,[]),(7,[4,6])]) (.tk 8 [.b 70 .gtr 67 69,.l 69 68,.f 68 3 0,.l 67 66,.f 66 65 0,.idx 65 3 (.t 63) (.t 64),.m 64 8,.m 63 0] .done) [0,3,5,6,8,70]) (.cond (.t 70) (.region [.m 71 6,.m 72 0,.m 73 8,.idx 74 3 (.t 72) (.t 73),.ls 75 74 3,.blst 76 Z [.t 75],.app 77 27 Z (.t 71) (.t 76),.m 6 77] [0,3,5,6,8]) .skip))) (.region [.m 61 8,.bin 62 .add (.t 61) (.i 1),.m 8 62] [0,3,5,6,8])))
def IL:AI:=(.seq (.seq (.region [.m 78 0,.cl 79 [78] IC,.un 80 .not (.t 79),.m 81 80,.sc 81 false [.m 82 6,.cl 83 [82] IC,.un 84 .not (.t 83)] 85 (.c (.bool true)) (.t 84)] [5,6,85]) (.cond (.t 85) (.seq (.region [.m 86 5,.m 4 86] [4]) .ret) .skip)) (.seq (.region [.m 87 6,.m 4 87] [4]) .ret))
def IM:AI:=(.seq (.region [.m 53 6,.ls 54 3 3,.blst 55 Z [.t 54],.app 56 27 Z (.t 53) (.t 55),.m 6 56] [0,3,5,6]) (.seq (.seq (.region [.mv 8 (.i 0)] [0,3,5,6,8]) (.block 2 [0,5,6] (.loop [0,3,5,6,8] Mi))) IL))
def Ae:Bi:=⟨[.val (.slice Z),.val Z],[⟨4,false,(.own 27 Z)⟩],(.seq (.region [.box 3 (.t 1) false,.mv 4 (.c (.nil))] [0,3]) (.seq (.region [.brow 9 27 Z [],.m 10 0,.app 11 27 Z (.t 9) (.t 10),.m 5 11] [0,3,5]) (.seq (.region [.brow 12 27 Z [],.m 6 12] [0,3,5,6]) (.seq (.seq (.region [.mv 7 (.i 0)] [0,3,5,6,7]) (.block 0 [0,3,5,6] (.loop [0,3,5,6,7] OE))) IM))))⟩
theorem Zd:BT Tryz.prog 51 Ae=true:=by kernel_rfl
def LU:AI:=(.seq (.seq (.region [.m 8 6,.bin 9 .leq (.t 8) (.i 6)] [0,1,5,6,9]) (.cond (.t 9) .skip (.exit 0))) (.seq (.block 1 [0,1,5,6] (.seq (.region [.m 12 6,.m 13 1,.b 14 .neq 12 13,.m 15 14,.sc 15 true [.m 16 0,.m 17 6,.cl 18 [16,17] EJ] 19 (.t 18) (.c (.bool false))] [0,1,5,6,19]) (.cond (.t 19) (.region [.m 20 5,.m 21 6,.blst 22 (.int .i64) [.t 21],.app 23 3 (.int .i64) (.t 20) (.t 22),.m 5 23] [0,1,5,6]) .skip))) (.region [.m 10 6,.bin 11 .add (.t 10) (.i 1),.m 6 11] [0,1,5,6])))
def LV:AI:=(.seq (.region [.m 24 5,.m 4 24] [4]) .ret)
def CA:Bi:=⟨[.val (.slice (.int .i64)),.val (.int .i64)],[⟨4,false,(.slice (.int .i64))⟩],(.seq (.region [.mv 4 (.c (.nil))] [0,1]) (.seq (.region [.brow 7 3 (.int .i64) [],.m 5 7] [0,1,5]) (.seq (.seq (.region [.mv 6 (.i 1)] [0,1,5,6]) (.block 0 [5] (.loop [0,1,5,6] LU))) LV)))⟩
theorem WD:BT Tryz.prog 52 CA=true:=by kernel_rfl
def GO:Bi:=⟨[.ptr U],[⟨2,false,(.slice Aq)⟩],(.seq (.region [.mv 2 (.c (.nil))] [0]) (.seq (.region [.m 5 0,.n 6 5,.f 7 6 9,.ls 8 7 7,.al 3 JI,.store (.t 3) (.t 8) 7 false] [0,3]) (.seq (.draw (Hc 13 [(2,[]),(6,[]),(8,[]),(10,[1,5,7,9]),(11,[]),(12,[10,11])]) (.tk 11 [.bu 19 Aq [(0,1,.t 10),(1,1,.t 14),(2,1,.t 16),(3,3,.t 18)],.ls 18 17 3,.f 17 3 3,.l 16 15,.f 15 3 2,.l 14 13,.f 13 12 1,.n 12 11,.m 11 0,.l 10 9,.f 9 3 1] (.only 11 none (.al 4 Aq) false [] (.only 12 none (.store (.t 4) (.t 19) 6 false) false [] .done))) [0,3,4]) (.seqc [0,4] (.seq (.region [.f 20 3 0,.l 21 20,.bin 22 .eql (.t 21) (.i 1)] [0,3,4,22]) (.cond (.t 22) (.draw (Hc 11 [(1,[]),(5,[]),(7,[4,6]),(8,[0,7])]) (.tk 7 [.ls 29 28 3,.f 28 3 3,.l 27 26,.f 26 25 7,.n 25 24,.m 24 0,.m 23 0] (.only 7 none (.cl 30 [27,29] LQ) false [] (.tk 10 [.f 32 31 7,.n 31 23] (.only 10 none (.store (.t 32) (.t 30) 1 false) false [] .done)))) [0,4]) (.draw (Hc 10 [(4,[]),(7,[3,6])]) (.tk 7 [.l 39 38,.f 38 37 0,.f 37 3 3,.l 36 35,.f 35 34 7,.n 34 33,.m 33 0] (.only 7 none (.cl 40 [36,39] Sw) false [] (.tk 9 [.f 41 4 3] (.only 9 none (.store (.t 41) (.t 40) 3 false) false [] .done)))) [0,4]))) (.seq (.region [.m 42 0,.bu 43 JI [],.n 44 42,.f 45 44 9,.store (.t 45) (.t 43) 7 false] [4]) (.seq (.region [.ls 46 4 6,.brow 47 52 Aq [.t 46],.m 2 47] [2]) .ret))))))⟩
theorem WE:BT Tryz.prog 53 GO=true:=by kernel_rfl
def OF:AI:=(.seq (.seq (.region [.m 26 9,.m 27 8,.b 28 .lss 26 27] [0,4,5,6,8,9,28]) (.cond (.t 28) .skip (.exit 0))) (.seq (.block 1 [0,4,5,6,8,9] (.seq (.region [.m 31 0,.cl 32 [31,6] ZR,.al 10 Aj,.store (.t 10) (.t 32) 6 false] [0,4,5,6,8,9,10]) (.seq (.region [.m 33 9,.ls 34 10 6,.cl 35 [6,33,34] UU] [0,4,5,6,8,9,10]) (.region [.f 36 5 1,.l 37 36,.ls 38 10 6,.blst 39 Aj [.t 38],.app 40 113 Aj (.t 37) (.t 39),.f 41 5 1,.store (.t 41) (.t 40) 1 false] [0,4,5,6,8,9])))) (.region [.m 29 9,.bin 30 .add (.t 29) (.i 1),.m 9 30] [0,4,5,6,8,9])))
def OG:AI:=(.seq (.region [.ls 42 5 2,.store (.t 4) (.t 42) 2 false] [4]) .ret)
def Cx:Bi:=⟨[.ptr Aa,.val (.slice (.int .u8))],[⟨4,true,TM⟩],(.seq (.region [.al 4 RH] [0,1,4]) (.seq (.region [.m 11 0,.cl 12 [11] Xn,.build 13 [.nil,.nil] [(0,1,.t 12)],.al 5 RH,.store (.t 5) (.t 13) 2 false] [0,1,4,5]) (.seq (.region [.f 15 5 0,.l 16 15,.cl 17 [16] Pm,.m 14 17,.ext 18 (.t 14) 0,.ext 19 (.t 14) 1,.al 6 AS,.store (.t 6) (.t 18) 4 false,.m 7 19] [0,1,4,5,6]) (.seq (.region [.m 20 1,.len 21 false (.t 20),.bin 22 .quo (.t 21) (.i 4),.bin 23 .add (.i 20) (.t 22),.m 8 23] [0,4,5,6,8]) (.seqc [0,4,5,6,8] (.seq (.region [.m 24 8,.bin 25 .gtr (.t 24) (.i 69)] [0,4,5,6,8,25]) (.cond (.t 25) (.region [.mv 8 (.i 69)] [0,4,5,6,8]) .skip)) (.seq (.seq (.region [.mv 9 (.i 0)] [0,4,5,6,8,9]) (.block 0 [4,5] (.loop [0,4,5,6,8,9] OF))) OG))))))⟩
theorem Ze:BT Tryz.prog 54 Cx=true:=by kernel_rfl
def Mj:AI:=(.seq (.block 1 [1,4,7,8,9] (.region [.m 26 1,.len 27 false (.t 26),.bin 28 .leq (.t 27) (.i 70),.m 29 28,.sc 29 true [.m 30 1,.m 31 9,.idx 32 6 (.t 30) (.t 31),.ls 33 32 6,.cl 34 [33] ZS] 35 (.t 34) (.c (.bool false)),.m 8 35] [1,4,7,8,9])) (.region [.m 24 9,.bin 25 .add (.t 24) (.i 1),.m 9 25] [1,4,7,8,9]))
def Mk:AI:=(.seq (.seq (.region [.m 17 9,.m 18 1,.len 19 false (.t 18),.b 20 .lss 17 19,.m 21 20,.sc 21 true [.m 22 8] 23 (.t 22) (.c (.bool false))] [1,4,7,8,9,23]) (.cond (.t 23) .skip (.exit 0))) Mj)
def Ml:AI:=(.seq (.seq (.region [.m 41 11,.m 42 1,.len 43 false (.t 42),.b 44 .lss 41 43] [1,4,7,10,11,44]) (.cond (.t 44) .skip (.exit 2))) (.seq (.block 3 [1,4,7,10,11] (.region [.m 47 10,.m 48 11,.m 49 1,.m 50 11,.idx 51 6 (.t 49) (.t 50),.ls 52 51 6,.cl 53 [7,48,52] UU,.blst 54 (.int .i64) [.t 53],.app 55 3 (.int .i64) (.t 47) (.t 54),.m 10 55] [1,4,7,10,11])) (.region [.m 45 11,.bin 46 .add (.t 45) (.i 1),.m 11 46] [1,4,7,10,11])))
def LW:AI:=(.seq (.region [.ls 56 7 4,.cl 57 [56] ZT,.m 58 10,.store (.t 4) (.t 57) 4 false,.m 5 58,.mv 6 (.c (.bool true))] [4,5,6]) .ret)
def HH:AI:=(.seq (.seq (.region [.m 36 8,.un 37 .not (.t 36)] [1,4,7,37]) (.cond (.t 37) (.seq (.region [.bu 38 AS [],.blst 39 (.int .i64) [],.store (.t 4) (.t 38) 4 false,.m 5 39,.mv 6 (.c (.bool false))] [4,5,6]) .ret) .skip)) (.seq (.region [.brow 40 3 (.int .i64) [],.m 10 40] [1,4,7,10]) (.seq (.seq (.region [.mv 11 (.i 0)] [1,4,7,10,11]) (.block 2 [4,7,10] (.loop [1,4,7,10,11] Ml))) LW)))
def Am:Bi:=⟨[.val (.slice (.slice (.int .i64))),.val (.slice Aj)],[⟨4,true,AS⟩,⟨5,false,(.slice (.int .i64))⟩,⟨6,false,.bool⟩],(.seq (.region [.al 4 AS,.mv 5 (.c (.nil)),.mv 6 (.c (.bool false))] [0,1,4]) (.seq (.region [.m 13 0,.cl 14 [13] Pm,.m 12 14,.ext 15 (.t 12) 0,.ext 16 (.t 12) 1,.al 7 AS,.store (.t 7) (.t 15) 4 false,.m 8 16] [1,4,7,8]) (.seq (.seq (.region [.mv 9 (.i 0)] [1,4,7,8,9]) (.block 0 [1,4,7,8] (.loop [1,4,7,8,9] Mk))) HH)))⟩
theorem Xw:BT Tryz.prog 55 Am=true:=by kernel_rfl
def IN:Bi:=⟨[.ptr Aa],[⟨2,false,(.int .i64)⟩],(.seq (.region [.mv 2 (.i 0)] [0]) (.seq (.region [.m 4 0,.m 5 0,.n 6 5,.f 7 6 2,.l 8 7,.bin 9 .mul (.t 8) (.i 6364136223846793005),.bin 10 .add (.t 9) (.i 1442695040888963407),.n 11 4,.f 12 11 2,.store (.t 12) (.t 10) 1 false] [0]) (.seq (.draw (Hc 13 [(5,[]),(10,[4,9])]) (.tk 13 [.m 3 24,.bin 24 .and (.t 23) (.i 255),.b 23 .xor 17 22,.bin 22 .shr (.t 21) (.c (.int .u64 45)),.l 21 20,.f 20 19 2,.n 19 18,.m 18 0,.bin 17 .shr (.t 16) (.c (.int .u64 33)),.l 16 15,.f 15 14 2,.n 14 13,.m 13 0] .done) [0,3]) (.seqc [3] (.seq (.draw (Hc 10 [(4,[]),(9,[3,8])]) (.tk 10 [.b 34 .lss 28 33,.len 33 false (.t 32),.l 32 31,.f 31 30 0,.n 30 29,.m 29 0,.l 28 27,.f 27 26 1,.n 26 25,.m 25 0] .done) [0,3,34]) (.cond (.t 34) (.seq (.draw (Hc 15 [(1,[]),(5,[]),(9,[4,8]),(12,[0,11])]) (.tk 15 [.m 3 48,.bin 48 .and (.t 47) (.i 255),.b 47 .add 35 46,.cvi 46 .i64 (.t 45),.l 45 44,.idx 44 1 (.t 39) (.t 43),.l 43 42,.f 42 41 1,.n 41 40,.m 40 0,.l 39 38,.f 38 37 0,.n 37 36,.m 36 0,.m 35 3] .done) [0,3]) (.region [.m 49 0,.m 50 0,.n 51 50,.f 52 51 1,.l 53 52,.bin 54 .add (.t 53) (.i 1),.n 55 49,.f 56 55 1,.store (.t 56) (.t 54) 1 false] [3])) .skip)) (.seq (.region [.m 57 3,.m 2 57] [2]) .ret)))))⟩
theorem Zf:BT Tryz.prog 56 IN=true:=by kernel_rfl
def Gr:AI:=(.seq (.region [.b 9 .lss 8 7] [0,1,7,8,9]) (.seq (.cond (.t 9) .skip (.exit 0)) (.seq (.block 1 [0,1,7,8] (.seq (.region [.m 10 8,.m 5 10] [0,1,5,7,8]) (.seq (.region [.m 11 1,.m 12 0,.m 13 5,.idx 14 1 (.t 12) (.t 13),.l 15 14,.b 16 .eql 11 15] [0,1,5,7,8,16]) (.cond (.t 16) (.seq (.region [.m 17 5,.m 4 17] [4]) .ret) .skip)))) (.region [.bin 18 .add (.t 8) (.i 1),.m 8 18] [0,1,7,8]))))
def Gs:AI:=(.seq (.region [.mv 4 (.c (.int .i64 (-1)))] [4]) .ret)
def BB:Bi:=⟨[.val (.slice (.int .i64)),.val (.int .i64)],[⟨4,false,(.int .i64)⟩],(.seq (.region [.mv 4 (.i 0)] [0,1]) (.seq (.seq (.region [.m 6 0,.len 7 false (.t 6),.mv 8 (.i 0)] [0,1,7,8]) (.block 0 [] (.loop [0,1,7,8] Gr))) Gs))⟩
theorem PU:BT Tryz.prog 59 BB=true:=by kernel_rfl
def P_:DT:=(.tg 16 false 21 [.pick 30 (.t 19) (.t 29) (.c (.bool false))] (.tk 22 [.pick 31 (.t 16) (.c (.bool true)) (.t 30)] .done))
def QA:AI:=(.seq (.seq (.region [.m 4 3,.m 5 0,.len 6 false (.t 5),.b 7 .lss 4 6] [0,3,7]) (.cond (.t 7) .skip (.exit 0))) (.seq (.block 1 [0,3] (.seq (.draw (Hc 22 [(1,[]),(2,[0,1]),(11,[9]),(13,[10,12]),(15,[9]),(16,[9]),(17,[15,16]),(19,[14,18])]) (.tk 4 [.l 13 12,.idx 12 1 (.t 10) (.t 11),.m 11 3,.m 10 0] (.only 4 none (.cx (some 14) [.t 13,.c (.int .i64 1),.c (.int .i64 6)] Ab) false [] (.tk 7 [.m 16 15,.un 15 .not (.t 14)] (.test 16 (.sk 16 false 3 10 20 (.sk 19 true 10 20 30 (.sk 16 false 1 21 31 (.tk 22 [.pick 31 (.t 16) (.c (.bool true)) (.t 30)] .done)))) (.tg 16 false 10 [.m 19 18,.bin 18 .gtr (.t 17) (.i 0),.m 17 3] (.test 19 (.tg 19 true 20 [.b 29 .geq 24 28,.l 28 27,.idx 27 1 (.t 25) (.t 26),.m 26 3,.m 25 0,.l 24 23,.idx 23 1 (.t 20) (.t 22),.bin 22 .sub (.t 21) (.i 1),.m 21 3,.m 20 0] P_) (.sk 19 true 10 20 30 P_))))))) [0,3,31]) (.cond (.t 31) (.seq (.region [.mv 2 (.c (.bool false))] [2]) .ret) .skip))) (.region [.m 8 3,.bin 9 .add (.t 8) (.i 1),.m 3 9] [0,3])))
def QB:AI:=(.seq (.region [.mv 2 (.c (.bool true))] [2]) .ret)
def DW:Bi:=⟨[.val (.slice (.int .i64))],[⟨2,false,.bool⟩],(.seq (.region [.mv 2 (.c (.bool false))] [0]) (.seq (.seq (.region [.mv 3 (.i 0)] [0,3]) (.block 0 [] (.loop [0,3] QA))) QB))⟩
theorem ag:BT Tryz.prog 66 DW=true:=by kernel_rfl
def GP:Bi:=⟨[.val JI],[⟨2,false,.bool⟩],(.seq (.region [.box 1 (.t 0) false,.mv 2 (.c (.bool false))] [1]) (.seq (.region [.f 3 1 0,.l 4 3,.bin 5 .eql (.t 4) (.i 0),.m 6 5,.sc 6 true [.f 7 1 1,.l 8 7,.bin 9 .eql (.t 8) (.i 0)] 10 (.t 9) (.c (.bool false)),.m 11 10,.sc 11 true [.f 12 1 2,.l 13 12,.bin 14 .eql (.t 13) (.i 0)] 15 (.t 14) (.c (.bool false)),.m 16 15,.sc 16 true [.f 17 1 3,.ls 18 17 3,.bu 19 Z [],.eqs 20 false Z (.t 18) (.t 19)] 21 (.t 20) (.c (.bool false)),.m 22 21,.sc 22 true [.f 23 1 6,.l 24 23,.len 25 false (.t 24),.bin 26 .eql (.t 25) (.i 0)] 27 (.t 26) (.c (.bool false)),.m 2 27] [2]) .ret))⟩
theorem WF:BT Tryz.prog 67 GP=true:=by kernel_rfl
def OH:AI:=(.seq (.seq (.region [.m 8 3,.m 9 0,.len 10 false (.t 9),.b 11 .lss 8 10] [0,3,11]) (.cond (.t 11) .skip (.exit 0))) (.seq (.block 1 [0,3] (.seq (.draw (Hc 16 [(1,[]),(2,[0,1]),(8,[6]),(9,[7,8]),(10,[6]),(11,[6]),(12,[10,11]),(14,[9,13])]) (.tk 4 [.l 17 16,.idx 16 1 (.t 14) (.t 15),.m 15 3,.m 14 0] (.only 4 none (.cx (some 18) [.t 17,.c (.int .i64 1),.c (.int .i64 6)] Ab) false [] (.tk 7 [.m 20 19,.un 19 .not (.t 18)] (.test 20 (.sk 20 false 8 15 29 (.tk 16 [.pick 29 (.t 20) (.c (.bool true)) (.t 28)] .done)) (.tg 20 false 14 [.l 27 26,.idx 26 1 (.t 24) (.t 25),.m 25 3,.m 24 0,.sl 23 1 (.t 21) none (some (.t 22)),.m 22 3,.m 21 0] (.only 14 (some (20,false)) (.cl 28 [23,27] EJ) false [] (.tk 16 [.pick 29 (.t 20) (.c (.bool true)) (.t 28)] .done))))))) [0,3,29]) (.cond (.t 29) (.seq (.region [.mv 2 (.c (.bool false))] [2]) .ret) .skip))) (.region [.m 12 3,.bin 13 .add (.t 12) (.i 1),.m 3 13] [0,3])))
def OI:AI:=(.seq (.region [.mv 2 (.c (.bool true))] [2]) .ret)
def Cy:Bi:=⟨[.val (.slice (.int .i64))],[⟨2,false,.bool⟩],(.seq (.region [.mv 2 (.c (.bool false))] [0]) (.seq (.seq (.region [.m 4 0,.len 5 false (.t 4),.cx (some 6) [.t 5,.c (.int .i64 1),.c (.int .i64 4)] Ab,.un 7 .not (.t 6)] [0,7]) (.cond (.t 7) (.seq (.region [.mv 2 (.c (.bool false))] [2]) .ret) .skip)) (.seq (.seq (.region [.mv 3 (.i 0)] [0,3]) (.block 0 [] (.loop [0,3] OH))) OI)))⟩
theorem Zg:BT Tryz.prog 68 Cy=true:=by kernel_rfl
def QC:AI:=(.seq (.seq (.region [.m 37 8,.m 38 1,.len 39 false (.t 38),.b 40 .lss 37 39] [0,1,2,7,8,40]) (.cond (.t 40) .skip (.exit 0))) (.seq (.block 1 [0,1,2,7,8] (.seq (.draw (Hc 9 [(1,[]),(2,[0,1]),(4,[]),(8,[3,7])]) (.tk 9 [.b 51 .neq 46 50,.l 50 49,.f 49 48 0,.n 48 47,.m 47 0,.l 46 45,.idx 45 1 (.t 43) (.t 44),.m 44 8,.m 43 1] .done) [0,1,2,7,8,51]) (.cond (.t 51) (.draw (Hc 20 [(1,[]),(5,[]),(6,[]),(7,[5,6]),(9,[]),(13,[]),(14,[]),(15,[13,14]),(16,[4,8,12,15]),(18,[0,17])]) (.tk 13 [.l 64 63,.f 63 62 1,.n 62 61,.m 61 0,.l 60 59,.idx 59 1 (.t 57) (.t 58),.m 58 8,.m 57 1,.l 56 55,.f 55 54 0,.n 54 53,.m 53 0,.m 52 7] (.tk 15 [.m 66 2] (.only 13 none (.brow 65 27 Z []) false [] (.only 15 none (.apz 67 27 Z (.t 65) (.t 66)) false [] (.tk 17 [.bu 68 AK [(0,1,.c (.int .i64 3)),(1,1,.t 56),(2,1,.t 60),(3,1,.t 64),(5,1,.t 67)]] (.only 17 none (.blst 69 AK [.t 68]) false [] (.only 18 none (.app 70 34 AK (.t 52) (.t 69)) false [] (.tk 20 [.m 7 70] .done)))))))) [0,1,2,7,8]) .skip))) (.region [.m 41 8,.bin 42 .add (.t 41) (.i 1),.m 8 42] [0,1,2,7,8])))
def QD:AI:=(.seq (.region [.m 71 7,.m 6 71] [6]) .ret)
def DX:Bi:=⟨[.ptr U,.val (.slice (.int .i64)),.val (.slice Z)],[⟨6,false,(.slice AK)⟩],(.seq (.region [.mv 6 (.c (.nil))] [0,1,2]) (.seq (.region [.brow 9 34 AK [],.m 7 9] [0,1,2,7]) (.seq (.region [.m 10 0,.n 11 10,.f 12 11 3,.store (.t 12) (.c (.bool true)) 1 false] [0,1,2,7]) (.seq (.region [.m 13 0,.brow 14 27 Z [],.m 15 2,.app 16 27 Z (.t 14) (.t 15),.n 17 13,.f 18 17 7,.store (.t 18) (.t 16) 1 false] [0,1,2,7]) (.seq (.region [.m 19 0,.m 20 1,.m 21 0,.n 22 21,.f 23 22 0,.l 24 23,.cl 25 [20,24] N0,.n 26 19,.f 27 26 6,.store (.t 27) (.t 25) 1 false] [0,1,2,7]) (.seq (.region [.m 28 0,.m 29 0,.n 30 29,.f 31 30 6,.l 32 31,.len 33 false (.t 32),.bin 34 .eql (.t 33) (.i 0),.n 35 28,.f 36 35 5,.store (.t 36) (.t 34) 1 false] [0,1,2,7]) (.seq (.seq (.region [.mv 8 (.i 0)] [0,1,2,7,8]) (.block 0 [7] (.loop [0,1,2,7,8] QC))) QD)))))))⟩
theorem ah:BT Tryz.prog 69 DX=true:=by kernel_rfl
def Ke:AI:=(.seq (.seq (.region [.m 8 6,.m 9 0,.len 10 false (.t 9),.b 11 .lss 8 10] [0,1,5,6,11]) (.cond (.t 11) .skip (.exit 0))) (.seq (.block 1 [0,1,5,6] (.seq (.region [.m 14 0,.m 15 6,.idx 16 1 (.t 14) (.t 15),.l 17 16,.m 18 1,.b 19 .neq 17 18] [0,1,5,6,19]) (.cond (.t 19) (.region [.m 20 5,.m 21 0,.m 22 6,.idx 23 1 (.t 21) (.t 22),.l 24 23,.blst 25 (.int .i64) [.t 24],.app 26 3 (.int .i64) (.t 20) (.t 25),.m 5 26] [0,1,5,6]) .skip))) (.region [.m 12 6,.bin 13 .add (.t 12) (.i 1),.m 6 13] [0,1,5,6])))
def Kf:AI:=(.seq (.region [.m 27 5,.m 4 27] [4]) .ret)
def Bw:Bi:=⟨[.val (.slice (.int .i64)),.val (.int .i64)],[⟨4,false,(.slice (.int .i64))⟩],(.seq (.region [.mv 4 (.c (.nil))] [0,1]) (.seq (.region [.brow 7 3 (.int .i64) [],.m 5 7] [0,1,5]) (.seq (.seq (.region [.mv 6 (.i 0)] [0,1,5,6]) (.block 0 [5] (.loop [0,1,5,6] Ke))) Kf)))⟩
theorem UZ:BT Tryz.prog 70 Bw=true:=by kernel_rfl
def K3:Bi:=⟨[.val .str],[⟨2,false,.bool⟩],(.seq (.region [.mv 2 (.c (.bool false))] [0]) (.seq (.region [.m 3 0,.len 4 true (.t 3),.cx (some 5) [.t 4,.c (.int .i64 1),.c (.int .i64 12)] BM,.m 2 5] [2]) .ret))⟩
theorem cO:BT Tryz.prog 71 K3=true:=by kernel_rfl
def Em:AI:=(.cond (.t 87) (.seq (.region [.m 88 0,.m 89 1,.m 90 2,.m 91 11,.cl 92 [88,89,90,91] HF,.m 13 92] [0,2,3,8,9,13]) (.seq (.region [.m 93 13,.m 1 93] [0,1,2,3,8,9]) (.exit 1))) .skip)
def Cg:AI:=(.seq (.region [.m 95 0,.m 96 1,.m 97 2,.m 98 11,.cl 99 [95,96,97,98] Js,.m 94 99,.ext 100 (.t 94) 0,.ext 101 (.t 94) 1,.m 14 100,.m 15 101] [0,1,2,3,10,14,15]) (.seq (.region [.m 102 15,.m 9 102] [0,1,2,3,9,10,14]) (.seq (.region [.m 103 14,.m 104 1,.b 105 .sub 103 104,.m 106 2,.m 107 14,.b 108 .sub 106 107,.m 16 105,.m 17 108] [0,1,2,3,9,10,14,16,17]) (.seq (.region [.m 109 10,.bin 110 .quo (.t 109) (.i 8),.m 18 110] [0,1,2,3,9,14,16,17,18]) (.seq (.region [.m 111 16,.m 112 17,.b 113 .lss 111 112] [0,1,2,3,9,14,16,17,18,113]) (.cond (.t 113) (.seq (.region [.m 114 16,.m 115 18,.b 116 .geq 114 115,.m 8 116] [0,1,2,3,8,9,14]) (.seq (.region [.m 117 0,.m 118 1,.m 119 14,.m 120 3,.cl 121 [117,118,119,120] DM] [0,2,3,8,9,14]) (.region [.m 122 14,.bin 123 .add (.t 122) (.i 1),.m 1 123] [0,1,2,3,8,9]))) (.seq (.region [.m 124 17,.m 125 18,.b 126 .geq 124 125,.m 8 126] [0,1,2,3,8,9,14]) (.seq (.region [.m 127 0,.m 128 14,.bin 129 .add (.t 128) (.i 1),.m 130 2,.m 131 3,.cl 132 [127,129,130,131] DM] [0,1,3,8,9,14]) (.region [.m 133 14,.m 2 133] [0,1,2,3,8,9])))))))))
def En:AI:=(.seq (.seq (.draw (Hc 15 [(4,[2]),(6,[3,5]),(8,[2]),(9,[2]),(10,[8,9]),(12,[7,11])]) (.tk 3 [.m 75 74,.bin 74 .gtr (.t 73) (.i 0),.m 73 1] (.test 75 (.tg 75 true 12 [.l 84 83,.idx 83 1 (.t 81) (.t 82),.m 82 11,.m 81 0,.l 80 79,.idx 79 1 (.t 76) (.t 78),.bin 78 .sub (.t 77) (.i 1),.m 77 1,.m 76 0] (.only 12 (some (75,true)) (.cl 85 [80,84] RL) false [] (.tg 75 true 14 [.un 86 .not (.t 85)] (.tk 15 [.pick 87 (.t 75) (.t 86) (.c (.bool false))] .done)))) (.sk 75 true 11 14 87 (.tk 15 [.pick 87 (.t 75) (.t 86) (.c (.bool false))] .done)))) [0,1,2,3,8,9,10,11,87]) Em) Cg)
def Eo:AI:=(.seqc [0,1,2,3,8,9,10,11] (.seq (.region [.m 61 8,.m 62 61,.sc 62 true [.m 63 9] 64 (.t 63) (.c (.bool false)),.m 65 64,.sc 65 true [.m 66 12,.bin 67 .eql (.t 66) (.i 1)] 68 (.t 67) (.c (.bool false))] [0,1,2,3,8,9,10,11,68]) (.cond (.t 68) (.seq (.region [.m 69 0,.m 70 1,.m 71 2,.cl 72 [69,70,71] FZ] [0,1,2,3,8,9,10,11,72]) (.cond (.t 72) .ret .skip)) .skip)) En)
def Ep:AI:=(.seq (.region [.m 43 0,.m 44 1,.m 45 2,.cl 46 [43,44,45] I1,.m 42 46,.ext 47 (.t 42) 0,.ext 48 (.t 42) 1,.m 11 47,.m 12 48] [0,1,2,3,8,9,10,11,12]) (.seqc [0,1,2,3,8,9,10,11,12] (.seq (.region [.m 49 12,.bin 50 .eql (.t 49) (.i 2)] [0,1,2,3,8,9,10,11,12,50]) (.cond (.t 50) (.seq (.region [.m 51 0,.m 52 1,.m 53 2,.cl 54 [51,52,53] ID] [0,1,2,3,8,9,10,11]) (.seq (.region [.m 55 2,.bin 56 .sub (.t 55) (.i 1),.m 57 11,.m 58 1,.b 59 .sub 57 58,.b 60 .sub 56 59,.m 11 60] [0,1,2,3,8,9,10,11]) (.region [.mv 12 (.i 1)] [0,1,2,3,8,9,10,11,12]))) .skip)) Eo))
def Er:AI:=(.block 1 [0,1,2,3,8,9] (.seq (.region [.m 19 2,.m 20 1,.b 21 .sub 19 20,.m 10 21] [0,1,2,3,8,9,10]) (.seq (.seq (.region [.m 22 10,.bin 23 .leq (.t 22) (.i 12)] [0,1,2,3,8,9,10,23]) (.cond (.t 23) (.seq (.region [.m 24 0,.m 25 1,.m 26 2,.cl 27 [24,25,26] Hr] []) .ret) .skip)) (.seq (.seq (.region [.m 28 3,.bin 29 .eql (.t 28) (.i 0)] [0,1,2,3,8,9,10,29]) (.cond (.t 29) (.seq (.region [.m 30 0,.m 31 1,.m 32 2,.cl 33 [30,31,32] KJ] []) .ret) .skip)) (.seqc [0,1,2,3,8,9,10] (.seq (.region [.m 34 8,.un 35 .not (.t 34)] [0,1,2,3,8,9,10,35]) (.cond (.t 35) (.seq (.region [.m 36 0,.m 37 1,.m 38 2,.cl 39 [36,37,38] Hs] [0,1,2,3,8,9,10]) (.region [.m 40 3,.bin 41 .sub (.t 40) (.i 1),.m 3 41] [0,1,2,3,8,9,10])) .skip)) Ep)))))
def AO:Bi:=⟨[.mut (.own 3 (.int .i64)),.val (.int .i64),.val (.int .i64),.val (.int .i64)],[],(.seq (.region [.mv 8 (.c (.bool true))] [0,1,2,3,8]) (.seq (.region [.mv 9 (.c (.bool true))] [0,1,2,3,8,9]) (.block 0 [] (.loop [0,1,2,3,8,9] Er))))⟩
theorem K4:BT Tryz.prog 72 AO=true:=by kernel_rfl
def G5:Bi:=⟨[.val (.int .u64)],[⟨2,false,(.int .i64)⟩],(.seq (.region [.mv 2 (.i 0)] [0]) (.seq (.cond (.c (.bool false)) (.seq (.region [.m 3 0,.cvi 4 .u32 (.t 3),.cl 5 [4] UV,.m 2 5] [2]) .ret) .skip) (.seq (.region [.m 6 0,.cl 7 [6] UW,.m 2 7] [2]) .ret)))⟩
theorem Xx:BT Tryz.prog 73 G5=true:=by kernel_rfl
def OJ:DT:=(.tg 20 false 15 [.pick 31 (.t 22) (.t 30) (.c (.bool false))] (.tk 16 [.pick 32 (.t 20) (.c (.bool true)) (.t 31)] .done))
def OK:AI:=(.seq (.seq (.region [.m 44 5,.cl 45 [44] LP,.un 46 .not (.t 45)] [0,5,46]) (.cond (.t 46) (.seq (.region [.m 47 0,.cl 48 [47] BX,.m 4 48] [4]) .ret) .skip)) (.seq (.region [.m 49 5,.m 4 49] [4]) .ret))
def OL:AI:=(.seqc [0,5] (.seq (.region [.m 34 7] [0,3,5,6,34]) (.cond (.t 34) (.region [.m 35 5,.m 36 6,.ls 37 3 3,.idx 38 3 (.t 35) (.t 36),.store (.t 38) (.t 37) 3 false] [0,5]) (.region [.m 39 5,.m 40 6,.ls 41 3 3,.brow 42 27 Z [.t 41],.cl 43 [39,40,42] Gp,.m 5 43] [0,5]))) OK)
def Cz:Bi:=⟨[.val (.slice Z),.val Z],[⟨4,false,(.own 27 Z)⟩],(.seq (.region [.box 3 (.t 1) false,.mv 4 (.c (.nil))] [0,3]) (.seq (.region [.m 8 0,.cl 9 [8] BX,.m 5 9] [0,3,5]) (.seq (.region [.m 11 0,.f 12 3 0,.l 13 12,.cx (some 14) [.t 11,.t 13,.c (.fn 101 [])] DN,.m 10 14,.ext 15 (.t 10) 0,.ext 16 (.t 10) 1,.m 6 15,.m 7 16] [0,3,5,6,7]) (.seq (.seq (.draw (Hc 16 [(7,[5]),(8,[6,7]),(11,[5]),(13,[10,12])]) (.tk 1 [.m 17 0] (.only 1 none (.cl 18 [17] LP) false [] (.tk 4 [.m 20 19,.un 19 .not (.t 18)] (.test 20 (.sk 20 false 2 6 23 (.sk 22 true 8 14 31 (.sk 20 false 1 15 32 (.tk 16 [.pick 32 (.t 20) (.c (.bool true)) (.t 31)] .done)))) (.tg 20 false 6 [.m 22 21,.m 21 7] (.test 22 (.tg 22 true 14 [.b 30 .geq 27 29,.l 29 28,.f 28 3 2,.l 27 26,.f 26 25 2,.idx 25 3 (.t 23) (.t 24),.m 24 6,.m 23 0] OJ) (.sk 22 true 8 14 31 OJ))))))) [0,3,5,6,7,32]) (.cond (.t 32) (.seq (.region [.m 33 5,.m 4 33] [4]) .ret) .skip)) OL))))⟩
theorem Zh:BT Tryz.prog 74 Cz=true:=by kernel_rfl
def IP:Bi:=⟨[.val AK],[⟨2,true,AK⟩],(.seq (.region [.box 1 (.t 0) false,.al 2 AK] [1,2]) (.seq (.region [.f 3 1 5,.l 4 3,.cl 5 [4] BX,.f 6 1 5,.store (.t 6) (.t 5) 1 false] [1,2]) (.seq (.region [.ls 7 1 6,.store (.t 2) (.t 7) 6 false] [2]) .ret)))⟩
theorem Zi:BT Tryz.prog 75 IP=true:=by kernel_rfl
def Mm:AI:=(.seq (.seq (.region [.m 17 6,.m 18 0,.cx (some 19) [.t 18,.c (.int .i64 3)] CQ,.bin 20 .add (.i 1) (.t 19),.b 21 .lss 17 20] [0,3,4,5,6,21]) (.cond (.t 21) .skip (.exit 2))) (.seq (.block 3 [0,3,4,5,6] (.seq (.region [.m 24 0,.cx (some 25) [.t 24,.c (.int .i64 4)] CQ,.bin 26 .add (.i 1) (.t 25),.m 7 26] [0,3,4,5,6,7]) (.seq (.region [.m 27 5,.m 28 7,.cl 29 [27,28] EJ,.un 30 .not (.t 29)] [0,3,4,5,6,7,30]) (.cond (.t 30) (.region [.m 31 5,.m 32 7,.blst 33 (.int .i64) [.t 32],.app 34 3 (.int .i64) (.t 31) (.t 33),.m 5 34] [0,3,4,5,6]) .skip)))) (.region [.m 22 6,.bin 23 .add (.t 22) (.i 1),.m 6 23] [0,3,4,5,6])))
def Mn:AI:=(.region [.m 35 3,.m 36 5,.blst 37 (.slice (.int .i64)) [.t 36],.app 38 24 (.slice (.int .i64)) (.t 35) (.t 37),.m 3 38] [0,3,4])
def LX:AI:=(.region [.m 14 4,.bin 15 .add (.t 14) (.i 1),.m 4 15] [0,3,4])
def LY:AI:=(.seq (.seq (.region [.m 9 4,.m 10 0,.cx (some 11) [.t 10,.c (.int .i64 5)] CQ,.bin 12 .add (.i 1) (.t 11),.b 13 .lss 9 12] [0,3,4,13]) (.cond (.t 13) .skip (.exit 0))) (.seq (.block 1 [0,3,4] (.seq (.region [.brow 16 3 (.int .i64) [],.m 5 16] [0,3,4,5]) (.seq (.seq (.region [.mv 6 (.i 0)] [0,3,4,5,6]) (.block 2 [0,3,4,5] (.loop [0,3,4,5,6] Mm))) Mn))) LX))
def LZ:AI:=(.seq (.region [.m 39 3,.m 2 39] [2]) .ret)
def BK:Bi:=⟨[.ptr Aa],[⟨2,false,(.slice (.slice (.int .i64)))⟩],(.seq (.region [.mv 2 (.c (.nil))] [0]) (.seq (.region [.brow 8 24 (.slice (.int .i64)) [],.m 3 8] [0,3]) (.seq (.seq (.region [.mv 4 (.i 0)] [0,3,4]) (.block 0 [3] (.loop [0,3,4] LY))) LZ)))⟩
theorem Xy:BT Tryz.prog 76 BK=true:=by kernel_rfl
def Mo:AI:=(.seq (.seq (.region [.m 15 5,.bin 16 .leq (.t 15) (.i 6)] [0,2,4,5,16]) (.cond (.t 16) .skip (.exit 0))) (.seq (.block 1 [0,2,4,5] (.seq (.region [.m 20 5,.m 21 0,.cl 22 [20,21] Nz,.m 19 22,.ext 23 (.t 19) 0,.ext 24 (.t 19) 1,.al 6 U,.store (.t 6) (.t 23) 16 false,.m 7 24] [0,2,4,5,6]) (.region [.f 25 4 1,.l 26 25,.ls 27 6 16,.blst 28 U [.t 27],.app 29 31 U (.t 26) (.t 28),.f 30 4 1,.store (.t 30) (.t 29) 1 false] [0,2,4,5]))) (.region [.m 17 5,.bin 18 .add (.t 17) (.i 1),.m 5 18] [0,2,4,5])))
def Mp:AI:=(.seq (.region [.ls 31 4 4,.store (.t 2) (.t 31) 4 false,.mv 3 (.c (.bool true))] [2,3]) .ret)
def CR:Bi:=⟨[.val (.slice (.slice (.int .i64)))],[⟨2,true,AS⟩,⟨3,false,.bool⟩],(.seq (.region [.al 2 E5,.mv 3 (.c (.bool false))] [0,2]) (.seq (.seq (.region [.m 8 0,.cl 9 [8] F8,.un 10 .not (.t 9)] [0,2,10]) (.cond (.t 10) (.seq (.region [.build 11 [.nil,.nil,.nil,.nil] [],.store (.t 2) (.t 11) 4 false,.mv 3 (.c (.bool false))] [2,3]) .ret) .skip)) (.seq (.region [.m 12 0,.cl 13 [12] Kc,.build 14 [.nil,.nil,.nil,.nil] [(0,1,.t 13)],.al 4 E5,.store (.t 4) (.t 14) 4 false] [0,2,4]) (.seq (.seq (.region [.mv 5 (.i 1)] [0,2,4,5]) (.block 0 [2,4] (.loop [0,2,4,5] Mo))) Mp))))⟩
theorem Xz:BT Tryz.prog 77 CR=true:=by kernel_rfl
def OM:AI:=(.seq (.seq (.region [.m 66 6,.m 67 1,.n 68 67,.f 69 68 1,.l 70 69,.len 71 false (.t 70),.b 72 .lss 66 71] [0,1,4,5,6,72]) (.cond (.t 72) .skip (.exit 1))) (.seq (.block 2 [0,1,4,5,6] (.seq (.region [.m 75 1,.n 76 75,.f 77 76 1,.l 78 77,.m 79 6,.idx 80 16 (.t 78) (.t 79),.f 81 80 5,.l 82 81,.m 83 82,.sc 83 true [.m 84 0,.cx (some 85) [.t 84,.c (.int .i64 4)] F9,.un 86 .not (.t 85)] 87 (.t 86) (.c (.bool false))] [0,1,4,5,6,87]) (.cond (.t 87) (.region [.m 88 6,.bin 89 .add (.t 88) (.i 1),.f 90 5 1,.store (.t 90) (.t 89) 1 false] [0,1,4,5,6]) .skip))) (.region [.m 73 6,.bin 74 .add (.t 73) (.i 1),.m 6 74] [0,1,4,5,6])))
def Mq:DT:=(.sk 132 true 3 27 136 (.tk 28 [.pick 136 (.t 132) (.t 135) (.c (.bool false))] .done))
def Mr:AI:=(.seq (.seq (.region [.m 93 7,.m 94 1,.n 95 94,.f 96 95 1,.l 97 96,.len 98 false (.t 97),.b 99 .lss 93 98] [0,1,4,5,7,99]) (.cond (.t 99) .skip (.exit 3))) (.seq (.block 4 [0,1,4,5,7] (.seq (.region [.m 102 1,.n 103 102,.f 104 103 1,.l 105 104,.m 106 7,.idx 107 16 (.t 105) (.t 106),.ls 108 107 16,.al 8 U,.store (.t 8) (.t 108) 16 false] [0,1,4,5,7,8]) (.seq (.draw (Hc 28 [(2,[]),(7,[1,6]),(13,[8]),(15,[12,14]),(19,[8]),(21,[18,20])]) (.tk 9 [.m 117 116,.b 116 .lss 110 115,.len 115 false (.t 114),.l 114 113,.f 113 112 0,.n 112 111,.m 111 1,.l 110 109,.f 109 8 1] (.test 117 (.tg 117 true 22 [.b 130 .eql 127 129,.l 129 128,.f 128 8 0,.l 127 126,.idx 126 1 (.t 125) (.i 0),.l 125 124,.idx 124 1 (.t 121) (.t 123),.l 123 122,.f 122 8 1,.l 121 120,.f 120 119 0,.n 119 118,.m 118 1] (.tk 24 [.m 132 131,.pick 131 (.t 117) (.t 130) (.c (.bool false))] (.test 132 (.tg 132 true 25 [.m 133 0] (.only 25 (some (132,true)) (.cx (some 134) [.t 133,.c (.int .i64 3)] F9) false [] (.tg 132 true 27 [.un 135 .not (.t 134)] (.tk 28 [.pick 136 (.t 132) (.t 135) (.c (.bool false))] .done)))) Mq))) (.sk 117 true 13 22 131 (.tk 24 [.m 132 131,.pick 131 (.t 117) (.t 130) (.c (.bool false))] Mq)))) [0,1,4,5,7,8,136]) (.cond (.t 136) (.region [.f 137 8 0,.l 138 137,.f 139 5 1,.store (.t 139) (.t 138) 1 false] [0,1,4,5,7]) .skip)))) (.region [.m 100 7,.bin 101 .add (.t 100) (.i 1),.m 7 101] [0,1,4,5,7])))
def Ms:AI:=(.seq (.region [.ls 140 5 6,.store (.t 4) (.t 140) 6 false] [4]) .ret)
def Mt:AI:=(.seq (.seq (.region [.f 47 5 0,.l 48 47] [0,1,4,5,48]) (.block 0 [4,5] (.seq (.region [.bin 50 .eql (.t 48) (.i 1),.m 49 50] [0,1,4,5,48,49]) (.cond (.t 49) (.seq (.region [.m 51 0,.brow 52 3 (.int .i64) [.c (.int .i64 1),.c (.int .i64 1),.c (.int .i64 2)],.cl 53 [51,52] ML,.f 54 5 3,.store (.t 54) (.t 53) 1 false] [0,1,4,5]) (.seq (.region [.m 55 0,.brow 56 9 .str [.c (.str ⟨#[97]⟩),.c (.str ⟨#[98]⟩),.c (.str ⟨#[99]⟩)],.cl 57 [55,56] RM,.f 58 5 4,.store (.t 58) (.t 57) 1 false] [0,1,4,5]) (.seqc [0,1,4,5] (.seq (.region [.f 59 5 3,.l 60 59,.bin 61 .eql (.t 60) (.i 1)] [0,1,4,5,61]) (.cond (.t 61) (.region [.m 62 0,.brow 63 9 .str [.c (.str ⟨#[118]⟩),.c (.str ⟨#[119]⟩),.c (.str ⟨#[120]⟩),.c (.str ⟨#[121]⟩)],.cl 64 [62,63] RM,.f 65 5 5,.store (.t 65) (.t 64) 1 false] [0,1,4,5]) .skip)) (.seq (.region [.mv 6 (.i 0)] [0,1,4,5,6]) (.block 1 [4,5] (.loop [0,1,4,5,6] OM)))))) (.seq (.region [.bin 92 .eql (.t 48) (.i 5),.m 91 92] [0,1,4,5,91]) (.cond (.t 91) (.seq (.region [.mv 7 (.i 0)] [0,1,4,5,7]) (.block 3 [4,5] (.loop [0,1,4,5,7] Mr))) .skip)))))) Ms)
def Mu:AI:=(.seqc [0,1,4,5] (.seq (.region [.f 39 5 0,.l 40 39,.bin 41 .eql (.t 40) (.i 2),.m 42 41,.sc 42 true [.m 43 0,.cx (some 44) [.t 43,.c (.int .i64 2)] F9] 45 (.t 44) (.c (.bool false))] [0,1,4,5,45]) (.cond (.t 45) (.region [.f 46 5 2,.store (.t 46) (.i 0) 1 false] [0,1,4,5]) .skip)) Mt)
def Mv:AI:=(.seqc [0,1,4,5] (.seq (.region [.m 18 1,.n 19 18,.f 20 19 2,.l 21 20,.len 22 false (.t 21),.bin 23 .eql (.t 22) (.i 0),.m 24 23,.sc 24 true [.f 25 5 0,.l 26 25,.cx (some 27) [.t 26,.c (.int .i64 2),.c (.int .i64 4)] Ab] 28 (.t 27) (.c (.bool false))] [0,1,4,5,28]) (.cond (.t 28) (.region [.f 29 5 0,.store (.t 29) (.i 1) 1 false] [0,1,4,5]) .skip)) (.seqc [0,1,4,5] (.seq (.region [.f 30 5 0,.l 31 30,.bin 32 .eql (.t 31) (.i 6),.m 33 32,.sc 33 true [.m 34 0,.cx (some 35) [.t 34,.c (.int .i64 4)] F9,.un 36 .not (.t 35)] 37 (.t 36) (.c (.bool false))] [0,1,4,5,37]) (.cond (.t 37) (.region [.f 38 5 0,.store (.t 38) (.i 1) 1 false] [0,1,4,5]) .skip)) Mu))
def Ap:Bi:=⟨[.ptr Aa,.ptr AS],[⟨4,true,Aj⟩],(.seq (.region [.al 4 Aj] [0,1,4]) (.seq (.region [.m 9 0,.blst 10 (.int .i64) [.c (.int .i64 1),.c (.int .i64 1),.c (.int .i64 1),.c (.int .i64 2),.c (.int .i64 2),.c (.int .i64 2),.c (.int .i64 2),.c (.int .i64 2),.c (.int .i64 2),.c (.int .i64 2),.c (.int .i64 2),.c (.int .i64 3),.c (.int .i64 4),.c (.int .i64 5),.c (.int .i64 6)],.cl 11 [9,10] ML,.m 12 0,.cx (some 13) [.t 12,.c (.int .i64 4)] CQ,.bin 14 .add (.i 1) (.t 13),.m 15 0,.cx (some 16) [.t 15,.c (.int .i64 20)] CQ,.bu 17 Aj [(0,1,.t 11),(1,1,.t 14),(2,1,.t 16)],.al 5 Aj,.store (.t 5) (.t 17) 6 false] [0,1,4,5]) Mv))⟩
theorem Zj:BT Tryz.prog 78 Ap=true:=by kernel_rfl
def K5:Bi:=⟨[.ptr AS,.val (.int .i64),.val Aj],[⟨6,false,(.int .i64)⟩],(.seq (.region [.box 5 (.t 2) false,.mv 6 (.i 0)] [0,1,5]) (.seq (.seq (.region [.f 7 5 0,.l 8 7] [0,1,5,8]) (.block 0 [0,1,5] (.seq (.region [.bin 10 .eql (.t 8) (.i 1),.m 9 10] [0,1,5,8,9]) (.cond (.t 9) (.seq (.region [.m 11 0,.m 12 1,.ls 13 5 6,.cl 14 [11,12,13] Xo,.m 6 14] [6]) .ret) (.seq (.region [.bin 16 .eql (.t 8) (.i 5),.m 15 16] [0,1,5,8,15]) (.cond (.t 15) (.seq (.region [.m 17 0,.m 18 1,.f 19 5 1,.l 20 19,.cl 21 [17,18,20] Xp,.m 6 21] [6]) .ret) (.seq (.region [.bin 23 .eql (.t 8) (.i 6),.m 22 23] [0,1,5,22]) (.cond (.t 22) (.seq (.draw (Hc 15 [(1,[]),(5,[]),(8,[4,7]),(11,[]),(12,[]),(13,[]),(14,[0,10,11,12,13])]) (.tk 10 [.ls 33 32 16,.idx 32 16 (.t 28) (.t 31),.bin 31 .sub (.t 30) (.i 1),.l 30 29,.f 29 5 1,.l 28 27,.f 27 26 1,.n 26 25,.m 25 0,.m 24 0] (.tk 14 [.m 37 1] (.only 10 none (.cl 34 [33] dS) false [(11,.brow 35 34 AK []),(12,.brow 36 52 Aq [])] (.only 11 none (.brow 35 34 AK []) true [(12,.brow 36 52 Aq [])] (.only 12 none (.brow 36 52 Aq []) true [] (.only 14 none (.cl 38 [24,34,35,36,37] GM) false [] .done)))))) []) (.seq (.region [.mv 6 (.i 0)] [6]) .ret)) .skip)))))))) (.seq (.region [.m 39 0,.m 40 1,.ls 41 5 6,.cl 42 [39,40,41] aX,.m 6 42] [6]) .ret)))⟩
theorem cQ:BT Tryz.prog 79 K5=true:=by kernel_rfl
def ON:AI:=(.seq (.seq (.region [.f 18 1 0,.l 19 18,.bin 20 .neq (.t 19) (.i 1)] [1,20]) (.cond (.t 20) (.seq (.region [.f 21 1 3,.l 22 21,.bin 23 .eql (.t 22) (.i 0),.m 24 23,.sc 24 true [.f 25 1 4,.l 26 25,.bin 27 .eql (.t 26) (.c (.str ⟨#[]⟩))] 28 (.t 27) (.c (.bool false)),.m 29 28,.sc 29 true [.f 30 1 5,.l 31 30,.bin 32 .eql (.t 31) (.c (.str ⟨#[]⟩))] 33 (.t 32) (.c (.bool false)),.m 2 33] [2]) .ret) .skip)) (.seq (.region [.f 34 1 3,.l 35 34,.bin 36 .eql (.t 35) (.i 1),.m 37 36,.sc 37 false [.f 38 1 3,.l 39 38,.bin 40 .eql (.t 39) (.i 2)] 41 (.c (.bool true)) (.t 40),.m 42 41,.sc 42 true [.f 43 1 4,.l 44 43,.len 45 true (.t 44),.cx (some 46) [.t 45,.c (.int .i64 1),.c (.int .i64 12)] Ab] 47 (.t 46) (.c (.bool false)),.m 48 47,.sc 48 true [.f 49 1 5,.l 50 49,.len 51 true (.t 50),.bin 52 .leq (.t 51) (.i 20)] 53 (.t 52) (.c (.bool false)),.m 54 53,.sc 54 true [.f 55 1 3,.l 56 55,.bin 57 .eql (.t 56) (.i 1),.m 58 57,.sc 58 false [.f 59 1 5,.l 60 59,.bin 61 .eql (.t 60) (.c (.str ⟨#[]⟩))] 62 (.c (.bool true)) (.t 61)] 63 (.t 62) (.c (.bool false)),.m 2 63] [2]) .ret))
def Es:Bi:=⟨[.val Aj],[⟨2,false,.bool⟩],(.seq (.region [.box 1 (.t 0) false,.mv 2 (.c (.bool false))] [1]) (.seq (.seq (.region [.f 3 1 0,.l 4 3,.cx (some 5) [.t 4,.c (.int .i64 1),.c (.int .i64 6)] Ab,.un 6 .not (.t 5),.m 7 6,.sc 7 false [.f 8 1 1,.l 9 8,.cx (some 10) [.t 9,.c (.int .i64 1),.c (.int .i64 6)] Ab,.un 11 .not (.t 10)] 12 (.c (.bool true)) (.t 11),.m 13 12,.sc 13 false [.f 14 1 2,.l 15 14,.bin 16 .lss (.t 15) (.i 0)] 17 (.c (.bool true)) (.t 16)] [1,17]) (.cond (.t 17) (.seq (.region [.mv 2 (.c (.bool false))] [2]) .ret) .skip)) ON))⟩
theorem Zk:BT Tryz.prog 80 Es=true:=by kernel_rfl
def OO:AI:=(.seq (.seq (.region [.m 16 4,.f 17 1 1,.l 18 17,.len 19 false (.t 18),.b 20 .lss 16 19] [1,2,3,4,20]) (.cond (.t 20) .skip (.exit 0))) (.seq (.block 1 [1,2,3,4] (.draw (Hc 12 [(2,[]),(4,[]),(5,[3,4]),(9,[1,8])]) (.tk 7 [.ls 29 28 16,.idx 28 16 (.t 26) (.t 27),.m 27 4,.l 26 25,.f 25 1 1,.l 24 23,.f 23 3 1] (.only 7 none (.cl 30 [29] El) false [] (.only 8 none (.blst 31 U [.t 30]) false [] (.only 9 none (.app 32 31 U (.t 24) (.t 31)) false [] (.tk 11 [.f 33 3 1] (.only 11 none (.store (.t 33) (.t 32) 1 false) false [] .done)))))) [1,2,3,4])) (.region [.m 21 4,.bin 22 .add (.t 21) (.i 1),.m 4 22] [1,2,3,4])))
def OP:AI:=(.seq (.region [.ls 34 3 4,.store (.t 2) (.t 34) 4 false] [2]) .ret)
def C0:Bi:=⟨[.val AS],[⟨2,true,AS⟩],(.seq (.region [.box 1 (.t 0) true,.al 2 E5] [1,2]) (.seq (.draw (Hc 13 [(3,[]),(5,[2,4]),(6,[]),(7,[]),(9,[5,6,8]),(11,[]),(12,[10,11])]) (.tk 2 [.l 6 5,.f 5 1 0] (.tk 5 [.l 9 8,.f 8 1 2] (.tk 9 [.l 13 12,.f 12 1 3] (.only 2 none (.cl 7 [6] Kc) false [(6,.brow 11 156 Ek []),(11,.al 3 E5)] (.only 5 none (.cl 10 [9] TP) false [(6,.brow 11 156 Ek []),(11,.al 3 E5)] (.only 6 none (.brow 11 156 Ek []) true [(11,.al 3 E5)] (.only 9 none (.app 14 156 Ek (.t 11) (.t 13)) false [(11,.al 3 E5)] (.tk 11 [.build 15 [.nil,.nil,.nil,.nil] [(0,1,.t 7),(2,1,.t 10),(3,1,.t 14)]] (.only 11 none (.al 3 E5) true [] (.only 12 none (.store (.t 3) (.t 15) 4 false) false [] .done)))))))))) [1,2,3]) (.seq (.seq (.region [.mv 4 (.i 0)] [1,2,3,4]) (.block 0 [2,3] (.loop [1,2,3,4] OO))) OP)))⟩
theorem Zl:BT Tryz.prog 81 C0=true:=by kernel_rfl
def Fl:Bi:=⟨[.ptr Aa,.val (.slice (.int .i64))],[⟨4,false,(.int .i64)⟩],(.seq (.region [.mv 4 (.i 0)] [0,1]) (.seq (.region [.m 5 1,.m 6 0,.m 7 1,.len 8 false (.t 7),.cl 9 [6,8] CQ,.idx 10 1 (.t 5) (.t 9),.l 11 10,.m 4 11] [4]) .ret))⟩
theorem Ua:BT Tryz.prog 83 Fl=true:=by kernel_rfl
end
end Go.Proofs.YtaedipailemlcaaGreat.Core

namespace Go.Proofs.YtaedipailemlcaaGreat.Core
open Go IntKind
set_option linter.unusedVariables false
set_option maxRecDepth 100000
noncomputable section
def DY:AI:=(.seq (.block 3 [0,1,2,6,7] (.draw (Hc 18 [(1,[]),(2,[]),(3,[]),(5,[]),(6,[]),(8,[5,7]),(10,[]),(11,[]),(12,[10,11]),(14,[0,1,9,13]),(16,[2,4,15])]) (.tk 15 [.idx 47 1 (.t 33) (.t 34),.l 46 45,.idx 45 1 (.t 43) (.t 44),.m 44 7,.m 43 0,.l 42 41,.idx 41 1 (.t 38) (.t 40),.bin 40 .sub (.t 39) (.i 1),.m 39 7,.m 38 0,.bin 37 .sub (.t 36) (.i 1),.m 36 7,.m 35 0,.m 34 7,.m 33 0] (.only 15 none (.store (.t 47) (.t 42) 1 false) false [] (.tk 17 [.idx 48 1 (.t 35) (.t 37)] (.only 17 none (.store (.t 48) (.t 46) 1 false) false [] .done)))) [0,1,2,6,7])) (.region [.m 31 7,.bin 32 .sub (.t 31) (.i 1),.m 7 32] [0,1,2,6,7]))
def DZ:AI:=(.seq (.seq (.draw (Hc 15 [(1,[]),(2,[0,1]),(5,[3]),(6,[4,5]),(8,[3]),(9,[3]),(11,[8,10]),(13,[7,12])]) (.tk 4 [.m 19 18,.b 18 .gtr 16 17,.m 17 1,.m 16 7] (.test 19 (.tg 19 true 13 [.l 28 27,.idx 27 1 (.t 24) (.t 26),.bin 26 .sub (.t 25) (.i 1),.m 25 7,.m 24 0,.l 23 22,.idx 22 1 (.t 20) (.t 21),.m 21 7,.m 20 0] (.only 13 (some (19,true)) (.cl 29 [23,28] RL) false [] (.tk 15 [.pick 30 (.t 19) (.t 29) (.c (.bool false))] .done))) (.sk 19 true 10 14 30 (.tk 15 [.pick 30 (.t 19) (.t 29) (.c (.bool false))] .done)))) [0,1,2,6,7,30]) (.cond (.t 30) .skip (.exit 2))) DY)
def Da:AI:=(.region [.m 13 6,.bin 14 .add (.t 13) (.i 1),.m 6 14] [0,1,2,6])
def Db:AI:=(.seq (.seq (.region [.m 10 6,.m 11 2,.b 12 .lss 10 11] [0,1,2,6,12]) (.cond (.t 12) .skip (.exit 0))) (.seq (.block 1 [0,1,2,6] (.seq (.region [.m 15 6,.m 7 15] [0,1,2,6,7]) (.block 2 [0,1,2,6] (.loop [0,1,2,6,7] DZ)))) Da))
def AM:Bi:=⟨[.mut (.own 3 (.int .i64)),.val (.int .i64),.val (.int .i64)],[],(.seq (.region [.m 8 1,.bin 9 .add (.t 8) (.i 1),.m 6 9] [0,1,2,6]) (.block 0 [] (.loop [0,1,2,6] Db)))⟩
theorem Ht:BT Tryz.prog 89 AM=true:=by kernel_rfl
def IQ:Bi:=⟨[.val (.int .i64),.val (.int .i64)],[⟨4,false,.bool⟩],(.seq (.region [.mv 4 (.c (.bool false))] [0,1]) (.seq (.region [.m 5 0,.cl 6 [5] Pn,.m 7 6,.sc 7 true [.m 8 1,.cl 9 [8] Pn,.un 10 .not (.t 9)] 11 (.t 10) (.c (.bool false)),.m 12 11,.sc 12 false [.m 13 0,.m 14 1,.b 15 .lss 13 14] 16 (.c (.bool true)) (.t 15),.m 4 16] [4]) .ret))⟩
theorem Zm:BT Tryz.prog 95 IQ=true:=by kernel_rfl
def Kg:AI:=(.seqc [0,2] (.seq (.region [.m 13 0,.bin 14 .geq (.t 13) (.c (.int .u64 256))] [0,2,14]) (.cond (.t 14) (.seq (.region [.m 15 0,.bin 16 .shr (.t 15) (.c (.int .u64 8)),.m 0 16] [0,2]) (.region [.m 17 2,.bin 18 .add (.t 17) (.i 8),.m 2 18] [0,2])) .skip)) (.seq (.region [.m 19 2,.m 20 0,.cvi 21 .u8 (.t 20),.sidx 22 (.c (.str ⟨#[0,1,2,2,3,3,3,3,4,4,4,4,4,4,4,4,5,5,5,5,5,5,5,5,5,5,5,5,5,5,5,5,6,6,6,6,6,6,6,6,6,6,6,6,6,6,6,6,6,6,6,6,6,6,6,6,6,6,6,6,6,6,6,6,7,7,7,7,7,7,7,7,7,7,7,7,7,7,7,7,7,7,7,7,7,7,7,7,7,7,7,7,7,7,7,7,7,7,7,7,7,7,7,7,7,7,7,7,7,7,7,7,7,7,7,7,7,7,7,7,7,7,7,7,7,7,7,7,8,8,8,8,8,8,8,8,8,8,8,8,8,8,8,8,8,8,8,8,8,8,8,8,8,8,8,8,8,8,8,8,8,8,8,8,8,8,8,8,8,8,8,8,8,8,8,8,8,8,8,8,8,8,8,8,8,8,8,8,8,8,8,8,8,8,8,8,8,8,8,8,8,8,8,8,8,8,8,8,8,8,8,8,8,8,8,8,8,8,8,8,8,8,8,8,8,8,8,8,8,8,8,8,8,8,8,8,8,8,8,8,8,8,8,8,8,8,8,8,8,8,8,8,8,8,8,8]⟩)) (.t 21),.cvi 23 .i64 (.t 22),.b 24 .add 19 23,.m 2 24] [2]) .ret))
def Kh:AI:=(.seqc [0,2] (.seq (.region [.m 7 0,.bin 8 .geq (.t 7) (.c (.int .u64 65536))] [0,2,8]) (.cond (.t 8) (.seq (.region [.m 9 0,.bin 10 .shr (.t 9) (.c (.int .u64 16)),.m 0 10] [0,2]) (.region [.m 11 2,.bin 12 .add (.t 11) (.i 16),.m 2 12] [0,2])) .skip)) Kg)
def Bx:Bi:=⟨[.val (.int .u64)],[⟨2,false,(.int .i64)⟩],(.seq (.region [.mv 2 (.i 0)] [0,2]) (.seqc [0,2] (.seq (.region [.m 3 0,.bin 4 .geq (.t 3) (.c (.int .u64 4294967296))] [0,2,4]) (.cond (.t 4) (.seq (.region [.m 5 0,.bin 6 .shr (.t 5) (.c (.int .u64 32)),.m 0 6] [0]) (.region [.mv 2 (.i 32)] [0,2])) .skip)) Kh))⟩
theorem Ub:BT Tryz.prog 99 Bx=true:=by kernel_rfl
def Be:AI:=(.seq (.seq (.region [.m 15 9,.m 16 10,.b 17 .lss 15 16] [0,1,2,8,9,10,17]) (.cond (.t 17) .skip (.exit 0))) (.block 1 [0,1,2,8,9,10] (.seq (.region [.m 18 9,.m 19 10,.b 20 .add 18 19,.cvi 21 .u64 (.t 20),.bin 22 .shr (.t 21) (.c (.int .u64 1)),.cvi 23 .i64 (.t 22),.m 11 23] [0,1,2,8,9,10,11]) (.seq (.region [.m 24 2,.m 25 0,.m 26 11,.idx 27 3 (.t 25) (.t 26),.ls 28 27 3,.m 29 1,.call (some 30) 101 [(.t 28,.val Z),(.t 29,.val .str),(.t 24,.cap0 101)] [(.int .i64)],.bin 31 .lss (.t 30) (.i 0)] [0,1,2,8,9,10,11,31]) (.cond (.t 31) (.region [.m 32 11,.bin 33 .add (.t 32) (.i 1),.m 9 33] [0,1,2,8,9,10]) (.region [.m 34 11,.m 10 34] [0,1,2,8,9,10]))))))
def An:AI:=(.seq (.region [.m 35 9,.m 36 9,.m 37 8,.b 38 .lss 36 37,.m 39 38,.sc 39 true [.m 40 2,.m 41 0,.m 42 9,.idx 43 3 (.t 41) (.t 42),.ls 44 43 3,.m 45 1,.call (some 46) 101 [(.t 44,.val Z),(.t 45,.val .str),(.t 40,.cap0 101)] [(.int .i64)],.bin 47 .eql (.t 46) (.i 0)] 48 (.t 47) (.c (.bool false)),.m 6 35,.m 7 48] [6,7]) .ret)
def AC:Bi:=⟨[.val (.slice Z),.val .str,.val (.fun 101)],[⟨6,false,(.int .i64)⟩,⟨7,false,.bool⟩],(.seq (.region [.mv 6 (.i 0),.mv 7 (.c (.bool false))] [0,1,2]) (.seq (.region [.m 12 0,.len 13 false (.t 12),.m 8 13] [0,1,2,8]) (.seq (.region [.m 14 8,.mv 9 (.i 0),.m 10 14] [0,1,2,8,9,10]) (.seq (.block 0 [0,1,2,8,9] (.loop [0,1,2,8,9,10] Be)) An))))⟩
theorem DP:BT Tryz.prog 100 AC=true:=by kernel_rfl
def GQ:Bi:=⟨[.val Z,.val .str],[⟨4,false,(.int .i64)⟩],(.seq (.region [.box 2 (.t 0) false,.mv 4 (.i 0)] [1,2]) (.seq (.region [.f 5 2 0,.l 6 5,.m 7 1,.cl 8 [6,7] UX,.m 4 8] [4]) .ret))⟩
theorem WG:BT Tryz.prog 101 GQ=true:=by kernel_rfl
def I4:AI:=(.seq (.seq (.region [.m 6 4,.m 7 0,.len 8 false (.t 7),.b 9 .lss 6 8] [0,3,4,9]) (.cond (.t 9) .skip (.exit 0))) (.seq (.block 1 [0,3,4] (.region [.m 12 3,.brow 13 3 (.int .i64) [],.m 14 0,.m 15 4,.idx 16 1 (.t 14) (.t 15),.l 17 16,.app 18 3 (.int .i64) (.t 13) (.t 17),.blst 19 (.slice (.int .i64)) [.t 18],.app 20 24 (.slice (.int .i64)) (.t 12) (.t 19),.m 3 20] [0,3,4])) (.region [.m 10 4,.bin 11 .add (.t 10) (.i 1),.m 4 11] [0,3,4])))
def I5:AI:=(.seq (.region [.m 21 3,.m 2 21] [2]) .ret)
def Bg:Bi:=⟨[.val (.slice (.slice (.int .i64)))],[⟨2,false,(.slice (.slice (.int .i64)))⟩],(.seq (.region [.mv 2 (.c (.nil))] [0]) (.seq (.region [.brow 5 24 (.slice (.int .i64)) [],.m 3 5] [0,3]) (.seq (.seq (.region [.mv 4 (.i 0)] [0,3,4]) (.block 0 [3] (.loop [0,3,4] I4))) I5)))⟩
theorem Sg:BT Tryz.prog 104 Bg=true:=by kernel_rfl
def IR:Bi:=⟨[.ptr Aa,.val (.slice .str)],[⟨4,false,.str⟩],(.seq (.region [.mv 4 (.c (.str ⟨#[]⟩))] [0,1]) (.seq (.region [.m 5 1,.m 6 0,.m 7 1,.len 8 false (.t 7),.cl 9 [6,8] CQ,.idx 10 1 (.t 5) (.t 9),.l 11 10,.m 4 11] [4]) .ret))⟩
theorem Zn:BT Tryz.prog 105 IR=true:=by kernel_rfl
def G6:Bi:=⟨[.ptr AS,.val (.int .i64),.val Aj],[⟨6,false,(.int .i64)⟩],(.seq (.region [.box 5 (.t 2) false,.mv 6 (.i 0)] [0,1,5]) (.seq (.draw (Hc 20 [(1,[]),(2,[]),(6,[1,5]),(7,[]),(9,[]),(11,[]),(13,[]),(14,[8,10,12,13]),(16,[6,15]),(17,[0,16])]) (.tk 1 [.m 11 0] (.tk 6 [.l 16 15,.f 15 14 3,.n 14 13,.m 13 0] (.tk 15 [.bu 25 Ek [(0,1,.t 19),(1,1,.t 21),(2,1,.t 23),(3,1,.t 24),(4,1,.c (.int .i64 (-1)))],.m 24 1,.l 23 22,.f 22 5 5,.l 21 20,.f 20 5 4,.l 19 18,.f 18 5 3] (.only 1 none (.brow 12 156 Ek []) false [(15,.blst 26 Ek [.t 25])] (.only 6 none (.app 17 156 Ek (.t 12) (.t 16)) false [(15,.blst 26 Ek [.t 25])] (.only 15 none (.blst 26 Ek [.t 25]) true [] (.only 16 none (.app 27 156 Ek (.t 17) (.t 26)) false [] (.tk 19 [.f 29 28 3,.n 28 11] (.only 19 none (.store (.t 29) (.t 27) 1 false) false [] .done))))))))) [0,1,5]) (.seq (.draw (Hc 36 [(4,[]),(7,[3,6]),(9,[]),(13,[]),(15,[]),(21,[]),(23,[]),(25,[8,12,14,20,22,24]),(28,[26]),(29,[26]),(30,[26]),(31,[]),(32,[27,31]),(33,[28,32]),(34,[29,33]),(35,[30,34])]) (.tk 25 [.l 55 54,.f 54 5 5,.l 53 52,.f 52 5 4,.bin 51 .sub (.t 50) (.i 1),.len 50 false (.t 49),.l 49 48,.f 48 47 3,.n 47 46,.m 46 0,.l 45 44,.f 44 5 3,.l 43 42,.f 42 41 0,.n 41 40,.m 40 0,.ls 39 38 16,.idx 38 16 (.t 34) (.t 37),.bin 37 .sub (.t 36) (.i 1),.l 36 35,.f 35 5 1,.l 34 33,.f 33 32 1,.n 32 31,.m 31 0] (.only 25 none (.cl 56 [39,43,45,51,53,55] UR) false [(31,.al 7 U)] (.tk 31 [.ext 60 (.t 30) 3,.ext 59 (.t 30) 2,.ext 58 (.t 30) 1,.ext 57 (.t 30) 0,.m 30 56] (.only 31 none (.al 7 U) true [] (.only 32 none (.store (.t 7) (.t 57) 16 false) false [] (.tk 36 [.m 10 60,.m 9 59,.m 8 58] .done)))))) [0,1,7,8,9,10]) (.seq (.seq (.region [.m 61 10,.un 62 .not (.t 61)] [0,1,7,8,9,62]) (.cond (.t 62) (.seq (.region [.mv 6 (.i 1)] [6]) .ret) .skip)) (.seq (.region [.m 63 0,.ls 64 7 16,.m 65 8,.m 66 9,.m 67 1,.cl 68 [63,64,65,66,67] GM] []) (.seq (.region [.mv 6 (.i 0)] [6]) .ret))))))⟩
theorem X0:BT Tryz.prog 106 G6=true:=by kernel_rfl
def Mw:AI:=(.seq (.seq (.region [.m 23 8,.m 24 0,.n 25 24,.f 26 25 0,.l 27 26,.len 28 false (.t 27),.b 29 .leq 23 28] [0,1,2,7,8,29]) (.cond (.t 29) .skip (.exit 0))) (.seq (.block 1 [0,1,2,7,8] (.seq (.seq (.region [.m 32 0,.n 33 32,.f 34 33 0,.l 35 34,.m 36 8,.bin 37 .sub (.t 36) (.i 1),.idx 38 1 (.t 35) (.t 37),.l 39 38,.idx 40 1 (.t 39) (.i 0),.l 41 40,.m 42 2,.b 43 .neq 41 42] [0,1,2,7,8,43]) (.cond (.t 43) (.exit 1) .skip)) (.seq (.draw (Hc 15 [(1,[]),(5,[]),(6,[0,4,5]),(9,[7]),(10,[7]),(11,[]),(12,[8,11]),(13,[9,12]),(14,[10,13])]) (.tk 6 [.m 50 8,.l 49 48,.f 48 47 0,.n 47 46,.m 46 0,.ls 45 7 16] (.only 6 none (.cl 51 [45,49,50] cE) false [(11,.al 9 U)] (.tk 11 [.ext 54 (.t 44) 2,.ext 53 (.t 44) 1,.ext 52 (.t 44) 0,.m 44 51] (.only 11 none (.al 9 U) true [] (.only 12 none (.store (.t 9) (.t 52) 16 false) false [] (.tk 15 [.m 11 54,.m 10 53] .done)))))) [0,1,9,10,11]) (.seq (.seq (.region [.m 55 11,.un 56 .not (.t 55)] [0,1,9,10,56]) (.cond (.t 56) (.seq (.region [.mv 6 (.i 1)] [6]) .ret) .skip)) (.seq (.region [.m 57 0,.ls 58 9 16,.m 59 10,.brow 60 52 Aq [],.m 61 1,.cl 62 [57,58,59,60,61] GM] []) (.seq (.region [.mv 6 (.i 0)] [6]) .ret)))))) (.region [.m 30 8,.bin 31 .add (.t 30) (.i 1),.m 8 31] [0,1,2,7,8])))
def La:AI:=(.seq (.region [.mv 6 (.i 1)] [6]) .ret)
def CS:Bi:=⟨[.ptr AS,.val (.int .i64),.val (.int .i64)],[⟨6,false,(.int .i64)⟩],(.seq (.region [.mv 6 (.i 0)] [0,1,2]) (.seq (.region [.m 12 0,.n 13 12,.f 14 13 1,.l 15 14,.m 16 2,.bin 17 .sub (.t 16) (.i 1),.idx 18 16 (.t 15) (.t 17),.ls 19 18 16,.al 7 U,.store (.t 7) (.t 19) 16 false] [0,1,2,7]) (.seq (.seq (.region [.f 20 7 1,.l 21 20,.bin 22 .add (.t 21) (.i 1),.m 8 22] [0,1,2,7,8]) (.block 0 [] (.loop [0,1,2,7,8] Mw))) La)))⟩
theorem X1:BT Tryz.prog 107 CS=true:=by kernel_rfl
def Ki:AI:=(.seq (.region [.brow 72 156 Ek [],.m 73 0,.n 74 73,.f 75 74 3,.l 76 75,.app 77 156 Ek (.t 72) (.t 76),.m 13 77] [0,3,4,11,12,13]) (.seq (.region [.m 78 13,.f 79 12 0,.l 80 79,.idx 81 9 (.t 78) (.t 80),.m 14 81] [0,3,4,11,12,13,14]) (.seq (.region [.m 82 14,.m 83 4,.n 84 82,.f 85 84 4,.store (.t 85) (.t 83) 1 false] [0,3,4,11,12,13,14]) (.seq (.region [.m 86 14,.f 87 12 3,.f 88 87 2,.l 89 88,.n 90 86,.f 91 90 5,.store (.t 91) (.t 89) 1 false] [0,3,4,11,12,13,14]) (.seq (.region [.m 92 14,.f 93 12 1,.l 94 93,.n 95 92,.f 96 95 6,.store (.t 96) (.t 94) 1 false] [0,3,4,11,12,13,14]) (.seq (.region [.m 97 14,.f 98 12 2,.l 99 98,.n 100 97,.f 101 100 7,.store (.t 101) (.t 99) 1 false] [0,3,4,11,12,13,14]) (.seqc [0,3,4,11,13] (.seq (.region [.m 102 14,.n 103 102,.f 104 103 0,.l 105 104,.bin 106 .eql (.t 105) (.i 2)] [0,3,4,11,12,13,14,106]) (.cond (.t 106) (.region [.m 107 14,.f 108 12 3,.f 109 108 1,.l 110 109,.n 111 107,.f 112 111 8,.store (.t 112) (.t 110) 1 false] [0,3,4,11,13]) .skip)) (.region [.m 113 0,.m 114 13,.n 115 113,.f 116 115 3,.store (.t 116) (.t 114) 1 false] [0,3,4,11]))))))))
def Kj:AI:=(.region [.m 46 11,.bin 47 .add (.t 46) (.i 1),.m 11 47] [0,3,4,11])
def Kk:AI:=(.seq (.seq (.region [.m 42 11,.m 43 3,.len 44 false (.t 43),.b 45 .lss 42 44] [0,3,4,11,45]) (.cond (.t 45) .skip (.exit 0))) (.seq (.block 1 [0,3,4,11] (.seq (.region [.m 48 3,.m 49 11,.idx 50 6 (.t 48) (.t 49),.ls 51 50 6,.al 12 Aq,.store (.t 12) (.t 51) 6 false] [0,3,4,11,12]) (.seq (.seq (.draw (Hc 20 [(2,[]),(7,[1,6]),(13,[8]),(15,[12,14])]) (.tk 9 [.m 60 59,.b 59 .geq 53 58,.len 58 false (.t 57),.l 57 56,.f 56 55 3,.n 55 54,.m 54 0,.l 53 52,.f 52 12 0] (.test 60 (.sk 60 false 10 19 71 (.tk 20 [.pick 71 (.t 60) (.c (.bool true)) (.t 70)] .done)) (.tg 60 false 19 [.bin 70 .geq (.t 69) (.i 0),.l 69 68,.f 68 67 4,.idx 67 9 (.t 64) (.t 66),.l 66 65,.f 65 12 0,.l 64 63,.f 63 62 3,.n 62 61,.m 61 0] (.tk 20 [.pick 71 (.t 60) (.c (.bool true)) (.t 70)] .done)))) [0,3,4,11,12,71]) (.cond (.t 71) (.exit 1) .skip)) Ki))) Kj))
def Bs:Bi:=⟨[.ptr AS,.val U,.val (.slice AK),.val (.slice Aq),.val (.int .i64)],[],(.seq (.region [.box 6 (.t 1) false] [0,2,3,4,6]) (.seq (.region [.brow 15 31 U [],.m 16 0,.n 17 16,.f 18 17 1,.l 19 18,.app 20 31 U (.t 15) (.t 19),.m 10 20] [0,2,3,4,6,10]) (.seq (.region [.m 21 10,.f 22 6 0,.l 23 22,.bin 24 .sub (.t 23) (.i 1),.ls 25 6 16,.idx 26 16 (.t 21) (.t 24),.store (.t 26) (.t 25) 16 false] [0,2,3,4,10]) (.seq (.region [.m 27 0,.m 28 10,.n 29 27,.f 30 29 1,.store (.t 30) (.t 28) 1 false] [0,2,3,4]) (.seq (.region [.m 31 0,.brow 32 34 AK [],.m 33 0,.n 34 33,.f 35 34 2,.l 36 35,.app 37 34 AK (.t 32) (.t 36),.m 38 2,.app 39 34 AK (.t 37) (.t 38),.n 40 31,.f 41 40 2,.store (.t 41) (.t 39) 1 false] [0,3,4]) (.seq (.region [.mv 11 (.i 0)] [0,3,4,11]) (.block 0 [] (.loop [0,3,4,11] Kk))))))))⟩
theorem WH:BT Tryz.prog 108 Bs=true:=by kernel_rfl
def Mx:Bi:=⟨[.val U],[⟨2,true,PP⟩],(.seq (.region [.box 1 (.t 0) true,.al 2 PP] [1,2]) (.seq (.region [.f 3 1 0,.l 4 3,.f 5 1 1,.l 6 5,.bnew 7 [.int .i64 0,.int .i64 0,.bool false,.bool false,.bool false,.bool false,.new 3 (.int .i64) [],.new 27 Z [],.int .i64 0,.int .i64 0,.int .i64 0,.int .i64 0,.str ByteArray.empty,.str ByteArray.empty,.int .i64 0,.new 3 (.int .i64) []] [(0,1,.t 4),(1,1,.t 6),(2,1,.c (.bool true))],.store (.t 2) (.t 7) 16 false] [2]) .ret))⟩
theorem dU:BT Tryz.prog 109 Mx=true:=by kernel_rfl
def Ji:Bi:=⟨[.ptr AS,.val (.int .i64),.val Aj],[⟨6,false,(.int .i64)⟩],(.seq (.region [.box 5 (.t 2) false,.mv 6 (.i 0)] [0,1,5]) (.seq (.seq (.region [.m 12 0,.n 13 12,.f 14 13 2,.l 15 14,.len 16 false (.t 15),.bin 17 .eql (.t 16) (.i 0)] [0,1,5,17]) (.cond (.t 17) (.seq (.region [.mv 6 (.i 1)] [6]) .ret) .skip)) (.seq (.draw (Hc 9 [(2,[]),(7,[1,6])]) (.tk 9 [.m 7 25,.b 25 .rem 19 24,.len 24 false (.t 23),.l 23 22,.f 22 21 2,.n 21 20,.m 20 0,.l 19 18,.f 18 5 2] .done) [0,1,5,7]) (.seq (.region [.m 26 0,.n 27 26,.f 28 27 2,.l 29 28,.m 30 7,.idx 31 6 (.t 29) (.t 30),.ls 32 31 6,.al 8 AK,.store (.t 8) (.t 32) 6 false] [0,1,5,7,8]) (.seq (.seq (.region [.f 33 5 0,.l 34 33,.bin 35 .eql (.t 34) (.i 4)] [0,1,5,7,8,35]) (.cond (.t 35) (.seq (.draw (Hc 13 [(1,[]),(2,[]),(6,[1,5]),(7,[]),(9,[6,8]),(10,[0,9])]) (.tk 1 [.m 36 0] (.tk 6 [.l 41 40,.f 40 39 2,.n 39 38,.m 38 0] (.tk 8 [.ls 43 8 6] (.only 1 none (.brow 37 34 AK []) false [(8,.blst 44 AK [.t 43])] (.only 6 none (.app 42 34 AK (.t 37) (.t 41)) false [(8,.blst 44 AK [.t 43])] (.only 8 none (.blst 44 AK [.t 43]) true [] (.only 9 none (.app 45 34 AK (.t 42) (.t 44)) false [] (.tk 12 [.f 47 46 2,.n 46 36] (.only 12 none (.store (.t 47) (.t 45) 1 false) false [] .done))))))))) []) (.seq (.region [.mv 6 (.i 0)] [6]) .ret)) .skip)) (.seq (.draw (Hc 20 [(1,[]),(2,[]),(6,[]),(7,[5,6]),(8,[1,7]),(9,[]),(13,[]),(15,[12,14]),(16,[8,15]),(17,[0,16])]) (.tk 1 [.m 48 0] (.tk 8 [.sl 55 6 (.t 53) none (some (.t 54)),.m 54 7,.l 53 52,.f 52 51 2,.n 51 50,.m 50 0] (.tk 16 [.sl 63 6 (.t 60) (some (.t 62)) none,.bin 62 .add (.t 61) (.i 1),.m 61 7,.l 60 59,.f 59 58 2,.n 58 57,.m 57 0] (.only 1 none (.brow 49 34 AK []) false [] (.only 8 none (.app 56 34 AK (.t 49) (.t 55)) false [] (.only 16 none (.app 64 34 AK (.t 56) (.t 63)) false [] (.tk 19 [.f 66 65 2,.n 65 48] (.only 19 none (.store (.t 66) (.t 64) 1 false) false [] .done)))))))) [0,1,5,8]) (.seq (.seq (.region [.f 67 5 0,.l 68 67,.bin 69 .eql (.t 68) (.i 3)] [0,1,8,69]) (.cond (.t 69) (.seq (.region [.mv 6 (.i 0)] [6]) .ret) .skip)) (.seq (.draw (Hc 23 [(4,[]),(7,[3,6]),(9,[]),(13,[]),(14,[8,12,13]),(17,[15]),(18,[15]),(19,[]),(20,[16,19]),(21,[17,20]),(22,[18,21])]) (.tk 14 [.ls 84 8 6,.l 83 82,.f 82 81 0,.n 81 80,.m 80 0,.ls 79 78 16,.idx 78 16 (.t 74) (.t 77),.bin 77 .sub (.t 76) (.i 1),.l 76 75,.f 75 8 2,.l 74 73,.f 73 72 1,.n 72 71,.m 71 0] (.only 14 none (.cl 85 [79,83,84] ZL) false [(19,.al 9 U)] (.tk 19 [.ext 88 (.t 70) 2,.ext 87 (.t 70) 1,.ext 86 (.t 70) 0,.m 70 85] (.only 19 none (.al 9 U) true [] (.only 20 none (.store (.t 9) (.t 86) 16 false) false [] (.tk 23 [.m 11 88,.m 10 87] .done)))))) [0,1,9,10,11]) (.seq (.region [.m 89 0,.ls 90 9 16,.m 91 10,.m 92 11,.m 93 1,.cl 94 [89,90,91,92,93] GM] []) (.seq (.region [.mv 6 (.i 0)] [6]) .ret))))))))))⟩
theorem ak:BT Tryz.prog 110 Ji=true:=by kernel_rfl
def Jz:AI:=(.seq (.seq (.region [.m 7 4,.m 8 0,.len 9 false (.t 8),.b 10 .lss 7 9] [0,3,4,10]) (.cond (.t 10) .skip (.exit 0))) (.seq (.block 1 [0,3,4] (.seq (.region [.m 13 0,.m 14 4,.idx 15 6 (.t 13) (.t 14),.ls 16 15 6,.al 5 AK,.store (.t 5) (.t 16) 6 false] [0,3,4,5]) (.seq (.region [.brow 17 27 Z [],.f 18 5 5,.l 19 18,.app 20 27 Z (.t 17) (.t 19),.f 21 5 5,.store (.t 21) (.t 20) 1 false] [0,3,4,5]) (.region [.m 22 3,.ls 23 5 6,.blst 24 AK [.t 23],.app 25 34 AK (.t 22) (.t 24),.m 3 25] [0,3,4])))) (.region [.m 11 4,.bin 12 .add (.t 11) (.i 1),.m 4 12] [0,3,4])))
def J6:AI:=(.seq (.region [.m 26 3,.m 2 26] [2]) .ret)
def Bo:Bi:=⟨[.val (.slice AK)],[⟨2,false,(.slice AK)⟩],(.seq (.region [.mv 2 (.c (.nil))] [0]) (.seq (.region [.brow 6 34 AK [],.m 3 6] [0,3]) (.seq (.seq (.region [.mv 4 (.i 0)] [0,3,4]) (.block 0 [3] (.loop [0,3,4] Jz))) J6)))⟩
theorem TU:BT Tryz.prog 111 Bo=true:=by kernel_rfl
def G7:Bi:=⟨[.val (.int .i64)],[⟨2,false,.bool⟩],(.seq (.region [.mv 2 (.c (.bool false))] [0]) (.seq (.region [.m 3 0,.m 4 0,.b 5 .neq 3 4,.m 2 5] [2]) .ret))⟩
theorem X2:BT Tryz.prog 122 G7=true:=by kernel_rfl
def RZ:DT:=(.sk 37 false 10 32 48 (.tk 33 [.pick 48 (.t 37) (.c (.bool true)) (.t 47)] .done))
def QE:DT:=(.sk 31 false 4 20 36 (.tk 22 [.m 37 36,.pick 36 (.t 31) (.c (.bool true)) (.t 35)] RZ))
def QF:DT:=(.sk 24 false 5 14 30 (.tk 16 [.m 31 30,.pick 30 (.t 24) (.c (.bool true)) (.t 29)] QE))
def QG:DT:=(.sk 60 true 8 18 69 (.tk 20 [.m 10 69,.pick 69 (.t 60) (.t 68) (.c (.bool false))] .done))
def QH:AI:=(.seq (.seq (.region [.m 90 13,.m 91 1,.m 92 2,.bin 93 .sub (.t 92) (.i 2),.idx 94 1 (.t 91) (.t 93),.l 95 94,.len 96 false (.t 95),.b 97 .lss 90 96] [1,2,3,6,9,11,13,97]) (.cond (.t 97) .skip (.exit 0))) (.seq (.block 1 [1,2,3,6,9,11,13] (.seq (.region [.m 100 1,.m 101 2,.bin 102 .sub (.t 101) (.i 2),.idx 103 1 (.t 100) (.t 102),.l 104 103,.m 105 13,.idx 106 1 (.t 104) (.t 105),.l 107 106,.m 14 107] [1,2,3,6,9,11,13,14]) (.seq (.region [.m 108 14,.f 109 3 0,.l 110 109,.b 111 .neq 108 110] [1,2,3,6,9,11,13,14,111]) (.cond (.t 111) (.region [.m 112 9,.f 113 3 0,.l 114 113,.m 115 14,.m 116 2,.bu 117 AK [(0,1,.c (.int .i64 1)),(1,1,.t 114),(2,1,.t 115),(3,1,.t 116)],.blst 118 AK [.t 117],.app 119 34 AK (.t 112) (.t 118),.m 9 119] [1,2,3,6,9,11,13]) .skip)))) (.region [.m 98 13,.bin 99 .add (.t 98) (.i 1),.m 13 99] [1,2,3,6,9,11,13])))
def QI:AI:=(.seq (.region [.ls 120 11 16,.cl 121 [120] El,.m 122 9,.store (.t 6) (.t 121) 16 false,.m 7 122,.mv 8 (.c (.bool true))] [6,7,8]) .ret)
def QJ:AI:=(.seq (.draw (Hc 10 [(2,[]),(3,[]),(4,[]),(6,[3,5]),(7,[1,2,6]),(8,[]),(9,[7,8])]) (.tk 3 [.m 72 2,.l 71 70,.f 70 3 0] (.tk 6 [.l 75 74,.f 74 3 7] (.only 3 none (.brow 73 27 Z []) false [(8,.al 11 U)] (.only 6 none (.apz 76 27 Z (.t 73) (.t 75)) false [(8,.al 11 U)] (.tk 8 [.bu 77 U [(0,1,.t 71),(1,1,.t 72),(4,1,.c (.bool true)),(7,1,.t 76)]] (.only 8 none (.al 11 U) true [] (.only 9 none (.store (.t 11) (.t 77) 16 false) false [] .done))))))) [1,2,3,6,9,10,11]) (.seq (.seq (.region [.m 78 10] [1,2,3,6,9,11,78]) (.cond (.t 78) (.seq (.draw (Hc 9 [(1,[]),(3,[0,2]),(5,[]),(7,[4,6])]) (.tk 7 [.l 85 84,.f 84 3 7,.l 83 82,.idx 82 1 (.t 79) (.t 81),.bin 81 .sub (.t 80) (.i 1),.m 80 2,.m 79 1] (.only 7 none (.cl 86 [11,83,85] Sy) false [] (.tk 9 [.m 12 86] .done))) [6,11,12]) (.seq (.region [.ls 87 11 16,.cl 88 [87] El,.m 89 12,.store (.t 6) (.t 88) 16 false,.m 7 89,.mv 8 (.c (.bool true))] [6,7,8]) .ret)) .skip)) (.seq (.seq (.region [.mv 13 (.i 0)] [1,2,3,6,9,11,13]) (.block 0 [6,9,11] (.loop [1,2,3,6,9,11,13] QH))) QI)))
def QK:AI:=(.seq (.draw (Hc 20 [(5,[2]),(7,[4,6]),(11,[9]),(13,[10,12]),(15,[9]),(17,[14,16])]) (.tk 3 [.m 53 52,.l 52 51,.f 51 3 3] (.test 53 (.tg 53 true 8 [.b 58 .eql 55 57,.bin 57 .sub (.t 56) (.i 1),.m 56 2,.l 55 54,.f 54 3 1] (.tk 10 [.m 60 59,.pick 59 (.t 53) (.t 58) (.c (.bool false))] (.test 60 (.tg 60 true 17 [.l 67 66,.f 66 3 0,.l 65 64,.idx 64 1 (.t 61) (.t 63),.bin 63 .sub (.t 62) (.i 2),.m 62 2,.m 61 1] (.only 17 (some (60,true)) (.cl 68 [65,67] EJ) false [] (.tk 20 [.m 10 69,.pick 69 (.t 60) (.t 68) (.c (.bool false))] .done))) QG))) (.sk 53 true 5 8 59 (.tk 10 [.m 60 59,.pick 59 (.t 53) (.t 58) (.c (.bool false))] QG)))) [1,2,3,6,9,10]) QJ)
def B3:Bi:=⟨[.val U,.val (.slice (.slice (.int .i64))),.val (.int .i64)],[⟨6,true,U⟩,⟨7,false,(.slice AK)⟩,⟨8,false,.bool⟩],(.seq (.region [.box 3 (.t 0) false,.al 6 U,.mv 7 (.c (.nil)),.mv 8 (.c (.bool false))] [1,2,3,6]) (.seq (.region [.brow 15 34 AK [],.m 9 15] [1,2,3,6,9]) (.seq (.seq (.draw (Hc 33 [(10,[8]),(12,[9,11]),(17,[15]),(19,[16,18]),(23,[21]),(25,[22,24]),(29,[21]),(31,[28,30])]) (.tk 1 [.ls 16 3 16] (.only 1 none (.cl 17 [16] KI) false [] (.tk 4 [.m 19 18,.un 18 .not (.t 17)] (.test 19 (.sk 19 false 3 7 23 (.tk 9 [.m 24 23,.pick 23 (.t 19) (.c (.bool true)) (.t 22)] QF)) (.tg 19 false 5 [.m 20 1] (.only 5 (some (19,false)) (.cl 21 [20] F8) false [] (.tg 19 false 7 [.un 22 .not (.t 21)] (.tk 9 [.m 24 23,.pick 23 (.t 19) (.c (.bool true)) (.t 22)] (.test 24 QF (.tg 24 false 12 [.len 27 false (.t 26),.m 26 1,.m 25 2] (.only 12 (some (24,false)) (.cx (some 28) [.t 25,.c (.int .i64 2),.t 27] Ab) false [] (.tg 24 false 14 [.un 29 .not (.t 28)] (.tk 16 [.m 31 30,.pick 30 (.t 24) (.c (.bool true)) (.t 29)] (.test 31 QE (.tg 31 false 20 [.b 35 .leq 32 34,.l 34 33,.f 33 3 1,.m 32 2] (.tk 22 [.m 37 36,.pick 36 (.t 31) (.c (.bool true)) (.t 35)] (.test 37 RZ (.tg 37 false 32 [.b 47 .neq 44 46,.l 46 45,.f 45 3 0,.l 44 43,.idx 43 1 (.t 42) (.i 0),.l 42 41,.idx 41 1 (.t 38) (.t 40),.bin 40 .sub (.t 39) (.i 1),.m 39 2,.m 38 1] (.tk 33 [.pick 48 (.t 37) (.c (.bool true)) (.t 47)] .done))))))))))))))))))) [1,2,3,6,9,48]) (.cond (.t 48) (.seq (.region [.bu 49 U [],.m 50 9,.store (.t 6) (.t 49) 16 false,.m 7 50,.mv 8 (.c (.bool false))] [6,7,8]) .ret) .skip)) QK)))⟩
theorem cR:BT Tryz.prog 126 B3=true:=by kernel_rfl
end
end Go.Proofs.YtaedipailemlcaaGreat.Core

namespace Go.Proofs.YtaedipailemlcaaGreat.Core
open Go Go.Shelf Go.RowKit Go.Lib
variable {P:Program} {ρ:Ren}
set_option maxHeartbeats 2000000 in
set_option maxRecDepth 100000 in
theorem iT (L:SlLaysE0.n41 P ρ) (i0:TypeInfo) (z:Value) (size bytes:Nat) (hi:P.info? (ρ.t 23)=some i0) (hz0:i0.zero=some z) (hz1:i0.size=size) (hz2:i0.bytes=bytes) (hzs:z.cells.size=size) (hsz:0<size)
  (z23:∀ w,(Go.sizeOf (ρ.t 23)).run P w=.ok size w) (ad:Addr) (n c:Nat) (news:List Value) (w:World) (hl:news.length=n*size) (hn:n≤maxLen) (hbig:n*bytes≤140737488355328)
  (hc:∀ j u,news[j]? = some u→w.cell? (ad.add j)=some u) (h1:∀ u∈news,u.oneCell'=true) :
  Calls P (ρ.f 41) #[.slice (some ad) n c] w fun e w'=>∃ v',e=.returned v'∧w'.ownsRow w.heap.size (ρ.t 23) size v' n news∧w.grownBy w' none:=by
 have mixed:=L.mixed; have t4:=L.t4; have a4:=L.a4; have z4:=L.z4; have v4:=L.v4; have t22:=L.t22; have a22:=L.a22; have z22:=L.z22; have v22:=L.v22
 have q22:∀ (w:World) (a:Option Addr) (n c n' c':Nat),(binOp .eql (ρ.t 22) (.slice a n c) (.slice none n' c')).run P w=.ok (.bool a.isNone) w:=fun w a n c n' c'=>Lib.run_eql_slice_nil w _ _ a n c n' c' L.t22
 have u22:∀ w,Sem.run P (underlying (ρ.t 22)) w=.ok (TypeDesc.slice (ρ.t 23)) w:=run_underlying t22
 have A:Aside (∀ j u,news[j]? = some u→w.cell? (ad.add j)=some u):=hc
 clear hc
 obtain ⟨_,_,FG⟩:=L.f41
 go_enter FG,SlBodyN.n41_ntmps ρ
 go_wp2_with (at_builtin; refine wpList_append_own _ rfl _ _ (ρ.t 22) rfl w.heap.size (ρ.t 23) i0 z size bytes t22 hi hz0 hz1 hz2 hzs hsz _ _ _ rfl (World.ownsRow_made w #[] 0 (Nat.le_refl _) (Nat.zero_le _) (by simp)) ad n c news rfl ?qc1 ?qc2 ?qc3 ?qc4 ?qc5 ?qc6 ?_)
 case qc1=>exact hl
 case qc2 =>
  intro j u hj
  exact Lib.cell?_alloc_some _ (A.out j u hj)
 case qc3=>exact h1
 case qc4=>rw [Nat.zero_add]; exact hn
 case qc5=>rw [Nat.zero_add]; exact hbig
 case qc6=>simp
 intro v' w1 hown hgrow hnil
 go_wp2
 go_ret
 refine ⟨v',rfl,by simpa using hown,⟨hgrow.os,hgrow.tape,hgrow.output,?_,fun k hk _=>?_⟩⟩
 ·have:=hgrow.size
  simp at this
  omega
 ·rw [hgrow.block k (by simp; omega) (by simp [Value.ownBlock]; omega)]
  simp only [World.alloc,Array.getElem?_push]
  rw [if_neg (by omega)]
set_option maxHeartbeats 1000000 in
theorem gU (L:SlLaysE0.n41 P ρ) (n c:Nat) (w:World) :
  Calls P (ρ.f 41) #[.slice none n c] w fun e w'=>e=.returned (.slice none 0 0)∧w'=w:=by
 have mixed:=L.mixed; have t4:=L.t4; have a4:=L.a4; have z4:=L.z4; have v4:=L.v4; have t22:=L.t22; have a22:=L.a22; have z22:=L.z22; have v22:=L.v22
 have q22:∀ (w:World) (a:Option Addr) (n c n' c':Nat),(binOp .eql (ρ.t 22) (.slice a n c) (.slice none n' c')).run P w=.ok (.bool a.isNone) w:=fun w a n c n' c'=>Lib.run_eql_slice_nil w _ _ a n c n' c' L.t22
 obtain ⟨_,_,FG⟩:=L.f41
 go_enter FG,SlBodyN.n41_ntmps ρ
 go_wp2
 go_ret
 exact ⟨rfl,rfl⟩
def TV (P:Program) (f:Nat) (args bs rs:List AV):Prop :=
 bz P f∧(∀ r∈rs,r.cells.all AV.nilFree=true)∧∃ n,n+bs.length=rs.length ∧
  ∀ (H:HP) (φ:BW) (w:World) (cargs:List Value),SR H φ (Ay bs args) w→AX (VB H φ (Ay bs args)) (CF (Dl bs) args) cargs →
   Calls P f cargs.toArray w fun out w'=>match out with
    | .returned v=>Jf H φ w args bs (rs.drop n) (rs.take n) v w'
    | _=>False
theorem dV {H H':HP} {φ φ':BW} {w w':World} {args rs:List AV} {v:Value} (h:AT H φ (Ay [] args) w H' φ' (Ay [] rs) w') (hr:kM H' φ' (Ay [] rs) (CF (Dl []) rs) v):Jf H φ w args [] [] rs v w':=by
 refine ⟨H',φ',h.le,h.sr,h.fr _ _ _ _ _ ⟨rfl,rfl,rfl,Nat.le_refl _,fun _ _ _=>rfl,fun _ _=>rfl,fun i bi hi _ b hb=>.inr ⟨i,(List.getElem?_eq_some_iff.1 hi).1,hb⟩,fun j hj=>?_,fun _ _ _=>rfl⟩,hr⟩
 simp at hj
theorem iU {K:Kd} (L:SlLaysE0.n41 P ρ) (he:ee P (ρ.t 23) K=true) {xs:List K.T} (hx:xs.length≤68719476736):TV P (ρ.f 41) [.lst K xs] [] [.new (ρ.t 23) K xs]:=by
 obtain ⟨i,z,hi,hz,h1,h2,h3,h4⟩:=Q7 he
 have hn:xs.length≤maxLen:=by unfold maxLen; omega
 refine ⟨?_,?_,1,rfl,fun H φ w cargs hs ha=>?_⟩
 ·obtain ⟨nm,hnm,hf⟩:=L.f41
  exact ⟨_,_,hf,hnm,rfl⟩
 ·intro r hr
  simp only [List.mem_singleton] at hr
  subst hr
  rfl
 ·obtain ⟨v,rest,rfl,hv,hrest⟩:=ha
  have hrest:rest=[]:=hrest
  subst hrest
  ··obtain ⟨sl,cap,e,hc,hr⟩:=(show Q5 (Ea H K) K.sz H xs v from hv)
    subst e
    have fin:∀ (v':Value) (w':World) (flat:List Value),w'.ownsRow w.heap.size (ρ.t 23) K.sz v' xs.length flat→Cr H K xs flat→w.grownBy w' none→Jf H φ w [.lst K xs] [] [] [.new (ρ.t 23) K xs] v' w':=by
     intro v' w' flat ho hrr hg
     have hst:=Q9 (st:=Ay [] [.lst K xs]) hs hg ho hrr
     refine dV (rs:=[.new (ρ.t 23) K xs]) hst ?_
     exact ⟨rfl,rfl⟩
    cases sl with
    | none =>
     have:xs=[]:=by
      rcases hr with h | ⟨_,_,_,_,_,h,_⟩
      ·exact h
      ·cases h
     subst this
     refine Calls.mono (gU L _ _ w) fun out w' h=>?_
     obtain ⟨rfl,rfl⟩:=h
     exact fin _ _ [] ⟨by simp,.inl ⟨rfl,rfl⟩⟩ (fun j x h=>by simp at h) ⟨rfl,rfl,rfl,Nat.le_refl _,fun _ _ _=>rfl⟩
    | some ad =>
     obtain ⟨sl2,cap2,flat,e2,_,hl,hrr,hcl⟩:=bD hs.hp (show Q5 (Ea H K) K.sz H xs (.slice (some ad) xs.length cap) from ⟨some ad,cap,rfl,hc,hr⟩)
     cases e2
     refine Calls.mono (iT L i z K.sz i.bytes hi hz h1 rfl h3 (Kd.sz_pos K) (fun w=>by simp [sizeOf,typeInfo,hi,h1]) ad xs.length cap flat w hl hn (Nat.le_trans (Nat.mul_le_mul hx h2) (by omega)) ?_ (Cs hrr hl)) fun out w' h=>?_
     ·intro j u hj
      rcases hcl with rfl | ⟨b,off,c,el,fz,ea,hb,hcc⟩
      ·have:flat=[]:=List.length_eq_zero_iff.1 (by rw [hl]; simp)
       rw [this] at hj
       simp at hj
      ·cases ea
       rw [Addr.add_none]
       have:=hs.hp _ _ hb
       have h5:=hcc j u hj
       simp only [World.cell?,this]
       simpa using h5
     ·obtain ⟨v',rfl,ho,hg⟩:=h
      exact fin v' w' flat ho hrr hg
end Go.Proofs.YtaedipailemlcaaGreat.Core

set_option linter.unusedVariables false
set_option linter.unusedSimpArgs false
namespace Go.Proofs.YtaedipailemlcaaGreat.Core
open Go Go.Shelf Go.RowKit Go.Lib
variable {P:Program} {ρ:Ren}
theorem My (w:World) (dT sT ty elem:TypeId) (g o dLen dCap:Nat) (a:Addr) (sLen sCap:Nat) (cur:Array Value) (t:TypeId) (cs:List Value) (k:Nat) (i:TypeInfo)
  (hu:P.underlying dT=some (.slice elem)) (hi:P.info? elem=some i) (hg:w.heap[g]? = some (.cells cur t (0,0))) (hk:Nat.min sLen dLen=k) (hn:cs.length=k*i.size)
  (hsrc:∀ j v,cs[j]? = some v→w.cell? (a.add j)=some v) (hfit:o+cs.length≤cur.size) (h1:∀ v∈cs,v.oneCell'=true) :
  (Builtin.copy_ #[dT,sT] ty #[.slice (some ⟨g,o,none⟩) dLen dCap,.slice (some a) sLen sCap]).run P w =
   .ok (goInt k) (w.setRow g (cur.toList.take o++cs++cur.toList.drop (o+cs.length)).toArray):=by
 have hl:=run_loadCells_list (P:=P) w a cs hsrc
 have hst:=run_storeCells_at P g o t cs 0 cur w hg (by simpa using hfit) h1
 simp [Builtin.copy_,run_underlying hu,Builtin.lenOf,Builtin.firstCells,sizeOf,typeInfo,hi,hk,← hn,hl,hst]
theorem WI (w:World) (t tn ty e:TypeId) (i:TypeInfo) (z:Value) (kn:IntKind) (ht:P.underlying t=some (.slice e)) (htn:P.underlying tn=some (.int kn)) (hi:P.info? e=some i) (hz:i.zero=some z)
  (b:Addr) (sLen sCap:Nat) (olds:List Value) (hlo:olds.length=sLen*i.size) (holds:∀ j v,olds[j]? = some v→w.cell? (b.add j)=some v) (n:Nat) (h0:0<n) (hs:0<i.size)
  (hg:sCap<sLen+n) (h63:((sLen+n:Nat):Int)≤9223372036854775807) (h48:n*i.bytes≤281474976710656) (hfit:Builtin.nextslicecap (sLen+n) sCap*i.bytes≤281474976710656) (k:IntKind) :
  (Builtin.append_ #[t,tn] ty #[.slice (some b) sLen sCap,.int k n]).run P w =
   .ok (.slice (some ⟨w.heap.size,0,none⟩) (sLen+n) (grownCap w (sLen+n) sCap e))
    (w.drew.alloc (.cells (olds.toArray++Builtin.zeroCells z.cells n++Builtin.zeroCells z.cells (grownCap w (sLen+n) sCap e-(sLen+n))) e)):=by
 have hn:¬ (sLen+n≤sCap):=by omega
 have hw:IntKind.i64.wrap (n:Int)=n:=by rw [IntKind.wrap_i64]; omega
 have h63':¬ (9223372036854775807<((sLen:Int)+(n:Int))):=by omega
 have h48':¬ (281474976710656<Builtin.nextslicecap (sLen+n) sCap*i.bytes):=by omega
 have h48i:¬ (281474976710656<(n:Int)*(i.bytes:Int)):=by
  rw [← Int.natCast_mul]
  omega
 have hneg:¬ ((n:Int)<0):=by omega
 have hn0:n≠0:=by omega
 have hns:¬ (n*i.size=0):=Nat.mul_ne_zero hn0 (by omega)
 have hfo:=run_firstCells_some (P:=P) w.drew i.size sLen b sLen sCap olds hlo (by simpa using holds)
 simp [Builtin.append_,run_underlying ht,run_underlying htn,sizeOf,typeInfo,zeroValue,hi,hz,asInt,asIntOf,hw,hn,hn0,hneg,hns,h63',h48',h48i,Question.forced,hfo,newRow,grownCap]
 try (congr 2; apply Array.ext'; simp [List.append_assoc])
structure gV (P:Program) (ρ:Ren):Prop where
 mixed:P.follows .mixedOrders=true
 f22:Bears P (ρ.f 22) (Body2.n22 ρ)
 ov:∀ args w,(callFunc (ρ.f 29) args).run P w=((Extern.SlicesOverlaps.overlaps #[(ρ.t 24),(ρ.t 24)] #[(ρ.t 4)] args).run P w).andThen fun v w'=>.ok (.value v) w'
 t3:P.underlying (ρ.t 3)=some (TypeDesc.int IntKind.i64)
 a3:∀ w,(isAgg (ρ.t 3)).run P w=.ok false w
 z3:∀ w,(Go.sizeOf (ρ.t 3)).run P w=.ok 1 w
 v3:∀ w,(zeroValue (ρ.t 3)).run P w=.ok (Value.int IntKind.i64 0) w
 t4:P.underlying (ρ.t 4)=some (TypeDesc.bool)
 a4:∀ w,(isAgg (ρ.t 4)).run P w=.ok false w
 z4:∀ w,(Go.sizeOf (ρ.t 4)).run P w=.ok 1 w
 v4:∀ w,(zeroValue (ρ.t 4)).run P w=.ok (Value.bool false) w
 t24:P.underlying (ρ.t 24)=some (TypeDesc.slice (ρ.t 9))
 a24:∀ w,(isAgg (ρ.t 24)).run P w=.ok false w
 z24:∀ w,(Go.sizeOf (ρ.t 24)).run P w=.ok 1 w
 v24:∀ w,(zeroValue (ρ.t 24)).run P w=.ok (Value.slice none 0 0) w
set_option maxHeartbeats 4000000 in
set_option maxRecDepth 100000 in
theorem eN (L:gV P ρ) (i0:TypeInfo) (z:Value) (size bytes:Nat) (hi:P.info? (ρ.t 9)=some i0) (hz0:i0.zero=some z) (hz1:i0.size=size) (hz2:i0.bytes=bytes) (hzs:z.cells.size=size) (hsz:0<size)
  (z9:∀ w,(Go.sizeOf (ρ.t 9)).run P w=.ok size w) (v:Value) (base:Option Addr) (n cap:Nat) (hv:v=.slice base n cap) (xs:List Value) (w:World) (hown:w.ownsRow 0 (ρ.t 9) size v n xs) (ad:Addr) (m vc:Nat) (news:List Value) (hm:0<m)
  (hl:news.length=m*size) (hn:n+m≤maxLen) (hbig:(n+m)*bytes≤140737488355328) (hnews:∀ j u,news[j]? = some u→w.cell? (ad.add j)=some u) (h1:∀ u∈news,u.oneCell'=true) :
  Calls P (ρ.f 22) #[v,.int .i64 n,.slice (some ad) m vc] w fun e w'=>∃ v',e=.returned v'∧w'.ownsRow 0 (ρ.t 9) size v' (n+m) (xs++news)∧w.grownBy w' v.ownBlock∧(v'.ownBlock=v.ownBlock∨v'.ownBlock=some w.heap.size):=by
 subst hv
 have mixed:=L.mixed; have t3:=L.t3; have a3:=L.a3; have z3:=L.z3; have v3:=L.v3; have t4:=L.t4; have a4:=L.a4; have z4:=L.z4; have v4:=L.v4; have t24:=L.t24; have a24:=L.a24; have z24:=L.z24; have v24:=L.v24
 have u3:=run_underlying L.t3; have u4:=run_underlying L.t4; have u24:=run_underlying L.t24
 have hz1':¬ ((m:Int)=0):=by omega
 have hob:∀ c,(Value.slice base n c).ownBlock=(Value.slice base n cap).ownBlock:=fun c=>by cases base<;>rfl
 have hcap:n≤cap:=by
  rcases hown.2 with ⟨e,e2⟩ | ⟨g,c,cur,e,_,_,h,_⟩
  ·omega
  ·cases e; exact h
 have A:Aside (∀ j u,news[j]? = some u→w.cell? (ad.add j)=some u):=hnews
 clear hnews
 obtain ⟨_,_,FG⟩:=L.f22
 go_enter FG,Body2.n22_ntmps ρ
 go_wp2_with (at_builtin; refine wpList_append_own_at _ rfl _ _ (ρ.t 24) rfl 0 (ρ.t 9) i0 z size bytes t24 hi hz0 hz1 hz2 hzs hsz _ _ _ rfl hown ad m vc news rfl ?qc1 ?qc2 ?qc3 ?qc4 ?qc5 ?qc6 ?_)
 all_goals first
  | exact hl
  | exact A.out
  | exact h1
  | exact hn
  | exact hbig
  | exact Nat.zero_le _
  | (
   intro v' w1 ho hgrow hnil hblk
   go_wp2
   go_ret
   exact ⟨v',rfl,ho,by rw [← hob]; exact hgrow,by rw [← hob]; exact hblk⟩)
theorem iV {α:Type} (c V:List α) (I M N:Nat) (hI:I≤N) (hV:V.length=M) (hN:N+M≤c.length) :
  (((c.take (I+M)++(c.take N).drop I++c.drop (I+M+(N-I))).take I++V++(c.take (I+M)++(c.take N).drop I++c.drop (I+M+(N-I))).drop (I+M)).take (N+M))=c.take I++V++(c.take N).drop I:=by
 have l1:(c.take (I+M)).length=I+M:=by rw [List.length_take]; omega
 have l2:((c.take N).drop I).length=N-I:=by rw [List.length_drop,List.length_take]; omega
 have e1:(c.take (I+M)++(c.take N).drop I++c.drop (I+M+(N-I))).take I=c.take I:=by
  rw [List.append_assoc,List.take_append_of_le_length (by omega),List.take_take,Nat.min_eq_left (by omega)]
 have e2:(c.take (I+M)++(c.take N).drop I++c.drop (I+M+(N-I))).drop (I+M)=(c.take N).drop I++c.drop (I+M+(N-I)):=by
  rw [List.append_assoc,List.drop_append_of_le_length (by omega),List.drop_of_length_le (by omega),List.nil_append]
 rw [e1,e2,← List.append_assoc]
 have l3:(c.take I++V++(c.take N).drop I).length=N+M:=by simp only [List.length_append,l2,hV,List.length_take]; omega
 rw [List.take_append_of_le_length (by omega),← l3,List.take_length]
theorem K6 (w:World) (g:Nat) (c:Array Value):(w.setRow g c).heap.size=w.heap.size:=by
 unfold World.setRow
 exact Array.size_modify
theorem dW {w:World} {b:Nat} {c:Array Value} {t:TypeId} {fz:Nat×Nat} (h:w.heap[b]? = some (.cells c t fz)):w.shape? b=some (t,c.size):=by simp [World.shape?,h]
theorem bT {w:World} {b o:Nat} {c:Array Value} {t:TypeId} (h:w.heap[b]? = some (.cells c t (0,0))):w.frozen? ⟨b,o,none⟩=false:=by simp [World.frozen?,h]
theorem Mz {w:World} {b o:Nat} {c:Array Value} {t:TypeId} {fz:Nat×Nat} (h:w.heap[b]? = some (.cells c t fz)):w.cell? ⟨b,o,none⟩=c[o]? := by simp [World.cell?,h]
set_option maxHeartbeats 8000000 in
set_option maxRecDepth 100000 in
theorem cS (L:gV P ρ) (i0:TypeInfo) (z:Value) (size bytes:Nat) (hi:P.info? (ρ.t 9)=some i0) (hz0:i0.zero=some z) (hz1:i0.size=size) (hz2:i0.bytes=bytes) (hzs:z.cells.size=size) (hsz:0<size)
  (z9:∀ w,(Go.sizeOf (ρ.t 9)).run P w=.ok size w) (g n cap i:Nat) (cur:Array Value) (w:World) (hg:w.heap[g]? = some (.cells cur (ρ.t 9) (0,0))) (hcs:cur.size=cap*size) (hin:i<n) (vb m vc:Nat) (vcur:Array Value) (hgv:w.heap[vb]? = some (.cells vcur (ρ.t 9) (0,0))) (hvb:vb≠g)
  (hm:0<m) (hroom:n+m≤cap) (hcm:cap≤maxLen) (hvl:m*size≤vcur.size) (h1:∀ u∈cur.toList.take (n*size),u.oneCell'=true) (h1v:∀ u∈vcur.toList.take (m*size),u.oneCell'=true) (hkB:cur.size≠0) :
  Calls P (ρ.f 22) #[.slice (some ⟨g,0,none⟩) n cap,.int .i64 i,.slice (some ⟨vb,0,none⟩) m vc] w fun e w'=>e=.returned (.slice (some ⟨g,0,none⟩) (n+m) cap) ∧
   ∃ cur',w'.heap[g]? = some (.cells cur' (ρ.t 9) (0,0))∧cur'.size=cap*size∧cur'.toList.take ((n+m)*size)=cur.toList.take (i*size)++vcur.toList.take (m*size)++(cur.toList.take (n*size)).drop (i*size)∧w.grownBy w' (some g):=by
 have mixed:=L.mixed; have t3:=L.t3; have a3:=L.a3; have z3:=L.z3; have v3:=L.v3; have t4:=L.t4; have a4:=L.a4; have z4:=L.z4; have v4:=L.v4; have t24:=L.t24; have a24:=L.a24; have z24:=L.z24; have v24:=L.v24
 have u3:=run_underlying L.t3; have u4:=run_underlying L.t4; have u24:=run_underlying L.t24
 have hcm':cap≤9223372036854775807:=hcm
 have hz1':¬ ((m:Int)=0):=by omega
 have hz2':¬ ((i:Int)=(n:Int)):=by omega
 have hw1:IntKind.i64.wrap ((i:Int)+(m:Int))=(i:Int)+(m:Int):=by rw [IntKind.wrap_i64]; omega
 have hw2:IntKind.i64.wrap ((n:Int)+(m:Int))=(n:Int)+(m:Int):=by rw [IntKind.wrap_i64]; omega
 have hb1:(0:Int)≤(i:Int)+(m:Int):=by omega
 have hin':i≤n:=by omega
 have htn:((i:Int)+(m:Int)).toNat=i+m:=by omega
 have htn2:((n:Int)+(m:Int)).toNat=n+m:=by omega
 have hb2:¬ (cap=i+m):=by omega
 have hb3:(i:Int)≤(n:Int)+(m:Int):=by omega
 have hb4:¬ (cap=i):=by omega
 have hb5:¬ ((n:Int)+(m:Int)>(cap:Int)):=by omega
 have hov:∀ o lb cb,(callFunc (ρ.f 29) #[.slice (some ⟨vb,0,none⟩) m vc,.slice (some ⟨g,o,none⟩) lb cb]).run P w=.ok (.value (.bool false)) w:=fun o lb cb=>by
  rw [L.ov,Lib.run_overlaps_apart w (ρ.t 24) (ρ.t 4) (ρ.t 9) L.t24 size z9 ⟨vb,0,none⟩ ⟨g,o,none⟩ m vc lb cb hvb _ _ _ _ (dW hgv) (dW hg) hkB (bT hgv) (bT hgv)]
  rfl
 have e1:(i+m)*size=i*size+m*size:=Nat.add_mul i m size
 have e2:(n+m)*size=n*size+m*size:=Nat.add_mul n m size
 have e3:(n-i)*size=n*size-i*size:=Nat.sub_mul n i size
 have e4:i*size≤n*size:=Nat.mul_le_mul_right size hin'
 have e5:n*size+m*size≤cur.size:=by rw [hcs,← e2]; exact Nat.mul_le_mul_right size hroom
 have lm:((cur.toList.take (n*size)).drop (i*size)).length=(n-i)*size:=by rw [List.length_drop,List.length_take,Array.length_toList,e3]; omega
 have hcp1:∀ ty dc sc,(Builtin.copy_ #[(ρ.t 24),(ρ.t 24)] ty #[.slice (some ⟨g,(i+m)*size,none⟩) (n+m-(i+m)) dc,.slice (some ⟨g,i*size,none⟩) (n+m-i) sc]).run P w.drew=.ok (goInt ((n-i:Nat):Int)) (w.drew.setRow g (cur.toList.take ((i+m)*size)++(cur.toList.take (n*size)).drop (i*size)++cur.toList.drop ((i+m)*size+((cur.toList.take (n*size)).drop (i*size)).length)).toArray):=fun ty dc sc =>
  My w.drew _ _ ty (ρ.t 9) g ((i+m)*size) (n+m-(i+m)) dc ⟨g,i*size,none⟩ (n+m-i) sc cur (ρ.t 9) _ (n-i) i0 L.t24 hi hg (by simp only [Nat.min_def]; split<;>omega) (by rw [lm,hz1])
   (fun j v hj=>by
    rw [Addr.add_none]
    have:w.drew.cell? ⟨g,i*size+j,none⟩=cur[i*size+j]? := Mz hg
    rw [this,← hj,List.getElem?_drop,List.getElem?_take]
    have:i*size+j<n*size:=by
     have:=(List.getElem?_eq_some_iff.1 hj).1
     omega
    rw [if_pos this,Array.getElem?_toList])
   (by rw [lm,e1,e3]; omega) (fun v hv=>h1 v (List.mem_of_mem_drop hv))
 obtain ⟨cur1,hcur1⟩:∃ c1,c1=(cur.toList.take ((i+m)*size)++(cur.toList.take (n*size)).drop (i*size)++cur.toList.drop ((i+m)*size+((cur.toList.take (n*size)).drop (i*size)).length)).toArray:=⟨_,rfl⟩
 rw [← hcur1] at hcp1
 have hs1:cur1.size=cap*size:=by
  rw [hcur1,List.size_toArray]
  simp only [List.length_append,List.length_take,List.length_drop,Array.length_toList,e1]
  omega
 have hg1:(w.drew.setRow g cur1).heap[g]? = some (.cells cur1 (ρ.t 9) (0,0)):=setRow_heap w.drew g cur cur1 (ρ.t 9) _ hg
 have hgv1:(w.drew.setRow g cur1).heap[vb]? = some (.cells vcur (ρ.t 9) (0,0)):=by rw [setRow_other w.drew g vb cur1 hvb]; exact hgv
 have lv:(vcur.toList.take (m*size)).length=m*size:=by rw [List.length_take,Array.length_toList]; omega
 have hcp2:∀ (W:World),W.heap=(w.drew.setRow g cur1).heap→∀ ty dc,(Builtin.copy_ #[(ρ.t 24),(ρ.t 24)] ty #[.slice (some ⟨g,i*size,none⟩) (n+m-i) dc,.slice (some ⟨vb,0,none⟩) m vc]).run P W=.ok (goInt m) (W.setRow g (cur1.toList.take (i*size)++vcur.toList.take (m*size)++cur1.toList.drop (i*size+(vcur.toList.take (m*size)).length)).toArray):=fun W hW ty dc =>
  My W _ _ ty (ρ.t 9) g (i*size) (n+m-i) dc ⟨vb,0,none⟩ m vc cur1 (ρ.t 9) _ m i0 L.t24 hi (by rw [hW]; exact hg1) (by simp only [Nat.min_def]; split<;>omega) (by rw [lv,hz1])
   (fun j v hj=>by
    rw [Addr.add_none,Mz (by rw [hW]; exact hgv1),← hj,List.getElem?_take,Nat.zero_add]
    have:j<m*size:=by
     have:=(List.getElem?_eq_some_iff.1 hj).1
     omega
    rw [if_pos this,Array.getElem?_toList])
   (by rw [lv]; omega) h1v
 clear e1 e2 e3
 obtain ⟨_,_,FG⟩:=L.f22
 go_enter FG,Body2.n22_ntmps ρ
 go_wp2_with (simp only [hov])
 go_region_law_o (refine step_copy_runI rfl _ _ (ρ.t 24) (ρ.t 24) rfl _ _ (by simp [Act.eval,Act.put]) (by simp [Act.eval,Act.put]) (hcp1 _ _ _) ?_)
 go_wp2_with (at_builtin; refine wpList_copy_runI _ rfl _ _ (ρ.t 24) (ρ.t 24) rfl _ _ rfl rfl (hcp2 _ rfl _ _) ?_)
 go_ret
 have e1:(i+m)*size=i*size+m*size:=Nat.add_mul i m size
 have e2:(n+m)*size=n*size+m*size:=Nat.add_mul n m size
 have e3:(n-i)*size=n*size-i*size:=Nat.sub_mul n i size
 have e6:cur.toList.length=cap*size:=by rw [Array.length_toList,hcs]
 have e7:vcur.toList.length=vcur.size:=Array.length_toList
 refine ⟨rfl,_,setRow_heap _ g _ _ _ _ (setRow_heap w.drew g cur _ (ρ.t 9) _ hg),?_,?_,⟨rfl,rfl,rfl,by rw [K6,K6]; exact Nat.le_refl _,fun k hk hne=>?_⟩⟩
 ·simp only [List.size_toArray,List.length_append,List.length_take,List.length_drop,e1,e3,e6,e7]
  omega
 ·have:=iV cur.toList (vcur.toList.take (m*size)) (i*size) (m*size) (n*size) e4 lv (by omega)
  simp only [e1,e2,e3]
  simpa only [List.append_assoc] using this
 ·have hk':k≠g:=fun e=>hne (by rw [e])
  rw [setRow_other _ g k _ hk',setRow_other _ g k _ hk']
  rfl
set_option maxHeartbeats 8000000 in
set_option maxRecDepth 100000 in
theorem dX (L:gV P ρ) (i0:TypeInfo) (z:Value) (size bytes:Nat) (hi:P.info? (ρ.t 9)=some i0) (hz0:i0.zero=some z) (hz1:i0.size=size) (hz2:i0.bytes=bytes) (hzs:z.cells.size=size) (hsz:0<size)
  (z9:∀ w,(Go.sizeOf (ρ.t 9)).run P w=.ok size w) (g n cap i:Nat) (cur:Array Value) (w:World) (hg:w.heap[g]? = some (.cells cur (ρ.t 9) (0,0))) (hcs:cur.size=cap*size) (hin:i<n) (vb m vc:Nat) (vcur:Array Value) (hgv:w.heap[vb]? = some (.cells vcur (ρ.t 9) (0,0))) (hvb:vb≠g)
  (hm:0<m) (hnc:n≤cap) (hroom:cap<n+m) (hcm:n+m≤68719476736) (hby:bytes≤2048) (hvl:m*size≤vcur.size) (h1:∀ u∈cur.toList.take (n*size),u.oneCell'=true) (h1v:∀ u∈vcur.toList.take (m*size),u.oneCell'=true) :
  Calls P (ρ.f 22) #[.slice (some ⟨g,0,none⟩) n cap,.int .i64 i,.slice (some ⟨vb,0,none⟩) m vc] w fun e w'=>∃ cap',e=.returned (.slice (some ⟨w.heap.size,0,none⟩) (n+m) cap')∧n+m≤cap'∧cap'≤maxLen ∧
   ∃ cur',w'.heap[w.heap.size]? = some (.cells cur' (ρ.t 9) (0,0))∧cur'.size=cap'*size∧cur'.toList.take ((n+m)*size)=cur.toList.take (i*size)++vcur.toList.take (m*size)++(cur.toList.take (n*size)).drop (i*size)∧w.grownBy w' none:=by
 have mixed:=L.mixed; have t3:=L.t3; have a3:=L.a3; have z3:=L.z3; have v3:=L.v3; have t4:=L.t4; have a4:=L.a4; have z4:=L.z4; have v4:=L.v4; have t24:=L.t24; have a24:=L.a24; have z24:=L.z24; have v24:=L.v24
 have u3:=run_underlying L.t3; have u4:=run_underlying L.t4; have u24:=run_underlying L.t24
 have hcm':n+m≤9223372036854775807:=by omega
 have hz1':¬ ((m:Int)=0):=by omega
 have hz2':¬ ((i:Int)=(n:Int)):=by omega
 have hw1:IntKind.i64.wrap ((i:Int)+(m:Int))=(i:Int)+(m:Int):=by rw [IntKind.wrap_i64]; omega
 have hw2:IntKind.i64.wrap ((n:Int)+(m:Int))=(n:Int)+(m:Int):=by rw [IntKind.wrap_i64]; omega
 have hw3:IntKind.i64.wrap ((n:Int)+(m:Int)-(i:Int))=(n:Int)+(m:Int)-(i:Int):=by rw [IntKind.wrap_i64]; omega
 have hb1:(0:Int)≤(i:Int)+(m:Int):=by omega
 have hin':i≤n:=by omega
 have htn:((i:Int)+(m:Int)).toNat=i+m:=by omega
 have htn2:((n:Int)+(m:Int)).toNat=n+m:=by omega
 have hb4:¬ (cap=i):=by omega
 have hb5:(n:Int)+(m:Int)>(cap:Int):=by omega
 have hb6:¬ (cap=0):=by omega
 have e1:(i+m)*size=i*size+m*size:=Nat.add_mul i m size
 have e2:(n+m)*size=n*size+m*size:=Nat.add_mul n m size
 have e3:(n-i)*size=n*size-i*size:=Nat.sub_mul n i size
 have e4:i*size≤n*size:=Nat.mul_le_mul_right size hin'
 have e5:n*size≤cur.size:=by rw [hcs]; exact Nat.mul_le_mul_right size hnc
 have lo:(cur.toList.take (i*size)).length=i*size:=by rw [List.length_take,Array.length_toList]; omega
 have lv:(vcur.toList.take (m*size)).length=m*size:=by rw [List.length_take,Array.length_toList]; omega
 have lm:((cur.toList.take (n*size)).drop (i*size)).length=(n-i)*size:=by rw [List.length_drop,List.length_take,Array.length_toList,e3]; omega
 have hgl:g<w.heap.size:=(Array.getElem?_eq_some_iff.1 hg).1
 have hvl2:vb<w.heap.size:=(Array.getElem?_eq_some_iff.1 hgv).1
 have hbb:(n+m)*bytes≤140737488355328:=Nat.le_trans (Nat.mul_le_mul hcm hby) (by omega)
 obtain ⟨C,new,hap,hC1,hC2,hns,hnt⟩:∃ (C:Nat) (new:Array Value),(∀ ty,(Builtin.append_ #[(ρ.t 24),(ρ.t 3)] ty #[.slice (some ⟨g,0,none⟩) i cap,.int .i64 ((n:Int)+(m:Int)-(i:Int))]).run P w=.ok (.slice (some ⟨w.heap.size,0,none⟩) (n+m) C) (w.drew.alloc (.cells new (ρ.t 9)))) ∧
   n+m≤C∧C≤maxLen∧new.size=C*size∧new.toList.take (i*size)=cur.toList.take (i*size):=by
  have hsum:i+(n+m-i)=n+m:=by omega
  have hge:=grownCap_ge w (n+m) cap (ρ.t 9)
  refine ⟨grownCap w (n+m) cap (ρ.t 9),(cur.toList.take (i*size)).toArray++Builtin.zeroCells z.cells (n+m-i)++Builtin.zeroCells z.cells (grownCap w (n+m) cap (ρ.t 9)-(n+m)),fun ty=>?_,hge,grownCap_le_maxLen _ _ _ _ (by unfold maxLen; omega),?_,?_⟩
  ·have:=WI (P:=P) w (ρ.t 24) (ρ.t 3) ty (ρ.t 9) i0 z .i64 L.t24 L.t3 hi hz0 ⟨g,0,none⟩ i cap (cur.toList.take (i*size)) (by rw [lo,hz1]) (fun j v hj=>by
     rw [Addr.add_none,Mz hg,← hj,List.getElem?_take,Nat.zero_add]
     have:j<i*size:=by
      have:=(List.getElem?_eq_some_iff.1 hj).1
      omega
     rw [if_pos this,Array.getElem?_toList]) (n+m-i) (by omega) (by omega) (by omega) (by omega) (by rw [hz2]; exact Nat.le_trans (Nat.mul_le_mul_right bytes (Nat.sub_le _ _)) (by omega)) (by rw [hsum,hz2]; exact growslice_fits hroom hbb) .i64
   rw [hsum,show ((n+m-i:Nat):Int)=(n:Int)+(m:Int)-(i:Int) by omega] at this
   exact this
  ·simp only [Array.size_append,List.size_toArray,size_zeroCells,hzs,lo,← Nat.add_mul]
   congr 1
   omega
  ·simp only [Array.toList_append,List.append_assoc]
   exact (congrArg (fun k=>List.take k _) lo.symm).trans (by rw [List.take_left])
 have hW1:(w.drew.alloc (.cells new (ρ.t 9))).heap[w.heap.size]? = some (.cells new (ρ.t 9) (0,0)):=heap_alloc_new w.drew _
 have hW1o:∀ k,k<w.heap.size→(w.drew.alloc (.cells new (ρ.t 9))).heap[k]? = w.heap[k]? := fun k hk=>heap_alloc_old w.drew _ hk
 have e8:i*size+m*size≤new.size:=by rw [hns,← e1]; exact Nat.mul_le_mul_right size (by omega)
 have e9:n*size+m*size≤new.size:=by rw [hns,← e2]; exact Nat.mul_le_mul_right size (by omega)
 have hcp1:∀ (W:World),W.heap=(w.drew.alloc (.cells new (ρ.t 9))).heap→∀ ty dc,(Builtin.copy_ #[(ρ.t 24),(ρ.t 24)] ty #[.slice (some ⟨w.heap.size,i*size,none⟩) (n+m-i) dc,.slice (some ⟨vb,0,none⟩) m vc]).run P W=.ok (goInt m) (W.setRow w.heap.size (new.toList.take (i*size)++vcur.toList.take (m*size)++new.toList.drop (i*size+(vcur.toList.take (m*size)).length)).toArray):=fun W hW ty dc =>
  My W _ _ ty (ρ.t 9) w.heap.size (i*size) (n+m-i) dc ⟨vb,0,none⟩ m vc new (ρ.t 9) _ m i0 L.t24 hi (by rw [hW]; exact hW1) (by simp only [Nat.min_def]; split<;>omega) (by rw [lv,hz1])
   (fun j v hj=>by
    rw [Addr.add_none,Mz (by rw [hW,hW1o vb hvl2]; exact hgv),← hj,List.getElem?_take,Nat.zero_add]
    have:j<m*size:=by
     have:=(List.getElem?_eq_some_iff.1 hj).1
     omega
    rw [if_pos this,Array.getElem?_toList])
   (by rw [lv]; omega) h1v
 obtain ⟨cur1,hcur1⟩:∃ c1,c1=(new.toList.take (i*size)++vcur.toList.take (m*size)++new.toList.drop (i*size+(vcur.toList.take (m*size)).length)).toArray:=⟨_,rfl⟩
 rw [← hcur1] at hcp1
 have hln:new.toList.length=new.size:=Array.length_toList
 have hs1:cur1.size=C*size:=by
  rw [hcur1,List.size_toArray,← hns]
  simp only [List.length_append,List.length_take,List.length_drop,hln,lv]
  omega
 have hcp2:∀ (W:World),W.heap=((w.drew.alloc (.cells new (ρ.t 9))).setRow w.heap.size cur1).heap→∀ ty dc sc,(Builtin.copy_ #[(ρ.t 24),(ρ.t 24)] ty #[.slice (some ⟨w.heap.size,(i+m)*size,none⟩) (n+m-(i+m)) dc,.slice (some ⟨g,i*size,none⟩) (n-i) sc]).run P W=.ok (goInt ((n-i:Nat):Int)) (W.setRow w.heap.size (cur1.toList.take ((i+m)*size)++(cur.toList.take (n*size)).drop (i*size)++cur1.toList.drop ((i+m)*size+((cur.toList.take (n*size)).drop (i*size)).length)).toArray):=fun W hW ty dc sc =>
  My W _ _ ty (ρ.t 9) w.heap.size ((i+m)*size) (n+m-(i+m)) dc ⟨g,i*size,none⟩ (n-i) sc cur1 (ρ.t 9) _ (n-i) i0 L.t24 hi (by rw [hW]; exact setRow_heap _ _ new cur1 _ _ hW1) (by simp only [Nat.min_def]; split<;>omega) (by rw [lm,hz1])
   (fun j v hj=>by
    rw [Addr.add_none,Mz (by rw [hW,setRow_other _ _ g _ (by omega),hW1o g hgl]; exact hg),← hj,List.getElem?_drop,List.getElem?_take]
    have:i*size+j<n*size:=by
     have:=(List.getElem?_eq_some_iff.1 hj).1
     omega
    rw [if_pos this,Array.getElem?_toList])
   (by rw [lm,hs1,← hns,e1,e3]; omega) (fun v hv=>h1 v (List.mem_of_mem_drop hv))
 have fin:(cur1.toList.take ((i+m)*size)++(cur.toList.take (n*size)).drop (i*size)++cur1.toList.drop ((i+m)*size+((cur.toList.take (n*size)).drop (i*size)).length)).take ((n+m)*size)=cur.toList.take (i*size)++vcur.toList.take (m*size)++(cur.toList.take (n*size)).drop (i*size):=by
  have l1:(new.toList.take (i*size)).length=i*size:=by rw [List.length_take,hln]; omega
  have t1:cur1.toList.take ((i+m)*size)=cur.toList.take (i*size)++vcur.toList.take (m*size):=by
   rw [hcur1,← hnt,e1]
   have l2:(new.toList.take (i*size)++vcur.toList.take (m*size)).length=i*size+m*size:=by rw [List.length_append,l1,lv]
   exact (congrArg (fun k=>List.take k _) l2.symm).trans (by rw [List.take_left])
  rw [t1]
  have l3:(cur.toList.take (i*size)++vcur.toList.take (m*size)++(cur.toList.take (n*size)).drop (i*size)).length=(n+m)*size:=by
   simp only [List.length_append,lo,lv,lm,e2,e3]
   omega
  exact (congrArg (fun k=>List.take k _) l3.symm).trans (by rw [List.take_left])
 obtain ⟨cur2,hcur2⟩:∃ c2,c2=(cur1.toList.take ((i+m)*size)++(cur.toList.take (n*size)).drop (i*size)++cur1.toList.drop ((i+m)*size+((cur.toList.take (n*size)).drop (i*size)).length)).toArray:=⟨_,rfl⟩
 rw [← hcur2] at hcp2
 have hs2:cur2.size=C*size:=by
  rw [hcur2,List.size_toArray,← hs1]
  simp only [List.length_append,List.length_take,List.length_drop,Array.length_toList,lm,e1,e3]
  omega
 have fin2:cur2.toList.take ((n+m)*size)=cur.toList.take (i*size)++vcur.toList.take (m*size)++(cur.toList.take (n*size)).drop (i*size):=by rw [hcur2]; exact fin
 clear e1 e2 e3 hcur1 hcur2 fin
 obtain ⟨W1,hW1d⟩:∃ W1,W1=w.drew.alloc (.cells new (ρ.t 9)):=⟨_,rfl⟩
 have hWs:W1.heap.size=w.heap.size+1:=by rw [hW1d]; exact Array.size_push _
 have hWos:W1.os=w.os∧W1.tape=w.tape∧W1.output=w.output:=by rw [hW1d]; exact ⟨rfl,rfl,rfl⟩
 rw [← hW1d] at hW1 hW1o hcp1 hcp2 hap
 clear hW1d
 have hcp3:=hcp2 (W1.setRow w.heap.size cur1).drew rfl
 clear hcp2
 have hb7:¬ (C=i+m):=by omega
 have hb8:¬ (C=i):=by omega
 obtain ⟨_,_,FG⟩:=L.f22
 go_enter FG,Body2.n22_ntmps ρ
 go_wp2_with (at_builtin; refine Lib.wpList_append_run _ rfl _ _ (ρ.t 24) (ρ.t 3) rfl _ _ rfl rfl _ _ (hap _) ?_)
 go_region_law_o (refine step_copy_runI rfl _ _ (ρ.t 24) (ρ.t 24) rfl _ _ (by simp [Act.eval,Act.put]) (by simp [Act.eval,Act.put]) (hcp3 _ _ _) ?_)
 go_wp2
 go_ret
 refine ⟨C,rfl,hC1,hC2,cur2,setRow_heap _ _ cur1 cur2 _ _ (setRow_heap _ _ new cur1 _ _ hW1),hs2,fin2,⟨hWos.1,hWos.2.1,hWos.2.2,?_,fun k hk _=>?_⟩⟩
 ·rw [K6]
  show w.heap.size≤(W1.setRow w.heap.size cur1).heap.size
  rw [K6,hWs]
  omega
 ·rw [setRow_other _ _ k _ (by omega)]
  show (W1.setRow w.heap.size cur1).heap[k]? = _
  rw [setRow_other _ _ k _ (by omega),hW1o k hk]
theorem dY {H:HP} {K:Kd} {xs:List K.T} {f:List Value} (h:Cr H K xs f) (i:Nat):Cr H K (xs.take i) (f.take (i*K.sz)):=by
 intro j x hx
 rw [List.getElem?_take] at hx
 split at hx
 ·rename_i hj
  have:=h j x hx
  have hle:(j+1)*K.sz≤i*K.sz:=Nat.mul_le_mul_right _ hj
  rw [Nat.succ_mul] at hle
  rw [List.drop_take,List.take_take,Nat.min_eq_left (by omega)]
  exact this
 ·cases hx
theorem dZ {H:HP} {K:Kd} {xs:List K.T} {f:List Value} (h:Cr H K xs f) (i:Nat):Cr H K (xs.drop i) (f.drop (i*K.sz)):=by
 intro j x hx
 rw [List.getElem?_drop] at hx
 have:=h _ x hx
 rw [List.drop_drop,← Nat.add_mul]
 exact this
theorem cU {H:HP} {φ:BW} {w w':World} {t:TypeId} {K:Kd} {xs vs ys:List K.T} {n:Int} {v':Value} {flat:List Value}
  (hs:SR H φ (Ay [] [.new t K xs,.int .i64 n,.new t K vs]) w) (hg:w.grownBy w' (Dg (φ 0))) (hb:∀ b,Dg v'=some b→Dg (φ 0)=some b∨w.heap.size≤b)
  (ho:w'.ownsRow 0 t K.sz v' ys.length flat) (hr:Cr H K ys flat):Jf H φ w [.new t K xs,.int .i64 n,.new t K vs] [] [] [.new t K ys] v' w':=by
 have hout:∀ b,Dg (φ 0)=some b→H b=none:=fun b h=>hs.out 0 (.rows t K xs) rfl rfl b h
 have hlt:∀ b o,H b=some o→b<w.heap.size:=fun b o h=>(Array.getElem?_eq_some_iff.1 (hs.hp b o h)).1
 refine ⟨H,fun _=>v',HP.le_refl H,⟨fun b o h=>?_,fun id bx hid=>?_,fun i j bi bj hi hj _ _ hne=>?_,fun i bi hi _ b hv=>?_,fun id cs hid=>?_⟩,⟨hg.os,hg.tape,hg.output,hg.size,fun b hlt hne=>hg.block b hlt (fun e=>hne 0 (by show 0<2; omega) e.symm),fun j hj=>by simp at hj,fun i bi hi _ b hv=>?_,fun j hj=>by simp at hj,fun _ _ _=>rfl⟩,⟨rfl,rfl⟩⟩
 ·rw [hg.block b (hlt b o h) (fun e=>by rw [hout b e.symm] at h; cases h)]
  exact hs.hp b o h
 ·cases id with
  | zero=>cases hid; exact ⟨flat,ho,hr⟩
  | succ k=>cases hid
 ·cases i with
  | succ k=>cases hi
  | zero =>
   cases j with
   | succ k=>cases hj
   | zero=>exact absurd rfl hne
 ·cases hh:H b with
  | none=>rfl
  | some o =>
   rcases hb b hv with h | h
   ·rw [hout b h] at hh; cases hh
   ·have:=hlt b o hh; omega
 ·cases id with
  | zero=>cases hid
  | succ k=>cases hid
 ·rcases hb b hv with h | h
  ·exact .inr ⟨0,(by show 0<2; omega),h⟩
  ·exact .inl h
theorem gW {K:Kd} (L:gV P ρ) (he:ee P (ρ.t 9) K=true) {xs vs:List K.T} {i:Nat} (hx:xs.length+vs.length≤68719476736) (hv:vs≠[]) (hi:i≤xs.length) :
  TV P (ρ.f 22) [.new (ρ.t 9) K xs,.int .i64 i,.new (ρ.t 9) K vs] [] [.new (ρ.t 9) K (xs.take i++vs++xs.drop i)]:=by
 obtain ⟨i0,z,hi0,hz,h1,h2,h3,h4⟩:=Q7 he
 have hm:0<vs.length:=List.length_pos_iff.2 hv
 have hsz:=Kd.sz_pos K
 refine ⟨?_,?_,1,rfl,fun H φ w cargs hs ha=>?_⟩
 ·obtain ⟨nm,hnm,hf⟩:=L.f22
  exact ⟨_,_,hf,hnm,rfl⟩
 ·intro r hr
  simp only [List.mem_singleton] at hr
  subst hr
  rfl
 ·obtain ⟨v0,r0,rfl,hv0,ha⟩:=ha
  obtain ⟨v1,r1,rfl,hv1,ha⟩:=ha
  obtain ⟨v2,r2,rfl,hv2,ha⟩:=ha
  have hr2:r2=[]:=ha
  subst hr2
  have e0:v0=φ 0:=hv0.1
  have e1:v1=.int .i64 i:=hv1
  have e2:v2=φ 1:=hv2.1
  subst e0 e1 e2
  obtain ⟨flat,ho,hr⟩:=hs.box 0 (.rows (ρ.t 9) K xs) rfl
  obtain ⟨flatv,hov,hrv⟩:=hs.box 1 (.rows (ρ.t 9) K vs) rfl
  have hnew:(xs.take i++vs++xs.drop i).length=xs.length+vs.length:=by simp only [List.length_append,List.length_take,List.length_drop]; omega
  have hnil:vs.length≠0:=by omega
  obtain ⟨gv,capv,curv,ev,_,hgv,hcv,hcmv,hsv,htv⟩:=hov.2.resolve_left (fun h=>hnil h.2)
  have hlv:vs.length*K.sz≤curv.size:=by rw [hsv]; exact Nat.mul_le_mul_right _ hcv
  have hn:xs.length+vs.length≤maxLen:=by unfold maxLen; omega
  have hbb:(xs.length+vs.length)*i0.bytes≤140737488355328:=Nat.le_trans (Nat.mul_le_mul hx h2) (by omega)
  have hcv2:∀ j u,flatv[j]? = some u→w.cell? ((⟨gv,0,none⟩:Addr).add j)=some u:=fun j u hj=>by
   rw [Addr.add_none,Mz hgv,Nat.zero_add]
   rw [← htv,List.getElem?_take] at hj
   split at hj
   ·rwa [Array.getElem?_toList] at hj
   ·cases hj
  have one:(w.ownsRow 0 (ρ.t 9) K.sz (φ 1) vs.length flatv):=hov
  rw [ev]
  by_cases hin:i=xs.length
  ·subst hin
   obtain ⟨base,n,cap,e0,hnn⟩:∃ base n cap,φ 0=.slice base n cap∧n=xs.length:=by
    rcases ho.2 with ⟨e,h⟩ | ⟨g,cap,cur,e,_⟩
    ·exact ⟨none,0,0,e,h.symm⟩
    ·exact ⟨_,_,_,e,rfl⟩
   subst hnn
   refine Calls.mono (eN L i0 z K.sz i0.bytes hi0 hz h1 rfl h3 hsz (fun w=>by simp [sizeOf,typeInfo,hi0,h1]) (φ 0) base _ cap e0 flat w ho ⟨gv,0,none⟩ vs.length capv flatv hm hov.1 hn hbb hcv2 (Cs hrv hov.1)) fun out w' h=>?_
   obtain ⟨v',rfl,ho',hg,hbk⟩:=h
   have hbv:∀ {v:Value} {n:Nat} {fl:List Value} {ww:World},ww.ownsRow 0 (ρ.t 9) K.sz v n fl→Dg v=v.ownBlock:=fun h=>by
    rcases h.2 with ⟨e,_⟩ | ⟨g,c,cu,e,_⟩<;>rw [e]<;>rfl
   have hbl:Dg (φ 0)=(φ 0).ownBlock:=by rw [e0]; cases base<;>rfl
   refine cU (flat:=flat++flatv) hs (by rw [hbl]; exact hg) (fun b hb=>?_) (by rw [hnew]; exact ho') ?_
   ·rw [hbv ho'] at hb
    rcases hbk with h | h
    ·exact .inl (by rw [hbl,← h]; exact hb)
    ·rw [h] at hb
     cases hb
     exact .inr (Nat.le_refl _)
   ·rw [List.take_length,List.drop_length,List.append_nil]
    exact Gn hr ho.1 hrv
  ·have hlt:i<xs.length:=by omega
   obtain ⟨g,cap,cur,e0,_,hg,hc,hcm,hsc,ht⟩:=ho.2.resolve_left (fun h=>by omega)
   have hne:gv≠g:=fun e=>hs.sep 0 1 _ _ rfl rfl rfl rfl (by decide) g (by rw [e0]; rfl) (by rw [ev,e]; rfl)
   rw [e0]
   have z9:∀ w,(Go.sizeOf (ρ.t 9)).run P w=.ok K.sz w:=fun w=>by simp [sizeOf,typeInfo,hi0,h1]
   have hcap0:cur.size≠0:=by
    have:=Nat.mul_le_mul_right K.sz hc
    have h5:0<xs.length*K.sz:=Nat.mul_pos (by omega) hsz
    omega
   have htk:cur.toList.take (i*K.sz)=flat.take (i*K.sz):=by
    rw [← ht,List.take_take,Nat.min_eq_left (Nat.mul_le_mul_right _ hi)]
   have hrow:∀ (cur':Array Value),cur'.toList.take ((xs.length+vs.length)*K.sz)=cur.toList.take (i*K.sz)++curv.toList.take (vs.length*K.sz)++(cur.toList.take (xs.length*K.sz)).drop (i*K.sz)→cur'.toList.take ((xs.length+vs.length)*K.sz)=flat.take (i*K.sz)++flatv++flat.drop (i*K.sz):=fun cur' h=>by rw [h,htk,htv,ht]
   have hlf:(flat.take (i*K.sz)++flatv++flat.drop (i*K.sz)).length=(xs.length+vs.length)*K.sz:=by
    have h5:=ho.1
    have h6:=hov.1
    have h7:i*K.sz≤xs.length*K.sz:=Nat.mul_le_mul_right _ hi
    simp only [List.length_append,List.length_take,List.length_drop,h5,h6,Nat.add_mul]
    omega
   have hrr:Cr H K (xs.take i++vs++xs.drop i) (flat.take (i*K.sz)++flatv++flat.drop (i*K.sz)):=by
    have h5:=ho.1
    have h7:i*K.sz≤xs.length*K.sz:=Nat.mul_le_mul_right _ hi
    have l1:(flat.take (i*K.sz)).length=(xs.take i).length*K.sz:=by rw [List.length_take,List.length_take,Nat.min_eq_left hi,h5]; omega
    refine Gn (Gn (dY hr i) l1 hrv) ?_ (dZ hr i)
    rw [List.length_append,List.length_append,l1,hov.1,Nat.add_mul]
   by_cases hroom:xs.length+vs.length≤cap
   ·refine Calls.mono (cS L i0 z K.sz i0.bytes hi0 hz h1 rfl h3 hsz z9 g xs.length cap i cur w hg hsc hlt gv vs.length capv curv hgv hne hm hroom hcm hlv (by rw [ht]; exact Cs hr ho.1) (by rw [htv]; exact Cs hrv hov.1) hcap0) fun out w' h=>?_
    obtain ⟨rfl,cur',g1,g2,g3,g4⟩:=h
    refine cU hs (by rw [e0]; exact g4) (fun b hb=>.inl (by rw [e0]; exact hb)) (flat:=flat.take (i*K.sz)++flatv++flat.drop (i*K.sz)) ?_ hrr
    rw [hnew]
    exact ⟨hlf,.inr ⟨g,cap,cur',rfl,Nat.zero_le _,g1,hroom,hcm,g2,hrow cur' g3⟩⟩
   ·refine Calls.mono (dX L i0 z K.sz i0.bytes hi0 hz h1 rfl h3 hsz z9 g xs.length cap i cur w hg hsc hlt gv vs.length capv curv hgv hne hm hc (by omega) hx h2 hlv (by rw [ht]; exact Cs hr ho.1) (by rw [htv]; exact Cs hrv hov.1)) fun out w' h=>?_
    obtain ⟨cap',rfl,g5,g6,cur',g1,g2,g3,g4⟩:=h
    refine cU hs ⟨g4.os,g4.tape,g4.output,g4.size,fun k hk _=>g4.block k hk (by simp)⟩ (fun b hb=>.inr (by cases hb; exact Nat.le_refl _)) (flat:=flat.take (i*K.sz)++flatv++flat.drop (i*K.sz)) ?_ hrr
    rw [hnew]
    exact ⟨hlf,.inr ⟨w.heap.size,cap',cur',rfl,Nat.zero_le _,g1,g5,g6,g2,hrow cur' g3⟩⟩
def bU (t:TypeId) (K:Kd) (args bs:List AV):Option (List AV) :=
 match args,bs with
 | [.lst K' xs],[]=>if h:K'=K then (if xs.length≤68719476736 then some [.new t K (h▸xs)] else none) else none
 | _,_=>none
theorem da {t:TypeId} {K:Kd} {xs:List K.T} (h:xs.length≤68719476736):bU t K [.lst K xs] []=some [.new t K xs]:=by simp [bU,h]
theorem db {K:Kd} (L:SlLaysE0.n41 P ρ) (he:ee P (ρ.t 23) K=true) {args bs rs:List AV} (h:bU (ρ.t 23) K args bs=some rs):TV P (ρ.f 41) args bs rs:=by
 unfold bU at h
 split at h
 ·split at h
  ·rename_i hk
   subst hk
   split at h
   ·cases h
    exact iU L he (by assumption)
   ·cases h
  ·cases h
 ·cases h
def iW (t:TypeId) (K:Kd) (args bs:List AV):Option (List AV) :=
 match args,bs with
 | [.new t1 K1 xs,.int k i,.new t2 K2 vs],[]=>if h1:K1=K then (if h2:K2=K then (if t1=t∧t2=t∧k=.i64∧0≤i∧i≤xs.length∧vs.length≠0∧xs.length+vs.length≤68719476736 then
   some [.new t K ((h1▸xs).take i.toNat++(h2▸vs)++(h1▸xs).drop i.toNat)] else none) else none) else none
 | _,_=>none
theorem jf {t:TypeId} {K:Kd} {xs vs:List K.T} {i:Nat} (h:xs.length+vs.length≤68719476736) (hi:i≤xs.length) (hv:vs.length≠0):iW t K [.new t K xs,.int .i64 i,.new t K vs] []=some [.new t K (xs.take i++vs++xs.drop i)]:=by
 have hi':(i:Int)≤(xs.length:Int):=by omega
 have h0:(0:Int)≤(i:Int):=by omega
 simp only [iW,dif_pos,true_and]
 rw [if_pos ⟨h0,hi',hv,h⟩,Int.toNat_natCast]
theorem jg {K:Kd} (L:gV P ρ) (he:ee P (ρ.t 9) K=true) {args bs rs:List AV} (h:iW (ρ.t 9) K args bs=some rs):TV P (ρ.f 22) args bs rs:=by
 unfold iW at h
 split at h
 ·split at h
  ·rename_i hk
   subst hk
   split at h
   ·rename_i hk2
    subst hk2
    split at h
    ·rename_i hc
     obtain ⟨rfl,rfl,rfl,h0,hi,hv,hx⟩:=hc
     cases h
     rename_i n _
     obtain ⟨m,rfl⟩:=Int.eq_ofNat_of_zero_le h0
     exact gW L he hx (fun e=>hv (by rw [e]; rfl)) (by omega)
    ·cases h
   ·cases h
  ·cases h
 ·cases h
def kW (args bs:List AV):Option (List AV) :=
 match args,bs with
 | [.str a,.str b],[]=>some [.int .i64 (Lib.compareBytes a.data.toList b.data.toList)]
 | _,_=>none
theorem jh (L:Lays.n106 P ρ) {args bs rs:List AV} (h:kW args bs=some rs):TV P (ρ.f 106) args bs rs:=by
 unfold kW at h
 split at h
 ·cases h
  rename_i a b
  refine ⟨⟨_,_,L.f106,by rfl,rfl⟩,?_,1,rfl,fun H φ w cargs hs ha=>?_⟩
  ·intro r hr
   simp only [List.mem_singleton] at hr
   subst hr
   rfl
  ·obtain ⟨v0,r0,rfl,hv0,ha⟩:=ha
   obtain ⟨v1,r1,rfl,hv1,ha⟩:=ha
   have hr1:r1=[]:=ha
   subst hr1
   have e0:v0=.string a:=hv0
   have e1:v1=.string b:=hv1
   subst e0 e1
   refine Calls.mono (Any.strings_Compare L a b w) fun out w' h=>?_
   obtain ⟨rfl,rfl⟩:=h
   exact dV (rs:=[.int .i64 (Lib.compareBytes a.data.toList b.data.toList)]) (AT.refl hs) rfl
 ·cases h
theorem fL {H:HP} {φ:BW} {w w':World} {t:TypeId} {K:Kd} {xs ys:List K.T} {ags:List AV} {v':Value} {flat:List Value} (hst:Ay [] (.new t K xs::ags)=[.rows t K xs])
  (hs:SR H φ (Ay [] (.new t K xs::ags)) w) (hg:w.grownBy w' (Dg (φ 0))) (hb:∀ b,Dg v'=some b→Dg (φ 0)=some b∨w.heap.size≤b)
  (ho:w'.ownsRow 0 t K.sz v' ys.length flat) (hr:Cr H K ys flat):Jf H φ w (.new t K xs::ags) [] [] [.new t K ys] v' w':=by
 have hbx:(Ay [] (.new t K xs::ags))[0]? = some (.rows t K xs):=by rw [hst]; rfl
 have hout:∀ b,Dg (φ 0)=some b→H b=none:=fun b h=>hs.out 0 (.rows t K xs) hbx rfl b h
 have hlt:∀ b o,H b=some o→b<w.heap.size:=fun b o h=>(Array.getElem?_eq_some_iff.1 (hs.hp b o h)).1
 refine ⟨H,fun _=>v',HP.le_refl H,⟨fun b o h=>?_,fun id bx hid=>?_,fun i j bi bj hi hj _ _ hne=>?_,fun i bi hi _ b hv=>?_,fun id cs hid=>?_⟩,⟨hg.os,hg.tape,hg.output,hg.size,fun b hlt hne=>hg.block b hlt (fun e=>hne 0 (by rw [hst]; show 0<1; omega) e.symm),fun j hj=>by simp at hj,fun i bi hi _ b hv=>?_,fun j hj=>by simp at hj,fun _ _ _=>rfl⟩,⟨rfl,rfl⟩⟩
 ·rw [hg.block b (hlt b o h) (fun e=>by rw [hout b e.symm] at h; cases h)]
  exact hs.hp b o h
 ·cases id with
  | zero=>cases hid; exact ⟨flat,ho,hr⟩
  | succ k=>cases hid
 ·cases i with
  | succ k=>cases hi
  | zero =>
   cases j with
   | succ k=>cases hj
   | zero=>exact absurd rfl hne
 ·cases hh:H b with
  | none=>rfl
  | some o =>
   rcases hb b hv with h | h
   ·rw [hout b h] at hh; cases hh
   ·have:=hlt b o hh; omega
 ·cases id with
  | zero=>cases hid
  | succ k=>cases hid
 ·rcases hb b hv with h | h
  ·exact .inr ⟨0,(by rw [hst]; show 0<1; omega),h⟩
  ·exact .inl h
end Go.Proofs.YtaedipailemlcaaGreat.Core

namespace Go.Proofs.YtaedipailemlcaaGreat.Core
open Go Go.Shelf Go.RowKit Go.Lib
variable {P:Program} {ρ:Ren}
structure lB (P:Program) (g:Nat):Prop where
 eg:∀ args w,(callFunc g args).run P w=.ok (.enter g args) w
 says:∀ (n x:Int) (b o:Nat) (W:World),W.cell? ⟨b,o,none⟩=some (.int .i64 n) →
  Calls P g #[.int .i64 x,.pointer (some ⟨b,o,none⟩)] W fun e w'=>e=.returned (.bool (x==n))∧∃ q,w'=W.drewN q
set_option maxHeartbeats 2000000 in
theorem dd (L:SlLaysH.n10 P ρ) (fv:Value) (w:World) :
  Calls P (ρ.f 10) #[.slice none 0 0,fv] w fun e w'=>e=.returned (.slice none 0 0)∧w'=w:=by
 have mixed:=L.mixed; have t0:=L.t0; have a0:=L.a0; have z0:=L.z0; have v0:=L.v0; have t3:=L.t3; have a3:=L.a3; have z3:=L.z3; have v3:=L.v3; have t4:=L.t4; have a4:=L.a4; have z4:=L.z4; have v4:=L.v4; have t22:=L.t22; have a22:=L.a22; have z22:=L.z22; have v22:=L.v22; have a23:=L.a23; have z23:=L.z23; have t25:=L.t25; have a25:=L.a25; have z25:=L.z25; have v25:=L.v25
 have e6:∀ args w,(callFunc (ρ.f 6) args).run P w=.ok (.enter (ρ.f 6) args) w:=L.f6.enters rfl
 have hIF:=AnyE.slices_IndexFunc_empty (P:=P) (ρ:=ρ) { L with } none 0 fv w
 obtain ⟨_,_,FG⟩:=L.f10
 go_enter FG,SlBodyH.n10_ntmps ρ
 go_wp2_with (go_at_fn (ρ.f 6); refine hIF.mono ?_; rintro e w' ⟨rfl,rfl⟩)
 go_ret
 exact ⟨rfl,rfl⟩
theorem Uc {α:Type} [Inhabited α] (enc:α→Value) (w:World) (b off:Nat) (d:Array α):(Sort.putRow enc w b off d).heap.size=w.heap.size:=by
 simp [Sort.putRow,Sort.mapBlock]
theorem Ud {α:Type} [Inhabited α] (enc:α→Value) (w:World) (b off k:Nat) (d:Array α) (h:k≠b):(Sort.putRow enc w b off d).heap[k]? = w.heap[k]? := by
 simp only [Sort.putRow,Sort.mapBlock,Array.getElem?_modify]
 rw [if_neg (fun e=>h e.symm)]
theorem WJ {α:Type} [Inhabited α] (enc:α→Value) (w:World) (b off:Nat) (d:Array α) {c:Array Value} {e:TypeId} {fr:Nat×Nat} (h:w.heap[b]? = some (.cells c e fr)) :
  (Sort.putRow enc w b off d).heap[b]? = some (.cells (Sort.putCells enc off d c) e fr):=by
 simp only [Sort.putRow,Sort.mapBlock,Array.getElem?_modify,if_true,h,Option.map_some,Sort.onCells]
theorem eO (L:SlLaysH.n10 P ρ) (hv:∀ w,(zeroValue (ρ.t 23)).run P w=.ok (.int .i64 0) w) {g:Nat} (E:lB P g) {xs:List Int} {n:Int} :
  TV P (ρ.f 10) [.new (ρ.t 23) (.int .i64) xs,.clo g (.int .i64) n] [] [.new (ρ.t 23) (.int .i64) (xs.filter fun x=>!(x==n))]:=by
 refine ⟨?_,?_,1,rfl,fun H φ w cargs hs ha=>?_⟩
 ·obtain ⟨nm,hnm,hf⟩:=L.f10
  exact ⟨_,_,hf,hnm,rfl⟩
 ·intro r hr
  simp only [List.mem_singleton] at hr
  subst hr
  rfl
 ·obtain ⟨v0,r0,rfl,hv0,ha⟩:=ha
  obtain ⟨v1,r1,rfl,hv1,ha⟩:=ha
  have hr1:r1=[]:=ha
  subst hr1
  have e0:v0=φ 0:=hv0.1
  subst e0
  obtain ⟨b,o,c,el,fz,e1,hb,vs,hvs,hvc⟩:=(show cv H g (Ea H (.int .i64) n) v1 from hv1)
  have hvs:vs=[.int .i64 n]:=hvs
  subst hvs e1
  have hcn:c[o]? = some (.int .i64 n):=hvc 0 _ rfl
  have hwb:=hs.hp _ _ hb
  have hbl:b<w.heap.size:=(Array.getElem?_eq_some_iff.1 hwb).1
  have hcell:w.cell? ⟨b,o,none⟩=some (.int .i64 n):=by rw [Mz hwb]; exact hcn
  obtain ⟨flat,ho,hr⟩:=hs.box 0 (.rows (ρ.t 23) (.int .i64) xs) rfl
  have hstk:Ay [] [AV.new (ρ.t 23) (.int .i64) xs,.clo g (.int .i64) n]=[.rows (ρ.t 23) (.int .i64) xs]:=rfl
  have hout:∀ bb,Dg (φ 0)=some bb→H bb=none:=fun bb h=>hs.out 0 (.rows (ρ.t 23) (.int .i64) xs) rfl rfl bb h
  obtain ⟨hfl,⟨e0,hx⟩ | ⟨gb,cap,cur,e0,hle,hg,hc,hcm,hsc,ht⟩⟩:=ho
  ·have:xs=[]:=List.length_eq_zero_iff.1 (by omega)
   subst this
   rw [e0]
   refine Calls.mono (dd L _ w) fun out w' h=>?_
   obtain ⟨rfl,rfl⟩:=h
   exact fL hstk hs ⟨rfl,rfl,rfl,Nat.le_refl _,fun _ _ _=>rfl⟩ (fun b hb=>by simp [Dg] at hb) (flat:=[]) ⟨by simp,.inl ⟨rfl,rfl⟩⟩ (fun j x h=>by simp at h)
  ·have hne:b≠gb:=fun e=>by
    have:=hout gb (by rw [e0]; rfl)
    rw [← e] at this
    rw [this] at hb; cases hb
   have hgl:gb<w.heap.size:=(Array.getElem?_eq_some_iff.1 hg).1
   have hflat:∀ j (h:j<xs.length),cur[j]? = some (.int .i64 xs[j]):=fun j hj=>by
    have h1:(flat.drop (j*1)).take 1=[.int .i64 xs[j]]:=hr j xs[j] (List.getElem?_eq_getElem hj)
    have h4:((flat.drop (j*1)).take 1)[0]? = some (.int .i64 xs[j]):=by rw [h1]; rfl
    have h5:flat[j]? = some (.int .i64 xs[j]):=by simpa using h4
    rw [← ht] at h5
    have h6:j<xs.length*Kd.sz (.int .i64):=by simpa [Kd.sz] using hj
    rw [List.getElem?_take,if_pos h6,Array.getElem?_toList] at h5
    exact h5
   have hH:Sort.Holds (Value.int .i64) w gb 0 xs.toArray:=fun j hj=>by
    have hj':j<xs.length:=by simpa using hj
    have hx:xs.toArray[j]! = xs[j]:=by simp [hj']
    refine ⟨?_,?_⟩
    ·rw [Mz hg,Nat.zero_add,hflat j hj',hx]
    ·simp [World.frozen?,hg]
   have hp:PredAt P g #[.pointer (some ⟨b,o,none⟩)] (Value.int .i64) (fun x=>x==n) w:=fun W x hB=>E.says n x b o W ((hB.cell (p:=⟨b,o,none⟩) hbl).trans hcell)
   have hpo:PredOver P g #[.pointer (some ⟨b,o,none⟩)] (Value.int .i64) (fun x=>x==n) gb 0 xs.toArray.size w:=fun k os dk x _=>E.says n x b o _ (by
    unfold sortWorld
    rw [Sort.cell?_grow _ _ _ (by show b<(Sort.putRow _ _ _ _ _).heap.size; rw [Uc]; exact hbl),Sort.cell?_putRow_other _ _ gb 0 _ _ (Or.inl hne)]
    exact hcell)
   have hcm':cap≤9223372036854775807:=hcm
   have hcall:=AnyE.slices_DeleteFunc L (Value.int .i64) (fun _=>rfl) (fun x=>x==n) g #[.pointer (some ⟨b,o,none⟩)] E.eg 0 hv gb 0 cap xs.toArray w hp hpo hH (by simp; omega) (by simpa using hc)
   rw [e0]
   refine Calls.mono (by simpa using hcall) fun out w' h=>?_
   obtain ⟨rfl,q,rfl⟩:=h
   have hfl':(xs.filter fun x=>!(x==n)).length≤xs.length:=List.length_filter_le _ _
   generalize hys:(xs.filter fun x=>!(x==n))=ys at hfl' ⊢
   have hd:(ys++List.replicate (xs.length-ys.length) 0).length=xs.length:=by simp; omega
   generalize hdd:(ys++List.replicate (xs.length-ys.length) (0:Int))=zs at hd ⊢
   refine fL (flat:=ys.map (Value.int .i64)) hstk hs ⟨rfl,rfl,rfl,?_,fun k hk hne2=>?_⟩ (fun b hb=>.inl (by rw [e0]; exact hb)) ?_ ?_
   ·rw [Uc]; exact Nat.le_refl _
   ·rw [Ud _ _ _ _ _ _ (fun e=>hne2 (by rw [e0,e]; rfl))]; rfl
   ·refine ⟨by simp [Kd.sz],.inr ⟨gb,cap,_,rfl,Nat.zero_le _,WJ _ _ _ _ _ (show (Sort.ahead w q).heap[gb]? = _ from hg),by omega,hcm,by simpa [Sort.putCells] using hsc,?_⟩⟩
    apply List.ext_getElem?
    intro j
    have hcs:cur.size=cap:=by simpa [Kd.sz] using hsc
    rw [List.getElem?_take]
    by_cases hj:j<ys.length
    ·have h6:j<ys.length*Kd.sz (.int .i64):=by simpa [Kd.sz] using hj
     have hj2:j<cur.size:=by omega
     rw [if_pos h6,Array.getElem?_toList,Sort.putCells,Array.getElem?_mapIdx,Array.getElem?_eq_getElem hj2]
     have h7:zs.toArray[j-0]! = ys[j]:=by
      subst hdd
      simp [List.getElem?_append_left hj,hj]
     simp only [Option.map_some,List.getElem?_map,List.getElem?_eq_getElem hj]
     rw [if_pos ⟨Nat.zero_le _,by simp; omega⟩,h7]
    ·have h6:¬ j<ys.length*Kd.sz (.int .i64):=by simpa [Kd.sz] using hj
     rw [if_neg h6,List.getElem?_map,List.getElem?_eq_none (by omega)]; rfl
   ·intro j x hx
    show ((ys.map (Value.int .i64)).drop (j*1)).take 1=[.int .i64 x]
    have hj:=(List.getElem?_eq_some_iff.1 hx).1
    have hxj:=(List.getElem?_eq_some_iff.1 hx).2
    rw [Nat.mul_one,List.drop_eq_getElem_cons (by simpa using hj)]
    simp [hxj]
def fM (t g:Nat) (args bs:List AV):Option (List AV) :=
 match args,bs with
 | [.new t1 (.int k) xs,.clo g1 (.int k1) n],[]=>if t1=t∧g1=g∧k=.i64∧k1=.i64 then
   some [.new t (.int .i64) ((show List Int from xs).filter fun x=>!(x==(show Int from n)))] else none
 | _,_=>none
theorem lC {t g:Nat} {xs:List Int} {n:Int}:fM t g [.new t (.int .i64) xs,.clo g (.int .i64) n] []=some [.new t (.int .i64) (xs.filter fun x=>!(x==n))]:=by
 simp [fM]
theorem lD (L:SlLaysH.n10 P ρ) (hv:∀ w,(zeroValue (ρ.t 23)).run P w=.ok (.int .i64 0) w) {g:Nat} (E:lB P g) {args bs rs:List AV} (h:fM (ρ.t 23) g args bs=some rs):TV P (ρ.f 10) args bs rs:=by
 unfold fM at h
 split at h
 ·split at h
  ·rename_i hc
   obtain ⟨rfl,rfl,rfl,rfl⟩:=hc
   cases h
   exact eO L hv E
  ·cases h
 ·cases h
end Go.Proofs.YtaedipailemlcaaGreat.Core

namespace Go.Proofs.YtaedipailemlcaaGreat.Core
open Go IntKind
set_option linter.unusedVariables false
set_option maxRecDepth 100000
noncomputable section
def kX:Go.Shelf.Ren:=⟨fun | 41=>44 | n=>n,fun | 22=>24 | 23=>3 | n=>n,fun | n=>n⟩
theorem ji:SlLaysE0.n41 Tryz.prog kX:={
 mixed:=by kernel_rfl
 f41:=⟨Tryz.f44.name,by decide,Tryz.func44.trans (congrArg some (by kernel_rfl))⟩
 t4:=Tryz.underlying4
 a4:=Tryz.isAgg4
 z4:=Tryz.sizeOf4
 v4:=Tryz.zeroValue4
 t22:=Tryz.underlying24
 a22:=Tryz.isAgg24
 z22:=Tryz.sizeOf24
 v22:=Tryz.zeroValue24 }
theorem lE:ee Tryz.prog 3 (.int .i64)=true:=by kernel_rfl
def kY:Go.Shelf.Ren:=⟨fun | 41=>58 | n=>n,fun | 22=>25 | 23=>27 | n=>n,fun | n=>n⟩
theorem jj:SlLaysE0.n41 Tryz.prog kY:={
 mixed:=by kernel_rfl
 f41:=⟨Tryz.f58.name,by decide,Tryz.func58.trans (congrArg some (by kernel_rfl))⟩
 t4:=Tryz.underlying4
 a4:=Tryz.isAgg4
 z4:=Tryz.sizeOf4
 v4:=Tryz.zeroValue4
 t22:=Tryz.underlying25
 a22:=Tryz.isAgg25
 z22:=Tryz.sizeOf25
 v22:=Tryz.zeroValue25 }
theorem lF:ee Tryz.prog 27 Z=true:=by kernel_rfl
def jk:Go.Shelf.Ren:=⟨fun | 106=>102 | 213=>123 | 265=>131 | n=>n,fun | n=>n,fun | n=>n⟩
theorem iX:Lays.n106 Tryz.prog jk:={
 mixed:=by kernel_rfl
 f106:=Tryz.func102.trans (congrArg some (by kernel_rfl))
 f213:=Tryz.func123.trans (congrArg some (by kernel_rfl))
 f265:=Tryz.func131.trans (congrArg some (by kernel_rfl))
 t3:=Tryz.underlying3
 a3:=Tryz.isAgg3
 z3:=Tryz.sizeOf3
 v3:=Tryz.zeroValue3
 t9:=Tryz.underlying9
 a9:=Tryz.isAgg9
 z9:=Tryz.sizeOf9
 v9:=Tryz.zeroValue9 }
def jl:Go.Shelf.Ren:=⟨fun | 22=>103 | 29=>124 | 30=>125 | n=>n,fun | 24=>25 | 9=>27 | n=>n,fun | n=>n⟩
theorem iY:gV Tryz.prog jl:={
 mixed:=by kernel_rfl
 f22:=⟨Tryz.f103.name,by decide,Tryz.func103.trans (congrArg some (by kernel_rfl))⟩
 ov:=fun args w=>run_callFunc_extern Tryz.func124 (by kernel_rfl) (by kernel_rfl) (by kernel_rfl) (by kernel_rfl) args w
 t3:=Tryz.underlying3
 a3:=Tryz.isAgg3
 z3:=Tryz.sizeOf3
 v3:=Tryz.zeroValue3
 t4:=Tryz.underlying4
 a4:=Tryz.isAgg4
 z4:=Tryz.sizeOf4
 v4:=Tryz.zeroValue4
 t24:=Tryz.underlying25
 a24:=Tryz.isAgg25
 z24:=Tryz.sizeOf25
 v24:=Tryz.zeroValue25 }
theorem kZ:ee Tryz.prog 27 Z=true:=by kernel_rfl
end
end Go.Proofs.YtaedipailemlcaaGreat.Core

namespace Go.Proofs.YtaedipailemlcaaGreat.Core
open Go IntKind
set_option linter.unusedVariables false
set_option maxRecDepth 100000
noncomputable section
def lH:List (Nat×Bi):=[(5,BJ),(6,PS),(9,BA),(10,EA),(11,DO),(12,DU),(14,Hj),(16,Cm),(17,Al),(18,BG),(19,Cn),(20,G2),(21,G3),(23,Kz),(24,Fk),(25,BN),(28,IF),(29,EB),(30,Cu),(31,Bp),(32,EK),(33,IG),(34,G4),(35,Jh),(36,IH),(37,Bn),(38,Cv),(39,EL),(40,Cw),(41,Br),(42,GN),(43,BU),(45,D1),(46,Cf),(47,BE),(48,IK),(49,Di),(50,DV),(51,Ae),(52,CA),(53,GO),(54,Cx),(55,Am),(56,IN),(59,BB),(66,DW),(67,GP),(68,Cy),(69,DX),(70,Bw),(71,K3),(72,AO),(73,G5),(74,Cz),(75,IP),(76,BK),(77,CR),(78,Ap),(79,K5),(80,Es),(81,C0),(83,Fl),(89,AM),(95,IQ),(99,Bx),(100,AC),(101,GQ),(104,Bg),(105,IR),(106,G6),(107,CS),(108,Bs),(109,Mx),(110,Ji),(111,Bo),(122,G7),(126,B3)]
def Sh (f:Nat):Option Bi:=je f lH
theorem lZ:iI Tryz.prog Sh:=gQ (.cons Xq <| .cons eM <| .cons ZU <| .cons Xr <| .cons cI <| .cons aY <| .cons gT <| .cons cJ <| .cons TQ <| .cons cK <| .cons aZ <| .cons Xs <| .cons Xt <| .cons cL <| .cons UY <| .cons ZV <| .cons ZW <| .cons Xu <| .cons ZX <| .cons aa <| .cons cM <| .cons ZY <| .cons Xv <| .cons ae <| .cons ZZ <| .cons TR <| .cons Za <| .cons RW <| .cons Zb <| .cons PT <| .cons cN <| .cons RY <| .cons Qu <| .cons TS <| .cons Qv <| .cons Zc <| .cons WC <| .cons af <| .cons Zd <| .cons WD <| .cons WE <| .cons Ze <| .cons Xw <| .cons Zf <| .cons PU <| .cons ag <| .cons WF <| .cons Zg <| .cons ah <| .cons UZ <| .cons cO <| .cons K4 <| .cons Xx <| .cons Zh <| .cons Zi <| .cons Xy <| .cons Xz <| .cons Zj <| .cons cQ <| .cons Zk <| .cons Zl <| .cons Ua <| .cons Ht <| .cons Zm <| .cons Ub <| .cons DP <| .cons WG <| .cons Sg <| .cons Zn <| .cons X0 <| .cons X1 <| .cons WH <| .cons dU <| .cons ak <| .cons TU <| .cons X2 <| .cons cR .nil)
def EM:Ee:=fun f args bs=>if f=44 then bU 3 (.int .i64) args bs else if f=58 then bU 27 Z args bs else if f=102 then kW args bs else if f=103 then iW 27 Z args bs else none
theorem jm:Gf Tryz.prog EM:=fun f args bs rs h=>by
 unfold EM at h
 split at h
 ·rename_i e; subst e; exact db ji lE h
 split at h
 ·rename_i e; subst e; exact db jj lF h
 split at h
 ·rename_i e; subst e; exact jh iX h
 split at h
 ·rename_i e; subst e; exact jg iY kZ h
 cases h
abbrev cP:Ee:=cA Sh EM
def cG {ρ:Type} (c:AI) (kn kr:St→Option ρ) (ke:Nat→St→Option ρ):St→Option ρ:=Ej cP Hi c kn kr ke
def lG {ρ:Type} (c:AI) (hs:List (Nat×Nat)) (l:List Nat) (n:Nat) (kr:St→Option ρ) (ke:Nat→St→Option ρ):St→Option ρ:=Hi fun go s'=>Ej cP Hi c (fun s''=>go (s''.cutH hs l n)) kr ke s'
def kJ {ρ:Type} (c:AI) (hs:List (Nat×Nat)) (l:List Nat) (n:Nat) (kn kr:St→Option ρ) (ke:Nat→St→Option ρ):St→Option ρ:=fun s=>cG c kn kr ke (s.cutH hs l n)
def kB {ρ:Type} (hs:List (Nat×Nat)) (l:List Nat) (n:Nat) (kn:St→Option ρ):St→Option ρ:=fun s=>kn (s.cutH hs l n)
def kE {ρ:Type} (b:Nat) (hs:List (Nat×Nat)) (l:List Nat) (n:Nat) (kn:St→Option ρ) (ke:Nat→St→Option ρ):Nat→St→Option ρ:=fun i s=>if i=b then kn (s.cutH hs l n) else ke i s
def kx {ρ:Type}:Nat→St→Option ρ:=fun _ _=>none
def cF (f:Nat) (a:Bi) (x b:List AV):Option (RT a.outs):=(cP f x b).bind (CE a.outs)
theorem cT (a:Bi) {f:Nat} {x b:List AV} {t:Option (RT a.outs)} {r:RT a.outs} (hf:Sh f=some a) (hl:x.length=a.params.length∧b.length=(Cq a.params 0).length) (e:iQ cP a x b=t) (h:t=some r):cF f a x b=some r:=eI hf hl (e.trans h)
theorem jS {ρ:Type} {t w:Option ρ} {r:ρ} (e:w=t) (h:t=some r):w=some r:=e.trans h
theorem lS {ρ:Type} {c:AI} {hs:List (Nat×Nat)} {l:List Nat} {n:Nat} {kr:St→Option ρ} {ke:Nat→St→Option ρ} {s:St} {t:Option ρ} {r:ρ} (e:Ej cP Hi c (fun s=>lG c hs l n kr ke (s.cutH hs l n)) kr ke s=t) (h:t=some r):lG c hs l n kr ke s=some r:=gO (e.trans h)
def QL (x0:List Int):Option Bool:=cF 5 BJ [.lst (.int .u8) x0] []
def TW (x0:List Int):Option Bool:=cF 6 PS [.lst (.int .u8) x0] []
def Lb (x0:O) (x1:List (List Int)) (x2:Y):Option (O×List Y×List AB):=cF 9 BA [.agg (U.enc x0),.lst (.slice (.int .i64)) x1,.agg (AK.enc x2)] []
def FQ (x0:O):Option Bool:=cF 10 EA [.agg (U.enc x0)] []
def PV (x0:Y):Option Bool:=cF 11 DO [.agg (AK.enc x0)] []
def FW (x0:List X) (x1:ByteArray):Option X:=cF 12 DU [.lst Z x0,.str x1] []
def WK (x0:List Int) (x1:Int):Option Bool:=cF 14 Hj [.lst (.int .i64) x0,.int .i64 x1] []
def K7 (x0:O) (x1:List (List Int)) (x2 x3:Int) (x4 x5:ByteArray):Option (O×List Y×List AB×Bool):=cF 16 Cm [.agg (U.enc x0),.lst (.slice (.int .i64)) x1,.int .i64 x2,.int .i64 x3,.str x4,.str x5] []
def HI (x0:List Int):Option (O×List (List Int)):=cF 17 Al [.lst (.int .u8) x0] []
def K8 (x0:O) (x1:List (List Int)) (x2 x3:Int) (x4 x5:ByteArray):Option (O×List Y×List AB×Bool):=cF 18 BG [.agg (U.enc x0),.lst (.slice (.int .i64)) x1,.int .i64 x2,.int .i64 x3,.str x4,.str x5] []
def Nc (x0:List Int):Option AD:=cF 19 Cn [.lst (.int .u8) x0] []
def KK (x1:List Int) (b0:AD):Option (AG×AD):=cF 20 G2 [.ptr 0 0,.lst (.int .u8) x1] [.agg (Aa.enc b0)]
def Bq (x1:Int) (b0:AD):Option (Int×AD):=cF 21 G3 [.ptr 0 0,.int .i64 x1] [.agg (Aa.enc b0)]
def AN (x0 x1 x2:Int):Option Bool:=cF 23 Kz [.int .i64 x0,.int .i64 x1,.int .i64 x2] []
def Fm (x0:O):Option O:=cF 24 Fk [.agg (U.enc x0)] []
def IS (x0:List (List Int)):Option Bool:=cF 25 BN [.lst (.slice (.int .i64)) x0] []
def CK (x0:O):Option O:=cF 28 IF [.agg (U.enc x0)] []
def EC (x0:O):Option Bool:=cF 29 EB [.agg (U.enc x0)] []
def C1 (x0:List (List Int)):Option Bool:=cF 30 Cu [.lst (.slice (.int .i64)) x0] []
def Nd (x0:O) (x1:List Int) (x2:Y):Option (O×List Y×List AB):=cF 31 Bp [.agg (U.enc x0),.lst (.int .i64) x1,.agg (AK.enc x2)] []
def Co (x0:List Int) (x1:Int):Option Bool:=cF 32 EK [.lst (.int .i64) x0,.int .i64 x1] []
def IT (x0:O) (x1:Int):Option O:=cF 33 IG [.agg (U.enc x0),.int .i64 x1] []
def C_ (x0:O) (x1:Y) (x2:Int):Option (List Y):=cF 34 G4 [.agg (U.enc x0),.agg (AK.enc x1),.int .i64 x2] []
def Jj (x0:Int):Option Bool:=cF 35 Jh [.int .i64 x0] []
def Au (x0 x1 x2:Int):Option Bool:=cF 36 IH [.int .i64 x0,.int .i64 x1,.int .i64 x2] []
def FB (x0:List Int) (x1 x2:Int):Option Bool:=cF 37 Bn [.lst (.int .i64) x0,.int .i64 x1,.int .i64 x2] []
def Et (x0:List X):Option Bool:=cF 38 Cv [.lst Z x0] []
def CB (b0:O):Option (Bool×O):=cF 39 EL [.ptr 0 0] [.agg (U.enc b0)]
def CL (x0:List X):Option Bool:=cF 40 Cw [.lst Z x0] []
def FC (x1:List (List Int)) (b0:O):Option (Bool×O):=cF 41 Br [.ptr 0 0,.lst (.slice (.int .i64)) x1] [.agg (U.enc b0)]
def PW (x0 x1:Int) (x2 x3:ByteArray):Option Bool:=cF 42 GN [.int .i64 x0,.int .i64 x1,.str x2,.str x3] []
def GB (x1:List Int) (b0:O):Option (List Int×O):=cF 43 BU [.ptr 0 0,.lst (.int .i64) x1] [.agg (U.enc b0)]
def CY (b0:List Int):Option (List Int):=cF 45 D1 [.row 0] [.new 3 (.int .i64) b0]
def HJ (b0:O):Option (List AB×O):=cF 46 Cf [.ptr 0 0] [.agg (U.enc b0)]
def D2 (x1:List Int) (x2:Y) (b0:O):Option (List Y×O):=cF 47 BE [.ptr 0 0,.lst (.int .i64) x1,.agg (AK.enc x2)] [.agg (U.enc b0)]
def Bz (x1:Int) (b0:AD):Option (Bool×AD):=cF 48 IK [.ptr 0 0,.int .i64 x1] [.agg (Aa.enc b0)]
def Eu (x0:Int) (x1:List (List Int)):Option (O×Bool):=cF 49 Di [.int .i64 x0,.lst (.slice (.int .i64)) x1] []
def Jk (x0:List X) (x1:ByteArray):Option X:=cF 50 DV [.lst Z x0,.str x1] []
def GC (x0:List X) (x1:X):Option (List X):=cF 51 Ae [.lst Z x0,.agg (Z.enc x1)] []
def Ew (x0:List Int) (x1:Int):Option (List Int):=cF 52 CA [.lst (.int .i64) x0,.int .i64 x1] []
def Ex (b0:O):Option (List AB×O):=cF 53 GO [.ptr 0 0] [.agg (U.enc b0)]
def Lc (x1:List Int) (b0:AD):Option (PO×AD):=cF 54 Cx [.ptr 0 0,.lst (.int .u8) x1] [.agg (Aa.enc b0)]
def KL (x0:List (List Int)) (x1:List AW):Option (AG×List Int×Bool):=cF 55 Am [.lst (.slice (.int .i64)) x0,.lst Aj x1] []
def Dp (b0:AD):Option (Int×AD):=cF 56 IN [.ptr 0 0] [.agg (Aa.enc b0)]
def FD (x0:List Int) (x1:Int):Option Int:=cF 59 BB [.lst (.int .i64) x0,.int .i64 x1] []
def CI (x0:List Int):Option Bool:=cF 66 DW [.lst (.int .i64) x0] []
def JM (x0:cB):Option Bool:=cF 67 GP [.agg (JI.enc x0)] []
def Ld (x0:List Int):Option Bool:=cF 68 Cy [.lst (.int .i64) x0] []
def Jl (x1:List Int) (x2:List X) (b0:O):Option (List Y×O):=cF 69 DX [.ptr 0 0,.lst (.int .i64) x1,.lst Z x2] [.agg (U.enc b0)]
def Fn (x0:List Int) (x1:Int):Option (List Int):=cF 70 Bw [.lst (.int .i64) x0,.int .i64 x1] []
def K9 (x0:ByteArray):Option Bool:=cF 71 K3 [.str x0] []
def Bk (x1 x2 x3:Int) (b0:List Int):Option (List Int):=cF 72 AO [.row 0,.int .i64 x1,.int .i64 x2,.int .i64 x3] [.new 3 (.int .i64) b0]
def KM (x0:Int):Option Int:=cF 73 G5 [.int .u64 x0] []
def Le (x0:List X) (x1:X):Option (List X):=cF 74 Cz [.lst Z x0,.agg (Z.enc x1)] []
def Lf (x0:Y):Option Y:=cF 75 IP [.agg (AK.enc x0)] []
def KN (b0:AD):Option (List (List Int)×AD):=cF 76 BK [.ptr 0 0] [.agg (Aa.enc b0)]
def G8 (x0:List (List Int)):Option (AG×Bool):=cF 77 CR [.lst (.slice (.int .i64)) x0] []
def Lg (b0:AD) (b1:AG):Option (AW×AD×AG):=cF 78 Ap [.ptr 0 0,.ptr 1 0] [.agg (Aa.enc b0),.agg (AS.enc b1)]
def K_ (x1:Int) (x2:AW) (b0:AG):Option (Int×AG):=cF 79 K5 [.ptr 0 0,.int .i64 x1,.agg (Aj.enc x2)] [.agg (AS.enc b0)]
def Lh (x0:AW):Option Bool:=cF 80 Es [.agg (Aj.enc x0)] []
def Li (x0:AG):Option AG:=cF 81 C0 [.agg (AS.enc x0)] []
def Fo (x1:List Int) (b0:AD):Option (Int×AD):=cF 83 Fl [.ptr 0 0,.lst (.int .i64) x1] [.agg (Aa.enc b0)]
def CG (x1 x2:Int) (b0:List Int):Option (List Int):=cF 89 AM [.row 0,.int .i64 x1,.int .i64 x2] [.new 3 (.int .i64) b0]
def IU (x0 x1:Int):Option Bool:=cF 95 IQ [.int .i64 x0,.int .i64 x1] []
def IV (x0:Int):Option Int:=cF 99 Bx [.int .u64 x0] []
def Ar (x0:List X) (x1:ByteArray) (x2:Unit):Option (Int×Bool):=cF 100 AC [.lst Z x0,.str x1,.fn 101 []] []
def GR (x0:X) (x1:ByteArray):Option Int:=cF 101 GQ [.agg (Z.enc x0),.str x1] []
def Eg (x0:List (List Int)):Option (List (List Int)):=cF 104 Bg [.lst (.slice (.int .i64)) x0] []
def IW (x1:List ByteArray) (b0:AD):Option (ByteArray×AD):=cF 105 IR [.ptr 0 0,.lst .str x1] [.agg (Aa.enc b0)]
def KO (x1:Int) (x2:AW) (b0:AG):Option (Int×AG):=cF 106 G6 [.ptr 0 0,.int .i64 x1,.agg (Aj.enc x2)] [.agg (AS.enc b0)]
def KP (x1 x2:Int) (b0:AG):Option (Int×AG):=cF 107 CS [.ptr 0 0,.int .i64 x1,.int .i64 x2] [.agg (AS.enc b0)]
def Dj (x1:O) (x2:List Y) (x3:List AB) (x4:Int) (b0:AG):Option AG:=cF 108 Bs [.ptr 0 0,.agg (U.enc x1),.lst AK x2,.lst Aq x3,.int .i64 x4] [.agg (AS.enc b0)]
def Ra (x0:O):Option O:=cF 109 Mx [.agg (U.enc x0)] []
def Nf (x1:Int) (x2:AW) (b0:AG):Option (Int×AG):=cF 110 Ji [.ptr 0 0,.int .i64 x1,.agg (Aj.enc x2)] [.agg (AS.enc b0)]
def HK (x0:List Y):Option (List Y):=cF 111 Bo [.lst AK x0] []
def G9 (x0:Int):Option Bool:=cF 122 G7 [.int .i64 x0] []
def PX (x0:O) (x1:List (List Int)) (x2:Int):Option (O×List Y×Bool):=cF 126 B3 [.agg (U.enc x0),.lst (.slice (.int .i64)) x1,.int .i64 x2] []
def CM (q0:List Int):Option (List Int):=(cP 44 [.lst (.int .i64) q0] []).bind (CE [(.own 3 (.int .i64))])
def Ag (q0:List X):Option (List X):=(cP 58 [.lst Z q0] []).bind (CE [(.own 27 Z)])
def KQ (q0 q1:Int) (q2:List Int):Option (List Int):=(cP 90 [.row 0,.int .i64 q0,.int .i64 q1] [.new 3 (.int .i64) q2]).bind (CE [(.own 3 (.int .i64))])
def Hu (q0 q1:Int) (q2:List Int):Option (List Int):=(cP 91 [.row 0,.int .i64 q0,.int .i64 q1] [.new 3 (.int .i64) q2]).bind (CE [(.own 3 (.int .i64))])
def I2 (q0 q1:Int) (q2:List Int):Option (Int×Int×List Int):=(cP 92 [.row 0,.int .i64 q0,.int .i64 q1] [.new 3 (.int .i64) q2]).bind (CE [(.int .i64),(.int .i64),(.own 3 (.int .i64))])
def IX (q0 q1:Int) (q2:List Int):Option (List Int):=(cP 93 [.row 0,.int .i64 q0,.int .i64 q1] [.new 3 (.int .i64) q2]).bind (CE [(.own 3 (.int .i64))])
def Fa (q0 q1:Int) (q2:List Int):Option (Bool×List Int):=(cP 94 [.row 0,.int .i64 q0,.int .i64 q1] [.new 3 (.int .i64) q2]).bind (CE [.bool,(.own 3 (.int .i64))])
def HL (q0 q1 q2:Int) (q3:List Int):Option (Int×List Int):=(cP 96 [.row 0,.int .i64 q0,.int .i64 q1,.int .i64 q2] [.new 3 (.int .i64) q3]).bind (CE [(.int .i64),(.own 3 (.int .i64))])
def J7 (q0 q1 q2:Int) (q3:List Int):Option (Int×Bool×List Int):=(cP 97 [.row 0,.int .i64 q0,.int .i64 q1,.int .i64 q2] [.new 3 (.int .i64) q3]).bind (CE [(.int .i64),.bool,(.own 3 (.int .i64))])
def B0 (q0:List X) (q1:Int) (q2:List X):Option (List X):=(cP 103 [.new 27 Z q0,.int .i64 q1,.new 27 Z q2] []).bind (CE [(.own 27 Z)])
def IY (q0 q1:ByteArray):Option Int:=(cP 102 [.str q0,.str q1] []).bind (CE [(.int .i64)])
theorem FE {x0:List Int} (h:x0.length≤68719476736):CM x0=some x0:=by
 unfold CM cP
 rw [SV (r:=[.new 3 (.int .i64) x0]) rfl (da (t:=3) (K:=(.int .i64)) (xs:=x0) h)]
 rfl
theorem BY {x0:List X} (h:x0.length≤68719476736):Ag x0=some x0:=by
 unfold Ag cP
 rw [SV (r:=[.new 27 Z x0]) rfl (da (t:=27) (K:=Z) (xs:=x0) h)]
 rfl
theorem Ue {x0 x1:ByteArray}:IY x0 x1=some (Go.Lib.compareBytes x0.data.toList x1.data.toList):=by
 unfold IY cP
 rw [SV (r:=[.int .i64 (Go.Lib.compareBytes x0.data.toList x1.data.toList)]) rfl rfl]
 rfl
theorem Gt {x0:List X} {i:Nat} {x2:List X} (h:x0.length+x2.length≤68719476736) (hi:i≤x0.length) (hv:x2.length≠0):B0 x0 (i:Int) x2=some (x0.take i++x2++x0.drop i):=by
 unfold B0 cP
 rw [SV (r:=[.new 27 Z (x0.take i++x2++x0.drop i)]) rfl (jf (t:=27) (K:=Z) (xs:=x0) (vs:=x2) (i:=i) h hi hv)]
 rfl
end
end Go.Proofs.YtaedipailemlcaaGreat.Core

namespace Go.Proofs.YtaedipailemlcaaGreat.Core
open Go IntKind
set_option linter.unusedVariables false
set_option maxRecDepth 100000
noncomputable section
def Uf:=cG HG (AH BJ) (AH BJ) kx
def Ug:=kE 0 [] [5,6,7,13,17] 4 Uf kx
def TX:St→Option (RT (Bi.outs BJ)):=lG MM [] [5,6,7,13,17,18] 4 (AH BJ) Ug
def HM (x0:List Y) (x1:List AB) (x2:List Int) (x3:Bool) (x4 x5 x6 x7:O):Option Bool:=cG HG (AH BJ) (AH BJ) kx ⟨[(5,.ptr 1 0),(6,.lst AK x0),(7,.lst Aq x1),(13,.lst (.int .i64) x2),(17,.bool x3)],[.var (U.enc x4),.var (U.enc x5),.var (U.enc x6),.var (U.enc x7)]⟩
def Dq (x0:List Y) (x1:List AB) (x2:List Int) (x3:Bool) (x4:Int) (x5 x6 x7 x8:O):Option Bool:=TX ⟨[(5,.ptr 1 0),(6,.lst AK x0),(7,.lst Aq x1),(13,.lst (.int .i64) x2),(17,.bool x3),(18,.int .i64 x4)],[.var (U.enc x5),.var (U.enc x6),.var (U.enc x7),.var (U.enc x8)]⟩
def Lj (x0:List (List Int)) (x1:List Y) (x2:List AB) (x3 x4:Bool) (x5 x6 x7:O):Option Bool:=cG LR (AH BJ) (AH BJ) kx ⟨[(3,.ptr 0 0),(4,.lst (.slice (.int .i64)) x0),(5,.ptr 1 0),(6,.lst AK x1),(7,.lst Aq x2),(8,.bool x3),(58,.bool x4)],[.var (U.enc x5),.var (U.enc x6),.var (U.enc x7)]⟩
def Lk (x0:List Y) (x1:List AB) (x2:List Int) (x3:Bool) (x4 x5 x6 x7:O):Option Bool:=(if (!x3)=true then (if ((x1.length:Int)==0)=true then (if ((x0.length:Int)==(i64.wrap ((x2.length:Int)-1)))=true then (if ((x5.2.2.2.2.2.2.2.2.2.2.2.2.2.length:Int)==(i64.wrap ((x2.length:Int)-1)))=true then ((FQ x5).bind fun y8=>(some y8)) else (some false)) else (some false)) else (some false)) else (some false))
def HN (x0:List Y) (x1:List AB) (x2:List Int) (x3:Bool) (x4:Int) (x5 x6 x7 x8:O):Option Bool:=(if (decide (x4<(x0.length:Int)))=true then (if 0≤x4 then (if x4<(x0.length:Int) then (if (((x0.getD x4.toNat (0,0,0,0,0,([]:List X))).1) != 5)=false then (if 0≤x4 then (if x4<(x0.length:Int) then ((WK x2 ((((x0.getD x4.toNat (0,0,0,0,0,([]:List X))).2).2).1)).bind fun y7=>(if (!y7)=false then (if 0≤x4 then (if x4<(x0.length:Int) then (if 0≤(0:Int) then (if 0<(((((((x0.getD x4.toNat (0,0,0,0,0,([]:List X))).2).2).2).2).2).length:Int) then (if (!((((((((((x0.getD x4.toNat (0,0,0,0,0,([]:List X))).2).2).2).2).2).getD (0:Int).toNat (ByteArray.empty,ByteArray.empty,0)).2).1).toList==(⟨#[122]⟩:ByteArray).toList))=true then (some false) else (Dq x0 x1 x2 x3 (i64.wrap (x4+1)) x5 x6 x7 x8)) else none) else none) else none) else none) else (some false))) else none) else none) else (some false)) else none) else none) else (HM x0 x1 x2 x3 x5 x6 x7 x8))
def Ll (x0:List (List Int)) (x1:List Y) (x2:List AB) (x3 x4:Bool) (x5 x6 x7:O):Option Bool:=(if (!x3)=true then (some (x6.1==0)) else (if 0≤(i64.wrap (x5.2.1-1)) then (if (i64.wrap (x5.2.1-1))<(x0.length:Int) then (if (((x0.getD (i64.wrap (x5.2.1-1)).toNat ([]:List Int)).length:Int)==1)=true then (if ((x2.length:Int)==1)=true then (if 0≤(0:Int) then (if 0<(x2.length:Int) then (if (((x2.getD (0:Int).toNat (0,0,0,ByteArray.empty,ByteArray.empty,0)).1)==3)=true then ((FW x6.2.2.2.2.2.2.2.1 (⟨#[97]⟩:ByteArray)).bind fun y5=>(if (y5.2.1.toList==(⟨#[122]⟩:ByteArray).toList)=true then (some (x6.2.2.2.2.2.2.2.2.2.1==0)) else (some false))) else (some false)) else none) else none) else (some false)) else ((K7 x6 x0 2 4 (⟨#[97]⟩:ByteArray) (⟨#[]⟩:ByteArray)).bind fun y6=>(Dq x1 x2 (x0.getD (i64.wrap (x5.2.1-1)).toNat ([]:List Int)) y6.2.2.2 0 x5 x6 x7 y6.1))) else none) else none))
def QM (x0:List Int):Option Bool:=((TW x0).bind fun y1=>(if y1=true then (some true) else ((HI x0).bind fun y2=>((K7 y2.1 y2.2 1 3 (⟨#[97]⟩:ByteArray) (⟨#[122]⟩:ByteArray)).bind fun y3=>((K8 y2.1 y2.2 1 3 (⟨#[97]⟩:ByteArray) (⟨#[122]⟩:ByteArray)).bind fun y4=>(if (true != Nn .bool y3.2.2.2 y4.2.2.2)=false then (if ((y3.2.1.length:Int) != (y4.2.1.length:Int))=false then (if ((y3.2.2.1.length:Int) != (y4.2.2.1.length:Int))=true then (some false) else (Lj y2.2 y3.2.1 y3.2.2.1 y3.2.2.2 ((y3.2.2.1.length:Int) != (y4.2.2.1.length:Int)) y2.1 y3.1 y4.1)) else (some false)) else (some false)))))))
theorem TY:gS Lk HM:=jS (by kernel_rfl)
theorem Ln:km HN Dq:=lS (by kernel_rfl)
theorem TZ:gS Ll Lj:=jS (by kernel_rfl)
theorem X3:SW QM QL:=cT BJ rfl ⟨rfl,rfl⟩ (by kernel_rfl)
def eP (x0:List Int):Option Bool:=(some (decide ((x0.length:Int)>1048576)))
theorem eQ:SW eP TW:=cT PS rfl ⟨rfl,rfl⟩ (by kernel_rfl)
def WL:=cG MR (AH BA) (AH BA) kx
def WM:=cG IE (AH BA) (AH BA) kx
def EN (x0:List Y) (x1:List AB) (x2:Bool) (x3:O) (x4:Y) (x5 x6:O):Option (O×List Y×List AB):=cG MQ WL (AH BA) kx ⟨[(3,.ptr 0 0),(5,.ptr 1 0),(6,.ptr 2 0),(9,.ptr 3 0),(10,.lst AK x0),(11,.lst Aq x1),(146,.bool x2)],[.var (U.enc x3),.var (AK.enc x4),.var (U.enc x5),.var (U.enc x6)]⟩
def IZ (x0:List (List Int)) (x1:List Y) (x2:List AB) (x3:Bool) (x4:O) (x5:Y) (x6 x7:O):Option (O×List Y×List AB):=cG IE (AH BA) (AH BA) kx ⟨[(1,.lst (.slice (.int .i64)) x0),(3,.ptr 0 0),(5,.ptr 1 0),(6,.ptr 2 0),(9,.ptr 3 0),(10,.lst AK x1),(11,.lst Aq x2),(105,.bool x3)],[.var (U.enc x4),.var (AK.enc x5),.var (U.enc x6),.var (U.enc x7)]⟩
def C5 (x0:List (List Int)) (x1:List Y) (x2:List AB) (x3:Bool) (x4:O) (x5:Y) (x6 x7:O):Option (O×List Y×List AB):=cG MO WM (AH BA) kx ⟨[(1,.lst (.slice (.int .i64)) x0),(3,.ptr 0 0),(5,.ptr 1 0),(6,.ptr 2 0),(9,.ptr 3 0),(10,.lst AK x1),(11,.lst Aq x2),(105,.bool x3)],[.var (U.enc x4),.var (AK.enc x5),.var (U.enc x6),.var (U.enc x7)]⟩
def M0 (x0:List (List Int)) (x1:List Y) (x2:List AB) (x3:Bool) (x4:O) (x5:Y) (x6 x7:O):Option (O×List Y×List AB):=cG MS (AH BA) (AH BA) kx ⟨[(1,.lst (.slice (.int .i64)) x0),(3,.ptr 0 0),(5,.ptr 1 0),(6,.ptr 2 0),(9,.ptr 3 0),(10,.lst AK x1),(11,.lst Aq x2),(59,.bool x3)],[.var (U.enc x4),.var (AK.enc x5),.var (U.enc x6),.var (U.enc x7)]⟩
def M1 (x0:List Y) (x1:List AB) (x2:Bool) (x3:O) (x4:Y) (x5 x6:O):Option (O×List Y×List AB):=(if x2=true then (if ([]:List X).length+x4.2.2.2.2.2.length≤68719476736 then ((C_ x3 x4 4).bind fun y9=>(some ((x3.1,x4.2.2.2.1,false,true,false,false,([]:List Int),(([]:List X)++x4.2.2.2.2.2),0,0,0,0,(ByteArray.empty,ByteArray.empty,0),([]:List Int)),y9,x1))) else none) else (some (x6,x0,x1)))
def M2 (x0:List (List Int)) (x1:List Y) (x2:List AB) (x3:Bool) (x4:O) (x5:Y) (x6 x7:O):Option (O×List Y×List AB):=(if 0≤(i64.wrap (x5.2.2.2.1-1)) then (if (i64.wrap (x5.2.2.2.1-1))<(x0.length:Int) then (if (x5.1==3)=true then ((Co (x0.getD (i64.wrap (x5.2.2.2.1-1)).toNat ([]:List Int)) x4.1).bind fun y8=>(if y8=true then (if 0≤(0:Int) then (if 0<((x0.getD (i64.wrap (x5.2.2.2.1-1)).toNat ([]:List Int)).length:Int) then (EN x1 x2 (((x0.getD (i64.wrap (x5.2.2.2.1-1)).toNat ([]:List Int)).getD (0:Int).toNat 0) != x4.1) x4 x5 x6 x7) else none) else none) else (EN x1 x2 false x4 x5 x6 x7))) else (EN x1 x2 false x4 x5 x6 x7)) else none) else none)
def M3 (x0:List (List Int)) (x1:List Y) (x2:List AB) (x3:Bool) (x4:O) (x5:Y) (x6 x7:O):Option (O×List Y×List AB):=(if x3=true then ((IT x4 x5.2.2.2.1).bind fun y7=>(if ([]:List X).length+x4.2.2.2.2.2.2.2.1.length≤68719476736 then (some (y7,([(2,x4.1,x5.2.1,x5.2.2.2.1,0,(([]:List X)++x4.2.2.2.2.2.2.2.1))]:List Y),x2)) else none)) else (IZ x0 x1 x2 x3 x4 x5 x6 x7))
def M4 (x0:List (List Int)) (x1:List Y) (x2:List AB) (x3:Bool) (x4:O) (x5:Y) (x6 x7:O):Option (O×List Y×List AB):=(if (x5.2.2.2.1==x4.2.1)=true then (if 0≤(i64.wrap (x4.2.1-1)) then (if (i64.wrap (x4.2.1-1))<(x0.length:Int) then ((Nd x4 (x0.getD (i64.wrap (x4.2.1-1)).toNat ([]:List Int)) x5).bind fun y5=>(some (y5.1,y5.2.1,y5.2.2))) else none) else none) else (if (x5.1==1)=true then (if (x5.2.2.2.1==(i64.wrap (x4.2.1+1)))=true then (if x4.2.2.2.1=true then (if 0≤(i64.wrap (x4.2.1-1)) then (if (i64.wrap (x4.2.1-1))<(x0.length:Int) then ((Co (x0.getD (i64.wrap (x4.2.1-1)).toNat ([]:List Int)) x4.1).bind fun y6=>(C5 x0 x1 x2 y6 x4 x5 x6 x7)) else none) else none) else (C5 x0 x1 x2 false x4 x5 x6 x7)) else (C5 x0 x1 x2 false x4 x5 x6 x7)) else (C5 x0 x1 x2 false x4 x5 x6 x7)))
def Rb (x0:O) (x1:List (List Int)) (x2:Y):Option (O×List Y×List AB):=((CK x0).bind fun y1=>((EC x0).bind fun y2=>(if (!y2)=false then ((C1 x1).bind fun y3=>(if (!y3)=false then ((PV x2).bind fun y4=>(if (!y4)=false then (if (x2.2.2.1 != x0.1)=false then (if (decide (x2.2.2.2.1<x0.2.1))=false then (if (decide (x2.2.2.2.1>(x1.length:Int)))=false then (if (decide (x0.2.1>(x1.length:Int)))=true then (some (y1,([]:List Y),([]:List AB))) else (M0 x1 ([]:List Y) ([]:List AB) (decide (x0.2.1>(x1.length:Int))) x0 x2 (0,0,false,false,false,false,([]:List Int),([]:List X),0,0,0,0,(ByteArray.empty,ByteArray.empty,0),([]:List Int)) y1)) else (some (y1,([]:List Y),([]:List AB)))) else (some (y1,([]:List Y),([]:List AB)))) else (some (y1,([]:List Y),([]:List AB)))) else (some (y1,([]:List Y),([]:List AB))))) else (some (y1,([]:List Y),([]:List AB))))) else (some (y1,([]:List Y),([]:List AB))))))
theorem Uh:ir M1 EN:=jS (by kernel_rfl)
theorem Ui:gS M2 IZ:=jS (by kernel_rfl)
theorem Uj:gS M3 C5:=jS (by kernel_rfl)
theorem Uk:gS M4 M0:=jS (by kernel_rfl)
theorem Zo:XU Rb Lb:=cT BA rfl ⟨rfl,rfl⟩ (by kernel_rfl)
def HO (x0:Bool) (x1:O):Option Bool:=cG MT (AH EA) (AH EA) kx ⟨[(1,.ptr 0 0),(30,.bool x0)],[.var (U.enc x1)]⟩
def Lo (x0:Bool) (x1:O):Option Bool:=(if x1.2.2.2.2.2.1=true then (if (!x1.2.2.2.1)=false then (if (!x1.2.2.2.2.1)=false then (if (decide ((x1.2.2.2.2.2.2.1.length:Int)>0))=false then (if x1.2.2.1=true then (if x1.2.2.2.1=false then (if x1.2.2.2.2.1=true then (some false) else ((CB x1).bind fun y6=>(some y6.1))) else (some false)) else ((CB x1).bind fun y7=>(some y7.1))) else (some false)) else (some false)) else (some false)) else (if x1.2.2.1=true then (if x1.2.2.2.1=false then (if x1.2.2.2.2.1=true then (some false) else ((CB x1).bind fun y8=>(some y8.1))) else (some false)) else ((CB x1).bind fun y9=>(some y9.1))))
def QN (x0:O):Option Bool:=((Jj x0.1).bind fun y1=>(if (!y1)=false then ((Au x0.2.1 1 9).bind fun y2=>(if (!y2)=false then ((FB x0.2.2.2.2.2.2.1 1 6).bind fun y3=>(if (!y3)=false then ((Et x0.2.2.2.2.2.2.2.1).bind fun y4=>(if (!y4)=false then ((Au x0.2.2.2.2.2.2.2.2.1 0 900).bind fun y5=>(if (!y5)=true then (some false) else (HO (!y5) x0))) else (some false))) else (some false))) else (some false))) else (some false)))
theorem Ta:SX Lo HO:=jS (by kernel_rfl)
theorem X4:SW QN FQ:=cT EA rfl ⟨rfl,rfl⟩ (by kernel_rfl)
def Rc:=cG RO (AH DO) (AH DO) kx
def Zp:=kB [] [1] 1 Rc
def Zq:=kE 0 [] [1] 1 Rc kx
def G_ (x0:Int) (x1:Bool) (x2:Y):Option Bool:=cG RN Zp (AH DO) Zq ⟨[(1,.ptr 0 0),(38,.int .i64 x0),(39,.bool x1)],[.var (AK.enc x2)]⟩
def KR (x0:Bool) (x1:Y):Option Bool:=cG RP (AH DO) (AH DO) kx ⟨[(1,.ptr 0 0),(36,.bool x0)],[.var (AK.enc x1)]⟩
def QO (x0:Int) (x1:Bool) (x2:Y):Option Bool:=(if x1=true then (some true) else (if (x0==5)=true then (some ((x2.2.2.2.2.2.length:Int)==1)) else (some ((x2.2.2.2.2.2.length:Int)==0))))
def QP (x0:Bool) (x1:Y):Option Bool:=(if (x1.1==2)=true then (G_ x1.1 (x1.1==2) x1) else (G_ x1.1 (x1.1==3) x1))
def Ul (x0:Y):Option Bool:=((AN x0.1 1 8).bind fun y1=>(if (!y1)=false then ((AN x0.2.1 1 6).bind fun y2=>(if (!y2)=false then ((AN x0.2.2.1 1 6).bind fun y3=>(if (!y3)=false then ((AN x0.2.2.2.1 1 9).bind fun y4=>(if (!y4)=false then ((AN x0.2.2.2.2.1 0 1000000000).bind fun y5=>(if (!y5)=false then ((CL x0.2.2.2.2.2).bind fun y6=>(if (!y6)=true then (some false) else (KR (!y6) x0))) else (some false))) else (some false))) else (some false))) else (some false))) else (some false)))
theorem X5:XU QO G_:=jS (by kernel_rfl)
theorem X6:SX QP KR:=jS (by kernel_rfl)
theorem cV:SW Ul PV:=cT DO rfl ⟨rfl,rfl⟩ (by kernel_rfl)
def X7:=cG Pp (AH DU) (AH DU) kx
def X8:=kE 0 [] [4] 1 X7 kx
def WN:St→Option (RT (Bi.outs DU)):=lG Po [] [1,4,7,8,9] 1 (AH DU) X8
def GS (x0:ByteArray) (x1:List X) (x2 x3:Int) (x4:X):Option X:=WN ⟨[(1,.str x0),(4,.ptr 0 0),(7,.lst Z x1),(8,.int .i64 x2),(9,.int .i64 x3)],[.var (Z.enc x4)]⟩
def JN (x0:ByteArray) (x1:List X) (x2 x3:Int) (x4:X):Option X:=(if (decide (x3<x2))=true then (if 0≤x3 then (if x3<(x1.length:Int) then (if (((x1.getD x3.toNat (ByteArray.empty,ByteArray.empty,0)).1).toList==x0.toList)=true then (some (x1.getD x3.toNat (ByteArray.empty,ByteArray.empty,0))) else (GS x0 x1 x2 (i64.wrap (x3+1)) x4)) else none) else none) else (some (ByteArray.empty,ByteArray.empty,0)))
def Sz (x0:List X) (x1:ByteArray):Option X:=(GS x1 x0 (x0.length:Int) 0 (ByteArray.empty,ByteArray.empty,0))
theorem OQ:eL JN GS:=lS (by kernel_rfl)
theorem am:SX Sz FW:=cT DU rfl ⟨rfl,rfl⟩ (by kernel_rfl)
def de:=cG XW (AH Hj) (AH Hj) kx
def df:=kE 0 [] [] 0 de kx
def cW:St→Option (RT (Bi.outs Hj)):=lG XV [] [0,1,5] 0 (AH Hj) df
def LA (x0:List Int) (x1 x2:Int):Option Bool:=cW ⟨[(0,.lst (.int .i64) x0),(1,.int .i64 x1),(5,.int .i64 x2)],[]⟩
def PY (x0:List Int) (x1 x2:Int):Option Bool:=(if (decide (x2<(x0.length:Int)))=true then (if 0≤x2 then (if x2<(x0.length:Int) then (if ((x0.getD x2.toNat 0)==x1)=true then (some true) else (LA x0 x1 (i64.wrap (x2+1)))) else none) else none) else (some false))
def bV (x0:List Int) (x1:Int):Option Bool:=(LA x0 x1 0)
theorem Um:XU PY LA:=lS (by kernel_rfl)
theorem gX:SX bV WK:=cT Hj rfl ⟨rfl,rfl⟩ (by kernel_rfl)
def HA (x0:List Int) (x1 x2 x3:O) (x4:X) (x5:List Int) (x6:Y):Option (O×List Y×List AB×Bool):=cG RR (AH Cm) (AH Cm) kx ⟨[(12,.ptr 1 0),(16,.ptr 2 0),(18,.lst (.int .i64) x0),(20,.ptr 5 0)],[.var (U.enc x1),.var (U.enc x2),.var (U.enc x3),.var (Z.enc x4),.frz (.int .i64) x5,.var (AK.enc x6)]⟩
def FR (x0:List (List Int)) (x1 x2:Int) (x3:Bool) (x4 x5 x6:O) (x7:X):Option (O×List Y×List AB×Bool):=cG Pq (AH Cm) (AH Cm) kx ⟨[(1,.lst (.slice (.int .i64)) x0),(2,.int .i64 x1),(3,.int .i64 x2),(6,.ptr 0 0),(12,.ptr 1 0),(16,.ptr 2 0),(17,.ptr 3 0),(69,.bool x3)],[.var (U.enc x4),.var (U.enc x5),.var (U.enc x6),.var (Z.enc x7)]⟩
def QQ (x0:List (List Int)) (x1 x2:Int) (x3 x4:ByteArray) (x5:Bool) (x6 x7:O):Option (O×List Y×List AB×Bool):=cG Pr (AH Cm) (AH Cm) kx ⟨[(1,.lst (.slice (.int .i64)) x0),(2,.int .i64 x1),(3,.int .i64 x2),(4,.str x3),(5,.str x4),(6,.ptr 0 0),(12,.ptr 1 0),(37,.bool x5)],[.var (U.enc x6),.var (U.enc x7)]⟩
def QR (x0:List Int) (x1 x2 x3:O) (x4:X) (x5:List Int) (x6:Y):Option (O×List Y×List AB×Bool):=(if ((x0.length:Int)==0)=true then ((HJ x3).bind fun y9=>(some (y9.2,[],y9.1,true))) else (ge ((D2 x0 x6 x3).bind fun y10=>(some (x3,y10.1,[],true))) ((D2 x0 x6 x3).bind fun y11=>(some (y11.2,y11.1,[],true)))))
def QS (x0:List (List Int)) (x1 x2:Int) (x3:Bool) (x4 x5 x6:O) (x7:X):Option (O×List Y×List AB×Bool):=(if 0≤(i64.wrap (x4.2.1-1)) then (if (i64.wrap (x4.2.1-1))<(x0.length:Int) then ((GB (x0.getD (i64.wrap (x4.2.1-1)).toNat ([]:List Int)) x6).bind fun y6=>((CM y6.1).bind fun y7=>((CY y7).bind fun y8=>(if (x1==1)=true then (HA y6.1 x4 x5 (y6.2.1,y6.2.2.1,y6.2.2.2.1,y6.2.2.2.2.1,y6.2.2.2.2.2.1,y6.2.2.2.2.2.2.1,y6.2.2.2.2.2.2.2.1,y6.2.2.2.2.2.2.2.2.1,y6.2.2.2.2.2.2.2.2.2.1,x1,x2,y6.2.2.2.2.2.2.2.2.2.1,x7,y8) x7 y8 (5,0,0,0,y6.2.2.2.2.2.2.2.2.2.1,([x7]:List X))) else (HA y6.1 x4 x5 (y6.2.1,y6.2.2.1,y6.2.2.2.1,y6.2.2.2.2.1,y6.2.2.2.2.2.1,y6.2.2.2.2.2.2.1,y6.2.2.2.2.2.2.2.1,y6.2.2.2.2.2.2.2.2.1,y6.2.2.2.2.2.2.2.2.2.1,x1,x2,y6.2.2.2.2.2.2.2.2.2.1,x7,y8) x7 y8 (7,0,0,0,y6.2.2.2.2.2.2.2.2.2.1,([]:List X))))))) else none) else none)
def QT (x0:List (List Int)) (x1 x2:Int) (x3 x4:ByteArray) (x5:Bool) (x6 x7:O):Option (O×List Y×List AB×Bool):=((Fm x6).bind fun y4=>(if (x1==1)=true then (if ((x6.2.2.2.2.2.2.2.1.length:Int)==12)=true then ((FW x6.2.2.2.2.2.2.2.1 x3).bind fun y5=>(if (false != Nn Z y5 (ByteArray.empty,ByteArray.empty,0))=true then (some ((0,0,false,false,false,false,([]:List Int),([]:List X),0,0,0,0,(ByteArray.empty,ByteArray.empty,0),([]:List Int)),[],[],false)) else (FR x0 x1 x2 (false != Nn Z y5 (ByteArray.empty,ByteArray.empty,0)) x6 x7 (y4.1,y4.2.1,y4.2.2.1,y4.2.2.2.1,y4.2.2.2.2.1,y4.2.2.2.2.2.1,y4.2.2.2.2.2.2.1,y4.2.2.2.2.2.2.2.1,(i64.wrap (y4.2.2.2.2.2.2.2.2.1+1)),y4.2.2.2.2.2.2.2.2.2) (x3,x4,(i64.wrap ((i64.wrap (1000*x6.2.1))+(i64.wrap (y4.2.2.2.2.2.2.2.2.1+1)))))))) else (FR x0 x1 x2 false x6 x7 (y4.1,y4.2.1,y4.2.2.1,y4.2.2.2.1,y4.2.2.2.2.1,y4.2.2.2.2.2.1,y4.2.2.2.2.2.2.1,y4.2.2.2.2.2.2.2.1,(i64.wrap (y4.2.2.2.2.2.2.2.2.1+1)),y4.2.2.2.2.2.2.2.2.2) (x3,x4,(i64.wrap ((i64.wrap (1000*x6.2.1))+(i64.wrap (y4.2.2.2.2.2.2.2.2.1+1))))))) else (FR x0 x1 x2 false x6 x7 (y4.1,y4.2.1,y4.2.2.1,y4.2.2.2.1,y4.2.2.2.2.1,y4.2.2.2.2.2.1,y4.2.2.2.2.2.2.1,y4.2.2.2.2.2.2.2.1,(i64.wrap (y4.2.2.2.2.2.2.2.2.1+1)),y4.2.2.2.2.2.2.2.2.2) (x3,x4,(i64.wrap ((i64.wrap (1000*x6.2.1))+(i64.wrap (y4.2.2.2.2.2.2.2.2.1+1))))))))
def Un (x0:O) (x1:List (List Int)) (x2 x3:Int) (x4 x5:ByteArray):Option (O×List Y×List AB×Bool):=((FQ x0).bind fun y1=>(if (!y1)=false then ((FC x1 x0).bind fun y2=>(if (!y2.1)=false then ((PW x2 x3 x4 x5).bind fun y3=>(if (!y3)=true then (some ((0,0,false,false,false,false,([]:List Int),([]:List X),0,0,0,0,(ByteArray.empty,ByteArray.empty,0),([]:List Int)),[],[],false)) else (QQ x1 x2 x3 x4 x5 (!y3) y2.2 (0,0,false,false,false,false,([]:List Int),([]:List X),0,0,0,0,(ByteArray.empty,ByteArray.empty,0),([]:List Int))))) else (some ((0,0,false,false,false,false,([]:List Int),([]:List X),0,0,0,0,(ByteArray.empty,ByteArray.empty,0),([]:List Int)),[],[],false)))) else (some ((0,0,false,false,false,false,([]:List Int),([]:List X),0,0,0,0,(ByteArray.empty,ByteArray.empty,0),([]:List Int)),[],[],false))))
theorem X9:ir QR HA:=jS (by kernel_rfl)
theorem X_:gS QS FR:=jS (by kernel_rfl)
theorem YA:gS QT QQ:=jS (by kernel_rfl)
theorem cX:iS Un K7:=cT Cm rfl ⟨rfl,rfl⟩ (by kernel_rfl)
def Rd:=cG GA (AH Al) (AH Al) kx
def GD:=kE 0 [] [2,5] 3 Rd kx
def I6:St→Option (RT (Bi.outs Al)):=lG Jv [] [2,4,5,6] 3 (AH Al) GD
def Re:=kB [] [2,4,5,6] 3 I6
def J8:=cG Ju Re (AH Al) GD
def Rf:=kB [] [2,4,5,6] 3 J8
def Rg:=kE 1 [] [2,4,5,6] 3 J8 GD
def CZ (x0:Int) (x1:Bool) (x2:O) (x3:AD) (x4:AG):Option (O×List (List Int)):=cG Jt Rf (AH Al) Rg ⟨[(2,.ptr 0 0),(4,.ptr 1 0),(5,.ptr 2 0),(6,.int .i64 x0),(40,.bool x1)],[.var (U.enc x2),.var (Aa.enc x3),.var (AS.enc x4)]⟩
def Fb (x0:O) (x1:AD) (x2:AG):Option (O×List (List Int)):=cG GA (AH Al) (AH Al) kx ⟨[(2,.ptr 0 0),(5,.ptr 2 0)],[.var (U.enc x0),.var (Aa.enc x1),.var (AS.enc x2)]⟩
def D3 (x0:Int) (x1:O) (x2:AD) (x3:AG):Option (O×List (List Int)):=I6 ⟨[(2,.ptr 0 0),(4,.ptr 1 0),(5,.ptr 2 0),(6,.int .i64 x0)],[.var (U.enc x1),.var (Aa.enc x2),.var (AS.enc x3)]⟩
def Fc (x0:Int) (x1:Bool) (x2:O) (x3:AD) (x4:AG):Option (O×List (List Int)):=(if x1=true then (if 0≤x0 then (if x0<(x4.2.1.length:Int) then (some (x4.2.1.getD x0.toNat (0,0,false,false,false,false,([]:List Int),([]:List X),0,0,0,0,(ByteArray.empty,ByteArray.empty,0),([]:List Int)),x4.1)) else none) else none) else (D3 (i64.wrap (x0+1)) x2 x3 x4))
def I7 (x0:O) (x1:AD) (x2:AG):Option (O×List (List Int)):=(if 0≤(0:Int) then (if 0<(x2.1.length:Int) then (if 0≤(0:Int) then (if 0<((x2.1.getD (0:Int).toNat ([]:List Int)).length:Int) then ((Eu ((x2.1.getD (0:Int).toNat ([]:List Int)).getD (0:Int).toNat 0) x2.1).bind fun y4=>(some (y4.1,x2.1))) else none) else none) else none) else none)
def Ca (x0:Int) (x1:O) (x2:AD) (x3:AG):Option (O×List (List Int)):=(if (decide (x0<(x3.2.1.length:Int)))=true then (if 0≤x0 then (if x0<(x3.2.1.length:Int) then (if (((((((x3.2.1.getD x0.toNat (0,0,false,false,false,false,([]:List Int),([]:List X),0,0,0,0,(ByteArray.empty,ByteArray.empty,0),([]:List Int))).2).2).2).2).2).1)=true then (if 0≤x0 then (if x0<(x3.2.1.length:Int) then (if ((((((((((((x3.2.1.getD x0.toNat (0,0,false,false,false,false,([]:List Int),([]:List X),0,0,0,0,(ByteArray.empty,ByteArray.empty,0),([]:List Int))).2).2).2).2).2).2).2).2).2).1)==0)=false then ((Bz 4 x2).bind fun y3=>(CZ x0 y3.1 x1 y3.2 x3)) else (CZ x0 true x1 x2 x3)) else none) else none) else (CZ x0 false x1 x2 x3)) else none) else none) else (Fb x1 x2 x3))
def Lq (x0:List Int):Option (O×List (List Int)):=((Nc x0).bind fun y1=>((KK x0 y1).bind fun y2=>(D3 0 (0,0,false,false,false,false,([]:List Int),([]:List X),0,0,0,0,(ByteArray.empty,ByteArray.empty,0),([]:List Int)) y2.2 y2.1)))
theorem I8:eL Fc CZ:=jS (by kernel_rfl)
theorem Qw:XU I7 Fb:=jS (by kernel_rfl)
theorem D4:cH Ca D3:=lS (by kernel_rfl)
theorem Tb:SW Lq HI:=cT Al rfl ⟨rfl,rfl⟩ (by kernel_rfl)
def Rh:=cG N4 (AH BG) (AH BG) kx
def Zr:=kE 0 [(16,2)] [12,16,17,18] 6 Rh kx
def YB:St→Option (RT (Bi.outs BG)):=lG JJ [(16,2)] [2,6,12,16,17,18,19,20,21] 6 (AH BG) Zr
def Zs:=kE 0 [(16,2)] [12,16,17,18] 5 Rh kx
def YC:St→Option (RT (Bi.outs BG)):=lG JJ [(16,2)] [2,6,12,16,17,18,19,20,21] 5 (AH BG) Zs
def DA (x0:Int) (x1:List AB) (x2:List Int) (x3:Int) (x4 x5:O) (x6:List Y) (x7:O) (x8:X) (x9:List X):Option (O×List Y×List AB×Bool):=YB ⟨[(2,.int .i64 x0),(6,.ptr 0 0),(12,.ptr 1 0),(16,.row 2),(17,.lst Aq x1),(18,.ptr 3 0),(19,.ptr 4 0),(20,.lst (.int .i64) x2),(21,.int .i64 x3)],[.var (U.enc x4),.var (U.enc x5),.rows 34 AK x6,.var (U.enc x7),.var (Z.enc x8),.rows 27 Z x9]⟩
def KS (x0:List (List Int)) (x1 x2:Int) (x3:List AB) (x4:Bool) (x5 x6:O) (x7:List Y) (x8:O) (x9:X) (x10:List X):Option (O×List Y×List AB×Bool):=cG JK (AH BG) (AH BG) kx ⟨[(1,.lst (.slice (.int .i64)) x0),(2,.int .i64 x1),(3,.int .i64 x2),(6,.ptr 0 0),(12,.ptr 1 0),(16,.row 2),(17,.lst Aq x3),(18,.ptr 3 0),(19,.ptr 4 0),(130,.bool x4)],[.var (U.enc x5),.var (U.enc x6),.rows 34 AK x7,.var (U.enc x8),.var (Z.enc x9),.rows 27 Z x10]⟩
def DB (x0:Int) (x1:List AB) (x2:List Int) (x3:Int) (x4 x5:O) (x6:List Y) (x7:O) (x8:X):Option (O×List Y×List AB×Bool):=YC ⟨[(2,.int .i64 x0),(6,.ptr 0 0),(12,.ptr 1 0),(16,.row 2),(17,.lst Aq x1),(18,.ptr 3 0),(19,.ptr 4 0),(20,.lst (.int .i64) x2),(21,.int .i64 x3)],[.var (U.enc x4),.var (U.enc x5),.rows 34 AK x6,.var (U.enc x7),.var (Z.enc x8)]⟩
def KT (x0:List (List Int)) (x1 x2:Int) (x3:List AB) (x4:Bool) (x5 x6:O) (x7:List Y) (x8:O) (x9:X):Option (O×List Y×List AB×Bool):=cG JK (AH BG) (AH BG) kx ⟨[(1,.lst (.slice (.int .i64)) x0),(2,.int .i64 x1),(3,.int .i64 x2),(6,.ptr 0 0),(12,.ptr 1 0),(16,.row 2),(17,.lst Aq x3),(18,.ptr 3 0),(19,.ptr 4 0),(130,.bool x4)],[.var (U.enc x5),.var (U.enc x6),.rows 34 AK x7,.var (U.enc x8),.var (Z.enc x9)]⟩
def B4 (x0:List (List Int)) (x1 x2:Int) (x3 x4:ByteArray) (x5:List AB) (x6:Bool) (x7 x8:O) (x9:List Y):Option (O×List Y×List AB×Bool):=cG N5 (AH BG) (AH BG) kx ⟨[(1,.lst (.slice (.int .i64)) x0),(2,.int .i64 x1),(3,.int .i64 x2),(4,.str x3),(5,.str x4),(6,.ptr 0 0),(12,.ptr 1 0),(16,.row 2),(17,.lst Aq x5),(100,.bool x6)],[.var (U.enc x7),.var (U.enc x8),.rows 34 AK x9]⟩
def KU (x0:Int) (x1:List AB) (x2:List Int) (x3:Int) (x4 x5:O) (x6:List Y) (x7:O) (x8:X) (x9:List X):Option (O×List Y×List AB×Bool):=(if (decide (x3<(x2.length:Int)))=true then (if 0≤x3 then (if x3<(x2.length:Int) then (if ((x2.getD x3.toNat 0)==x4.1)=true then (DA x0 x1 x2 (i64.wrap (x3+1)) x4 x5 x6 x7 x8 x9) else (if 0≤x3 then (if x3<(x2.length:Int) then (if (x0==1)=true then (if x6.length+([(5,x4.1,(x2.getD x3.toNat 0),x4.2.1,x7.2.2.2.2.2.2.2.2.1,([x8]:List X))]:List Y).length≤68719476736 then (DA x0 x1 x2 (i64.wrap (x3+1)) x4 x5 (x6++([(5,x4.1,(x2.getD x3.toNat 0),x4.2.1,x7.2.2.2.2.2.2.2.2.1,([x8]:List X))]:List Y)) x7 x8 x9) else none) else (if x6.length+([(7,x4.1,(x2.getD x3.toNat 0),x4.2.1,x7.2.2.2.2.2.2.2.2.1,([]:List X))]:List Y).length≤68719476736 then (DA x0 x1 x2 (i64.wrap (x3+1)) x4 x5 (x6++([(7,x4.1,(x2.getD x3.toNat 0),x4.2.1,x7.2.2.2.2.2.2.2.2.1,([]:List X))]:List Y)) x7 x8 x9) else none)) else none) else none)) else none) else none) else (some (x7,x6,x1,true)))
def QU (x0:List (List Int)) (x1 x2:Int) (x3:List AB) (x4:Bool) (x5 x6:O) (x7:List Y) (x8:O) (x9:X) (x10:List X):Option (O×List Y×List AB×Bool):=(if 0≤(i64.wrap (x5.2.1-1)) then (if (i64.wrap (x5.2.1-1))<(x0.length:Int) then ((Ew (x0.getD (i64.wrap (x5.2.1-1)).toNat ([]:List Int)) x5.1).bind fun y8=>(if ((y8.length:Int)==0)=true then ((Ex (x8.1,x8.2.1,x8.2.2.1,x8.2.2.2.1,x8.2.2.2.2.1,x8.2.2.2.2.2.1,x8.2.2.2.2.2.2.1,x8.2.2.2.2.2.2.2.1,x8.2.2.2.2.2.2.2.2.1,x1,x2,x8.2.2.2.2.2.2.2.2.1,x9,y8)).bind fun y9=>(some (y9.2,x7,y9.1,true))) else (DA x1 x3 (x0.getD (i64.wrap (x5.2.1-1)).toNat ([]:List Int)) 0 x5 x6 x7 (x8.1,x8.2.1,x8.2.2.1,x8.2.2.2.1,x8.2.2.2.2.1,x8.2.2.2.2.2.1,x8.2.2.2.2.2.2.1,x8.2.2.2.2.2.2.2.1,x8.2.2.2.2.2.2.2.2.1,x1,x2,x8.2.2.2.2.2.2.2.2.1,x9,y8) x9 x10))) else none) else none)
def KV (x0:Int) (x1:List AB) (x2:List Int) (x3:Int) (x4 x5:O) (x6:List Y) (x7:O) (x8:X):Option (O×List Y×List AB×Bool):=(if (decide (x3<(x2.length:Int)))=true then (if 0≤x3 then (if x3<(x2.length:Int) then (if ((x2.getD x3.toNat 0)==x4.1)=true then (DB x0 x1 x2 (i64.wrap (x3+1)) x4 x5 x6 x7 x8) else (if 0≤x3 then (if x3<(x2.length:Int) then (if (x0==1)=true then (if x6.length+([(5,x4.1,(x2.getD x3.toNat 0),x4.2.1,x7.2.2.2.2.2.2.2.2.1,([x8]:List X))]:List Y).length≤68719476736 then (DB x0 x1 x2 (i64.wrap (x3+1)) x4 x5 (x6++([(5,x4.1,(x2.getD x3.toNat 0),x4.2.1,x7.2.2.2.2.2.2.2.2.1,([x8]:List X))]:List Y)) x7 x8) else none) else (if x6.length+([(7,x4.1,(x2.getD x3.toNat 0),x4.2.1,x7.2.2.2.2.2.2.2.2.1,([]:List X))]:List Y).length≤68719476736 then (DB x0 x1 x2 (i64.wrap (x3+1)) x4 x5 (x6++([(7,x4.1,(x2.getD x3.toNat 0),x4.2.1,x7.2.2.2.2.2.2.2.2.1,([]:List X))]:List Y)) x7 x8) else none)) else none) else none)) else none) else none) else (some (x7,x6,x1,true)))
def QV (x0:List (List Int)) (x1 x2:Int) (x3:List AB) (x4:Bool) (x5 x6:O) (x7:List Y) (x8:O) (x9:X):Option (O×List Y×List AB×Bool):=(if 0≤(i64.wrap (x5.2.1-1)) then (if (i64.wrap (x5.2.1-1))<(x0.length:Int) then ((Ew (x0.getD (i64.wrap (x5.2.1-1)).toNat ([]:List Int)) x5.1).bind fun y10=>(if ((y10.length:Int)==0)=true then ((Ex (x8.1,x8.2.1,x8.2.2.1,x8.2.2.2.1,x8.2.2.2.2.1,x8.2.2.2.2.2.1,x8.2.2.2.2.2.2.1,x8.2.2.2.2.2.2.2.1,x8.2.2.2.2.2.2.2.2.1,x1,x2,x8.2.2.2.2.2.2.2.2.1,x9,y10)).bind fun y11=>(some (y11.2,x7,y11.1,true))) else (DB x1 x3 (x0.getD (i64.wrap (x5.2.1-1)).toNat ([]:List Int)) 0 x5 x6 x7 (x8.1,x8.2.1,x8.2.2.1,x8.2.2.2.1,x8.2.2.2.2.1,x8.2.2.2.2.2.1,x8.2.2.2.2.2.2.1,x8.2.2.2.2.2.2.2.1,x8.2.2.2.2.2.2.2.2.1,x1,x2,x8.2.2.2.2.2.2.2.2.1,x9,y10) x9))) else none) else none)
def QW (x0:List (List Int)) (x1 x2:Int) (x3 x4:ByteArray) (x5:List AB) (x6:Bool) (x7 x8:O) (x9:List Y):Option (O×List Y×List AB×Bool):=((CK x7).bind fun y5=>(if (x1==1)=true then ((GC x7.2.2.2.2.2.2.2.1 (x3,x4,(i64.wrap ((i64.wrap (1000*x7.2.1))+(i64.wrap (x7.2.2.2.2.2.2.2.2.1+1)))))).bind fun y6=>((Jk y6 x3).bind fun y7=>(if (true != Nn Z y7 (x3,x4,(i64.wrap ((i64.wrap (1000*x7.2.1))+(i64.wrap (x7.2.2.2.2.2.2.2.2.1+1))))))=true then (some ((0,0,false,false,false,false,([]:List Int),([]:List X),0,0,0,0,(ByteArray.empty,ByteArray.empty,0),([]:List Int)),x9,x5,false)) else (KS x0 x1 x2 x5 (true != Nn Z y7 (x3,x4,(i64.wrap ((i64.wrap (1000*x7.2.1))+(i64.wrap (x7.2.2.2.2.2.2.2.2.1+1)))))) x7 x8 x9 (y5.1,y5.2.1,y5.2.2.1,y5.2.2.2.1,y5.2.2.2.2.1,y5.2.2.2.2.2.1,y5.2.2.2.2.2.2.1,y5.2.2.2.2.2.2.2.1,(i64.wrap (x7.2.2.2.2.2.2.2.2.1+1)),y5.2.2.2.2.2.2.2.2.2) (x3,x4,(i64.wrap ((i64.wrap (1000*x7.2.1))+(i64.wrap (x7.2.2.2.2.2.2.2.2.1+1))))) y6)))) else (KT x0 x1 x2 x5 false x7 x8 x9 (y5.1,y5.2.1,y5.2.2.1,y5.2.2.2.1,y5.2.2.2.2.1,y5.2.2.2.2.2.1,y5.2.2.2.2.2.2.1,y5.2.2.2.2.2.2.2.1,(i64.wrap (x7.2.2.2.2.2.2.2.2.1+1)),y5.2.2.2.2.2.2.2.2.2) (x3,x4,(i64.wrap ((i64.wrap (1000*x7.2.1))+(i64.wrap (x7.2.2.2.2.2.2.2.2.1+1))))))))
def Uo (x0:O) (x1:List (List Int)) (x2 x3:Int) (x4 x5:ByteArray):Option (O×List Y×List AB×Bool):=((EC x0).bind fun y1=>(if (!y1)=true then (some ((0,0,false,false,false,false,([]:List Int),([]:List X),0,0,0,0,(ByteArray.empty,ByteArray.empty,0),([]:List Int)),([]:List Y),([]:List AB),false)) else ((C1 x1).bind fun y2=>(if (!y2)=true then (some ((0,0,false,false,false,false,([]:List Int),([]:List X),0,0,0,0,(ByteArray.empty,ByteArray.empty,0),([]:List Int)),([]:List Y),([]:List AB),false)) else (if (!x0.2.2.2.2.2.1)=true then (some ((0,0,false,false,false,false,([]:List Int),([]:List X),0,0,0,0,(ByteArray.empty,ByteArray.empty,0),([]:List Int)),([]:List Y),([]:List AB),false)) else (if (x0.2.2.2.2.2.2.2.2.2.1 != 0)=true then (some ((0,0,false,false,false,false,([]:List Int),([]:List X),0,0,0,0,(ByteArray.empty,ByteArray.empty,0),([]:List Int)),([]:List Y),([]:List AB),false)) else (if (decide (x0.2.2.2.2.2.2.2.2.1≥900))=true then (some ((0,0,false,false,false,false,([]:List Int),([]:List X),0,0,0,0,(ByteArray.empty,ByteArray.empty,0),([]:List Int)),([]:List Y),([]:List AB),false)) else (if (x2 != 1)=true then (if (x2 != 2)=true then (some ((0,0,false,false,false,false,([]:List Int),([]:List X),0,0,0,0,(ByteArray.empty,ByteArray.empty,0),([]:List Int)),([]:List Y),([]:List AB),false)) else ((AN x3 0 1000).bind fun y3=>(if (!y3)=true then (some ((0,0,false,false,false,false,([]:List Int),([]:List X),0,0,0,0,(ByteArray.empty,ByteArray.empty,0),([]:List Int)),([]:List Y),([]:List AB),false)) else ((AN (x4.size:Int) 1 12).bind fun y4=>(if (!y4)=true then (some ((0,0,false,false,false,false,([]:List Int),([]:List X),0,0,0,0,(ByteArray.empty,ByteArray.empty,0),([]:List Int)),([]:List Y),([]:List AB),false)) else (if (decide ((x5.size:Int)>20))=true then (some ((0,0,false,false,false,false,([]:List Int),([]:List X),0,0,0,0,(ByteArray.empty,ByteArray.empty,0),([]:List Int)),([]:List Y),([]:List AB),false)) else (if (x2==2)=true then (if (!(x5.toList==(⟨#[]⟩:ByteArray).toList))=true then (some ((0,0,false,false,false,false,([]:List Int),([]:List X),0,0,0,0,(ByteArray.empty,ByteArray.empty,0),([]:List Int)),([]:List Y),([]:List AB),false)) else (if (decide (x0.2.1>(x1.length:Int)))=true then (some ((0,0,false,false,false,false,([]:List Int),([]:List X),0,0,0,0,(ByteArray.empty,ByteArray.empty,0),([]:List Int)),([]:List Y),([]:List AB),false)) else (if 0≤(i64.wrap (x0.2.1-1)) then (if (i64.wrap (x0.2.1-1))<(x1.length:Int) then (if 0≤(0:Int) then (if 0<((x1.getD (i64.wrap (x0.2.1-1)).toNat ([]:List Int)).length:Int) then (if (((x1.getD (i64.wrap (x0.2.1-1)).toNat ([]:List Int)).getD (0:Int).toNat 0) != x0.1)=true then (some ((0,0,false,false,false,false,([]:List Int),([]:List X),0,0,0,0,(ByteArray.empty,ByteArray.empty,0),([]:List Int)),([]:List Y),([]:List AB),false)) else (B4 x1 x2 x3 x4 x5 ([]:List AB) (((x1.getD (i64.wrap (x0.2.1-1)).toNat ([]:List Int)).getD (0:Int).toNat 0) != x0.1) x0 (0,0,false,false,false,false,([]:List Int),([]:List X),0,0,0,0,(ByteArray.empty,ByteArray.empty,0),([]:List Int)) ([]:List Y))) else none) else none) else none) else none))) else (if (decide (x0.2.1>(x1.length:Int)))=true then (some ((0,0,false,false,false,false,([]:List Int),([]:List X),0,0,0,0,(ByteArray.empty,ByteArray.empty,0),([]:List Int)),([]:List Y),([]:List AB),false)) else (if 0≤(i64.wrap (x0.2.1-1)) then (if (i64.wrap (x0.2.1-1))<(x1.length:Int) then (if 0≤(0:Int) then (if 0<((x1.getD (i64.wrap (x0.2.1-1)).toNat ([]:List Int)).length:Int) then (if (((x1.getD (i64.wrap (x0.2.1-1)).toNat ([]:List Int)).getD (0:Int).toNat 0) != x0.1)=true then (some ((0,0,false,false,false,false,([]:List Int),([]:List X),0,0,0,0,(ByteArray.empty,ByteArray.empty,0),([]:List Int)),([]:List Y),([]:List AB),false)) else (B4 x1 x2 x3 x4 x5 ([]:List AB) (((x1.getD (i64.wrap (x0.2.1-1)).toNat ([]:List Int)).getD (0:Int).toNat 0) != x0.1) x0 (0,0,false,false,false,false,([]:List Int),([]:List X),0,0,0,0,(ByteArray.empty,ByteArray.empty,0),([]:List Int)) ([]:List Y))) else none) else none) else none) else none))))))))) else ((AN x3 0 1000).bind fun y12=>(if (!y12)=true then (some ((0,0,false,false,false,false,([]:List Int),([]:List X),0,0,0,0,(ByteArray.empty,ByteArray.empty,0),([]:List Int)),([]:List Y),([]:List AB),false)) else ((AN (x4.size:Int) 1 12).bind fun y13=>(if (!y13)=true then (some ((0,0,false,false,false,false,([]:List Int),([]:List X),0,0,0,0,(ByteArray.empty,ByteArray.empty,0),([]:List Int)),([]:List Y),([]:List AB),false)) else (if (decide ((x5.size:Int)>20))=true then (some ((0,0,false,false,false,false,([]:List Int),([]:List X),0,0,0,0,(ByteArray.empty,ByteArray.empty,0),([]:List Int)),([]:List Y),([]:List AB),false)) else (if (x2==2)=true then (if (!(x5.toList==(⟨#[]⟩:ByteArray).toList))=true then (some ((0,0,false,false,false,false,([]:List Int),([]:List X),0,0,0,0,(ByteArray.empty,ByteArray.empty,0),([]:List Int)),([]:List Y),([]:List AB),false)) else (if (decide (x0.2.1>(x1.length:Int)))=true then (some ((0,0,false,false,false,false,([]:List Int),([]:List X),0,0,0,0,(ByteArray.empty,ByteArray.empty,0),([]:List Int)),([]:List Y),([]:List AB),false)) else (if 0≤(i64.wrap (x0.2.1-1)) then (if (i64.wrap (x0.2.1-1))<(x1.length:Int) then (if 0≤(0:Int) then (if 0<((x1.getD (i64.wrap (x0.2.1-1)).toNat ([]:List Int)).length:Int) then (if (((x1.getD (i64.wrap (x0.2.1-1)).toNat ([]:List Int)).getD (0:Int).toNat 0) != x0.1)=true then (some ((0,0,false,false,false,false,([]:List Int),([]:List X),0,0,0,0,(ByteArray.empty,ByteArray.empty,0),([]:List Int)),([]:List Y),([]:List AB),false)) else (B4 x1 x2 x3 x4 x5 ([]:List AB) (((x1.getD (i64.wrap (x0.2.1-1)).toNat ([]:List Int)).getD (0:Int).toNat 0) != x0.1) x0 (0,0,false,false,false,false,([]:List Int),([]:List X),0,0,0,0,(ByteArray.empty,ByteArray.empty,0),([]:List Int)) ([]:List Y))) else none) else none) else none) else none))) else (if (decide (x0.2.1>(x1.length:Int)))=true then (some ((0,0,false,false,false,false,([]:List Int),([]:List X),0,0,0,0,(ByteArray.empty,ByteArray.empty,0),([]:List Int)),([]:List Y),([]:List AB),false)) else (if 0≤(i64.wrap (x0.2.1-1)) then (if (i64.wrap (x0.2.1-1))<(x1.length:Int) then (if 0≤(0:Int) then (if 0<((x1.getD (i64.wrap (x0.2.1-1)).toNat ([]:List Int)).length:Int) then (if (((x1.getD (i64.wrap (x0.2.1-1)).toNat ([]:List Int)).getD (0:Int).toNat 0) != x0.1)=true then (some ((0,0,false,false,false,false,([]:List Int),([]:List X),0,0,0,0,(ByteArray.empty,ByteArray.empty,0),([]:List Int)),([]:List Y),([]:List AB),false)) else (B4 x1 x2 x3 x4 x5 ([]:List AB) (((x1.getD (i64.wrap (x0.2.1-1)).toNat ([]:List Int)).getD (0:Int).toNat 0) != x0.1) x0 (0,0,false,false,false,false,([]:List Int),([]:List X),0,0,0,0,(ByteArray.empty,ByteArray.empty,0),([]:List Int)) ([]:List Y))) else none) else none) else none) else none))))))))))))))))
theorem QX:kV KU DA:=lS (by kernel_rfl)
theorem YD:lX QU KS:=jS (by kernel_rfl)
theorem QY:km KV DB:=lS (by kernel_rfl)
theorem YE:kV QV KT:=jS (by kernel_rfl)
theorem YF:kV QW B4:=jS (by kernel_rfl)
theorem cY:iS Uo K8:=cT BG rfl ⟨rfl,rfl⟩ (by kernel_rfl)
def YG:=cG P4 (AH Cn) (AH Cn) kx
def QZ:=kE 0 [] [0,3] 0 YG kx
def OR:St→Option (RT (Bi.outs Cn)):=lG P3 [] [0,3,4] 0 (AH Cn) QZ
def YH:=kB [] [0,3,4] 0 OR
def OS (x0:List Int) (x1 x2:Int) (x3:Bool):Option AD:=cG P2 YH (AH Cn) QZ ⟨[(0,.lst (.int .u8) x0),(3,.int .i64 x1),(4,.int .i64 x2),(15,.bool x3)],[]⟩
def GT (x0:List Int) (x1 x2:Int):Option AD:=OR ⟨[(0,.lst (.int .u8) x0),(3,.int .i64 x1),(4,.int .i64 x2)],[]⟩
def OT (x0:List Int) (x1 x2:Int) (x3:Bool):Option AD:=(if 0≤x2 then (if x2<(x0.length:Int) then (GT x0 (Hv .i64 (i64.wrap ((i64.wrap ((i64.wrap (x1*131))+(i64.wrap (x0.getD x2.toNat 0))))+7)) 1073741823) (i64.wrap (x2+1))) else none) else none)
def GU (x0:List Int) (x1 x2:Int):Option AD:=(if (decide (x2<(x0.length:Int)))=true then (if (decide (x2<4000))=true then (OS x0 x1 x2 (decide (x2<4000))) else (some (x0,0,x1))) else (some (x0,0,x1)))
def an (x0:List Int):Option AD:=(GT x0 (i64.wrap (14301+(x0.length:Int))) 0)
theorem WO:cH OT OS:=jS (by kernel_rfl)
theorem JO:XU GU GT:=lS (by kernel_rfl)
theorem aq:SW an Nc:=cT Cn rfl ⟨rfl,rfl⟩ (by kernel_rfl)
def Qa (x1:List Int) (b0:AD):Option (AG×AD):=((Lc x1 b0).bind fun y1=>((KL y1.1.1 y1.1.2).bind fun y2=>(some (y2.1,y1.2))))
theorem YI:SX Qa KK:=cT G2 rfl ⟨rfl,rfl⟩ (by kernel_rfl)
def KW (x1:Int) (b0:AD):Option (Int×AD):=(if (decide (x1≤0))=true then (some (0,b0)) else (if (decide (x1≤256))=true then ((Dp b0).bind fun y1=>(if x1=0 then none else (some ((Int.tmod y1.1 x1),y1.2)))) else ((Dp b0).bind fun y2=>((Dp y2.2).bind fun y3=>((Dp y3.2).bind fun y4=>((Dp y4.2).bind fun y5=>(if x1=0 then none else (some ((Int.tmod (i64.wrap ((i64.wrap ((i64.wrap ((i64.wrap (y2.1*16777216))+(i64.wrap (y3.1*65536))))+(i64.wrap (y4.1*256))))+y5.1)) x1),y5.2)))))))))
theorem YJ:SX KW Bq:=cT G3 rfl ⟨rfl,rfl⟩ (by kernel_rfl)
def Up (x0 x1 x2:Int):Option Bool:=(if (decide (x0≥x1))=true then (some (decide (x0≤x2))) else (some false))
theorem cZ:XU Up AN:=cT Kz rfl ⟨rfl,rfl⟩ (by kernel_rfl)
def M5 (x0:O):Option O:=((CM x0.2.2.2.2.2.2.1).bind fun y1=>((Ag x0.2.2.2.2.2.2.2.1).bind fun y2=>((CM x0.2.2.2.2.2.2.2.2.2.2.2.2.2).bind fun y3=>(some (x0.1,x0.2.1,x0.2.2.1,x0.2.2.2.1,x0.2.2.2.2.1,x0.2.2.2.2.2.1,y1,y2,x0.2.2.2.2.2.2.2.2.1,x0.2.2.2.2.2.2.2.2.2.1,x0.2.2.2.2.2.2.2.2.2.2.1,x0.2.2.2.2.2.2.2.2.2.2.2.1,x0.2.2.2.2.2.2.2.2.2.2.2.2.1,y3)))))
theorem Uq:SW M5 Fm:=cT Fk rfl ⟨rfl,rfl⟩ (by kernel_rfl)
def WP:=cG MW (AH BN) (AH BN) kx
def JP:=kE 0 [] [0] 0 WP kx
def M6:St→Option (RT (Bi.outs BN)):=lG MV [] [0,7,8,9] 0 (AH BN) JP
def WQ:=kB [] [0,7,8,9] 0 M6
def OU:=cG MU WQ (AH BN) JP
def OV:=kB [] [0,7,8,9] 0 OU
def JQ:=kE 1 [] [0,7,8,9] 0 OU JP
def WR:=cG JL OV (AH BN) JQ
def WS:=kE 2 [] [0,4,7,8,9] 0 WR JQ
def Ur:St→Option (RT (Bi.outs BN)):=lG N6 [] [0,4,7,8,9,13,14,15] 0 (AH BN) WS
def Ia (x0:List (List Int)) (x1:List Int) (x2:List (List Int)) (x3 x4:Int):Option Bool:=cG JL OV (AH BN) JQ ⟨[(0,.lst (.slice (.int .i64)) x0),(4,.lst (.int .i64) x1),(7,.lst (.slice (.int .i64)) x2),(8,.int .i64 x3),(9,.int .i64 x4)],[]⟩
def Fp (x0:List (List Int)) (x1:List Int) (x2:List (List Int)) (x3 x4:Int) (x5:List Int) (x6 x7:Int):Option Bool:=Ur ⟨[(0,.lst (.slice (.int .i64)) x0),(4,.lst (.int .i64) x1),(7,.lst (.slice (.int .i64)) x2),(8,.int .i64 x3),(9,.int .i64 x4),(13,.lst (.int .i64) x5),(14,.int .i64 x6),(15,.int .i64 x7)],[]⟩
def Fq (x0 x1:List (List Int)) (x2 x3:Int):Option Bool:=M6 ⟨[(0,.lst (.slice (.int .i64)) x0),(7,.lst (.slice (.int .i64)) x1),(8,.int .i64 x2),(9,.int .i64 x3)],[]⟩
def M7 (x0:List (List Int)) (x1:List Int) (x2:List (List Int)) (x3 x4:Int):Option Bool:=((Au (x1.length:Int) 1 4).bind fun y3=>(if (!y3)=true then (some false) else (Fq x0 x2 x3 (i64.wrap (x4+1)))))
def Ib (x0:List (List Int)) (x1:List Int) (x2:List (List Int)) (x3 x4:Int) (x5:List Int) (x6 x7:Int):Option Bool:=(if (decide (x7<x6))=true then (if 0≤x7 then (if x7<(x5.length:Int) then ((Jj (x5.getD x7.toNat 0)).bind fun y1=>(if (!y1)=false then ((FD x1 (x5.getD x7.toNat 0)).bind fun y2=>(if (y2 != x7)=true then (some false) else (Fp x0 x1 x2 x3 x4 x5 x6 (i64.wrap (x7+1))))) else (some false))) else none) else none) else (Ia x0 x1 x2 x3 x4))
def Ic (x0 x1:List (List Int)) (x2 x3:Int):Option Bool:=(if (decide (x3<x2))=true then (if 0≤x3 then (if x3<(x1.length:Int) then (Fp x0 (x1.getD x3.toNat ([]:List Int)) x1 x2 x3 (x1.getD x3.toNat ([]:List Int)) ((x1.getD x3.toNat ([]:List Int)).length:Int) 0) else none) else none) else ((Au (x0.length:Int) 1 9).bind fun y4=>(some y4)))
def Ri (x0:List (List Int)):Option Bool:=(Fq x0 x0 (x0.length:Int) 0)
theorem Us:eL M7 Ia:=jS (by kernel_rfl)
theorem M8:gS Ib Fp:=lS (by kernel_rfl)
theorem M9:cH Ic Fq:=lS (by kernel_rfl)
theorem Zt:SW Ri IS:=cT BN rfl ⟨rfl,rfl⟩ (by kernel_rfl)
def Rj (x0:O):Option O:=(if ([]:List Int).length+x0.2.2.2.2.2.2.1.length≤68719476736 then (if ([]:List X).length+x0.2.2.2.2.2.2.2.1.length≤68719476736 then (if ([]:List Int).length+x0.2.2.2.2.2.2.2.2.2.2.2.2.2.length≤68719476736 then (some (x0.1,x0.2.1,x0.2.2.1,x0.2.2.2.1,x0.2.2.2.2.1,x0.2.2.2.2.2.1,(([]:List Int)++x0.2.2.2.2.2.2.1),(([]:List X)++x0.2.2.2.2.2.2.2.1),x0.2.2.2.2.2.2.2.2.1,x0.2.2.2.2.2.2.2.2.2.1,x0.2.2.2.2.2.2.2.2.2.2.1,x0.2.2.2.2.2.2.2.2.2.2.2.1,x0.2.2.2.2.2.2.2.2.2.2.2.2.1,(([]:List Int)++x0.2.2.2.2.2.2.2.2.2.2.2.2.2))) else none) else none) else none)
theorem Zu:SW Rj CK:=cT IF rfl ⟨rfl,rfl⟩ (by kernel_rfl)
end
end Go.Proofs.YtaedipailemlcaaGreat.Core
